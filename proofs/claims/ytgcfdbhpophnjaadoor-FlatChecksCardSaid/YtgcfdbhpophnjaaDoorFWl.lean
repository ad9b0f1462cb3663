/- A world that holds the laid tables of the group flat, and what the rows' lists of laid variables give. Condition: the row's own. -/
import Derived.Test.YtgcfdbhpophnjaaDoorLib
import Derived.Test.YtgcfdbhpophnjaaDoorForm
import Derived.Test.YtgcfdbhpophnjaaDoorMLd
import Derived.Test.YtgcfdbhpophnjaaDoorRows
import Derived.Test.YtgcfdbhpophnjaaDoorCards
import Derived.Test.YtgcfdbhpophnjaaDoorTie
import Derived.LaidLaws
import Derived.Stop.LaidErr
import Derived.LaidMore
import Derived.LaidHandle
import Derived.ChangeArms
import Derived.OpenShut
import Derived.ShutString
import Derived.SliceStrings
import Derived.SizedLaws
import Derived.ProofKit
import Derived.Carry
import Derived.Deep.DeepHandedRow
import Derived.Deep.DeepWitnessRowRef
set_option linter.unusedVariables false
namespace Go.Proofs.YtgcfdbhpophnjaaDoor
open Go.ChangeShapes Go.WideShapes Go.ChangeAt Go.RowKit
abbrev laidL : List (String × DataW Unit) := [("weephole/prog.keywords", Rows.laid_weephole_prog_keywords), ("weephole/prog.forms", Rows.laid_weephole_prog_forms), ("weephole/flat.shapes", Rows.laid_weephole_flat_shapes)]
theorem ownKnobNone : ownKnob Tryd.prog.godebug = none := by kernel_rfl
noncomputable def laidWorld (os : Os) : World := World.doorLaid Tryd.prog 400 os
set_option maxRecDepth 1000000 in
theorem laid_met (os : Os) (args : Array Value) : laidMet Tryd.prog laidL ((laidWorld os).forCall (fun _ _ => 0) ⟨#[], args, []⟩).memory :=
  laidMet_of_run' 8 (by kernel_rfl) (by kernel_rfl)
set_option maxRecDepth 1000000 in
theorem laidOut_all : laidOutB Tryd.prog = true := by kernel_rfl
theorem gKw : Tryd.prog.globalNamed "weephole/prog.keywords" = some 1 := by kernel_rfl
theorem gFo : Tryd.prog.globalNamed "weephole/prog.forms" = some 2 := by kernel_rfl
theorem tKw : (Tryd.prog.globals[1]?).map (·.type) = some 22 := by kernel_rfl
theorem cStr : Tryd.prog.cellsOf 9 = 1 := by kernel_rfl
def formD {H : Type} (x : Bool × Bool × Int) : DataW H := .agg [.lit (.bool x.1), .lit (.bool x.2.1), .lit (.int .i64 x.2.2)]
theorem formsData {H : Type} : (Rows.laid_weephole_prog_forms : DataW H) = .agg (formL.map formD) := rfl
def strD {H : Type} (s : ByteArray) : DataW H := .lit (.string s.data.toList)
theorem kwData {H : Type} : (Rows.laid_weephole_prog_keywords : DataW H) = .slice (kwL.map strD) [] := by rfl
theorem strD_inj {H : Type} {l m : List ByteArray} (h : (l.map strD : List (DataW H)) = m.map strD) : l = m := by
  refine List.map_inj_right (fun x y e => ?_) |>.1 h
  simp only [strD, DataW.lit.injEq, Lit.string.injEq] at e
  exact ByteArray.ext (Array.toList_inj.1 e)
theorem cBool : Tryd.prog.cellsOf 4 = 1 := by kernel_rfl
theorem cInt : Tryd.prog.cellsOf 3 = 1 := by kernel_rfl
theorem three {α : Type} {l : List α} (h : l.length = 3) : ∃ a b c, l = [a, b, c] := by
  match l, h with
  | [a, b, c], _ => exact ⟨a, b, c, rfl⟩
theorem spot_none {W : World} {a : Addr} {v : Value} (h : W.cell? (a.add 0) = some v) : ∃ b o, a = ⟨b, o, none⟩ := by
  obtain ⟨b, o, sp⟩ := a
  cases sp with
  | none => exact ⟨b, o, rfl⟩
  | some z => simp [World.cell?, Addr.add] at h; split at h <;> simp at h
theorem add_none (b o i : Nat) : (⟨b, o, none⟩ : Addr).add i = ⟨b, o + i, none⟩ := by
  unfold Addr.add
  split
  · rename_i h; subst h; rfl
  · rfl
theorem tFo : (Tryd.prog.globals[2]?).map (·.type) = some 175 := by kernel_rfl
theorem cFields : Tryd.prog.cellsOf 174 = 3 := by kernel_rfl
theorem laid_of {W : World} (h : laidMetH Tryd.prog laidL W) : Laid W := by
  have h : laidMet Tryd.prog laidL W := h
  obtain ⟨ps, ⟨g, t, cs, fuel, p, q, hg, ht, hvar, hd, ⟨g2, t2, cs2, fuel2, p2, q2, hg2, ht2, hvar2, hd2, _, _⟩, _⟩, _⟩ := h
  obtain rfl := Option.some.inj (gKw.symm.trans hg)
  obtain rfl := Option.some.inj (gFo.symm.trans hg2)
  obtain rfl := Option.some.inj (tKw.symm.trans ht)
  refine ⟨?_, ?_⟩
  · rcases open_strings Tryd.underlying22 Tryd.underlying9 cStr hd with ⟨_, e⟩ | ⟨a, len, cap, ss, hcs, _, hlc, _, hss, e, hcell, hsz⟩
    · rw [kwData] at e
      simp at e
    rw [kwData] at e
    simp only [Prod.mk.injEq, DataW.slice.injEq] at e
    have hl : kwL = ss.take len := strD_inj e.1.1
    have hll : len = kwL.length := by
      rw [hl, List.length_take]
      split at hss <;> omega
    refine ⟨.slice (some a) len cap, ?_, ?_⟩
    · rw [World.var?_cell gKw hvar 0, ← Array.getElem?_toList, hcs]; rfl
    · subst hll
      refine ⟨some a, cap, rfl, ⟨by decide, hlc⟩, fun i s hs => ?_⟩
      have hi : i < kwL.length := (List.getElem?_eq_some_iff.1 hs).1
      have hi2 : i < ss.length := by split at hss <;> omega
      have h1 := hcell i hi2
      have h2 : ss.getD i ByteArray.empty = s := by
        rw [hl, List.getElem?_take, if_pos hi] at hs
        simp [List.getD, hs]
      rw [h2] at h1
      obtain ⟨b, o, rfl⟩ := spot_none (hcell 0 (by omega))
      rw [add_none] at h1
      exact ⟨b, o, rfl, Free.none _ _ _, h1, h2 ▸ (by rw [List.getD_eq_getElem?_getD, List.getElem?_eq_getElem hi2]; exact hsz _ (List.getElem_mem hi2))⟩
  · obtain rfl := Option.some.inj (tFo.symm.trans ht2)
    intro k x hx
    rw [formsData] at hd2
    obtain ⟨xs, m, rfl, hxs, hlen, hxl, hx2⟩ := DataW.trod_array Tryd.underlying175 hd2
    have hk : k < 13 := by have := (List.getElem?_eq_some_iff.1 hx).1; rw [formL_len] at this; exact this
    obtain ⟨y, hy⟩ : ∃ y, xs[k]? = some y := ⟨_, List.getElem?_eq_getElem (by omega)⟩
    have h3 := hx2 k hk
    rw [hy, cFields] at h3
    have hyd : y.1 = formD x := by
      have h4 : (xs.map (·.1)) = formL.map formD := by
        have := congrArg Prod.fst hxs
        simpa using this.symm
      have h5 := congrArg (·[k]?) h4
      simp only [List.getElem?_map, hy, hx, Option.map_some, Option.some.injEq] at h5
      exact h5
    obtain ⟨zs, n, rfl, hz, hl3, hzl, hz2⟩ := DataW.trod_struct Tryd.underlying174 h3
    subst hz
    obtain ⟨z0, z1, z2, rfl⟩ := three (show zs.length = 3 from hzl)
    have f0 := hz2 0 _ rfl
    have f1 := hz2 1 _ rfl
    have f2 := hz2 2 _ rfl
    obtain ⟨b0, g0, rfl⟩ := DataW.trod_bool Tryd.underlying4 f0
    obtain ⟨b1, g1, rfl⟩ := DataW.trod_bool Tryd.underlying4 f1
    obtain ⟨n2, g2, rfl, _⟩ := DataW.trod_int Tryd.underlying3 f2
    obtain ⟨x0, x1, x2⟩ := x
    simp only [formD, List.map_cons, List.map_nil, DataW.agg.injEq, List.cons.injEq, DataW.lit.injEq, Lit.bool.injEq, Lit.int.injEq, and_true, true_and] at hyd
    obtain ⟨rfl, rfl, rfl⟩ := hyd
    simp only [List.getElem_toArray, List.getElem_cons_zero, List.getElem_cons_succ, cBool, cInt] at g0 g1 g2
    have hat : ∀ j v, ((((cs2.toList.drop (k * 3)).take 3).drop j).take 1) = [v] → j < 3 → cs2[k * 3 + j]? = some v := by
      intro j v h hj
      have := congrArg (·[0]?) h
      simpa [List.getElem?_take, List.getElem?_drop, hj] using this
    refine ⟨?_, ?_, ?_⟩
    · rw [World.var?_cell gFo hvar2]; exact hat 0 _ g0 (by omega)
    · rw [World.var?_cell gFo hvar2]; exact hat 1 _ g1 (by omega)
    · rw [World.var?_cell gFo hvar2]; exact hat 2 _ g2 (by omega)
theorem gSh : Tryd.prog.globalNamed "weephole/flat.shapes" = some 0 := by kernel_rfl
theorem tSh : (Tryd.prog.globals[0]?).map (·.type) = some 139 := by kernel_rfl
theorem cShape : Tryd.prog.cellsOf 138 = 4 := by kernel_rfl
def shapeD {H : Type} (x : Bool × Bool × Bool × Int) : DataW H := .agg [.lit (.bool x.1), .lit (.bool x.2.1), .lit (.bool x.2.2.1), .lit (.int .i64 x.2.2.2)]
theorem shapesData {H : Type} : (Rows.laid_weephole_flat_shapes : DataW H) = .agg (shapeL.map shapeD) := rfl
theorem four {α : Type} {l : List α} (h : l.length = 4) : ∃ a b c d, l = [a, b, c, d] := by
  match l, h with
  | [a, b, c, d], _ => exact ⟨a, b, c, d, rfl⟩
theorem shapes_of {W : World} (h : laidMet Tryd.prog [("weephole/flat.shapes", Rows.laid_weephole_flat_shapes)] W) : ∀ k x, shapeL[k]? = some x → W.cell? ⟨0, k * 4, none⟩ = some (.bool x.1) ∧ W.cell? ⟨0, k * 4 + 1, none⟩ = some (.bool x.2.1) ∧ W.cell? ⟨0, k * 4 + 2, none⟩ = some (.bool x.2.2.1) ∧ W.cell? ⟨0, k * 4 + 3, none⟩ = some (.int .i64 x.2.2.2) := by
  obtain ⟨ps, ⟨g2, t2, cs2, fuel2, p2, q2, hg2, ht2, hvar2, hd2, _, _⟩, _⟩ := h
  obtain rfl := Option.some.inj (gSh.symm.trans hg2)
  obtain rfl := Option.some.inj (tSh.symm.trans ht2)
  intro k x hx
  rw [shapesData] at hd2
  obtain ⟨xs, m, rfl, hxs, hlen, hxl, hx2⟩ := DataW.trod_array Tryd.underlying139 hd2
  have hk : k < 10 := (List.getElem?_eq_some_iff.1 hx).1
  obtain ⟨y, hy⟩ : ∃ y, xs[k]? = some y := ⟨_, List.getElem?_eq_getElem (by omega)⟩
  have h3 := hx2 k hk
  rw [hy, cShape] at h3
  have hyd : y.1 = shapeD x := by
    have h4 : (xs.map (·.1)) = shapeL.map shapeD := by
      have := congrArg Prod.fst hxs
      simpa using this.symm
    have h5 := congrArg (·[k]?) h4
    simp only [List.getElem?_map, hy, hx, Option.map_some, Option.some.injEq] at h5
    exact h5
  obtain ⟨zs, n, rfl, hz, hl3, hzl, hz2⟩ := DataW.trod_struct Tryd.underlying138 h3
  subst hz
  obtain ⟨z0, z1, z2, z3, rfl⟩ := four (show zs.length = 4 from hzl)
  have f0 := hz2 0 _ rfl
  have f1 := hz2 1 _ rfl
  have f2 := hz2 2 _ rfl
  have f3 := hz2 3 _ rfl
  obtain ⟨b0, g0, rfl⟩ := DataW.trod_bool Tryd.underlying4 f0
  obtain ⟨b1, g1, rfl⟩ := DataW.trod_bool Tryd.underlying4 f1
  obtain ⟨b2, g2', rfl⟩ := DataW.trod_bool Tryd.underlying4 f2
  obtain ⟨n3, g3, rfl, _⟩ := DataW.trod_int Tryd.underlying3 f3
  obtain ⟨x0, x1, x2, x3⟩ := x
  simp only [shapeD, List.map_cons, List.map_nil, DataW.agg.injEq, List.cons.injEq, DataW.lit.injEq, Lit.bool.injEq, Lit.int.injEq, and_true, true_and] at hyd
  obtain ⟨rfl, rfl, rfl, rfl⟩ := hyd
  simp only [List.getElem_toArray, List.getElem_cons_zero, List.getElem_cons_succ, cBool, cInt] at g0 g1 g2' g3
  have hat : ∀ j v, ((((cs2.toList.drop (k * 4)).take 4).drop j).take 1) = [v] → j < 4 → cs2[k * 4 + j]? = some v := by
    intro j v h hj
    have := congrArg (·[0]?) h
    simpa [List.getElem?_take, List.getElem?_drop, hj] using this
  refine ⟨?_, ?_, ?_, ?_⟩
  · rw [World.var?_cell gSh hvar2]; exact hat 0 _ g0 (by omega)
  · rw [World.var?_cell gSh hvar2]; exact hat 1 _ g1 (by omega)
  · rw [World.var?_cell gSh hvar2]; exact hat 2 _ g2' (by omega)
  · rw [World.var?_cell gSh hvar2]; exact hat 3 _ g3 (by omega)
theorem laidM_of {W : World} (h : laidMetH Tryd.prog laidL W) : LaidM W := by
  have h : laidMet Tryd.prog laidL W := h
  exact ⟨shapes_of h.tail.tail⟩
end Go.Proofs.YtgcfdbhpophnjaaDoor
