/- Contract of prog.copyInstrs: what comes back reads as what came in, in new memory. Condition: what comes in reads as a list of instructions. -/
import Derived.Test.YteeebofjlchndaaDoorCpN
import Derived.Test.YteeebofjlchndaaDoorRnM
import Derived.Deep.CutBlock
import Derived.Deep.CutRange
set_option linter.unusedVariables false
set_option linter.unusedSimpArgs false
set_option linter.unnecessarySimpa false
namespace Go.Proofs.YteeebofjlchndaaDoor
open Go.ChangeShapes Go.WideShapes Go.ChangeAt Go.RowKit
/-- A cell of an own row is written. -/
theorem own_setC {w : World} {base : Nat} {e : TypeId} {size n c g k : Nat} {xs : List Value} {u : Value} (h : w.ownsRow base e size (.slice (some ⟨g, 0, none⟩) n c) n xs) : (w.setCell ⟨g, k, none⟩ u).ownsRow base e size (.slice (some ⟨g, 0, none⟩) n c) n (xs.set k u) := by
  obtain ⟨hl, h | ⟨g', cap, cur, e1, hg, hc, h1, h2, h3, h4⟩⟩ := h
  · cases h.1
  · simp only [Value.slice.injEq, Option.some.injEq, Addr.mk.injEq, and_true, true_and] at e1
    obtain ⟨rfl, rfl⟩ := e1
    refine ⟨by rw [List.length_set]; exact hl, .inr ⟨g, c, cur.setIfInBounds k u, rfl, hg, heap_setCell_same _ _ _ _ _ u hc, h1, h2, by simpa using h3, ?_⟩⟩
    rw [Array.toList_setIfInBounds, List.take_set, h4]
theorem flat_mid (A B : List (InstrD × Value)) (x : InstrD) (av av' : Value) : ((A ++ (x, av) :: B).flatMap insCells).set (A.length * 7 + 4) av' = (A ++ (x, av') :: B).flatMap insCells := by
  have hA : (A.flatMap insCells).length = A.length * 7 := flat_length insCells 7 (fun _ => rfl) A
  rw [List.flatMap_append, List.flatMap_append, List.flatMap_cons, List.flatMap_cons, List.set_append, if_neg (by omega), hA, show A.length * 7 + 4 - A.length * 7 = 4 by omega]
  rfl
theorem flat_setC {P : List (InstrD × Value)} {i : Nat} {x : InstrD} {av av' : Value} (h : P[i]? = some (x, av)) : (P.flatMap insCells).set (i * 7 + 4) av' = (P.set i (x, av')).flatMap insCells := by
  have hi := (List.getElem?_eq_some_iff.1 h).1
  have hx := (List.getElem?_eq_some_iff.1 h).2
  have hP : P = P.take i ++ (x, av) :: P.drop (i + 1) := by
    rw [← hx, ← List.drop_eq_getElem_cons hi, List.take_append_drop]
  have hl : (P.take i).length = i := by rw [List.length_take]; omega
  have h2 : P.set i (x, av') = P.take i ++ (x, av') :: P.drop (i + 1) := by
    rw [List.set_eq_take_append_cons_drop, if_pos hi]
  rw [h2, ← flat_mid (P.take i) (P.drop (i + 1)) x av av', hl, ← hP]
theorem holds_instrs {w : World} {a : Option Addr} {n c : Nat} {l : List InstrD} (h : RdInstrs none w (.slice a n c) l) : ∃ P : List (InstrD × Value), P.map Prod.fst = l ∧ HoldsC w a (P.flatMap insCells) ∧ (∀ q ∈ P, RdInstr none w q.1 q.2) ∧ (P.flatMap insCells).length = l.length * 7 := by
  obtain ⟨a', c', e, -, hr⟩ := h
  simp only [Value.slice.injEq] at e
  obtain ⟨rfl, -, -⟩ := e
  obtain ⟨P, hl, hP⟩ := choose_listM (R := fun i (q : InstrD × Value) => l[i]? = some q.1 ∧ ∃ b o, a = some ⟨b, o, none⟩ ∧ RdInstr none w q.1 q.2 ∧ ∀ j u, (insCells q)[j]? = some u → w.cell? ⟨b, o + i * 7 + j, none⟩ = some u) l.length (fun i hi => by
    obtain ⟨x, hx⟩ : ∃ x, l[i]? = some x := ⟨_, List.getElem?_eq_getElem hi⟩
    obtain ⟨b, o, av, rfl, -, c0, c1, c2, c3, c4, c5, c6, hri⟩ := hr i x hx
    refine ⟨(x, av), hx, b, o, rfl, hri, fun j u hu => ?_⟩
    have hj : j < 7 := (List.getElem?_eq_some_iff.1 hu).1
    match j, hj with
    | 0, _ => simp [insCells] at hu; subst hu; exact c0
    | 1, _ => simp [insCells] at hu; subst hu; exact c1
    | 2, _ => simp [insCells] at hu; subst hu; exact c2
    | 3, _ => simp [insCells] at hu; subst hu; exact c3
    | 4, _ => simp [insCells] at hu; subst hu; exact c4
    | 5, _ => simp [insCells] at hu; subst hu; exact c5
    | 6, _ => simp [insCells] at hu; subst hu; exact c6)
  have hfl : (P.flatMap insCells).length = l.length * 7 := by rw [flat_length insCells 7 (fun _ => rfl), hl]
  refine ⟨P, ?_, fun j u hu => ?_, fun q hq => ?_, hfl⟩
  · apply List.ext_getElem?
    intro i
    rw [List.getElem?_map]
    cases hx : P[i]? with
    | none =>
      rw [List.getElem?_eq_none_iff] at hx
      rw [List.getElem?_eq_none (by omega)]
      rfl
    | some q => rw [(hP i q hx).1]; rfl
  · have hj := (List.getElem?_eq_some_iff.1 hu).1
    rw [hfl] at hj
    have hi : j / 7 < P.length := by omega
    obtain ⟨q, hq⟩ : ∃ q, P[j / 7]? = some q := ⟨_, List.getElem?_eq_getElem hi⟩
    obtain ⟨-, b, o, ha, -, hc⟩ := hP _ q hq
    have e := flat_get insCells 7 (fun _ => rfl) P (j / 7) (j % 7) q hq (by omega)
    rw [show j / 7 * 7 + j % 7 = j by omega, hu] at e
    have := hc (j % 7) u e.symm
    rw [show o + j / 7 * 7 + j % 7 = o + j by omega] at this
    exact ⟨b, o, ha, this⟩
  · obtain ⟨i, hi⟩ := List.mem_iff_getElem?.1 hq
    obtain ⟨-, b, o, -, hr, -⟩ := hP i q hi
    exact hr
theorem holds_args {w : World} {a : Option Addr} {n c : Nat} {l : List ArgD} (h : RdArgs none w (.slice a n c) l) : HoldsC w a (l.flatMap argCells) ∧ n = l.length ∧ l.length * 24 ≤ 140737488351232 ∧ ∀ s ∈ l, InU64 s.num ∧ s.name.size ≤ maxLen := by
  obtain ⟨a', c', e, ⟨hl, -⟩, hr⟩ := h
  simp only [Value.slice.injEq] at e
  obtain ⟨rfl, rfl, -⟩ := e
  refine ⟨fun j u hu => ?_, rfl, hl, fun s hs => ?_⟩
  · have hfl : (l.flatMap argCells).length = l.length * 2 := flat_length argCells 2 (fun _ => rfl) l
    have hj := (List.getElem?_eq_some_iff.1 hu).1
    rw [hfl] at hj
    obtain ⟨x, hx⟩ : ∃ x, l[j / 2]? = some x := ⟨_, List.getElem?_eq_getElem (by omega)⟩
    obtain ⟨b, o, rfl, -, h0, h1, -⟩ := hr _ x hx
    have e := flat_get argCells 2 (fun _ => rfl) l (j / 2) (j % 2) x hx (by omega)
    rw [show j / 2 * 2 + j % 2 = j by omega, hu] at e
    rcases (show j % 2 = 0 ∨ j % 2 = 1 by omega) with h2 | h2
    · rw [h2] at e
      simp [argCells] at e
      subst e
      exact ⟨b, o, rfl, by rw [show o + j = o + j / 2 * 2 by omega]; exact h0⟩
    · rw [h2] at e
      simp [argCells] at e
      subst e
      exact ⟨b, o, rfl, by rw [show o + j = o + j / 2 * 2 + 1 by omega]; exact h1⟩
  · obtain ⟨i, hi⟩ := List.mem_iff_getElem?.1 hs
    obtain ⟨b, o, -, -, -, -, h3, h4⟩ := hr i s hi
    exact ⟨h3, h4⟩
theorem ins_one {P : List (InstrD × Value)} (h : ∀ q ∈ P, ∃ a n c, q.2 = .slice a n c) : ∀ u ∈ P.flatMap insCells, u.oneCell' = true := by
  intro u hu
  obtain ⟨q, hq, hx⟩ := List.mem_flatMap.1 hu
  obtain ⟨a, n, c, e⟩ := h q hq
  simp only [insCells, List.mem_cons, List.not_mem_nil, or_false] at hx
  rcases hx with rfl | rfl | rfl | rfl | rfl | rfl | rfl
  all_goals first | rfl | (rw [e]; rfl)
theorem arg_one (l : List ArgD) : ∀ u ∈ l.flatMap argCells, u.oneCell' = true := by
  intro u hu
  obtain ⟨q, hq, hx⟩ := List.mem_flatMap.1 hu
  simp only [argCells, List.mem_cons, List.not_mem_nil, or_false] at hx
  rcases hx with rfl | rfl <;> rfl
set_option maxRecDepth 100000 in
set_option maxHeartbeats 3200000 in
theorem copyInstrsN (av : Value) (l : List InstrD) (w : World) (h : RdInstrs none w av l) :
    Calls Tryd.prog 39 #[av] w fun e w' => ∃ v, e = .returned v ∧ RdInstrs (some (upFrom w.heap.size)) w' v l ∧ Below w.heap.size w w' := by
  obtain ⟨a, c, rfl, ⟨hl, -⟩, -⟩ := id h
  obtain ⟨P, hP, hho, hri, hfl⟩ := holds_instrs h
  have hC := cloneInsN a l.length c _ w hho hfl hl (ins_one fun q hq => by obtain ⟨ra, rc, e, -⟩ := (hri q hq).1; exact ⟨_, _, _, e⟩)
  have HC := Lib.hid hC
  have HP := Lib.hid hP
  have HRI := Lib.hid hri
  have HFL := Lib.hid hfl
  clear h hho hri hC hP hfl
  go_enter Tryd.func39, Tryd.ntmps39
  go_upto_region 3 with (go_at_call 47; refine HC.out.mono ?_; rintro e w1 ⟨v, rfl, hown, hb1⟩; obtain ⟨va, vc, rfl, -⟩ := own_read hown; have HOW := Lib.hid hown; have HB1 := Lib.hid hb1; clear hown hb1)
  go_loopw [4, 9] (fun _ iv wr => ∃ (i : Nat) (P' : List (InstrD × Value)), i ≤ l.length ∧ iv = .int .i64 i ∧ wr.ownsRow w.heap.size 40 7 (.slice va l.length vc) l.length (P'.flatMap insCells) ∧ P'.map Prod.fst = l ∧ (∀ (t : Nat) q, P'[t]? = some q → (i ≤ t → RdInstr none w q.1 q.2) ∧ (t < i → RdInstr (some (upFrom w.heap.size)) wr q.1 q.2)) ∧ Below w.heap.size w wr) (fun _ iv _ => l.length - (intOf iv).toNat)
  case atStart => exact ⟨0, P, Nat.zero_le _, rfl, HOW.out, HP.out, fun t q hq => ⟨fun _ => HRI.out q (List.mem_of_getElem? hq), fun h => by omega⟩, HB1.out⟩
  case round =>
    obtain ⟨i, P', hi, rfl, hown, hP', hq', hb⟩ := hrel
    obtain ⟨w2, rfl⟩ : ∃ x : World, x = wr := ⟨_, rfl⟩
    have HO2 := Lib.hid hown
    have HP2 := Lib.hid hP'
    have HQ2 := Lib.hid hq'
    have HB2 := Lib.hid hb
    have hPl : P'.length = l.length := by rw [← hP', List.length_map]
    clear hown hP' hq' hb
    by_cases hlt : i < l.length
    · have hlt1 : (i : Int) < (l.length : Int) := by omega
      obtain ⟨⟨x, xv⟩, hx⟩ : ∃ q, P'[i]? = some q := ⟨_, List.getElem?_eq_getElem (by omega)⟩
      have hrx := (HQ2.out i _ hx).1 (Nat.le_refl _)
      obtain ⟨ra, rc, e3, -, -⟩ := id hrx.1
      simp only at e3
      subst e3
      obtain ⟨hha, -, hla, hoka⟩ := holds_args ((hrx.1).keep HB2.out)
      have hpos : 0 < (P'.flatMap insCells).length := by rw [flat_length insCells 7 (fun _ => rfl)]; omega
      obtain ⟨g, gc, eg, hgf, hgc⟩ := own_at HO2.out hpos
      simp only [Value.slice.injEq, true_and] at eg
      obtain ⟨rfl, rfl⟩ := eg
      have c4 := hgc (i * 7 + 4) (.slice ra x.args.length rc) (by rw [flat_get insCells 7 (fun _ => rfl) P' i 4 _ hx (by omega)]; rfl)
      rw [Nat.zero_add] at c4
      have f4 := hgf.frozen (i * 7 + 4)
      have hca := cloneArgN ra x.args.length rc (x.args.flatMap argCells) w2 hha (flat_length argCells 2 (fun _ => rfl) _) hla (arg_one _)
      have HCA := Lib.hid hca
      have HX := Lib.hid hx
      have HRX := Lib.hid hrx
      have HLA := Lib.hid hla
      have HOKA := Lib.hid hoka
      have HGF := Lib.hid hgf
      have HC4 := Lib.hid c4
      clear hha hpos hgc hca hx hrx hoka hgf hPl
      go_upto_region 6 with (go_at_call 48; refine HCA.out.mono ?_; rintro e w3 ⟨v3, rfl, hown3, hb3⟩; obtain ⟨ya, yc, rfl, -⟩ := own_read hown3; have HO3 := Lib.hid hown3; have HB3 := Lib.hid hb3; have k4 := cell_keep hb3 HC4.out; have kf := (HGF.out.keep (block_lt_of_cell HC4.out) hb3).frozen (i * 7 + 4); clear hown3 hb3)
      clear c4 f4 k4 kf HCA
      have hgw : g < w2.heap.size := block_lt_of_cell HC4.out
      obtain ⟨gcs, hgcs⟩ := (HGF.out _ rfl).2
      have hg3 := (HB3.out.block g hgw).trans hgcs
      have HRA := Lib.hid (own_args HO3.out HLA.out HOKA.out)
      have HO5 := Lib.hid (own_setC (k := i * 7 + 4) (u := .slice ya x.args.length yc) (own_below HO2.out HB3.out))
      rw [flat_setC HX.out] at HO5
      have hgb : w.heap.size ≤ g := (HGF.out _ rfl).1
      have HB5 : Hid (Below w.heap.size w (w3.setCell ⟨g, i * 7 + 4, none⟩ (.slice ya x.args.length yc))) := (bcomp HB2.out HB3.out).setCell hgb _
      have HNEW : Hid (RdInstr (some (upFrom w.heap.size)) (w3.setCell ⟨g, i * 7 + 4, none⟩ (.slice ya x.args.length yc)) x (.slice ya x.args.length yc)) :=
        RdInstr.map (S := fun U => U ≠ 40) putS_hF (putS_hC hg3) (by decide) ⟨RdArgs.same HRA.out (fun _ _ _ => rfl) (fun b _ hb => by have h1 : w2.heap.size ≤ b := hb; have h2 := HB2.out.size; show w.heap.size ≤ b; omega), HRX.out.2⟩
      have HOLD : Hid (∀ q : InstrD × Value, RdInstr (some (upFrom w.heap.size)) w2 q.1 q.2 → RdInstr (some (upFrom w.heap.size)) (w3.setCell ⟨g, i * 7 + 4, none⟩ (.slice ya x.args.length yc)) q.1 q.2) := fun q hq =>
        RdInstr.map (S := fun U => U ≠ 40) putS_hF (putS_hC hg3) (by decide) (hq.keep HB3.out)
      clear hg3 hgcs
      go_wp2_with fail
      go_roundw
      case rel =>
        refine ⟨i + 1, P'.set i (x, .slice ya x.args.length yc), by omega, by go_num, HO5.out, ?_, fun t q hq => ?_, HB5.out⟩
        · rw [← HP2.out]
          apply List.ext_getElem?
          intro t
          rw [List.getElem?_map, List.getElem?_map, List.getElem?_set]
          by_cases ht : i = t
          · subst ht
            rw [if_pos rfl, if_pos (List.getElem?_eq_some_iff.1 HX.out).1, HX.out]
            rfl
          · rw [if_neg ht]
        · rw [List.getElem?_set] at hq
          by_cases ht : i = t
          · subst ht
            rw [if_pos rfl, if_pos (List.getElem?_eq_some_iff.1 HX.out).1] at hq
            cases hq
            exact ⟨fun h => by omega, fun _ => HNEW.out⟩
          · rw [if_neg ht] at hq
            have h1 := HQ2.out t q hq
            exact ⟨fun h => h1.1 (by omega), fun h => HOLD.out q (h1.2 (by omega))⟩
      case measure => simp [intOf]; omega
    · have hlt1 : ¬ (i : Int) < (l.length : Int) := by omega
      obtain rfl : i = l.length := by omega
      go_wp2_with fail
      go_ret
      exact ⟨_, rfl, own_instrs HP2.out HO2.out hl (fun q hq => by
        obtain ⟨t, ht⟩ := List.mem_iff_getElem?.1 hq
        exact (HQ2.out t q ht).2 (by have := (List.getElem?_eq_some_iff.1 ht).1; omega)), HB2.out⟩
end Go.Proofs.YteeebofjlchndaaDoor
