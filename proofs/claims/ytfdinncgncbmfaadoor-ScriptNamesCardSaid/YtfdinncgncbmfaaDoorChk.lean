/- Contracts of prog.need and names.declare: they return, or panic with the fault that the plain functions needF and declF give. Conditions: the string has at most 2^63 - 1 bytes; the map is a set of strings. -/
import Derived.Test.YtfdinncgncbmfaaDoorSpec
import Derived.Test.YtfdinncgncbmfaaDoorCalm
import Derived.Deep.DeepCutAuto
import Derived.Deep.RegionWith
set_option linter.unusedVariables false
set_option linter.unusedSimpArgs false
namespace Go.Proofs.YtfdinncgncbmfaaDoor
open Go.ChangeShapes Go.WideShapes Go.ChangeAt Go.RowKit
theorem Laid.ext {w : World} (h : Laid w) (x : World) : Laid (ext w x) := h.keep (ext_below w x)
/-- A fault as a value that is panicked with. -/
abbrev faultV (f : FaultD) : Value := .iface 84 (.agg #[.int .i64 f.line, .int .i64 f.col, .int .i64 f.e])
/-- How a function that checks ends: it returns nothing, or panics with the fault. -/
def endF : Option FaultD → Ending
  | none => .returned (.tuple #[])
  | some f => .panicked [{ v := faultV f, recovered := false }]
theorem grown_of_below {w w' : World} (h : Below w.heap.size w w') (row : Option Nat) : w.grownBy w' row :=
  ⟨h.1, h.2, h.3, h.size, fun k hk _ => h.block k hk⟩
theorem grown_trans {w a b : World} {row : Option Nat} (h : w.grownBy a row) (k : a.grownBy b row) : w.grownBy b row :=
  ⟨k.os.trans h.os, k.tape.trans h.tape, k.output.trans h.output, Nat.le_trans h.size k.size, fun i hi hr => (k.block i (Nat.lt_of_lt_of_le hi h.size) hr).trans (h.block i hi hr)⟩
theorem names_zero (w : World) : (zeroValue 4).run Tryd.prog w = .ok (.bool false) w := by kernel_rfl
set_option maxRecDepth 100000 in
theorem need_ok (l c e : Int) (w : World) : Calls Tryd.prog 43 #[.bool true, .agg #[.int .i64 l, .int .i64 c], .int .i64 e] w fun e' w' => e' = .returned (.tuple #[]) ∧ Below w.heap.size w w' := by
  go_enter Tryd.func43, Tryd.ntmps43
  go_wp2
  go_end0
  exact ⟨rfl, (Below.refl _ _).alloc (Nat.le_refl _) _⟩
set_option maxRecDepth 100000 in
theorem need_bad (l c e : Int) (w : World) : Calls Tryd.prog 43 #[.bool false, .agg #[.int .i64 l, .int .i64 c], .int .i64 e] w fun e' w' => e' = .panicked [{ v := faultV ⟨l, c, e⟩, recovered := false }] ∧ Below w.heap.size w w' := by
  go_enter Tryd.func43, Tryd.ntmps43
  go_wp2
  exact ⟨rfl, rfl, (Below.refl _ _).alloc (Nat.le_refl _) _⟩
set_option maxRecDepth 100000 in
set_option maxHeartbeats 1600000 in
theorem declare_any (b : Nat) (acc : List ByteArray) (s : ByteArray) (l c : Int) (w : World) (hs : s.size ≤ maxLen) (hL : Laid w) (hS : SetIs w b acc) :
    Calls Tryd.prog 44 #[.map (some b), .string s, .agg #[.int .i64 l, .int .i64 c]] w fun e w' => e = endF (declF acc s l c) ∧ (declF acc s l c = none → SetIs w' b (acc ++ [s])) ∧ w.grownBy w' (some b) := by
  have c1 := fun (w : World) (hL : Laid w) => named_any s w hs hL
  have HL1 : Hid (∀ A : Obj, Laid (w.alloc A)) := fun A => hL.keep ((Below.refl _ _).alloc (Nat.le_refl _) _)
  have HS := Lib.hid hS
  clear hL hS
  cases hn : named s
  · rw [hn] at c1
    have hd : declF acc s l c = some ⟨l, c, 4⟩ := by unfold declF; rw [hn]; rfl
    rw [hd]
    have C1 := Lib.hid c1
    clear c1 hn hd
    go_enter Tryd.func44, Tryd.ntmps44
    go_upto_region 1 with fail
    have hb0 : Below w.heap.size w (w.alloc (.cells #[.int .i64 l, .int .i64 c] 35)) := (Below.refl _ _).alloc (Nat.le_refl _) _
    have G0 := heap_alloc_new w (.cells #[.int .i64 l, .int .i64 c] 35)
    have HLd := Lib.hid (HL1.out (.cells #[.int .i64 l, .int .i64 c] 35))
    generalize w.alloc (.cells #[.int .i64 l, .int .i64 c] 35) = W1 at *
    have e0 := ext_cell (row_of G0 0 (.int .i64 l) rfl)
    have e1 := ext_cell (row_of G0 1 (.int .i64 c) rfl)
    have HB0 := Lib.hid hb0
    clear G0 hb0
    (refine wp_region_calm_tail 3 (by kernel_rfl) (by kernel_rfl) ?_; simp only [List.take_succ_cons, List.take_zero, List.drop_succ_cons, List.drop_zero]; (repeat (go_big_quiet_step ((go_at_call 51; exact calls_calm (C1.out _ (HLd.out.ext _)))))); refine wpQuiet_nil ?_; intro wc hwc)
    clear e0 e1
    go_wp2_with (go_at_call 43; refine (need_bad l c 4 _).mono ?_; rintro e w2 ⟨rfl, hb2⟩)
    exact ⟨rfl, rfl, (fun h => nomatch h), grown_of_below (bcomp (bcomp HB0.out hwc) hb2) _⟩
  · rw [hn] at c1
    have C1 := Lib.hid c1
    have HN := Lib.hid hn
    clear c1 hn
    go_enter Tryd.func44, Tryd.ntmps44
    go_upto_region 1 with fail
    have hb0 : Below w.heap.size w (w.alloc (.cells #[.int .i64 l, .int .i64 c] 35)) := (Below.refl _ _).alloc (Nat.le_refl _) _
    have G0 := heap_alloc_new w (.cells #[.int .i64 l, .int .i64 c] 35)
    have HLd := Lib.hid (HL1.out (.cells #[.int .i64 l, .int .i64 c] 35))
    generalize w.alloc (.cells #[.int .i64 l, .int .i64 c] 35) = W1 at *
    have r0 := row_of G0 0 (.int .i64 l) rfl
    have r1 := row_of G0 1 (.int .i64 c) rfl
    have e0 := ext_cell r0
    have e1 := ext_cell r1
    have HB0 := Lib.hid hb0
    have R := Lib.hid (And.intro r0 r1)
    clear G0 hb0 r0 r1
    (refine wp_region_calm_tail 3 (by kernel_rfl) (by kernel_rfl) ?_; simp only [List.take_succ_cons, List.take_zero, List.drop_succ_cons, List.drop_zero]; (repeat (go_big_quiet_step ((go_at_call 51; exact calls_calm (C1.out _ (HLd.out.ext _)))))); refine wpQuiet_nil ?_; intro wc hwc)
    clear e0 e1
    have HB1 := Lib.hid (bcomp HB0.out hwc)
    cases hi : inL s acc
    · have hd : Hid (declF acc s l c = none) := by show _ = _; unfold declF; rw [HN.out, hi]; rfl
      have hp : Hid (putL s acc = acc ++ [s]) := by show _ = _; unfold putL; rw [hi]; rfl
      have HI := Lib.hid hi
      clear hi
      go_wp2_with fail
      refine (need_ok l c 4 _).mono ?_
      rintro e w2 ⟨rfl, hb2⟩
      have f0 := cell_keep (bcomp hwc hb2) R.out.1
      have f1 := cell_keep (bcomp hwc hb2) R.out.2
      have HS2 := Lib.hid (HS.out.keep (bcomp HB1.out hb2))
      clear R
      go_wp2_with (at_lookup; refine wpList_set_lookup rfl _ _ _ rfl _ _ Tryd.underlying9 Tryd.underlying87 (names_zero _) b acc rfl s rfl hs HS2.out ?_; rw [HI.out])
      refine (need_ok l c 8 _).mono ?_
      rintro e w3 ⟨rfl, hb3⟩
      have HS3 := Lib.hid (HS2.out.keep hb3)
      clear HS2
      go_wp2_with (at_mapUpdate; refine wpList_set_store rfl _ _ _ _ rfl _ _ Tryd.underlying9 Tryd.underlying87 b acc rfl s rfl rfl hs HS3.out ?_; intro w4 hs4 hg4 hz4)
      go_end0
      exact ⟨by rw [hd.out]; rfl, fun _ => by rw [← hp.out]; exact hs4, grown_trans (grown_of_below (bcomp (bcomp HB1.out hb2) hb3) _) hg4⟩
    · have hd : Hid (declF acc s l c = some ⟨l, c, 8⟩) := by show _ = _; unfold declF; rw [HN.out, hi]; rfl
      have HI := Lib.hid hi
      clear hi
      go_wp2_with fail
      refine (need_ok l c 4 _).mono ?_
      rintro e w2 ⟨rfl, hb2⟩
      have f0 := cell_keep (bcomp hwc hb2) R.out.1
      have f1 := cell_keep (bcomp hwc hb2) R.out.2
      have HS2 := Lib.hid (HS.out.keep (bcomp HB1.out hb2))
      clear R
      go_wp2_with (at_lookup; refine wpList_set_lookup rfl _ _ _ rfl _ _ Tryd.underlying9 Tryd.underlying87 (names_zero _) b acc rfl s rfl hs HS2.out ?_; rw [HI.out])
      refine (need_bad l c 8 _).mono ?_
      rintro e w3 ⟨rfl, hb3⟩
      refine ⟨rfl, by rw [hd.out]; rfl, fun h => ?_, grown_of_below (bcomp (bcomp HB1.out hb2) hb3) _⟩
      rw [hd.out] at h; cases h
end Go.Proofs.YtfdinncgncbmfaaDoor
