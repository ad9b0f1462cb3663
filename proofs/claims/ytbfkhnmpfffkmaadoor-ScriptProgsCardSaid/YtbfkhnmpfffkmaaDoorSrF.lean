/- The walk of ScriptProgs. Condition: the string's size is valid. -/
import Derived.Test.YtbfkhnmpfffkmaaDoorSrE
import Derived.Test.YtbfkhnmpfffkmaaDoorScF
set_option linter.unusedVariables false
set_option linter.unusedSimpArgs false
set_option linter.unnecessarySimpa false
namespace Go.Proofs.YtbfkhnmpfffkmaaDoor
open Go.Maps (Keyed int_keyed)
open Go.WideShapes Go.ChangeMaps Go.MapKept Go.WideMaps Go.ChangeAt Go.RowKit Go.ChangeShapes
theorem eqProg_self (x : ProgD) : eqProg x x = true := by
  have hf : ∀ f, eqFunc f f = true := fun f => by simp [eqFunc, eqL_self (f := eqS) (fun x => by simp [eqS]), eqL_self (f := eqInstr) eqInstr_self]
  simp [eqProg, eqL_self (f := eqS) (fun x => by simp [eqS]), eqL_self (f := eqArr) (fun x => by simp [eqArr]), eqL_self (f := eqFunc) hf, eqL_self (f := eqInstr) eqInstr_self]
set_option maxRecDepth 100000 in
set_option maxHeartbeats 3200000 in
theorem progs_walk (s : ByteArray) (w : World) (hs : s.size ≤ maxLen) :
    Calls Tryd.prog 3 #[.string s] w fun e w' => e = .returned (.bool true) ∧ Below w.heap.size w w' := by
  have KN : ∀ z, Hid (Calls Tryd.prog 7 #[] z fun e w' => e = .returned (.bool true) ∧ Below z.heap.size z w') := fun z => known_any z
  by_cases hl1 : 2000 < s.size
  · have hlong1 : (2000 : Int) < (s.size : Int) := by omega
    have HK := Lib.hid (KN w).out
    clear KN
    go_enter Tryd.func3, Tryd.ntmps3
    go_wp2_with (go_at_call 7; refine HK.out.mono ?_; rintro e z ⟨rfl, hz⟩)
    go_ret
    exact ⟨rfl, hz⟩
  have hlong1 : ¬ (2000 : Int) < (s.size : Int) := by omega
  obtain ⟨P1, hP1⟩ : ∃ P, progS s.data.toList = P := ⟨_, rfl⟩
  have HP1 : ∀ z, Hid (Calls Tryd.prog 9 #[.string s] z fun e w' => ∃ cv av fv mv, e = .returned (.agg #[.int .i64 P1.width, cv, av, fv, mv]) ∧ RdProg (some (upFrom z.heap.size)) w' P1 cv av fv mv ∧ Below z.heap.size z w') := fun z => by have h := prog_str s z; rw [hP1] at h; exact h
  have HP2 : ∀ z, Hid (Calls Tryd.prog 10 #[.string s] z fun e w' => ∃ cv av fv mv, e = .returned (.agg #[.int .i64 P1.width, cv, av, fv, mv]) ∧ RdProg (some (upFrom z.heap.size)) w' P1 cv av fv mv ∧ Below z.heap.size z w') := fun z => by have h := progR_any s _ z rfl (by omega); rw [hP1] at h; exact h
  clear hP1 hl1
  go_enter Tryd.func3, Tryd.ntmps3
  go_wp2_with (first | (go_at_call 9; refine (HP1 _).out.mono ?_; rintro e z1 ⟨cv, av, fv, mv, rfl, hr, hbz⟩; have HR1 := Lib.hid hr.forget; have HB1 := Lib.hid hbz; clear hr hbz) | (go_at_call 10; refine (HP2 _).out.mono ?_; rintro e z2 ⟨cv2, av2, fv2, mv2, rfl, hr, hbz⟩; have HR2 := Lib.hid hr.forget; have HB2 := Lib.hid hbz; have hq := equalProg P1 P1 cv av fv mv cv2 av2 fv2 mv2 z2 (HR1.out.keep hbz) HR2.out; rw [eqProg_self] at hq; have HQ := Lib.hid hq; clear hr hbz hq) | (go_at_call 8; refine HQ.out.mono ?_; rintro e z3 ⟨rfl, hb3⟩; have HB3 := Lib.hid hb3; clear hb3) | (go_at_call 7; refine (KN _).out.mono ?_; rintro e z4 ⟨rfl, hb4⟩))
  go_ret
  exact ⟨rfl, bcomp (bcomp (bcomp HB1.out HB2.out) HB3.out) hb4⟩
end Go.Proofs.YtbfkhnmpfffkmaaDoor
