/- Contract of prog.named: called in whatever memory in which the table of keywords reads as the program's text lays it, it returns what the plain function named says, and writes nothing that was there. Condition: the string has at most 2^63 - 1 bytes. -/
import Derived.Test.YtjdbdoeopobciaaDoorKw
set_option linter.unusedVariables false
set_option linter.unusedSimpArgs false
namespace Go.Proofs.YtjdbdoeopobciaaDoor
open Go.ChangeShapes Go.WideShapes Go.ChangeAt Go.RowKit
/-- The fields of the kinds: has it a destination, a name, how many operands. -/
def formL : List (Bool × Bool × Int) := [(true, false, 1), (true, false, 0), (true, true, 1), (false, true, 2), (true, true, -1), (true, true, 0), (false, true, 1), (true, true, 1), (false, true, 0), (false, true, 1), (false, true, 0), (false, false, 0), (false, false, 1)]
/-- The two package-level tables read as the program's text lays them. -/
structure Laid (w : World) : Prop where
  kw : ∃ v, w.cell? ⟨0, 0, none⟩ = some v ∧ RdStrs none w v kwL
  forms : ∀ k x, formL[k]? = some x → w.cell? ⟨1, k * 3, none⟩ = some (.bool x.1) ∧ w.cell? ⟨1, k * 3 + 1, none⟩ = some (.bool x.2.1) ∧ w.cell? ⟨1, k * 3 + 2, none⟩ = some (.int .i64 x.2.2)
theorem Laid.keep {w w' : World} (h : Laid w) (k : Below w.heap.size w w') : Laid w' :=
  ⟨by obtain ⟨v, h1, h2⟩ := h.kw; exact ⟨v, cell_keep k h1, h2.keep k⟩, fun i x hx => by obtain ⟨h1, h2, h3⟩ := h.forms i x hx; exact ⟨cell_keep k h1, cell_keep k h2, cell_keep k h3⟩⟩
theorem named_is (s : ByteArray) : named s = (tokName s && ((ofE s != 0) && !hasS s kwL)) := by
  unfold named isKw ofE
  by_cases h : ofN s = 0
  · simp [h]
  · simp [h]
set_option maxRecDepth 100000 in
set_option maxHeartbeats 1600000 in
theorem named_any (s : ByteArray) (w : World) (hs : s.size ≤ maxLen) (hL : Laid w) :
    Calls Tryd.prog 74 #[.string s] w fun e w' => e = .returned (.bool (named s)) ∧ Below w.heap.size w w' := by
  have HT := Lib.hid (fun w => tokName_any s w hs)
  have HLd := Lib.hid hL
  clear hL
  rw [named_is]
  cases ht : tokName s
  · have c1 := HT.out
    rw [ht] at c1
    have HC := Lib.hid c1
    clear c1 ht HT
    go_enter Tryd.func74, Tryd.ntmps74
    go_wp2_with (first | (go_at_call 85; refine (of_any _ _).mono ?_; rintro e w1 ⟨rfl, hb1⟩) | (go_at_call 86; refine (HC.out _).mono ?_; rintro e w2 ⟨rfl, hb2⟩))
    go_ret
    exact ⟨rfl, bcomp hb1 hb2⟩
  · have c1 := HT.out
    rw [ht] at c1
    have HC := Lib.hid c1
    clear c1 ht HT
    cases he : (ofE s != 0)
    · go_enter Tryd.func74, Tryd.ntmps74
      go_wp2_with (first | (go_at_call 85; refine (of_any _ _).mono ?_; rintro e w1 ⟨rfl, hb1⟩) | (go_at_call 86; refine (HC.out _).mono ?_; rintro e w2 ⟨rfl, hb2⟩))
      go_ret
      exact ⟨rfl, bcomp hb1 hb2⟩
    · obtain ⟨kv, hk1, hk2⟩ := HLd.out.kw
      have HK := Lib.hid (And.intro hk1 hk2)
      clear hk1 hk2
      go_enter Tryd.func74, Tryd.ntmps74
      go_wp2_with (first | (go_at_call 85; refine (of_any _ _).mono ?_; rintro e w1 ⟨rfl, hb1⟩) | (go_at_call 86; refine (HC.out _).mono ?_; rintro e w2 ⟨rfl, hb2⟩; have hg := cell_keep (bcomp hb1 hb2) HK.out.1) | (go_at_call 87; refine (slicesContains _ kwL s _ (HK.out.2.keep (bcomp hb1 hb2))).mono ?_; rintro e w3 ⟨rfl, rfl⟩))
      go_ret
      exact ⟨rfl, bcomp hb1 hb2⟩
end Go.Proofs.YtjdbdoeopobciaaDoor
