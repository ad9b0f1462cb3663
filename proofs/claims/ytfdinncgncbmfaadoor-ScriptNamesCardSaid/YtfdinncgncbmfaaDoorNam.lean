/- Contracts of the keyword tests: called in whatever memory they return what the plain functions isKw and named say, and write nothing that was there. Conditions: the string has at most 2^63 - 1 bytes; the table of keywords reads as the program's text lays it. Contract of prog.named: called in whatever memory in which the table of keywords reads as the program's text lays it, it returns what the plain function named says, and writes nothing that was there. Condition: the string has at most 2^63 - 1 bytes. -/
import Derived.Test.YtfdinncgncbmfaaDoorTokR
import Derived.Test.YtfdinncgncbmfaaDoorOpB

set_option linter.unusedVariables false
set_option linter.unusedSimpArgs false
namespace Go.Proofs.YtfdinncgncbmfaaDoor
open Go.ChangeShapes Go.WideShapes Go.ChangeAt Go.RowKit
/-- the keywords -/
def kwL : List ByteArray := [⟨#[119, 105, 100, 116, 104]⟩, ⟨#[99, 104, 97, 110]⟩, ⟨#[97, 114, 114, 97, 121]⟩, ⟨#[102, 117, 110, 99]⟩, ⟨#[109, 97, 105, 110]⟩, ⟨#[101, 110, 100]⟩, ⟨#[108, 111, 97, 100]⟩, ⟨#[115, 116, 111, 114, 101]⟩, ⟨#[99, 97, 108, 108]⟩, ⟨#[105, 110]⟩, ⟨#[111, 117, 116]⟩, ⟨#[114, 101, 108, 101, 97, 115, 101]⟩, ⟨#[106, 117, 109, 112]⟩, ⟨#[105, 102]⟩, ⟨#[104, 97, 108, 116]⟩, ⟨#[114, 101, 116]⟩]
def kwCells : Array Value := (kwL.map Value.string).toArray
theorem kw_row (k : Nat) (x : ByteArray) (h : kwL[k]? = some x) : kwCells[k]? = some (.string x) := by
  unfold kwCells
  simp [h]
theorem kw_len : kwL.length = 16 := rfl
def isKw (s : ByteArray) : Bool := hasS s kwL || decide (ofN s ≠ 0)
theorem hasS_hit (s x : ByteArray) (l : List ByteArray) (k : Nat) (h : l[k]? = some x) (he : (s.toList == x.toList) = true) : hasS s l = true := by
  unfold hasS
  rw [List.any_eq_true]
  exact ⟨x, List.mem_of_getElem? h, he⟩
theorem hasS_none (s : ByteArray) (l : List ByteArray) (h : ∀ (k : Nat) x, l[k]? = some x → (s.toList == x.toList) = false) : hasS s l = false := by
  unfold hasS
  rw [List.any_eq_false]
  intro x hx
  obtain ⟨k, hk⟩ := List.getElem?_of_mem hx
  rw [h k x hk]; simp
def named (s : ByteArray) : Bool := tokName s && !isKw s
open Go.ChangeShapes Go.WideShapes Go.ChangeAt Go.RowKit
/-- The fields of the kinds: has it a destination, a name, how many operands. -/
def formL : List (Bool × Bool × Int) := [(true, false, 1), (true, false, 0), (true, true, 1), (false, true, 2), (true, true, -1), (true, true, 0), (false, true, 1), (true, true, 1), (false, true, 0), (false, true, 1), (false, true, 0), (false, false, 0), (false, false, 1)]
/-- The two package-level tables read as the program's text lays them. -/
structure Laid (w : World) : Prop where
  kw : ∃ v, w.cell? ⟨0, 0, none⟩ = some v ∧ RdStrs none w v kwL
  forms : ∀ k x, formL[k]? = some x → w.cell? ⟨1, k * 3, none⟩ = some (.bool x.1) ∧ w.cell? ⟨1, k * 3 + 1, none⟩ = some (.bool x.2.1) ∧ w.cell? ⟨1, k * 3 + 2, none⟩ = some (.int .i64 x.2.2)
theorem Laid.keep {w w' : World} (h : Laid w) (k : Below w.heap.size w w') : Laid w' :=
  ⟨by obtain ⟨v, h1, h2⟩ := h.kw; exact ⟨v, cell_keep k h1, h2.keep k⟩, fun i x hx => by obtain ⟨h1, h2, h3⟩ := h.forms i x hx; exact ⟨cell_keep k h1, cell_keep k h2, cell_keep k h3⟩⟩
theorem named_is (s : ByteArray) : named s = (tokName s && ((ofE s != 0) && !hasS s kwL)) := by
  unfold named isKw ofE
  by_cases h : ofN s = 0
  · simp [h]
  · simp [h]
set_option maxRecDepth 100000 in
set_option maxHeartbeats 1600000 in
theorem named_any (s : ByteArray) (w : World) (hs : s.size ≤ maxLen) (hL : Laid w) :
    Calls Tryd.prog 51 #[.string s] w fun e w' => e = .returned (.bool (named s)) ∧ Below w.heap.size w w' := by
  have HT := Lib.hid (fun w => tokName_any s w hs)
  have HLd := Lib.hid hL
  clear hL
  rw [named_is]
  cases ht : tokName s
  · have c1 := HT.out
    rw [ht] at c1
    have HC := Lib.hid c1
    clear c1 ht HT
    go_enter Tryd.func51, Tryd.ntmps51
    go_wp2_with (first | (go_at_call 60; refine (of_any _ _).mono ?_; rintro e w1 ⟨rfl, hb1⟩) | (go_at_call 61; refine (HC.out _).mono ?_; rintro e w2 ⟨rfl, hb2⟩))
    go_ret
    exact ⟨rfl, bcomp hb1 hb2⟩
  · have c1 := HT.out
    rw [ht] at c1
    have HC := Lib.hid c1
    clear c1 ht HT
    cases he : (ofE s != 0)
    · go_enter Tryd.func51, Tryd.ntmps51
      go_wp2_with (first | (go_at_call 60; refine (of_any _ _).mono ?_; rintro e w1 ⟨rfl, hb1⟩) | (go_at_call 61; refine (HC.out _).mono ?_; rintro e w2 ⟨rfl, hb2⟩))
      go_ret
      exact ⟨rfl, bcomp hb1 hb2⟩
    · obtain ⟨kv, hk1, hk2⟩ := HLd.out.kw
      have HK := Lib.hid (And.intro hk1 hk2)
      clear hk1 hk2
      go_enter Tryd.func51, Tryd.ntmps51
      go_wp2_with (first | (go_at_call 60; refine (of_any _ _).mono ?_; rintro e w1 ⟨rfl, hb1⟩) | (go_at_call 61; refine (HC.out _).mono ?_; rintro e w2 ⟨rfl, hb2⟩; have hg := cell_keep (bcomp hb1 hb2) HK.out.1) | (go_at_call 62; refine (slicesContains _ kwL s _ (HK.out.2.keep (bcomp hb1 hb2))).mono ?_; rintro e w3 ⟨rfl, rfl⟩))
      go_ret
      exact ⟨rfl, bcomp hb1 hb2⟩
end Go.Proofs.YtfdinncgncbmfaaDoor
