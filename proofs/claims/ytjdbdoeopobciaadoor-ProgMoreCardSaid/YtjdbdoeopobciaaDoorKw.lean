/- Contracts of the keyword tests: called in whatever memory they return what the plain functions isKw and named say, and write nothing that was there. Conditions: the string has at most 2^63 - 1 bytes; the table of keywords reads as the program's text lays it. -/
import Derived.Test.YtjdbdoeopobciaaDoorTokR
import Derived.Test.YtjdbdoeopobciaaDoorOpB
set_option linter.unusedVariables false
set_option linter.unusedSimpArgs false
namespace Go.Proofs.YtjdbdoeopobciaaDoor
open Go.ChangeShapes Go.WideShapes Go.ChangeAt Go.RowKit
/-- the keywords -/
def kwL : List ByteArray := [⟨#[119, 105, 100, 116, 104]⟩, ⟨#[99, 104, 97, 110]⟩, ⟨#[97, 114, 114, 97, 121]⟩, ⟨#[102, 117, 110, 99]⟩, ⟨#[109, 97, 105, 110]⟩, ⟨#[101, 110, 100]⟩, ⟨#[108, 111, 97, 100]⟩, ⟨#[115, 116, 111, 114, 101]⟩, ⟨#[99, 97, 108, 108]⟩, ⟨#[105, 110]⟩, ⟨#[111, 117, 116]⟩, ⟨#[114, 101, 108, 101, 97, 115, 101]⟩, ⟨#[106, 117, 109, 112]⟩, ⟨#[105, 102]⟩, ⟨#[104, 97, 108, 116]⟩, ⟨#[114, 101, 116]⟩]
def kwCells : Array Value := (kwL.map Value.string).toArray
theorem kw_row (k : Nat) (x : ByteArray) (h : kwL[k]? = some x) : kwCells[k]? = some (.string x) := by
  unfold kwCells
  simp [h]
theorem kw_len : kwL.length = 16 := rfl
def isKw (s : ByteArray) : Bool := hasS s kwL || decide (ofN s ≠ 0)
theorem hasS_hit (s x : ByteArray) (l : List ByteArray) (k : Nat) (h : l[k]? = some x) (he : (s.toList == x.toList) = true) : hasS s l = true := by
  unfold hasS
  rw [List.any_eq_true]
  exact ⟨x, List.mem_of_getElem? h, he⟩
theorem hasS_none (s : ByteArray) (l : List ByteArray) (h : ∀ (k : Nat) x, l[k]? = some x → (s.toList == x.toList) = false) : hasS s l = false := by
  unfold hasS
  rw [List.any_eq_false]
  intro x hx
  obtain ⟨k, hk⟩ := List.getElem?_of_mem hx
  rw [h k x hk]; simp
set_option maxRecDepth 100000 in
set_option maxHeartbeats 1600000 in
theorem refKeyword (s : ByteArray) (w : World) :
    Calls Tryd.prog 80 #[.string s] w fun e w' => e = .returned (.bool (isKw s)) ∧ Below w.heap.size w w' := by
  have ek : kwCells = #[Value.string ⟨#[119, 105, 100, 116, 104]⟩, Value.string ⟨#[99, 104, 97, 110]⟩, Value.string ⟨#[97, 114, 114, 97, 121]⟩, Value.string ⟨#[102, 117, 110, 99]⟩, Value.string ⟨#[109, 97, 105, 110]⟩, Value.string ⟨#[101, 110, 100]⟩, Value.string ⟨#[108, 111, 97, 100]⟩, Value.string ⟨#[115, 116, 111, 114, 101]⟩, Value.string ⟨#[99, 97, 108, 108]⟩, Value.string ⟨#[105, 110]⟩, Value.string ⟨#[111, 117, 116]⟩, Value.string ⟨#[114, 101, 108, 101, 97, 115, 101]⟩, Value.string ⟨#[106, 117, 109, 112]⟩, Value.string ⟨#[105, 102]⟩, Value.string ⟨#[104, 97, 108, 116]⟩, Value.string ⟨#[114, 101, 116]⟩] := rfl
  have EK := Lib.hid ek
  clear ek
  go_enter Tryd.func80, Tryd.ntmps80
  go_wp2
  go_loopw [4] (fun i wr => ∃ k : Nat, k ≤ 16 ∧ i = .int .i64 k ∧ wr.heap[w.heap.size]? = some (.cells kwCells 9 (0,0)) ∧ Hid (∀ (j : Nat) x, j < k → kwL[j]? = some x → (s.toList == x.toList) = false) ∧ Below w.heap.size w wr) (fun i _ => 16 - (intOf i).toNat)
  case atStart => exact ⟨0, Nat.zero_le _, rfl, by rw [EK.out]; exact heap_alloc_new _ _, (fun j x h => by omega), (Below.refl _ _).alloc (Nat.le_refl _) _⟩
  case round =>
    obtain ⟨k, hk, rfl, hc, hq, hb⟩ := hrel
    clear EK
    by_cases hlt : k < 16
    · obtain ⟨x, hx⟩ : ∃ x, kwL[k]? = some x := ⟨_, List.getElem?_eq_getElem (by rw [kw_len]; exact hlt)⟩
      have c0 := row_of hc k _ (kw_row k x hx)
      have HC := Lib.hid hc
      have HX := Lib.hid hx
      clear hc hx
      cases he : (s.toList == x.toList)
      · have HN : Hid (∀ (j : Nat) y, j < k + 1 → kwL[j]? = some y → (s.toList == y.toList) = false) := by
          intro j y hj hy
          rcases Nat.lt_or_ge j k with h | h
          · exact hq.out j y h hy
          · obtain rfl : j = k := by omega
            rw [HX.out] at hy; cases hy; exact he
        go_wp2
        go_roundw
        case rel => exact ⟨k + 1, by omega, by go_num, HC.out, HN, hb⟩
        case measure => simp [intOf]; omega
      · have HV : Hid (isKw s = true) := by
          show _ = _
          rw [isKw, hasS_hit s x kwL k HX.out he, Bool.true_or]
        go_wp2
        go_ret
        exact ⟨by rw [HV.out]; rfl, hb⟩
    · obtain rfl : k = 16 := by omega
      have hno := hasS_none s kwL (fun j x h => hq.out j x (by have := (List.getElem?_eq_some_iff.1 h).1; rw [kw_len] at this; exact this) h)
      have HV : Hid (isKw s = decide (ofN s ≠ 0)) := by
        show _ = _
        rw [isKw, hno, Bool.false_or]
      clear hno hc
      have hE : (ofE s == 0) = decide (ofN s ≠ 0) := by
        unfold ofE
        by_cases h : ofN s = 0
        · simp [h]
        · simp [h]
      cases hz : decide (ofN s ≠ 0)
      all_goals
        rw [hz] at hE HV
        clear hz
        go_wp2_with (go_at_call 90; refine (refOf _ _).mono ?_; rintro e w1 ⟨rfl, hb1⟩)
        go_ret
        exact ⟨by rw [HV.out]; rfl, bcomp hb hb1⟩
def named (s : ByteArray) : Bool := tokName s && !isKw s
set_option maxRecDepth 100000 in
set_option maxHeartbeats 1600000 in
theorem refNamed (s : ByteArray) (w : World) (hs : s.size ≤ maxLen) :
    Calls Tryd.prog 63 #[.string s] w fun e w' => e = .returned (.bool (named s)) ∧ Below w.heap.size w w' := by
  have h2 := Lib.hid (fun w => refKeyword s w)
  have c1 := fun w => refTokName s w hs
  unfold named
  generalize tokName s = y at *
  have h1 := Lib.hid c1
  clear c1
  cases y
  · go_enter Tryd.func63, Tryd.ntmps63
    go_wp2_with (go_at_call 79; refine (h1.out _).mono ?_; rintro e w1 ⟨rfl, rfl⟩)
    go_ret
    exact ⟨rfl, Below.refl _ _⟩
  · go_enter Tryd.func63, Tryd.ntmps63
    go_wp2_with (first | (go_at_call 79; refine (h1.out _).mono ?_; rintro e w1 ⟨rfl, rfl⟩) | (go_at_call 80; refine (h2.out _).mono ?_; rintro e w2 ⟨rfl, hb2⟩))
    go_ret
    exact ⟨rfl, hb2⟩
end Go.Proofs.YtjdbdoeopobciaaDoor
