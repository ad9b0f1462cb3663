/- Contracts of the reference's Fields and Form. Condition: the instruction reads. -/
import Derived.Test.YtjdbdoeopobciaaDoorForm
import Derived.Test.YtjdbdoeopobciaaDoorRefA
set_option linter.unusedVariables false
set_option linter.unusedSimpArgs false
namespace Go.Proofs.YtjdbdoeopobciaaDoor
open Go.ChangeShapes Go.WideShapes Go.ChangeAt Go.RowKit
/-- The fields of the kinds, as the reference has them. -/
def formR : List (Bool × Bool × Int) := [(true, false, 1), (true, false, -1), (true, true, 1), (false, true, 2), (true, true, -1), (true, true, 0), (false, true, 1), (true, true, 1), (false, true, 0), (false, true, 1), (false, true, 0), (false, false, 0), (false, false, 1)]
theorem formR_is (k : Nat) (d nm : Bool) (n : Int) (h : formL[k]? = some (d, nm, n)) : ∃ m, formR[k]? = some (d, nm, m) ∧ (k ≠ 1 → m = n) := by
  have hk : k < 13 := by have := (List.getElem?_eq_some_iff.1 h).1; rw [formL_len] at this; exact this
  have : k = 0 ∨ k = 1 ∨ k = 2 ∨ k = 3 ∨ k = 4 ∨ k = 5 ∨ k = 6 ∨ k = 7 ∨ k = 8 ∨ k = 9 ∨ k = 10 ∨ k = 11 ∨ k = 12 := by omega
  rcases this with rfl | rfl | rfl | rfl | rfl | rfl | rfl | rfl | rfl | rfl | rfl | rfl | rfl <;> (cases h; exact ⟨_, rfl, by simp⟩)
set_option maxRecDepth 100000 in
set_option maxHeartbeats 3200000 in
theorem refFields (k : Nat) (f : Bool × Bool × Int) (h : formR[k]? = some f) (w : World) :
    Calls Tryd.prog 81 #[.int .u8 k] w fun e w' => e = .returned (.tuple #[.agg #[.bool f.1, .bool f.2.1, .int .i64 f.2.2], .bool true]) ∧ Below w.heap.size w w' := by
  have hk : k < 13 := by have := (List.getElem?_eq_some_iff.1 h).1; exact this
  have : k = 0 ∨ k = 1 ∨ k = 2 ∨ k = 3 ∨ k = 4 ∨ k = 5 ∨ k = 6 ∨ k = 7 ∨ k = 8 ∨ k = 9 ∨ k = 10 ∨ k = 11 ∨ k = 12 := by omega
  clear hk
  rcases this with rfl | rfl | rfl | rfl | rfl | rfl | rfl | rfl | rfl | rfl | rfl | rfl | rfl <;>
    (cases h
     go_enter Tryd.func81, Tryd.ntmps81
     go_wp2
     first
       | exact bodyPost_ret (v := .tuple #[.agg #[.bool true, .bool false, .int .i64 1], .bool true]) (by simp [results, Tryd.results81, go_sem]) rfl ⟨rfl, (Below.refl _ _).alloc (Nat.le_refl _) _⟩
       | exact bodyPost_ret (v := .tuple #[.agg #[.bool true, .bool false, .int .i64 (-1)], .bool true]) (by simp [results, Tryd.results81, go_sem]) rfl ⟨rfl, (Below.refl _ _).alloc (Nat.le_refl _) _⟩
       | exact bodyPost_ret (v := .tuple #[.agg #[.bool true, .bool true, .int .i64 1], .bool true]) (by simp [results, Tryd.results81, go_sem]) rfl ⟨rfl, (Below.refl _ _).alloc (Nat.le_refl _) _⟩
       | exact bodyPost_ret (v := .tuple #[.agg #[.bool false, .bool true, .int .i64 2], .bool true]) (by simp [results, Tryd.results81, go_sem]) rfl ⟨rfl, (Below.refl _ _).alloc (Nat.le_refl _) _⟩
       | exact bodyPost_ret (v := .tuple #[.agg #[.bool true, .bool true, .int .i64 (-1)], .bool true]) (by simp [results, Tryd.results81, go_sem]) rfl ⟨rfl, (Below.refl _ _).alloc (Nat.le_refl _) _⟩
       | exact bodyPost_ret (v := .tuple #[.agg #[.bool true, .bool true, .int .i64 0], .bool true]) (by simp [results, Tryd.results81, go_sem]) rfl ⟨rfl, (Below.refl _ _).alloc (Nat.le_refl _) _⟩
       | exact bodyPost_ret (v := .tuple #[.agg #[.bool false, .bool true, .int .i64 1], .bool true]) (by simp [results, Tryd.results81, go_sem]) rfl ⟨rfl, (Below.refl _ _).alloc (Nat.le_refl _) _⟩
       | exact bodyPost_ret (v := .tuple #[.agg #[.bool false, .bool true, .int .i64 0], .bool true]) (by simp [results, Tryd.results81, go_sem]) rfl ⟨rfl, (Below.refl _ _).alloc (Nat.le_refl _) _⟩
       | exact bodyPost_ret (v := .tuple #[.agg #[.bool false, .bool false, .int .i64 0], .bool true]) (by simp [results, Tryd.results81, go_sem]) rfl ⟨rfl, (Below.refl _ _).alloc (Nat.le_refl _) _⟩
       | exact bodyPost_ret (v := .tuple #[.agg #[.bool false, .bool false, .int .i64 1], .bool true]) (by simp [results, Tryd.results81, go_sem]) rfl ⟨rfl, (Below.refl _ _).alloc (Nat.le_refl _) _⟩)
set_option maxRecDepth 100000 in
set_option maxHeartbeats 1600000 in
theorem refFields_no (a : Int) (h : 13 ≤ a) (w : World) :
    Calls Tryd.prog 81 #[.int .u8 a] w fun e w' => e = .returned (.tuple #[.agg #[.bool false, .bool false, .int .i64 0], .bool false]) ∧ Below w.heap.size w w' := by
  have e0 : (a == 0) = false := by rw [beq_eq_false_iff_ne]; omega
  have e1 : (a == 1) = false := by rw [beq_eq_false_iff_ne]; omega
  have e2 : (a == 2) = false := by rw [beq_eq_false_iff_ne]; omega
  have e3 : (a == 3) = false := by rw [beq_eq_false_iff_ne]; omega
  have e4 : (a == 4) = false := by rw [beq_eq_false_iff_ne]; omega
  have e5 : (a == 5) = false := by rw [beq_eq_false_iff_ne]; omega
  have e6 : (a == 6) = false := by rw [beq_eq_false_iff_ne]; omega
  have e7 : (a == 7) = false := by rw [beq_eq_false_iff_ne]; omega
  have e8 : (a == 8) = false := by rw [beq_eq_false_iff_ne]; omega
  have e9 : (a == 9) = false := by rw [beq_eq_false_iff_ne]; omega
  have e10 : (a == 10) = false := by rw [beq_eq_false_iff_ne]; omega
  have e11 : (a == 11) = false := by rw [beq_eq_false_iff_ne]; omega
  have e12 : (a == 12) = false := by rw [beq_eq_false_iff_ne]; omega
  go_enter Tryd.func81, Tryd.ntmps81
  go_wp2
  exact bodyPost_ret (v := .tuple #[.agg #[.bool false, .bool false, .int .i64 0], .bool false]) (by simp [results, Tryd.results81, go_sem]) rfl ⟨rfl, (Below.refl _ _).alloc (Nat.le_refl _) _⟩
theorem field_casesR (d : Bool) (s : ByteArray) : (fieldB d s = false ∧ d = true ∧ named s = false) ∨ (fieldB d s = false ∧ d = false ∧ s.toList.isEmpty = false) ∨ (fieldB d s = true ∧ d = true ∧ named s = true) ∨ (fieldB d s = true ∧ d = false ∧ s.toList.isEmpty = true) := by
  cases d
  · cases h : s.toList.isEmpty <;> simp [fieldB, h]
  · cases h2 : named s <;> simp [fieldB, h2]
end Go.Proofs.YtjdbdoeopobciaaDoor
