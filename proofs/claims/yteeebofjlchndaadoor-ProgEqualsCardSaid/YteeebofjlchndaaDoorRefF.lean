/- Contracts of the reference's Fields and Form. Condition: the instruction reads. Contract of the reference's Form: it says of an instruction what prog.formed says. Condition: the instruction reads. -/
import Derived.Test.YteeebofjlchndaaDoorForm
import Derived.Test.YteeebofjlchndaaDoorRefA

set_option linter.unusedVariables false
set_option linter.unusedSimpArgs false
namespace Go.Proofs.YteeebofjlchndaaDoor
open Go.ChangeShapes Go.WideShapes Go.ChangeAt Go.RowKit
/-- The fields of the kinds, as the reference has them. -/
def formR : List (Bool × Bool × Int) := [(true, false, 1), (true, false, -1), (true, true, 1), (false, true, 2), (true, true, -1), (true, true, 0), (false, true, 1), (true, true, 1), (false, true, 0), (false, true, 1), (false, true, 0), (false, false, 0), (false, false, 1)]
theorem formR_is (k : Nat) (d nm : Bool) (n : Int) (h : formL[k]? = some (d, nm, n)) : ∃ m, formR[k]? = some (d, nm, m) ∧ (k ≠ 1 → m = n) := by
  have hk : k < 13 := by have := (List.getElem?_eq_some_iff.1 h).1; rw [formL_len] at this; exact this
  have : k = 0 ∨ k = 1 ∨ k = 2 ∨ k = 3 ∨ k = 4 ∨ k = 5 ∨ k = 6 ∨ k = 7 ∨ k = 8 ∨ k = 9 ∨ k = 10 ∨ k = 11 ∨ k = 12 := by omega
  rcases this with rfl | rfl | rfl | rfl | rfl | rfl | rfl | rfl | rfl | rfl | rfl | rfl | rfl <;> (cases h; exact ⟨_, rfl, by simp⟩)
theorem field_casesR (d : Bool) (s : ByteArray) : (fieldB d s = false ∧ d = true ∧ named s = false) ∨ (fieldB d s = false ∧ d = false ∧ s.toList.isEmpty = false) ∨ (fieldB d s = true ∧ d = true ∧ named s = true) ∨ (fieldB d s = true ∧ d = false ∧ s.toList.isEmpty = true) := by
  cases d
  · cases h : s.toList.isEmpty <;> simp [fieldB, h]
  · cases h2 : named s <;> simp [fieldB, h2]
open Go.ChangeShapes Go.WideShapes Go.ChangeAt Go.RowKit
/-- Is the number of operands the one that the reference asks for? -/
def lenB (x : InstrD) (z : Int) : Bool := decide ((x.args.length : Int) = z)
theorem lenB_cases (x : InstrD) (z : Int) : (lenB x z = true ∧ ((x.args.length : Int) != z) = false) ∨ (lenB x z = false ∧ ((x.args.length : Int) != z) = true) := by
  unfold lenB
  by_cases h : (x.args.length : Int) = z <;> simp [h]
def rbad (d nm : Bool) (x : InstrD) (z : Int) : Bool := !(fieldB d x.dst && fieldB nm x.name && lenB x z)
theorem rbad_1 (d nm : Bool) (x : InstrD) (z : Int) (h : fieldB d x.dst = false) : rbad d nm x z = true := by unfold rbad; rw [h]; rfl
theorem rbad_2 (d nm : Bool) (x : InstrD) (z : Int) (_ : fieldB d x.dst = true) (h : fieldB nm x.name = false) : rbad d nm x z = true := by unfold rbad; rw [h]; cases fieldB d x.dst <;> rfl
theorem rbad_3 (d nm : Bool) (x : InstrD) (z : Int) (b : Bool) (h0 : fieldB d x.dst = true) (h : fieldB nm x.name = true) (h2 : lenB x z = b) : rbad d nm x z = !b := by unfold rbad; rw [h0, h, h2]; cases b <;> rfl
theorem formB_rbad (x : InstrD) (d nm : Bool) (n z : Int) (hf : formL[x.kind.toNat]? = some (d, nm, n)) (hz : lenB x z = countB x n) (h : rbad d nm x z = true) : formB x = false := by
  unfold rbad at h
  unfold formB
  rw [hf, ]
  simp only
  rw [← hz]
  revert h
  cases fieldB d x.dst <;> cases fieldB nm x.name <;> cases lenB x z <;> simp
theorem formB_rgood (x : InstrD) (d nm : Bool) (n z : Int) (hf : formL[x.kind.toNat]? = some (d, nm, n)) (ho : opB x = true) (hz : lenB x z = countB x n) (h : rbad d nm x z = false) : formB x = x.args.all argB := by
  unfold rbad at h
  unfold formB
  rw [hf]
  simp only
  rw [← hz, ho]
  revert h
  cases fieldB d x.dst <;> cases fieldB nm x.name <;> cases lenB x z <;> simp
theorem count_op (x : InstrD) (n : Int) (hw : wantZ x n = arityZ x.op) : lenB x (arityZ x.op) = countB x n := by
  have hz := arityZ_le x.op
  unfold lenB countB
  rw [hw]
  by_cases h : (x.args.length : Int) = arityZ x.op
  · have h3 : x.args.length ≤ 32 := by omega
    simp [h, h3]
  · have : ¬ arityZ x.op < 0 := by omega
    simp [h]; omega
theorem count_plain (x : InstrD) (n : Int) (h0 : 0 ≤ n) (h2 : n ≤ 2) (hw : wantZ x n = n) : lenB x n = countB x n := by
  unfold lenB countB
  rw [hw]
  by_cases h : (x.args.length : Int) = n
  · have h3 : x.args.length ≤ 32 := by omega
    simp [h, h3]
  · simp [h]; omega
theorem count_call (x : InstrD) (n : Int) (hn : n = -1) (hw : wantZ x n = n) (m : Int) (hm : m = min (x.args.length : Int) 32) : lenB x m = countB x n := by
  unfold lenB countB
  rw [hw, hn, hm]
  by_cases h : x.args.length ≤ 32
  · have : min (x.args.length : Int) 32 = x.args.length := by omega
    simp [h, this]
  · have : ¬ (x.args.length : Int) = min (x.args.length : Int) 32 := by omega
    simp [this, h]
theorem run_min2 {P : Program} (ats : Array TypeId) (ty : TypeId) (a b : Int) (w : World) : (Builtin.min_ ats ty #[.int .i64 a, .int .i64 b]).run P w = .ok (.int .i64 (min a b)) w := by
  have : (if b < a then b else a) = min a b := by split <;> omega
  simp [Builtin.min_, Builtin.min2, this]
end Go.Proofs.YteeebofjlchndaaDoor
