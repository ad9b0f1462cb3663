/- The operators on words as functions of numbers, and contracts of package word's small functions: called in whatever memory they return what these functions say, and write nothing. Conditions: the width is one from 1 to 64; the words are less than 2 to the power of the width. -/
import Derived.Test.YtgllkgedjplpdaaDoorOpB
import Derived.Test.YtgllkgedjplpdaaDoorRowE
import Derived.Deep.RegionWith
import Derived.Laws.Bits64
import Derived.Laws.Bits64b
set_option linter.unusedVariables false
set_option linter.unusedSimpArgs false
namespace Go.Proofs.YtgllkgedjplpdaaDoor
open Go.ChangeShapes Go.WideShapes Go.ChangeAt Go.RowKit
def topZ (n : Nat) (a : Int) : Bool := decide ((2 : Int) ^ (n - 1) ≤ a)
def sgnZ (n : Nat) (a : Int) : Int := if topZ n a then a - 2 ^ n else a
def bitZ (b : Bool) : Int := if b then 1 else 0
/-- What an operator makes of two words, of which the lowest bits count. -/
def rawZ : Nat → Nat → Int → Int → Int
  | 2, _, a, _ => 18446744073709551615 - a
  | 3, _, a, _ => IntKind.u64.wrap (-a)
  | 4, _, a, b => IntKind.u64.wrap (a + b)
  | 5, _, a, b => IntKind.u64.wrap (a - b)
  | 6, _, a, b => IntKind.u64.wrap (a * b)
  | 7, n, a, b => if b = 0 then 2 ^ n - 1 else a / b
  | 8, _, a, b => if b = 0 then a else a % b
  | 9, _, a, b => bits .and .u64 a b
  | 10, _, a, b => bits .or .u64 a b
  | 11, _, a, b => bits .xor .u64 a b
  | 12, n, a, b => if b < n then IntKind.u64.wrap (a * 2 ^ b.toNat) else 0
  | 13, n, a, b => if b < n then a / 2 ^ b.toNat else 0
  | 14, n, a, b => IntKind.u64.wrap (if b ≤ 63 then sgnZ n a / 2 ^ b.toNat else sgnZ n a / 9223372036854775808)
  | 15, _, a, b => bitZ (a == b)
  | 16, _, a, b => bitZ (a != b)
  | 17, _, a, b => bitZ (decide (a < b))
  | 18, _, a, b => bitZ (decide (a ≤ b))
  | 19, n, a, b => bitZ (decide (sgnZ n a < sgnZ n b))
  | 20, n, a, b => bitZ (decide (sgnZ n a ≤ sgnZ n b))
  | _, _, _, _ => 0
/-- .. of any two numbers, as a word. -/
def opZ (k n : Nat) (a b : Int) : Int := rawZ k n (a % 2 ^ n) (b % 2 ^ n) % 2 ^ n
theorem nat_pow (n : Nat) : ((2 ^ n : Nat) : Int) = (2 : Int) ^ n := by rw [Int.natCast_pow]; rfl
theorem ipow_le {m n : Nat} (h : m ≤ n) : (2 : Int) ^ m ≤ 2 ^ n := by
  rw [← nat_pow, ← nat_pow]; exact Int.ofNat_le.2 (Nat.pow_le_pow_right (n := 2) (by decide) h)
theorem pow_n (n : Nat) (h1 : 1 ≤ n) (h2 : n ≤ 64) : ∃ q : Int, (2 : Int) ^ n = 2 * q ∧ (2 : Int) ^ (n - 1) = q ∧ 1 ≤ q ∧ q ≤ 9223372036854775808 := by
  obtain ⟨k, rfl⟩ : ∃ k, n = k + 1 := ⟨n - 1, by omega⟩
  refine ⟨2 ^ k, by rw [Int.pow_succ, Int.mul_comm], rfl, ?_, ?_⟩
  · exact Int.le_trans (by decide) (Int.add_one_le_of_lt (Int.pow_pos (by decide)))
  · have : (2 : Int) ^ k ≤ 2 ^ 63 := ipow_le (by omega)
    exact this
theorem pow_lt (n : Nat) (h : n < 64) : (2 : Int) ^ n ≤ 9223372036854775808 := by
  have : (2 : Int) ^ n ≤ 2 ^ 63 := ipow_le (by omega)
  exact this
theorem mask_is (n : Nat) (h1 : 1 ≤ n) (h2 : n ≤ 64) : IntKind.u64.wrap (IntKind.u64.wrap (2 ^ n) - 1) = 2 ^ n - 1 := by
  obtain ⟨q, e1, _, q1, q2⟩ := pow_n n h1 h2
  rw [IntKind.wrap_u64, IntKind.wrap_u64, e1]
  omega
theorem mask_nat (n : Nat) : (2 : Int) ^ n - 1 = ((2 ^ n - 1 : Nat) : Int) := by
  have : 1 ≤ 2 ^ n := Nat.one_le_two_pow
  rw [Int.ofNat_sub this, nat_pow]; rfl
theorem and_mask (n : Nat) (h1 : 1 ≤ n) (h2 : n ≤ 64) (v : Int) (hv : InU64 v) : bits .and .u64 v (2 ^ n - 1) = v % 2 ^ n := by
  obtain ⟨m, rfl⟩ := Int.eq_ofNat_of_zero_le hv.1
  have hm : m < 18446744073709551616 := by have := hv.2; omega
  have hp : 2 ^ n ≤ 18446744073709551616 := (Nat.pow_le_pow_right (n := 2) (by decide) h2 : 2 ^ n ≤ 2 ^ 64)
  have h0 : 1 ≤ 2 ^ n := Nat.one_le_two_pow
  rw [mask_nat, bits_and_u64_nat m (2 ^ n - 1) hm (by omega), Nat.and_two_pow_sub_one_eq_mod, Int.natCast_emod, nat_pow]
theorem mod_in (n : Nat) (h2 : n ≤ 64) (v : Int) : 0 ≤ v % 2 ^ n ∧ v % 2 ^ n < 2 ^ n ∧ (2 : Int) ^ n ≤ 18446744073709551616 := by
  have hp : (2 : Int) ^ n ≤ 2 ^ 64 := ipow_le h2
  have h0 : (0 : Int) < 2 ^ n := Int.pow_pos (by decide)
  exact ⟨Int.emod_nonneg _ (by omega), Int.emod_lt_of_pos _ h0, hp⟩
theorem wrap_mod (n : Nat) (h2 : n ≤ 64) (x : Int) : IntKind.u64.wrap x % 2 ^ n = x % 2 ^ n := by
  rw [IntKind.wrap_u64]
  refine Int.emod_emod_of_dvd x ?_
  have : (18446744073709551616 : Int) = 2 ^ n * 2 ^ (64 - n) := by
    rw [← Int.pow_add, show n + (64 - n) = 64 from by omega]; rfl
  exact ⟨_, this⟩
theorem xor_max (m : Int) (hm : InU64 m) : bits .xor .u64 18446744073709551615 m = 18446744073709551615 - m := by
  obtain ⟨k, rfl⟩ := Int.eq_ofNat_of_zero_le hm.1
  have hk : k < 18446744073709551616 := by have := hm.2; omega
  show IntKind.u64.wrap ((BitVec.ofInt 64 18446744073709551615 ^^^ BitVec.ofInt 64 (k : Int)).toNat : Int) = _
  rw [show BitVec.ofInt 64 18446744073709551615 = BitVec.allOnes 64 from rfl, BitVec.allOnes_xor, BitVec.toNat_not, BitVec.ofInt_natCast, BitVec.toNat_ofNat, Nat.mod_eq_of_lt hk, IntKind.wrap_u64]
  omega
theorem or_high (n : Nat) (h2 : n ≤ 64) (a : Int) (ha0 : 0 ≤ a) (ha1 : a < 2 ^ n) : bits .or .u64 a (18446744073709551616 - 2 ^ n) = a + (18446744073709551616 - 2 ^ n) := by
  obtain ⟨k, rfl⟩ := Int.eq_ofNat_of_zero_le ha0
  have hk : k < 2 ^ n := by rw [← nat_pow] at ha1; omega
  have hp : 2 ^ n ≤ 18446744073709551616 := (Nat.pow_le_pow_right (n := 2) (by decide) h2 : 2 ^ n ≤ 2 ^ 64)
  have h0 : 1 ≤ 2 ^ n := Nat.one_le_two_pow
  have e : (18446744073709551616 : Int) - 2 ^ n = ((18446744073709551616 - 2 ^ n : Nat) : Int) := by rw [Int.ofNat_sub hp, nat_pow]; rfl
  have e2 : 18446744073709551616 - 2 ^ n = (2 ^ (64 - n) - 1) <<< n := by
    rw [Nat.shiftLeft_eq, Nat.sub_mul, ← Nat.pow_add, show 64 - n + n = 64 from by omega]; omega
  rw [e, bits_or_u64_nat k _ (by omega) (by omega), e2, Nat.or_comm, ← Nat.shiftLeft_add_eq_or_of_lt hk]
  omega
theorem sgn_high (n : Nat) (h1 : 1 ≤ n) (h2 : n ≤ 64) (a : Int) (ha1 : a < 2 ^ n) (ha2 : topZ n a = true) : wrap64 (bits .or .u64 a (bits .xor .u64 18446744073709551615 (2 ^ n - 1))) = sgnZ n a := by
  obtain ⟨q, e1, e2, q1, q2⟩ := pow_n n h1 h2
  have ha0 : q ≤ a := by rw [← e2]; exact of_decide_eq_true ha2
  unfold sgnZ
  rw [if_pos ha2, xor_max _ (by unfold InU64; omega), show (18446744073709551615 : Int) - (2 ^ n - 1) = 18446744073709551616 - 2 ^ n from by omega, or_high n h2 a (by omega) ha1]
  unfold wrap64
  rw [e1] at ha1 ⊢
  omega
theorem sgn_low (n : Nat) (h1 : 1 ≤ n) (h2 : n ≤ 64) (a : Int) (ha0 : 0 ≤ a) (ha2 : topZ n a = false) : wrap64 a = sgnZ n a := by
  obtain ⟨q, e1, e2, q1, q2⟩ := pow_n n h1 h2
  have ha1 : ¬ q ≤ a := by rw [← e2]; exact of_decide_eq_false ha2
  unfold sgnZ
  rw [if_neg (by rw [ha2]; simp)]
  unfold wrap64
  omega
theorem high_is (n : Nat) (h1 : 1 ≤ n) (h2 : n ≤ 64) (a : Int) (ha0 : 0 ≤ a) (ha1 : a < 2 ^ n) : (bits .and .u64 (a / 2 ^ (n - 1)) 1 == 1) = topZ n a := by
  obtain ⟨q, e1, e2, q1, q2⟩ := pow_n n h1 h2
  have hq : 0 ≤ a / q ∧ a / q ≤ 1 := ⟨Int.ediv_nonneg ha0 (by omega), Int.lt_add_one_iff.1 (Int.ediv_lt_of_lt_mul (by omega) (by omega))⟩
  rw [e2]
  have h := and_mask 1 (by decide) (by decide) (a / q) (by unfold InU64; omega)
  rw [show (2 : Int) ^ 1 - 1 = 1 from rfl, show (2 : Int) ^ 1 = 2 from rfl] at h
  rw [h]
  unfold topZ
  rw [e2]
  by_cases hle : q ≤ a
  · have : a / q = 1 := by
      have := Int.le_ediv_of_mul_le (a := 1) (b := a) (c := q) (by omega) (by omega)
      omega
    rw [this, decide_eq_true hle]; rfl
  · have : a / q = 0 := Int.ediv_eq_zero_of_lt ha0 (by omega)
    rw [this, decide_eq_false hle]; rfl
theorem sgn_in (n : Nat) (h1 : 1 ≤ n) (h2 : n ≤ 64) (a : Int) (ha0 : 0 ≤ a) (ha1 : a < 2 ^ n) : -9223372036854775808 ≤ sgnZ n a ∧ sgnZ n a ≤ 9223372036854775807 := by
  obtain ⟨q, e1, e2, q1, q2⟩ := pow_n n h1 h2
  unfold sgnZ topZ
  rw [e2, e1]
  split
  · rename_i h; have := of_decide_eq_true h; omega
  · rename_i h; have : ¬ q ≤ a := fun h' => h (decide_eq_true h'); omega
theorem wrap_in (x : Int) : InU64 (IntKind.u64.wrap x) := by rw [IntKind.wrap_u64]; exact ⟨Int.emod_nonneg _ (by decide), Int.emod_lt_of_pos _ (by decide)⟩
theorem bits_in (op : BinOp) (a b : Int) : InU64 (bits op .u64 a b) := by have := bits_within op .u64 a b; exact ⟨this.1, by have := this.2; have e : IntKind.u64.max = 18446744073709551615 := rfl; omega⟩
theorem bit_in (x : Bool) : InU64 (bitZ x) := by cases x <;> exact ⟨by decide, by decide⟩
theorem raw_in (k n : Nat) (hk0 : 2 ≤ k) (hk1 : k ≤ 20) (a b : Int) (h1 : 1 ≤ n) (h2 : n ≤ 64) (ha0 : 0 ≤ a) (ha1 : a < 2 ^ n) (hb0 : 0 ≤ b) (hb1 : b < 2 ^ n) : InU64 (rawZ k n a b) := by
  have hp := (mod_in n h2 0).2.2
  have hp0 : (0 : Int) < 2 ^ n := Int.pow_pos (by decide)
  have hk : k = 2 ∨ k = 3 ∨ k = 4 ∨ k = 5 ∨ k = 6 ∨ k = 7 ∨ k = 8 ∨ k = 9 ∨ k = 10 ∨ k = 11 ∨ k = 12 ∨ k = 13 ∨ k = 14 ∨ k = 15 ∨ k = 16 ∨ k = 17 ∨ k = 18 ∨ k = 19 ∨ k = 20 := by omega
  rcases hk with rfl | rfl | rfl | rfl | rfl | rfl | rfl | rfl | rfl | rfl | rfl | rfl | rfl | rfl | rfl | rfl | rfl | rfl | rfl
  · show InU64 (18446744073709551615 - a); unfold InU64; omega
  · exact wrap_in _
  · exact wrap_in _
  · exact wrap_in _
  · exact wrap_in _
  · show InU64 (if b = 0 then 2 ^ n - 1 else a / b)
    split
    · unfold InU64; omega
    · have := Int.ediv_le_self b ha0; have := Int.ediv_nonneg ha0 hb0; unfold InU64; omega
  · show InU64 (if b = 0 then a else a % b)
    split
    · unfold InU64; omega
    · have := Int.emod_lt_of_pos a (show 0 < b by omega); have := Int.emod_nonneg a (show b ≠ 0 by omega); unfold InU64; omega
  · exact bits_in .and a b
  · exact bits_in .or a b
  · exact bits_in .xor a b
  · show InU64 (if b < n then IntKind.u64.wrap (a * 2 ^ b.toNat) else 0)
    split
    · exact wrap_in _
    · exact ⟨by decide, by decide⟩
  · show InU64 (if b < n then a / 2 ^ b.toNat else 0)
    split
    · have := Int.ediv_le_self (2 ^ b.toNat) ha0; have := Int.ediv_nonneg ha0 (show (0 : Int) ≤ 2 ^ b.toNat from Int.le_of_lt (Int.pow_pos (by decide))); unfold InU64; omega
    · exact ⟨by decide, by decide⟩
  · exact wrap_in _
  all_goals exact bit_in _
end Go.Proofs.YtgllkgedjplpdaaDoor
