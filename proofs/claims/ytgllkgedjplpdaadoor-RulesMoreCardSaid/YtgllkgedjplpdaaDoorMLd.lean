/- Contracts of the reference's words: called in whatever memory they return numbers that are equal to those of the program's, modulo 2 to the power of the width, and write nothing that was there. Conditions: the width is one from 1 to 64, the operator one of those with one or two arguments, and as many numbers come in. Contracts of word.Check, Trim, table and Apply: called in whatever memory they return what the functions on numbers say, and write nothing that was there. Conditions: the width is one from 1 to 64, the operator one of those with one or two arguments, and as many numbers come in. What the two package-level tables hold, and which flat programs are valid: plain definitions. No condition. -/
import Derived.Test.YtgllkgedjplpdaaDoorMWd
import Derived.Test.YtgllkgedjplpdaaDoorMix
import Derived.Test.YtgllkgedjplpdaaDoorMNm

set_option linter.unusedVariables false
set_option linter.unusedSimpArgs false
namespace Go.Proofs.YtgllkgedjplpdaaDoor
open Go.ChangeShapes Go.WideShapes Go.ChangeAt Go.RowKit
theorem pow_in (n : Nat) (h2 : n < 64) : IntKind.u64.wrap (2 ^ n) = (2 : Int) ^ n := by
  have := pow_lt n h2
  have h0 : (0 : Int) < 2 ^ n := Int.pow_pos (by decide)
  rw [IntKind.wrap_u64]; exact Int.emod_eq_of_lt (by omega) (by omega)
set_option maxRecDepth 100000 in
theorem r_check (n : Int) (h1 : 1 ≤ n) (h2 : n ≤ 64) (w : World) : Calls Tryd.prog 111 #[.int .i64 n] w fun e w' => e = .returned (.int .i64 0) ∧ w = w' := by
  go_enter Tryd.func111, Tryd.ntmps111
  go_wp2
  go_ret
  exact ⟨rfl, rfl⟩
set_option maxRecDepth 100000 in
theorem r_trim (n : Nat) (v : Int) (h1 : 1 ≤ n) (h2 : n ≤ 64) (hv : InU64 v) (w : World) : Calls Tryd.prog 112 #[.int .i64 n, .int .u64 v] w fun e w' => e = .returned (.int .u64 (v % 2 ^ n)) ∧ w = w' := by
  obtain ⟨hv0, hv1⟩ := hv
  by_cases hn : n = 64
  · subst hn
    have e : Hid (v % 2 ^ 64 = v) := Int.emod_eq_of_lt hv0 hv1
    go_enter Tryd.func112, Tryd.ntmps112
    go_wp2
    go_ret
    exact ⟨by rw [e.out]; rfl, rfl⟩
  · have hb : ((n : Int) == 64) = false := by rw [beq_eq_false_iff_ne]; omega
    have hp := pow_in n (by omega)
    have h0 : (0 : Int) < 2 ^ n := Int.pow_pos (by decide)
    have hlt := pow_lt n (by omega)
    clear hn
    go_enter Tryd.func112, Tryd.ntmps112
    go_wp2
    go_ret
    exact ⟨rfl, rfl⟩
set_option maxRecDepth 100000 in
theorem refTrim (n : Nat) (v : Int) (h1 : 1 ≤ n) (h2 : n ≤ 64) (hv : InU64 v) (w : World) : Calls Tryd.prog 89 #[.int .i64 n, .int .u64 v] w fun e w' => e = .returned (.tuple #[.int .u64 (v % 2 ^ n), .int .i64 0]) ∧ w = w' := by
  have HM := Lib.hid (r_trim n v h1 h2 hv)
  clear hv
  go_enter Tryd.func89, Tryd.ntmps89
  go_wp2_with (first | (go_at_call 111; refine (r_check _ (by omega) (by omega) _).mono ?_; rintro e w1 ⟨rfl, rfl⟩) | (go_at_call 112; refine (HM.out _).mono ?_; rintro e w2 ⟨rfl, rfl⟩))
  go_ret2
  exact ⟨rfl, rfl⟩
theorem top_is (n : Nat) (h1 : 1 ≤ n) (h2 : n ≤ 64) (a : Int) (ha0 : 0 ≤ a) (ha1 : a < 2 ^ n) : (a / 2 ^ (n - 1) == 1) = topZ n a := by
  obtain ⟨q, e1, e2, q1, q2⟩ := pow_n n h1 h2
  unfold topZ
  rw [e2]
  by_cases hle : q ≤ a
  · have h3 := Int.le_ediv_of_mul_le (a := 1) (b := a) (c := q) (by omega) (by omega)
    have h4 : a / q < 2 := Int.ediv_lt_of_lt_mul (by omega) (by omega)
    rw [show a / q = 1 by omega, decide_eq_true hle]; rfl
  · rw [show a / q = 0 from Int.ediv_eq_zero_of_lt ha0 (by omega), decide_eq_false hle]; rfl
theorem less_is (n : Nat) (h1 : 1 ≤ n) (h2 : n ≤ 64) (a b : Int) (ha0 : 0 ≤ a) (ha1 : a < 2 ^ n) (hb0 : 0 ≤ b) (hb1 : b < 2 ^ n) : (if topZ n a != topZ n b then topZ n a else decide (a < b)) = decide (sgnZ n a < sgnZ n b) := by
  obtain ⟨q, e1, e2, q1, q2⟩ := pow_n n h1 h2
  unfold sgnZ
  cases ha : topZ n a <;> cases hb : topZ n b
  · rfl
  · have := of_decide_eq_false ha; have := of_decide_eq_true hb
    simp; omega
  · have := of_decide_eq_true ha; have := of_decide_eq_false hb
    simp; omega
  · simp
def shF (o : Nat) (n : Nat) (a : Int) (k : Nat) : Int := if o = 12 then a * 2 ^ k % 2 ^ n else if o = 14 ∧ topZ n a = true then (a - 2 ^ n) / 2 ^ k + 2 ^ n else a / 2 ^ k
theorem div_step (s : Int) (k : Nat) : s / 2 ^ k / 2 = s / 2 ^ (k + 1) := by
  rw [Int.pow_succ, Int.ediv_ediv_of_nonneg (show (0 : Int) ≤ 2 ^ k from Int.le_of_lt (Int.pow_pos (by decide)))]
theorem sh12 (n : Nat) (h2 : n ≤ 64) (a : Int) (k : Nat) : IntKind.u64.wrap (2 * shF 12 n a k) % 2 ^ n = shF 12 n a (k + 1) := by
  rw [wrap_mod n h2]
  show (2 * (a * 2 ^ k % 2 ^ n)) % 2 ^ n = a * 2 ^ (k + 1) % 2 ^ n
  rw [Int.mul_emod, Int.emod_emod, ← Int.mul_emod, Int.pow_succ, Int.mul_comm 2, Int.mul_assoc]
theorem sh13 (n : Nat) (a : Int) (k : Nat) : shF 13 n a k / 2 = shF 13 n a (k + 1) := div_step a k
theorem sh14 (n : Nat) (a : Int) (k : Nat) (ht : topZ n a = false) : shF 14 n a k / 2 = shF 14 n a (k + 1) := by
  unfold shF
  rw [if_neg (by decide), if_neg (by rw [ht]; simp), if_neg (by decide), if_neg (by rw [ht]; simp)]
  exact div_step a k
theorem neg_div (s q : Int) (k : Nat) (h0 : -q ≤ s) (h1 : s < 0) : -q ≤ s / 2 ^ k ∧ s / 2 ^ k < 0 := by
  have hp : (0 : Int) < 2 ^ k := Int.pow_pos (by decide)
  refine ⟨?_, Int.ediv_neg_of_neg_of_pos h1 hp⟩
  refine Int.le_ediv_of_mul_le hp ?_
  have h : 1 ≤ (2 : Int) ^ k := by omega
  have : 0 ≤ q * (2 ^ k - 1) := Int.mul_nonneg (by omega) (by omega)
  rw [Int.mul_sub] at this
  rw [Int.neg_mul]
  omega
theorem sh14t (n : Nat) (h1 : 1 ≤ n) (h2 : n ≤ 64) (a : Int) (k : Nat) (ha1 : a < 2 ^ n) (ht : topZ n a = true) : shF 14 n a k / 2 + 2 ^ (n - 1) = shF 14 n a (k + 1) := by
  obtain ⟨q, e1, e2, q1, q2⟩ := pow_n n h1 h2
  unfold shF
  rw [if_neg (by decide), if_pos ⟨rfl, ht⟩, if_neg (by decide), if_pos ⟨rfl, ht⟩, e2, ← div_step, e1]
  omega
theorem sh_in (o n : Nat) (ho : o = 12 ∨ o = 13 ∨ o = 14) (h1 : 1 ≤ n) (h2 : n ≤ 64) (a : Int) (ha0 : 0 ≤ a) (ha1 : a < 2 ^ n) (k : Nat) : 0 ≤ shF o n a k ∧ shF o n a k < 2 ^ n := by
  obtain ⟨q, e1, e2, q1, q2⟩ := pow_n n h1 h2
  have hp : (0 : Int) < 2 ^ k := Int.pow_pos (by decide)
  unfold shF
  split
  · exact ⟨(mod_in n h2 _).1, (mod_in n h2 _).2.1⟩
  · split
    · rename_i h
      have ht : q ≤ a := by rw [← e2]; exact of_decide_eq_true h.2
      have := neg_div (a - 2 ^ n) q k (by omega) (by omega)
      omega
    · have := Int.ediv_le_self (2 ^ k) ha0; have := Int.ediv_nonneg ha0 (Int.le_of_lt hp); omega
theorem small_div (s q : Int) (k : Nat) (h0 : -q ≤ s) (h1 : s < q) (hq : q ≤ 2 ^ k) : s / 2 ^ k = if s < 0 then -1 else 0 := by
  have hp : (0 : Int) < 2 ^ k := Int.pow_pos (by decide)
  split
  · have h3 := Int.ediv_neg_of_neg_of_pos (a := s) (b := 2 ^ k) (by omega) hp
    have h4 : -1 ≤ s / 2 ^ k := Int.le_ediv_of_mul_le hp (by omega)
    omega
  · exact Int.ediv_eq_zero_of_lt (by omega) (by omega)
theorem sgn_range (n : Nat) (h1 : 1 ≤ n) (h2 : n ≤ 64) (a : Int) (ha0 : 0 ≤ a) (ha1 : a < 2 ^ n) : -(2 ^ (n - 1)) ≤ sgnZ n a ∧ sgnZ n a < 2 ^ (n - 1) := by
  obtain ⟨q, e1, e2, q1, q2⟩ := pow_n n h1 h2
  unfold sgnZ topZ
  rw [e2]
  split
  · rename_i h; have := of_decide_eq_true h; omega
  · rename_i h; have : ¬ q ≤ a := fun h' => h (decide_eq_true h'); omega
theorem sh_end (o n : Nat) (ho : o = 12 ∨ o = 13 ∨ o = 14) (h1 : 1 ≤ n) (h2 : n ≤ 64) (a b : Int) (ha0 : 0 ≤ a) (ha1 : a < 2 ^ n) (hb0 : 0 ≤ b) (k : Nat) (hk1 : (k : Int) ≤ b) (hk2 : k ≤ n) (hk3 : ¬ ((k : Int) < b ∧ k < n)) : shF o n a k % 2 ^ n = rawZ o n a b % 2 ^ n := by
  obtain ⟨q, e1, e2, q1, q2⟩ := pow_n n h1 h2
  have hpn : (0 : Int) < 2 ^ n := by omega
  rcases ho with rfl | rfl | rfl
  · show (a * 2 ^ k % 2 ^ n) % 2 ^ n = (if b < n then IntKind.u64.wrap (a * 2 ^ b.toNat) else 0) % 2 ^ n
    rw [Int.emod_emod]
    split
    · rw [wrap_mod n h2, show b.toNat = k by omega]
    · rw [show k = n by omega, Int.mul_emod_left]; rfl
  · show a / 2 ^ k % 2 ^ n = (if b < n then a / 2 ^ b.toNat else 0) % 2 ^ n
    split
    · rw [show b.toNat = k by omega]
    · rw [show k = n by omega, Int.ediv_eq_zero_of_lt ha0 ha1]
  · show shF 14 n a k % 2 ^ n = IntKind.u64.wrap (if b ≤ 63 then sgnZ n a / 2 ^ b.toNat else sgnZ n a / 9223372036854775808) % 2 ^ n
    rw [wrap_mod n h2]
    have hsh : shF 14 n a k % 2 ^ n = sgnZ n a / 2 ^ k % 2 ^ n := by
      unfold shF sgnZ
      rw [if_neg (by decide)]
      cases topZ n a
      · simp
      · rw [if_pos ⟨rfl, rfl⟩, if_pos rfl, Int.add_emod_right]
    rw [hsh]
    have hr := sgn_range n h1 h2 a ha0 ha1
    by_cases hbn : b < n
    · rw [if_pos (by omega), show b.toNat = k by omega]
    · have hkn : k = n := by omega
      subst hkn
      have e1 := small_div _ (2 ^ (k - 1)) k hr.1 hr.2 (ipow_le (by omega))
      by_cases hb63 : b ≤ 63
      · rw [if_pos hb63, e1, small_div _ (2 ^ (k - 1)) b.toNat hr.1 hr.2 (ipow_le (by omega))]
      · rw [if_neg hb63, e1, show (9223372036854775808 : Int) = 2 ^ 63 from rfl, small_div _ (2 ^ (k - 1)) 63 hr.1 hr.2 (ipow_le (by omega))]
theorem ones_mod (n : Nat) (h2 : n ≤ 64) : (18446744073709551615 : Int) % 2 ^ n = (2 ^ n - 1) % 2 ^ n := by
  have := wrap_mod n h2 (-1)
  rw [show IntKind.u64.wrap (-1) = 18446744073709551615 from rfl] at this
  rw [this, show (2 : Int) ^ n - 1 = -1 + 2 ^ n from by omega, Int.add_emod_right]
theorem le_is (s t : Int) : (!decide (t < s)) = decide (s ≤ t) := by
  by_cases h : t < s
  · rw [decide_eq_true h, decide_eq_false (by omega)]; rfl
  · rw [decide_eq_false h, decide_eq_true (by omega)]; rfl
open Go.ChangeShapes Go.WideShapes Go.ChangeAt Go.RowKit
def nilT : Array Value := #[.nilFunc, .nilFunc, .nilFunc, .nilFunc, .nilFunc, .nilFunc, .nilFunc, .nilFunc, .nilFunc, .nilFunc, .nilFunc, .nilFunc, .nilFunc, .nilFunc, .nilFunc, .nilFunc, .nilFunc, .nilFunc, .nilFunc, .nilFunc, .nilFunc, .nilFunc]
def celF (n : Nat) (l : List Int) (k : Nat) : Array Value := #[.int .u64 (if 0 < k then l.getD 0 0 % 2 ^ n else 0), .int .u64 (if 1 < k then l.getD 1 0 % 2 ^ n else 0), .int .u64 0]
theorem celF_step (n : Nat) (l : List Int) (k : Nat) (x : Int) (hk : k < 2) (hx : l[k]? = some x) : (celF n l k).setIfInBounds k (.int .u64 (x % 2 ^ n)) = celF n l (k + 1) := by
  have : k = 0 ∨ k = 1 := by omega
  rcases this with rfl | rfl
  · simp [celF, hx]
  · simp [celF, hx]
theorem celF_two (n : Nat) (l : List Int) (a b : Int) (h : l = [a, b]) : celF n l 2 = #[.int .u64 (a % 2 ^ n), .int .u64 (b % 2 ^ n), .int .u64 0] := by subst h; rfl
theorem celF_one (n : Nat) (l : List Int) (a : Int) (h : l = [a]) : celF n l 1 = #[.int .u64 (a % 2 ^ n), .int .u64 0, .int .u64 0] := by subst h; rfl
theorem celF_get (n : Nat) (l : List Int) (k : Nat) (hk : k < 2) : ∃ y, (celF n l k)[k]? = some (.int .u64 y) := by
  have : k = 0 ∨ k = 1 := by omega
  rcases this with rfl | rfl <;> simp [celF]
open Go.ChangeShapes Go.WideShapes Go.ChangeAt Go.RowKit
/-- The fields of the kinds of flat instructions: destination, the two operands, what the number means. -/
def shapeL : List (Bool × Bool × Bool × Int) := [(true, true, false, 0), (true, true, true, 0), (true, true, false, 1), (false, true, true, 1), (true, false, false, 2), (false, true, false, 2), (true, true, false, 3), (false, false, false, 4), (false, true, false, 4), (false, false, false, 0)]
structure LaidM (w : World) : Prop where
  shapes : ∀ k x, shapeL[k]? = some x → w.cell? ⟨0, k * 4, none⟩ = some (.bool x.1) ∧ w.cell? ⟨0, k * 4 + 1, none⟩ = some (.bool x.2.1) ∧ w.cell? ⟨0, k * 4 + 2, none⟩ = some (.bool x.2.2.1) ∧ w.cell? ⟨0, k * 4 + 3, none⟩ = some (.int .i64 x.2.2.2)
theorem LaidM.keep {w w' : World} (h : LaidM w) (k : Below w.heap.size w w') : LaidM w' :=
  ⟨fun i x hx => by obtain ⟨h1, h2, h3, h4⟩ := h.shapes i x hx; exact ⟨cell_keep k h1, cell_keep k h2, cell_keep k h3, cell_keep k h4⟩⟩
def refOk (f : FlatD) (r : RefD) (has : Bool) : Bool :=
  if has then (if r.reg == -1 then decide (r.num < 2 ^ f.width.toNat) else decide (0 ≤ r.reg) && decide (r.reg < f.regs) && r.num == 0) else r.reg == 0 && r.num == 0
def dstK (k : Int) : Bool := k == 0 || k == 1 || k == 2 || k == 4 || k == 6
def aK (k : Int) : Bool := k == 0 || k == 1 || k == 2 || k == 3 || k == 5 || k == 6 || k == 8
def bK (k op : Int) : Bool := k == 3 || (k == 1 && decide (4 ≤ op))
def mostF (f : FlatD) (k : Int) : Int := if k == 2 || k == 3 then f.arrays.length else if k == 4 || k == 5 then f.chans.length else if k == 6 then f.sites.length else if k == 7 || k == 8 then f.code.length else 1
def codeOk (f : FlatD) (c : CodeD) : Bool :=
  decide (c.kind ≤ 9) && (if c.kind == 1 then decide (2 ≤ c.op) && decide (c.op ≤ 20) else c.op == 0) && (decide (0 ≤ c.n) && decide (c.n < mostF f c.kind)) &&
    (if dstK c.kind then decide (0 ≤ c.dst) && decide (c.dst < f.regs) else c.dst == 0) && refOk f c.a (aK c.kind) && refOk f c.b (bK c.kind c.op)
def headOk (f : FlatD) : Bool :=
  decide (1 ≤ f.width) && decide (f.width ≤ 64) && decide (0 ≤ f.regs) && decide (f.regs ≤ 2097152) && namesOk f.chans && namesOk f.sites && (decide (f.arrays.length ≤ 32) && decide (1 ≤ f.code.length) && decide (f.code.length ≤ 4096))
def arrOk (n : Int) : Bool := decide (1 ≤ n) && decide (n ≤ 64)
def lastK (f : FlatD) : Int := match f.code.getLast? with | some c => c.kind | none => 0
/-- A flat program is valid. -/
def flatOk (f : FlatD) : Bool := headOk f && f.arrays.all arrOk && f.code.all (codeOk f) && (lastK f == 9 || lastK f == 7)
def flatE (f : FlatD) : Int := if flatOk f then 0 else 2
abbrev refVM (r : RefD) : Value := .agg #[.int .i64 r.reg, .int .u64 r.num]
abbrev codeV (c : CodeD) : Value := .agg #[.int .u8 c.kind, .int .u8 c.op, .int .i64 c.dst, .int .i64 c.n, .int .i64 c.a.reg, .int .u64 c.a.num, .int .i64 c.b.reg, .int .u64 c.b.num]
end Go.Proofs.YtgllkgedjplpdaaDoor
