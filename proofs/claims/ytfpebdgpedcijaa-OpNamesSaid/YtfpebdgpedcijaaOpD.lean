/- The walks of OpCommuting, OpInverse and OpLetters: for every input these laws return true. Conditions: an operator is a number from 0 to 255. -/
import Derived.Test.YtfpebdgpedcijaaOpB
namespace Go.Proofs.Ytfpebdgpedcijaa
open Go.ChangeShapes Go.WideShapes Go.ChangeAt Go.RowKit
/-- how many of the first k numbers commute -/
def cm : Nat → Nat
  | 0 => 0
  | k + 1 => cm k + if commZ (k : Int) then 1 else 0
theorem cm_le : ∀ k, cm k ≤ k
  | 0 => by simp [cm]
  | k + 1 => by have := cm_le k; rw [cm]; split <;> omega
theorem cm_256 : cm 256 = 7 := by kernel_rfl
theorem cm_yes (k : Nat) (h : commZ (k : Int) = true) : cm (k + 1) = cm k + 1 := by rw [cm, if_pos h]
theorem cm_no (k : Nat) (h : commZ (k : Int) = false) : cm (k + 1) = cm k := by rw [cm, if_neg (by rw [h]; simp)]; rfl
theorem comm_ar (a : Int) (h : commZ a = true) : arityZ a = 2 ∧ arityErr a = 0 := by
  rcases comm_cases a with (rfl | rfl | rfl | rfl | rfl | rfl | rfl) | ⟨hz, _⟩
  · exact ⟨rfl, rfl⟩
  · exact ⟨rfl, rfl⟩
  · exact ⟨rfl, rfl⟩
  · exact ⟨rfl, rfl⟩
  · exact ⟨rfl, rfl⟩
  · exact ⟨rfl, rfl⟩
  · exact ⟨rfl, rfl⟩
  · rw [hz] at h; cases h
set_option maxRecDepth 100000 in
set_option maxHeartbeats 800000 in
theorem w_OpCommuting (a : Int) (h0 : 0 ≤ a) (h1 : a ≤ 255) (w : World) :
    Calls Try.prog 9 #[.int .u8 a] w fun e w' => e = .returned (.bool true) ∧ Below w.heap.size w w' := by
  have hca : (commZ a = false) ∨ (commZ a = true ∧ (arityZ a != 2) = false ∧ (arityErr a != 0) = false) := by
    cases h : commZ a
    · exact .inl rfl
    · have := comm_ar a h; rw [this.1, this.2]; exact .inr ⟨rfl, rfl, rfl⟩
  rcases hca with hca | ⟨hca, har, hae⟩
  all_goals
    go_enter Try.func9, Try.ntmps9
    go_wp2_with (first
        | (go_at_call 14; refine (arity_of _ (by omega) _).mono ?_; rintro e w1 ⟨rfl, hb1⟩)
        | (go_at_call 17; refine (comm _ _).mono ?_; rintro e w5 ⟨rfl, rfl⟩))
    clear hca
    try clear har hae
    go_loopw [5, 6] (fun c i wr => ∃ k : Nat, k ≤ 256 ∧ i = .int .i64 k ∧ c = .int .i64 (cm k) ∧ Below w.heap.size w wr) (fun _ i _ => 256 - (intOf i).toNat)
    case atStart => exact ⟨0, by omega, rfl, rfl, hb1⟩
    case round =>
      obtain ⟨k, hk, rfl, rfl, hb⟩ := hrel
      by_cases hlt : k < 256
      · have hle := cm_le k
        cases hc : commZ (k : Int)
        · have Hn := Lib.hid (cm_no k hc)
          go_wp2_with (go_at_call 17; refine (comm _ _).mono ?_; rintro e w5 ⟨rfl, rfl⟩)
          go_roundw
          case rel => exact ⟨k+1, by omega, by go_num, by rw [Hn.out], hb⟩
          case measure => simp [intOf]; omega
        · have Hn := Lib.hid (cm_yes k hc)
          go_wp2_with (go_at_call 17; refine (comm _ _).mono ?_; rintro e w5 ⟨rfl, rfl⟩)
          go_roundw
          case rel => exact ⟨k+1, by omega, by go_num, by rw [Hn.out]; go_num, hb⟩
          case measure => simp [intOf]; omega
      · obtain rfl : k = 256 := by omega
        rw [cm_256]
        go_wp2_with (go_at_call 10; refine (known _).mono ?_; rintro e w3 ⟨rfl, hb3⟩)
        go_ret
        exact ⟨rfl, hb.trans (hb3.mono hb.size)⟩
/-! ### names -/
def nmLen (k : Nat) : Bool := decide (2 ≤ (nm k).size) && decide ((nm k).size ≤ 3) && (nm k).data.toList.all fun c => decide (97 ≤ c.toNat) && decide (c.toNat ≤ 122)
theorem nmLen_all : ∀ k, 2 ≤ k → k ≤ 21 → nmLen k = true := by
  have h : (List.range 22).all (fun k => decide (k < 2) || nmLen k) = true := by kernel_rfl
  intro k h2 h3
  have := List.all_eq_true.1 h k (by simp; omega)
  simp only [Bool.or_eq_true, decide_eq_true_eq] at this
  rcases this with h | h
  · omega
  · exact h
theorem nm_byte (k : Nat) (h2 : 2 ≤ k) (h3 : k ≤ 21) (i : Nat) (hi : i < (nm k).size) : 97 ≤ ((nm k)[i]).toNat ∧ ((nm k)[i]).toNat ≤ 122 := by
  have h := nmLen_all k h2 h3
  simp only [nmLen, Bool.and_eq_true, decide_eq_true_eq, List.all_eq_true] at h
  exact h.2 _ (by show (nm k).data[i] ∈ _; simp)
theorem nm_size (k : Nat) (h2 : 2 ≤ k) (h3 : k ≤ 21) : 2 ≤ (nm k).size ∧ (nm k).size ≤ 3 := by
  have h := nmLen_all k h2 h3
  simp only [nmLen, Bool.and_eq_true, decide_eq_true_eq] at h
  exact h.1
theorem of_nm : ∀ k, 2 ≤ k → k ≤ 21 → ofN (nm k) = k := by
  have h : (List.range 22).all (fun k => decide (k < 2) || decide (ofN (nm k) = k)) = true := by kernel_rfl
  intro k h2 h3
  have := List.all_eq_true.1 h k (by simp; omega)
  simp only [Bool.or_eq_true, decide_eq_true_eq] at this
  omega
theorem nm_of (s : ByteArray) (h : ofN s ≠ 0) : 2 ≤ ofN s ∧ ofN s ≤ 21 ∧ ((nm (ofN s)).toList == s.toList) = true := by
  have : ∀ n, n ≤ 20 → ofFind s n ≠ 0 → 2 ≤ ofFind s n ∧ ofFind s n ≤ 21 ∧ ((nm (ofFind s n)).toList == s.toList) = true := by
    intro n
    induction n with
    | zero => intro _ h; exact absurd rfl h
    | succ n ih =>
      intro hn h
      cases hm : ((nm (22 - (n + 1))).toList == s.toList)
      · rw [ofFind_miss _ _ hm] at h ⊢; exact ih (by omega) h
      · rw [ofFind_hit _ _ hm]; exact ⟨by omega, by omega, hm⟩
  exact this 20 (by omega) h
theorem nm_inj (a b : Nat) (ha : 2 ≤ a ∧ a ≤ 21) (hb : 2 ≤ b ∧ b ≤ 21) (h : ((nm a).toList == (nm b).toList) = true) : a = b := by
  have e : nm a = nm b := toList_inj (eq_of_beq h)
  rw [← of_nm a ha.1 ha.2, ← of_nm b hb.1 hb.2, e]
set_option maxRecDepth 100000 in
set_option maxHeartbeats 800000 in
theorem w_OpInverse (a b : Int) (h0 : 0 ≤ a) (h1 : a ≤ 255) (g0 : 0 ≤ b) (g1 : b ≤ 255) (w : World) :
    Calls Try.prog 4 #[.int .u8 a, .int .u8 b] w fun e w' => e = .returned (.bool true) ∧ Below w.heap.size w w' := by
  have hn : ∀ x : Int, (21 < x ∨ x < 2) → (nameErr x == 0) = false ∧ (nameErr x != 0) = true := by
    intro x h
    unfold nameErr
    by_cases h1 : 21 < x
    · rw [if_pos h1]; exact ⟨rfl, rfl⟩
    · rw [if_neg h1, if_pos (by omega)]; exact ⟨rfl, rfl⟩
  by_cases ha : 2 ≤ a ∧ a ≤ 21
  · obtain ⟨ha1, ha2⟩ := ha
    have hof := of_nm a.toNat (by omega) (by omega)
    have hofE : ofE (nm a.toNat) = 0 := by rw [ofE, if_neg (by omega)]
    have cOf := fun w => of_any (nm a.toNat) w
    rw [hof, hofE, Int.toNat_of_nonneg h0] at cOf
    have COf := Lib.hid cOf
    clear hof hofE cOf
    by_cases hb : 2 ≤ b ∧ b ≤ 21
    · obtain ⟨hb1, hb2⟩ := hb
      have heq : ((nm a.toNat).toList == (nm b.toNat).toList) = (a == b) := by
        rw [Bool.eq_iff_iff]
        constructor
        · intro h; have := nm_inj _ _ ⟨by omega, by omega⟩ ⟨by omega, by omega⟩ h; rw [beq_iff_eq]; omega
        · intro h; rw [beq_iff_eq.1 h]; exact beq_self_eq_true _
      clear hn
      go_enter Try.func4, Try.ntmps4
      go_wp2_with (first
        | (go_at_call 13; refine (name _ (by omega) (by omega) _).mono ?_; rintro e w1 ⟨rfl, hw1⟩)
        | (go_at_call 11; refine (COf.out _).mono ?_; rintro e w2 ⟨rfl, hw2⟩)
        | (go_at_call 10; refine (known _).mono ?_; rintro e w3 ⟨rfl, hw3⟩))
      go_ret
      exact ⟨rfl, by repeat (first | exact Below.refl _ _ | refine below_comp ?_ (by assumption))⟩
    · have hb' : 21 < b ∨ b < 2 := by omega
      obtain ⟨he1, he2⟩ := hn b hb'
      have hab : (a == b) = false := by rw [beq_eq_false_iff_ne]; omega
      have Hb := Lib.hid hb'
      clear hn hb' hb
      go_enter Try.func4, Try.ntmps4
      go_wp2_with (first
        | (go_at_call 13; ((with_reducible refine (name _ (by omega) (by omega) _).mono ?_); rintro e w1 ⟨rfl, hw1⟩))
        | (go_at_call 13; refine (name_no _ Hb.out _).mono ?_; rintro e w1 ⟨rfl, rfl⟩)
        | (go_at_call 11; refine (COf.out _).mono ?_; rintro e w2 ⟨rfl, hw2⟩)
        | (go_at_call 10; refine (known _).mono ?_; rintro e w3 ⟨rfl, hw3⟩))
      go_ret
      exact ⟨rfl, by repeat (first | exact Below.refl _ _ | refine below_comp ?_ (by assumption))⟩
  · have ha' : 21 < a ∨ a < 2 := by omega
    obtain ⟨he1, he2⟩ := hn a ha'
    have Ha := Lib.hid ha'
    have hcond : (decide (2 ≤ a) && decide (a ≤ 21)) = false := by simp; omega
    clear hn ha' ha
    by_cases hb : 2 ≤ b ∧ b ≤ 21
    · obtain ⟨hb1, hb2⟩ := hb
      rcases Ha.out with ha | ha
      all_goals
        go_enter Try.func4, Try.ntmps4
        go_wp2_with (first
          | (go_at_call 13; ((with_reducible refine (name_no a Ha.out _).mono ?_); rintro e w1 ⟨rfl, rfl⟩))
          | (go_at_call 13; refine (name _ (by omega) (by omega) _).mono ?_; rintro e w1 ⟨rfl, hw1⟩)
          | (go_at_call 10; refine (known _).mono ?_; rintro e w3 ⟨rfl, hw3⟩))
        go_ret
        exact ⟨rfl, by repeat (first | exact Below.refl _ _ | refine below_comp ?_ (by assumption))⟩
    · have hb' : 21 < b ∨ b < 2 := by omega
      have Hb := Lib.hid hb'
      clear hb hb'
      rcases Ha.out with ha | ha
      all_goals
        go_enter Try.func4, Try.ntmps4
        go_wp2_with (first
          | (go_at_call 13; ((with_reducible refine (name_no a Ha.out _).mono ?_); rintro e w1 ⟨rfl, rfl⟩))
          | (go_at_call 13; refine (name_no _ Hb.out _).mono ?_; rintro e w1 ⟨rfl, rfl⟩)
          | (go_at_call 10; refine (known _).mono ?_; rintro e w3 ⟨rfl, hw3⟩))
        go_ret
        exact ⟨rfl, by repeat (first | exact Below.refl _ _ | refine below_comp ?_ (by assumption))⟩
set_option maxRecDepth 100000 in
set_option maxHeartbeats 800000 in
theorem w_OpLetters (s : ByteArray) (a : Int) (h0 : 0 ≤ a) (h1 : a ≤ 255) (w : World) :
    Calls Try.prog 5 #[.string s, .int .u8 a] w fun e w' => e = .returned (.bool true) ∧ Below w.heap.size w w' := by
  by_cases hs : 100 < s.size
  · go_enter Try.func5, Try.ntmps5
    go_wp2_with (go_at_call 10; refine (known _).mono ?_; rintro e w3 ⟨rfl, hw3⟩)
    go_ret
    exact ⟨rfl, hw3⟩
  · have hrest : (ofN s = 0 ∧ ofE s = 6) ∨ (ofE s = 0 ∧ 2 ≤ ofN s ∧ ofN s ≤ 21 ∧ ((nm (ofN s)).toList == s.toList) = true) := by
      by_cases h : ofN s = 0
      · exact .inl ⟨h, if_pos h⟩
      · exact .inr ⟨if_neg h, nm_of s h⟩
    have hk0 : 0 ≤ 2 + a % 20 := by omega
    have hk1 : 2 ≤ 2 + a % 20 := by omega
    have hk2 : 2 + a % 20 ≤ 21 := by omega
    obtain ⟨hz1, hz2⟩ := nm_size (2 + a % 20).toNat (by omega) (by omega)
    have HB := Lib.hid (nm_byte (2 + a % 20).toNat (by omega) (by omega))
    rcases hrest with ⟨e1, e2⟩ | ⟨e2, e3, e4, e5⟩
    all_goals
      go_enter Try.func5, Try.ntmps5
      go_wp2_with (first
        | (go_at_call 11; refine (of_any _ _).mono ?_; rintro e w2 ⟨rfl, hw2⟩)
        | (go_at_call 13; refine (name _ (by omega) (by omega) _).mono ?_; rintro e w1 ⟨rfl, hw1⟩)
        | (go_at_call 10; refine (known _).mono ?_; rintro e w3 ⟨rfl, hw3⟩))
      try clear e1
      try clear e2
      try clear e3 e4 e5
      go_loop [11] (fun i => ∃ k : Nat, k ≤ (nm (2 + a % 20).toNat).size ∧ i = .int .i64 k) (fun i => (nm (2 + a % 20).toNat).size - (intOf i).toNat)
      case atStart => exact ⟨0, by omega, rfl⟩
      case round =>
        obtain ⟨k, hk, rfl⟩ := hrel
        by_cases hlt : k < (nm (2 + a % 20).toNat).size
        · obtain ⟨hx1, hx2⟩ := HB.out k hlt
          go_wp2
          go_round
          case rel => exact ⟨k+1, by omega, by go_num⟩
          case measure => simp [intOf]; omega
        · go_wp2_with (go_at_call 10; refine (known _).mono ?_; rintro e w3 ⟨rfl, hw3⟩)
          go_ret
          exact ⟨rfl, by repeat (first | exact Below.refl _ _ | refine below_comp ?_ (by assumption))⟩
/-- of the first k numbers from a on (modulo 256) how many have n arguments -/
def ar (a : Nat) (n : Int) : Nat → Nat
  | 0 => 0
  | k + 1 => ar a n k + if arityErr (((a + k) % 256 : Nat) : Int) = 0 ∧ arityZ (((a + k) % 256 : Nat) : Int) = n then 1 else 0
theorem ar_le (a : Nat) (n : Int) : ∀ k, ar a n k ≤ k
  | 0 => by simp [ar]
  | k + 1 => by have := ar_le a n k; rw [ar]; split <;> omega
theorem ar_all : ∀ a, a < 256 → ar a 0 256 = 2 ∧ ar a 1 256 = 2 ∧ ar a 2 256 = 17 ∧ ar a 3 256 = 1 := by
  have h : (List.range 256).all (fun a => decide (ar a 0 256 = 2) && decide (ar a 1 256 = 2) && decide (ar a 2 256 = 17) && decide (ar a 3 256 = 1)) = true := by kernel_rfl
  intro a ha
  have := List.all_eq_true.1 h a (by simpa using ha)
  simp only [Bool.and_eq_true, decide_eq_true_eq] at this
  exact ⟨this.1.1.1, this.1.1.2, this.1.2, this.2⟩
end Go.Proofs.Ytfpebdgpedcijaa
