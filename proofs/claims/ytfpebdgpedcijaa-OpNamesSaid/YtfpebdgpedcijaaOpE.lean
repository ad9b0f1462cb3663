/- The walks of OpArities and OpNames: for every input these laws return true. Conditions: an operator is a number from 0 to 255. -/
import Derived.Test.YtfpebdgpedcijaaOpD
namespace Go.Proofs.Ytfpebdgpedcijaa
open Go.ChangeShapes Go.WideShapes Go.ChangeAt Go.RowKit
theorem ar_step (a : Nat) (n : Int) (k : Nat) (z : Int) (e : Int) (hz : arityZ (((a + k) % 256 : Nat) : Int) = z) (he : arityErr (((a + k) % 256 : Nat) : Int) = e) :
    ar a n (k + 1) = ar a n k + if e = 0 ∧ z = n then 1 else 0 := by rw [ar, hz, he]
set_option maxRecDepth 100000 in
set_option maxHeartbeats 1600000 in
theorem w_OpArities (a : Int) (h0 : 0 ≤ a) (h1 : a ≤ 255) (w : World) :
    Calls Try.prog 6 #[.int .u8 a] w fun e w' => e = .returned (.bool true) ∧ Below w.heap.size w w' := by
  obtain ⟨a, rfl⟩ := Int.eq_ofNat_of_zero_le h0
  go_enter Try.func6, Try.ntmps6
  go_wp2
  go_loopw [4, 5, 6] (fun i _ _ wr => ∃ k : Nat, k ≤ 256 ∧ i = .int .i64 k ∧ wr.heap[w.heap.size]? = some (.cells #[.int .i64 (ar a 0 k), .int .i64 (ar a 1 k), .int .i64 (ar a 2 k), .int .i64 (ar a 3 k)] 31 (0,0)) ∧ Below w.heap.size w wr) (fun i _ _ _ => 256 - (intOf i).toNat)
  case atStart => exact ⟨0, by omega, rfl, heap_alloc_new _ _, (Below.refl _ _).alloc (Nat.le_refl _) _⟩
  case round =>
    obtain ⟨k, hk, rfl, hc, hb⟩ := hrel
    have hn : w.heap.size < wr.heap.size := (Array.getElem?_eq_some_iff.1 hc).1
    by_cases hlt : k < 256
    · have hm : (((a + k) % 256 : Nat) : Int) = ((a : Int) + ↑k) % 256 := by omega
      have hm0 : 0 ≤ ((a : Int) + ↑k) % 256 := by omega
      have l0 := ar_le a 0 k
      have l1 := ar_le a 1 k
      have l2 := ar_le a 2 k
      have l3 := ar_le a 3 k
      have hz : (arityErr (((a : Int) + ↑k) % 256) = 3 ∧ arityZ (((a : Int) + ↑k) % 256) = 0) ∨ (arityErr (((a : Int) + ↑k) % 256) = 0 ∧ (arityZ (((a : Int) + ↑k) % 256) = 0 ∨ arityZ (((a : Int) + ↑k) % 256) = 1 ∨ arityZ (((a : Int) + ↑k) % 256) = 2 ∨ arityZ (((a : Int) + ↑k) % 256) = 3)) := by
        have := arityZ_le (((a : Int) + ↑k) % 256)
        by_cases h : 21 < ((a : Int) + ↑k) % 256
        · exact .inl ⟨if_pos h, if_pos h⟩
        · exact .inr ⟨if_neg h, by omega⟩
      obtain ⟨z, e, hz1, he1, hze⟩ : ∃ z e : Int, arityZ (((a : Int) + ↑k) % 256) = z ∧ arityErr (((a : Int) + ↑k) % 256) = e ∧ ((e = 3 ∧ z = 0) ∨ (e = 0 ∧ (z = 0 ∨ z = 1 ∨ z = 2 ∨ z = 3))) := ⟨_, _, rfl, rfl, hz⟩
      clear hz
      have s0 := ar_step a 0 k z e (by rw [hm]; exact hz1) (by rw [hm]; exact he1)
      have s1 := ar_step a 1 k z e (by rw [hm]; exact hz1) (by rw [hm]; exact he1)
      have s2 := ar_step a 2 k z e (by rw [hm]; exact hz1) (by rw [hm]; exact he1)
      have s3 := ar_step a 3 k z e (by rw [hm]; exact hz1) (by rw [hm]; exact he1)
      have cA := fun w => arity_of (((a : Int) + ↑k) % 256) hm0 w
      rw [hz1, he1] at cA
      clear hz1 he1
      rcases hze with ⟨rfl, rfl⟩ | ⟨rfl, rfl | rfl | rfl | rfl⟩
      all_goals
        simp only [true_and, false_and, if_true, if_false, show ((3 : Int) = 0) = False from by simp, show ((0 : Int) = 1) = False from by simp, show ((0 : Int) = 2) = False from by simp, show ((0 : Int) = 3) = False from by simp, show ((1 : Int) = 0) = False from by simp, show ((1 : Int) = 2) = False from by simp, show ((1 : Int) = 3) = False from by simp, show ((2 : Int) = 0) = False from by simp, show ((2 : Int) = 1) = False from by simp, show ((2 : Int) = 3) = False from by simp, show ((3 : Int) = 1) = False from by simp, show ((3 : Int) = 2) = False from by simp, Nat.add_zero] at s0 s1 s2 s3
        have S0 := Lib.hid s0
        have S1 := Lib.hid s1
        have S2 := Lib.hid s2
        have S3 := Lib.hid s3
        clear s0 s1 s2 s3
        have HC := Lib.hid hc
        have CA := Lib.hid cA
        clear hc hm cA
        go_wp2_with (go_at_call 14; refine (CA.out _).mono ?_; rintro e w1 ⟨rfl, hb1⟩; have hc1 := (hb1.block _ hn).trans HC.out; have c0 := row_of' hc1 0 _ rfl; have c1 := row_of' hc1 1 _ rfl; have c2 := row_of' hc1 2 _ rfl; have c3 := row_of' hc1 3 _ rfl; have f0 := frozen_of_row w1 _ 0 _ _ hc1; have f1 := frozen_of_row w1 _ 1 _ _ hc1; have f2 := frozen_of_row w1 _ 2 _ _ hc1; have f3 := frozen_of_row w1 _ 3 _ _ hc1; have HC1 := Lib.hid hc1; clear hc1)
        go_roundw
        case rel =>
          refine ⟨k+1, by omega, by go_num, ?_, ?_⟩
          · rw [S0.out, S1.out, S2.out, S3.out]
            first
              | exact HC1.out
              | (rw [heap_setCell_same _ _ _ _ _ _ HC1.out]; simp)
          · first
              | exact hb.trans (hb1.mono hb.size)
              | exact (hb.trans (hb1.mono hb.size)).setCell (Nat.le_refl _) _
        case measure => simp [intOf]; omega
    · obtain rfl : k = 256 := by omega
      obtain ⟨e0, e1, e2, e3⟩ := ar_all a (by omega)
      rw [e0, e1, e2, e3] at hc
      have c0 := row_of' hc 0 _ rfl
      have c1 := row_of' hc 1 _ rfl
      have c2 := row_of' hc 2 _ rfl
      have c3 := row_of' hc 3 _ rfl
      clear e0 e1 e2 e3 hlt hk
      have HC := Lib.hid hc
      clear hc
      have hq : ∀ w : World, (binOp .eql 31 (.agg #[.int .i64 2, .int .i64 2, .int .i64 17, .int .i64 1]) (.agg #[.int .i64 2, .int .i64 2, .int .i64 17, .int .i64 1])).run Try.prog w = .ok (.bool true) w := fun _ => by kernel_rfl
      go_wp2_with (go_at_call 10; refine (known _).mono ?_; rintro e w3 ⟨rfl, hb3⟩)
      go_ret
      exact ⟨rfl, hb.trans (hb3.mono hb.size)⟩
/-! ### the chapter's examples -/
theorem opsNo (s : ByteArray) (h : ofN s = 0) (w : World) : Calls Try.prog 11 #[.string s] w fun e w' => e = .returned (.tuple #[.int .u8 0, .int .i64 6]) ∧ Below w.heap.size w w' :=
  (of_any s w).mono fun e w' k => by rw [ofE, if_pos h, h] at k; exact k
def exOps : Array Value := #[.int .u8 1, .int .u8 3, .int .u8 12, .int .u8 21, .int .u8 0, .int .u8 2]
def exWant : Array Value := #[.int .i64 0, .int .i64 1, .int .i64 2, .int .i64 3, .int .i64 0, .int .i64 1]
def exOp (k : Nat) : Int := match k with | 0 => 1 | 1 => 3 | 2 => 12 | 3 => 21 | 4 => 0 | _ => 2
theorem ex_row (k : Nat) (h : k < 6) : exOps[k]? = some (.int .u8 (exOp k)) ∧ exWant[k]? = some (.int .i64 (arityZ (exOp k))) ∧ arityErr (exOp k) = 0 ∧ 0 ≤ exOp k := by
  have : k = 0 ∨ k = 1 ∨ k = 2 ∨ k = 3 ∨ k = 4 ∨ k = 5 := by omega
  rcases this with rfl | rfl | rfl | rfl | rfl | rfl <;> exact ⟨rfl, rfl, rfl, by decide⟩
theorem heap2_old {w wr : World} {A B : Obj} (hb : Below ((w.alloc A).alloc B).heap.size ((w.alloc A).alloc B) wr) : wr.heap[w.heap.size]? = some A ∧ wr.heap[w.heap.size+1]? = some B := by
  have e : ((w.alloc A).alloc B).heap.size = w.heap.size + 1 + 1 := by
    show ((w.heap.push A).push B).size = _
    simp
  rw [e] at hb
  exact ⟨(hb.block _ (by omega)).trans (heap_alloc2_old _ _ _), (hb.block _ (by omega)).trans (heap_alloc2_new _ _ _)⟩
set_option maxRecDepth 100000 in
set_option maxHeartbeats 1600000 in
theorem w_OpNames (w : World) :
    Calls Try.prog 8 #[] w fun e w' => e = .returned (.bool true) ∧ Below w.heap.size w w' := by
  have eo : exOps = #[.int .u8 1, .int .u8 3, .int .u8 12, .int .u8 21, .int .u8 0, .int .u8 2] := rfl
  have ew : exWant = #[.int .i64 0, .int .i64 1, .int .i64 2, .int .i64 3, .int .i64 0, .int .i64 1] := rfl
  go_enter Try.func8, Try.ntmps8
  go_wp2
  go_loopw [3] (fun i wr => ∃ k : Nat, k ≤ 6 ∧ i = .int .i64 k ∧ wr.heap[w.heap.size]? = some (.cells exOps 5 (0,0)) ∧ wr.heap[w.heap.size+1]? = some (.cells exWant 3 (0,0)) ∧ Below w.heap.size w wr) (fun i _ => 6 - (intOf i).toNat)
  case atStart => exact ⟨0, by omega, rfl, by rw [eo]; exact heap_alloc2_old _ _ _, by rw [ew]; exact heap_alloc2_new _ _ _, ((Below.refl _ _).alloc (Nat.le_refl _) _).alloc (by simp) _⟩
  case round =>
    obtain ⟨k, hk, rfl, hc1, hc2, hb⟩ := hrel
    clear eo ew
    have hn : w.heap.size + 1 < wr.heap.size := (Array.getElem?_eq_some_iff.1 hc2).1
    by_cases hlt : k < 6
    · obtain ⟨x1, x2, x3, x4⟩ := ex_row k hlt
      have c1 := row_of' hc1 k _ x1
      have HC2 := Lib.hid hc2
      have HC1 := Lib.hid hc1
      clear hc1 hc2 x1
      have cA := fun w => arity_of (exOp k) x4 w
      rw [x3] at cA
      have CA := Lib.hid cA
      clear cA x3 x4
      have X2 := Lib.hid x2
      clear x2
      generalize exOp k = o at *
      generalize arityZ o = z at *
      go_wp2_with (go_at_call 14; refine (CA.out _).mono ?_; rintro e w1 ⟨rfl, hb1⟩; have hc2 := (hb1.block _ hn).trans HC2.out; have c2 := row_of' hc2 k _ X2.out; clear hc2)
      go_roundw
      case rel => exact ⟨k+1, by omega, by go_num, (hb1.block _ (by omega)).trans HC1.out, (hb1.block _ hn).trans HC2.out, hb.trans (hb1.mono hb.size)⟩
      case measure => simp [intOf]; omega
    · obtain rfl : k = 6 := by omega
      clear hc1 hc2
      have HA := Lib.hid (fun w => (arity_of 22 (by omega) w))
      have HN0 := Lib.hid (fun w => (name_no 0 (by omega) w))
      have HN99 := Lib.hid (fun w => (name_no 99 (by omega) w))
      have hN2 := fun w => (name 2 (by omega) (by omega) w)
      rw [show nm (Int.toNat 2) = ⟨#[110, 111, 116]⟩ from by kernel_rfl] at hN2
      have HN2 := Lib.hid hN2
      clear hN2
      have HO1 := Lib.hid (fun w => opsNo ⟨#[88, 79, 82]⟩ (by kernel_rfl) w)
      have HO2 := Lib.hid (fun w => opsNo ⟨#[]⟩ (by kernel_rfl) w)
      have HO3 := Lib.hid (fun w => opsNo ⟨#[99, 111, 110, 115, 116]⟩ (by kernel_rfl) w)
      have q1 : commZ 4 = true := rfl
      have q2 : commZ 5 = false := rfl
      have q3 : commZ 21 = false := rfl
      have q4 : commZ 22 = false := rfl
      have q5 : arityErr 22 = 3 := rfl
      have q6 : nameErr 0 = 6 := rfl
      have q7 : nameErr 99 = 3 := rfl
      go_wp2_with (first
        | (go_at_call 14; refine (HA.out _).mono ?_; rintro e w1 ⟨rfl, hb1⟩)
        | (go_at_call 13; ((with_reducible refine (HN0.out _).mono ?_); rintro e w1 ⟨rfl, rfl⟩))
        | (go_at_call 13; ((with_reducible refine (HN99.out _).mono ?_); rintro e w1 ⟨rfl, rfl⟩))
        | (go_at_call 13; ((with_reducible refine (HN2.out _).mono ?_); rintro e w1 ⟨rfl, hb1⟩))
        | (go_at_call 11; ((with_reducible refine (HO1.out _).mono ?_); rintro e w1 ⟨rfl, hb1⟩))
        | (go_at_call 11; ((with_reducible refine (HO2.out _).mono ?_); rintro e w1 ⟨rfl, hb1⟩))
        | (go_at_call 11; ((with_reducible refine (HO3.out _).mono ?_); rintro e w1 ⟨rfl, hb1⟩))
        | (go_at_call 17; refine (comm _ _).mono ?_; rintro e w1 ⟨rfl, rfl⟩)
        | (go_at_call 10; refine (known _).mono ?_; rintro e w3 ⟨rfl, hb3⟩))
      go_ret
      exact ⟨rfl, hb.trans ((by repeat (first | exact Below.refl _ _ | refine below_comp ?_ (by assumption)) : Below wr.heap.size wr _).mono hb.size)⟩
end Go.Proofs.Ytfpebdgpedcijaa
