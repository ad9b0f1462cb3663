/- The walks of OpOfs and OpMatches: for every input these laws return true. Conditions: an operator is a number from 0 to 255. -/
import Derived.Test.YtfpebdgpedcijaaOpB
namespace Go.Proofs.Ytfpebdgpedcijaa
open Go.ChangeShapes Go.WideShapes Go.ChangeAt Go.RowKit
set_option maxRecDepth 100000 in
set_option maxHeartbeats 400000 in
theorem w_OpOfs (a0 : ByteArray) (w : World) :
    Calls Try.prog 3 #[.string a0] w fun e w' => e = .returned (.bool true) ∧ Below w.heap.size w w' := by
  go_enter Try.func3, Try.ntmps3
  go_wp2_with (first | (go_at_call 11; refine (of_any _ _).mono ?_; rintro e w1 ⟨rfl, hb1⟩) | (go_at_call 12; refine (refOf _ _).mono ?_; rintro e w2 ⟨rfl, hb2⟩) | (go_at_call 10; refine (known _).mono ?_; rintro e w3 ⟨rfl, hb3⟩))
  · go_ret
    exact ⟨rfl, hb3⟩
  · go_ret
    exact ⟨rfl, below_comp (below_comp hb1 hb2) hb3⟩
set_option maxRecDepth 100000 in
set_option maxHeartbeats 800000 in
theorem w_OpMatches (a : Int) (h0 : 0 ≤ a) (h1 : a ≤ 255) (w : World) :
    Calls Try.prog 7 #[.int .u8 a] w fun e w' => e = .returned (.bool true) ∧ Below w.heap.size w w' := by
  go_enter Try.func7, Try.ntmps7
  go_wp2
  go_loopw [3] (fun i wr => ∃ k : Nat, k ≤ 256 ∧ i = .int .i64 k ∧ Below w.heap.size w wr) (fun i _ => 256 - (intOf i).toNat)
  case atStart => exact ⟨0, by omega, rfl, Below.refl _ _⟩
  case round =>
    obtain ⟨k, hk, rfl, hb⟩ := hrel
    by_cases hlt : k < 256
    · have hm1 : 0 ≤ (a + ↑k) % 256 := by omega
      by_cases hr : 2 ≤ (a + ↑k) % 256 ∧ (a + ↑k) % 256 ≤ 21
      · obtain ⟨hr1, hr2⟩ := hr
        go_wp2_with (first
          | (go_at_call 14; refine (arity_of _ (by omega) _).mono ?_; rintro e w1 ⟨rfl, hb1⟩)
          | (go_at_call 15; refine (refArity _ _).mono ?_; rintro e w2 ⟨rfl, rfl⟩)
          | (go_at_call 13; refine (name _ (by omega) (by omega) _).mono ?_; rintro e w3 ⟨rfl, hb3⟩)
          | (go_at_call 16; refine (refName _ (by omega) (by omega) _).mono ?_; rintro e w4 ⟨rfl, hb4⟩)
          | (go_at_call 17; refine (comm _ _).mono ?_; rintro e w5 ⟨rfl, rfl⟩)
          | (go_at_call 18; refine (refComm _ _).mono ?_; rintro e w6 ⟨rfl, rfl⟩))
        go_roundw
        case rel => exact ⟨k+1, by omega, by go_num, hb.trans ((below_comp (below_comp hb1 hb3) hb4).mono hb.size)⟩
        case measure => simp [intOf]; omega
      · have hr' : 21 < (a + ↑k) % 256 ∨ (a + ↑k) % 256 < 2 := by omega
        clear hr
        have Hr := Lib.hid hr'
        clear hr'
        go_wp2_with (first
          | (go_at_call 14; refine (arity_of _ (by omega) _).mono ?_; rintro e w1 ⟨rfl, hb1⟩)
          | (go_at_call 15; refine (refArity _ _).mono ?_; rintro e w2 ⟨rfl, rfl⟩)
          | (go_at_call 13; refine (name_no _ Hr.out _).mono ?_; rintro e w3 ⟨rfl, rfl⟩)
          | (go_at_call 16; refine (refName_no _ Hr.out _).mono ?_; rintro e w4 ⟨rfl, rfl⟩)
          | (go_at_call 17; refine (comm _ _).mono ?_; rintro e w5 ⟨rfl, rfl⟩)
          | (go_at_call 18; refine (refComm _ _).mono ?_; rintro e w6 ⟨rfl, rfl⟩))
        go_roundw
        case rel => exact ⟨k+1, by omega, by go_num, hb.trans (hb1.mono hb.size)⟩
        case measure => simp [intOf]; omega
    · obtain rfl : k = 256 := by omega
      go_wp2_with (go_at_call 10; refine (known _).mono ?_; rintro e w3 ⟨rfl, hb3⟩)
      go_ret
      exact ⟨rfl, hb.trans (hb3.mono hb.size)⟩
end Go.Proofs.Ytfpebdgpedcijaa
