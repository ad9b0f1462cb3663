/- Contract of the reference's Name of words: called in whatever memory it returns what the plain function tokName says, and writes nothing. Condition: the string has at most 2^63 - 1 bytes. -/
import Derived.Test.YtjdbdoeopobciaaDoorTok
set_option linter.unusedVariables false
set_option linter.unusedSimpArgs false
namespace Go.Proofs.YtjdbdoeopobciaaDoor
open Go.ChangeShapes Go.WideShapes Go.ChangeAt Go.RowKit
theorem head_is (s : ByteArray) (hpos : 0 < s.size) : s.data.toList.headD 0 = s[0] := by
  have : 0 < s.data.toList.length := by simpa using hpos
  cases hl : s.data.toList with
  | nil => rw [hl] at this; simp at this
  | cons a r =>
    show a = s.data[0]
    rw [← Array.getElem_toList]; simp [hl]
theorem tok_miss (s : ByteArray) (k : Nat) (h : k < s.size) (ho : okc (s[k].toNat : Int) = false) : tokName s = false := by
  unfold tokName
  rw [show (s.data.toList.all fun c => okc (c.toNat : Int)) = false from ?_, Bool.and_false]
  rw [List.all_eq_false]
  exact ⟨s[k], by show s.data[k] ∈ _; simp, by rw [ho]; simp⟩
theorem tok_all (s : ByteArray) (hq : ∀ j (h : j < s.size), okc (s[j].toNat : Int) = true) : (s.data.toList.all fun c => okc (c.toNat : Int)) = true := by
  rw [List.all_eq_true]
  intro c hc
  obtain ⟨j, hj, he⟩ := List.getElem_of_mem hc
  have hj' : j < s.size := by simpa using hj
  have := hq j hj'
  have e2 : s[j]'hj' = c := by rw [← he]; show s.data[j] = _; rw [← Array.getElem_toList]
  rw [← e2]; exact this
set_option maxRecDepth 100000 in
set_option maxHeartbeats 1600000 in
theorem refTokName (s : ByteArray) (w : World) (hs : s.size ≤ maxLen) :
    Calls Tryd.prog 79 #[.string s] w fun e w' => e = .returned (.bool (tokName s)) ∧ w = w' := by
  unfold maxLen at hs
  go_enter Tryd.func79, Tryd.ntmps79
  go_wp2
  go_loop [3, 4] (fun i _ => ∃ k : Nat, k ≤ s.size ∧ i = .int .i64 k ∧ Hid (∀ j (h : j < s.size), j < k → okc (s[j].toNat : Int) = true)) (fun i _ => s.size - (intOf i).toNat)
  case atStart => exact ⟨0, Nat.zero_le _, rfl, fun j _ h => by omega⟩
  case round =>
    obtain ⟨k, hk, rfl, hq⟩ := hrel
    by_cases hlt : k < s.size
    · have hu : (s[k].toNat : Int) < 256 := by have := s[k].toNat_lt; omega
      cases ho : okc (s[k].toNat : Int)
      · have HO := Lib.hid (tok_miss s k hlt ho)
        obtain ⟨o1, o2, o3, o4⟩ := okc_false _ ho
        have o5 : ((s[k].toNat : Int) != 95) = true := by rw [bne, o2]; rfl
        clear ho
        rcases o3 with o3 | o3 <;> rcases o4 with o4 | o4 <;> first | (exfalso; omega) | skip
        all_goals
          first | (have p3 : decide ((s[k].toNat : Int) ≤ 122) = false := decide_eq_false (by omega)) | skip
          first | (have p4 : decide ((s[k].toNat : Int) ≤ 90) = false := decide_eq_false (by omega)) | skip
          go_wp2_with (go_at_call 89; refine (refDigit _ _).mono ?_; rintro e w' ⟨rfl, rfl⟩)
          go_ret
          exact ⟨by rw [HO.out]; rfl, rfl⟩
      · have HN : Hid (∀ j (h : j < s.size), j < k + 1 → okc (s[j].toNat : Int) = true) := by
          intro j hj hjk
          rcases Nat.lt_or_ge j k with h | h
          · exact hq.out j hj h
          · obtain rfl : j = k := by omega
            exact ho
        rcases okc_true _ ho with o1 | ⟨o1, o2⟩ | ⟨o1, o2, o3, o4⟩ | ⟨o1, o2, o3, o4⟩
        · clear ho
          cases o5 : ((s[k].toNat : Int) != 95)
          all_goals
            go_wp2_with (go_at_call 89; refine (refDigit _ _).mono ?_; rintro e w' ⟨rfl, rfl⟩)
            go_round
            case rel => exact ⟨k + 1, by omega, by go_num, HN⟩
            case measure => simp [intOf]; omega
        · have o5 : ((s[k].toNat : Int) != 95) = false := by rw [bne, o2]; rfl
          clear ho
          go_wp2_with (go_at_call 89; refine (refDigit _ _).mono ?_; rintro e w' ⟨rfl, rfl⟩)
          go_round
          case rel => exact ⟨k + 1, by omega, by go_num, HN⟩
          case measure => simp [intOf]; omega
        all_goals
          have o5 : ((s[k].toNat : Int) != 95) = true := by rw [bne, o2]; rfl
          clear ho
          go_wp2_with (go_at_call 89; refine (refDigit _ _).mono ?_; rintro e w' ⟨rfl, rfl⟩)
          go_round
          case rel => exact ⟨k + 1, by omega, by go_num, HN⟩
          case measure => simp [intOf]; omega
    · obtain rfl : k = s.size := by omega
      have hall := Lib.hid (tok_all s (fun j h => hq.out j h h))
      by_cases h0 : s.size = 0
      · have ht : Hid (tokName s = false) := by show _ = _; simp [tokName, h0]
        have h0' : ¬ 1 ≤ s.size := by omega
        clear h0
        go_wp2
        go_ret
        exact ⟨by rw [ht.out]; rfl, rfl⟩
      have hpos : 0 < s.size := by omega
      have hpos1 : 1 ≤ s.size := by omega
      by_cases h1 : 32 < s.size
      · have ht : Hid (tokName s = false) := by show _ = _; simp [tokName]; omega
        go_wp2
        go_ret
        exact ⟨by rw [ht.out]; rfl, rfl⟩
      cases h2 : isDig (s[0].toNat : Int)
      all_goals
        have ht : Hid (tokName s = !isDig (s[0].toNat : Int)) := by
          show _ = _
          unfold tokName
          rw [head_is s hpos, hall.out]; simp [hpos1, show s.size ≤ 32 from by omega]
        rw [h2] at ht
        go_wp2_with (go_at_call 89; refine (refDigit _ _).mono ?_; rintro e w' ⟨rfl, rfl⟩)
        go_ret
        exact ⟨by rw [ht.out]; rfl, rfl⟩
end Go.Proofs.YtjdbdoeopobciaaDoor
