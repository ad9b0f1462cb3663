/- Contracts of token.digit, token.Name and of slices.Index and slices.Contains over strings: called in whatever memory they return what the plain functions here say, and write nothing that was there. Conditions: a byte is a number from 0 to 255; a list reads as one of strings. Contract of the reference's Name of words: called in whatever memory it returns what the plain function tokName says, and writes nothing. Condition: the string has at most 2^63 - 1 bytes. -/
import Derived.Test.YtgcfdbhpophnjaaDoorKitE
import Derived.Laws.IdiomStrings

set_option linter.unusedVariables false
set_option linter.unusedSimpArgs false
namespace Go.Proofs.YtgcfdbhpophnjaaDoor
open Go.ChangeShapes Go.WideShapes Go.ChangeAt Go.RowKit
def isDig (c : Int) : Bool := decide (48 ≤ c) && decide (c ≤ 57)
set_option maxRecDepth 100000 in
set_option maxHeartbeats 400000 in
theorem digit (c : Int) (w : World) : Calls Tryd.prog 117 #[.int .u8 c] w fun e w' => e = .returned (.bool (isDig c)) ∧ w = w' := by
  unfold isDig
  by_cases h1 : 48 ≤ c
  · by_cases h2 : c ≤ 57
    all_goals
      go_enter Tryd.func117, Tryd.ntmps117
      go_wp2
      go_ret
      exact ⟨by simp [h1, h2], rfl⟩
  · go_enter Tryd.func117, Tryd.ntmps117
    go_wp2
    go_ret
    exact ⟨by simp [h1]; omega, rfl⟩
set_option maxRecDepth 100000 in
set_option maxHeartbeats 400000 in
theorem refDigit (c : Int) (w : World) : Calls Tryd.prog 104 #[.int .u8 c] w fun e w' => e = .returned (.bool (isDig c)) ∧ w = w' := by
  unfold isDig
  by_cases h1 : 48 ≤ c
  · by_cases h2 : c ≤ 57
    all_goals
      go_enter Tryd.func104, Tryd.ntmps104
      go_wp2
      go_ret
      exact ⟨by simp [h1, h2], rfl⟩
  · go_enter Tryd.func104, Tryd.ntmps104
    go_wp2
    go_ret
    exact ⟨by simp [h1]; omega, rfl⟩
/-- where a string is in a list; -1: nowhere -/
def idxS (s : ByteArray) : List ByteArray → Nat → Int
  | [], _ => -1
  | t :: r, k => if s.toList == t.toList then k else idxS s r (k + 1)
def hasS (s : ByteArray) (l : List ByteArray) : Bool := l.any fun t => s.toList == t.toList
theorem idxS_has (s : ByteArray) : ∀ (l : List ByteArray) (k : Nat), decide (0 ≤ idxS s l k) = hasS s l
  | [], k => by simp [idxS, hasS]
  | t :: r, k => by
    rw [idxS, hasS, List.any_cons]
    cases h : (s.toList == t.toList)
    · simp only [Bool.false_eq_true, if_false, Bool.false_or]; exact idxS_has s r (k + 1)
    · simp
theorem idxS_lo (s : ByteArray) : ∀ (l : List ByteArray) (k : Nat), -1 ≤ idxS s l k ∧ idxS s l k ≤ l.length + k
  | [], k => by simp [idxS]
  | t :: r, k => by
    rw [idxS]
    have := idxS_lo s r (k + 1)
    split
    · simp; omega
    · simp; omega
theorem idxS_step (s t : ByteArray) (l : List ByteArray) (k : Nat) (h : l[k]? = some t) : idxS s (l.drop k) k = if s.toList == t.toList then (k : Int) else idxS s (l.drop (k + 1)) (k + 1) := by
  have : l.drop k = t :: l.drop (k + 1) := by
    have hk := (List.getElem?_eq_some_iff.1 h)
    obtain ⟨hlt, he⟩ := hk
    rw [List.drop_eq_getElem_cons hlt, he]
  rw [this, idxS]
set_option maxRecDepth 100000 in
set_option maxHeartbeats 400000 in
theorem slicesIndex (v : Value) (l : List ByteArray) (s : ByteArray) (w : World) (h : RdStrs none w v l) :
    Calls Tryd.prog 66 #[v, .string s] w fun e w' => e = .returned (.int .i64 (idxS s l 0)) ∧ w = w' := by
  obtain ⟨a, c, rfl, hl, hr⟩ := h
  have HR := Lib.hid hr
  clear hr
  go_enter Tryd.func66, Tryd.ntmps66
  go_wp2
  go_loop [5, 8] (fun _ i => ∃ k : Nat, k ≤ l.length ∧ i = .int .i64 k ∧ Hid (idxS s l 0 = idxS s (l.drop k) k)) (fun _ i => l.length - (intOf i).toNat)
  case atStart => exact ⟨0, Nat.zero_le _, rfl, rfl⟩
  case round =>
    obtain ⟨k, hk, rfl, hq⟩ := hrel
    by_cases hlt : k < l.length
    · obtain ⟨x, hx⟩ : ∃ x, l[k]? = some x := ⟨_, List.getElem?_eq_getElem hlt⟩
      obtain ⟨b, o, rfl, _, c0, _⟩ := HR.out k x hx
      have hs := idxS_step s x l k hx
      have HX := Lib.hid hx
      clear hx
      cases he : (s.toList == x.toList)
      · rw [he, if_neg (by simp)] at hs
        have HS := Lib.hid hs
        clear hs
        go_wp2
        go_round
        case rel => exact ⟨k + 1, by omega, by go_num, hq.out.trans HS.out⟩
        case measure => simp [intOf]; omega
      · rw [he, if_pos rfl] at hs
        have HS := Lib.hid hs
        clear hs
        go_wp2
        go_ret
        exact ⟨by rw [hq.out, HS.out]; rfl, rfl⟩
    · obtain rfl : k = l.length := by omega
      go_wp2
      go_ret
      exact ⟨by rw [hq.out, List.drop_length]; rfl, rfl⟩
set_option maxRecDepth 100000 in
set_option maxHeartbeats 400000 in
theorem slicesContains (v : Value) (l : List ByteArray) (s : ByteArray) (w : World) (h : RdStrs none w v l) :
    Calls Tryd.prog 61 #[v, .string s] w fun e w' => e = .returned (.bool (hasS s l)) ∧ w = w' := by
  have hh := Lib.hid (idxS_has s l 0)
  have hc := Lib.hid (slicesIndex v l s w h)
  clear h
  generalize idxS s l 0 = z at *
  generalize hasS s l = y at *
  go_enter Tryd.func61, Tryd.ntmps61
  go_wp2_with (go_at_call 66; refine hc.out.mono ?_; rintro e w' ⟨rfl, rfl⟩)
  go_ret
  exact ⟨by rw [← hh.out]; rfl, rfl⟩
/-- may the byte stand in a name? -/
def okc (c : Int) : Bool := isDig c || c == 95 || (decide (97 ≤ c) && decide (c ≤ 122)) || (decide (65 ≤ c) && decide (c ≤ 90))
def tokName (s : ByteArray) : Bool := decide (1 ≤ s.size) && decide (s.size ≤ 32) && !isDig ((s.data.toList.headD 0).toNat : Int) && s.data.toList.all fun c => okc (c.toNat : Int)
theorem bytesOf (w : World) (s : ByteArray) : ∃ cap W1, (convert 9 66 (.string s)).run Tryd.prog w = .ok (.slice (some ⟨w.heap.size, 0, none⟩) s.size cap) W1 ∧
    (∀ i (h : i < s.size), W1.cell? ⟨w.heap.size, i, none⟩ = some (.int .u8 (s[i].toNat : Int))) ∧ Below w.heap.size w W1 := by
  have h := run_bytes_of_string (P := Tryd.prog) w 9 66 5 s Tryd.underlying9 Tryd.underlying66 Tryd.underlying5
  refine ⟨_, _, h, fun i hi => ?_, ((Below.refl _ _).drew).alloc (Nat.le_refl _) _⟩
  have hb := heap_alloc_new w.drew (.cells (bytesRow s (grownCap w s.size 0 5)) 5 ((bytesRow s (grownCap w s.size 0 5)).size, (bytesRow s (grownCap w s.size 0 5)).size + 1))
  have e : w.drew.heap.size = w.heap.size := rfl
  rw [e] at hb
  rw [cell_of_row _ _ i _ _ _ hb]
  unfold bytesRow
  have hi' : i < s.data.size := hi
  rw [Array.getElem?_append_left (by simpa using hi'), Array.getElem?_map, Array.getElem?_eq_getElem hi']
  rfl
theorem okc_false (c : Int) (h : okc c = false) : isDig c = false ∧ (c == 95) = false ∧ (c < 97 ∨ 122 < c) ∧ (c < 65 ∨ 90 < c) := by
  simp only [okc, Bool.or_eq_false_iff, Bool.and_eq_false_iff, decide_eq_false_iff_not] at h
  obtain ⟨⟨⟨h1, h2⟩, h3⟩, h4⟩ := h
  exact ⟨h1, h2, by omega, by omega⟩
theorem okc_true (c : Int) (h : okc c = true) : isDig c = true ∨ (isDig c = false ∧ (c == 95) = true) ∨ (isDig c = false ∧ (c == 95) = false ∧ 97 ≤ c ∧ c ≤ 122) ∨ (isDig c = false ∧ (c == 95) = false ∧ 65 ≤ c ∧ c ≤ 90) := by
  cases h1 : isDig c
  · cases h2 : (c == 95)
    · simp [okc, h1] at h
      have : ¬ c = 95 := by simpa using h2
      simp [this] at h
      rcases h with h | h
      · exact .inr (.inr (.inl ⟨rfl, rfl, h⟩))
      · exact .inr (.inr (.inr ⟨rfl, rfl, h⟩))
    · exact .inr (.inl ⟨rfl, rfl⟩)
  · exact .inl rfl
set_option maxRecDepth 100000 in
set_option maxHeartbeats 1600000 in
theorem tokName_any (s : ByteArray) (w : World) (hs : s.size ≤ maxLen) :
    Calls Tryd.prog 114 #[.string s] w fun e w' => e = .returned (.bool (tokName s)) ∧ Below w.heap.size w w' := by
  unfold maxLen at hs
  by_cases h0 : s.size = 0
  · have ht : Hid (tokName s = false) := by show _ = _; simp [tokName, h0]
    have he : s.toList = [] := by rw [ByteArray.toList_eq, show s.data = #[] from Array.eq_empty_of_size_eq_zero h0]
    go_enter Tryd.func114, Tryd.ntmps114
    go_wp2
    go_ret
    exact ⟨by rw [ht.out]; rfl, Below.refl _ _⟩
  have hpos : 0 < s.size := by omega
  have he : s.toList.isEmpty = false := by
    rw [ByteArray.toList_eq]; have : 0 < s.data.size := hpos
    simp; intro h; simp [h] at this
  by_cases h1 : 32 < s.size
  · have ht : Hid (tokName s = false) := by show _ = _; simp [tokName]; omega
    go_enter Tryd.func114, Tryd.ntmps114
    go_wp2
    go_ret
    exact ⟨by rw [ht.out]; rfl, Below.refl _ _⟩
  have hhead : s.data.toList.headD 0 = s[0] := by
    have : 0 < s.data.toList.length := by simpa using hpos
    cases hl : s.data.toList with
    | nil => rw [hl] at this; simp at this
    | cons a r =>
      show a = s.data[0]
      rw [← Array.getElem_toList]; simp [hl]
  cases h2 : isDig (s[0].toNat : Int)
  · obtain ⟨cap, W1, hcv, hcell, hbel⟩ := bytesOf w s
    have ht : Hid ((s.data.toList.all fun c => okc (c.toNat : Int)) = tokName s) := by
      show _ = _
      unfold tokName; rw [hhead, h2]; simp [show 1 ≤ s.size from hpos, show s.size ≤ 32 from by omega]
    have HC := Lib.hid hcell
    have HB := Lib.hid hbel
    clear hcell hbel hhead
    go_enter Tryd.func114, Tryd.ntmps114
    go_wp2_with (go_at_call 117; refine (digit _ _).mono ?_; rintro e w' ⟨rfl, rfl⟩)
    go_loop [4, 20] (fun _ i => ∃ k : Nat, k ≤ s.size ∧ i = .int .i64 k ∧ Hid (∀ j (h : j < s.size), j < k → okc (s[j].toNat : Int) = true)) (fun _ i => s.size - (intOf i).toNat)
    case atStart => exact ⟨0, Nat.zero_le _, rfl, fun j _ h => by omega⟩
    case round =>
      obtain ⟨k, hk, rfl, hq⟩ := hrel
      by_cases hlt : k < s.size
      · have hc := HC.out k hlt
        have hu : (s[k].toNat : Int) < 256 := by have := s[k].toNat_lt; omega
        cases ho : okc (s[k].toNat : Int)
        · have HO := Lib.hid ho
          obtain ⟨o1, o2, o3, o4⟩ := okc_false _ ho
          have o5 : ((s[k].toNat : Int) != 95) = true := by rw [bne, o2]; rfl
          clear ho
          rcases o3 with o3 | o3 <;> rcases o4 with o4 | o4 <;> first | (exfalso; omega) | skip
          all_goals
            go_wp2_with (go_at_call 117; refine (digit _ _).mono ?_; rintro e w' ⟨rfl, rfl⟩)
            go_ret
            refine ⟨?_, HB.out⟩
            rw [← ht.out, show (s.data.toList.all fun c => okc (c.toNat : Int)) = false from ?_]
            · rfl
            · rw [List.all_eq_false]
              exact ⟨s[k], by show s.data[k] ∈ _; simp, by rw [HO.out]; simp⟩
        · have HO := Lib.hid ho
          rcases okc_true _ ho with o1 | ⟨o1, o2⟩ | ⟨o1, o2, o3, o4⟩ | ⟨o1, o2, o3, o4⟩
          · clear ho
            go_wp2_with (go_at_call 117; refine (digit _ _).mono ?_; rintro e w' ⟨rfl, rfl⟩)
            go_round
            case rel =>
              refine ⟨k + 1, by omega, by go_num, fun j hj hjk => ?_⟩
              rcases Nat.lt_or_ge j k with h | h
              · exact hq.out j hj h
              · obtain rfl : j = k := by omega
                exact HO.out
            case measure => simp [intOf]; omega
          · have o5 : ((s[k].toNat : Int) != 95) = false := by rw [bne, o2]; rfl
            clear ho
            go_wp2_with (go_at_call 117; refine (digit _ _).mono ?_; rintro e w' ⟨rfl, rfl⟩)
            go_round
            case rel =>
              refine ⟨k + 1, by omega, by go_num, fun j hj hjk => ?_⟩
              rcases Nat.lt_or_ge j k with h | h
              · exact hq.out j hj h
              · obtain rfl : j = k := by omega
                exact HO.out
            case measure => simp [intOf]; omega
          all_goals
            have o5 : ((s[k].toNat : Int) != 95) = true := by rw [bne, o2]; rfl
            clear ho
            go_wp2_with (go_at_call 117; refine (digit _ _).mono ?_; rintro e w' ⟨rfl, rfl⟩)
            go_round
            case rel =>
              refine ⟨k + 1, by omega, by go_num, fun j hj hjk => ?_⟩
              rcases Nat.lt_or_ge j k with h | h
              · exact hq.out j hj h
              · obtain rfl : j = k := by omega
                exact HO.out
            case measure => simp [intOf]; omega
      · obtain rfl : k = s.size := by omega
        go_wp2
        go_ret
        refine ⟨?_, HB.out⟩
        rw [← ht.out, show (s.data.toList.all fun c => okc (c.toNat : Int)) = true from ?_]
        · rfl
        · rw [List.all_eq_true]
          intro c hc
          obtain ⟨j, hj, he⟩ := List.getElem_of_mem hc
          have hj' : j < s.size := by simpa using hj
          have := hq.out j hj' hj'
          have e2 : s[j]'hj' = c := by rw [← he]; show s.data[j] = _; rw [← Array.getElem_toList]
          rw [← e2]; exact this
  · have ht : Hid (tokName s = false) := by show _ = _; unfold tokName; rw [hhead, h2]; simp
    go_enter Tryd.func114, Tryd.ntmps114
    go_wp2_with (go_at_call 117; refine (digit _ _).mono ?_; rintro e w' ⟨rfl, rfl⟩)
    go_ret
    exact ⟨by rw [ht.out]; rfl, Below.refl _ _⟩
open Go.ChangeShapes Go.WideShapes Go.ChangeAt Go.RowKit
theorem head_is (s : ByteArray) (hpos : 0 < s.size) : s.data.toList.headD 0 = s[0] := by
  have : 0 < s.data.toList.length := by simpa using hpos
  cases hl : s.data.toList with
  | nil => rw [hl] at this; simp at this
  | cons a r =>
    show a = s.data[0]
    rw [← Array.getElem_toList]; simp [hl]
theorem tok_miss (s : ByteArray) (k : Nat) (h : k < s.size) (ho : okc (s[k].toNat : Int) = false) : tokName s = false := by
  unfold tokName
  rw [show (s.data.toList.all fun c => okc (c.toNat : Int)) = false from ?_, Bool.and_false]
  rw [List.all_eq_false]
  exact ⟨s[k], by show s.data[k] ∈ _; simp, by rw [ho]; simp⟩
theorem tok_all (s : ByteArray) (hq : ∀ j (h : j < s.size), okc (s[j].toNat : Int) = true) : (s.data.toList.all fun c => okc (c.toNat : Int)) = true := by
  rw [List.all_eq_true]
  intro c hc
  obtain ⟨j, hj, he⟩ := List.getElem_of_mem hc
  have hj' : j < s.size := by simpa using hj
  have := hq j hj'
  have e2 : s[j]'hj' = c := by rw [← he]; show s.data[j] = _; rw [← Array.getElem_toList]
  rw [← e2]; exact this
set_option maxRecDepth 100000 in
set_option maxHeartbeats 1600000 in
theorem refTokName (s : ByteArray) (w : World) (hs : s.size ≤ maxLen) :
    Calls Tryd.prog 84 #[.string s] w fun e w' => e = .returned (.bool (tokName s)) ∧ w = w' := by
  unfold maxLen at hs
  go_enter Tryd.func84, Tryd.ntmps84
  go_wp2
  go_loop [3, 4] (fun i _ => ∃ k : Nat, k ≤ s.size ∧ i = .int .i64 k ∧ Hid (∀ j (h : j < s.size), j < k → okc (s[j].toNat : Int) = true)) (fun i _ => s.size - (intOf i).toNat)
  case atStart => exact ⟨0, Nat.zero_le _, rfl, fun j _ h => by omega⟩
  case round =>
    obtain ⟨k, hk, rfl, hq⟩ := hrel
    by_cases hlt : k < s.size
    · have hu : (s[k].toNat : Int) < 256 := by have := s[k].toNat_lt; omega
      cases ho : okc (s[k].toNat : Int)
      · have HO := Lib.hid (tok_miss s k hlt ho)
        obtain ⟨o1, o2, o3, o4⟩ := okc_false _ ho
        have o5 : ((s[k].toNat : Int) != 95) = true := by rw [bne, o2]; rfl
        clear ho
        rcases o3 with o3 | o3 <;> rcases o4 with o4 | o4 <;> first | (exfalso; omega) | skip
        all_goals
          first | (have p3 : decide ((s[k].toNat : Int) ≤ 122) = false := decide_eq_false (by omega)) | skip
          first | (have p4 : decide ((s[k].toNat : Int) ≤ 90) = false := decide_eq_false (by omega)) | skip
          go_wp2_with (go_at_call 104; refine (refDigit _ _).mono ?_; rintro e w' ⟨rfl, rfl⟩)
          go_ret
          exact ⟨by rw [HO.out]; rfl, rfl⟩
      · have HN : Hid (∀ j (h : j < s.size), j < k + 1 → okc (s[j].toNat : Int) = true) := by
          intro j hj hjk
          rcases Nat.lt_or_ge j k with h | h
          · exact hq.out j hj h
          · obtain rfl : j = k := by omega
            exact ho
        rcases okc_true _ ho with o1 | ⟨o1, o2⟩ | ⟨o1, o2, o3, o4⟩ | ⟨o1, o2, o3, o4⟩
        · clear ho
          cases o5 : ((s[k].toNat : Int) != 95)
          all_goals
            go_wp2_with (go_at_call 104; refine (refDigit _ _).mono ?_; rintro e w' ⟨rfl, rfl⟩)
            go_round
            case rel => exact ⟨k + 1, by omega, by go_num, HN⟩
            case measure => simp [intOf]; omega
        · have o5 : ((s[k].toNat : Int) != 95) = false := by rw [bne, o2]; rfl
          clear ho
          go_wp2_with (go_at_call 104; refine (refDigit _ _).mono ?_; rintro e w' ⟨rfl, rfl⟩)
          go_round
          case rel => exact ⟨k + 1, by omega, by go_num, HN⟩
          case measure => simp [intOf]; omega
        all_goals
          have o5 : ((s[k].toNat : Int) != 95) = true := by rw [bne, o2]; rfl
          clear ho
          go_wp2_with (go_at_call 104; refine (refDigit _ _).mono ?_; rintro e w' ⟨rfl, rfl⟩)
          go_round
          case rel => exact ⟨k + 1, by omega, by go_num, HN⟩
          case measure => simp [intOf]; omega
    · obtain rfl : k = s.size := by omega
      have hall := Lib.hid (tok_all s (fun j h => hq.out j h h))
      by_cases h0 : s.size = 0
      · have ht : Hid (tokName s = false) := by show _ = _; simp [tokName, h0]
        have h0' : ¬ 1 ≤ s.size := by omega
        clear h0
        go_wp2
        go_ret
        exact ⟨by rw [ht.out]; rfl, rfl⟩
      have hpos : 0 < s.size := by omega
      have hpos1 : 1 ≤ s.size := by omega
      by_cases h1 : 32 < s.size
      · have ht : Hid (tokName s = false) := by show _ = _; simp [tokName]; omega
        go_wp2
        go_ret
        exact ⟨by rw [ht.out]; rfl, rfl⟩
      cases h2 : isDig (s[0].toNat : Int)
      all_goals
        have ht : Hid (tokName s = !isDig (s[0].toNat : Int)) := by
          show _ = _
          unfold tokName
          rw [head_is s hpos, hall.out]; simp [hpos1, show s.size ≤ 32 from by omega]
        rw [h2] at ht
        go_wp2_with (go_at_call 104; refine (refDigit _ _).mono ?_; rintro e w' ⟨rfl, rfl⟩)
        go_ret
        exact ⟨by rw [ht.out]; rfl, rfl⟩
end Go.Proofs.YtgcfdbhpophnjaaDoor
