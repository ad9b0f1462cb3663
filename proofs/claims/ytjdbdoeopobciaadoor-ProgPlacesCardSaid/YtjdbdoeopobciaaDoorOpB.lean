/- Contracts of Arity, Name, Of and Commutes, of package op and of the reference: for every argument they return the same numbers and names. Conditions: an operator is a number from 0 to 255. -/
import Derived.Test.YtjdbdoeopobciaaDoorOpA
set_option linter.unusedVariables false
set_option linter.unusedSimpArgs false
namespace Go.Proofs.YtjdbdoeopobciaaDoor
open Go.ChangeShapes Go.WideShapes Go.ChangeAt Go.RowKit
def names20 : Array Value := (opNames.extract 2 22)
/-- the name of an operator -/
def nm (a : Nat) : ByteArray := match opNames[a]? with | some (.string s) => s | _ => ⟨#[]⟩
theorem nm_row : ∀ k, k < 22 → opNames[k]? = some (.string (nm k)) := by
  intro k hk
  have h : ∀ k : Fin 22, opNames[k.1]? = some (.string (nm k.1)) := by
    intro k; revert k; intro ⟨k, hk⟩
    have : k = 0 ∨ k = 1 ∨ k = 2 ∨ k = 3 ∨ k = 4 ∨ k = 5 ∨ k = 6 ∨ k = 7 ∨ k = 8 ∨ k = 9 ∨ k = 10 ∨ k = 11 ∨ k = 12 ∨ k = 13 ∨ k = 14 ∨ k = 15 ∨ k = 16 ∨ k = 17 ∨ k = 18 ∨ k = 19 ∨ k = 20 ∨ k = 21 := by omega
    rcases this with rfl | rfl | rfl | rfl | rfl | rfl | rfl | rfl | rfl | rfl | rfl | rfl | rfl | rfl | rfl | rfl | rfl | rfl | rfl | rfl | rfl | rfl <;> rfl
  exact h ⟨k, hk⟩
theorem nm_row20 (k : Nat) (hk : k < 20) : names20[k]? = some (.string (nm (k + 2))) := by
  unfold names20
  rw [Array.getElem?_extract, if_pos (by have : opNames.size = 22 := rfl; omega), Nat.add_comm, nm_row _ (by omega)]
set_option maxRecDepth 100000 in
set_option maxHeartbeats 400000 in
theorem refNames (w : World) :
    Calls Tryd.prog 95 #[] w fun e w' => e = .returned (.slice (some ⟨w.heap.size, 0, none⟩) 20 20) ∧ w' = w.alloc (.cells names20 9) := by
  go_enter Tryd.func95, Tryd.ntmps95
  go_wp2
  go_ret
  exact ⟨rfl, rfl⟩
def nameErr (a : Int) : Int := if 21 < a then 3 else if a < 2 then 6 else 0
theorem idxArr {P : Program} (a : Int) (n : Nat) (h0 : 0 ≤ a) (h1 : a < n) (k : IntKind) (cs : Array Value) (v : Value) (hv : cs[a.toNat]? = some v) (t el : TypeId) (d : TypeDesc) (i : TypeInfo)
    (hu : P.underlying t = some (.array n el)) (hd : P.underlying el = some d) (hnd : (match d with | .struct _ | .array _ _ => true | _ => false) = false) (hi : P.info? el = some i) (hs : i.size = 1) (w : World) :
    (Instr.index t (.agg cs) (.int k a)).run P w = .ok v w := by
  have hag : (isAgg el).run P w = .ok false w := by
    unfold isAgg
    rw [Sem.run_bind, run_underlying hd w]
    cases d <;> simp_all
  simp [Instr.index, asIntOf, Sem.run_bind, run_underlying hu, h0, h1, part, hag, sizeOf, typeInfo, hi, hs, hv]
theorem idxNm (k : IntKind) (a : Int) (h0 : 0 ≤ a) (h1 : a ≤ 21) (w : World) : (Instr.index 115 (.agg opNames) (.int k a)).run Tryd.prog w = .ok (.string (nm a.toNat)) w := by
  obtain ⟨i, hi, hz, hs, hb⟩ := info_parts (P := Tryd.prog) (e := 9) (z := .string ⟨#[]⟩) (size := 1) (bytes := 16) (by kernel_rfl)
  exact idxArr a 22 h0 (by omega) k _ _ (nm_row _ (by omega)) _ 9 .string i Tryd.underlying115 Tryd.underlying9 rfl hi hs w
/-- how many arguments an operator has -/
def arityZ (a : Int) : Int := if 21 < a then 0 else if a ≤ 1 then 0 else if a ≤ 3 then 1 else if a = 21 then 3 else 2
def arityErr (a : Int) : Int := if 21 < a then 3 else 0
theorem arityZ_le (a : Int) : 0 ≤ arityZ a ∧ arityZ a ≤ 3 := by unfold arityZ; split <;> (try split) <;> (try split) <;> (try split) <;> omega
theorem arity_row (a : Int) (h0 : 0 ≤ a) (h1 : a ≤ 21) : arity[a.toNat]? = some (.int .u8 (arityZ a)) := by
  obtain ⟨k, rfl⟩ := Int.eq_ofNat_of_zero_le h0
  rw [Int.toNat_natCast]
  have : k = 0 ∨ k = 1 ∨ k = 2 ∨ k = 3 ∨ k = 4 ∨ k = 5 ∨ k = 6 ∨ k = 7 ∨ k = 8 ∨ k = 9 ∨ k = 10 ∨ k = 11 ∨ k = 12 ∨ k = 13 ∨ k = 14 ∨ k = 15 ∨ k = 16 ∨ k = 17 ∨ k = 18 ∨ k = 19 ∨ k = 20 ∨ k = 21 := by omega
  rcases this with rfl | rfl | rfl | rfl | rfl | rfl | rfl | rfl | rfl | rfl | rfl | rfl | rfl | rfl | rfl | rfl | rfl | rfl | rfl | rfl | rfl | rfl <;> (show _ = _; kernel_rfl)
theorem idxAr (k : IntKind) (a : Int) (h0 : 0 ≤ a) (h1 : a ≤ 21) (w : World) : (Instr.index 118 (.agg arity) (.int k a)).run Tryd.prog w = .ok (.int .u8 (arityZ a)) w := by
  obtain ⟨i, hi, hz, hs, hb⟩ := info_parts (P := Tryd.prog) (e := 5) (z := .int .u8 0) (size := 1) (bytes := 1) (by kernel_rfl)
  exact idxArr a 22 h0 (by omega) k _ _ (arity_row _ h0 h1) _ 5 (.int .u8) i Tryd.underlying118 Tryd.underlying5 rfl hi hs w
set_option maxRecDepth 100000 in
set_option maxHeartbeats 400000 in
theorem arity_of (a : Int) (h0 : 0 ≤ a) (w : World) :
    Calls Tryd.prog 88 #[.int .u8 a] w fun e w' => e = .returned (.tuple #[.int .i64 (arityZ a), .int .i64 (arityErr a)]) ∧ Below w.heap.size w w' := by
  by_cases h1 : 21 < a
  · have e1 : arityZ a = 0 := if_pos h1
    have e2 : arityErr a = 3 := if_pos h1
    rw [e1, e2]; clear e1 e2
    go_enter Tryd.func88, Tryd.ntmps88
    go_wp2
    go_ret2
    exact ⟨rfl, Below.refl _ _⟩
  · have hc := fun w => idxAr .u8 a h0 (by omega) w
    have e2 : arityErr a = 0 := if_neg h1
    rw [e2]; clear e2
    have hz := arityZ_le a
    obtain ⟨hz1, hz2⟩ := hz
    generalize arityZ a = z at *
    go_enter Tryd.func88, Tryd.ntmps88
    go_wp2_with (go_at_call 94; refine (arities _).mono ?_; rintro e w' ⟨rfl, hb⟩)
    go_ret2
    exact ⟨rfl, hb⟩
set_option maxRecDepth 100000 in
set_option maxHeartbeats 400000 in
theorem refArity (a : Int) (w : World) :
    Calls Tryd.prog 82 #[.int .u8 a] w fun e w' => e = .returned (.tuple #[.int .i64 (arityZ a), .int .i64 (arityErr a)]) ∧ w = w' := by
  unfold arityZ arityErr
  by_cases h1 : 21 < a
  · rw [if_pos h1, if_pos h1]
    go_enter Tryd.func82, Tryd.ntmps82
    go_wp2
    go_ret2
    exact ⟨rfl, rfl⟩
  rw [if_neg h1, if_neg h1]
  by_cases h2 : a ≤ 1
  · rw [if_pos h2]
    go_enter Tryd.func82, Tryd.ntmps82
    go_wp2
    go_ret2
    exact ⟨rfl, rfl⟩
  rw [if_neg h2]
  by_cases h3 : a ≤ 3
  · rw [if_pos h3]
    go_enter Tryd.func82, Tryd.ntmps82
    go_wp2
    go_ret2
    exact ⟨rfl, rfl⟩
  rw [if_neg h3]
  by_cases h4 : a = 21
  · rw [if_pos h4]
    subst h4
    go_enter Tryd.func82, Tryd.ntmps82
    go_wp2
    go_ret2
    exact ⟨rfl, rfl⟩
  · rw [if_neg h4]
    have h5 : (a == 21) = false := beq_eq_false_iff_ne.2 h4
    go_enter Tryd.func82, Tryd.ntmps82
    go_wp2
    go_ret2
    exact ⟨rfl, rfl⟩
/-- the operator with a name; 0 if there is none -/
def ofFind (s : ByteArray) : Nat → Nat
  | 0 => 0
  | n + 1 => if (nm (22 - (n + 1))).toList == s.toList then 22 - (n + 1) else ofFind s n
def ofN (s : ByteArray) : Nat := ofFind s 20
def ofE (s : ByteArray) : Int := if ofN s = 0 then 6 else 0
theorem ofFind_hit (s : ByteArray) (n : Nat) (h : ((nm (22 - (n + 1))).toList == s.toList) = true) : ofFind s (n + 1) = 22 - (n + 1) := by rw [ofFind, if_pos h]
theorem ofFind_miss (s : ByteArray) (n : Nat) (h : ((nm (22 - (n + 1))).toList == s.toList) = false) : ofFind s (n + 1) = ofFind s n := by rw [ofFind, if_neg (by rw [h]; simp)]
theorem ofFind_le (s : ByteArray) : ∀ n, n ≤ 20 → ofFind s n ≤ 21
  | 0, _ => by simp [ofFind]
  | n + 1, h => by rw [ofFind]; split; omega; exact ofFind_le s n (by omega)
theorem ofFind_empty : ofN ⟨#[]⟩ = 0 := by kernel_rfl
theorem ofN_le (s : ByteArray) : ofN s ≤ 21 := ofFind_le s 20 (by omega)
theorem toList_inj {a b : ByteArray} (h : a.toList = b.toList) : a = b := by
  rw [ByteArray.toList_eq, ByteArray.toList_eq] at h
  exact WideShapes.bytes_inj h
set_option maxRecDepth 100000 in
set_option maxHeartbeats 400000 in
theorem of_any (s : ByteArray) (w : World) :
    Calls Tryd.prog 85 #[.string s] w fun e w' => e = .returned (.tuple #[.int .u8 (ofN s : Nat), .int .i64 (ofE s)]) ∧ Below w.heap.size w w' := by
  by_cases he : s.toList.isEmpty = true
  · have e1 : ofN s = 0 := by
      have : s = ⟨#[]⟩ := toList_inj (by rw [List.isEmpty_iff.1 he, ByteArray.toList_eq])
      rw [this]; exact ofFind_empty
    have e2 : ofE s = 6 := if_pos e1
    rw [e1, e2]; clear e1 e2
    have he2 : (!s.toList.isEmpty) = false := by rw [he]; rfl
    go_enter Tryd.func85, Tryd.ntmps85
    go_wp2
    go_ret2
    exact ⟨rfl, Below.refl _ _⟩
  · have he2 : (!s.toList.isEmpty) = true := by simpa using he
    have hn0 : ((nm 0).toList == s.toList) = false := by
      have : (nm 0).toList = [] := by kernel_rfl
      rw [this, beq_eq_false_iff_ne]; intro h; exact he (by rw [← h]; rfl)
    have hn1 : ((nm 1).toList == s.toList) = false := by
      have : (nm 1).toList = [] := by kernel_rfl
      rw [this, beq_eq_false_iff_ne]; intro h; exact he (by rw [← h]; rfl)
    go_enter Tryd.func85, Tryd.ntmps85
    go_wp2_with (go_at_call 91; refine (names _).mono ?_; rintro e w' ⟨rfl, hb⟩)
    go_loop [4, 5, 9] (fun _ _ i => ∃ k : Nat, k ≤ 22 ∧ i = .int .i64 k ∧ (2 ≤ k → ofN s = ofFind s (22 - k))) (fun _ _ i => 22 - (intOf i).toNat)
    case atStart => exact ⟨0, by omega, rfl, fun h => by omega⟩
    case round =>
      obtain ⟨k, hk, rfl, hf⟩ := hrel
      by_cases hlt : k < 22
      · have hc := fun w => idxNm .i64 (k : Int) (by omega) (by omega) w
        rw [Int.toNat_natCast] at hc
        cases hm : ((nm k).toList == s.toList)
        · have Hn : Hid (2 ≤ k + 1 → ofN s = ofFind s (22 - (k + 1))) := by
            intro h2
            by_cases h3 : 2 ≤ k
            · rw [hf h3, show 22 - k = (22 - (k + 1)) + 1 from by omega, ofFind_miss _ _ (by rw [show 22 - (22 - (k + 1) + 1) = k from by omega]; exact hm)]
            · have : k = 1 := by omega
              subst this; rfl
          clear hf
          go_wp2
          go_round
          case rel => exact ⟨k + 1, by omega, by go_num, Hn.out⟩
          case measure => simp [intOf]; omega
        · have h3 : 2 ≤ k := by
            by_cases h0 : k = 0
            · subst h0; rw [hn0] at hm; cases hm
            · by_cases h1 : k = 1
              · subst h1; rw [hn1] at hm; cases hm
              · omega
          have Hn : Hid (ofN s = k) := by
            show ofN s = k
            rw [hf h3, show 22 - k = (22 - (k + 1)) + 1 from by omega, ofFind_hit _ _ (by rw [show 22 - (22 - (k + 1) + 1) = k from by omega]; exact hm)]; omega
          clear hf
          go_wp2
          go_ret2
          refine ⟨?_, hb⟩
          rw [ofE, Hn.out, if_neg (by omega)]; rfl
      · obtain rfl : k = 22 := by omega
        have Hn : Hid (ofN s = 0) := by
          show ofN s = 0
          rw [hf (by omega)]; rfl
        clear hf
        go_wp2
        go_ret2
        refine ⟨?_, hb⟩
        rw [ofE, Hn.out, if_pos rfl]; rfl
set_option maxRecDepth 100000 in
set_option maxHeartbeats 400000 in
theorem refOf (s : ByteArray) (w : World) :
    Calls Tryd.prog 90 #[.string s] w fun e w' => e = .returned (.tuple #[.int .u8 (ofN s : Nat), .int .i64 (ofE s)]) ∧ Below w.heap.size w w' := by
  go_enter Tryd.func90, Tryd.ntmps90
  go_wp2_with (go_at_call 95; refine (refNames _).mono ?_; rintro e w' ⟨rfl, rfl⟩)
  go_loop [5] (fun i => ∃ k : Nat, k ≤ 20 ∧ i = .int .i64 k ∧ ofN s = ofFind s (20 - k)) (fun i => 20 - (intOf i).toNat)
  case atStart => exact ⟨0, by omega, rfl, rfl⟩
  case round =>
    obtain ⟨k, hk, rfl, hf⟩ := hrel
    by_cases hlt : k < 20
    · have hc := nm_row20 k hlt
      cases hm : ((nm (k + 2)).toList == s.toList)
      · have Hn : Hid (ofN s = ofFind s (20 - (k + 1))) := by
          show ofN s = _
          rw [hf, show 20 - k = (20 - (k + 1)) + 1 from by omega, ofFind_miss _ _ (by rw [show 22 - (20 - (k + 1) + 1) = k + 2 from by omega]; exact hm)]
        clear hf
        go_wp2
        go_round
        case rel => exact ⟨k + 1, by omega, by go_num, Hn.out⟩
        case measure => simp [intOf]; omega
      · have Hn : Hid (ofN s = k + 2) := by
          show ofN s = _
          rw [hf, show 20 - k = (20 - (k + 1)) + 1 from by omega, ofFind_hit _ _ (by rw [show 22 - (20 - (k + 1) + 1) = k + 2 from by omega]; exact hm)]; omega
        clear hf
        go_wp2
        go_ret2
        refine ⟨?_, (Below.refl _ _).alloc (Nat.le_refl _) _⟩
        rw [ofE, Hn.out, if_neg (by omega), Int.natCast_add, Int.add_comm]; rfl
    · obtain rfl : k = 20 := by omega
      have Hn : Hid (ofN s = 0) := by
        show ofN s = 0
        rw [hf]; rfl
      clear hf
      go_wp2
      go_ret2
      refine ⟨?_, (Below.refl _ _).alloc (Nat.le_refl _) _⟩
      rw [ofE, Hn.out, if_pos rfl]; rfl
/-- may the arguments be exchanged? -/
def commZ (a : Int) : Bool := a == 4 || a == 6 || a == 9 || a == 10 || a == 11 || a == 15 || a == 16
theorem comm_cases (a : Int) : (a = 4 ∨ a = 6 ∨ a = 9 ∨ a = 10 ∨ a = 11 ∨ a = 15 ∨ a = 16) ∨ (commZ a = false ∧ (a == 4) = false ∧ (a == 6) = false ∧ (a == 9) = false ∧ (a == 10) = false ∧ (a == 11) = false ∧ (a == 15) = false ∧ (a == 16) = false) := by
  by_cases h : (a = 4 ∨ a = 6 ∨ a = 9 ∨ a = 10 ∨ a = 11 ∨ a = 15 ∨ a = 16)
  · exact .inl h
  · right
    simp only [not_or] at h
    simp [commZ, h]
/-! ### the examples that every statement asks -/
theorem of_xor (w : World) : Calls Tryd.prog 85 #[.string ⟨#[120, 111, 114]⟩] w fun e w' => e = .returned (.tuple #[.int .u8 11, .int .i64 0]) ∧ Below w.heap.size w w' :=
  (of_any ⟨#[120, 111, 114]⟩ w).mono fun e w' h => by
    rw [ofE, show ofN ⟨#[120, 111, 114]⟩ = 11 from by kernel_rfl] at h; exact h
theorem below_comp {w a b : World} (h : Below w.heap.size w a) (k : Below a.heap.size a b) : Below w.heap.size w b := h.trans (k.mono h.size)
end Go.Proofs.YtjdbdoeopobciaaDoor
