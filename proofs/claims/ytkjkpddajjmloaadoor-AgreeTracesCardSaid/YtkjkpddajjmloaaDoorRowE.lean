/- Contracts of the kit's comparisons of lists: called in whatever memory they return whether the two values read as equal lists, and write nothing that was there. Condition: both read as lists. -/
import Derived.Test.YtkjkpddajjmloaaDoorRowC
import Derived.Deep.QuietTactic
import Derived.BigQuiet
set_option linter.unusedVariables false
set_option linter.unusedSimpArgs false
namespace Go.Proofs.YtkjkpddajjmloaaDoor
open Go.ChangeShapes Go.WideShapes Go.ChangeAt Go.RowKit
def eqL {α : Type} (f : α → α → Bool) : List α → List α → Bool
  | [], [] => true
  | x :: r, y :: s => f x y && eqL f r s
  | _, _ => false
theorem eqL_len {α : Type} (f : α → α → Bool) : ∀ (l m : List α), l.length ≠ m.length → eqL f l m = false
  | [], [], h => absurd rfl h
  | [], _ :: _, _ => rfl
  | _ :: _, [], _ => rfl
  | x :: r, y :: s, h => by rw [eqL, eqL_len f r s (by simpa using h), Bool.and_false]
theorem eqL_miss {α : Type} (f : α → α → Bool) : ∀ (l m : List α) (k : Nat) (x y : α), l[k]? = some x → m[k]? = some y → f x y = false → eqL f l m = false
  | [], _, k, x, y, h, _, _ => by simp at h
  | _ :: _, [], k, x, y, _, h, _ => by simp at h
  | a :: r, b :: s, 0, x, y, h1, h2, h3 => by
    simp at h1 h2; subst h1; subst h2; rw [eqL, h3, Bool.false_and]
  | a :: r, b :: s, k + 1, x, y, h1, h2, h3 => by rw [eqL, eqL_miss f r s k x y (by simpa using h1) (by simpa using h2) h3, Bool.and_false]
theorem eqL_all {α : Type} (f : α → α → Bool) : ∀ (l m : List α), l.length = m.length → (∀ (k : Nat) (x y : α), l[k]? = some x → m[k]? = some y → f x y = true) → eqL f l m = true
  | [], [], _, _ => rfl
  | [], _ :: _, h, _ => by simp at h
  | _ :: _, [], h, _ => by simp at h
  | a :: r, b :: s, h, g => by
    rw [eqL, g 0 a b (by simp) (by simp), eqL_all f r s (by simpa using h) (fun (k : Nat) x y h1 h2 => g (k + 1) x y (by simpa using h1) (by simpa using h2)), Bool.and_true]
theorem eqL_iff {α : Type} {f : α → α → Bool} (hf : ∀ x y, f x y = true → x = y) : ∀ l m : List α, eqL f l m = true → l = m
  | [], [], _ => rfl
  | [], _ :: _, h => by simp [eqL] at h
  | _ :: _, [], h => by simp [eqL] at h
  | x :: r, y :: s, h => by
    simp only [eqL, Bool.and_eq_true] at h
    rw [hf x y h.1, eqL_iff hf r s h.2]
theorem eqL_refl {α : Type} {f : α → α → Bool} (hf : ∀ x, f x x = true) : ∀ l : List α, eqL f l l = true
  | [] => rfl
  | x :: r => by rw [eqL, hf, eqL_refl hf r]; rfl
def eqStr (x y : ByteArray) : Bool := x.toList == y.toList
theorem eqStr_cases (x y : ByteArray) : (eqStr x y = true ∧ (x.toList == y.toList) = true ∧ True) ∨ (eqStr x y = false ∧ (x.toList == y.toList) = false ∧ True) := by
  unfold eqStr
  cases (x.toList == y.toList) <;> simp
def eqInt (x y : Int) : Bool := x == y
theorem eqInt_cases (x y : Int) : (eqInt x y = true ∧ x = y ∧ True) ∨ (eqInt x y = false ∧ ¬ x = y ∧ True) := by
  unfold eqInt
  by_cases h0 : x = y
  rotate_left
  · simp [h0]
  simp [h0]
def eqNum (x y : Int) : Bool := x == y
theorem eqNum_cases (x y : Int) : (eqNum x y = true ∧ x = y ∧ True) ∨ (eqNum x y = false ∧ ¬ x = y ∧ True) := by
  unfold eqNum
  by_cases h0 : x = y
  rotate_left
  · simp [h0]
  simp [h0]
set_option maxRecDepth 100000 in
set_option maxHeartbeats 4000000 in
theorem equalNum (av bv : Value) (l m : List Int) (w : World) (h : RdRow kNum none w av l) (g : RdRow kNum none w bv m) :
    Calls Tryd.prog 80 #[av, bv] w fun e w' => e = .returned (.bool (eqL eqNum l m)) ∧ Below w.heap.size w w' := by
  obtain ⟨a, c, rfl⟩ := h.is
  obtain ⟨a2, c2, rfl⟩ := g.is
  have hl : l.length * 8 ≤ 140737488351232 := h.size
  have HR := Lib.hid h
  have GR := Lib.hid g
  clear h g
  by_cases hlen : l.length = m.length
  · have he : ((l.length : Int) != (m.length : Int)) = false := by rw [hlen]; simp
    have HL := Lib.hid hlen
    clear hlen
    go_enter Tryd.func80, Tryd.ntmps80
    go_wp2
    go_loopw [5] (fun i wr => ∃ k : Nat, k ≤ l.length ∧ i = .int .i64 k ∧ Hid (∀ (j : Nat) x y, j < k → l[j]? = some x → m[j]? = some y → eqNum x y = true) ∧ Below w.heap.size w wr) (fun i _ => l.length - (intOf i).toNat)
    case atStart => exact ⟨0, Nat.zero_le _, rfl, (fun j x y h => by omega), Below.refl _ _⟩
    case round =>
      obtain ⟨k, hk, rfl, hq, hb⟩ := hrel
      by_cases hlt : k < l.length
      · have hlt2 : k < m.length := by rw [← HL.out]; exact hlt
        obtain ⟨x, hx⟩ : ∃ x, l[k]? = some x := ⟨_, List.getElem?_eq_getElem hlt⟩
        obtain ⟨y, hy⟩ : ∃ y, m[k]? = some y := ⟨_, List.getElem?_eq_getElem hlt2⟩
        obtain ⟨b, o, rfl, _, c0, _⟩ := atNum HR.out hx
        obtain ⟨b2, o2, rfl, _, d0, _⟩ := atNum GR.out hy
        have c0' := cell_keepB hb c0 (block_lt_of_cell c0)
        have d0' := cell_keepB hb d0 (block_lt_of_cell d0)
        have HX := Lib.hid (And.intro hx hy)
        have hi1 : (k : Int) < (l.length : Int) := by omega
        have hi2 : (k : Int) < (m.length : Int) := by omega
        clear c0 d0 hx hy
        rcases eqNum_cases x y with ⟨hv, h0, h1⟩ | ⟨hv, h0, h1⟩
        · have HV := Lib.hid hv
          clear hv
          go_wp2_with fail
          go_quiet (fail)
          go_wp2
          go_roundw
          case rel =>
            refine ⟨k + 1, by omega, by go_num, ?_, below_drewN hb _⟩
            intro j x' y' hj g1 g2
            rcases Nat.lt_or_ge j k with h | h
            · exact hq.out j x' y' h g1 g2
            · obtain rfl : j = k := by omega
              rw [HX.out.1] at g1; rw [HX.out.2] at g2
              cases g1; cases g2; exact HV.out
          case measure => simp [intOf]; omega
        all_goals
          have HV := Lib.hid hv
          clear hv
          go_wp2_with fail
          go_quiet (fail)
          go_wp2
          go_ret
          exact ⟨by rw [eqL_miss eqNum l m k x y HX.out.1 HX.out.2 HV.out]; rfl, below_drewN hb _⟩
      · obtain rfl : k = l.length := by omega
        go_wp2
        go_ret
        refine ⟨?_, hb⟩
        rw [eqL_all eqNum l m HL.out (fun j x y g1 g2 => hq.out j x y (List.getElem?_eq_some_iff.1 g1).1 g1 g2)]; rfl
  · have he : ((l.length : Int) != (m.length : Int)) = true := by rw [bne_iff_ne]; omega
    have HL := Lib.hid (eqL_len eqNum l m hlen)
    clear hlen
    go_enter Tryd.func80, Tryd.ntmps80
    go_wp2
    go_ret
    exact ⟨by rw [HL.out]; rfl, Below.refl _ _⟩
def eqBool (x y : Bool) : Bool := x == y
theorem eqBool_cases (x y : Bool) : (eqBool x y = true ∧ (x == y) = true ∧ True) ∨ (eqBool x y = false ∧ (x == y) = false ∧ True) := by
  unfold eqBool
  cases (x == y) <;> simp
set_option maxRecDepth 100000 in
set_option maxHeartbeats 4000000 in
theorem equalBool (av bv : Value) (l m : List Bool) (w : World) (h : RdRow kBool none w av l) (g : RdRow kBool none w bv m) :
    Calls Tryd.prog 38 #[av, bv] w fun e w' => e = .returned (.bool (eqL eqBool l m)) ∧ Below w.heap.size w w' := by
  obtain ⟨a, c, rfl⟩ := h.is
  obtain ⟨a2, c2, rfl⟩ := g.is
  have hl : l.length * 1 ≤ 140737488351232 := h.size
  have HR := Lib.hid h
  have GR := Lib.hid g
  clear h g
  by_cases hlen : l.length = m.length
  · have he : ((l.length : Int) != (m.length : Int)) = false := by rw [hlen]; simp
    have HL := Lib.hid hlen
    clear hlen
    go_enter Tryd.func38, Tryd.ntmps38
    go_wp2
    go_loopw [5] (fun i wr => ∃ k : Nat, k ≤ l.length ∧ i = .int .i64 k ∧ Hid (∀ (j : Nat) x y, j < k → l[j]? = some x → m[j]? = some y → eqBool x y = true) ∧ Below w.heap.size w wr) (fun i _ => l.length - (intOf i).toNat)
    case atStart => exact ⟨0, Nat.zero_le _, rfl, (fun j x y h => by omega), Below.refl _ _⟩
    case round =>
      obtain ⟨k, hk, rfl, hq, hb⟩ := hrel
      by_cases hlt : k < l.length
      · have hlt2 : k < m.length := by rw [← HL.out]; exact hlt
        obtain ⟨x, hx⟩ : ∃ x, l[k]? = some x := ⟨_, List.getElem?_eq_getElem hlt⟩
        obtain ⟨y, hy⟩ : ∃ y, m[k]? = some y := ⟨_, List.getElem?_eq_getElem hlt2⟩
        obtain ⟨b, o, rfl, _, c0, _⟩ := atBool HR.out hx
        obtain ⟨b2, o2, rfl, _, d0, _⟩ := atBool GR.out hy
        have c0' := cell_keepB hb c0 (block_lt_of_cell c0)
        have d0' := cell_keepB hb d0 (block_lt_of_cell d0)
        have HX := Lib.hid (And.intro hx hy)
        have hi1 : (k : Int) < (l.length : Int) := by omega
        have hi2 : (k : Int) < (m.length : Int) := by omega
        clear c0 d0 hx hy
        rcases eqBool_cases x y with ⟨hv, h0, h1⟩ | ⟨hv, h0, h1⟩
        · have HV := Lib.hid hv
          clear hv
          go_wp2_with fail
          go_quiet (fail)
          go_wp2
          go_roundw
          case rel =>
            refine ⟨k + 1, by omega, by go_num, ?_, below_drewN hb _⟩
            intro j x' y' hj g1 g2
            rcases Nat.lt_or_ge j k with h | h
            · exact hq.out j x' y' h g1 g2
            · obtain rfl : j = k := by omega
              rw [HX.out.1] at g1; rw [HX.out.2] at g2
              cases g1; cases g2; exact HV.out
          case measure => simp [intOf]; omega
        all_goals
          have HV := Lib.hid hv
          clear hv
          go_wp2_with fail
          go_quiet (fail)
          go_wp2
          go_ret
          exact ⟨by rw [eqL_miss eqBool l m k x y HX.out.1 HX.out.2 HV.out]; rfl, below_drewN hb _⟩
      · obtain rfl : k = l.length := by omega
        go_wp2
        go_ret
        refine ⟨?_, hb⟩
        rw [eqL_all eqBool l m HL.out (fun j x y g1 g2 => hq.out j x y (List.getElem?_eq_some_iff.1 g1).1 g1 g2)]; rfl
  · have he : ((l.length : Int) != (m.length : Int)) = true := by rw [bne_iff_ne]; omega
    have HL := Lib.hid (eqL_len eqBool l m hlen)
    clear hlen
    go_enter Tryd.func38, Tryd.ntmps38
    go_wp2
    go_ret
    exact ⟨by rw [HL.out]; rfl, Below.refl _ _⟩
def eqCode (x y : CodeD) : Bool := x.kind == y.kind && x.op == y.op && x.dst == y.dst && x.n == y.n && x.a.reg == y.a.reg && x.a.num == y.a.num && x.b.reg == y.b.reg && x.b.num == y.b.num
theorem eqCode_cases (x y : CodeD) : (eqCode x y = true ∧ x.kind = y.kind ∧ x.op = y.op ∧ x.dst = y.dst ∧ x.n = y.n ∧ x.a.reg = y.a.reg ∧ x.a.num = y.a.num ∧ x.b.reg = y.b.reg ∧ x.b.num = y.b.num) ∨ (eqCode x y = false ∧ ¬ x.kind = y.kind ∧ True ∧ True ∧ True ∧ True ∧ True ∧ True ∧ True) ∨ (eqCode x y = false ∧ x.kind = y.kind ∧ ¬ x.op = y.op ∧ True ∧ True ∧ True ∧ True ∧ True ∧ True) ∨ (eqCode x y = false ∧ x.kind = y.kind ∧ x.op = y.op ∧ ¬ x.dst = y.dst ∧ True ∧ True ∧ True ∧ True ∧ True) ∨ (eqCode x y = false ∧ x.kind = y.kind ∧ x.op = y.op ∧ x.dst = y.dst ∧ ¬ x.n = y.n ∧ True ∧ True ∧ True ∧ True) ∨ (eqCode x y = false ∧ x.kind = y.kind ∧ x.op = y.op ∧ x.dst = y.dst ∧ x.n = y.n ∧ ¬ x.a.reg = y.a.reg ∧ True ∧ True ∧ True) ∨ (eqCode x y = false ∧ x.kind = y.kind ∧ x.op = y.op ∧ x.dst = y.dst ∧ x.n = y.n ∧ x.a.reg = y.a.reg ∧ ¬ x.a.num = y.a.num ∧ True ∧ True) ∨ (eqCode x y = false ∧ x.kind = y.kind ∧ x.op = y.op ∧ x.dst = y.dst ∧ x.n = y.n ∧ x.a.reg = y.a.reg ∧ x.a.num = y.a.num ∧ ¬ x.b.reg = y.b.reg ∧ True) ∨ (eqCode x y = false ∧ x.kind = y.kind ∧ x.op = y.op ∧ x.dst = y.dst ∧ x.n = y.n ∧ x.a.reg = y.a.reg ∧ x.a.num = y.a.num ∧ x.b.reg = y.b.reg ∧ ¬ x.b.num = y.b.num) := by
  unfold eqCode
  by_cases h0 : x.kind = y.kind
  rotate_left
  · simp [h0]
  by_cases h1 : x.op = y.op
  rotate_left
  · simp [h0, h1]
  by_cases h2 : x.dst = y.dst
  rotate_left
  · simp [h0, h1, h2]
  by_cases h3 : x.n = y.n
  rotate_left
  · simp [h0, h1, h2, h3]
  by_cases h4 : x.a.reg = y.a.reg
  rotate_left
  · simp [h0, h1, h2, h3, h4]
  by_cases h5 : x.a.num = y.a.num
  rotate_left
  · simp [h0, h1, h2, h3, h4, h5]
  by_cases h6 : x.b.reg = y.b.reg
  rotate_left
  · simp [h0, h1, h2, h3, h4, h5, h6]
  by_cases h7 : x.b.num = y.b.num
  rotate_left
  · simp [h0, h1, h2, h3, h4, h5, h6, h7]
  simp [h0, h1, h2, h3, h4, h5, h6, h7]
def eqEv (x y : EvD) : Bool := x.n == y.n && x.val == y.val
theorem eqEv_cases (x y : EvD) : (eqEv x y = true ∧ x.n = y.n ∧ x.val = y.val) ∨ (eqEv x y = false ∧ ¬ x.n = y.n ∧ True) ∨ (eqEv x y = false ∧ x.n = y.n ∧ ¬ x.val = y.val) := by
  unfold eqEv
  by_cases h0 : x.n = y.n
  rotate_left
  · simp [h0]
  by_cases h1 : x.val = y.val
  rotate_left
  · simp [h0, h1]
  simp [h0, h1]
set_option maxRecDepth 100000 in
set_option maxHeartbeats 4000000 in
theorem equalEv (av bv : Value) (l m : List EvD) (w : World) (h : RdRow kEv none w av l) (g : RdRow kEv none w bv m) :
    Calls Tryd.prog 73 #[av, bv] w fun e w' => e = .returned (.bool (eqL eqEv l m)) ∧ Below w.heap.size w w' := by
  obtain ⟨a, c, rfl⟩ := h.is
  obtain ⟨a2, c2, rfl⟩ := g.is
  have hl : l.length * 16 ≤ 140737488351232 := h.size
  have HR := Lib.hid h
  have GR := Lib.hid g
  clear h g
  by_cases hlen : l.length = m.length
  · have he : ((l.length : Int) != (m.length : Int)) = false := by rw [hlen]; simp
    have HL := Lib.hid hlen
    clear hlen
    go_enter Tryd.func73, Tryd.ntmps73
    go_wp2
    go_loopw [5] (fun i wr => ∃ k : Nat, k ≤ l.length ∧ i = .int .i64 k ∧ Hid (∀ (j : Nat) x y, j < k → l[j]? = some x → m[j]? = some y → eqEv x y = true) ∧ Below w.heap.size w wr) (fun i _ => l.length - (intOf i).toNat)
    case atStart => exact ⟨0, Nat.zero_le _, rfl, (fun j x y h => by omega), Below.refl _ _⟩
    case round =>
      obtain ⟨k, hk, rfl, hq, hb⟩ := hrel
      by_cases hlt : k < l.length
      · have hlt2 : k < m.length := by rw [← HL.out]; exact hlt
        obtain ⟨x, hx⟩ : ∃ x, l[k]? = some x := ⟨_, List.getElem?_eq_getElem hlt⟩
        obtain ⟨y, hy⟩ : ∃ y, m[k]? = some y := ⟨_, List.getElem?_eq_getElem hlt2⟩
        obtain ⟨b, o, rfl, _, c0, c1, _⟩ := atEv HR.out hx
        obtain ⟨b2, o2, rfl, _, d0, d1, _⟩ := atEv GR.out hy
        have c0' := cell_keepB hb c0 (block_lt_of_cell c0)
        have d0' := cell_keepB hb d0 (block_lt_of_cell d0)
        have c1' := cell_keepB hb c1 (block_lt_of_cell c1)
        have d1' := cell_keepB hb d1 (block_lt_of_cell d1)
        have HX := Lib.hid (And.intro hx hy)
        have hi1 : (k : Int) < (l.length : Int) := by omega
        have hi2 : (k : Int) < (m.length : Int) := by omega
        clear c0 d0 c1 d1 hx hy
        rcases eqEv_cases x y with ⟨hv, h0, h1⟩ | ⟨hv, h0, h1⟩ | ⟨hv, h0, h1⟩
        · have HV := Lib.hid hv
          clear hv
          go_wp2_with fail
          go_quiet (fail)
          go_wp2
          go_roundw
          case rel =>
            refine ⟨k + 1, by omega, by go_num, ?_, below_drewN hb _⟩
            intro j x' y' hj g1 g2
            rcases Nat.lt_or_ge j k with h | h
            · exact hq.out j x' y' h g1 g2
            · obtain rfl : j = k := by omega
              rw [HX.out.1] at g1; rw [HX.out.2] at g2
              cases g1; cases g2; exact HV.out
          case measure => simp [intOf]; omega
        all_goals
          have HV := Lib.hid hv
          clear hv
          go_wp2_with fail
          go_quiet (fail)
          go_wp2
          go_ret
          exact ⟨by rw [eqL_miss eqEv l m k x y HX.out.1 HX.out.2 HV.out]; rfl, below_drewN hb _⟩
      · obtain rfl : k = l.length := by omega
        go_wp2
        go_ret
        refine ⟨?_, hb⟩
        rw [eqL_all eqEv l m HL.out (fun j x y g1 g2 => hq.out j x y (List.getElem?_eq_some_iff.1 g1).1 g1 g2)]; rfl
  · have he : ((l.length : Int) != (m.length : Int)) = true := by rw [bne_iff_ne]; omega
    have HL := Lib.hid (eqL_len eqEv l m hlen)
    clear hlen
    go_enter Tryd.func73, Tryd.ntmps73
    go_wp2
    go_ret
    exact ⟨by rw [HL.out]; rfl, Below.refl _ _⟩
end Go.Proofs.YtkjkpddajjmloaaDoor
