/- Contracts of the kit's comparisons: called in whatever memory they return whether the two values read as equal ones, and write nothing that was there. Condition: both read as lists, instructions, functions, programs. -/
import Derived.Test.YtfdinncgncbmfaaDoorKitP
import Derived.Deep.QuietTactic
import Derived.BigQuiet
set_option linter.unusedVariables false
set_option linter.unusedSimpArgs false
namespace Go.Proofs.YtfdinncgncbmfaaDoor
open Go.ChangeShapes Go.WideShapes Go.ChangeAt Go.RowKit
def eqL {α : Type} (f : α → α → Bool) : List α → List α → Bool
  | [], [] => true
  | x :: r, y :: s => f x y && eqL f r s
  | _, _ => false
theorem eqL_len {α : Type} (f : α → α → Bool) : ∀ (l m : List α), l.length ≠ m.length → eqL f l m = false
  | [], [], h => absurd rfl h
  | [], _ :: _, _ => rfl
  | _ :: _, [], _ => rfl
  | x :: r, y :: s, h => by rw [eqL, eqL_len f r s (by simpa using h), Bool.and_false]
theorem eqL_miss {α : Type} (f : α → α → Bool) : ∀ (l m : List α) (k : Nat) (x y : α), l[k]? = some x → m[k]? = some y → f x y = false → eqL f l m = false
  | [], _, k, x, y, h, _, _ => by simp at h
  | _ :: _, [], k, x, y, _, h, _ => by simp at h
  | a :: r, b :: s, 0, x, y, h1, h2, h3 => by
    simp at h1 h2; subst h1; subst h2; rw [eqL, h3, Bool.false_and]
  | a :: r, b :: s, k + 1, x, y, h1, h2, h3 => by rw [eqL, eqL_miss f r s k x y (by simpa using h1) (by simpa using h2) h3, Bool.and_false]
theorem eqL_all {α : Type} (f : α → α → Bool) : ∀ (l m : List α), l.length = m.length → (∀ (k : Nat) (x y : α), l[k]? = some x → m[k]? = some y → f x y = true) → eqL f l m = true
  | [], [], _, _ => rfl
  | [], _ :: _, h, _ => by simp at h
  | _ :: _, [], h, _ => by simp at h
  | a :: r, b :: s, h, g => by
    rw [eqL, g 0 a b (by simp) (by simp), eqL_all f r s (by simpa using h) (fun (k : Nat) x y h1 h2 => g (k + 1) x y (by simpa using h1) (by simpa using h2)), Bool.and_true]
def eqS (a b : ByteArray) : Bool := a.toList == b.toList
def eqArr (x y : ArrD) : Bool := x.name.toList == y.name.toList && x.size == y.size
def eqArg (x y : ArgD) : Bool := x.name.toList == y.name.toList && x.num == y.num
def eqInstr (x y : InstrD) : Bool := x.kind == y.kind && x.op == y.op && x.dst.toList == y.dst.toList && x.name.toList == y.name.toList && eqL eqArg x.args y.args && (x.line == y.line && x.col == y.col)
def eqFunc (x y : FuncD) : Bool := x.name.toList == y.name.toList && eqL eqS x.params y.params && eqL eqInstr x.code y.code && (x.line == y.line && x.col == y.col)
def eqProg (x y : ProgD) : Bool := x.width == y.width && eqL eqS x.chans y.chans && eqL eqArr x.arrays y.arrays && eqL eqFunc x.funcs y.funcs && eqL eqInstr x.main y.main
theorem eqArg_cases (x y : ArgD) : (eqArg x y = true ∧ x.name.toList = y.name.toList ∧ x.num = y.num) ∨ (eqArg x y = false ∧ x.name.toList = y.name.toList ∧ ¬ x.num = y.num) ∨ (eqArg x y = false ∧ ¬ x.name.toList = y.name.toList ∧ True) := by
  unfold eqArg
  by_cases h1 : x.name.toList = y.name.toList <;> by_cases h2 : x.num = y.num <;> simp [h1, h2]
theorem eqArr_cases (x y : ArrD) : (eqArr x y = true ∧ x.name.toList = y.name.toList ∧ x.size = y.size) ∨ (eqArr x y = false ∧ x.name.toList = y.name.toList ∧ ¬ x.size = y.size) ∨ (eqArr x y = false ∧ ¬ x.name.toList = y.name.toList ∧ True) := by
  unfold eqArr
  by_cases h1 : x.name.toList = y.name.toList <;> by_cases h2 : x.size = y.size <;> simp [h1, h2]
theorem eqS_cases (x y : ByteArray) : (eqS x y = true ∧ (x.toList == y.toList) = true ∧ True) ∨ (eqS x y = false ∧ (x.toList == y.toList) = false ∧ True) ∨ (eqS x y = false ∧ (x.toList == y.toList) = false ∧ True) := by
  unfold eqS
  cases (x.toList == y.toList) <;> simp
set_option maxRecDepth 100000 in
set_option maxHeartbeats 1600000 in
theorem equalStrs (av bv : Value) (l m : List ByteArray) (w : World) (h : RdStrs none w av l) (g : RdStrs none w bv m) :
    Calls Tryd.prog 11 #[av, bv] w fun e w' => e = .returned (.bool (eqL eqS l m)) ∧ Below w.heap.size w w' := by
  obtain ⟨a, c, rfl, hl, hr⟩ := h
  obtain ⟨a2, c2, rfl, hl2, gr⟩ := g
  have HR := Lib.hid hr
  have GR := Lib.hid gr
  clear hr gr
  by_cases hlen : l.length = m.length
  · have he : ((l.length : Int) != (m.length : Int)) = false := by rw [hlen]; simp
    have HL := Lib.hid hlen
    clear hlen
    go_enter Tryd.func11, Tryd.ntmps11
    go_wp2
    go_loopw [5] (fun i wr => ∃ k : Nat, k ≤ l.length ∧ i = .int .i64 k ∧ Hid (∀ (j : Nat) x y, j < k → l[j]? = some x → m[j]? = some y → eqS x y = true) ∧ Below w.heap.size w wr) (fun i _ => l.length - (intOf i).toNat)
    case atStart => exact ⟨0, Nat.zero_le _, rfl, (fun j x y h => by omega), Below.refl _ _⟩
    case round =>
      obtain ⟨k, hk, rfl, hq, hb⟩ := hrel
      by_cases hlt : k < l.length
      · have hlt2 : k < m.length := by rw [← HL.out]; exact hlt
        obtain ⟨x, hx⟩ : ∃ x, l[k]? = some x := ⟨_, List.getElem?_eq_getElem hlt⟩
        obtain ⟨y, hy⟩ : ∃ y, m[k]? = some y := ⟨_, List.getElem?_eq_getElem hlt2⟩
        obtain ⟨b, o, rfl, _, c0, _⟩ := HR.out k x hx
        obtain ⟨b2, o2, rfl, _, d0, _⟩ := GR.out k y hy
        have c0' := cell_keepB hb c0 (block_lt_of_cell c0)
        have d0' := cell_keepB hb d0 (block_lt_of_cell d0)
        have HX := Lib.hid (And.intro hx hy)
        have hi1 : (k : Int) < (l.length : Int) := by omega
        have hi2 : (k : Int) < (m.length : Int) := by omega
        clear c0 d0 hx hy
        rcases eqS_cases x y with ⟨hv, h1, h2⟩ | ⟨hv, h1, h2⟩ | ⟨hv, h1, h2⟩
        · have HV := Lib.hid hv
          clear hv
          go_wp2_with fail
          go_quiet (fail)
          go_wp2
          go_roundw
          case rel =>
            refine ⟨k + 1, by omega, by go_num, ?_, below_drewN hb _⟩
            intro j x' y' hj g1 g2
            rcases Nat.lt_or_ge j k with h | h
            · exact hq.out j x' y' h g1 g2
            · obtain rfl : j = k := by omega
              rw [HX.out.1] at g1; rw [HX.out.2] at g2
              cases g1; cases g2; exact HV.out
          case measure => simp [intOf]; omega
        all_goals
          have HV := Lib.hid hv
          clear hv
          go_wp2_with fail
          go_quiet (fail)
          go_wp2
          go_ret
          exact ⟨by rw [eqL_miss eqS l m k x y HX.out.1 HX.out.2 HV.out]; rfl, below_drewN hb _⟩
      · obtain rfl : k = l.length := by omega
        go_wp2
        go_ret
        refine ⟨?_, hb⟩
        rw [eqL_all eqS l m HL.out (fun j x y g1 g2 => hq.out j x y (List.getElem?_eq_some_iff.1 g1).1 g1 g2)]; rfl
  · have he : ((l.length : Int) != (m.length : Int)) = true := by rw [bne_iff_ne]; omega
    have HL := Lib.hid (eqL_len eqS l m hlen)
    clear hlen
    go_enter Tryd.func11, Tryd.ntmps11
    go_wp2
    go_ret
    exact ⟨by rw [HL.out]; rfl, Below.refl _ _⟩
set_option maxRecDepth 100000 in
set_option maxHeartbeats 1600000 in
theorem equalArgs (av bv : Value) (l m : List ArgD) (w : World) (h : RdArgs none w av l) (g : RdArgs none w bv m) :
    Calls Tryd.prog 30 #[av, bv] w fun e w' => e = .returned (.bool (eqL eqArg l m)) ∧ Below w.heap.size w w' := by
  obtain ⟨a, c, rfl, hl, hr⟩ := h
  obtain ⟨a2, c2, rfl, hl2, gr⟩ := g
  have HR := Lib.hid hr
  have GR := Lib.hid gr
  clear hr gr
  by_cases hlen : l.length = m.length
  · have he : ((l.length : Int) != (m.length : Int)) = false := by rw [hlen]; simp
    have HL := Lib.hid hlen
    clear hlen
    go_enter Tryd.func30, Tryd.ntmps30
    go_wp2
    go_loopw [5] (fun i wr => ∃ k : Nat, k ≤ l.length ∧ i = .int .i64 k ∧ Hid (∀ (j : Nat) x y, j < k → l[j]? = some x → m[j]? = some y → eqArg x y = true) ∧ Below w.heap.size w wr) (fun i _ => l.length - (intOf i).toNat)
    case atStart => exact ⟨0, Nat.zero_le _, rfl, (fun j x y h => by omega), Below.refl _ _⟩
    case round =>
      obtain ⟨k, hk, rfl, hq, hb⟩ := hrel
      by_cases hlt : k < l.length
      · have hlt2 : k < m.length := by rw [← HL.out]; exact hlt
        obtain ⟨x, hx⟩ : ∃ x, l[k]? = some x := ⟨_, List.getElem?_eq_getElem hlt⟩
        obtain ⟨y, hy⟩ : ∃ y, m[k]? = some y := ⟨_, List.getElem?_eq_getElem hlt2⟩
        obtain ⟨b, o, rfl, _, c0, c1, _⟩ := HR.out k x hx
        obtain ⟨b2, o2, rfl, _, d0, d1, _⟩ := GR.out k y hy
        have c0' := cell_keepB hb c0 (block_lt_of_cell c0)
        have d0' := cell_keepB hb d0 (block_lt_of_cell d0)
        have c1' := cell_keepB hb c1 (block_lt_of_cell c1)
        have d1' := cell_keepB hb d1 (block_lt_of_cell d1)
        have HX := Lib.hid (And.intro hx hy)
        have hi1 : (k : Int) < (l.length : Int) := by omega
        have hi2 : (k : Int) < (m.length : Int) := by omega
        clear c0 d0 c1 d1 hx hy
        rcases eqArg_cases x y with ⟨hv, h1, h2⟩ | ⟨hv, h1, h2⟩ | ⟨hv, h1, h2⟩
        · have HV := Lib.hid hv
          clear hv
          go_wp2_with fail
          go_quiet (fail)
          go_wp2
          go_roundw
          case rel =>
            refine ⟨k + 1, by omega, by go_num, ?_, below_drewN hb _⟩
            intro j x' y' hj g1 g2
            rcases Nat.lt_or_ge j k with h | h
            · exact hq.out j x' y' h g1 g2
            · obtain rfl : j = k := by omega
              rw [HX.out.1] at g1; rw [HX.out.2] at g2
              cases g1; cases g2; exact HV.out
          case measure => simp [intOf]; omega
        all_goals
          have HV := Lib.hid hv
          clear hv
          go_wp2_with fail
          go_quiet (fail)
          go_wp2
          go_ret
          exact ⟨by rw [eqL_miss eqArg l m k x y HX.out.1 HX.out.2 HV.out]; rfl, below_drewN hb _⟩
      · obtain rfl : k = l.length := by omega
        go_wp2
        go_ret
        refine ⟨?_, hb⟩
        rw [eqL_all eqArg l m HL.out (fun j x y g1 g2 => hq.out j x y (List.getElem?_eq_some_iff.1 g1).1 g1 g2)]; rfl
  · have he : ((l.length : Int) != (m.length : Int)) = true := by rw [bne_iff_ne]; omega
    have HL := Lib.hid (eqL_len eqArg l m hlen)
    clear hlen
    go_enter Tryd.func30, Tryd.ntmps30
    go_wp2
    go_ret
    exact ⟨by rw [HL.out]; rfl, Below.refl _ _⟩
set_option maxRecDepth 100000 in
set_option maxHeartbeats 1600000 in
theorem equalArrs (av bv : Value) (l m : List ArrD) (w : World) (h : RdArrs none w av l) (g : RdArrs none w bv m) :
    Calls Tryd.prog 12 #[av, bv] w fun e w' => e = .returned (.bool (eqL eqArr l m)) ∧ Below w.heap.size w w' := by
  obtain ⟨a, c, rfl, hl, hr⟩ := h
  obtain ⟨a2, c2, rfl, hl2, gr⟩ := g
  have HR := Lib.hid hr
  have GR := Lib.hid gr
  clear hr gr
  by_cases hlen : l.length = m.length
  · have he : ((l.length : Int) != (m.length : Int)) = false := by rw [hlen]; simp
    have HL := Lib.hid hlen
    clear hlen
    go_enter Tryd.func12, Tryd.ntmps12
    go_wp2
    go_loopw [5] (fun i wr => ∃ k : Nat, k ≤ l.length ∧ i = .int .i64 k ∧ Hid (∀ (j : Nat) x y, j < k → l[j]? = some x → m[j]? = some y → eqArr x y = true) ∧ Below w.heap.size w wr) (fun i _ => l.length - (intOf i).toNat)
    case atStart => exact ⟨0, Nat.zero_le _, rfl, (fun j x y h => by omega), Below.refl _ _⟩
    case round =>
      obtain ⟨k, hk, rfl, hq, hb⟩ := hrel
      by_cases hlt : k < l.length
      · have hlt2 : k < m.length := by rw [← HL.out]; exact hlt
        obtain ⟨x, hx⟩ : ∃ x, l[k]? = some x := ⟨_, List.getElem?_eq_getElem hlt⟩
        obtain ⟨y, hy⟩ : ∃ y, m[k]? = some y := ⟨_, List.getElem?_eq_getElem hlt2⟩
        obtain ⟨b, o, rfl, _, c0, c1, _⟩ := HR.out k x hx
        obtain ⟨b2, o2, rfl, _, d0, d1, _⟩ := GR.out k y hy
        have c0' := cell_keepB hb c0 (block_lt_of_cell c0)
        have d0' := cell_keepB hb d0 (block_lt_of_cell d0)
        have c1' := cell_keepB hb c1 (block_lt_of_cell c1)
        have d1' := cell_keepB hb d1 (block_lt_of_cell d1)
        have HX := Lib.hid (And.intro hx hy)
        have hi1 : (k : Int) < (l.length : Int) := by omega
        have hi2 : (k : Int) < (m.length : Int) := by omega
        clear c0 d0 c1 d1 hx hy
        rcases eqArr_cases x y with ⟨hv, h1, h2⟩ | ⟨hv, h1, h2⟩ | ⟨hv, h1, h2⟩
        · have HV := Lib.hid hv
          clear hv
          go_wp2_with fail
          go_quiet (fail)
          go_wp2
          go_roundw
          case rel =>
            refine ⟨k + 1, by omega, by go_num, ?_, below_drewN hb _⟩
            intro j x' y' hj g1 g2
            rcases Nat.lt_or_ge j k with h | h
            · exact hq.out j x' y' h g1 g2
            · obtain rfl : j = k := by omega
              rw [HX.out.1] at g1; rw [HX.out.2] at g2
              cases g1; cases g2; exact HV.out
          case measure => simp [intOf]; omega
        all_goals
          have HV := Lib.hid hv
          clear hv
          go_wp2_with fail
          go_quiet (fail)
          go_wp2
          go_ret
          exact ⟨by rw [eqL_miss eqArr l m k x y HX.out.1 HX.out.2 HV.out]; rfl, below_drewN hb _⟩
      · obtain rfl : k = l.length := by omega
        go_wp2
        go_ret
        refine ⟨?_, hb⟩
        rw [eqL_all eqArr l m HL.out (fun j x y g1 g2 => hq.out j x y (List.getElem?_eq_some_iff.1 g1).1 g1 g2)]; rfl
  · have he : ((l.length : Int) != (m.length : Int)) = true := by rw [bne_iff_ne]; omega
    have HL := Lib.hid (eqL_len eqArr l m hlen)
    clear hlen
    go_enter Tryd.func12, Tryd.ntmps12
    go_wp2
    go_ret
    exact ⟨by rw [HL.out]; rfl, Below.refl _ _⟩
end Go.Proofs.YtfdinncgncbmfaaDoor
