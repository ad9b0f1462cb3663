/- Contracts of prog.Equal and of what it calls: called in whatever memory they return whether two programs are equal but for positions. Condition: both read. -/
import Derived.Test.YteeebofjlchndaaDoorKitI
import Derived.Test.YteeebofjlchndaaDoorMix
import Derived.Deep.CutBlock
import Derived.Deep.CutRange
import Derived.Deep.RegionWith
set_option linter.unusedVariables false
set_option linter.unusedSimpArgs false
set_option linter.unnecessarySimpa false
namespace Go.Proofs.YteeebofjlchndaaDoor
open Go.ChangeShapes Go.WideShapes Go.ChangeAt Go.RowKit
def eqInstrN (x y : InstrD) : Bool := x.kind == y.kind && x.op == y.op && x.dst.toList == y.dst.toList && x.name.toList == y.name.toList && eqL eqArg x.args y.args
def eqFuncN (x y : FuncD) : Bool := x.name.toList == y.name.toList && eqL eqS x.params y.params && eqL eqInstrN x.code y.code
def eqProgN (x y : ProgD) : Bool := x.width == y.width && eqL eqS x.chans y.chans && eqL eqArr x.arrays y.arrays && eqL eqFuncN x.funcs y.funcs && eqL eqInstrN x.main y.main
set_option maxRecDepth 100000 in
set_option maxHeartbeats 1600000 in
theorem sliceEqStrs (av bv : Value) (l m : List ByteArray) (w : World) (h : RdStrs none w av l) (g : RdStrs none w bv m) :
    Calls Tryd.prog 28 #[av, bv] w fun e w' => e = .returned (.bool (eqL eqS l m)) ∧ Below w.heap.size w w' := by
  obtain ⟨a, c, rfl, hl, hr⟩ := h
  obtain ⟨a2, c2, rfl, hl2, gr⟩ := g
  have HR := Lib.hid hr
  have GR := Lib.hid gr
  clear hr gr
  by_cases hlen : l.length = m.length
  · have he : ((l.length : Int) != (m.length : Int)) = false := by rw [hlen]; simp
    have HL := Lib.hid hlen
    clear hlen
    go_enter Tryd.func28, Tryd.ntmps28
    go_wp2
    go_loopw [5, 13] (fun _ i wr => ∃ k : Nat, k ≤ l.length ∧ i = .int .i64 k ∧ Hid (∀ (j : Nat) x y, j < k → l[j]? = some x → m[j]? = some y → eqS x y = true) ∧ Below w.heap.size w wr) (fun _ i _ => l.length - (intOf i).toNat)
    case atStart => exact ⟨0, Nat.zero_le _, rfl, (fun j x y h => by omega), Below.refl _ _⟩
    case round =>
      obtain ⟨k, hk, rfl, hq, hb⟩ := hrel
      by_cases hlt : k < l.length
      · have hlt2 : k < m.length := by rw [← HL.out]; exact hlt
        obtain ⟨x, hx⟩ : ∃ x, l[k]? = some x := ⟨_, List.getElem?_eq_getElem hlt⟩
        obtain ⟨y, hy⟩ : ∃ y, m[k]? = some y := ⟨_, List.getElem?_eq_getElem hlt2⟩
        obtain ⟨b, o, rfl, _, c0, _⟩ := HR.out k x hx
        obtain ⟨b2, o2, rfl, _, d0, _⟩ := GR.out k y hy
        have c0' := cell_keepB hb c0 (block_lt_of_cell c0)
        have d0' := cell_keepB hb d0 (block_lt_of_cell d0)
        have HX := Lib.hid (And.intro hx hy)
        have hi1 : (k : Int) < (l.length : Int) := by omega
        have hi2 : (k : Int) < (m.length : Int) := by omega
        clear c0 d0 hx hy
        rcases eqS_cases x y with ⟨hv, h1, h2⟩ | ⟨hv, h1, h2⟩ | ⟨hv, h1, h2⟩
        · have HV := Lib.hid hv
          clear hv
          go_wp2_with fail
          go_quiet (fail)
          go_wp2
          go_roundw
          case rel =>
            refine ⟨k + 1, by omega, by go_num, ?_, below_drewN hb _⟩
            intro j x' y' hj g1 g2
            rcases Nat.lt_or_ge j k with h | h
            · exact hq.out j x' y' h g1 g2
            · obtain rfl : j = k := by omega
              rw [HX.out.1] at g1; rw [HX.out.2] at g2
              cases g1; cases g2; exact HV.out
          case measure => simp [intOf]; omega
        all_goals
          have HV := Lib.hid hv
          clear hv
          go_wp2_with fail
          go_quiet (fail)
          go_wp2
          go_ret
          exact ⟨by rw [eqL_miss eqS l m k x y HX.out.1 HX.out.2 HV.out]; rfl, below_drewN hb _⟩
      · obtain rfl : k = l.length := by omega
        go_wp2
        go_ret
        refine ⟨?_, hb⟩
        rw [eqL_all eqS l m HL.out (fun j x y g1 g2 => hq.out j x y (List.getElem?_eq_some_iff.1 g1).1 g1 g2)]; rfl
  · have he : ((l.length : Int) != (m.length : Int)) = true := by rw [bne_iff_ne]; omega
    have HL := Lib.hid (eqL_len eqS l m hlen)
    clear hlen
    go_enter Tryd.func28, Tryd.ntmps28
    go_wp2
    go_ret
    exact ⟨by rw [HL.out]; rfl, Below.refl _ _⟩
set_option maxRecDepth 100000 in
set_option maxHeartbeats 1600000 in
theorem sliceEqArrs (av bv : Value) (l m : List ArrD) (w : World) (h : RdArrs none w av l) (g : RdArrs none w bv m) :
    Calls Tryd.prog 31 #[av, bv] w fun e w' => e = .returned (.bool (eqL eqArr l m)) ∧ Below w.heap.size w w' := by
  obtain ⟨a, c, rfl, hl, hr⟩ := h
  obtain ⟨a2, c2, rfl, hl2, gr⟩ := g
  have HR := Lib.hid hr
  have GR := Lib.hid gr
  clear hr gr
  by_cases hlen : l.length = m.length
  · have he : ((l.length : Int) != (m.length : Int)) = false := by rw [hlen]; simp
    have HL := Lib.hid hlen
    clear hlen
    go_enter Tryd.func31, Tryd.ntmps31
    go_wp2
    go_loopw [5, 13] (fun _ i wr => ∃ k : Nat, k ≤ l.length ∧ i = .int .i64 k ∧ Hid (∀ (j : Nat) x y, j < k → l[j]? = some x → m[j]? = some y → eqArr x y = true) ∧ Below w.heap.size w wr) (fun _ i _ => l.length - (intOf i).toNat)
    case atStart => exact ⟨0, Nat.zero_le _, rfl, (fun j x y h => by omega), Below.refl _ _⟩
    case round =>
      obtain ⟨k, hk, rfl, hq, hb⟩ := hrel
      by_cases hlt : k < l.length
      · have hlt2 : k < m.length := by rw [← HL.out]; exact hlt
        obtain ⟨x, hx⟩ : ∃ x, l[k]? = some x := ⟨_, List.getElem?_eq_getElem hlt⟩
        obtain ⟨y, hy⟩ : ∃ y, m[k]? = some y := ⟨_, List.getElem?_eq_getElem hlt2⟩
        obtain ⟨b, o, rfl, _, c0, c1, _⟩ := HR.out k x hx
        obtain ⟨b2, o2, rfl, _, d0, d1, _⟩ := GR.out k y hy
        have c0' := cell_keepB hb c0 (block_lt_of_cell c0)
        have d0' := cell_keepB hb d0 (block_lt_of_cell d0)
        have c1' := cell_keepB hb c1 (block_lt_of_cell c1)
        have d1' := cell_keepB hb d1 (block_lt_of_cell d1)
        have HX := Lib.hid (And.intro hx hy)
        have hi1 : (k : Int) < (l.length : Int) := by omega
        have hi2 : (k : Int) < (m.length : Int) := by omega
        clear c0 d0 c1 d1 hx hy
        rcases eqArr_cases x y with ⟨hv, h1, h2⟩ | ⟨hv, h1, h2⟩ | ⟨hv, h1, h2⟩
        · have HV := Lib.hid hv
          clear hv
          go_wp2_with fail
          go_quiet (fail)
          go_wp2
          go_roundw
          case rel =>
            refine ⟨k + 1, by omega, by go_num, ?_, below_drewN hb _⟩
            intro j x' y' hj g1 g2
            rcases Nat.lt_or_ge j k with h | h
            · exact hq.out j x' y' h g1 g2
            · obtain rfl : j = k := by omega
              rw [HX.out.1] at g1; rw [HX.out.2] at g2
              cases g1; cases g2; exact HV.out
          case measure => simp [intOf]; omega
        all_goals
          have HV := Lib.hid hv
          clear hv
          go_wp2_with fail
          go_quiet (fail)
          go_wp2
          go_ret
          exact ⟨by rw [eqL_miss eqArr l m k x y HX.out.1 HX.out.2 HV.out]; rfl, below_drewN hb _⟩
      · obtain rfl : k = l.length := by omega
        go_wp2
        go_ret
        refine ⟨?_, hb⟩
        rw [eqL_all eqArr l m HL.out (fun j x y g1 g2 => hq.out j x y (List.getElem?_eq_some_iff.1 g1).1 g1 g2)]; rfl
  · have he : ((l.length : Int) != (m.length : Int)) = true := by rw [bne_iff_ne]; omega
    have HL := Lib.hid (eqL_len eqArr l m hlen)
    clear hlen
    go_enter Tryd.func31, Tryd.ntmps31
    go_wp2
    go_ret
    exact ⟨by rw [HL.out]; rfl, Below.refl _ _⟩
set_option maxRecDepth 100000 in
set_option maxHeartbeats 1600000 in
theorem sliceEqArgs (av bv : Value) (l m : List ArgD) (w : World) (h : RdArgs none w av l) (g : RdArgs none w bv m) :
    Calls Tryd.prog 44 #[av, bv] w fun e w' => e = .returned (.bool (eqL eqArg l m)) ∧ Below w.heap.size w w' := by
  obtain ⟨a, c, rfl, hl, hr⟩ := h
  obtain ⟨a2, c2, rfl, hl2, gr⟩ := g
  have HR := Lib.hid hr
  have GR := Lib.hid gr
  clear hr gr
  by_cases hlen : l.length = m.length
  · have he : ((l.length : Int) != (m.length : Int)) = false := by rw [hlen]; simp
    have HL := Lib.hid hlen
    clear hlen
    go_enter Tryd.func44, Tryd.ntmps44
    go_wp2
    go_loopw [5, 13] (fun _ i wr => ∃ k : Nat, k ≤ l.length ∧ i = .int .i64 k ∧ Hid (∀ (j : Nat) x y, j < k → l[j]? = some x → m[j]? = some y → eqArg x y = true) ∧ Below w.heap.size w wr) (fun _ i _ => l.length - (intOf i).toNat)
    case atStart => exact ⟨0, Nat.zero_le _, rfl, (fun j x y h => by omega), Below.refl _ _⟩
    case round =>
      obtain ⟨k, hk, rfl, hq, hb⟩ := hrel
      by_cases hlt : k < l.length
      · have hlt2 : k < m.length := by rw [← HL.out]; exact hlt
        obtain ⟨x, hx⟩ : ∃ x, l[k]? = some x := ⟨_, List.getElem?_eq_getElem hlt⟩
        obtain ⟨y, hy⟩ : ∃ y, m[k]? = some y := ⟨_, List.getElem?_eq_getElem hlt2⟩
        obtain ⟨b, o, rfl, _, c0, c1, _⟩ := HR.out k x hx
        obtain ⟨b2, o2, rfl, _, d0, d1, _⟩ := GR.out k y hy
        have c0' := cell_keepB hb c0 (block_lt_of_cell c0)
        have d0' := cell_keepB hb d0 (block_lt_of_cell d0)
        have c1' := cell_keepB hb c1 (block_lt_of_cell c1)
        have d1' := cell_keepB hb d1 (block_lt_of_cell d1)
        have HX := Lib.hid (And.intro hx hy)
        have hi1 : (k : Int) < (l.length : Int) := by omega
        have hi2 : (k : Int) < (m.length : Int) := by omega
        clear c0 d0 c1 d1 hx hy
        rcases eqArg_cases x y with ⟨hv, h1, h2⟩ | ⟨hv, h1, h2⟩ | ⟨hv, h1, h2⟩
        · have HV := Lib.hid hv
          clear hv
          go_wp2_with fail
          go_quiet (fail)
          go_wp2
          go_roundw
          case rel =>
            refine ⟨k + 1, by omega, by go_num, ?_, below_drewN hb _⟩
            intro j x' y' hj g1 g2
            rcases Nat.lt_or_ge j k with h | h
            · exact hq.out j x' y' h g1 g2
            · obtain rfl : j = k := by omega
              rw [HX.out.1] at g1; rw [HX.out.2] at g2
              cases g1; cases g2; exact HV.out
          case measure => simp [intOf]; omega
        all_goals
          have HV := Lib.hid hv
          clear hv
          go_wp2_with fail
          go_quiet (fail)
          go_wp2
          go_ret
          exact ⟨by rw [eqL_miss eqArg l m k x y HX.out.1 HX.out.2 HV.out]; rfl, below_drewN hb _⟩
      · obtain rfl : k = l.length := by omega
        go_wp2
        go_ret
        refine ⟨?_, hb⟩
        rw [eqL_all eqArg l m HL.out (fun j x y g1 g2 => hq.out j x y (List.getElem?_eq_some_iff.1 g1).1 g1 g2)]; rfl
  · have he : ((l.length : Int) != (m.length : Int)) = true := by rw [bne_iff_ne]; omega
    have HL := Lib.hid (eqL_len eqArg l m hlen)
    clear hlen
    go_enter Tryd.func44, Tryd.ntmps44
    go_wp2
    go_ret
    exact ⟨by rw [HL.out]; rfl, Below.refl _ _⟩
set_option maxRecDepth 100000 in
set_option maxHeartbeats 1600000 in
theorem equalInstrN (x y : InstrD) (av bv : Value) (w : World) (h : RdInstr none w x av) (g : RdInstr none w y bv) :
    Calls Tryd.prog 30 #[instrV x av, instrV y bv] w fun e w' => e = .returned (.bool (eqInstrN x y)) ∧ Below w.heap.size w w' := by
  have hb0 : Hid (Below w.heap.size w ((w.alloc (.cells #[.int .u8 x.kind, .int .u8 x.op, .string x.dst, .string x.name, av, .int .i64 x.line, .int .i64 x.col] 40)).alloc (.cells #[.int .u8 y.kind, .int .u8 y.op, .string y.dst, .string y.name, bv, .int .i64 y.line, .int .i64 y.col] 40))) := (((Below.refl _ _).alloc (Nat.le_refl _) _).alloc (by simp) _)
  have HA := Lib.hid (sliceEqArgs av bv x.args y.args _ (h.1.keep hb0.out) (g.1.keep hb0.out))
  clear h g
  cases h0 : (x.kind == y.kind)
  · skip
    have HV : Hid (eqInstrN x y = false) := by show _ = _; simp [eqInstrN, h0]
    go_enter Tryd.func30, Tryd.ntmps30
    go_wp2_with (go_at_call 44; refine HA.out.mono ?_; rintro e w1 ⟨rfl, hw1⟩)
    go_ret
    exact ⟨by rw [HV.out]; rfl, by repeat (first | exact hb0.out | refine bcomp' (by assumption) ?_)⟩
  cases h1 : (x.op == y.op)
  · skip
    have HV : Hid (eqInstrN x y = false) := by show _ = _; simp [eqInstrN, h0, h1]
    go_enter Tryd.func30, Tryd.ntmps30
    go_wp2_with (go_at_call 44; refine HA.out.mono ?_; rintro e w1 ⟨rfl, hw1⟩)
    go_ret
    exact ⟨by rw [HV.out]; rfl, by repeat (first | exact hb0.out | refine bcomp' (by assumption) ?_)⟩
  cases h2 : (x.dst.toList == y.dst.toList)
  · skip
    have HV : Hid (eqInstrN x y = false) := by show _ = _; simp [eqInstrN, h0, h1, h2]
    go_enter Tryd.func30, Tryd.ntmps30
    go_wp2_with (go_at_call 44; refine HA.out.mono ?_; rintro e w1 ⟨rfl, hw1⟩)
    go_ret
    exact ⟨by rw [HV.out]; rfl, by repeat (first | exact hb0.out | refine bcomp' (by assumption) ?_)⟩
  cases h3 : (x.name.toList == y.name.toList)
  · skip
    have HV : Hid (eqInstrN x y = false) := by show _ = _; simp [eqInstrN, h0, h1, h2, h3]
    go_enter Tryd.func30, Tryd.ntmps30
    go_wp2_with (go_at_call 44; refine HA.out.mono ?_; rintro e w1 ⟨rfl, hw1⟩)
    go_ret
    exact ⟨by rw [HV.out]; rfl, by repeat (first | exact hb0.out | refine bcomp' (by assumption) ?_)⟩
  cases h4 : (eqL eqArg x.args y.args)
  · skip
    have HV : Hid (eqInstrN x y = false) := by show _ = _; simp [eqInstrN, h0, h1, h2, h3, h4]
    go_enter Tryd.func30, Tryd.ntmps30
    go_wp2_with (go_at_call 44; refine HA.out.mono ?_; rintro e w1 ⟨rfl, hw1⟩)
    go_ret
    exact ⟨by rw [HV.out]; rfl, by repeat (first | exact hb0.out | refine bcomp' (by assumption) ?_)⟩
  have HV : Hid (eqInstrN x y = true) := by show _ = _; simp [eqInstrN, h0, h1, h2, h3, h4]
  go_enter Tryd.func30, Tryd.ntmps30
  go_wp2_with (go_at_call 44; refine HA.out.mono ?_; rintro e w1 ⟨rfl, hw1⟩)
  go_ret
  exact ⟨by rw [HV.out]; rfl, by repeat (first | exact hb0.out | refine bcomp' (by assumption) ?_)⟩
set_option maxRecDepth 100000 in
set_option maxHeartbeats 1600000 in
theorem eqInstrsN (av bv : Value) (l m : List InstrD) (w : World) (h : RdInstrs none w av l) (g : RdInstrs none w bv m) :
    Calls Tryd.prog 29 #[av, bv, .func (.func 30) #[] #[]] w fun e w' => e = .returned (.bool (eqL eqInstrN l m)) ∧ Below w.heap.size w w' := by
  obtain ⟨a, c, rfl, ⟨hl, -⟩, hr⟩ := h
  obtain ⟨a2, c2, rfl, hl2, gr⟩ := g
  have HR := Lib.hid hr
  have GR := Lib.hid gr
  clear hr gr
  by_cases hlen : l.length = m.length
  · have he : ((l.length : Int) != (m.length : Int)) = false := by rw [hlen]; simp
    have HL := Lib.hid hlen
    clear hlen
    go_enter Tryd.func29, Tryd.ntmps29
    go_wp2_with fail
    go_loopw [7, 8, 9, 17] (fun _ _ _ i wr => ∃ k : Nat, k ≤ l.length ∧ i = .int .i64 k ∧ Hid (∀ (j : Nat) x y, j < k → l[j]? = some x → m[j]? = some y → eqInstrN x y = true) ∧ Below w.heap.size w wr) (fun _ _ _ i _ => l.length - (intOf i).toNat)
    case atStart => exact ⟨0, Nat.zero_le _, rfl, (fun j x y h => by omega), Below.refl _ _⟩
    case round =>
      obtain ⟨k, hk, rfl, hq, hb⟩ := hrel
      obtain ⟨w1, rfl⟩ : ∃ x : World, x = wr := ⟨_, rfl⟩
      have HB := Lib.hid hb
      by_cases hlt : k < l.length
      · have hlt2 : k < m.length := by rw [← HL.out]; exact hlt
        obtain ⟨x, hx⟩ : ∃ x, l[k]? = some x := ⟨_, List.getElem?_eq_getElem hlt⟩
        obtain ⟨y, hy⟩ : ∃ y, m[k]? = some y := ⟨_, List.getElem?_eq_getElem hlt2⟩
        obtain ⟨b, o, xav, rfl, _, c0, c1, c2, c3, c4, c5, c6, hrx⟩ := HR.out k x hx
        obtain ⟨b2, o2, yav, rfl, _, d0, d1, d2, d3, d4, d5, d6, hry⟩ := GR.out k y hy
        obtain ⟨xa, xc, rfl, -, -⟩ := id hrx.1
        obtain ⟨ya, yc, rfl, -, -⟩ := id hry.1
        have c0' := cell_keepB hb c0 (block_lt_of_cell c0)
        have d0' := cell_keepB hb d0 (block_lt_of_cell d0)
        have c1' := cell_keepB hb c1 (block_lt_of_cell c1)
        have d1' := cell_keepB hb d1 (block_lt_of_cell d1)
        have c2' := cell_keepB hb c2 (block_lt_of_cell c2)
        have d2' := cell_keepB hb d2 (block_lt_of_cell d2)
        have c3' := cell_keepB hb c3 (block_lt_of_cell c3)
        have d3' := cell_keepB hb d3 (block_lt_of_cell d3)
        have c4' := cell_keepB hb c4 (block_lt_of_cell c4)
        have d4' := cell_keepB hb d4 (block_lt_of_cell d4)
        have c5' := cell_keepB hb c5 (block_lt_of_cell c5)
        have d5' := cell_keepB hb d5 (block_lt_of_cell d5)
        have c6' := cell_keepB hb c6 (block_lt_of_cell c6)
        have d6' := cell_keepB hb d6 (block_lt_of_cell d6)
        have HX := Lib.hid (And.intro hx hy)
        have hi1 : (k : Int) < (l.length : Int) := by omega
        have hi2 : (k : Int) < (m.length : Int) := by omega
        have k2 := ((Below.refl w1.heap.size w1).alloc (Nat.le_refl _) (.cells #[.int .u8 x.kind, .int .u8 x.op, .string x.dst, .string x.name, .slice xa x.args.length xc, .int .i64 x.line, .int .i64 x.col] 40)).alloc (by simp) (.cells #[.int .u8 y.kind, .int .u8 y.op, .string y.dst, .string y.name, .slice ya y.args.length yc, .int .i64 y.line, .int .i64 y.col] 40)
        have g2 := heap2_of (w := w1) (A := .cells #[.int .u8 x.kind, .int .u8 x.op, .string x.dst, .string x.name, .slice xa x.args.length xc, .int .i64 x.line, .int .i64 x.col] 40 (0, 0)) (B := .cells #[.int .u8 y.kind, .int .u8 y.op, .string y.dst, .string y.name, .slice ya y.args.length yc, .int .i64 y.line, .int .i64 y.col] 40 (0, 0)) (Below.refl _ _)
        have HG0 := Lib.hid g2.1
        have HG1 := Lib.hid g2.2.1
        have HC := Lib.hid (equalInstrN x y _ _ ((w1.alloc (.cells #[.int .u8 x.kind, .int .u8 x.op, .string x.dst, .string x.name, .slice xa x.args.length xc, .int .i64 x.line, .int .i64 x.col] 40)).alloc (.cells #[.int .u8 y.kind, .int .u8 y.op, .string y.dst, .string y.name, .slice ya y.args.length yc, .int .i64 y.line, .int .i64 y.col] 40)) ((hrx.keep hb).keep k2) ((hry.keep hb).keep k2))
        have HB2 := Lib.hid (bcomp hb k2)
        have kA := (Below.refl w1.heap.size w1).alloc (Nat.le_refl _) (.cells #[.int .u8 x.kind, .int .u8 x.op, .string x.dst, .string x.name, .slice xa x.args.length xc, .int .i64 x.line, .int .i64 x.col] 40)
        have e0 := cell_keep kA d0'
        have e1 := cell_keep kA d1'
        have e2 := cell_keep kA d2'
        have e3 := cell_keep kA d3'
        have e4 := cell_keep kA d4'
        have e5 := cell_keep kA d5'
        have e6 := cell_keep kA d6'
        clear hx hy hrx hry hb k2 g2 kA c0 d0 c1 d1 c2 d2 c3 d3 c4 d4 c5 d5 c6 d6
        go_upto_region 7 with fail
        clear c0' d0' c1' d1' c2' d2' c3' d3' c4' d4' c5' d5' c6' d6' e0 e1 e2 e3 e4 e5 e6
        generalize (w1.alloc (.cells #[.int .u8 x.kind, .int .u8 x.op, .string x.dst, .string x.name, .slice xa x.args.length xc, .int .i64 x.line, .int .i64 x.col] 40)).alloc (.cells #[.int .u8 y.kind, .int .u8 y.op, .string y.dst, .string y.name, .slice ya y.args.length yc, .int .i64 y.line, .int .i64 y.col] 40) = W at *
        generalize w1.heap.size = xb at *
        have r0 := row_of HG0.out 0 _ rfl
        have s0 := row_of HG1.out 0 _ rfl
        have r1 := row_of HG0.out 1 _ rfl
        have s1 := row_of HG1.out 1 _ rfl
        have r2 := row_of HG0.out 2 _ rfl
        have s2 := row_of HG1.out 2 _ rfl
        have r3 := row_of HG0.out 3 _ rfl
        have s3 := row_of HG1.out 3 _ rfl
        have r4 := row_of HG0.out 4 _ rfl
        have s4 := row_of HG1.out 4 _ rfl
        have r5 := row_of HG0.out 5 _ rfl
        have s5 := row_of HG1.out 5 _ rfl
        have r6 := row_of HG0.out 6 _ rfl
        have s6 := row_of HG1.out 6 _ rfl
        cases hv : eqInstrN x y
        · have HV := Lib.hid hv
          rw [hv] at HC
          clear hv
          go_wp2_with (go_at_call 30; refine HC.out.mono ?_; rintro e w2 ⟨rfl, hw2⟩)
          go_ret
          exact ⟨by rw [eqL_miss eqInstrN l m k x y HX.out.1 HX.out.2 HV.out]; rfl, bcomp HB2.out hw2⟩
        · have HV := Lib.hid hv
          rw [hv] at HC
          clear hv
          go_wp2_with (go_at_call 30; refine HC.out.mono ?_; rintro e w2 ⟨rfl, hw2⟩)
          go_roundw
          case rel =>
            refine ⟨k + 1, by omega, by go_num, ?_, bcomp HB2.out hw2⟩
            intro j x' y' hj g1 g2
            rcases Nat.lt_or_ge j k with h | h
            · exact hq.out j x' y' h g1 g2
            · obtain rfl : j = k := by omega
              rw [HX.out.1] at g1; rw [HX.out.2] at g2
              cases g1; cases g2; exact HV.out
          case measure => simp [intOf]; omega
      · obtain rfl : k = l.length := by omega
        have hi1 : ¬ ((l.length : Nat) : Int) < (l.length : Int) := by omega
        go_wp2_with fail
        go_ret
        refine ⟨?_, HB.out⟩
        rw [eqL_all eqInstrN l m HL.out (fun j x y g1 g2 => hq.out j x y (List.getElem?_eq_some_iff.1 g1).1 g1 g2)]; rfl
  · have he : ((l.length : Int) != (m.length : Int)) = true := by rw [bne_iff_ne]; omega
    have HL := Lib.hid (eqL_len eqInstrN l m hlen)
    clear hlen
    go_enter Tryd.func29, Tryd.ntmps29
    go_wp2_with fail
    go_ret
    exact ⟨by rw [HL.out]; rfl, Below.refl _ _⟩
set_option maxRecDepth 100000 in
set_option maxHeartbeats 1600000 in
theorem equalFuncN (x y : FuncD) (pv cv qv dv : Value) (w : World) (h : RdFunc none w x pv cv) (g : RdFunc none w y qv dv) :
    Calls Tryd.prog 27 #[funcV x pv cv, funcV y qv dv] w fun e w' => e = .returned (.bool (eqFuncN x y)) ∧ Below w.heap.size w w' := by
  have hb0 : Hid (Below w.heap.size w ((w.alloc (.cells #[.string x.name, pv, cv, .int .i64 x.line, .int .i64 x.col] 51)).alloc (.cells #[.string y.name, qv, dv, .int .i64 y.line, .int .i64 y.col] 51))) := (((Below.refl _ _).alloc (Nat.le_refl _) _).alloc (by simp) _)
  have HA := Lib.hid (sliceEqStrs pv qv x.params y.params _ (h.1.keep hb0.out) (g.1.keep hb0.out))
  have HC := Lib.hid h.2.1
  have GC := Lib.hid g.2.1
  clear h g
  cases h0 : (x.name.toList == y.name.toList)
  · skip
    have HV : Hid (eqFuncN x y = false) := by show _ = _; simp [eqFuncN, h0]
    go_enter Tryd.func27, Tryd.ntmps27
    go_wp2_with (first | (go_at_call 28; refine HA.out.mono ?_; rintro e w1 ⟨rfl, hw1⟩; obtain ⟨g0, g1, hbw⟩ := heap2_of hw1; have i2 := row_of g0 2 cv rfl; have j2 := row_of g1 2 dv rfl; have HBW := Lib.hid hbw; clear g0 g1 hbw) | (go_at_call 29; refine (eqInstrsN cv dv x.code y.code _ (HC.out.keep HBW.out) (GC.out.keep HBW.out)).mono ?_; rintro e w2 ⟨rfl, hw2⟩))
    go_ret
    exact ⟨by rw [HV.out]; rfl, by repeat (first | exact hb0.out | exact Below.refl _ _ | refine bcomp' (by assumption) ?_)⟩
  cases h1 : (eqL eqS x.params y.params)
  · skip
    have HV : Hid (eqFuncN x y = false) := by show _ = _; simp [eqFuncN, h0, h1]
    go_enter Tryd.func27, Tryd.ntmps27
    go_wp2_with (first | (go_at_call 28; refine HA.out.mono ?_; rintro e w1 ⟨rfl, hw1⟩; obtain ⟨g0, g1, hbw⟩ := heap2_of hw1; have i2 := row_of g0 2 cv rfl; have j2 := row_of g1 2 dv rfl; have HBW := Lib.hid hbw; clear g0 g1 hbw) | (go_at_call 29; refine (eqInstrsN cv dv x.code y.code _ (HC.out.keep HBW.out) (GC.out.keep HBW.out)).mono ?_; rintro e w2 ⟨rfl, hw2⟩))
    go_ret
    exact ⟨by rw [HV.out]; rfl, by repeat (first | exact hb0.out | exact Below.refl _ _ | refine bcomp' (by assumption) ?_)⟩
  cases h2 : (eqL eqInstrN x.code y.code)
  · skip
    have HV : Hid (eqFuncN x y = false) := by show _ = _; simp [eqFuncN, h0, h1, h2]
    go_enter Tryd.func27, Tryd.ntmps27
    go_wp2_with (first | (go_at_call 28; refine HA.out.mono ?_; rintro e w1 ⟨rfl, hw1⟩; obtain ⟨g0, g1, hbw⟩ := heap2_of hw1; have i2 := row_of g0 2 cv rfl; have j2 := row_of g1 2 dv rfl; have HBW := Lib.hid hbw; clear g0 g1 hbw) | (go_at_call 29; refine (eqInstrsN cv dv x.code y.code _ (HC.out.keep HBW.out) (GC.out.keep HBW.out)).mono ?_; rintro e w2 ⟨rfl, hw2⟩))
    go_ret
    exact ⟨by rw [HV.out]; rfl, by repeat (first | exact hb0.out | exact Below.refl _ _ | refine bcomp' (by assumption) ?_)⟩
  have HV : Hid (eqFuncN x y = true) := by show _ = _; simp [eqFuncN, h0, h1, h2]
  go_enter Tryd.func27, Tryd.ntmps27
  go_wp2_with (first | (go_at_call 28; refine HA.out.mono ?_; rintro e w1 ⟨rfl, hw1⟩; obtain ⟨g0, g1, hbw⟩ := heap2_of hw1; have i2 := row_of g0 2 cv rfl; have j2 := row_of g1 2 dv rfl; have HBW := Lib.hid hbw; clear g0 g1 hbw) | (go_at_call 29; refine (eqInstrsN cv dv x.code y.code _ (HC.out.keep HBW.out) (GC.out.keep HBW.out)).mono ?_; rintro e w2 ⟨rfl, hw2⟩))
  go_ret
  exact ⟨by rw [HV.out]; rfl, by repeat (first | exact hb0.out | exact Below.refl _ _ | refine bcomp' (by assumption) ?_)⟩
set_option maxRecDepth 100000 in
set_option maxHeartbeats 1600000 in
theorem eqFuncsN (av bv : Value) (l m : List FuncD) (w : World) (h : RdFuncs none w av l) (g : RdFuncs none w bv m) :
    Calls Tryd.prog 32 #[av, bv, .func (.func 27) #[] #[]] w fun e w' => e = .returned (.bool (eqL eqFuncN l m)) ∧ Below w.heap.size w w' := by
  obtain ⟨a, c, rfl, ⟨hl, -⟩, hr⟩ := h
  obtain ⟨a2, c2, rfl, hl2, gr⟩ := g
  have HR := Lib.hid hr
  have GR := Lib.hid gr
  clear hr gr
  by_cases hlen : l.length = m.length
  · have he : ((l.length : Int) != (m.length : Int)) = false := by rw [hlen]; simp
    have HL := Lib.hid hlen
    clear hlen
    go_enter Tryd.func32, Tryd.ntmps32
    go_wp2_with fail
    go_loopw [7, 8, 9, 17] (fun _ _ _ i wr => ∃ k : Nat, k ≤ l.length ∧ i = .int .i64 k ∧ Hid (∀ (j : Nat) x y, j < k → l[j]? = some x → m[j]? = some y → eqFuncN x y = true) ∧ Below w.heap.size w wr) (fun _ _ _ i _ => l.length - (intOf i).toNat)
    case atStart => exact ⟨0, Nat.zero_le _, rfl, (fun j x y h => by omega), Below.refl _ _⟩
    case round =>
      obtain ⟨k, hk, rfl, hq, hb⟩ := hrel
      obtain ⟨w1, rfl⟩ : ∃ x : World, x = wr := ⟨_, rfl⟩
      have HB := Lib.hid hb
      by_cases hlt : k < l.length
      · have hlt2 : k < m.length := by rw [← HL.out]; exact hlt
        obtain ⟨x, hx⟩ : ∃ x, l[k]? = some x := ⟨_, List.getElem?_eq_getElem hlt⟩
        obtain ⟨y, hy⟩ : ∃ y, m[k]? = some y := ⟨_, List.getElem?_eq_getElem hlt2⟩
        obtain ⟨b, o, xpv, xcv, rfl, _, c0, c1, c2, c3, c4, hrx⟩ := HR.out k x hx
        obtain ⟨b2, o2, ypv, ycv, rfl, _, d0, d1, d2, d3, d4, hry⟩ := GR.out k y hy
        obtain ⟨xa, xc, rfl, -, -⟩ := id hrx.1
        obtain ⟨ya, yc, rfl, -, -⟩ := id hry.1
        obtain ⟨xa2, xc2, rfl, -, -⟩ := id hrx.2.1
        obtain ⟨ya2, yc2, rfl, -, -⟩ := id hry.2.1
        have c0' := cell_keepB hb c0 (block_lt_of_cell c0)
        have d0' := cell_keepB hb d0 (block_lt_of_cell d0)
        have c1' := cell_keepB hb c1 (block_lt_of_cell c1)
        have d1' := cell_keepB hb d1 (block_lt_of_cell d1)
        have c2' := cell_keepB hb c2 (block_lt_of_cell c2)
        have d2' := cell_keepB hb d2 (block_lt_of_cell d2)
        have c3' := cell_keepB hb c3 (block_lt_of_cell c3)
        have d3' := cell_keepB hb d3 (block_lt_of_cell d3)
        have c4' := cell_keepB hb c4 (block_lt_of_cell c4)
        have d4' := cell_keepB hb d4 (block_lt_of_cell d4)
        have HX := Lib.hid (And.intro hx hy)
        have hi1 : (k : Int) < (l.length : Int) := by omega
        have hi2 : (k : Int) < (m.length : Int) := by omega
        have k2 := ((Below.refl w1.heap.size w1).alloc (Nat.le_refl _) (.cells #[.string x.name, .slice xa x.params.length xc, .slice xa2 x.code.length xc2, .int .i64 x.line, .int .i64 x.col] 51)).alloc (by simp) (.cells #[.string y.name, .slice ya y.params.length yc, .slice ya2 y.code.length yc2, .int .i64 y.line, .int .i64 y.col] 51)
        have g2 := heap2_of (w := w1) (A := .cells #[.string x.name, .slice xa x.params.length xc, .slice xa2 x.code.length xc2, .int .i64 x.line, .int .i64 x.col] 51 (0, 0)) (B := .cells #[.string y.name, .slice ya y.params.length yc, .slice ya2 y.code.length yc2, .int .i64 y.line, .int .i64 y.col] 51 (0, 0)) (Below.refl _ _)
        have HG0 := Lib.hid g2.1
        have HG1 := Lib.hid g2.2.1
        have HC := Lib.hid (equalFuncN x y _ _ _ _ ((w1.alloc (.cells #[.string x.name, .slice xa x.params.length xc, .slice xa2 x.code.length xc2, .int .i64 x.line, .int .i64 x.col] 51)).alloc (.cells #[.string y.name, .slice ya y.params.length yc, .slice ya2 y.code.length yc2, .int .i64 y.line, .int .i64 y.col] 51)) ((hrx.keep hb).keep k2) ((hry.keep hb).keep k2))
        have HB2 := Lib.hid (bcomp hb k2)
        have kA := (Below.refl w1.heap.size w1).alloc (Nat.le_refl _) (.cells #[.string x.name, .slice xa x.params.length xc, .slice xa2 x.code.length xc2, .int .i64 x.line, .int .i64 x.col] 51)
        have e0 := cell_keep kA d0'
        have e1 := cell_keep kA d1'
        have e2 := cell_keep kA d2'
        have e3 := cell_keep kA d3'
        have e4 := cell_keep kA d4'
        clear hx hy hrx hry hb k2 g2 kA c0 d0 c1 d1 c2 d2 c3 d3 c4 d4
        go_upto_region 7 with fail
        clear c0' d0' c1' d1' c2' d2' c3' d3' c4' d4' e0 e1 e2 e3 e4
        generalize (w1.alloc (.cells #[.string x.name, .slice xa x.params.length xc, .slice xa2 x.code.length xc2, .int .i64 x.line, .int .i64 x.col] 51)).alloc (.cells #[.string y.name, .slice ya y.params.length yc, .slice ya2 y.code.length yc2, .int .i64 y.line, .int .i64 y.col] 51) = W at *
        generalize w1.heap.size = xb at *
        have r0 := row_of HG0.out 0 _ rfl
        have s0 := row_of HG1.out 0 _ rfl
        have r1 := row_of HG0.out 1 _ rfl
        have s1 := row_of HG1.out 1 _ rfl
        have r2 := row_of HG0.out 2 _ rfl
        have s2 := row_of HG1.out 2 _ rfl
        have r3 := row_of HG0.out 3 _ rfl
        have s3 := row_of HG1.out 3 _ rfl
        have r4 := row_of HG0.out 4 _ rfl
        have s4 := row_of HG1.out 4 _ rfl
        cases hv : eqFuncN x y
        · have HV := Lib.hid hv
          rw [hv] at HC
          clear hv
          go_wp2_with (go_at_call 27; refine HC.out.mono ?_; rintro e w2 ⟨rfl, hw2⟩)
          go_ret
          exact ⟨by rw [eqL_miss eqFuncN l m k x y HX.out.1 HX.out.2 HV.out]; rfl, bcomp HB2.out hw2⟩
        · have HV := Lib.hid hv
          rw [hv] at HC
          clear hv
          go_wp2_with (go_at_call 27; refine HC.out.mono ?_; rintro e w2 ⟨rfl, hw2⟩)
          go_roundw
          case rel =>
            refine ⟨k + 1, by omega, by go_num, ?_, bcomp HB2.out hw2⟩
            intro j x' y' hj g1 g2
            rcases Nat.lt_or_ge j k with h | h
            · exact hq.out j x' y' h g1 g2
            · obtain rfl : j = k := by omega
              rw [HX.out.1] at g1; rw [HX.out.2] at g2
              cases g1; cases g2; exact HV.out
          case measure => simp [intOf]; omega
      · obtain rfl : k = l.length := by omega
        have hi1 : ¬ ((l.length : Nat) : Int) < (l.length : Int) := by omega
        go_wp2_with fail
        go_ret
        refine ⟨?_, HB.out⟩
        rw [eqL_all eqFuncN l m HL.out (fun j x y g1 g2 => hq.out j x y (List.getElem?_eq_some_iff.1 g1).1 g1 g2)]; rfl
  · have he : ((l.length : Int) != (m.length : Int)) = true := by rw [bne_iff_ne]; omega
    have HL := Lib.hid (eqL_len eqFuncN l m hlen)
    clear hlen
    go_enter Tryd.func32, Tryd.ntmps32
    go_wp2_with fail
    go_ret
    exact ⟨by rw [HL.out]; rfl, Below.refl _ _⟩
set_option maxRecDepth 100000 in
set_option maxHeartbeats 1600000 in
/-- **prog.Equal**. -/
theorem progEqualN (x y : ProgD) (cv av fv mv cu au fu mu : Value) (w : World) (h : RdProg none w x cv av fv mv) (g : RdProg none w y cu au fu mu) :
    Calls Tryd.prog 11 #[progV x cv av fv mv, progV y cu au fu mu] w fun e w' => e = .returned (.bool (eqProgN x y)) ∧ Below w.heap.size w w' := by
  have hb0 : Hid (Below w.heap.size w ((w.alloc (.cells #[.int .i64 x.width, cv, av, fv, mv] 27)).alloc (.cells #[.int .i64 y.width, cu, au, fu, mu] 27))) := (((Below.refl _ _).alloc (Nat.le_refl _) _).alloc (by simp) _)
  obtain ⟨h1, h2, h3, h4, _⟩ := h
  obtain ⟨g1, g2, g3, g4, _⟩ := g
  have HA := Lib.hid (sliceEqStrs cv cu x.chans y.chans _ (h1.keep hb0.out) (g1.keep hb0.out))
  have H2 := Lib.hid h2
  have G2 := Lib.hid g2
  have H3 := Lib.hid h3
  have G3 := Lib.hid g3
  have H4 := Lib.hid h4
  have G4 := Lib.hid g4
  clear h1 g1 h2 g2 h3 g3 h4 g4
  cases h0 : (x.width == y.width)
  · skip
    have HV : Hid (eqProgN x y = false) := by show _ = _; simp [eqProgN, h0]
    go_enter Tryd.func11, Tryd.ntmps11
    go_wp2_with (first | (go_at_call 28; refine HA.out.mono ?_; rintro e w1 ⟨rfl, hw1⟩; obtain ⟨g0, g1, hbw⟩ := heap2_of hw1; have i2 := row_of g0 2 av rfl; have j2 := row_of g1 2 au rfl; have i3 := row_of g0 3 fv rfl; have j3 := row_of g1 3 fu rfl; have i4 := row_of g0 4 mv rfl; have j4 := row_of g1 4 mu rfl; have HB1 := Lib.hid hbw; clear g0 g1 hbw) | (go_at_call 31; refine (sliceEqArrs av au x.arrays y.arrays _ (H2.out.keep HB1.out) (G2.out.keep HB1.out)).mono ?_; rintro e w2 ⟨rfl, hw2⟩; have k3 := cell_keep hw2 i3; have l3 := cell_keep hw2 j3; have k4 := cell_keep hw2 i4; have l4 := cell_keep hw2 j4; have HB2 := Lib.hid (bcomp HB1.out hw2)) | (go_at_call 32; refine (eqFuncsN fv fu x.funcs y.funcs _ (H3.out.keep HB2.out) (G3.out.keep HB2.out)).mono ?_; rintro e w3 ⟨rfl, hw3⟩; have m4 := cell_keep hw3 k4; have n4 := cell_keep hw3 l4; have HB3 := Lib.hid (bcomp HB2.out hw3)) | (go_at_call 29; refine (eqInstrsN mv mu x.main y.main _ (H4.out.keep HB3.out) (G4.out.keep HB3.out)).mono ?_; rintro e w4 ⟨rfl, hw4⟩; have HB4 := Lib.hid (bcomp HB3.out hw4)))
    go_ret
    exact ⟨by rw [HV.out]; rfl, hb0.out⟩
  cases h1 : (eqL eqS x.chans y.chans)
  · skip
    have HV : Hid (eqProgN x y = false) := by show _ = _; simp [eqProgN, h0, h1]
    go_enter Tryd.func11, Tryd.ntmps11
    go_wp2_with (first | (go_at_call 28; refine HA.out.mono ?_; rintro e w1 ⟨rfl, hw1⟩; obtain ⟨g0, g1, hbw⟩ := heap2_of hw1; have i2 := row_of g0 2 av rfl; have j2 := row_of g1 2 au rfl; have i3 := row_of g0 3 fv rfl; have j3 := row_of g1 3 fu rfl; have i4 := row_of g0 4 mv rfl; have j4 := row_of g1 4 mu rfl; have HB1 := Lib.hid hbw; clear g0 g1 hbw) | (go_at_call 31; refine (sliceEqArrs av au x.arrays y.arrays _ (H2.out.keep HB1.out) (G2.out.keep HB1.out)).mono ?_; rintro e w2 ⟨rfl, hw2⟩; have k3 := cell_keep hw2 i3; have l3 := cell_keep hw2 j3; have k4 := cell_keep hw2 i4; have l4 := cell_keep hw2 j4; have HB2 := Lib.hid (bcomp HB1.out hw2)) | (go_at_call 32; refine (eqFuncsN fv fu x.funcs y.funcs _ (H3.out.keep HB2.out) (G3.out.keep HB2.out)).mono ?_; rintro e w3 ⟨rfl, hw3⟩; have m4 := cell_keep hw3 k4; have n4 := cell_keep hw3 l4; have HB3 := Lib.hid (bcomp HB2.out hw3)) | (go_at_call 29; refine (eqInstrsN mv mu x.main y.main _ (H4.out.keep HB3.out) (G4.out.keep HB3.out)).mono ?_; rintro e w4 ⟨rfl, hw4⟩; have HB4 := Lib.hid (bcomp HB3.out hw4)))
    go_ret
    exact ⟨by rw [HV.out]; rfl, HB1.out⟩
  cases h2 : (eqL eqArr x.arrays y.arrays)
  · skip
    have HV : Hid (eqProgN x y = false) := by show _ = _; simp [eqProgN, h0, h1, h2]
    go_enter Tryd.func11, Tryd.ntmps11
    go_wp2_with (first | (go_at_call 28; refine HA.out.mono ?_; rintro e w1 ⟨rfl, hw1⟩; obtain ⟨g0, g1, hbw⟩ := heap2_of hw1; have i2 := row_of g0 2 av rfl; have j2 := row_of g1 2 au rfl; have i3 := row_of g0 3 fv rfl; have j3 := row_of g1 3 fu rfl; have i4 := row_of g0 4 mv rfl; have j4 := row_of g1 4 mu rfl; have HB1 := Lib.hid hbw; clear g0 g1 hbw) | (go_at_call 31; refine (sliceEqArrs av au x.arrays y.arrays _ (H2.out.keep HB1.out) (G2.out.keep HB1.out)).mono ?_; rintro e w2 ⟨rfl, hw2⟩; have k3 := cell_keep hw2 i3; have l3 := cell_keep hw2 j3; have k4 := cell_keep hw2 i4; have l4 := cell_keep hw2 j4; have HB2 := Lib.hid (bcomp HB1.out hw2)) | (go_at_call 32; refine (eqFuncsN fv fu x.funcs y.funcs _ (H3.out.keep HB2.out) (G3.out.keep HB2.out)).mono ?_; rintro e w3 ⟨rfl, hw3⟩; have m4 := cell_keep hw3 k4; have n4 := cell_keep hw3 l4; have HB3 := Lib.hid (bcomp HB2.out hw3)) | (go_at_call 29; refine (eqInstrsN mv mu x.main y.main _ (H4.out.keep HB3.out) (G4.out.keep HB3.out)).mono ?_; rintro e w4 ⟨rfl, hw4⟩; have HB4 := Lib.hid (bcomp HB3.out hw4)))
    go_ret
    exact ⟨by rw [HV.out]; rfl, HB2.out⟩
  cases h3 : (eqL eqFuncN x.funcs y.funcs)
  · skip
    have HV : Hid (eqProgN x y = false) := by show _ = _; simp [eqProgN, h0, h1, h2, h3]
    go_enter Tryd.func11, Tryd.ntmps11
    go_wp2_with (first | (go_at_call 28; refine HA.out.mono ?_; rintro e w1 ⟨rfl, hw1⟩; obtain ⟨g0, g1, hbw⟩ := heap2_of hw1; have i2 := row_of g0 2 av rfl; have j2 := row_of g1 2 au rfl; have i3 := row_of g0 3 fv rfl; have j3 := row_of g1 3 fu rfl; have i4 := row_of g0 4 mv rfl; have j4 := row_of g1 4 mu rfl; have HB1 := Lib.hid hbw; clear g0 g1 hbw) | (go_at_call 31; refine (sliceEqArrs av au x.arrays y.arrays _ (H2.out.keep HB1.out) (G2.out.keep HB1.out)).mono ?_; rintro e w2 ⟨rfl, hw2⟩; have k3 := cell_keep hw2 i3; have l3 := cell_keep hw2 j3; have k4 := cell_keep hw2 i4; have l4 := cell_keep hw2 j4; have HB2 := Lib.hid (bcomp HB1.out hw2)) | (go_at_call 32; refine (eqFuncsN fv fu x.funcs y.funcs _ (H3.out.keep HB2.out) (G3.out.keep HB2.out)).mono ?_; rintro e w3 ⟨rfl, hw3⟩; have m4 := cell_keep hw3 k4; have n4 := cell_keep hw3 l4; have HB3 := Lib.hid (bcomp HB2.out hw3)) | (go_at_call 29; refine (eqInstrsN mv mu x.main y.main _ (H4.out.keep HB3.out) (G4.out.keep HB3.out)).mono ?_; rintro e w4 ⟨rfl, hw4⟩; have HB4 := Lib.hid (bcomp HB3.out hw4)))
    go_ret
    exact ⟨by rw [HV.out]; rfl, HB3.out⟩
  cases h4 : (eqL eqInstrN x.main y.main)
  · skip
    have HV : Hid (eqProgN x y = false) := by show _ = _; simp [eqProgN, h0, h1, h2, h3, h4]
    go_enter Tryd.func11, Tryd.ntmps11
    go_wp2_with (first | (go_at_call 28; refine HA.out.mono ?_; rintro e w1 ⟨rfl, hw1⟩; obtain ⟨g0, g1, hbw⟩ := heap2_of hw1; have i2 := row_of g0 2 av rfl; have j2 := row_of g1 2 au rfl; have i3 := row_of g0 3 fv rfl; have j3 := row_of g1 3 fu rfl; have i4 := row_of g0 4 mv rfl; have j4 := row_of g1 4 mu rfl; have HB1 := Lib.hid hbw; clear g0 g1 hbw) | (go_at_call 31; refine (sliceEqArrs av au x.arrays y.arrays _ (H2.out.keep HB1.out) (G2.out.keep HB1.out)).mono ?_; rintro e w2 ⟨rfl, hw2⟩; have k3 := cell_keep hw2 i3; have l3 := cell_keep hw2 j3; have k4 := cell_keep hw2 i4; have l4 := cell_keep hw2 j4; have HB2 := Lib.hid (bcomp HB1.out hw2)) | (go_at_call 32; refine (eqFuncsN fv fu x.funcs y.funcs _ (H3.out.keep HB2.out) (G3.out.keep HB2.out)).mono ?_; rintro e w3 ⟨rfl, hw3⟩; have m4 := cell_keep hw3 k4; have n4 := cell_keep hw3 l4; have HB3 := Lib.hid (bcomp HB2.out hw3)) | (go_at_call 29; refine (eqInstrsN mv mu x.main y.main _ (H4.out.keep HB3.out) (G4.out.keep HB3.out)).mono ?_; rintro e w4 ⟨rfl, hw4⟩; have HB4 := Lib.hid (bcomp HB3.out hw4)))
    go_ret
    exact ⟨by rw [HV.out]; rfl, HB4.out⟩
  have HV : Hid (eqProgN x y = true) := by show _ = _; simp [eqProgN, h0, h1, h2, h3, h4]
  go_enter Tryd.func11, Tryd.ntmps11
  go_wp2_with (first | (go_at_call 28; refine HA.out.mono ?_; rintro e w1 ⟨rfl, hw1⟩; obtain ⟨g0, g1, hbw⟩ := heap2_of hw1; have i2 := row_of g0 2 av rfl; have j2 := row_of g1 2 au rfl; have i3 := row_of g0 3 fv rfl; have j3 := row_of g1 3 fu rfl; have i4 := row_of g0 4 mv rfl; have j4 := row_of g1 4 mu rfl; have HB1 := Lib.hid hbw; clear g0 g1 hbw) | (go_at_call 31; refine (sliceEqArrs av au x.arrays y.arrays _ (H2.out.keep HB1.out) (G2.out.keep HB1.out)).mono ?_; rintro e w2 ⟨rfl, hw2⟩; have k3 := cell_keep hw2 i3; have l3 := cell_keep hw2 j3; have k4 := cell_keep hw2 i4; have l4 := cell_keep hw2 j4; have HB2 := Lib.hid (bcomp HB1.out hw2)) | (go_at_call 32; refine (eqFuncsN fv fu x.funcs y.funcs _ (H3.out.keep HB2.out) (G3.out.keep HB2.out)).mono ?_; rintro e w3 ⟨rfl, hw3⟩; have m4 := cell_keep hw3 k4; have n4 := cell_keep hw3 l4; have HB3 := Lib.hid (bcomp HB2.out hw3)) | (go_at_call 29; refine (eqInstrsN mv mu x.main y.main _ (H4.out.keep HB3.out) (G4.out.keep HB3.out)).mono ?_; rintro e w4 ⟨rfl, hw4⟩; have HB4 := Lib.hid (bcomp HB3.out hw4)))
  go_ret
  exact ⟨by rw [HV.out]; rfl, HB4.out⟩
end Go.Proofs.YteeebofjlchndaaDoor
