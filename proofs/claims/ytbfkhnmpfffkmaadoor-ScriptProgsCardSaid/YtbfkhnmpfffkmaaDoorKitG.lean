/- Contracts of the kit's comparisons of lists of instructions: called in whatever memory they return whether the two values read as equal ones, and write nothing that was there. Condition: both read as lists. -/
import Derived.Test.YtbfkhnmpfffkmaaDoorKitF
set_option linter.unusedVariables false
set_option linter.unusedSimpArgs false
namespace Go.Proofs.YtbfkhnmpfffkmaaDoor
open Go.ChangeShapes Go.WideShapes Go.ChangeAt Go.RowKit
set_option maxRecDepth 100000 in
set_option maxHeartbeats 3200000 in
theorem equalInstrs (av bv : Value) (l m : List InstrD) (w : World) (h : RdInstrs none w av l) (g : RdInstrs none w bv m) :
    Calls Tryd.prog 16 #[av, bv] w fun e w' => e = .returned (.bool (eqL eqInstr l m)) ∧ Below w.heap.size w w' := by
  obtain ⟨a, c, rfl, hl, hr⟩ := h
  obtain ⟨a2, c2, rfl, hl2, gr⟩ := g
  have HR := Lib.hid hr
  have GR := Lib.hid gr
  clear hr gr
  by_cases hlen : l.length = m.length
  · have he : ((l.length : Int) != (m.length : Int)) = false := by rw [hlen]; simp
    have HL := Lib.hid hlen
    clear hlen
    go_enter Tryd.func16, Tryd.ntmps16
    go_wp2
    go_loopw [5] (fun i wr => ∃ k : Nat, k ≤ l.length ∧ i = .int .i64 k ∧ Hid (∀ (j : Nat) x y, j < k → l[j]? = some x → m[j]? = some y → eqInstr x y = true) ∧ Below w.heap.size w wr) (fun i _ => l.length - (intOf i).toNat)
    case atStart => exact ⟨0, Nat.zero_le _, rfl, (fun j x y h => by omega), Below.refl _ _⟩
    case round =>
      obtain ⟨k, hk, rfl, hq, hb⟩ := hrel
      by_cases hlt : k < l.length
      · have hlt2 : k < m.length := by rw [← HL.out]; exact hlt
        obtain ⟨x, hx⟩ : ∃ x, l[k]? = some x := ⟨_, List.getElem?_eq_getElem hlt⟩
        obtain ⟨y, hy⟩ : ∃ y, m[k]? = some y := ⟨_, List.getElem?_eq_getElem hlt2⟩
        obtain ⟨b, o, xav, rfl, _, c0, c1, c2, c3, c4, c5, c6, hrx⟩ := HR.out k x hx
        obtain ⟨b2, o2, yav, rfl, _, d0, d1, d2, d3, d4, d5, d6, hry⟩ := GR.out k y hy
        have c0' := cell_keepB hb c0 (block_lt_of_cell c0)
        have d0' := cell_keepB hb d0 (block_lt_of_cell d0)
        have c1' := cell_keepB hb c1 (block_lt_of_cell c1)
        have d1' := cell_keepB hb d1 (block_lt_of_cell d1)
        have c2' := cell_keepB hb c2 (block_lt_of_cell c2)
        have d2' := cell_keepB hb d2 (block_lt_of_cell d2)
        have c3' := cell_keepB hb c3 (block_lt_of_cell c3)
        have d3' := cell_keepB hb d3 (block_lt_of_cell d3)
        have c4' := cell_keepB hb c4 (block_lt_of_cell c4)
        have d4' := cell_keepB hb d4 (block_lt_of_cell d4)
        have c5' := cell_keepB hb c5 (block_lt_of_cell c5)
        have d5' := cell_keepB hb d5 (block_lt_of_cell d5)
        have c6' := cell_keepB hb c6 (block_lt_of_cell c6)
        have d6' := cell_keepB hb d6 (block_lt_of_cell d6)
        have HX := Lib.hid (And.intro hx hy)
        have HRX := Lib.hid (hrx.keep hb)
        have HRY := Lib.hid (hry.keep hb)
        have hi1 : (k : Int) < (l.length : Int) := by omega
        have hi2 : (k : Int) < (m.length : Int) := by omega
        clear c0 d0 c1 d1 c2 d2 c3 d3 c4 d4 c5 d5 c6 d6 hx hy hrx hry
        go_wp2_with fail
        have hS : Below wr.heap.size wr wr.drew := (Below.refl _ _).drew
        refine wp_region_plan (fun w' => Below wr.heap.size wr w') (fun _ => false) [(0, true), (1, true), (2, true), (3, true), (4, true), (5, true), (6, true), (7, true), (8, false), (9, false)] (by kernel_rfl) (by kernel_rfl) rfl (by kernel_rfl) (fun _ d _ _ _ h => by cases d <;> exact h) ?_
        refine ⟨.slice (some ⟨b, o, none⟩) l.length c, _, rfl, .inl ⟨rfl, fun w' hw => by go_simp⟩, hS, ?_⟩
        refine ⟨.int .i64 k, _, rfl, .inl ⟨rfl, fun w' hw => by go_simp⟩, hS, ?_⟩
        refine ⟨.pointer (some ⟨b, o + k * 7, none⟩), _, rfl, .inl ⟨rfl, fun w' hw => by go_simp⟩, hS, ?_⟩
        refine ⟨.agg #[.int .u8 x.kind, .int .u8 x.op, .string x.dst, .string x.name, xav, .int .i64 x.line, .int .i64 x.col], _, rfl, .inl ⟨rfl, fun w' hw => by have e0 := cell_keep hw c0'; have e1 := cell_keep hw c1'; have e2 := cell_keep hw c2'; have e3 := cell_keep hw c3'; have e4 := cell_keep hw c4'; have e5 := cell_keep hw c5'; have e6 := cell_keep hw c6'; go_simp⟩, hS, ?_⟩
        refine ⟨.slice (some ⟨b2, o2, none⟩) m.length c2, _, rfl, .inl ⟨rfl, fun w' hw => by go_simp⟩, hS, ?_⟩
        refine ⟨.int .i64 k, _, rfl, .inl ⟨rfl, fun w' hw => by go_simp⟩, hS, ?_⟩
        refine ⟨.pointer (some ⟨b2, o2 + k * 7, none⟩), _, rfl, .inl ⟨rfl, fun w' hw => by go_simp⟩, hS, ?_⟩
        refine ⟨.agg #[.int .u8 y.kind, .int .u8 y.op, .string y.dst, .string y.name, yav, .int .i64 y.line, .int .i64 y.col], _, rfl, .inl ⟨rfl, fun w' hw => by have e0 := cell_keep hw d0'; have e1 := cell_keep hw d1'; have e2 := cell_keep hw d2'; have e3 := cell_keep hw d3'; have e4 := cell_keep hw d4'; have e5 := cell_keep hw d5'; have e6 := cell_keep hw d6'; go_simp⟩, hS, ?_⟩
        cases hv : eqInstr x y
        all_goals
          have HV := Lib.hid hv
          refine plan_step rfl ?_
          go_wp2_with (go_at_call 12; refine (equalInstr x y xav yav _ (HRX.out.keep hS) (HRY.out.keep hS)).mono ?_; rintro e w1 ⟨rfl, hb1⟩)
          have hS1 : Below wr.heap.size wr w1 := hS.trans hb1
          refine ⟨fun _ => hS1, ?_⟩
          refine plan_step rfl ?_
          go_wp2
          refine ⟨hS1, plan_nil ?_⟩
          clear hS hb1 hv
          have hb1 := bcomp hb hS1
          clear hS1
        · go_wp2
          go_ret
          exact ⟨by rw [eqL_miss eqInstr l m k x y HX.out.1 HX.out.2 HV.out]; rfl, hb1⟩
        · go_wp2
          go_roundw
          case rel =>
            refine ⟨k + 1, by omega, by go_num, ?_, hb1⟩
            intro j x' y' hj g1 g2
            rcases Nat.lt_or_ge j k with h | h
            · exact hq.out j x' y' h g1 g2
            · obtain rfl : j = k := by omega
              rw [HX.out.1] at g1; rw [HX.out.2] at g2
              cases g1; cases g2; exact HV.out
          case measure => simp [intOf]; omega
      · obtain rfl : k = l.length := by omega
        go_wp2
        go_ret
        refine ⟨?_, hb⟩
        rw [eqL_all eqInstr l m HL.out (fun j x y g1 g2 => hq.out j x y (List.getElem?_eq_some_iff.1 g1).1 g1 g2)]; rfl
  · have he : ((l.length : Int) != (m.length : Int)) = true := by rw [bne_iff_ne]; omega
    have HL := Lib.hid (eqL_len eqInstr l m hlen)
    clear hlen
    go_enter Tryd.func16, Tryd.ntmps16
    go_wp2
    go_ret
    exact ⟨by rw [HL.out]; rfl, Below.refl _ _⟩
end Go.Proofs.YtbfkhnmpfffkmaaDoor
