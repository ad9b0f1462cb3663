/- Contract of a step of the program's run. Conditions: the run lies at the pointer, the tables hold what they are laid with, and it is a run that runs come to. -/
import Derived.Test.YtkjkpddajjmloaaDoorMMj
set_option linter.unusedVariables false
set_option linter.unusedSimpArgs false
namespace Go.Proofs.YtkjkpddajjmloaaDoor
open Go.ChangeShapes Go.WideShapes Go.ChangeAt Go.RowKit
theorem good_tick {f : FlatD} {m : MachD} (g : Good f m) : Good f (tickM m) :=
  ⟨g.regs, g.rv, g.arrs, g.av, g.reads, fun x hx => by have := g.rd x hx; simp only [tickM]; omega, by have := g.outs; simp only [tickM]; omega, by have := g.rels; simp only [tickM]; omega, by have := g.brs; simp only [tickM]; omega, g.ov, g.lv, g.st, by have := g.steps; simp only [tickM]; omega⟩
/-- Behind what turns only blocks of the run. -/
theorem Post.after {G : Nat → Prop} {w w1 w2 : World} {bm : Nat} {f : FlatD} {ins : List (List Int)} {m : MachD} (t : Turn G w w1) (h : Post G w1 w2 bm f ins m) : Post G w w2 bm f ins m :=
  ⟨h.1.mono fun b hb' => hb'.elim .inl fun k => .inr ⟨Nat.le_trans t.size k.1, k.2⟩, t.trans h.2⟩
/-- The table of kinds is no run. -/
theorem kinds_ne {G I : Nat → Prop} {w : World} {bm : Nat} {f : FlatD} {ins : List (List Int)} {m : MachD} {c8 c9 c10 kv iv av ov rv bv : Value} {gb db : Nat} {bs : List Nat} (h : MachAt G I w bm f ins m c8 c9 c10 kv iv av ov rv bv gb db bs) (hL : Laid w) : 0 ≠ bm := by
  intro e
  have h0 := hL.kinds 0 (by decide)
  have h1 := row_of h.box 0 _ rfl
  rw [← e] at h1
  rw [h1] at h0
  simp at h0
set_option maxRecDepth 100000 in
set_option maxHeartbeats 1600000 in
theorem machStep {G I : Nat → Prop} {w : World} {bm : Nat} {f : FlatD} {ins : List (List Int)} {m : MachD} {c8 c9 c10 kv iv av ov rv bv : Value} {gb db : Nat} {bs : List Nat} (h : MachAt G I w bm f ins m c8 c9 c10 kv iv av ov rv bv gb db bs) (hL : Laid w) (hh : HeadP f) (g : Good f m) (hins : ins.length = f.chans.length) (hfew : m.t.steps < 1000000) (hp0 : 0 ≤ m.pc) (hp1 : m.pc < f.code.length) :
    Calls Tryd.prog 62 #[.pointer (some ⟨bm, 0, none⟩)] w fun e w' => e = .returned (.bool (m.t.status == 2)) ∧ Post G w w' bm f ins (stepM f ins m) := by
  by_cases hs : m.t.status = 2
  · obtain ⟨p, hp⟩ : ∃ p : Nat, m.pc = p := ⟨m.pc.toNat, by omega⟩
    obtain ⟨c, hc⟩ : ∃ c, f.code[p]? = some c := ⟨_, List.getElem?_eq_getElem (by omega)⟩
    have hcp := codeP (hh.codes c (List.mem_of_getElem? hc))
    have hci : CodeIn c := h.mem.code.ok c (List.mem_of_getElem? hc)
    have hkm := hcp.kind
    have hkn := hci.1.1
    obtain ⟨ck, co, cd, cn, cra, crb⟩ := c
    obtain ⟨kk, rfl⟩ : ∃ kk : Nat, ck = kk := ⟨ck.toNat, by simp only at hkn; omega⟩
    have hk9 : kk ≤ 9 := by simp only at hkm; omega
    clear hkm hkn
    have hres : Hid ((m.t.status == 2) = true ∧ stepM f ins m = doM f ins ⟨kk, co, cd, cn, cra, crb⟩ (tickM m) kk) := by
      refine ⟨by simp [hs], ?_⟩
      rw [stepM, if_pos hs, hp, Int.toNat_natCast, hc]
      rfl
    have hlen := hh.code1
    have hready : Hid (Ready f ins (tickM m)) := ⟨hh, good_tick g, hins, by simp only [tickM]; omega, by simp only [tickM]; omega, by simp only [tickM]; omega⟩
    have hst := g.steps
    obtain ⟨ka, kc, rfl⟩ := h.mem.code.is
    obtain ⟨kb, ko, rfl, _, e0, e1, e2, e3, e4, e5, e6, e7, _⟩ := atCode h.mem.code hc
    have hd : (m.t.status != 2) = false := by simp [hs]
    have c16 : w.cell? ⟨bm, 16, none⟩ = some (.bool false) := by rw [← hd]; exact row_of h.box 16 _ rfl
    have hpl : (p : Int) < (f.code.length : Int) := by omega
    have H := Lib.hid h
    have HL := Lib.hid hL
    have HC := Lib.hid hc
    have HP := Lib.hid hp
    have HCP := Lib.hid hcp
    have HCI := Lib.hid hci
    have HT : Hid (tickM m = { m with pc := (p : Int) + 1, t := { m.t with steps := m.t.steps + 1 } }) := by show tickM m = _; rw [tickM, hp]
    have HNE := Lib.hid (kinds_ne h hL)
    have HKF := Lib.hid (hL.kinds kk (by omega))
    have HDO := Lib.hid (fun (w' : World) (hm : MachAt G I w' bm f ins (tickM m) c8 c9 c10 (.slice (some ⟨kb, ko, none⟩) f.code.length kc) iv av ov rv bv gb db bs) => machDo hm ⟨kk, co, cd, cn, cra, crb⟩ hready.out hcp hci)
    simp only [Int.toNat_natCast] at HDO
    have hcall := fun args w => callKind kk hk9 args w
    generalize kindF kk = fo at *
    clear h hL hc hp hcp hci hd hins hh g
    go_enter Tryd.func62, Tryd.ntmps62
    go_upto_region 3 with fail
    have l11 := ext_cell (row_of H.out.box 11 _ rfl)
    have l15 : ∀ x, (ext w x).cell? ⟨bm, 15, none⟩ = some (.int .i64 p) := by rw [← HP.out]; exact ext_cell (row_of H.out.box 15 _ rfl)
    have f0 := ext_cell e0
    have f1 := ext_cell e1
    have f2 := ext_cell e2
    have f3 := ext_cell e3
    have f4 := ext_cell e4
    have f5 := ext_cell e5
    have f6 := ext_cell e6
    have f7 := ext_cell e7
    refine wp_region_mix (.one [0, 1, 2, 3, 4, 5, 6, 7, 8, 9, 10] 11 (tailOf [12])) (fun j => decide (12 ≤ j)) (by kernel_rfl) (by kernel_rfl) rfl (by kernel_rfl) (fun _ d _ _ _ h => by cases d <;> exact h) ?_
    have HBd : Hid (Below w.heap.size w w.drew) := (Below.refl _ _).drew
    generalize w.drew = wn at *
    refine mix_one (by simp only [opsOf, List.filterMap_cons, List.filterMap_nil, List.getElem?_toArray, List.getElem?_cons_succ, List.getElem?_cons_zero]; rfl) ⟨_, ext_of HBd.out⟩ ?_
    change wpQuiet _ _ _ _ [_, _, _, _, _, _, _, _, _, _, _] _
    (repeat (go_big_quiet_step (fail)))
    refine wpQuiet_nil ?_
    refine mix_step rfl ?_
    go_wp2_with fail
    refine ⟨⟨_, ext_of (HBd.out.alloc HBd.out.size _)⟩, ?_⟩
    refine mix_tail [12] [_] _ _ rfl rfl ?_
    go_upto_region 4 with fail
    have hal := HBd.out.alloc HBd.out.size (.cells #[.int .u8 kk, .int .u8 co, .int .i64 cd, .int .i64 cn, .int .i64 cra.reg, .int .u64 cra.num, .int .i64 crb.reg, .int .u64 crb.num] 103)
    have HG := Lib.hid (heap_alloc_new wn (.cells #[.int .u8 kk, .int .u8 co, .int .i64 cd, .int .i64 cn, .int .i64 cra.reg, .int .u64 cra.num, .int .i64 crb.reg, .int .u64 crb.num] 103))
    have H1 := Lib.hid (H.out.keep hal)
    have HK1 := Lib.hid (cell_keep hal HKF.out)
    have T1 := Lib.hid (Turn.of_below (B := G) hal)
    clear hal l11 l15 f0 f1 f2 f3 f4 f5 f6 f7 e0 e1 e2 e3 e4 e5 e6 e7 c16 HBd
    generalize wn.alloc (.cells #[.int .u8 kk, .int .u8 co, .int .i64 cd, .int .i64 cn, .int .i64 cra.reg, .int .u64 cra.num, .int .i64 crb.reg, .int .u64 crb.num] 103) = W at *
    generalize wn.heap.size = cb at *
    have c15 : W.cell? ⟨bm, 15, none⟩ = some (.int .i64 p) := by rw [← HP.out]; exact row_of H1.out.box 15 _ rfl
    have c1 := row_of H1.out.box 1 _ rfl
    have f15 := frozen_of_row W bm 15 _ _ H1.out.box
    have f1 := frozen_of_row W bm 1 _ _ H1.out.box
    go_upto_region 6 with fail
    have H2 := Lib.hid ((H1.out.setPc ((p : Int) + 1)).setSteps (m.t.steps + 1))
    have T2 := Lib.hid ((T1.out.setCell (a := ⟨bm, 15, none⟩) H1.out.bG.1 (.int .i64 ((p : Int) + 1))).setCell (a := ⟨bm, 1, none⟩) H1.out.bG.1 (.int .i64 (m.t.steps + 1)))
    have hne : cb ≠ bm := row_ne HG.out H1.out.box (by decide)
    have HG2 := Lib.hid (((heap_setCell_other (W.setCell ⟨bm, 15, none⟩ (.int .i64 ((p : Int) + 1))) ⟨bm, 1, none⟩ cb (.int .i64 (m.t.steps + 1)) (by simpa using hne)).trans (heap_setCell_other W ⟨bm, 15, none⟩ cb (.int .i64 ((p : Int) + 1)) (by simpa using hne))).trans HG.out)
    have HK2 := Lib.hid ((World.cell?_of_block ((heap_setCell_other (W.setCell ⟨bm, 15, none⟩ (.int .i64 ((p : Int) + 1))) ⟨bm, 1, none⟩ 0 (.int .i64 (m.t.steps + 1)) (by simpa using HNE.out)).trans (heap_setCell_other W ⟨bm, 15, none⟩ 0 (.int .i64 ((p : Int) + 1)) (by simpa using HNE.out)))).trans HK1.out)
    rw [← HT.out] at H2
    clear c15 c1 f15 f1 hne
    generalize (W.setCell ⟨bm, 15, none⟩ (.int .i64 ((p : Int) + 1))).setCell ⟨bm, 1, none⟩ (.int .i64 (m.t.steps + 1)) = W2 at *
    have r0 := ext_cell (row_of HG2.out 0 (.int .u8 kk) rfl)
    have r1 := ext_cell (row_of HG2.out 1 (.int .u8 co) rfl)
    have r2 := ext_cell (row_of HG2.out 2 (.int .i64 cd) rfl)
    have r3 := ext_cell (row_of HG2.out 3 (.int .i64 cn) rfl)
    have r4 := ext_cell (row_of HG2.out 4 (.int .i64 cra.reg) rfl)
    have r5 := ext_cell (row_of HG2.out 5 (.int .u64 cra.num) rfl)
    have r6 := ext_cell (row_of HG2.out 6 (.int .i64 crb.reg) rfl)
    have r7 := ext_cell (row_of HG2.out 7 (.int .u64 crb.num) rfl)
    have rk := ext_cell HK2.out
    have hk10 : (kk : Int) < 10 := by omega
    (refine wp_region_calm_tail 6 (by kernel_rfl) (by kernel_rfl) ?_; simp only [List.take_succ_cons, List.take_zero, List.drop_succ_cons, List.drop_zero]; (repeat (go_big_quiet_step (fail))); refine wpQuiet_nil ?_; intro wc hwc)
    have HM := Lib.hid (HDO.out _ (H2.out.keep hwc))
    have T3 := Lib.hid (T2.out.trans (Turn.of_below hwc))
    clear r0 r1 r2 r3 r4 r5 r6 r7 rk hwc
    go_wp2_with (refine HM.out.mono ?_; rintro e w9 ⟨rfl, hpost⟩)
    go_ret
    exact ⟨by rw [hres.out.1]; rfl, by rw [hres.out.2]; exact hpost.after T3.out⟩
  · have hres : Hid ((m.t.status == 2) = false ∧ stepM f ins m = m) := ⟨by simp [hs], by rw [stepM, if_neg hs]⟩
    have hd : (m.t.status != 2) = true := by simp [hs]
    have c16 : w.cell? ⟨bm, 16, none⟩ = some (.bool true) := by rw [← hd]; exact row_of h.box 16 _ rfl
    have HP : Hid (Post G w w bm f ins m) := post_of h (Turn.refl _ _)
    clear h hL hs hd hh g
    go_enter Tryd.func62, Tryd.ntmps62
    go_wp2
    go_ret
    exact ⟨by rw [hres.out.1]; rfl, by rw [hres.out.2]; exact HP.out⟩
end Go.Proofs.YtkjkpddajjmloaaDoor
