/- Contracts of the program's branch, write, release and read of a run. Conditions: the run lies at the pointer, and the instruction is one that may be done. -/
import Derived.Test.YtkjkpddajjmloaaDoorMMf
set_option linter.unusedVariables false
set_option linter.unusedSimpArgs false
namespace Go.Proofs.YtkjkpddajjmloaaDoor
open Go.ChangeShapes Go.WideShapes Go.ChangeAt Go.RowKit
theorem Turn.grown {B : Nat → Prop} {w w1 w' : World} {row : Option Nat} (h : Turn B w w1) (g : w1.grownBy w' row) (hr : ∀ b, row = some b → B b) : Turn B w w' :=
  h.trans ⟨g.os, g.tape, g.output, g.size, fun b hb hB => g.block b hb (fun e => hB (hr b e.symm))⟩
theorem post_in {G G' : Nat → Prop} {w w' : World} {bm : Nat} {f : FlatD} {ins : List (List Int)} {m : MachD} (h : MachIn G' w' bm f ins m) (k : ∀ b, G' b → Grow G w w' b) (t : Turn G w w') : Post G w w' bm f ins m := ⟨h.mono k, t⟩
theorem MachAt.isIn {G I : Nat → Prop} {w : World} {bm : Nat} {f : FlatD} {ins : List (List Int)} {m : MachD} {c8 c9 c10 kv iv av ov rv bv : Value} {gb db : Nat} {bs : List Nat} (h : MachAt G I w bm f ins m c8 c9 c10 kv iv av ov rv bv gb db bs) : MachIn G w bm f ins m := ⟨I, c8, c9, c10, kv, iv, av, ov, rv, bv, gb, db, bs, h⟩
theorem MachAt.setBrs {G I : Nat → Prop} {w w' : World} {bm : Nat} {f : FlatD} {ins : List (List Int)} {m : MachD} {c8 c9 c10 kv iv av ov rv bv bv' : Value} {gb db : Nat} {bs : List Nat} (h : MachAt G I w bm f ins m c8 c9 c10 kv iv av ov rv bv gb db bs) (x : Bool)
    (how : w'.ownsRow 0 4 1 bv' (m.t.brs.length + 1) (m.t.brs.flatMap cellsBool ++ cellsBool x)) (hg : w.grownBy w' bv.ownBlock) (hn : bv'.ownBlock = bv.ownBlock ∨ bv'.ownBlock = some w.heap.size) :
    MachAt (Grow G w w') (fun b => I b ∧ b < w.heap.size) (w'.setCell ⟨bm, 4, none⟩ bv') bm f ins { m with t := { m.t with brs := m.t.brs ++ [x] } } c8 c9 c10 kv iv av ov rv bv' gb db bs := by
  have hne : bv.ownBlock ≠ some bm := fun e => by obtain ⟨cs, hr⟩ := own_row h.mem.brs e; exact row_ne h.box hr (by decide) rfl
  have hbox : w'.heap[bm]? = some (.cells (cellsP f m c8 c9 c10 kv iv av ov rv bv gb db) 141 (0, 0)) := (hg.block bm (Array.getElem?_eq_some_iff.1 h.box).1 (fun e => hne e.symm)).trans h.box
  have hm := h.mem.setBrs x how hg hn
  exact ⟨hm.apart (hm.notIn hbox (fun e => h.bG.2 e.1) (by decide)) (fun b _ hb => heap_setCell_other _ _ _ _ (by simpa using hb)), by rw [heap_setCell_same _ _ _ _ _ _ hbox]; rfl, .inl h.bG.1, fun e => h.bG.2 e.1⟩
theorem MachAt.setOuts {G I : Nat → Prop} {w w' : World} {bm : Nat} {f : FlatD} {ins : List (List Int)} {m : MachD} {c8 c9 c10 kv iv av ov rv bv ov' : Value} {gb db : Nat} {bs : List Nat} (h : MachAt G I w bm f ins m c8 c9 c10 kv iv av ov rv bv gb db bs) (x : EvD)
    (how : w'.ownsRow 0 146 2 ov' (m.t.outs.length + 1) (m.t.outs.flatMap cellsEv ++ cellsEv x)) (hg : w.grownBy w' ov.ownBlock) (hn : ov'.ownBlock = ov.ownBlock ∨ ov'.ownBlock = some w.heap.size) :
    MachAt (Grow G w w') (fun b => I b ∧ b < w.heap.size) (w'.setCell ⟨bm, 2, none⟩ ov') bm f ins { m with t := { m.t with outs := m.t.outs ++ [x] } } c8 c9 c10 kv iv av ov' rv bv gb db bs := by
  have hne : ov.ownBlock ≠ some bm := fun e => by obtain ⟨cs, hr⟩ := own_row h.mem.outs e; exact row_ne h.box hr (by decide) rfl
  have hbox : w'.heap[bm]? = some (.cells (cellsP f m c8 c9 c10 kv iv av ov rv bv gb db) 141 (0, 0)) := (hg.block bm (Array.getElem?_eq_some_iff.1 h.box).1 (fun e => hne e.symm)).trans h.box
  have hm := h.mem.setOuts x how hg hn
  exact ⟨hm.apart (hm.notIn hbox (fun e => h.bG.2 e.1) (by decide)) (fun b _ hb => heap_setCell_other _ _ _ _ (by simpa using hb)), by rw [heap_setCell_same _ _ _ _ _ _ hbox]; rfl, .inl h.bG.1, fun e => h.bG.2 e.1⟩
theorem MachAt.setRels {G I : Nat → Prop} {w w' : World} {bm : Nat} {f : FlatD} {ins : List (List Int)} {m : MachD} {c8 c9 c10 kv iv av ov rv bv rv' : Value} {gb db : Nat} {bs : List Nat} (h : MachAt G I w bm f ins m c8 c9 c10 kv iv av ov rv bv gb db bs) (x : EvD)
    (how : w'.ownsRow 0 146 2 rv' (m.t.rels.length + 1) (m.t.rels.flatMap cellsEv ++ cellsEv x)) (hg : w.grownBy w' rv.ownBlock) (hn : rv'.ownBlock = rv.ownBlock ∨ rv'.ownBlock = some w.heap.size) :
    MachAt (Grow G w w') (fun b => I b ∧ b < w.heap.size) (w'.setCell ⟨bm, 3, none⟩ rv') bm f ins { m with t := { m.t with rels := m.t.rels ++ [x] } } c8 c9 c10 kv iv av ov rv' bv gb db bs := by
  have hne : rv.ownBlock ≠ some bm := fun e => by obtain ⟨cs, hr⟩ := own_row h.mem.rels e; exact row_ne h.box hr (by decide) rfl
  have hbox : w'.heap[bm]? = some (.cells (cellsP f m c8 c9 c10 kv iv av ov rv bv gb db) 141 (0, 0)) := (hg.block bm (Array.getElem?_eq_some_iff.1 h.box).1 (fun e => hne e.symm)).trans h.box
  have hm := h.mem.setRels x how hg hn
  exact ⟨hm.apart (hm.notIn hbox (fun e => h.bG.2 e.1) (by decide)) (fun b _ hb => heap_setCell_other _ _ _ _ (by simpa using hb)), by rw [heap_setCell_same _ _ _ _ _ _ hbox]; rfl, .inl h.bG.1, fun e => h.bG.2 e.1⟩
set_option maxRecDepth 100000 in
set_option maxHeartbeats 1600000 in
theorem machBranch {G I : Nat → Prop} {w : World} {bm : Nat} {f : FlatD} {ins : List (List Int)} {m : MachD} {c8 c9 c10 kv iv av ov rv bv : Value} {gb db : Nat} {bs : List Nat} (h : MachAt G I w bm f ins m c8 c9 c10 kv iv av ov rv bv gb db bs) (c : CodeD) (hl : m.regs.length ≤ 2097152) (ha : RefIn m c.a) (hN : m.t.brs.length ≤ 1000000000) :
    Calls Tryd.prog 151 #[.pointer (some ⟨bm, 0, none⟩), codeV c] w fun e w' => e = .returned (.tuple #[]) ∧ Post G w w' bm f ins (doM f ins c m 8) := by
  obtain ⟨ck, co, cd, cn, cra, crb⟩ := c
  obtain ⟨i0, hi, hz0, hz1, hz2⟩ := info_parts infoBool
  have hb : Below w.heap.size w (w.alloc (.cells #[.int .u8 ck, .int .u8 co, .int .i64 cd, .int .i64 cn, .int .i64 cra.reg, .int .u64 cra.num, .int .i64 crb.reg, .int .u64 crb.num] 103)) := (Below.refl _ _).alloc (Nat.le_refl _) _
  have hgb := heap_alloc_new w (.cells #[.int .u8 ck, .int .u8 co, .int .i64 cd, .int .i64 cn, .int .i64 cra.reg, .int .u64 cra.num, .int .i64 crb.reg, .int .u64 crb.num] 103)
  have h1 := h.keep hb
  have hlt : bm < w.heap.size := (Array.getElem?_eq_some_iff.1 h.box).1
  have hres : Hid (doM f ins ⟨ck, co, cd, cn, cra, crb⟩ m 8 = { m with pc := if valM m cra = 0 then m.pc else cn, t := { m.t with brs := m.t.brs ++ [valM m cra != 0] } }) := rfl
  go_enter Tryd.func151, Tryd.ntmps151
  go_upto_region 1 with fail
  generalize w.alloc (.cells #[.int .u8 ck, .int .u8 co, .int .i64 cd, .int .i64 cn, .int .i64 cra.reg, .int .u64 cra.num, .int .i64 crb.reg, .int .u64 crb.num] 103) = W at *
  have HB := Lib.hid hb
  have HG := Lib.hid hgb
  have k3 := row_of hgb 3 (.int .i64 cn) rfl
  have k4 := row_of hgb 4 (.int .i64 cra.reg) rfl
  have k5 := row_of hgb 5 (.int .u64 cra.num) rfl
  have H1 := Lib.hid h1
  have HV := Lib.hid (machValue h1 cra ha hl)
  clear h hb hgb h1 ha
  cases hz : (valM m cra != 0)
  · generalize hva : valM m cra = va at *
    go_upto_region 2 with (go_at_call 153; refine HV.out.mono ?_; rintro e w2 ⟨rfl, hb2⟩)
    have H2 := Lib.hid (H1.out.keep hb2)
    have HB2 := Lib.hid (bcomp HB.out hb2)
    have k3 := cell_keep hb2 k3
    have l4 := row_of H2.out.box 4 _ rfl
    have hs2 : bm < w2.heap.size := (Array.getElem?_eq_some_iff.1 H2.out.box).1
    have hsw : w.heap.size < w2.heap.size := block_lt_of_cell k3
    have HG2 := Lib.hid ((hb2.block _ (Array.getElem?_eq_some_iff.1 HG.out).1).trans HG.out)
    have HZ := Lib.hid hz
    have HVA := Lib.hid hva
    clear hz hva hb2 k4 k5
    have hal : Below w2.heap.size w2 (w2.alloc (.cells #[.bool (va != 0)] 4)) := (Below.refl _ _).alloc (Nat.le_refl _) _
    have H3 := Lib.hid (H2.out.keep hal)
    have HAL := Lib.hid (bcomp HB2.out hal)
    have HG3 := Lib.hid ((hal.block _ (Array.getElem?_eq_some_iff.1 HG2.out).1).trans HG2.out)
    have hown := H3.out.mem.brs
    have hm1 : m.t.brs.length + 1 ≤ maxLen := by unfold maxLen; omega
    have hsz : w2.heap.size < (w2.alloc (.cells #[.bool (va != 0)] 4)).heap.size := by simp
    have HNB : Hid (bv.ownBlock ≠ some bm ∧ bv.ownBlock ≠ some w.heap.size) := ⟨fun e => by obtain ⟨cs, hr⟩ := own_row H3.out.mem.brs e; exact row_ne H3.out.box hr (by decide) rfl, fun e => by obtain ⟨cs, hr⟩ := own_row H3.out.mem.brs e; exact row_ne HG3.out hr (by decide) rfl⟩
    have hnews := many_new w2 (cellsBool (va != 0)) 4
    rw [HZ.out] at hal H3 HAL HG3 hown hsz hnews
    clear hal
    go_upto_region 3 with (at_builtin; refine wpList_append_own_at _ rfl (.tmp 16) (.tmp 18) 25 rfl 0 4 i0 (.bool false) 1 1 Tryd.underlying25 hi hz0 hz1 hz2 rfl (by decide) _ _ _ rfl hown ⟨w2.heap.size, 0, none⟩ 1 1 (cellsBool _) rfl rfl hnews (by intro u hu; simp [cellsBool] at hu; subst hu; rfl) hm1 (by omega) (Nat.zero_le _) ?_; intro v' w4 hown' hgrow _ hblk; have hbx4 := (hgrow.block bm (by omega) (fun e => HNB.out.1 e.symm)).trans H3.out.box; have c4 := row_of hbx4 4 _ rfl; have f4 := frozen_of_row w4 bm 4 _ _ hbx4; have HG4 := Lib.hid ((hgrow.block _ (by omega) (fun e => HNB.out.2 e.symm)).trans HG3.out); have HH := Lib.hid (And.intro hown' (And.intro hgrow hblk)); obtain ⟨xa, xc, rfl, _⟩ := own_read hown'; clear hown' hgrow hblk hbx4)
    have M4 := Lib.hid (H3.out.setBrs _ HH.out.1 HH.out.2.1 HH.out.2.2)
    have T4 := Lib.hid ((((Turn.of_below (B := G) HAL.out).grown HH.out.2.1 (fun b hb => (H3.out.mem.osep.2.2 b hb).1)).setCell (a := ⟨bm, 4, none⟩) H3.out.bG.1 (.slice xa (m.t.brs.length + 1) xc)))
    have GR : Hid (∀ b, Grow G (w2.alloc (.cells #[.bool false] 4)) w4 b → Grow G w (w4.setCell ⟨bm, 4, none⟩ (.slice xa (m.t.brs.length + 1) xc)) b) := fun b hb => hb.elim .inl fun k => .inr ⟨Nat.le_trans HAL.out.size k.1, by simpa using k.2⟩
    have hres2 : Hid (doM f ins ⟨ck, co, cd, cn, cra, crb⟩ m 8 = { m with t := { m.t with brs := m.t.brs ++ [false] } }) := by show _ = _; rw [hres.out, HZ.out, if_pos (by simpa using HZ.out)]
    clear HH c4 f4 hown
    go_wp2
    go_end0
    exact ⟨rfl, by rw [hres2.out]; exact post_in M4.out.isIn GR.out T4.out⟩
  · generalize hva : valM m cra = va at *
    go_upto_region 2 with (go_at_call 153; refine HV.out.mono ?_; rintro e w2 ⟨rfl, hb2⟩)
    have H2 := Lib.hid (H1.out.keep hb2)
    have HB2 := Lib.hid (bcomp HB.out hb2)
    have k3 := cell_keep hb2 k3
    have l4 := row_of H2.out.box 4 _ rfl
    have hs2 : bm < w2.heap.size := (Array.getElem?_eq_some_iff.1 H2.out.box).1
    have hsw : w.heap.size < w2.heap.size := block_lt_of_cell k3
    have HG2 := Lib.hid ((hb2.block _ (Array.getElem?_eq_some_iff.1 HG.out).1).trans HG.out)
    have HZ := Lib.hid hz
    have HVA := Lib.hid hva
    clear hz hva hb2 k4 k5
    have hal : Below w2.heap.size w2 (w2.alloc (.cells #[.bool (va != 0)] 4)) := (Below.refl _ _).alloc (Nat.le_refl _) _
    have H3 := Lib.hid (H2.out.keep hal)
    have HAL := Lib.hid (bcomp HB2.out hal)
    have HG3 := Lib.hid ((hal.block _ (Array.getElem?_eq_some_iff.1 HG2.out).1).trans HG2.out)
    have hown := H3.out.mem.brs
    have hm1 : m.t.brs.length + 1 ≤ maxLen := by unfold maxLen; omega
    have hsz : w2.heap.size < (w2.alloc (.cells #[.bool (va != 0)] 4)).heap.size := by simp
    have HNB : Hid (bv.ownBlock ≠ some bm ∧ bv.ownBlock ≠ some w.heap.size) := ⟨fun e => by obtain ⟨cs, hr⟩ := own_row H3.out.mem.brs e; exact row_ne H3.out.box hr (by decide) rfl, fun e => by obtain ⟨cs, hr⟩ := own_row H3.out.mem.brs e; exact row_ne HG3.out hr (by decide) rfl⟩
    have hnews := many_new w2 (cellsBool (va != 0)) 4
    rw [HZ.out] at hal H3 HAL HG3 hown hsz hnews
    clear hal
    go_upto_region 3 with (at_builtin; refine wpList_append_own_at _ rfl (.tmp 16) (.tmp 18) 25 rfl 0 4 i0 (.bool false) 1 1 Tryd.underlying25 hi hz0 hz1 hz2 rfl (by decide) _ _ _ rfl hown ⟨w2.heap.size, 0, none⟩ 1 1 (cellsBool _) rfl rfl hnews (by intro u hu; simp [cellsBool] at hu; subst hu; rfl) hm1 (by omega) (Nat.zero_le _) ?_; intro v' w4 hown' hgrow _ hblk; have hbx4 := (hgrow.block bm (by omega) (fun e => HNB.out.1 e.symm)).trans H3.out.box; have c4 := row_of hbx4 4 _ rfl; have f4 := frozen_of_row w4 bm 4 _ _ hbx4; have HG4 := Lib.hid ((hgrow.block _ (by omega) (fun e => HNB.out.2 e.symm)).trans HG3.out); have HH := Lib.hid (And.intro hown' (And.intro hgrow hblk)); obtain ⟨xa, xc, rfl, _⟩ := own_read hown'; clear hown' hgrow hblk hbx4)
    have M4 := Lib.hid (H3.out.setBrs _ HH.out.1 HH.out.2.1 HH.out.2.2)
    have T4 := Lib.hid ((((Turn.of_below (B := G) HAL.out).grown HH.out.2.1 (fun b hb => (H3.out.mem.osep.2.2 b hb).1)).setCell (a := ⟨bm, 4, none⟩) H3.out.bG.1 (.slice xa (m.t.brs.length + 1) xc)))
    have GR : Hid (∀ b, Grow G (w2.alloc (.cells #[.bool true] 4)) w4 b → Grow G w (w4.setCell ⟨bm, 4, none⟩ (.slice xa (m.t.brs.length + 1) xc)) b) := fun b hb => hb.elim .inl fun k => .inr ⟨Nat.le_trans HAL.out.size k.1, by simpa using k.2⟩
    have hres2 : Hid (doM f ins ⟨ck, co, cd, cn, cra, crb⟩ m 8 = { m with pc := cn, t := { m.t with brs := m.t.brs ++ [true] } }) := by show _ = _; rw [hres.out, HZ.out, if_neg (by simpa using HZ.out)]
    have c15 := row_of M4.out.box 15 _ rfl
    have f15 := frozen_of_row _ bm 15 _ _ M4.out.box
    have k3 := (cell_setCell_other w4 bm 4 (.slice xa (m.t.brs.length + 1) xc) w.heap.size 3 (by omega)).trans (row_of HG4.out 3 (.int .i64 cn) rfl)
    have M5 := Lib.hid (M4.out.setPc cn)
    have T5 := Lib.hid (T4.out.setCell (a := ⟨bm, 15, none⟩) H3.out.bG.1 (.int .i64 cn))
    clear HH c4 f4 hown
    generalize w4.setCell ⟨bm, 4, none⟩ (.slice xa (m.t.brs.length + 1) xc) = w5 at *
    go_wp2
    go_end0
    exact ⟨rfl, by rw [hres2.out]; exact post_in M5.out.isIn (fun b hb => (GR.out b hb).elim .inl fun k => .inr ⟨k.1, by simpa using k.2⟩) T5.out⟩
end Go.Proofs.YtkjkpddajjmloaaDoor
