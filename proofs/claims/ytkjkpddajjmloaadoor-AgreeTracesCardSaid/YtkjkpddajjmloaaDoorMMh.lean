/- Contracts of the program's write, release and read of a run. Conditions: the run lies at the pointer, and the instruction is one that may be done. -/
import Derived.Test.YtkjkpddajjmloaaDoorMMg
set_option linter.unusedVariables false
set_option linter.unusedSimpArgs false
namespace Go.Proofs.YtkjkpddajjmloaaDoor
open Go.ChangeShapes Go.WideShapes Go.ChangeAt Go.RowKit
theorem two_keep {W w' : World} {a b : Nat} (ha : w'.heap[a]? = W.heap[a]?) (hb : w'.heap[b]? = W.heap[b]?) : ∀ x ∈ [a, b], w'.heap[x]? = W.heap[x]? := by
  intro x hx; simp only [List.mem_cons, List.not_mem_nil, or_false] at hx; rcases hx with rfl | rfl; exact ha; exact hb
set_option maxRecDepth 100000 in
set_option maxHeartbeats 1600000 in
theorem machWrite {G I : Nat → Prop} {w : World} {bm : Nat} {f : FlatD} {ins : List (List Int)} {m : MachD} {c8 c9 c10 kv iv av ov rv bv : Value} {gb db : Nat} {bs : List Nat} (h : MachAt G I w bm f ins m c8 c9 c10 kv iv av ov rv bv gb db bs) (c : CodeD) (hl : m.regs.length ≤ 2097152) (ha : RefIn m c.a) (hN : m.t.outs.length ≤ 1000000000) :
    Calls Tryd.prog 148 #[.pointer (some ⟨bm, 0, none⟩), codeV c] w fun e w' => e = .returned (.tuple #[]) ∧ Post G w w' bm f ins (doM f ins c m 5) := by
  obtain ⟨ck, co, cd, cn, cra, crb⟩ := c
  obtain ⟨i0, hi, hz0, hz1, hz2⟩ := info_parts infoEv
  have hb : Below w.heap.size w (w.alloc (.cells #[.int .u8 ck, .int .u8 co, .int .i64 cd, .int .i64 cn, .int .i64 cra.reg, .int .u64 cra.num, .int .i64 crb.reg, .int .u64 crb.num] 103)) := (Below.refl _ _).alloc (Nat.le_refl _) _
  have hgb := heap_alloc_new w (.cells #[.int .u8 ck, .int .u8 co, .int .i64 cd, .int .i64 cn, .int .i64 cra.reg, .int .u64 cra.num, .int .i64 crb.reg, .int .u64 crb.num] 103)
  have h1 := h.keep hb
  have hlt : bm < w.heap.size := (Array.getElem?_eq_some_iff.1 h.box).1
  have hres : Hid (doM f ins ⟨ck, co, cd, cn, cra, crb⟩ m 5 = { m with t := { m.t with outs := m.t.outs ++ [⟨cn, valM m cra⟩] } }) := rfl
  go_enter Tryd.func148, Tryd.ntmps148
  go_upto_region 1 with fail
  generalize w.alloc (.cells #[.int .u8 ck, .int .u8 co, .int .i64 cd, .int .i64 cn, .int .i64 cra.reg, .int .u64 cra.num, .int .i64 crb.reg, .int .u64 crb.num] 103) = W at *
  have HB := Lib.hid hb
  have HG := Lib.hid hgb
  have l2 := keepS_cell (S := [bm, w.heap.size]) (by simp) (row_of h1.box 2 _ rfl)
  have k3 := keepS_cell (S := [bm, w.heap.size]) (by simp) (row_of HG.out 3 (.int .i64 cn) rfl)
  have k4 := keepS_cell (S := [bm, w.heap.size]) (by simp) (row_of HG.out 4 (.int .i64 cra.reg) rfl)
  have k5 := keepS_cell (S := [bm, w.heap.size]) (by simp) (row_of HG.out 5 (.int .u64 cra.num) rfl)
  have H1 := Lib.hid h1
  have HV := Lib.hid (machValue (h1.keep (Below.refl _ _).drew) cra ha hl)
  generalize hva : valM m cra = va at *
  clear h hb hgb h1 ha hva
  refine wp_region_mixS [bm, w.heap.size] (.one [0, 1, 2, 3, 4, 5, 6, 7, 8, 9, 10, 11] 12 (.one [13] 14 (.one [] 15 (tailOf [16, 17, 18, 19, 20])))) (fun j => decide (16 ≤ j)) (by kernel_rfl) (by kernel_rfl) rfl (by kernel_rfl) (fun _ d _ _ _ h => by cases d <;> exact h) ?_
  refine mix_one (by simp only [opsOf, List.filterMap_cons, List.filterMap_nil, List.getElem?_toArray, List.getElem?_cons_succ, List.getElem?_cons_zero]; rfl) ⟨_, keepS_of (fun _ _ => rfl)⟩ ?_
  change wpQuiet _ _ _ _ [_, _, _, _, _, _, _, _, _, _, _, _] _
  (repeat (go_big_quiet_step (fail)))
  refine wpQuiet_nil ?_
  refine mix_step rfl ?_
  go_wp2_with (go_at_call 153; refine HV.out.mono ?_; rintro e w2 ⟨rfl, hb2⟩)
  have hbW := bcomp (Below.refl W.heap.size W).drew hb2
  have H2 := Lib.hid (H1.out.keep hbW)
  have HG2 := Lib.hid ((hbW.block _ (Array.getElem?_eq_some_iff.1 HG.out).1).trans HG.out)
  have HB2 := Lib.hid (bcomp HB.out hbW)
  have HK2 := Lib.hid (two_keep (hbW.block _ (Array.getElem?_eq_some_iff.1 H1.out.box).1) (hbW.block _ (Array.getElem?_eq_some_iff.1 HG.out).1))
  clear hb2 hbW
  refine ⟨fun _ => ⟨_, keepS_of HK2.out⟩, ?_⟩
  refine mix_one (by simp only [opsOf, List.filterMap_cons, List.filterMap_nil, List.getElem?_toArray, List.getElem?_cons_succ, List.getElem?_cons_zero]; rfl) ⟨_, keepS_of HK2.out⟩ ?_
  change wpQuiet _ _ _ _ [_] _
  (repeat (go_big_quiet_step (fail)))
  refine wpQuiet_nil ?_
  refine mix_step rfl ?_
  have hal : Below w2.heap.size w2 (w2.alloc (.cells #[.int .i64 cn, .int .u64 va] 146)) := (Below.refl _ _).alloc (Nat.le_refl _) _
  have H3 := Lib.hid (H2.out.keep hal)
  have HAL := Lib.hid (bcomp HB2.out hal)
  have HG3 := Lib.hid ((hal.block _ (Array.getElem?_eq_some_iff.1 HG2.out).1).trans HG2.out)
  have hown := H3.out.mem.outs
  have hm1 : m.t.outs.length + 1 ≤ maxLen := by unfold maxLen; omega
  have hsz : w2.heap.size < (w2.alloc (.cells #[.int .i64 cn, .int .u64 va] 146)).heap.size := by simp
  have hs2 : bm < w2.heap.size := (Array.getElem?_eq_some_iff.1 H2.out.box).1
  have hsw : w.heap.size < w2.heap.size := (Array.getElem?_eq_some_iff.1 HG2.out).1
  have HNB : Hid (ov.ownBlock ≠ some bm ∧ ov.ownBlock ≠ some w.heap.size) := ⟨fun e => by obtain ⟨cs, hr⟩ := own_row H3.out.mem.outs e; exact row_ne H3.out.box hr (by decide) rfl, fun e => by obtain ⟨cs, hr⟩ := own_row H3.out.mem.outs e; exact row_ne HG3.out hr (by decide) rfl⟩
  have hnews := many_new w2 (cellsEv ⟨cn, va⟩) 146
  have HK3 := Lib.hid (two_keep (hal.block bm hs2) (hal.block w.heap.size hsw))
  clear hal
  go_wp2_with fail
  refine ⟨fun _ => ⟨_, keepS_of (fun b hb => (HK3.out b hb).trans (HK2.out b hb))⟩, ?_⟩
  refine mix_now ?_
  refine mix_step rfl ?_
  have h1c : ∀ u ∈ cellsEv ⟨cn, va⟩, u.oneCell' = true := by intro u hu; simp [cellsEv] at hu; rcases hu with rfl | rfl <;> rfl
  try (simp only [Act.put, List.setIfInBounds_toArray, List.set_cons_succ, List.set_cons_zero, List.getElem_toArray, List.getElem_cons_succ, List.getElem_cons_zero])
  refine wpList_append_own_at _ rfl (.tmp 10) (.tmp 18) 24 rfl 0 146 i0 (.agg #[.int .i64 0, .int .u64 0]) 2 16 Tryd.underlying24 hi hz0 hz1 hz2 rfl (by decide) _ _ _ rfl hown ⟨w2.heap.size, 0, none⟩ 1 1 (cellsEv ⟨cn, va⟩) rfl rfl hnews h1c hm1 (by omega) (Nat.zero_le _) ?_
  intro v' w4 hown' hgrow _ hblk
  have hbx4 := (hgrow.block bm (by omega) (fun e => HNB.out.1 e.symm)).trans H3.out.box
  have hcx4 := (hgrow.block w.heap.size (by omega) (fun e => HNB.out.2 e.symm)).trans HG3.out
  have HH := Lib.hid (And.intro hown' (And.intro hgrow hblk))
  obtain ⟨xa, xc, rfl, _⟩ := own_read hown'
  clear hown' hgrow hblk
  try (simp only [Act.put, List.setIfInBounds_toArray, List.set_cons_succ, List.set_cons_zero, List.getElem_toArray, List.getElem_cons_succ, List.getElem_cons_zero])
  go_wp2_with fail
  refine ⟨fun _ => ⟨_, keepS_of (two_keep (hbx4.trans H1.out.box.symm) (hcx4.trans HG.out.symm))⟩, ?_⟩
  have c2 := row_of hbx4 2 _ rfl
  have f2 := frozen_of_row w4 bm 2 _ _ hbx4
  have M4 := Lib.hid (H3.out.setOuts _ HH.out.1 HH.out.2.1 HH.out.2.2)
  have T4 := Lib.hid ((((Turn.of_below (B := G) HAL.out).grown HH.out.2.1 (fun b hb => (H3.out.mem.osep.1 b hb).1)).setCell (a := ⟨bm, 2, none⟩) H3.out.bG.1 (.slice xa (m.t.outs.length + 1) xc)))
  have GR : Hid (∀ b, Grow G (w2.alloc (.cells #[.int .i64 cn, .int .u64 va] 146)) w4 b → Grow G w (w4.setCell ⟨bm, 2, none⟩ (.slice xa (m.t.outs.length + 1) xc)) b) := fun b hb => hb.elim .inl fun k => .inr ⟨Nat.le_trans HAL.out.size k.1, by simpa using k.2⟩
  clear HH hown hbx4 hcx4 l2 k3 k4 k5
  refine mix_tail [16, 17, 18, 19, 20] [_, _, _, _, _] _ _ rfl rfl ?_
  simp only [Act.put, List.setIfInBounds_toArray, List.set_cons_succ, List.set_cons_zero, List.getElem_toArray, List.getElem_cons_succ, List.getElem_cons_zero]
  go_wp2_with fail
  go_end0
  exact ⟨rfl, by rw [hres.out]; exact post_in M4.out.isIn GR.out T4.out⟩
set_option maxRecDepth 100000 in
set_option maxHeartbeats 1600000 in
theorem machRelease {G I : Nat → Prop} {w : World} {bm : Nat} {f : FlatD} {ins : List (List Int)} {m : MachD} {c8 c9 c10 kv iv av ov rv bv : Value} {gb db : Nat} {bs : List Nat} (h : MachAt G I w bm f ins m c8 c9 c10 kv iv av ov rv bv gb db bs) (c : CodeD) (hl : m.regs.length ≤ 2097152) (ha : RefIn m c.a) (hN : m.t.rels.length ≤ 1000000000) (hd0 : 0 ≤ c.dst) (hd1 : c.dst < m.regs.length) :
    Calls Tryd.prog 149 #[.pointer (some ⟨bm, 0, none⟩), codeV c] w fun e w' => e = .returned (.tuple #[]) ∧ Post G w w' bm f ins (doM f ins c m 6) := by
  obtain ⟨ck, co, cd, cn, cra, crb⟩ := c
  obtain ⟨d, rfl⟩ : ∃ d : Nat, cd = d := ⟨cd.toNat, by simp only at hd0; omega⟩
  simp only at ha hd0 hd1
  obtain ⟨y, hy⟩ : ∃ y, m.regs[d]? = some y := ⟨_, List.getElem?_eq_getElem (by omega)⟩
  obtain ⟨i0, hi, hz0, hz1, hz2⟩ := info_parts infoEv
  have hb : Below w.heap.size w (w.alloc (.cells #[.int .u8 ck, .int .u8 co, .int .i64 d, .int .i64 cn, .int .i64 cra.reg, .int .u64 cra.num, .int .i64 crb.reg, .int .u64 crb.num] 103)) := (Below.refl _ _).alloc (Nat.le_refl _) _
  have hgb := heap_alloc_new w (.cells #[.int .u8 ck, .int .u8 co, .int .i64 d, .int .i64 cn, .int .i64 cra.reg, .int .u64 cra.num, .int .i64 crb.reg, .int .u64 crb.num] 103)
  have h1 := h.keep hb
  have hlt : bm < w.heap.size := (Array.getElem?_eq_some_iff.1 h.box).1
  have hres : Hid (doM f ins ⟨ck, co, d, cn, cra, crb⟩ m 6 = setR { m with t := { m.t with rels := m.t.rels ++ [⟨cn, valM m cra⟩] } } d (valM m cra)) := rfl
  go_enter Tryd.func149, Tryd.ntmps149
  go_upto_region 1 with fail
  generalize w.alloc (.cells #[.int .u8 ck, .int .u8 co, .int .i64 d, .int .i64 cn, .int .i64 cra.reg, .int .u64 cra.num, .int .i64 crb.reg, .int .u64 crb.num] 103) = W at *
  have HB := Lib.hid hb
  have HG := Lib.hid hgb
  have k4 := row_of hgb 4 (.int .i64 cra.reg) rfl
  have k5 := row_of hgb 5 (.int .u64 cra.num) rfl
  have H1 := Lib.hid h1
  have HV := Lib.hid (machValue h1 cra ha hl)
  have HY := Lib.hid hy
  generalize hva : valM m cra = va at *
  clear h hb hgb h1 ha hva hy
  go_upto_region 2 with (go_at_call 153; refine HV.out.mono ?_; rintro e w2 ⟨rfl, hb2⟩)
  have H2 := Lib.hid (H1.out.keep hb2)
  have HG2 := Lib.hid ((hb2.block _ (Array.getElem?_eq_some_iff.1 HG.out).1).trans HG.out)
  have HB2 := Lib.hid (bcomp HB.out hb2)
  clear k4 k5 hb2
  have l3 := keepS_cell (S := [bm, w.heap.size]) (by simp) (row_of H2.out.box 3 _ rfl)
  have k3 := keepS_cell (S := [bm, w.heap.size]) (by simp) (row_of HG2.out 3 (.int .i64 cn) rfl)
  refine wp_region_mixS [bm, w.heap.size] (.one [0, 1, 2, 3, 4, 5, 6, 7, 8, 9, 10] 11 (.one [] 12 (tailOf [13, 14, 15, 16, 17]))) (fun j => decide (13 ≤ j)) (by kernel_rfl) (by kernel_rfl) rfl (by kernel_rfl) (fun _ d _ _ _ h => by cases d <;> exact h) ?_
  have H2 := Lib.hid (H2.out.keep (Below.refl _ _).drew)
  have HG2 : Hid (w2.drew.heap[w.heap.size]? = _) := HG2.out
  have HB2 := Lib.hid (bcomp HB2.out (Below.refl _ _).drew)
  have HK0 : Hid (∀ x : Nat, w2.drew.heap[x]? = w2.heap[x]?) := fun _ => rfl
  generalize w2.drew = w3 at *
  refine mix_one (by simp only [opsOf, List.filterMap_cons, List.filterMap_nil, List.getElem?_toArray, List.getElem?_cons_succ, List.getElem?_cons_zero]; rfl) ⟨_, keepS_of (fun x _ => HK0.out x)⟩ ?_
  change wpQuiet _ _ _ _ [_, _, _, _, _, _, _, _, _, _, _] _
  (repeat (go_big_quiet_step (fail)))
  refine wpQuiet_nil ?_
  refine mix_step rfl ?_
  have hal : Below w3.heap.size w3 (w3.alloc (.cells #[.int .i64 cn, .int .u64 va] 146)) := (Below.refl _ _).alloc (Nat.le_refl _) _
  have H3 := Lib.hid (H2.out.keep hal)
  have HAL := Lib.hid (bcomp HB2.out hal)
  have HG3 := Lib.hid ((hal.block _ (Array.getElem?_eq_some_iff.1 HG2.out).1).trans HG2.out)
  have hown := H3.out.mem.rels
  have hm1 : m.t.rels.length + 1 ≤ maxLen := by unfold maxLen; omega
  have hsz : w3.heap.size < (w3.alloc (.cells #[.int .i64 cn, .int .u64 va] 146)).heap.size := by simp
  have hs2 : bm < w3.heap.size := (Array.getElem?_eq_some_iff.1 H2.out.box).1
  have hsw : w.heap.size < w3.heap.size := (Array.getElem?_eq_some_iff.1 HG2.out).1
  have HNB : Hid (rv.ownBlock ≠ some bm ∧ rv.ownBlock ≠ some w.heap.size) := ⟨fun e => by obtain ⟨cs, hr⟩ := own_row H3.out.mem.rels e; exact row_ne H3.out.box hr (by decide) rfl, fun e => by obtain ⟨cs, hr⟩ := own_row H3.out.mem.rels e; exact row_ne HG3.out hr (by decide) rfl⟩
  have hnews := many_new w3 (cellsEv ⟨cn, va⟩) 146
  have HK3 := Lib.hid (two_keep (hal.block bm hs2) (hal.block w.heap.size hsw))
  clear hal
  go_wp2_with fail
  refine ⟨fun _ => ⟨_, keepS_of (fun b hb => (HK3.out b hb).trans (HK0.out b))⟩, ?_⟩
  refine mix_now ?_
  refine mix_step rfl ?_
  have h1c : ∀ u ∈ cellsEv ⟨cn, va⟩, u.oneCell' = true := by intro u hu; simp [cellsEv] at hu; rcases hu with rfl | rfl <;> rfl
  try (simp only [Act.put, List.setIfInBounds_toArray, List.set_cons_succ, List.set_cons_zero, List.getElem_toArray, List.getElem_cons_succ, List.getElem_cons_zero])
  refine wpList_append_own_at _ rfl (.tmp 15) (.tmp 20) 24 rfl 0 146 i0 (.agg #[.int .i64 0, .int .u64 0]) 2 16 Tryd.underlying24 hi hz0 hz1 hz2 rfl (by decide) _ _ _ rfl hown ⟨w3.heap.size, 0, none⟩ 1 1 (cellsEv ⟨cn, va⟩) rfl rfl hnews h1c hm1 (by omega) (Nat.zero_le _) ?_
  intro v' w4 hown' hgrow _ hblk
  have hbx4 := (hgrow.block bm (by omega) (fun e => HNB.out.1 e.symm)).trans H3.out.box
  have hcx4 := (hgrow.block w.heap.size (by omega) (fun e => HNB.out.2 e.symm)).trans HG3.out
  have HH := Lib.hid (And.intro hown' (And.intro hgrow hblk))
  obtain ⟨xa, xc, rfl, _⟩ := own_read hown'
  clear hown' hgrow hblk
  try (simp only [Act.put, List.setIfInBounds_toArray, List.set_cons_succ, List.set_cons_zero, List.getElem_toArray, List.getElem_cons_succ, List.getElem_cons_zero])
  refine ⟨fun _ => ⟨_, keepS_of (two_keep (hbx4.trans (H2.out.box.symm.trans (HK0.out _))) (hcx4.trans (HG2.out.symm.trans (HK0.out _))))⟩, ?_⟩
  have c3 := row_of hbx4 3 _ rfl
  have f3 := frozen_of_row w4 bm 3 _ _ hbx4
  have M4 := Lib.hid (H3.out.setRels _ HH.out.1 HH.out.2.1 HH.out.2.2)
  have T4 := Lib.hid ((((Turn.of_below (B := G) HAL.out).grown HH.out.2.1 (fun b hb => (H3.out.mem.osep.2.1 b hb).1)).setCell (a := ⟨bm, 3, none⟩) H3.out.bG.1 (.slice xa (m.t.rels.length + 1) xc)))
  have GR : Hid (∀ b, Grow G (w3.alloc (.cells #[.int .i64 cn, .int .u64 va] 146)) w4 b → Grow G w (w4.setCell ⟨bm, 3, none⟩ (.slice xa (m.t.rels.length + 1) xc)) b) := fun b hb => hb.elim .inl fun k => .inr ⟨Nat.le_trans HAL.out.size k.1, by simpa using k.2⟩
  have hcb := (heap_setCell_other w4 ⟨bm, 3, none⟩ w.heap.size (.slice xa (m.t.rels.length + 1) xc) (by simp; omega)).trans hcx4
  have HCB := Lib.hid hcb
  clear HH hown hbx4 hcx4 l3 k3 hcb
  refine mix_tail [13, 14, 15, 16, 17] [_, _, _, _, _] _ _ rfl rfl ?_
  simp only [Act.put, List.setIfInBounds_toArray, List.set_cons_succ, List.set_cons_zero, List.getElem_toArray, List.getElem_cons_succ, List.getElem_cons_zero]
  go_wp2_with fail
  go_upto_region 3 with fail
  clear c3 f3
  generalize w4.setCell ⟨bm, 3, none⟩ (.slice xa (m.t.rels.length + 1) xc) = w5 at *
  have l13 := ext_cell (row_of M4.out.box 13 _ rfl)
  have k2 := ext_cell (row_of HCB.out 2 (.int .i64 d) rfl)
  (refine wp_region_calm_tail 7 (by kernel_rfl) (by kernel_rfl) ?_; simp only [List.take_succ_cons, List.take_zero, List.drop_succ_cons, List.drop_zero]; (repeat (go_big_quiet_step (fail))); refine wpQuiet_nil ?_; intro wc hwc)
  have M5 := M4.out.keep hwc
  have cg := row_of M5.mem.regs d _ (u64s_get _ _ _ HY.out)
  have fg := frozen_of_row wc gb d _ _ M5.mem.regs
  have HP := Lib.hid (M5.setReg d va)
  have hgG := H3.out.mem.sep.1
  have hT : Hid (Turn G w (wc.setCell ⟨gb, (d : Int).toNat, none⟩ (.int .u64 va))) := (T4.out.trans (Turn.of_below hwc)).setCell hgG _
  have hi' : (d : Int) < (m.regs.length : Int) := hd1
  have GR2 : Hid (∀ b, Grow G (w3.alloc (.cells #[.int .i64 cn, .int .u64 va] 146)) w4 b → Grow G w (wc.setCell ⟨gb, (d : Int).toNat, none⟩ (.int .u64 va)) b) := fun b hb => (GR.out b hb).elim .inl fun k => .inr ⟨k.1, by have := hwc.size; simp; omega⟩
  clear M5 hwc l13 k2
  go_wp2
  go_end0
  exact ⟨rfl, by rw [hres.out]; exact post_in HP.out.isIn GR2.out hT.out⟩
end Go.Proofs.YtkjkpddajjmloaaDoor
