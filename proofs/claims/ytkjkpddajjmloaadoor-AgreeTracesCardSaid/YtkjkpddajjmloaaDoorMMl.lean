/- Contracts of what is asked of a run: the number of the next instruction, a register's value, and what came of the run so far. Conditions: the run lies at the pointer, and it is one that runs come to. -/
import Derived.Test.YtkjkpddajjmloaaDoorMMk
set_option linter.unusedVariables false
set_option linter.unusedSimpArgs false
namespace Go.Proofs.YtkjkpddajjmloaaDoor
open Go.ChangeShapes Go.WideShapes Go.ChangeAt Go.RowKit
theorem ints_rd {W : World} {g : Nat} {l : List Int} (hg : W.heap[g]? = some (.cells (i64s l) 3 (0, 0))) (hz : l.length ≤ 1000) (hv : ∀ x ∈ l, InI64 x) : RdRow kInt none W (.slice (some ⟨g, 0, none⟩) l.length l.length) l := by
  refine ⟨_, l.length, rfl, ⟨by show l.length * 8 ≤ _; omega, Nat.le_refl _⟩, fun i x hx => ⟨g, 0, rfl, Free.none _ _ _, fun j u hj => ?_, hv x (List.mem_of_getElem? hx)⟩⟩
  have : j = 0 ∧ u = .int .i64 x := by
    cases j with
    | zero => simp [cellsInt] at hj; exact ⟨rfl, hj.symm⟩
    | succ j => simp [cellsInt] at hj
  obtain ⟨rfl, rfl⟩ := this
  have := row_of hg i _ (i64s_get l i x hx)
  simpa using this
/-- The value of a register, 0 where there is none. -/
def regM (m : MachD) (i : Int) : Int := if i < 0 then 0 else m.regs.getD i.toNat 0
set_option maxRecDepth 100000 in
set_option maxHeartbeats 1600000 in
theorem machTrace {G I : Nat → Prop} {w : World} {bm : Nat} {f : FlatD} {ins : List (List Int)} {m : MachD} {c8 c9 c10 kv iv av ov rv bv : Value} {gb db : Nat} {bs : List Nat} (h : MachAt G I w bm f ins m c8 c9 c10 kv iv av ov rv bv gb db bs) (hh : HeadP f) (g : Good f m) (hfew : m.t.steps ≤ 1000000) :
    Calls Tryd.prog 63 #[.pointer (some ⟨bm, 0, none⟩)] w fun e w' => ∃ xo xr xb xd, e = .returned (traceV m.t xo xr xb xd) ∧ RdTrace (some (upFrom w.heap.size)) w' m.t xo xr xb xd ∧ Below w.heap.size w w' := by
  have ho : RdRow kEv none w ov m.t.outs := (own_rows (K := kEv) h.mem.outs (by show m.t.outs.length * 16 ≤ _; have := g.outs; omega) g.ov).forget
  have hr : RdRow kEv none w rv m.t.rels := (own_rows (K := kEv) h.mem.rels (by show m.t.rels.length * 16 ≤ _; have := g.rels; omega) g.lv).forget
  have hb : RdRow kBool none w bv m.t.brs := (own_rows (K := kBool) h.mem.brs (by show m.t.brs.length * 1 ≤ _; have := g.brs; omega) (fun _ _ => trivial)).forget
  have hd : RdRow kInt none w (.slice (some ⟨db, 0, none⟩) m.t.reads.length m.t.reads.length) m.t.reads := ints_rd h.mem.reads (by have := g.reads; have := hh.chans; omega) (fun x hx => by have := g.rd x hx; exact ⟨by omega, by omega⟩)
  have hst : InU8 m.t.status ∧ InI64 m.t.steps := ⟨by rcases g.st with e | e | e <;> rw [e] <;> exact ⟨by decide, by decide⟩, by have := g.steps; exact ⟨by omega, by omega⟩⟩
  obtain ⟨oa, oc, rfl⟩ := ho.is
  obtain ⟨ra, rc, rfl⟩ := hr.is
  obtain ⟨ba, bc, rfl⟩ := hb.is
  have c0 : w.cell? ⟨bm, 0, none⟩ = some (.int .u8 m.t.status) := row_of h.box 0 _ rfl
  have c1 : w.cell? ⟨bm, 1, none⟩ = some (.int .i64 m.t.steps) := row_of h.box 1 _ rfl
  have c2 : w.cell? ⟨bm, 2, none⟩ = some (.slice oa m.t.outs.length oc) := row_of h.box 2 _ rfl
  have c3 : w.cell? ⟨bm, 3, none⟩ = some (.slice ra m.t.rels.length rc) := row_of h.box 3 _ rfl
  have c4 : w.cell? ⟨bm, 4, none⟩ = some (.slice ba m.t.brs.length bc) := row_of h.box 4 _ rfl
  have c5 : w.cell? ⟨bm, 5, none⟩ = some (.slice (some ⟨db, 0, none⟩) m.t.reads.length m.t.reads.length) := row_of h.box 5 _ rfl
  have hlt : bm < w.heap.size := (Array.getElem?_eq_some_iff.1 h.box).1
  have HO := Lib.hid ho
  have HR := Lib.hid hr
  have HB := Lib.hid hb
  have HD := Lib.hid hd
  have HST := Lib.hid hst
  clear h ho hr hb hd hst hh g
  go_enter Tryd.func63, Tryd.ntmps63
  go_upto_region 4 with fail
  have hal0 := (Below.refl w.heap.size w).alloc (Nat.le_refl _) (.cells #[.int .u8 0, .int .i64 0, .slice none 0 0, .slice none 0 0, .slice none 0 0, .slice none 0 0] 27)
  have HW := Lib.hid (hal0.alloc hal0.size (.cells #[.int .u8 m.t.status, .int .i64 m.t.steps, .slice oa m.t.outs.length oc, .slice ra m.t.rels.length rc, .slice ba m.t.brs.length bc, .slice (some ⟨db, 0, none⟩) m.t.reads.length m.t.reads.length] 27))
  have hk := (Below.refl (w.alloc (.cells #[.int .u8 0, .int .i64 0, .slice none 0 0, .slice none 0 0, .slice none 0 0, .slice none 0 0] 27)).heap.size (w.alloc (.cells #[.int .u8 0, .int .i64 0, .slice none 0 0, .slice none 0 0, .slice none 0 0, .slice none 0 0] 27))).alloc (Nat.le_refl _) (.cells #[.int .u8 m.t.status, .int .i64 m.t.steps, .slice oa m.t.outs.length oc, .slice ra m.t.rels.length rc, .slice ba m.t.brs.length bc, .slice (some ⟨db, 0, none⟩) m.t.reads.length m.t.reads.length] 27)
  have HG0 := Lib.hid ((hk.block w.heap.size (by simp)).trans (heap_alloc_new w (.cells #[.int .u8 0, .int .i64 0, .slice none 0 0, .slice none 0 0, .slice none 0 0, .slice none 0 0] 27)))
  have HG1 : Hid (((w.alloc (.cells #[.int .u8 0, .int .i64 0, .slice none 0 0, .slice none 0 0, .slice none 0 0, .slice none 0 0] 27)).alloc (.cells #[.int .u8 m.t.status, .int .i64 m.t.steps, .slice oa m.t.outs.length oc, .slice ra m.t.rels.length rc, .slice ba m.t.brs.length bc, .slice (some ⟨db, 0, none⟩) m.t.reads.length m.t.reads.length] 27)).heap[w.heap.size + 1]? = some (.cells #[.int .u8 m.t.status, .int .i64 m.t.steps, .slice oa m.t.outs.length oc, .slice ra m.t.rels.length rc, .slice ba m.t.brs.length bc, .slice (some ⟨db, 0, none⟩) m.t.reads.length m.t.reads.length] 27)) := by
    show _ = _
    rw [show w.heap.size + 1 = (w.alloc (.cells #[.int .u8 0, .int .i64 0, .slice none 0 0, .slice none 0 0, .slice none 0 0, .slice none 0 0] 27)).heap.size by simp]
    exact heap_alloc_new _ _
  clear hal0 hk c0 c1 c2 c3 c4 c5
  generalize (w.alloc (.cells #[.int .u8 0, .int .i64 0, .slice none 0 0, .slice none 0 0, .slice none 0 0, .slice none 0 0] 27)).alloc (.cells #[.int .u8 m.t.status, .int .i64 m.t.steps, .slice oa m.t.outs.length oc, .slice ra m.t.rels.length rc, .slice ba m.t.brs.length bc, .slice (some ⟨db, 0, none⟩) m.t.reads.length m.t.reads.length] 27) = W at *
  refine wp_region_mix (.one [0, 1, 3, 4, 6, 7, 9, 10] 2 (.one [12] 5 (.one [] 8 (.one [] 11 (tailOf [13, 14, 15, 16, 17, 18, 19]))))) (fun j => decide (13 ≤ j)) (by kernel_rfl) (by kernel_rfl) rfl (by kernel_rfl) (fun _ d _ _ _ h => by cases d <;> exact h) ?_
  have HBd : Hid (Below W.heap.size W W.drew) := (Below.refl _ _).drew
  have b1 : Below w.heap.size w W.drew := HW.out.drew
  generalize W.drew = wn at *
  have l2 := ext_cell (row_of HG1.out 2 (.slice oa m.t.outs.length oc) rfl)
  have l3 := ext_cell (row_of HG1.out 3 (.slice ra m.t.rels.length rc) rfl)
  have l4 := ext_cell (row_of HG1.out 4 (.slice ba m.t.brs.length bc) rfl)
  have l5 := ext_cell (row_of HG1.out 5 (.slice (some ⟨db, 0, none⟩) m.t.reads.length m.t.reads.length) rfl)
  refine mix_one (by simp only [opsOf, List.filterMap_cons, List.filterMap_nil, List.getElem?_toArray, List.getElem?_cons_succ, List.getElem?_cons_zero]; rfl) ⟨_, ext_of HBd.out⟩ ?_
  change wpQuiet _ _ _ _ [_, _, _, _, _, _, _, _] _
  (repeat (go_big_quiet_step (fail)))
  refine wpQuiet_nil ?_
  clear l2 l3 l4 l5
  have R1 := HO.out.keep b1
  refine mix_step rfl ?_
  go_wp2_with (go_at_call 83; refine (cloneEv _ _ _ R1).mono ?_; rintro e w2 ⟨v, rfl, _, r2, b2⟩)
  obtain ⟨xa2, xc2, rfl⟩ := r2.is
  have B2 := bcomp HBd.out b2
  have k2 := bcomp b1 b2
  have R2 := HR.out.keep k2
  refine ⟨fun _ => ⟨_, ext_of B2⟩, ?_⟩
  refine mix_one (by simp only [opsOf, List.filterMap_cons, List.filterMap_nil, List.getElem?_toArray, List.getElem?_cons_succ, List.getElem?_cons_zero]; rfl) ⟨_, ext_of B2⟩ ?_
  change wpQuiet _ _ _ _ [_] _
  (repeat (go_big_quiet_step (fail)))
  refine wpQuiet_nil ?_
  refine mix_step rfl ?_
  go_wp2_with (go_at_call 83; refine (cloneEv _ _ _ R2).mono ?_; rintro e w3 ⟨v, rfl, _, r3, b3⟩)
  obtain ⟨xa3, xc3, rfl⟩ := r3.is
  have B3 := bcomp B2 b3
  have k3 := bcomp k2 b3
  have R3 := HB.out.keep k3
  refine ⟨fun _ => ⟨_, ext_of B3⟩, ?_⟩
  refine mix_now ?_
  refine mix_step rfl ?_
  go_wp2_with (go_at_call 84; refine (cloneBool _ _ _ R3).mono ?_; rintro e w4 ⟨v, rfl, _, r4, b4⟩)
  obtain ⟨xa4, xc4, rfl⟩ := r4.is
  have B4 := bcomp B3 b4
  have k4 := bcomp k3 b4
  have R4 := HD.out.keep k4
  refine ⟨fun _ => ⟨_, ext_of B4⟩, ?_⟩
  refine mix_now ?_
  refine mix_step rfl ?_
  go_wp2_with (go_at_call 85; refine (cloneInt _ _ _ R4).mono ?_; rintro e w5 ⟨v, rfl, _, r5, b5⟩)
  obtain ⟨xa5, xc5, rfl⟩ := r5.is
  have B5 := bcomp B4 b5
  have k5 := bcomp k4 b5
  refine ⟨fun _ => ⟨_, ext_of B5⟩, ?_⟩
  refine mix_tail [13, 14, 15, 16, 17, 18, 19] [_, _, _, _, _, _, _] _ _ rfl rfl ?_
  have hszW : w.heap.size + 1 < W.heap.size := (Array.getElem?_eq_some_iff.1 HG1.out).1
  have hszn : w.heap.size + 1 < wn.heap.size := by have := HBd.out.size; omega
  have hsz5 : w.heap.size + 1 < w5.heap.size := by have := B5.size; omega
  have G5 := (B5.block _ hszW).trans HG1.out
  have Z5 := (B5.block _ (by omega : w.heap.size < W.heap.size)).trans HG0.out
  have HR5 : Hid (RdTrace (some (upFrom (w.heap.size + 2))) w5 m.t (.slice xa2 m.t.outs.length xc2) (.slice xa3 m.t.rels.length xc3) (.slice xa4 m.t.brs.length xc4) (.slice xa5 m.t.reads.length xc5)) :=
    ⟨(r2.keep (bcomp b3 (bcomp b4 b5))).up (by omega), (r3.keep (bcomp b4 b5)).up (by have := b2.size; omega), (r4.keep b5).up (by have := b2.size; have := b3.size; omega), r5.up (by have := b2.size; have := b3.size; have := b4.size; omega), HST.out⟩
  have HB5 := Lib.hid k5
  have x2 := row_of G5 2 (.slice oa m.t.outs.length oc) rfl
  have x3 := row_of G5 3 (.slice ra m.t.rels.length rc) rfl
  have x4 := row_of G5 4 (.slice ba m.t.brs.length bc) rfl
  have x5 := row_of G5 5 (.slice (some ⟨db, 0, none⟩) m.t.reads.length m.t.reads.length) rfl
  have f2 := frozen_of_row w5 (w.heap.size + 1) 2 _ _ G5
  have f3 := frozen_of_row w5 (w.heap.size + 1) 3 _ _ G5
  have f4 := frozen_of_row w5 (w.heap.size + 1) 4 _ _ G5
  have f5 := frozen_of_row w5 (w.heap.size + 1) 5 _ _ G5
  have HG6 : Hid (((((w5.setCell ⟨w.heap.size + 1, 2, none⟩ (.slice xa2 m.t.outs.length xc2)).setCell ⟨w.heap.size + 1, 3, none⟩ (.slice xa3 m.t.rels.length xc3)).setCell ⟨w.heap.size + 1, 4, none⟩ (.slice xa4 m.t.brs.length xc4)).setCell ⟨w.heap.size + 1, 5, none⟩ (.slice xa5 m.t.reads.length xc5)).heap[w.heap.size + 1]? = some (.cells #[.int .u8 m.t.status, .int .i64 m.t.steps, .slice xa2 m.t.outs.length xc2, .slice xa3 m.t.rels.length xc3, .slice xa4 m.t.brs.length xc4, .slice xa5 m.t.reads.length xc5] 27 (0, 0))) := by
    show _ = _
    rw [heap_setCell_same _ _ _ _ _ _ (heap_setCell_same _ _ _ _ _ _ (heap_setCell_same _ _ _ _ _ _ (heap_setCell_same _ _ _ _ _ _ G5)))]
    rfl
  have hoth : ∀ b, b ≠ w.heap.size + 1 → ((((w5.setCell ⟨w.heap.size + 1, 2, none⟩ (.slice xa2 m.t.outs.length xc2)).setCell ⟨w.heap.size + 1, 3, none⟩ (.slice xa3 m.t.rels.length xc3)).setCell ⟨w.heap.size + 1, 4, none⟩ (.slice xa4 m.t.brs.length xc4)).setCell ⟨w.heap.size + 1, 5, none⟩ (.slice xa5 m.t.reads.length xc5)).heap[b]? = w5.heap[b]? := fun b hb => by
    rw [heap_setCell_other _ _ _ _ (by simpa using hb), heap_setCell_other _ _ _ _ (by simpa using hb), heap_setCell_other _ _ _ _ (by simpa using hb), heap_setCell_other _ _ _ _ (by simpa using hb)]
  have HZ6 := Lib.hid ((hoth w.heap.size (by omega)).trans Z5)
  have HR6 : Hid (RdTrace (some (upFrom (w.heap.size + 2))) ((((w5.setCell ⟨w.heap.size + 1, 2, none⟩ (.slice xa2 m.t.outs.length xc2)).setCell ⟨w.heap.size + 1, 3, none⟩ (.slice xa3 m.t.rels.length xc3)).setCell ⟨w.heap.size + 1, 4, none⟩ (.slice xa4 m.t.brs.length xc4)).setCell ⟨w.heap.size + 1, 5, none⟩ (.slice xa5 m.t.reads.length xc5)) m.t (.slice xa2 m.t.outs.length xc2) (.slice xa3 m.t.rels.length xc3) (.slice xa4 m.t.brs.length xc4) (.slice xa5 m.t.reads.length xc5)) := by
    obtain ⟨h1, h2, h3, h4, h5⟩ := HR5.out
    have ho : ∀ b, upFrom (w.heap.size + 2) b → b < w5.heap.size → ((((w5.setCell ⟨w.heap.size + 1, 2, none⟩ (.slice xa2 m.t.outs.length xc2)).setCell ⟨w.heap.size + 1, 3, none⟩ (.slice xa3 m.t.rels.length xc3)).setCell ⟨w.heap.size + 1, 4, none⟩ (.slice xa4 m.t.brs.length xc4)).setCell ⟨w.heap.size + 1, 5, none⟩ (.slice xa5 m.t.reads.length xc5)).heap[b]? = w5.heap[b]? := fun b hb _ => hoth b (by have : w.heap.size + 2 ≤ b := hb; omega)
    exact ⟨h1.same ho (fun _ _ k => k), h2.same ho (fun _ _ k => k), h3.same ho (fun _ _ k => k), h4.same ho (fun _ _ k => k), h5⟩
  have HB6 : Hid (Below w.heap.size w ((((w5.setCell ⟨w.heap.size + 1, 2, none⟩ (.slice xa2 m.t.outs.length xc2)).setCell ⟨w.heap.size + 1, 3, none⟩ (.slice xa3 m.t.rels.length xc3)).setCell ⟨w.heap.size + 1, 4, none⟩ (.slice xa4 m.t.brs.length xc4)).setCell ⟨w.heap.size + 1, 5, none⟩ (.slice xa5 m.t.reads.length xc5))) := (((HB5.out.setCell (by simp) _).setCell (by simp) _).setCell (by simp) _).setCell (by simp) _
  clear r2 r3 r4 r5 b1 b2 b3 b4 b5 B2 B3 B4 B5 k2 k3 k4 k5 R1 R2 R3 R4 G5 Z5 hoth HR5
  go_upto_region 5 with fail
  clear x2 x3 x4 x5 f2 f3 f4 f5
  generalize ((((w5.setCell ⟨w.heap.size + 1, 2, none⟩ (.slice xa2 m.t.outs.length xc2)).setCell ⟨w.heap.size + 1, 3, none⟩ (.slice xa3 m.t.rels.length xc3)).setCell ⟨w.heap.size + 1, 4, none⟩ (.slice xa4 m.t.brs.length xc4)).setCell ⟨w.heap.size + 1, 5, none⟩ (.slice xa5 m.t.reads.length xc5)) = W6 at *
  have y0 := row_of HG6.out 0 (.int .u8 m.t.status) rfl
  have y1 := row_of HG6.out 1 (.int .i64 m.t.steps) rfl
  have y2 := row_of HG6.out 2 (.slice xa2 m.t.outs.length xc2) rfl
  have y3 := row_of HG6.out 3 (.slice xa3 m.t.rels.length xc3) rfl
  have y4 := row_of HG6.out 4 (.slice xa4 m.t.brs.length xc4) rfl
  have y5 := row_of HG6.out 5 (.slice xa5 m.t.reads.length xc5) rfl
  have z0 := row_of HZ6.out 0 (.int .u8 0) rfl
  have u0 := frozen_of_row W6 w.heap.size 0 _ _ HZ6.out
  have z1 := row_of HZ6.out 1 (.int .i64 0) rfl
  have u1 := frozen_of_row W6 w.heap.size 1 _ _ HZ6.out
  have z2 := row_of HZ6.out 2 (.slice none 0 0) rfl
  have u2 := frozen_of_row W6 w.heap.size 2 _ _ HZ6.out
  have z3 := row_of HZ6.out 3 (.slice none 0 0) rfl
  have u3 := frozen_of_row W6 w.heap.size 3 _ _ HZ6.out
  have z4 := row_of HZ6.out 4 (.slice none 0 0) rfl
  have u4 := frozen_of_row W6 w.heap.size 4 _ _ HZ6.out
  have z5 := row_of HZ6.out 5 (.slice none 0 0) rfl
  have u5 := frozen_of_row W6 w.heap.size 5 _ _ HZ6.out
  have HG7 : Hid (((((((W6.setCell ⟨w.heap.size, 0, none⟩ (.int .u8 m.t.status)).setCell ⟨w.heap.size, 1, none⟩ (.int .i64 m.t.steps)).setCell ⟨w.heap.size, 2, none⟩ (.slice xa2 m.t.outs.length xc2)).setCell ⟨w.heap.size, 3, none⟩ (.slice xa3 m.t.rels.length xc3)).setCell ⟨w.heap.size, 4, none⟩ (.slice xa4 m.t.brs.length xc4)).setCell ⟨w.heap.size, 5, none⟩ (.slice xa5 m.t.reads.length xc5)).heap[w.heap.size]? = some (.cells #[.int .u8 m.t.status, .int .i64 m.t.steps, .slice xa2 m.t.outs.length xc2, .slice xa3 m.t.rels.length xc3, .slice xa4 m.t.brs.length xc4, .slice xa5 m.t.reads.length xc5] 27 (0, 0))) := by
    show _ = _
    rw [heap_setCell_same _ _ _ _ _ _ (heap_setCell_same _ _ _ _ _ _ (heap_setCell_same _ _ _ _ _ _ (heap_setCell_same _ _ _ _ _ _ (heap_setCell_same _ _ _ _ _ _ (heap_setCell_same _ _ _ _ _ _ HZ6.out)))))]
    rfl
  have hoth : ∀ b, b ≠ w.heap.size → ((((((W6.setCell ⟨w.heap.size, 0, none⟩ (.int .u8 m.t.status)).setCell ⟨w.heap.size, 1, none⟩ (.int .i64 m.t.steps)).setCell ⟨w.heap.size, 2, none⟩ (.slice xa2 m.t.outs.length xc2)).setCell ⟨w.heap.size, 3, none⟩ (.slice xa3 m.t.rels.length xc3)).setCell ⟨w.heap.size, 4, none⟩ (.slice xa4 m.t.brs.length xc4)).setCell ⟨w.heap.size, 5, none⟩ (.slice xa5 m.t.reads.length xc5)).heap[b]? = W6.heap[b]? := fun b hb => by
    rw [heap_setCell_other _ _ _ _ (by simpa using hb), heap_setCell_other _ _ _ _ (by simpa using hb), heap_setCell_other _ _ _ _ (by simpa using hb), heap_setCell_other _ _ _ _ (by simpa using hb), heap_setCell_other _ _ _ _ (by simpa using hb), heap_setCell_other _ _ _ _ (by simpa using hb)]
  have HR7 : Hid (RdTrace (some (upFrom w.heap.size)) ((((((W6.setCell ⟨w.heap.size, 0, none⟩ (.int .u8 m.t.status)).setCell ⟨w.heap.size, 1, none⟩ (.int .i64 m.t.steps)).setCell ⟨w.heap.size, 2, none⟩ (.slice xa2 m.t.outs.length xc2)).setCell ⟨w.heap.size, 3, none⟩ (.slice xa3 m.t.rels.length xc3)).setCell ⟨w.heap.size, 4, none⟩ (.slice xa4 m.t.brs.length xc4)).setCell ⟨w.heap.size, 5, none⟩ (.slice xa5 m.t.reads.length xc5)) m.t (.slice xa2 m.t.outs.length xc2) (.slice xa3 m.t.rels.length xc3) (.slice xa4 m.t.brs.length xc4) (.slice xa5 m.t.reads.length xc5)) := by
    obtain ⟨h1, h2, h3, h4, h5⟩ := HR6.out
    have ho : ∀ b, upFrom (w.heap.size + 2) b → b < W6.heap.size → ((((((W6.setCell ⟨w.heap.size, 0, none⟩ (.int .u8 m.t.status)).setCell ⟨w.heap.size, 1, none⟩ (.int .i64 m.t.steps)).setCell ⟨w.heap.size, 2, none⟩ (.slice xa2 m.t.outs.length xc2)).setCell ⟨w.heap.size, 3, none⟩ (.slice xa3 m.t.rels.length xc3)).setCell ⟨w.heap.size, 4, none⟩ (.slice xa4 m.t.brs.length xc4)).setCell ⟨w.heap.size, 5, none⟩ (.slice xa5 m.t.reads.length xc5)).heap[b]? = W6.heap[b]? := fun b hb _ => hoth b (by have : w.heap.size + 2 ≤ b := hb; omega)
    have hup : ∀ b, b < W6.heap.size → upFrom (w.heap.size + 2) b → upFrom w.heap.size b := fun b _ hb => by have : w.heap.size + 2 ≤ b := hb; show w.heap.size ≤ b; omega
    exact ⟨h1.same ho hup, h2.same ho hup, h3.same ho hup, h4.same ho hup, h5⟩
  have HB7 : Hid (Below w.heap.size w ((((((W6.setCell ⟨w.heap.size, 0, none⟩ (.int .u8 m.t.status)).setCell ⟨w.heap.size, 1, none⟩ (.int .i64 m.t.steps)).setCell ⟨w.heap.size, 2, none⟩ (.slice xa2 m.t.outs.length xc2)).setCell ⟨w.heap.size, 3, none⟩ (.slice xa3 m.t.rels.length xc3)).setCell ⟨w.heap.size, 4, none⟩ (.slice xa4 m.t.brs.length xc4)).setCell ⟨w.heap.size, 5, none⟩ (.slice xa5 m.t.reads.length xc5))) := (((((HB6.out.setCell (Nat.le_refl _) _).setCell (Nat.le_refl _) _).setCell (Nat.le_refl _) _).setCell (Nat.le_refl _) _).setCell (Nat.le_refl _) _).setCell (Nat.le_refl _) _
  clear hoth
  go_wp2
  try simp only [Exit.inBlock, Exit.then]
  refine bodyPost_ret (v := traceV m.t (.slice xa2 m.t.outs.length xc2) (.slice xa3 m.t.rels.length xc3) (.slice xa4 m.t.brs.length xc4) (.slice xa5 m.t.reads.length xc5)) ?_ rfl ⟨_, _, _, _, rfl, HR7.out, HB7.out⟩
  exact results_cell_row (P := Tryd.prog) (fn := Tryd.f63) rfl _ _ w.heap.size 27 #[.int .u8 m.t.status, .int .i64 m.t.steps, .slice xa2 m.t.outs.length xc2, .slice xa3 m.t.rels.length xc3, .slice xa4 m.t.brs.length xc4, .slice xa5 m.t.reads.length xc5] (0, 0) _ rfl HG7.out Tryd.underlying27 rfl (by as_aux_lemma => kernel_rfl)
end Go.Proofs.YtkjkpddajjmloaaDoor
