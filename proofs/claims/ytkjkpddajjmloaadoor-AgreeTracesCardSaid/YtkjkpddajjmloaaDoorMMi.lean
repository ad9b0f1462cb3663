/- Contract of the program's read of a run. Conditions: the run lies at the pointer, and the instruction is one that may be done. -/
import Derived.Test.YtkjkpddajjmloaaDoorMMh
set_option linter.unusedVariables false
set_option linter.unusedSimpArgs false
namespace Go.Proofs.YtkjkpddajjmloaaDoor
open Go.ChangeShapes Go.WideShapes Go.ChangeAt Go.RowKit
set_option maxRecDepth 100000 in
set_option maxHeartbeats 1600000 in
theorem machRead {G I : Nat → Prop} {w : World} {bm : Nat} {f : FlatD} {ins : List (List Int)} {m : MachD} {c8 c9 c10 kv iv av ov rv bv : Value} {gb db : Nat} {bs : List Nat} (h : MachAt G I w bm f ins m c8 c9 c10 kv iv av ov rv bv gb db bs) (c : CodeD) (hl : m.regs.length ≤ 2097152) (hw1 : 1 ≤ f.width) (hw2 : f.width ≤ 64) (hn0 : 0 ≤ c.n) (hn1 : c.n < m.t.reads.length) (hins : ins.length = m.t.reads.length) (hrd : ∀ x ∈ m.t.reads, 0 ≤ x ∧ x ≤ 1000000000) (hd0 : 0 ≤ c.dst) (hd1 : c.dst < m.regs.length) (hsz : m.t.reads.length ≤ 1000) :
    Calls Tryd.prog 147 #[.pointer (some ⟨bm, 0, none⟩), codeV c] w fun e w' => e = .returned (.tuple #[]) ∧ Post G w w' bm f ins (doM f ins c m 4) := by
  obtain ⟨ck, co, cd, cn, cra, crb⟩ := c
  obtain ⟨d, rfl⟩ : ∃ d : Nat, cd = d := ⟨cd.toNat, by simp only at hd0; omega⟩
  obtain ⟨n, rfl⟩ : ∃ n : Nat, cn = n := ⟨cn.toNat, by simp only at hn0; omega⟩
  obtain ⟨wd, hwd⟩ : ∃ wd : Nat, f.width = wd := ⟨f.width.toNat, by omega⟩
  simp only at hd0 hd1 hn0 hn1
  obtain ⟨y, hy⟩ : ∃ y, m.regs[d]? = some y := ⟨_, List.getElem?_eq_getElem (by omega)⟩
  obtain ⟨r, hr⟩ : ∃ r, m.t.reads[n]? = some r := ⟨_, List.getElem?_eq_getElem (by omega)⟩
  obtain ⟨hr0, hr1⟩ := hrd r (List.mem_of_getElem? hr)
  obtain ⟨q, rfl⟩ : ∃ q : Nat, r = q := ⟨r.toNat, by omega⟩
  obtain ⟨L, hL⟩ : ∃ L, ins[n]? = some L := ⟨_, List.getElem?_eq_getElem (by omega)⟩
  have hwd1 : 1 ≤ wd := by omega
  have hwd2 : wd ≤ 64 := by omega
  have hres : Hid (doM f ins ⟨ck, co, d, n, cra, crb⟩ m 4 = setR { m with t := { m.t with reads := m.t.reads.set n ((q : Int) + 1) } } d (match L[q]? with | some v => v % 2 ^ wd | none => 0)) := by
    show setR { m with t := { m.t with reads := m.t.reads.set (n : Int).toNat (m.t.reads.getD (n : Int).toNat 0 + 1) } } d (match inAt ins (n : Int).toNat (m.t.reads.getD (n : Int).toNat 0).toNat with | some v => v % 2 ^ f.width.toNat | none => 0) = _
    have e1 : m.t.reads.getD n 0 = (q : Int) := by rw [List.getD_eq_getElem?_getD, hr]; rfl
    rw [Int.toNat_natCast, e1, Int.toNat_natCast, inAt, hL, hwd]
    rfl
  have hb : Below w.heap.size w (w.alloc (.cells #[.int .u8 ck, .int .u8 co, .int .i64 d, .int .i64 n, .int .i64 cra.reg, .int .u64 cra.num, .int .i64 crb.reg, .int .u64 crb.num] 103)) := (Below.refl _ _).alloc (Nat.le_refl _) _
  have hgb := heap_alloc_new w (.cells #[.int .u8 ck, .int .u8 co, .int .i64 d, .int .i64 n, .int .i64 cra.reg, .int .u64 cra.num, .int .i64 crb.reg, .int .u64 crb.num] 103)
  have h1 := h.keep hb
  have hlt : bm < w.heap.size := (Array.getElem?_eq_some_iff.1 h.box).1
  go_enter Tryd.func147, Tryd.ntmps147
  go_upto_region 2 with fail
  generalize w.alloc (.cells #[.int .u8 ck, .int .u8 co, .int .i64 d, .int .i64 n, .int .i64 cra.reg, .int .u64 cra.num, .int .i64 crb.reg, .int .u64 crb.num] 103) = W at *
  have HB := Lib.hid hb
  have HG := Lib.hid hgb
  obtain ⟨ia, ic, rfl⟩ := h1.mem.ins.is
  have hLs := hL
  have c5 := row_of h1.box 5 _ rfl
  have k3 := row_of hgb 3 (.int .i64 n) rfl
  have cr := row_of h1.mem.reads n _ (i64s_get _ _ _ hr)
  have hi1 : (n : Int) < (m.t.reads.length : Int) := hn1
  have hi2 : (n : Int) < (ins.length : Int) := by omega
  have H1 := Lib.hid h1
  have HY := Lib.hid hy
  have HR := Lib.hid hr
  have HLL := Lib.hid hL
  have HWD := Lib.hid hwd
  clear h hb hgb h1 hy hr hrd hL hLs hwd
  go_quiet (fail)
  have H2 := Lib.hid (H1.out.keep (below_drewN (Below.refl W.heap.size W) nq))
  have HG2 : Hid ((W.drewN nq).heap[w.heap.size]? = _) := HG.out
  have HB2 := Lib.hid (below_drewN HB.out nq)
  clear c5 k3 cr
  generalize W.drewN nq = W2 at *
  go_upto_region 3 with fail
  have c12 := row_of H2.out.box 12 _ rfl
  have k3 := row_of HG2.out 3 (.int .i64 n) rfl
  obtain ⟨ib, io, la, lc, rfl, _, cI, hRL⟩ := H2.out.mem.ins.at HLL.out
  have hLsz := hRL.size
  have HRL := Lib.hid hRL
  clear hRL
  have HF : Hid (∀ (w5 : World) (v : Int), Below w.heap.size w w5 → Below W2.heap.size W2 w5 → True) := fun _ _ _ _ => trivial
  by_cases hlt : (q : Int) < (L.length : Int)
  · obtain ⟨v, hv⟩ : ∃ v, L[q]? = some v := ⟨_, List.getElem?_eq_getElem (by omega)⟩
    obtain ⟨vb, vo, rfl, _, cV, hvI⟩ := atNum HRL.out hv
    have HT := Lib.hid (fun w => wordTrim wd v hwd1 hwd2 hvI w)
    have hres2 : Hid (doM f ins ⟨ck, co, d, n, cra, crb⟩ m 4 = setR { m with t := { m.t with reads := m.t.reads.set n ((q : Int) + 1) } } d (v % 2 ^ wd)) := by show _ = _; rw [hres.out, hv]
    generalize v % 2 ^ wd = rv' at *
    have c6 : W2.cell? ⟨bm, 6, none⟩ = some (.int .i64 wd) := by rw [← HWD.out]; exact row_of H2.out.box 6 _ rfl
    clear hv hvI HRL HF
    go_quiet (fail)
    have HBa := below_drewN (Below.refl W2.heap.size W2) nq
    replace H2 := Lib.hid (H2.out.keep HBa)
    replace HG2 : Hid ((W2.drewN nq).heap[w.heap.size]? = _) := HG2.out
    replace HB2 := Lib.hid (below_drewN HB2.out nq)
    replace c12 : (W2.drewN nq).cell? _ = _ := c12
    replace cI : (W2.drewN nq).cell? _ = _ := cI
    replace k3 : (W2.drewN nq).cell? _ = _ := k3
    replace cV : (W2.drewN nq).cell? _ = _ := cV
    replace c6 : (W2.drewN nq).cell? _ = _ := c6
    clear HBa
    generalize W2.drewN nq = W2a at *
    go_upto_region 4 with fail
    go_quiet (first | (go_at_call 156; exact quiet_same (HT.out _)))
    go_upto_region 5 with fail
    have HBD := Lib.hid (below_drewN (Below.refl W2a.heap.size W2a) (nq))
    have H3 := Lib.hid (H2.out.keep HBD.out)
    have HG3 : Hid ((W2a.drewN (nq)).heap[w.heap.size]? = _) := HG2.out
    have HB3 := Lib.hid (below_drewN HB2.out (nq))
    clear c12 k3 cI cV c6
    generalize W2a.drewN (nq) = W3 at *
    have l5 := ext_cell (row_of H3.out.box 5 _ rfl)
    have k3 := ext_cell (row_of HG3.out 3 (.int .i64 n) rfl)
    have cr := ext_cell (row_of H3.out.mem.reads n _ (i64s_get _ _ _ HR.out))
    (refine wp_region_calm_tail 11 (by kernel_rfl) (by kernel_rfl) ?_; simp only [List.take_succ_cons, List.take_zero, List.drop_succ_cons, List.drop_zero]; (repeat (go_big_quiet_step (fail))); refine wpQuiet_nil ?_; intro wc hwc)
    have M4 := Lib.hid (H3.out.keep hwc)
    have cg := row_of M4.out.mem.reads n _ (i64s_get _ _ _ HR.out)
    have fg := frozen_of_row wc db n _ _ M4.out.mem.reads
    have HG4 := (hwc.block _ (Array.getElem?_eq_some_iff.1 HG3.out).1).trans HG3.out
    have hne : w.heap.size ≠ db := row_ne HG4 M4.out.mem.reads (by decide)
    have HG5 := Lib.hid ((heap_setCell_other wc ⟨db, n, none⟩ w.heap.size (.int .i64 ((q : Int) + 1)) (by simpa using hne)).trans HG4)
    have M5 := Lib.hid (M4.out.setRead n ((q : Int) + 1))
    have T5 : Hid (Turn G w (wc.setCell ⟨db, n, none⟩ (.int .i64 ((q : Int) + 1)))) := ((Turn.of_below HB3.out).trans (Turn.of_below hwc)).setCell M4.out.mem.sep.2.2.1 _
    have hS5 : Hid (w.heap.size ≤ (wc.setCell ⟨db, n, none⟩ (.int .i64 ((q : Int) + 1))).heap.size) := T5.out.size
    clear hwc l5 k3 cr HG4 hne
    go_upto_region 6 with fail
    clear cg fg
    generalize wc.setCell ⟨db, n, none⟩ (.int .i64 ((q : Int) + 1)) = w5 at *
    have l13 := ext_cell (row_of M5.out.box 13 _ rfl)
    have k2 := ext_cell (row_of HG5.out 2 (.int .i64 d) rfl)
    (refine wp_region_calm_tail 7 (by kernel_rfl) (by kernel_rfl) ?_; simp only [List.take_succ_cons, List.take_zero, List.drop_succ_cons, List.drop_zero]; (repeat (go_big_quiet_step (fail))); refine wpQuiet_nil ?_; intro wc hwc)
    have M6 := M5.out.keep hwc
    have cg := row_of M6.mem.regs d _ (u64s_get _ _ _ HY.out)
    have fg := frozen_of_row wc gb d _ _ M6.mem.regs
    have HP := Lib.hid (M6.setReg d (rv'))
    have hT : Hid (Turn G w (wc.setCell ⟨gb, (d : Int).toNat, none⟩ (.int .u64 (rv')))) := (T5.out.trans (Turn.of_below hwc)).setCell M6.mem.sep.1 _
    have hi' : (d : Int) < (m.regs.length : Int) := hd1
    clear M6 hwc l13 k2
    go_wp2
    go_end0
    exact ⟨rfl, by rw [hres2.out]; exact post_of HP.out hT.out⟩
  · have hres2 : Hid (doM f ins ⟨ck, co, d, n, cra, crb⟩ m 4 = setR { m with t := { m.t with reads := m.t.reads.set n ((q : Int) + 1) } } d 0) := by show _ = _; rw [hres.out, List.getElem?_eq_none (by omega)]
    have hge : (L.length : Int) ≤ (q : Int) := by omega
    go_quiet (fail)
    go_upto_region 5 with fail
    have HBD := Lib.hid (below_drewN (Below.refl W2.heap.size W2) (nq))
    have H3 := Lib.hid (H2.out.keep HBD.out)
    have HG3 : Hid ((W2.drewN (nq)).heap[w.heap.size]? = _) := HG2.out
    have HB3 := Lib.hid (below_drewN HB2.out (nq))
    clear c12 k3 cI
    generalize W2.drewN (nq) = W3 at *
    have l5 := ext_cell (row_of H3.out.box 5 _ rfl)
    have k3 := ext_cell (row_of HG3.out 3 (.int .i64 n) rfl)
    have cr := ext_cell (row_of H3.out.mem.reads n _ (i64s_get _ _ _ HR.out))
    (refine wp_region_calm_tail 11 (by kernel_rfl) (by kernel_rfl) ?_; simp only [List.take_succ_cons, List.take_zero, List.drop_succ_cons, List.drop_zero]; (repeat (go_big_quiet_step (fail))); refine wpQuiet_nil ?_; intro wc hwc)
    have M4 := Lib.hid (H3.out.keep hwc)
    have cg := row_of M4.out.mem.reads n _ (i64s_get _ _ _ HR.out)
    have fg := frozen_of_row wc db n _ _ M4.out.mem.reads
    have HG4 := (hwc.block _ (Array.getElem?_eq_some_iff.1 HG3.out).1).trans HG3.out
    have hne : w.heap.size ≠ db := row_ne HG4 M4.out.mem.reads (by decide)
    have HG5 := Lib.hid ((heap_setCell_other wc ⟨db, n, none⟩ w.heap.size (.int .i64 ((q : Int) + 1)) (by simpa using hne)).trans HG4)
    have M5 := Lib.hid (M4.out.setRead n ((q : Int) + 1))
    have T5 : Hid (Turn G w (wc.setCell ⟨db, n, none⟩ (.int .i64 ((q : Int) + 1)))) := ((Turn.of_below HB3.out).trans (Turn.of_below hwc)).setCell M4.out.mem.sep.2.2.1 _
    have hS5 : Hid (w.heap.size ≤ (wc.setCell ⟨db, n, none⟩ (.int .i64 ((q : Int) + 1))).heap.size) := T5.out.size
    clear hwc l5 k3 cr HG4 hne
    go_upto_region 6 with fail
    clear cg fg
    generalize wc.setCell ⟨db, n, none⟩ (.int .i64 ((q : Int) + 1)) = w5 at *
    have l13 := ext_cell (row_of M5.out.box 13 _ rfl)
    have k2 := ext_cell (row_of HG5.out 2 (.int .i64 d) rfl)
    (refine wp_region_calm_tail 7 (by kernel_rfl) (by kernel_rfl) ?_; simp only [List.take_succ_cons, List.take_zero, List.drop_succ_cons, List.drop_zero]; (repeat (go_big_quiet_step (fail))); refine wpQuiet_nil ?_; intro wc hwc)
    have M6 := M5.out.keep hwc
    have cg := row_of M6.mem.regs d _ (u64s_get _ _ _ HY.out)
    have fg := frozen_of_row wc gb d _ _ M6.mem.regs
    have HP := Lib.hid (M6.setReg d (0))
    have hT : Hid (Turn G w (wc.setCell ⟨gb, (d : Int).toNat, none⟩ (.int .u64 (0)))) := (T5.out.trans (Turn.of_below hwc)).setCell M6.mem.sep.1 _
    have hi' : (d : Int) < (m.regs.length : Int) := hd1
    clear M6 hwc l13 k2
    go_wp2
    go_end0
    exact ⟨rfl, by rw [hres2.out]; exact post_of HP.out hT.out⟩
end Go.Proofs.YtkjkpddajjmloaaDoor
