/- Contracts of what the kinds of instructions do in the program, further on: operators, loads and stores, inputs and outputs. Conditions: the run lies at the pointer, and the instruction is one that may be done. -/
import Derived.Test.YtkjkpddajjmloaaDoorMMc
set_option linter.unusedVariables false
set_option linter.unusedSimpArgs false
namespace Go.Proofs.YtkjkpddajjmloaaDoor
open Go.ChangeShapes Go.WideShapes Go.ChangeAt Go.RowKit
theorem valM_in {m : MachD} {r : RefD} (hr : RefIn m r) (hv : ∀ x ∈ m.regs, InU64 x) : InU64 (valM m r) := by
  unfold valM
  split
  · exact hr.2.1
  · rename_i h
    have hlt : r.reg.toNat < m.regs.length := by have := hr.2.2; omega
    rw [List.getD_eq_getElem?_getD, List.getElem?_eq_getElem hlt]
    exact hv _ (List.getElem_mem hlt)
theorem nums_rd {W : World} {g c : Nat} {l : List Int} {cs : Array Value} (hg : W.heap[g]? = some (.cells cs 55 (0, 0))) (hc : l.length ≤ c) (hz : l.length ≤ 1000) (hl : ∀ (i : Nat) (x : Int), l[i]? = some x → cs[i]? = some (Value.int .u64 x)) (hv : ∀ x ∈ l, InU64 x) : RdRow kNum none W (.slice (some ⟨g, 0, none⟩) l.length c) l := by
  refine ⟨_, c, rfl, ⟨by show l.length * 8 ≤ _; omega, hc⟩, fun i x hx => ⟨g, 0, rfl, Free.none _ _ _, fun j u hj => ?_, hv x (List.mem_of_getElem? hx)⟩⟩
  have : j = 0 ∧ u = .int .u64 x := by
    cases j with
    | zero => simp [cellsNum] at hj; exact ⟨rfl, hj.symm⟩
    | succ j => simp [cellsNum] at hj
  obtain ⟨rfl, rfl⟩ := this
  have := row_of hg i _ (hl i x hx)
  simpa using this
theorem applyU (o : Int) (n : Nat) (v : Value) (l : List Int) (a b : Int) (w : World) (ho0 : 2 ≤ o) (ho1 : o ≤ 3) (h1 : 1 ≤ n) (h2 : n ≤ 64) (h : RdRow kNum none w v l) (hl : l = [a]) :
    Calls Tryd.prog 154 #[.int .u8 o, .int .i64 n, v] w fun e w' => e = .returned (.tuple #[.int .u64 (opZ o.toNat n a b), .int .i64 0]) ∧ Below w.heap.size w w' := by
  have : o = 2 ∨ o = 3 := by omega
  rcases this with rfl | rfl
  · exact wordApply12 n v l a b w h1 h2 h hl
  · exact wordApply13 n v l a b w h1 h2 h hl
set_option maxRecDepth 100000 in
set_option maxHeartbeats 1600000 in
theorem machApply {G I : Nat → Prop} {w : World} {bm : Nat} {f : FlatD} {ins : List (List Int)} {m : MachD} {c8 c9 c10 kv iv av ov rv bv : Value} {gb db : Nat} {bs : List Nat} (h : MachAt G I w bm f ins m c8 c9 c10 kv iv av ov rv bv gb db bs) (c : CodeD) (hl : m.regs.length ≤ 2097152) (hw1 : 1 ≤ f.width) (hw2 : f.width ≤ 64) (ha : RefIn m c.a) (hb' : RefIn m c.b) (hv : ∀ x ∈ m.regs, InU64 x) (ho0 : 2 ≤ c.op) (ho1 : c.op ≤ 20) (hd0 : 0 ≤ c.dst) (hd1 : c.dst < m.regs.length) :
    Calls Tryd.prog 144 #[.pointer (some ⟨bm, 0, none⟩), codeV c] w fun e w' => e = .returned (.tuple #[]) ∧ Post G w w' bm f ins (doM f ins c m 1) := by
  obtain ⟨ck, co, cd, cn, cra, crb⟩ := c
  obtain ⟨d, rfl⟩ : ∃ d : Nat, cd = d := ⟨cd.toNat, by simp only at hd0; omega⟩
  obtain ⟨n, hn⟩ : ∃ n : Nat, f.width = n := ⟨f.width.toNat, by omega⟩
  simp only at ha hb' hd0 hd1 ho0 ho1
  obtain ⟨x, hx⟩ : ∃ x, m.regs[d]? = some x := ⟨_, List.getElem?_eq_getElem (by omega)⟩
  have hn1 : 1 ≤ n := by omega
  have hn2 : n ≤ 64 := by omega
  have hres : Hid (doM f ins ⟨ck, co, d, cn, cra, crb⟩ m 1 = setR m d (opZ co.toNat n (valM m cra) (valM m crb))) := by show setR m d (opZ co.toNat f.width.toNat _ _) = _; rw [hn]; rfl
  have hia := valM_in ha hv
  have hib := valM_in hb' hv
  have hb : Below w.heap.size w (w.alloc (.cells #[.int .u8 ck, .int .u8 co, .int .i64 d, .int .i64 cn, .int .i64 cra.reg, .int .u64 cra.num, .int .i64 crb.reg, .int .u64 crb.num] 103)) := (Below.refl _ _).alloc (Nat.le_refl _) _
  have hgb := heap_alloc_new w (.cells #[.int .u8 ck, .int .u8 co, .int .i64 d, .int .i64 cn, .int .i64 cra.reg, .int .u64 cra.num, .int .i64 crb.reg, .int .u64 crb.num] 103)
  have h1 := h.keep hb
  have hlt : bm < w.heap.size := (Array.getElem?_eq_some_iff.1 h.box).1
  go_enter Tryd.func144, Tryd.ntmps144
  go_upto_region 1 with fail
  generalize w.alloc (.cells #[.int .u8 ck, .int .u8 co, .int .i64 d, .int .i64 cn, .int .i64 cra.reg, .int .u64 cra.num, .int .i64 crb.reg, .int .u64 crb.num] 103) = W at *
  have HB := Lib.hid hb
  have HG := Lib.hid hgb
  clear h hb hgb
  have l4 := ext_cell (row_of HG.out 4 _ rfl)
  have l5 := ext_cell (row_of HG.out 5 _ rfl)
  have l6 := ext_cell (row_of HG.out 6 _ rfl)
  have l7 := ext_cell (row_of HG.out 7 _ rfl)
  have H1 := Lib.hid h1
  have HV := Lib.hid (fun x => machValue (h1.keep (ext_below W x)) cra ha hl)
  have HV2 := Lib.hid (fun x => machValue (h1.keep (ext_below W x)) crb hb' hl)
  have HX := Lib.hid hx
  have HN := Lib.hid hn
  clear h1 hx ha hb' hn
  generalize valM m cra = va at *
  generalize valM m crb = vb at *
  (refine wp_region_calm_tail 8 (by kernel_rfl) (by kernel_rfl) ?_; simp only [List.take_succ_cons, List.take_zero, List.drop_succ_cons, List.drop_zero]; (repeat (go_big_quiet_step ((first | (go_at_call_of 153 (Value.int IntKind.i64 cra.reg); exact calls_calm (HV.out _)) | (go_at_call_of 153 (Value.int IntKind.i64 crb.reg); exact calls_calm (HV2.out _)))))); refine wpQuiet_nil ?_; intro wc hwc)
  go_upto_region 2 with fail
  have hal : Below wc.heap.size wc (wc.alloc (.cells #[.int .u64 va, .int .u64 vb] 55)) := (Below.refl _ _).alloc (Nat.le_refl _) _
  have hga := heap_alloc_new wc (.cells #[.int .u64 va, .int .u64 vb] 55)
  have hbW : Below W.heap.size W (wc.alloc (.cells #[.int .u64 va, .int .u64 vb] 55)) := bcomp hwc hal
  have H2 := Lib.hid (H1.out.keep hbW)
  have HG2 := Lib.hid ((hbW.block _ (Array.getElem?_eq_some_iff.1 HG.out).1).trans HG.out)
  have HB2 := Lib.hid (bcomp HB.out hbW)
  have hs1 : w.heap.size < W.heap.size := (Array.getElem?_eq_some_iff.1 HG.out).1
  have hs2 := hwc.size
  clear l4 l5 l6 l7 hwc hal hbW HV HV2
  generalize wc.heap.size = sb at *
  generalize wc.alloc (.cells #[.int .u64 va, .int .u64 vb] 55) = W2 at *
  have HGA := Lib.hid hga
  have e1 := row_of HG2.out 1 (.int .u8 co) rfl
  have l13 := keepS_cell (S := [bm, w.heap.size]) (by simp) (row_of H2.out.box 13 _ rfl)
  have l6 : ∀ x, (keepS W2 [bm, w.heap.size] x).cell? ⟨bm, 6, none⟩ = some (.int .i64 n) := keepS_cell (by simp) (by rw [← HN.out]; exact row_of H2.out.box 6 _ rfl)
  have j1 := keepS_cell (S := [bm, w.heap.size]) (by simp) (row_of HG2.out 1 (.int .u8 co) rfl)
  have j2 := keepS_cell (S := [bm, w.heap.size]) (by simp) (row_of HG2.out 2 (.int .i64 d) rfl)
  have hi : (d : Int) < (m.regs.length : Int) := hd1
  have HNE : Hid (bm ≠ gb ∧ w.heap.size ≠ gb) := ⟨row_ne H2.out.box H2.out.mem.regs (by decide), row_ne HG2.out H2.out.mem.regs (by decide)⟩
  clear hga
  have HF : Hid (∀ wf, Below W2.heap.size W2 wf → ∃ x, wf.cell? ⟨gb, d, none⟩ = some (.int .u64 x) ∧ wf.frozen? ⟨gb, d, none⟩ = false ∧ MachAt G I (wf.setCell ⟨gb, d, none⟩ (.int .u64 (opZ co.toNat n va vb))) bm f ins (setR m d (opZ co.toNat n va vb)) c8 c9 c10 kv iv av ov rv bv gb db bs ∧ Turn G w (wf.setCell ⟨gb, d, none⟩ (.int .u64 (opZ co.toNat n va vb)))) := by
    intro wf hwf
    have H3 := H2.out.keep hwf
    exact ⟨x, row_of H3.mem.regs d _ (u64s_get _ _ _ HX.out), frozen_of_row wf gb d _ _ H3.mem.regs, H3.setReg d _, ((Turn.of_below HB2.out).trans (Turn.of_below hwf)).setCell H3.mem.sep.1 _⟩
  by_cases ho3 : co ≤ 3
  · have HC := Lib.hid (fun w' (hb' : Below W2.heap.size W2 w') => applyU co n (.slice (some ⟨sb, 0, none⟩) 1 2) [va] va vb w' ho0 ho3 hn1 hn2 ((nums_rd (l := [va]) (c := 2) HGA.out (by simp) (by simp) (by intro i x hx; cases i with | zero => simpa using hx | succ i => simp at hx) (by intro x hx; rw [List.mem_singleton] at hx; subst hx; exact hia)).keep hb') rfl)
    have q : (co == 2) = true ∨ ((co == 2) = false ∧ (co == 3) = true) := by
      by_cases h2 : co = 2
      · exact .inl (by rw [h2]; rfl)
      · exact .inr ⟨by rw [beq_eq_false_iff_ne]; exact h2, by rw [show co = 3 by omega]; rfl⟩
    generalize opZ co.toNat n va vb = res at *
    rcases q with q | ⟨q, q'⟩
    all_goals
      go_upto_region 4 with fail
      refine wp_region_mixS [bm, w.heap.size] (.one [0, 1, 2, 3, 4, 5, 6, 7, 8, 9, 10, 11, 12, 13] 14 (.one [15, 16, 17, 18] 19 (.fin []))) (fun _ => false) (by kernel_rfl) (by kernel_rfl) rfl (by kernel_rfl) (fun _ d _ _ _ h => by cases d <;> exact h) ?_
      refine mix_one (by simp only [opsOf, List.filterMap_cons, List.filterMap_nil, List.getElem?_toArray, List.getElem?_cons_succ, List.getElem?_cons_zero]; rfl) ⟨_, keepS_of (fun _ _ => rfl)⟩ ?_
      change wpQuiet _ _ _ _ [_, _, _, _, _, _, _, _, _, _, _, _, _, _] _
      (repeat (go_big_quiet_step (fail)))
      refine wpQuiet_nil ?_
      refine mix_step rfl ?_
      go_wp2_with (go_at_call 154; refine (HC.out _ (Below.refl _ _).drew).mono ?_; rintro e w3 ⟨rfl, hb3⟩)
      have hwc := bcomp (Below.refl W2.heap.size W2).drew hb3
      have HK : ∀ b ∈ [bm, w.heap.size], w3.heap[b]? = W2.heap[b]? := by intro b hb; simp only [List.mem_cons, List.not_mem_nil, or_false] at hb; exact hwc.block b (by rcases hb with rfl | rfl; exact (Array.getElem?_eq_some_iff.1 H2.out.box).1; exact (Array.getElem?_eq_some_iff.1 HG2.out).1)
      refine ⟨fun _ => ⟨_, keepS_of HK⟩, ?_⟩
      refine mix_one (by simp only [opsOf, List.filterMap_cons, List.filterMap_nil, List.getElem?_toArray, List.getElem?_cons_succ, List.getElem?_cons_zero]; rfl) ⟨_, keepS_of HK⟩ ?_
      change wpQuiet _ _ _ _ [_, _, _, _] _
      (repeat (go_big_quiet_step (fail)))
      refine wpQuiet_nil ?_
      refine mix_step rfl ?_
      obtain ⟨y, cg, fg, HP, hT⟩ := HF.out w3 hwc
      have HP := Lib.hid HP
      have hT := Lib.hid hT
      clear l13 l6 j1 j2 hwc
      go_wp2_with fail
      refine ⟨⟨_, keepS_of (fun b hb => (heap_setCell_other _ _ _ _ (by intro e; simp only [List.mem_cons, List.not_mem_nil, or_false] at hb; rcases hb with rfl | rfl; exact HNE.out.1 e; exact HNE.out.2 e)).trans (HK b hb))⟩, ?_⟩
      refine mix_end ?_
      go_wp2_with fail
      go_end0
      exact ⟨rfl, by rw [hres.out]; exact post_of HP.out hT.out⟩
  · have HC := Lib.hid (fun w' (hb' : Below W2.heap.size W2 w') => wordApply2 co n (.slice (some ⟨sb, 0, none⟩) 2 2) [va, vb] va vb w' (by omega) ho1 hn1 hn2 ((nums_rd (l := [va, vb]) (c := 2) HGA.out (by simp) (by simp) (by intro i x hx; match i, hx with | 0, hx => simpa using hx | 1, hx => simpa using hx | (i + 2), hx => simp at hx) (by intro x hx; simp only [List.mem_cons, List.not_mem_nil, or_false] at hx; rcases hx with rfl | rfl; exact hia; exact hib)).keep hb') rfl)
    have q : (co == 2) = false := by rw [beq_eq_false_iff_ne]; omega
    have q' : (co == 3) = false := by rw [beq_eq_false_iff_ne]; omega
    generalize opZ co.toNat n va vb = res at *
    go_upto_region 4 with fail
    refine wp_region_mixS [bm, w.heap.size] (.one [0, 1, 2, 3, 4, 5, 6, 7, 8, 9, 10, 11, 12, 13] 14 (.one [15, 16, 17, 18] 19 (.fin []))) (fun _ => false) (by kernel_rfl) (by kernel_rfl) rfl (by kernel_rfl) (fun _ d _ _ _ h => by cases d <;> exact h) ?_
    refine mix_one (by simp only [opsOf, List.filterMap_cons, List.filterMap_nil, List.getElem?_toArray, List.getElem?_cons_succ, List.getElem?_cons_zero]; rfl) ⟨_, keepS_of (fun _ _ => rfl)⟩ ?_
    change wpQuiet _ _ _ _ [_, _, _, _, _, _, _, _, _, _, _, _, _, _] _
    (repeat (go_big_quiet_step (fail)))
    refine wpQuiet_nil ?_
    refine mix_step rfl ?_
    go_wp2_with (go_at_call 154; refine (HC.out _ (Below.refl _ _).drew).mono ?_; rintro e w3 ⟨rfl, hb3⟩)
    have hwc := bcomp (Below.refl W2.heap.size W2).drew hb3
    have HK : ∀ b ∈ [bm, w.heap.size], w3.heap[b]? = W2.heap[b]? := by intro b hb; simp only [List.mem_cons, List.not_mem_nil, or_false] at hb; exact hwc.block b (by rcases hb with rfl | rfl; exact (Array.getElem?_eq_some_iff.1 H2.out.box).1; exact (Array.getElem?_eq_some_iff.1 HG2.out).1)
    refine ⟨fun _ => ⟨_, keepS_of HK⟩, ?_⟩
    refine mix_one (by simp only [opsOf, List.filterMap_cons, List.filterMap_nil, List.getElem?_toArray, List.getElem?_cons_succ, List.getElem?_cons_zero]; rfl) ⟨_, keepS_of HK⟩ ?_
    change wpQuiet _ _ _ _ [_, _, _, _] _
    (repeat (go_big_quiet_step (fail)))
    refine wpQuiet_nil ?_
    refine mix_step rfl ?_
    obtain ⟨y, cg, fg, HP, hT⟩ := HF.out w3 hwc
    have HP := Lib.hid HP
    have hT := Lib.hid hT
    clear l13 l6 j1 j2 hwc
    go_wp2_with fail
    refine ⟨⟨_, keepS_of (fun b hb => (heap_setCell_other _ _ _ _ (by intro e; simp only [List.mem_cons, List.not_mem_nil, or_false] at hb; rcases hb with rfl | rfl; exact HNE.out.1 e; exact HNE.out.2 e)).trans (HK b hb))⟩, ?_⟩
    refine mix_end ?_
    go_wp2_with fail
    go_end0
    exact ⟨rfl, by rw [hres.out]; exact post_of HP.out hT.out⟩
end Go.Proofs.YtkjkpddajjmloaaDoor
