/- Contract of the copy of a program: what comes back reads as what came in, in new memory, and nothing that was there is written. Condition: what comes in reads as the program. -/
import Derived.Test.YtjdbdoeopobciaaDoorKitD
set_option linter.unusedVariables false
set_option linter.unusedSimpArgs false
namespace Go.Proofs.YtjdbdoeopobciaaDoor
open Go.ChangeShapes Go.WideShapes Go.ChangeAt Go.RowKit
set_option maxRecDepth 100000 in
set_option maxHeartbeats 3200000 in
theorem copyProg (p : ProgD) (cv av fv mv : Value) (w : World) (h : RdProg none w p cv av fv mv) :
    Calls Tryd.prog 12 #[progV p cv av fv mv] w fun e w' => ∃ cv' av' fv' mv' m, e = .returned (progV p cv' av' fv' mv') ∧
      RdStrs (some (within w.heap.size m)) w' cv' p.chans ∧ RdArrs (some (within w.heap.size m)) w' av' p.arrays ∧ RdFuncs (some (within w.heap.size m)) w' fv' p.funcs ∧ RdInstrs (some (upFrom m)) w' mv' p.main ∧ w.heap.size ≤ m ∧ Below w.heap.size w w' := by
  obtain ⟨h1, h2, h3, h4, hrest⟩ := h
  have H1 := Lib.hid h1
  have H2 := Lib.hid h2
  have H3 := Lib.hid h3
  have H4 := Lib.hid h4
  clear h1 h2 h3 h4 hrest
  go_enter Tryd.func12, Tryd.ntmps12
  go_wp2_with fail
  have hb0 : Below w.heap.size w ((w.alloc (.cells #[.int .i64 p.width, cv, av, fv, mv] 27)).alloc (.cells #[.int .i64 0, .slice none 0 0, .slice none 0 0, .slice none 0 0, .slice none 0 0] 27)) := (((Below.refl _ _).alloc (Nat.le_refl _) _).alloc (by simp) _)
  have g0 := heap_alloc2_old w (.cells #[.int .i64 p.width, cv, av, fv, mv] 27) (.cells #[.int .i64 0, .slice none 0 0, .slice none 0 0, .slice none 0 0, .slice none 0 0] 27)
  have g1 := heap_alloc2_new w (.cells #[.int .i64 p.width, cv, av, fv, mv] 27) (.cells #[.int .i64 0, .slice none 0 0, .slice none 0 0, .slice none 0 0, .slice none 0 0] 27)
  generalize ((w.alloc (.cells #[.int .i64 p.width, cv, av, fv, mv] 27)).alloc (.cells #[.int .i64 0, .slice none 0 0, .slice none 0 0, .slice none 0 0, .slice none 0 0] 27)) = W0 at *
  have c1 := row_of g0 1 cv rfl
  have c2 := row_of g0 2 av rfl
  have c3 := row_of g0 3 fv rfl
  have c4 := row_of g0 4 mv rfl
  have f1 := frozen_of_row W0 _ 1 _ _ g0
  have f2 := frozen_of_row W0 _ 2 _ _ g0
  have f3 := frozen_of_row W0 _ 3 _ _ g0
  have f4 := frozen_of_row W0 _ 4 _ _ g0
  have G0 := Lib.hid g0
  have G1 := Lib.hid g1
  clear g0 g1
  refine wp_region_plan (fun w' => w'.cell? ⟨w.heap.size, 1, none⟩ = some cv ∧ w'.cell? ⟨w.heap.size, 2, none⟩ = some av ∧ w'.cell? ⟨w.heap.size, 3, none⟩ = some fv ∧ w'.cell? ⟨w.heap.size, 4, none⟩ = some mv ∧ Below W0.heap.size W0 w') (fun j => decide (13 ≤ j)) [(0, true), (1, true), (3, true), (4, true), (6, true), (7, true), (9, true), (10, true), (2, false), (12, true), (5, false), (8, false), (11, false), (13, false), (14, false), (15, false), (16, false), (17, false), (18, false), (19, false)] (by kernel_rfl) (by kernel_rfl) rfl (by kernel_rfl) (fun _ d _ _ _ h => by cases d <;> exact h) ?_
  have hS : W0.drew.cell? ⟨w.heap.size, 1, none⟩ = some cv ∧ W0.drew.cell? ⟨w.heap.size, 2, none⟩ = some av ∧ W0.drew.cell? ⟨w.heap.size, 3, none⟩ = some fv ∧ W0.drew.cell? ⟨w.heap.size, 4, none⟩ = some mv ∧ Below W0.heap.size W0 W0.drew := ⟨c1, c2, c3, c4, (Below.refl _ _).drew⟩
  refine ⟨.pointer (some ⟨w.heap.size, 1, none⟩), _, rfl, .inl ⟨rfl, fun w' hw => by go_simp⟩, hS, ?_⟩
  refine ⟨cv, _, rfl, .inl ⟨rfl, fun w' hw => by obtain ⟨e1, e2, e3, e4, _⟩ := hw; go_simp⟩, hS, ?_⟩
  refine ⟨.pointer (some ⟨w.heap.size, 2, none⟩), _, rfl, .inl ⟨rfl, fun w' hw => by go_simp⟩, hS, ?_⟩
  refine ⟨av, _, rfl, .inl ⟨rfl, fun w' hw => by obtain ⟨e1, e2, e3, e4, _⟩ := hw; go_simp⟩, hS, ?_⟩
  refine ⟨.pointer (some ⟨w.heap.size, 3, none⟩), _, rfl, .inl ⟨rfl, fun w' hw => by go_simp⟩, hS, ?_⟩
  refine ⟨fv, _, rfl, .inl ⟨rfl, fun w' hw => by obtain ⟨e1, e2, e3, e4, _⟩ := hw; go_simp⟩, hS, ?_⟩
  refine ⟨.pointer (some ⟨w.heap.size, 4, none⟩), _, rfl, .inl ⟨rfl, fun w' hw => by go_simp⟩, hS, ?_⟩
  refine ⟨mv, _, rfl, .inl ⟨rfl, fun w' hw => by obtain ⟨e1, e2, e3, e4, _⟩ := hw; go_simp⟩, hS, ?_⟩
  refine plan_step rfl ?_
  go_wp2_with (go_at_call 29; refine (copyStrs _ p.chans _ (H1.out.keep hb0.drew)).mono ?_; rintro e w1 ⟨v1, rfl, hr1, hb1⟩; obtain ⟨a1, k1, rfl, _⟩ := id hr1)
  have hb1' : Below W0.heap.size W0 w1 := (Below.refl _ _).drew.trans hb1
  have hS1 : w1.cell? ⟨w.heap.size, 1, none⟩ = some cv ∧ w1.cell? ⟨w.heap.size, 2, none⟩ = some av ∧ w1.cell? ⟨w.heap.size, 3, none⟩ = some fv ∧ w1.cell? ⟨w.heap.size, 4, none⟩ = some mv ∧ Below W0.heap.size W0 w1 := ⟨cell_keep hb1' c1, cell_keep hb1' c2, cell_keep hb1' c3, cell_keep hb1' c4, hb1'⟩
  refine ⟨fun _ => hS1, ?_⟩
  refine ⟨.pointer (some ⟨w.heap.size, 1, none⟩), _, rfl, .inl ⟨rfl, fun w' hw => by go_simp⟩, hS1, ?_⟩
  refine plan_step rfl ?_
  go_wp2_with (go_at_call 30; refine (copyArrs _ p.arrays _ (H2.out.keep (bcomp hb0 hb1'))).mono ?_; rintro e w2 ⟨v2, rfl, hr2, hb2⟩; obtain ⟨a2, k2, rfl, _⟩ := id hr2)
  have hb2' : Below W0.heap.size W0 w2 := bcomp hb1' hb2
  have hS2 : w2.cell? ⟨w.heap.size, 1, none⟩ = some cv ∧ w2.cell? ⟨w.heap.size, 2, none⟩ = some av ∧ w2.cell? ⟨w.heap.size, 3, none⟩ = some fv ∧ w2.cell? ⟨w.heap.size, 4, none⟩ = some mv ∧ Below W0.heap.size W0 w2 := ⟨cell_keep hb2' c1, cell_keep hb2' c2, cell_keep hb2' c3, cell_keep hb2' c4, hb2'⟩
  refine ⟨fun _ => hS2, ?_⟩
  refine plan_step rfl ?_
  go_wp2_with (go_at_call 32; refine (copyFuncs _ p.funcs _ (H3.out.keep (bcomp hb0 hb2'))).mono ?_; rintro e w3 ⟨v3, rfl, hr3, hb3⟩; obtain ⟨a3, k3, rfl, _⟩ := id hr3)
  have hb3' : Below W0.heap.size W0 w3 := bcomp hb2' hb3
  have hS3 : w3.cell? ⟨w.heap.size, 1, none⟩ = some cv ∧ w3.cell? ⟨w.heap.size, 2, none⟩ = some av ∧ w3.cell? ⟨w.heap.size, 3, none⟩ = some fv ∧ w3.cell? ⟨w.heap.size, 4, none⟩ = some mv ∧ Below W0.heap.size W0 w3 := ⟨cell_keep hb3' c1, cell_keep hb3' c2, cell_keep hb3' c3, cell_keep hb3' c4, hb3'⟩
  refine ⟨fun _ => hS3, ?_⟩
  refine plan_step rfl ?_
  go_wp2_with (go_at_call 33; refine (copyInstrs _ p.main _ (H4.out.keep (bcomp hb0 hb3'))).mono ?_; rintro e w4 ⟨v4, rfl, hr4, hb4⟩; obtain ⟨a4, k4, rfl, _⟩ := id hr4)
  have hb4' : Below W0.heap.size W0 w4 := bcomp hb3' hb4
  have hS4 : w4.cell? ⟨w.heap.size, 1, none⟩ = some cv ∧ w4.cell? ⟨w.heap.size, 2, none⟩ = some av ∧ w4.cell? ⟨w.heap.size, 3, none⟩ = some fv ∧ w4.cell? ⟨w.heap.size, 4, none⟩ = some mv ∧ Below W0.heap.size W0 w4 := ⟨cell_keep hb4' c1, cell_keep hb4' c2, cell_keep hb4' c3, cell_keep hb4' c4, hb4'⟩
  refine ⟨fun _ => hS4, ?_⟩
  have hlt : w.heap.size + 1 < W0.heap.size := (Array.getElem?_eq_some_iff.1 G1.out).1
  have d1 := cell_keep hb4' c1
  have d2 := cell_keep hb4' c2
  have d3 := cell_keep hb4' c3
  have d4 := cell_keep hb4' c4
  have e1 := free_keep hb4' c1 f1
  have e2 := free_keep hb4' c2 f2
  have e3 := free_keep hb4' c3 f3
  have e4 := free_keep hb4' c4 f4
  clear hS hS1 hS2 hS3 hS4
  have g0 := (hb4'.block _ (by omega)).trans G0.out
  have g1 := (hb4'.block _ hlt).trans G1.out
  have I0 := Lib.hid (heap_setCell_same _ _ 4 _ _ (.slice a4 p.main.length k4) (heap_setCell_same _ _ 3 _ _ (.slice a3 p.funcs.length k3) (heap_setCell_same _ _ 2 _ _ (.slice a2 p.arrays.length k2) (heap_setCell_same _ _ 1 _ _ (.slice a1 p.chans.length k1) g0))))
  have I1 : Hid (((((w4.setCell ⟨w.heap.size, 1, none⟩ (.slice a1 p.chans.length k1)).setCell ⟨w.heap.size, 2, none⟩ (.slice a2 p.arrays.length k2)).setCell ⟨w.heap.size, 3, none⟩ (.slice a3 p.funcs.length k3)).setCell ⟨w.heap.size, 4, none⟩ (.slice a4 p.main.length k4)).heap[w.heap.size + 1]? = some (.cells #[.int .i64 0, .slice none 0 0, .slice none 0 0, .slice none 0 0, .slice none 0 0] 27 (0, 0))) := by
    show _ = _
    rw [heap_setCell_other _ _ _ _ (by simp), heap_setCell_other _ _ _ _ (by simp), heap_setCell_other _ _ _ _ (by simp), heap_setCell_other _ _ _ _ (by simp)]
    exact g1
  have J := Lib.hid (And.intro hr1 (And.intro hr2 (And.intro hr3 (And.intro hr4 (And.intro hb1 (And.intro hb2 (And.intro hb3 (And.intro hb4 (And.intro hb4' hlt)))))))))
  clear g0 g1 c1 c2 c3 c4 f1 f2 f3 f4 hr1 hr2 hr3 hr4 hb1 hb2 hb3 hb4 hb1' hb2' hb3' hb4' hlt
  refine plan_tail [13, 14, 15, 16, 17, 18, 19] [_, _, _, _, _, _, _] _ _ rfl rfl ?_
  go_wp2_with (first
    | (refine wpList_load_row rfl 27 (.tmp 1) rfl w.heap.size rfl 27 #[.int .i64 p.width, .slice a1 p.chans.length k1, .slice a2 p.arrays.length k2, .slice a3 p.funcs.length k3, .slice a4 p.main.length k4] (0,0) _ ?h Tryd.underlying27 rfl ?s ?_; exact I0.out; kernel_rfl)
    | (refine wpList_store_row rfl 27 (.tmp 2) (.tmp 19) rfl (w.heap.size + 1) #[.int .i64 p.width, .slice a1 p.chans.length k1, .slice a2 p.arrays.length k2, .slice a3 p.funcs.length k3, .slice a4 p.main.length k4] rfl rfl 27 #[.int .i64 0, .slice none 0 0, .slice none 0 0, .slice none 0 0, .slice none 0 0] ?h2 ?s2 ?s3 ?s4 ?_; exact I1.out; kernel_rfl; kernel_rfl; kernel_rfl))
  obtain ⟨hr1, hr2, hr3, hr4, hb1, hb2, hb3, hb4, hb4', hlt⟩ := J.out
  have hn : w.heap.size ≤ W0.heap.size := hb0.size
  have n1 : W0.heap.size ≤ w1.heap.size := hb1.size
  have n2 := hb2.size
  have n3 := hb3.size
  have n4 := hb4.size
  have hfr : ∀ b, W0.heap.size ≤ b → (((((w4.setCell ⟨w.heap.size, 1, none⟩ (.slice a1 p.chans.length k1)).setCell ⟨w.heap.size, 2, none⟩ (.slice a2 p.arrays.length k2)).setCell ⟨w.heap.size, 3, none⟩ (.slice a3 p.funcs.length k3)).setCell ⟨w.heap.size, 4, none⟩ (.slice a4 p.main.length k4)).setRow (w.heap.size + 1) #[.int .i64 p.width, .slice a1 p.chans.length k1, .slice a2 p.arrays.length k2, .slice a3 p.funcs.length k3, .slice a4 p.main.length k4]).heap[b]? = w4.heap[b]? := fun b hb => by
    rw [setRow_other _ _ _ _ (by omega), heap_setCell_other _ _ _ _ (by simp; omega), heap_setCell_other _ _ _ _ (by simp; omega), heap_setCell_other _ _ _ _ (by simp; omega), heap_setCell_other _ _ _ _ (by simp; omega)]
  refine bodyPost_ret (v := progV p (.slice a1 p.chans.length k1) (.slice a2 p.arrays.length k2) (.slice a3 p.funcs.length k3) (.slice a4 p.main.length k4)) ?_ rfl ⟨_, _, _, _, w3.heap.size, rfl, ?_, ?_, ?_, ?_, by omega, below_row ((((((hb0.trans (hb4'.mono hn)).setCell (by simp) _).setCell (by simp) _).setCell (by simp) _).setCell (by simp) _)) (by simp) _⟩
  · exact results_cell_row (P := Tryd.prog) (fn := Tryd.f12) rfl _ _ (w.heap.size + 1) 27 _ (0,0) _ rfl (setRow_heap _ _ _ _ _ _ I1.out) Tryd.underlying27 rfl (by kernel_rfl)
  · exact RdStrs.same (g := within W0.heap.size w3.heap.size) ((RdStrs.same (g' := within W0.heap.size w3.heap.size) ((hr1.keep hb2).keep hb3) (fun _ _ _ => rfl) (fun b h1 h2 => ⟨h2, h1⟩)).keep hb4) (fun b hb _ => hfr b hb.1) (fun b _ hb => ⟨Nat.le_trans hn hb.1, hb.2⟩)
  · exact RdArrs.same (g := within W0.heap.size w3.heap.size) ((RdArrs.same (g' := within W0.heap.size w3.heap.size) (hr2.keep hb3) (fun _ _ _ => rfl) (fun b h1 h2 => ⟨Nat.le_trans n1 h2, h1⟩)).keep hb4) (fun b hb _ => hfr b hb.1) (fun b _ hb => ⟨Nat.le_trans hn hb.1, hb.2⟩)
  · exact RdFuncs.same (g := within W0.heap.size w3.heap.size) ((RdFuncs.same (g' := within W0.heap.size w3.heap.size) hr3 (fun _ _ _ => rfl) (fun b h1 h2 => ⟨Nat.le_trans n1 (Nat.le_trans n2 h2), h1⟩)).keep hb4) (fun b hb _ => hfr b hb.1) (fun b _ hb => ⟨Nat.le_trans hn hb.1, hb.2⟩)
  · exact RdInstrs.same hr4 (fun b hb _ => hfr b (by unfold upFrom at hb; omega)) (fun b _ hb => hb)
end Go.Proofs.YtjdbdoeopobciaaDoor
