/- Contracts of the copies of functions and programs: what comes back reads as what came in, in new memory, and nothing that was there is written. Condition: what comes in reads as the function, the program. -/
import Derived.Test.YtjdbdoeopobciaaDoorKitC
import Derived.Test.YtjdbdoeopobciaaDoorReg
set_option linter.unusedVariables false
set_option linter.unusedSimpArgs false
namespace Go.Proofs.YtjdbdoeopobciaaDoor
open Go.ChangeShapes Go.WideShapes Go.ChangeAt Go.RowKit
set_option maxRecDepth 100000 in
set_option maxHeartbeats 3200000 in
theorem copyFunc (x : FuncD) (pv cv : Value) (w : World) (h : RdFunc none w x pv cv) :
    Calls Tryd.prog 56 #[funcV x pv cv] w fun e w' => ∃ pv' cv', e = .returned (funcV x pv' cv') ∧ RdFunc (some (upFrom w.heap.size)) w' x pv' cv' ∧ Below w.heap.size w w' := by
  obtain ⟨h1, h2, hrest⟩ := h
  have H1 := Lib.hid h1
  have H2 := Lib.hid h2
  clear h1 h2
  go_enter Tryd.func56, Tryd.ntmps56
  go_wp2_with fail
  have hb0 : Below w.heap.size w ((w.alloc (.cells #[.string x.name, pv, cv, .int .i64 x.line, .int .i64 x.col] 52)).alloc (.cells #[.string ⟨#[]⟩, .slice none 0 0, .slice none 0 0, .int .i64 0, .int .i64 0] 52)) := (((Below.refl _ _).alloc (Nat.le_refl _) _).alloc (by simp) _)
  have g0 := heap_alloc2_old w (.cells #[.string x.name, pv, cv, .int .i64 x.line, .int .i64 x.col] 52) (.cells #[.string ⟨#[]⟩, .slice none 0 0, .slice none 0 0, .int .i64 0, .int .i64 0] 52)
  have g1 := heap_alloc2_new w (.cells #[.string x.name, pv, cv, .int .i64 x.line, .int .i64 x.col] 52) (.cells #[.string ⟨#[]⟩, .slice none 0 0, .slice none 0 0, .int .i64 0, .int .i64 0] 52)
  generalize ((w.alloc (.cells #[.string x.name, pv, cv, .int .i64 x.line, .int .i64 x.col] 52)).alloc (.cells #[.string ⟨#[]⟩, .slice none 0 0, .slice none 0 0, .int .i64 0, .int .i64 0] 52)) = W0 at *
  have c1 := row_of g0 1 pv rfl
  have c2 := row_of g0 2 cv rfl
  have f1 := frozen_of_row W0 _ 1 _ _ g0
  have f2 := frozen_of_row W0 _ 2 _ _ g0
  have G0 := Lib.hid g0
  have G1 := Lib.hid g1
  clear g0 g1
  refine wp_region_plan (fun w' => w'.cell? ⟨w.heap.size, 1, none⟩ = some pv ∧ w'.cell? ⟨w.heap.size, 2, none⟩ = some cv ∧ Below W0.heap.size W0 w') (fun j => decide (7 ≤ j)) [(0, true), (1, true), (3, true), (4, true), (2, false), (6, true), (5, false), (7, false), (8, false), (9, false)] (by kernel_rfl) (by kernel_rfl) rfl (by kernel_rfl) (fun _ d _ _ _ h => by cases d <;> exact h) ?_
  have hS : W0.drew.cell? ⟨w.heap.size, 1, none⟩ = some pv ∧ W0.drew.cell? ⟨w.heap.size, 2, none⟩ = some cv ∧ Below W0.heap.size W0 W0.drew := ⟨c1, c2, (Below.refl _ _).drew⟩
  refine ⟨.pointer (some ⟨w.heap.size, 1, none⟩), _, rfl, .inl ⟨rfl, fun w' hw => by go_simp⟩, hS, ?_⟩
  refine ⟨pv, _, rfl, .inl ⟨rfl, fun w' hw => by obtain ⟨e1, e2, _⟩ := hw; go_simp⟩, hS, ?_⟩
  refine ⟨.pointer (some ⟨w.heap.size, 2, none⟩), _, rfl, .inl ⟨rfl, fun w' hw => by go_simp⟩, hS, ?_⟩
  refine ⟨cv, _, rfl, .inl ⟨rfl, fun w' hw => by obtain ⟨e1, e2, _⟩ := hw; go_simp⟩, hS, ?_⟩
  refine plan_step rfl ?_
  go_wp2_with (go_at_call 29; refine (copyStrs _ x.params _ (H1.out.keep hb0.drew)).mono ?_; rintro e w1 ⟨v1, rfl, hr1, hb1⟩; obtain ⟨a1, k1, rfl, _⟩ := id hr1)
  have hb1' : Below W0.heap.size W0 w1 := (Below.refl _ _).drew.trans hb1
  have hS1 : w1.cell? ⟨w.heap.size, 1, none⟩ = some pv ∧ w1.cell? ⟨w.heap.size, 2, none⟩ = some cv ∧ Below W0.heap.size W0 w1 := ⟨cell_keep hb1' c1, cell_keep hb1' c2, hb1'⟩
  refine ⟨fun _ => hS1, ?_⟩
  refine ⟨.pointer (some ⟨w.heap.size, 1, none⟩), _, rfl, .inl ⟨rfl, fun w' hw => by go_simp⟩, hS1, ?_⟩
  refine plan_step rfl ?_
  go_wp2_with (go_at_call 33; refine (copyInstrs _ x.code _ (H2.out.keep (bcomp hb0 hb1'))).mono ?_; rintro e w2 ⟨v2, rfl, hr2, hb2⟩; obtain ⟨a2, k2, rfl, _⟩ := id hr2)
  have hb2' : Below W0.heap.size W0 w2 := bcomp hb1' hb2
  have d1 := cell_keep hb2' c1
  have d2 := cell_keep hb2' c2
  have e1 := free_keep hb2' c1 f1
  have e2 := free_keep hb2' c2 f2
  have hS2 : w2.cell? ⟨w.heap.size, 1, none⟩ = some pv ∧ w2.cell? ⟨w.heap.size, 2, none⟩ = some cv ∧ Below W0.heap.size W0 w2 := ⟨d1, d2, hb2'⟩
  refine ⟨fun _ => hS2, ?_⟩
  clear hS hS1 hS2
  have hlt : w.heap.size + 1 < W0.heap.size := (Array.getElem?_eq_some_iff.1 G1.out).1
  have g0 := (hb2'.block _ (by omega)).trans G0.out
  have g1 := (hb2'.block _ hlt).trans G1.out
  have I0 := Lib.hid (heap_setCell_same _ _ 2 _ _ (.slice a2 x.code.length k2) (heap_setCell_same _ _ 1 _ _ (.slice a1 x.params.length k1) g0))
  have I1 := Lib.hid ((heap_setCell_other _ ⟨w.heap.size, 2, none⟩ (w.heap.size + 1) (.slice a2 x.code.length k2) (by simp)).trans ((heap_setCell_other w2 ⟨w.heap.size, 1, none⟩ (w.heap.size + 1) (.slice a1 x.params.length k1) (by simp)).trans g1))
  have J := Lib.hid (And.intro hr1 (And.intro hr2 (And.intro hb1 (And.intro hb2 (And.intro hb2' hlt)))))
  clear g0 g1 c1 c2 f1 f2 hr1 hr2 hb1 hb2 hb1' hb2' hlt
  refine plan_tail [7, 8, 9] [_, _, _] _ _ rfl rfl ?_
  go_wp2_with (first
    | (refine wpList_load_row rfl 52 (.tmp 1) rfl w.heap.size rfl 52 #[.string x.name, .slice a1 x.params.length k1, .slice a2 x.code.length k2, .int .i64 x.line, .int .i64 x.col] (0,0) _ ?h Tryd.underlying52 rfl ?s ?_; exact I0.out; kernel_rfl)
    | (refine wpList_store_row rfl 52 (.tmp 2) (.tmp 11) rfl (w.heap.size + 1) #[.string x.name, .slice a1 x.params.length k1, .slice a2 x.code.length k2, .int .i64 x.line, .int .i64 x.col] rfl rfl 52 #[.string ⟨#[]⟩, .slice none 0 0, .slice none 0 0, .int .i64 0, .int .i64 0] ?h2 ?s2 ?s3 ?s4 ?_; exact I1.out; kernel_rfl; kernel_rfl; kernel_rfl))
  obtain ⟨hr1, hr2, hb1, hb2, hb2', hlt⟩ := J.out
  have hn : w.heap.size ≤ W0.heap.size := hb0.size
  have hb1' : Below W0.heap.size W0 w1 := (Below.refl _ _).drew.trans hb1
  have hfr : ∀ b, W0.heap.size ≤ b → (((w2.setCell ⟨w.heap.size, 1, none⟩ (.slice a1 x.params.length k1)).setCell ⟨w.heap.size, 2, none⟩ (.slice a2 x.code.length k2)).setRow (w.heap.size + 1) #[.string x.name, .slice a1 x.params.length k1, .slice a2 x.code.length k2, .int .i64 x.line, .int .i64 x.col]).heap[b]? = w2.heap[b]? := fun b hb => by
    rw [setRow_other _ _ _ _ (by omega), heap_setCell_other _ _ _ _ (by simp; omega), heap_setCell_other _ _ _ _ (by simp; omega)]
  refine bodyPost_ret (v := funcV x (.slice a1 x.params.length k1) (.slice a2 x.code.length k2)) ?_ rfl ⟨_, _, rfl, ⟨?_, ?_, hrest⟩, below_row ((((hb0.trans (hb2'.mono hn)).setCell (by simp) _).setCell (by simp) _)) (by simp) _⟩
  · exact results_cell_row (P := Tryd.prog) (fn := Tryd.f56) rfl _ _ (w.heap.size + 1) 52 _ (0,0) _ rfl (setRow_heap _ _ _ _ _ _ I1.out) Tryd.underlying52 rfl (by kernel_rfl)
  · exact RdStrs.same (hr1.keep hb2) (fun b hb _ => hfr b hb) (fun b _ hb => Nat.le_trans hn hb)
  · exact RdInstrs.same hr2 (fun b hb _ => hfr b (Nat.le_trans hb1'.size hb)) (fun b _ hb => Nat.le_trans hn (Nat.le_trans hb1'.size hb))
theorem infoFunc : (Tryd.prog.info? 52).map (fun i => (i.zero, i.size, i.bytes)) = some (some (.agg #[.string ⟨#[]⟩, .slice none 0 0, .slice none 0 0, .int .i64 0, .int .i64 0]), 5, 80) := by kernel_rfl
set_option maxRecDepth 100000 in
set_option maxHeartbeats 1000000 in
theorem copyFuncs (av : Value) (l : List FuncD) (w : World) (h : RdFuncs none w av l) :
    Calls Tryd.prog 32 #[av] w fun e w' => ∃ v, e = .returned v ∧ RdFuncs (some (upFrom w.heap.size)) w' v l ∧ Below w.heap.size w w' := by
  obtain ⟨a, c, rfl, hl, hr⟩ := h
  obtain ⟨i0, hi, hz0, hz1, hz2⟩ := info_parts infoFunc
  have HR := Lib.hid hr
  clear hr
  go_enter Tryd.func32, Tryd.ntmps32
  go_wp2
  go_loopw [3, 4] (fun v i wr => ∃ (k : Nat) (P : List (FuncD × Value × Value)), k ≤ l.length ∧ i = .int .i64 k ∧ P.map Prod.fst = l.take k ∧ wr.ownsRow w.heap.size 52 5 v k (P.flatMap funCells) ∧ (∀ p ∈ P, RdFunc (some (upFrom w.heap.size)) wr p.1 p.2.1 p.2.2) ∧ Below w.heap.size w wr) (fun _ i _ => l.length - (intOf i).toNat)
  case atStart => exact ⟨0, [], Nat.zero_le _, rfl, rfl, World.ownsRow_nil _ _ _ _, (fun p hp => nomatch hp), Below.refl _ _⟩
  case round =>
    obtain ⟨k, P, hk, rfl, hP, hown, hp, hb⟩ := hrel
    have HP := Lib.hid hP
    have HQ := Lib.hid hp
    clear hP hp
    by_cases hlt : k < l.length
    · obtain ⟨x, hx⟩ : ∃ x, l[k]? = some x := ⟨_, List.getElem?_eq_getElem hlt⟩
      obtain ⟨b, o, pv, cv, rfl, _, c0, c1, c2, c3, c4, hri⟩ := HR.out k x hx
      have d0 := cell_keepB hb c0 (block_lt_of_cell c0)
      have d1 := cell_keepB hb c1 (block_lt_of_cell c1)
      have d2 := cell_keepB hb c2 (block_lt_of_cell c2)
      have d3 := cell_keepB hb c3 (block_lt_of_cell c3)
      have d4 := cell_keepB hb c4 (block_lt_of_cell c4)
      have HRI := Lib.hid (hri.keep hb)
      have HX := Lib.hid hx
      have hsz := hb.size
      clear c0 c1 c2 c3 c4 hx hri
      go_wp2_with (first
        | (go_at_call 56; refine (copyFunc x pv cv _ HRI.out).mono ?_; rintro e w1 ⟨pv', cv', rfl, hr1, hb1⟩; have hs1 := hb1.size; have hown1 := own_below hown hb1)
        | (at_builtin; refine wpList_append_own _ rfl (.tmp 11) (.tmp 17) 24 rfl w.heap.size 52 i0 (.agg #[.string ⟨#[]⟩, .slice none 0 0, .slice none 0 0, .int .i64 0, .int .i64 0]) 5 80 Tryd.underlying24 hi hz0 hz1 hz2 rfl (by decide) _ _ _ rfl (hown1.alloc _) ⟨w1.heap.size, 0, none⟩ 1 1 (funCells (x, pv', cv')) rfl rfl (many_new _ _ _) ?c2 ?c3 ?c4 ?c5 ?_))
      case c2 => intro u hu; simp [funCells] at hu; have h1 := rdStrs_one hr1.1; have h2 := rdInstrs_one hr1.2.1; rcases hu with rfl | rfl | rfl | rfl | rfl <;> first | rfl | exact h1 | exact h2
      case c3 => unfold maxLen; omega
      case c4 => omega
      case c5 => simp; omega
      · intro v' w2 hown' hgrow _
        have hal : Below w1.heap.size w1 (w1.alloc (.cells (funCells (x, pv', cv')).toArray 52)) := (Below.refl _ _).alloc (Nat.le_refl _) _
        have hown2 := hown1.alloc (.cells (funCells (x, pv', cv')).toArray 52)
        have hnew : Hid (∀ p ∈ P ++ [(x, pv', cv')], RdFunc (some (upFrom w.heap.size)) w2 p.1 p.2.1 p.2.2) := by
          intro p hp
          rcases List.mem_append.1 hp with h | h
          · exact func_grown hown2 hgrow (((HQ.out p h).keep hb1).keep hal)
          · rw [List.mem_singleton] at h; subst h
            exact func_grown hown2 hgrow ((hr1.keep hal).up hsz)
        have hb2 : Below w.heap.size w w2 := (((hb.trans (hb1.mono hsz)).alloc (by omega) _).grown hgrow (by simp; omega) (own_row_le hown))
        rw [show P.flatMap funCells ++ funCells (x, pv', cv') = (P ++ [(x, pv', cv')]).flatMap funCells from by simp] at hown'
        clear hown hown1 hown2 hgrow hr1 hb1 hal hs1
        go_wp2
        go_roundw
        case rel => exact ⟨k + 1, P ++ [(x, pv', cv')], by omega, by go_num, map_take_snoc (pv', cv') HP.out HX.out, hown', hnew.out, hb2⟩
        case measure => simp [intOf]; omega
    · obtain rfl : k = l.length := by omega
      have hP := HP.out
      rw [List.take_length] at hP
      go_wp2
      go_ret
      exact ⟨_, rfl, own_funcs hP hown hl.1 HQ.out, hb⟩
end Go.Proofs.YtjdbdoeopobciaaDoor
