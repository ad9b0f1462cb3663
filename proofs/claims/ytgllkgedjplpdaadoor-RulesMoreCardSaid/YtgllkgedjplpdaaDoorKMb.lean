/- Contracts of the kit's CopyFlat and of the law's Short: new flat programs. Condition: what comes in reads as the flat program. -/
import Derived.Test.YtgllkgedjplpdaaDoorMixK
import Derived.Test.YtgllkgedjplpdaaDoorRowE
import Derived.Deep.CutBlock
import Derived.Test.YtgllkgedjplpdaaDoorPu2
set_option linter.unnecessarySimpa false
set_option linter.unusedVariables false
set_option linter.unusedSimpArgs false
namespace Go.Proofs.YtgllkgedjplpdaaDoor
open Go.ChangeShapes Go.WideShapes Go.ChangeAt Go.RowKit
theorem run_min2M {P : Program} (ats : Array TypeId) (ty : TypeId) (a b : Int) (w : World) : (Builtin.min_ ats ty #[.int .i64 a, .int .i64 b]).run P w = .ok (.int .i64 (min a b)) w := by
  have : (if b < a then b else a) = min a b := by split <;> omega
  simp [Builtin.min_, Builtin.min2, this]
theorem take_minM {α : Type} (l : List α) (m : Nat) : l.take (min l.length m) = l.take m := by
  rcases Nat.le_total l.length m with h | h
  · rw [Nat.min_eq_left h, List.take_of_length_le h, List.take_of_length_le (Nat.le_refl _)]
  · rw [Nat.min_eq_right h]
theorem RdFlat.same {g g' : Nat → Prop} {w w' : World} {f : FlatD} {a b c d : Value} (h : RdFlat (some g) w f a b c d) (k : ∀ b, g b → b < w.heap.size → w'.heap[b]? = w.heap[b]?) (hg : ∀ b, b < w.heap.size → g b → g' b) : RdFlat (some g') w' f a b c d :=
  ⟨h.1.same k hg, h.2.1.same k hg, h.2.2.1.same k hg, h.2.2.2.1.same k hg, h.2.2.2.2⟩
theorem RdFlat.setRow {n m : Nat} {w : World} {f : FlatD} {a b c d : Value} (h : RdFlat (some (upFrom n)) w f a b c d) {x : Nat} (hx : x < n) (hm : m ≤ n) (cs : Array Value) : RdFlat (some (upFrom m)) (w.setRow x cs) f a b c d :=
  h.same (fun b hb _ => setRow_other w x b cs (by have : n ≤ b := hb; omega)) (fun b _ hb => Nat.le_trans hm hb)
theorem RdFlat.up {n m : Nat} {w : World} {f : FlatD} {a b c d : Value} (h : RdFlat (some (upFrom n)) w f a b c d) (hm : m ≤ n) : RdFlat (some (upFrom m)) w f a b c d :=
  ⟨h.1.up hm, h.2.1.up hm, h.2.2.1.up hm, h.2.2.2.1.up hm, h.2.2.2.2⟩
/-- A copy of a flat program, in new memory. -/
def FlatNew (f : FlatD) (w : World) (e : Ending) (w' : World) : Prop :=
  ∃ cv sv av kv, e = .returned (flatV f cv sv av kv) ∧ RdFlat (some (upFrom w.heap.size)) w' f cv sv av kv ∧ Below w.heap.size w w'
set_option maxRecDepth 100000 in
set_option maxHeartbeats 1600000 in
theorem copyFlat (f : FlatD) (cv sv av kv : Value) (w : World) (h : RdFlat none w f cv sv av kv) :
    Calls Tryd.prog 26 #[flatV f cv sv av kv] w (FlatNew f w) := by
  obtain ⟨ca, cc, rfl⟩ := h.1.is
  obtain ⟨sa, sc, rfl⟩ := h.2.1.is
  obtain ⟨aa, ac, rfl⟩ := h.2.2.1.is
  obtain ⟨ka, kc, rfl⟩ := h.2.2.2.1.is
  have hrest := Lib.hid h.2.2.2.2
  have hal := ((Below.refl w.heap.size w).alloc (Nat.le_refl _) (.cells #[.int .i64 f.width, .int .i64 f.regs, .slice ca f.chans.length cc, .slice sa f.sites.length sc, .slice aa f.arrays.length ac, .slice ka f.code.length kc] 26)).alloc (by simp) (.cells #[.int .i64 0, .int .i64 0, .slice none 0 0, .slice none 0 0, .slice none 0 0, .slice none 0 0] 26)
  have hbb := heap2_of (w := w) (A := .cells #[.int .i64 f.width, .int .i64 f.regs, .slice ca f.chans.length cc, .slice sa f.sites.length sc, .slice aa f.arrays.length ac, .slice ka f.code.length kc] 26) (B := .cells #[.int .i64 0, .int .i64 0, .slice none 0 0, .slice none 0 0, .slice none 0 0, .slice none 0 0] 26) (Below.refl _ _)
  have HO := Lib.hid h.1
  have HR := Lib.hid h.2.1
  have HB := Lib.hid h.2.2.1
  have HD := Lib.hid h.2.2.2.1
  have HG1 := Lib.hid hbb.1
  have HG0 := Lib.hid hbb.2.1
  have HW := Lib.hid hal
  clear h hal hbb
  go_enter Tryd.func26, Tryd.ntmps26
  go_upto_region 1 with fail
  generalize ((w.alloc (.cells #[.int .i64 f.width, .int .i64 f.regs, .slice ca f.chans.length cc, .slice sa f.sites.length sc, .slice aa f.arrays.length ac, .slice ka f.code.length kc] 26)).alloc (.cells #[.int .i64 0, .int .i64 0, .slice none 0 0, .slice none 0 0, .slice none 0 0, .slice none 0 0] 26)) = W at *
  refine wp_region_mix (.one [0, 1, 3, 4, 6, 7, 9, 10] 2 (.one [12] 5 (.one [] 8 (.one [] 11 (tailOf [13, 14, 15, 16, 17, 18, 19]))))) (fun j => decide (13 ≤ j)) (by kernel_rfl) (by kernel_rfl) rfl (by kernel_rfl) (fun _ d _ _ _ h => by cases d <;> exact h) ?_
  have HBd : Hid (Below W.heap.size W W.drew) := (Below.refl _ _).drew
  have b1 : Below w.heap.size w W.drew := HW.out.drew
  generalize W.drew = wn at *
  have l2 := ext_cell (row_of HG1.out 2 (.slice ca f.chans.length cc) rfl)
  have l3 := ext_cell (row_of HG1.out 3 (.slice sa f.sites.length sc) rfl)
  have l4 := ext_cell (row_of HG1.out 4 (.slice aa f.arrays.length ac) rfl)
  have l5 := ext_cell (row_of HG1.out 5 (.slice ka f.code.length kc) rfl)
  refine mix_one (by simp only [opsOf, List.filterMap_cons, List.filterMap_nil, List.getElem?_toArray, List.getElem?_cons_succ, List.getElem?_cons_zero]; rfl) ⟨_, ext_of HBd.out⟩ ?_
  change wpQuiet _ _ _ _ [_, _, _, _, _, _, _, _] _
  (repeat (go_big_quiet_step (fail)))
  refine wpQuiet_nil ?_
  clear l2 l3 l4 l5
  have R1 := HO.out.keep b1
  refine mix_step rfl ?_
  go_wp2_with (go_at_call 35; refine (copyStr _ _ _ R1).mono ?_; rintro e w2 ⟨v, rfl, _, r2, b2⟩)
  obtain ⟨xa2, xc2, rfl⟩ := r2.is
  have B2 := bcomp HBd.out b2
  have k2 := bcomp b1 b2
  have R2 := HR.out.keep k2
  refine ⟨fun _ => ⟨_, ext_of B2⟩, ?_⟩
  refine mix_one (by simp only [opsOf, List.filterMap_cons, List.filterMap_nil, List.getElem?_toArray, List.getElem?_cons_succ, List.getElem?_cons_zero]; rfl) ⟨_, ext_of B2⟩ ?_
  change wpQuiet _ _ _ _ [_] _
  (repeat (go_big_quiet_step (fail)))
  refine wpQuiet_nil ?_
  refine mix_step rfl ?_
  go_wp2_with (go_at_call 35; refine (copyStr _ _ _ R2).mono ?_; rintro e w3 ⟨v, rfl, _, r3, b3⟩)
  obtain ⟨xa3, xc3, rfl⟩ := r3.is
  have B3 := bcomp B2 b3
  have k3 := bcomp k2 b3
  have R3 := HB.out.keep k3
  refine ⟨fun _ => ⟨_, ext_of B3⟩, ?_⟩
  refine mix_now ?_
  refine mix_step rfl ?_
  go_wp2_with (go_at_call 54; refine (copyInt _ _ _ R3).mono ?_; rintro e w4 ⟨v, rfl, _, r4, b4⟩)
  obtain ⟨xa4, xc4, rfl⟩ := r4.is
  have B4 := bcomp B3 b4
  have k4 := bcomp k3 b4
  have R4 := HD.out.keep k4
  refine ⟨fun _ => ⟨_, ext_of B4⟩, ?_⟩
  refine mix_now ?_
  refine mix_step rfl ?_
  go_wp2_with (go_at_call 55; refine (copyCode _ _ _ R4).mono ?_; rintro e w5 ⟨v, rfl, _, r5, b5⟩)
  obtain ⟨xa5, xc5, rfl⟩ := r5.is
  have B5 := bcomp B4 b5
  have k5 := bcomp k4 b5
  refine ⟨fun _ => ⟨_, ext_of B5⟩, ?_⟩
  refine mix_tail [13, 14, 15, 16, 17, 18, 19] [_, _, _, _, _, _, _] _ _ rfl rfl ?_
  have hszW : w.heap.size + 1 < W.heap.size := (Array.getElem?_eq_some_iff.1 HG0.out).1
  have hszn : w.heap.size + 1 < wn.heap.size := by have := HBd.out.size; omega
  have hsz5 : w.heap.size + 1 < w5.heap.size := by have := B5.size; omega
  have G5 := (B5.block _ (by omega : w.heap.size < W.heap.size)).trans HG1.out
  have Z5 := (B5.block _ hszW).trans HG0.out
  have HR5 : Hid (RdFlat (some (upFrom (w.heap.size + 2))) w5 f (.slice xa2 f.chans.length xc2) (.slice xa3 f.sites.length xc3) (.slice xa4 f.arrays.length xc4) (.slice xa5 f.code.length xc5)) :=
    ⟨(r2.keep (bcomp b3 (bcomp b4 b5))).up (by omega), (r3.keep (bcomp b4 b5)).up (by have := b2.size; omega), (r4.keep b5).up (by have := b2.size; have := b3.size; omega), r5.up (by have := b2.size; have := b3.size; have := b4.size; omega), hrest.out⟩
  have HB5 := Lib.hid k5
  have x2 := row_of G5 2 (.slice ca f.chans.length cc) rfl
  have f2 := frozen_of_row w5 w.heap.size 2 _ _ G5
  have x3 := row_of G5 3 (.slice sa f.sites.length sc) rfl
  have f3 := frozen_of_row w5 w.heap.size 3 _ _ G5
  have x4 := row_of G5 4 (.slice aa f.arrays.length ac) rfl
  have f4 := frozen_of_row w5 w.heap.size 4 _ _ G5
  have x5 := row_of G5 5 (.slice ka f.code.length kc) rfl
  have f5 := frozen_of_row w5 w.heap.size 5 _ _ G5
  have HG6 : Hid (((((w5.setCell ⟨w.heap.size, 2, none⟩ (.slice xa2 f.chans.length xc2)).setCell ⟨w.heap.size, 3, none⟩ (.slice xa3 f.sites.length xc3)).setCell ⟨w.heap.size, 4, none⟩ (.slice xa4 f.arrays.length xc4)).setCell ⟨w.heap.size, 5, none⟩ (.slice xa5 f.code.length xc5)).heap[w.heap.size]? = some (.cells #[.int .i64 f.width, .int .i64 f.regs, .slice xa2 f.chans.length xc2, .slice xa3 f.sites.length xc3, .slice xa4 f.arrays.length xc4, .slice xa5 f.code.length xc5] 26 (0, 0))) := by
    show _ = _
    rw [heap_setCell_same _ _ _ _ _ _ (heap_setCell_same _ _ _ _ _ _ (heap_setCell_same _ _ _ _ _ _ (heap_setCell_same _ _ _ _ _ _ G5)))]
    rfl
  have hoth : ∀ b, b ≠ w.heap.size → ((((w5.setCell ⟨w.heap.size, 2, none⟩ (.slice xa2 f.chans.length xc2)).setCell ⟨w.heap.size, 3, none⟩ (.slice xa3 f.sites.length xc3)).setCell ⟨w.heap.size, 4, none⟩ (.slice xa4 f.arrays.length xc4)).setCell ⟨w.heap.size, 5, none⟩ (.slice xa5 f.code.length xc5)).heap[b]? = w5.heap[b]? := fun b hb => by
    rw [heap_setCell_other _ _ _ _ (by simpa using hb), heap_setCell_other _ _ _ _ (by simpa using hb), heap_setCell_other _ _ _ _ (by simpa using hb), heap_setCell_other _ _ _ _ (by simpa using hb)]
  have HZ6 := Lib.hid ((hoth (w.heap.size + 1) (by omega)).trans Z5)
  have HR6 : Hid (RdFlat (some (upFrom (w.heap.size + 2))) ((((w5.setCell ⟨w.heap.size, 2, none⟩ (.slice xa2 f.chans.length xc2)).setCell ⟨w.heap.size, 3, none⟩ (.slice xa3 f.sites.length xc3)).setCell ⟨w.heap.size, 4, none⟩ (.slice xa4 f.arrays.length xc4)).setCell ⟨w.heap.size, 5, none⟩ (.slice xa5 f.code.length xc5)) f (.slice xa2 f.chans.length xc2) (.slice xa3 f.sites.length xc3) (.slice xa4 f.arrays.length xc4) (.slice xa5 f.code.length xc5)) := HR5.out.same (fun b hb _ => hoth b (by have : w.heap.size + 2 ≤ b := hb; omega)) (fun _ _ k => k)
  have HB6 : Hid (Below w.heap.size w ((((w5.setCell ⟨w.heap.size, 2, none⟩ (.slice xa2 f.chans.length xc2)).setCell ⟨w.heap.size, 3, none⟩ (.slice xa3 f.sites.length xc3)).setCell ⟨w.heap.size, 4, none⟩ (.slice xa4 f.arrays.length xc4)).setCell ⟨w.heap.size, 5, none⟩ (.slice xa5 f.code.length xc5))) := (((HB5.out.setCell (by simp) _).setCell (by simp) _).setCell (by simp) _).setCell (by simp) _
  clear r2 r3 r4 r5 b1 b2 b3 b4 b5 B2 B3 B4 B5 k2 k3 k4 k5 R1 R2 R3 R4 G5 Z5 hoth HR5
  go_upto_region 2 with fail
  clear x2 x3 x4 x5 f2 f3 f4 f5
  generalize ((((w5.setCell ⟨w.heap.size, 2, none⟩ (.slice xa2 f.chans.length xc2)).setCell ⟨w.heap.size, 3, none⟩ (.slice xa3 f.sites.length xc3)).setCell ⟨w.heap.size, 4, none⟩ (.slice xa4 f.arrays.length xc4)).setCell ⟨w.heap.size, 5, none⟩ (.slice xa5 f.code.length xc5)) = W6 at *
  have y0 := row_of HG6.out 0 (.int .i64 f.width) rfl
  have y1 := row_of HG6.out 1 (.int .i64 f.regs) rfl
  have y2 := row_of HG6.out 2 (.slice xa2 f.chans.length xc2) rfl
  have y3 := row_of HG6.out 3 (.slice xa3 f.sites.length xc3) rfl
  have y4 := row_of HG6.out 4 (.slice xa4 f.arrays.length xc4) rfl
  have y5 := row_of HG6.out 5 (.slice xa5 f.code.length xc5) rfl
  go_wp2_with (refine wpList_store_row rfl 26 (.tmp 2) (.tmp 19) rfl (w.heap.size + 1) #[.int .i64 f.width, .int .i64 f.regs, .slice xa2 f.chans.length xc2, .slice xa3 f.sites.length xc3, .slice xa4 f.arrays.length xc4, .slice xa5 f.code.length xc5] rfl rfl 26 #[.int .i64 0, .int .i64 0, .slice none 0 0, .slice none 0 0, .slice none 0 0, .slice none 0 0] ?hs (by as_aux_lemma => kernel_rfl) (by as_aux_lemma => kernel_rfl) (by as_aux_lemma => kernel_rfl) ?_; exact HZ6.out)
  refine bodyPost_ret (v := .agg #[.int .i64 f.width, .int .i64 f.regs, .slice xa2 f.chans.length xc2, .slice xa3 f.sites.length xc3, .slice xa4 f.arrays.length xc4, .slice xa5 f.code.length xc5]) ?_ rfl ⟨_, _, _, _, rfl, HR6.out.setRow (by omega) (by omega) _, below_row HB6.out (by omega) _⟩
  exact results_cell_row (P := Tryd.prog) (fn := Tryd.f26) rfl _ _ (w.heap.size + 1) 26 #[.int .i64 f.width, .int .i64 f.regs, .slice xa2 f.chans.length xc2, .slice xa3 f.sites.length xc3, .slice xa4 f.arrays.length xc4, .slice xa5 f.code.length xc5] (0, 0) _ rfl (setRow_heap _ _ _ _ _ _ HZ6.out) Tryd.underlying26 rfl (by as_aux_lemma => kernel_rfl)
def shortF (f : FlatD) : FlatD := { f with chans := f.chans.take 34, sites := f.sites.take 34, arrays := f.arrays.take 34, code := f.code.take 60 }
theorem cap_of {α : Type} {K : Kind α} {lo : Option (Nat → Prop)} {w : World} {a : Option Addr} {n c : Nat} {l : List α} (h : RdRow K lo w (.slice a n c) l) : l.length ≤ c := by
  obtain ⟨_, _, e, h1, _⟩ := h
  simp only [Value.slice.injEq] at e
  obtain ⟨_, _, rfl⟩ := e
  exact h1.2
theorem min_run (n k : Nat) (m : Int) (hz : (k : Int) = min (n : Int) m) (w : World) : (Builtin.min_ #[3, 3] 3 #[.int .i64 (n : Int), .int .i64 m]).run Tryd.prog w = .ok (.int .i64 (k : Int)) w := by
  rw [hz]
  exact run_min2M _ _ _ _ w
set_option maxRecDepth 100000 in
set_option maxHeartbeats 1600000 in
theorem short25 (f : FlatD) (cv sv av kv : Value) (w : World) (h : RdFlat none w f cv sv av kv) :
    Calls Tryd.prog 8 #[flatV f cv sv av kv] w (FlatNew (shortF f) w) := by
  obtain ⟨ca, cc, rfl⟩ := h.1.is
  obtain ⟨sa, sc, rfl⟩ := h.2.1.is
  obtain ⟨aa, ac, rfl⟩ := h.2.2.1.is
  obtain ⟨ka, kc, rfl⟩ := h.2.2.2.1.is
  obtain ⟨n1, h1⟩ : ∃ n : Nat, min f.chans.length 34 = n := ⟨_, rfl⟩
  obtain ⟨n2, h2⟩ : ∃ n : Nat, min f.sites.length 34 = n := ⟨_, rfl⟩
  obtain ⟨n3, h3⟩ : ∃ n : Nat, min f.arrays.length 34 = n := ⟨_, rfl⟩
  obtain ⟨n4, h4⟩ : ∃ n : Nat, min f.code.length 60 = n := ⟨_, rfl⟩
  have min1 := min_run f.chans.length n1 34 (by omega)
  have min2 := min_run f.sites.length n2 34 (by omega)
  have min3 := min_run f.arrays.length n3 34 (by omega)
  have min4 := min_run f.code.length n4 60 (by omega)
  have k1 := cap_of h.1
  have k2 := cap_of h.2.1
  have k3 := cap_of h.2.2.1
  have k4 := cap_of h.2.2.2.1
  have e1 : n1 ≤ f.chans.length := by omega
  have e2 : n2 ≤ f.sites.length := by omega
  have e3 : n3 ≤ f.arrays.length := by omega
  have e4 : n4 ≤ f.code.length := by omega
  have g1 : n1 ≤ cc := by omega
  have g2 : n2 ≤ sc := by omega
  have g3 : n3 ≤ ac := by omega
  have g4 : n4 ≤ kc := by omega
  have HS : Hid (RdFlat none w (shortF f) (.slice ca n1 cc) (.slice sa n2 sc) (.slice aa n3 ac) (.slice ka n4 kc)) := by
    have q1 := h.1.take n1 e1
    have q2 := h.2.1.take n2 e2
    have q3 := h.2.2.1.take n3 e3
    have q4 := h.2.2.2.1.take n4 e4
    rw [← h1, take_minM] at q1
    rw [← h2, take_minM] at q2
    rw [← h3, take_minM] at q3
    rw [← h4, take_minM] at q4
    rw [h1] at q1
    rw [h2] at q2
    rw [h3] at q3
    rw [h4] at q4
    exact ⟨q1, q2, q3, q4, h.2.2.2.2⟩
  have hlen : Hid ((shortF f).chans.length = n1 ∧ (shortF f).sites.length = n2 ∧ (shortF f).arrays.length = n3 ∧ (shortF f).code.length = n4) := by
    refine ⟨?_, ?_, ?_, ?_⟩ <;> simp only [shortF, List.length_take] <;> omega
  have hal := ((Below.refl w.heap.size w).alloc (Nat.le_refl _) (.cells #[.int .i64 f.width, .int .i64 f.regs, .slice ca f.chans.length cc, .slice sa f.sites.length sc, .slice aa f.arrays.length ac, .slice ka f.code.length kc] 26)).alloc (by simp) (.cells #[.int .i64 0, .int .i64 0, .slice none 0 0, .slice none 0 0, .slice none 0 0, .slice none 0 0] 26)
  have hbb := heap2_of (w := w) (A := .cells #[.int .i64 f.width, .int .i64 f.regs, .slice ca f.chans.length cc, .slice sa f.sites.length sc, .slice aa f.arrays.length ac, .slice ka f.code.length kc] 26) (B := .cells #[.int .i64 0, .int .i64 0, .slice none 0 0, .slice none 0 0, .slice none 0 0, .slice none 0 0] 26) (Below.refl _ _)
  have HG1 := Lib.hid hbb.1
  have HG0 := Lib.hid hbb.2.1
  have HW := Lib.hid hal
  clear h hal hbb h1 h2 h3 h4 k1 k2 k3 k4
  go_enter Tryd.func8, Tryd.ntmps8
  go_upto_region 1 with fail
  generalize ((w.alloc (.cells #[.int .i64 f.width, .int .i64 f.regs, .slice ca f.chans.length cc, .slice sa f.sites.length sc, .slice aa f.arrays.length ac, .slice ka f.code.length kc] 26)).alloc (.cells #[.int .i64 0, .int .i64 0, .slice none 0 0, .slice none 0 0, .slice none 0 0, .slice none 0 0] 26)) = W at *
  have hszW : w.heap.size + 1 < W.heap.size := (Array.getElem?_eq_some_iff.1 HG0.out).1
  have G5 := HG1.out
  have Z5 := HG0.out
  have x2 := row_of G5 2 (.slice ca f.chans.length cc) rfl
  have f2 := frozen_of_row W w.heap.size 2 _ _ G5
  have x3 := row_of G5 3 (.slice sa f.sites.length sc) rfl
  have f3 := frozen_of_row W w.heap.size 3 _ _ G5
  have x4 := row_of G5 4 (.slice aa f.arrays.length ac) rfl
  have f4 := frozen_of_row W w.heap.size 4 _ _ G5
  have x5 := row_of G5 5 (.slice ka f.code.length kc) rfl
  have f5 := frozen_of_row W w.heap.size 5 _ _ G5
  have HG5 : Hid (W.drew.heap[w.heap.size]? = _) := G5
  have HZ5 : Hid (W.drew.heap[w.heap.size + 1]? = _) := Z5
  clear G5 Z5
  have l2 := keepS_cell (S := [w.heap.size]) (by simp) (row_of HG1.out 2 (.slice ca f.chans.length cc) rfl)
  have l3 := keepS_cell (S := [w.heap.size]) (by simp) (row_of HG1.out 3 (.slice sa f.sites.length sc) rfl)
  have l4 := keepS_cell (S := [w.heap.size]) (by simp) (row_of HG1.out 4 (.slice aa f.arrays.length ac) rfl)
  have HBd : Hid (Below w.heap.size w W.drew) := HW.out.drew
  clear x2 x3 x4 x5 f2 f3 f4 f5
  refine wp_region_pure [w.heap.size] [0, 1, 2, 3, 4, 5, 6, 7, 8, 9, 10, 14, 15, 16, 17] [11, 12, 13, 18, 19, 20, 21] (tailOf [22, 23, 24, 25, 26]) (fun j => decide (22 ≤ j)) (by kernel_rfl) (by kernel_rfl) rfl (by kernel_rfl) (fun _ d _ _ _ h => by cases d <;> exact h) ?_
  refine pure_walk (by simp only [opsOf, List.filterMap_cons, List.filterMap_nil, List.getElem?_toArray, List.getElem?_cons_succ, List.getElem?_cons_zero]; rfl) (by simp only [opsOf, List.filterMap_cons, List.filterMap_nil, List.getElem?_toArray, List.getElem?_cons_succ, List.getElem?_cons_zero]; rfl) ?_
  change wpQuiet _ _ _ _ [_, _, _, _, _, _, _, _, _, _, _, _, _, _, _] _
  generalize W.drew = Wd at *
  (repeat (go_big_quiet_step (fail)))
  refine wpQuiet_nil ?_
  clear l2 l3 l4
  change wpQuiet _ _ _ _ [_, _, _, _, _, _, _] _
  (repeat (go_big_quiet_step (fail)))
  refine wpQuiet_nil ?_
  have G5 := HG5.out
  have Z5 := HZ5.out
  have HW := HBd
  have hszW : w.heap.size + 1 < Wd.heap.size := (Array.getElem?_eq_some_iff.1 Z5).1
  have x2 := row_of G5 2 (.slice ca f.chans.length cc) rfl
  have f2 := frozen_of_row Wd w.heap.size 2 _ _ G5
  have x3 := row_of G5 3 (.slice sa f.sites.length sc) rfl
  have f3 := frozen_of_row Wd w.heap.size 3 _ _ G5
  have x4 := row_of G5 4 (.slice aa f.arrays.length ac) rfl
  have f4 := frozen_of_row Wd w.heap.size 4 _ _ G5
  refine mix_tail [22, 23, 24, 25, 26] [_, _, _, _, _] _ _ rfl rfl ?_
  have HG6 : Hid ((((Wd.setCell ⟨w.heap.size, 2, none⟩ (.slice ca n1 cc)).setCell ⟨w.heap.size, 3, none⟩ (.slice sa n2 sc)).setCell ⟨w.heap.size, 4, none⟩ (.slice aa n3 ac)).heap[w.heap.size]? = some (.cells #[.int .i64 f.width, .int .i64 f.regs, .slice ca n1 cc, .slice sa n2 sc, .slice aa n3 ac, .slice ka f.code.length kc] 26 (0, 0))) := by
    show _ = _
    rw [heap_setCell_same _ _ _ _ _ _ (heap_setCell_same _ _ _ _ _ _ (heap_setCell_same _ _ _ _ _ _ G5))]
    rfl
  have hoth : ∀ b, b ≠ w.heap.size → (((Wd.setCell ⟨w.heap.size, 2, none⟩ (.slice ca n1 cc)).setCell ⟨w.heap.size, 3, none⟩ (.slice sa n2 sc)).setCell ⟨w.heap.size, 4, none⟩ (.slice aa n3 ac)).heap[b]? = Wd.heap[b]? := fun b hb => by
    rw [heap_setCell_other _ _ _ _ (by simpa using hb), heap_setCell_other _ _ _ _ (by simpa using hb), heap_setCell_other _ _ _ _ (by simpa using hb)]
  have HZ6 := Lib.hid ((hoth (w.heap.size + 1) (by omega)).trans Z5)
  have HB6 : Hid (Below w.heap.size w (((Wd.setCell ⟨w.heap.size, 2, none⟩ (.slice ca n1 cc)).setCell ⟨w.heap.size, 3, none⟩ (.slice sa n2 sc)).setCell ⟨w.heap.size, 4, none⟩ (.slice aa n3 ac))) := (((HW.out).setCell (by simp) _).setCell (by simp) _).setCell (by simp) _
  clear G5 Z5 hoth
  go_upto_region 2 with fail
  clear x2 x3 x4 f2 f3 f4 min1 min2 min3
  generalize (((Wd.setCell ⟨w.heap.size, 2, none⟩ (.slice ca n1 cc)).setCell ⟨w.heap.size, 3, none⟩ (.slice sa n2 sc)).setCell ⟨w.heap.size, 4, none⟩ (.slice aa n3 ac)) = W5 at *
  have x5 := row_of HG6.out 5 (.slice ka f.code.length kc) rfl
  have f5 := frozen_of_row W5 w.heap.size 5 _ _ HG6.out
  have HG7 : Hid ((W5.setCell ⟨w.heap.size, 5, none⟩ (.slice ka n4 kc)).heap[w.heap.size]? = some (.cells #[.int .i64 f.width, .int .i64 f.regs, .slice ca n1 cc, .slice sa n2 sc, .slice aa n3 ac, .slice ka n4 kc] 26 (0, 0))) := by
    show _ = _
    rw [heap_setCell_same _ _ _ _ _ _ HG6.out]; rfl
  have HZ7 : Hid ((W5.setCell ⟨w.heap.size, 5, none⟩ (.slice ka n4 kc)).heap[w.heap.size + 1]? = _) := (heap_setCell_other _ _ _ _ (by simp)).trans HZ6.out
  have HB7 : Hid (Below w.heap.size w (W5.setCell ⟨w.heap.size, 5, none⟩ (.slice ka n4 kc))) := HB6.out.setCell (by simp) _
  clear HG6 HZ6 HB6
  have HG6 := HG7; have HZ6 := HZ7; have HB6 := HB7; clear HG7 HZ7 HB7
  go_upto_region 3 with fail
  clear x5 f5 min4
  generalize (W5.setCell ⟨w.heap.size, 5, none⟩ (.slice ka n4 kc)) = W6 at *
  have HS6 := Lib.hid (HS.out.keep HB6.out)
  have y0 := row_of HG6.out 0 (.int .i64 f.width) rfl
  have y1 := row_of HG6.out 1 (.int .i64 f.regs) rfl
  have y2 := row_of HG6.out 2 (.slice ca n1 cc) rfl
  have y3 := row_of HG6.out 3 (.slice sa n2 sc) rfl
  have y4 := row_of HG6.out 4 (.slice aa n3 ac) rfl
  have y5 := row_of HG6.out 5 (.slice ka n4 kc) rfl
  have HCF : Hid (Calls Tryd.prog 26 #[.agg #[.int .i64 f.width, .int .i64 f.regs, .slice ca n1 cc, .slice sa n2 sc, .slice aa n3 ac, .slice ka n4 kc]] W6 fun e w' => ∃ xa1 xc1 xa2 xc2 xa3 xc3 xa4 xc4, e = .returned (.agg #[.int .i64 f.width, .int .i64 f.regs, .slice xa1 n1 xc1, .slice xa2 n2 xc2, .slice xa3 n3 xc3, .slice xa4 n4 xc4]) ∧ RdFlat (some (upFrom W6.heap.size)) w' (shortF f) (.slice xa1 n1 xc1) (.slice xa2 n2 xc2) (.slice xa3 n3 xc3) (.slice xa4 n4 xc4) ∧ Below W6.heap.size W6 w') := by
    refine (copyFlat (shortF f) _ _ _ _ W6 HS6.out).mono ?_
    rintro e w' ⟨v1, v2, v3, v4, rfl, hr, hb⟩
    obtain ⟨j1, j2, j3, j4⟩ := hlen.out
    obtain ⟨xa1, xc1, rfl⟩ := hr.1.is
    obtain ⟨xa2, xc2, rfl⟩ := hr.2.1.is
    obtain ⟨xa3, xc3, rfl⟩ := hr.2.2.1.is
    obtain ⟨xa4, xc4, rfl⟩ := hr.2.2.2.1.is
    rw [j1, j2, j3, j4] at hr ⊢
    exact ⟨xa1, xc1, xa2, xc2, xa3, xc3, xa4, xc4, rfl, hr, hb⟩
  go_wp2_with (first | (go_at_call 26; refine HCF.out.mono ?_; rintro e w4 ⟨xa1, xc1, xa2, xc2, xa3, xc3, xa4, xc4, rfl, hr4, hb4⟩; have HR4 := Lib.hid hr4; have HB4 := Lib.hid (bcomp HB6.out hb4); have hs6 : w.heap.size + 1 < W6.heap.size := (Array.getElem?_eq_some_iff.1 HZ6.out).1; have HZ4 := Lib.hid ((hb4.block _ hs6).trans HZ6.out); clear hr4 hb4) | (refine wpList_store_row rfl 26 (.tmp 2) (.tmp 36) rfl (w.heap.size + 1) #[.int .i64 f.width, .int .i64 f.regs, .slice xa1 n1 xc1, .slice xa2 n2 xc2, .slice xa3 n3 xc3, .slice xa4 n4 xc4] rfl rfl 26 #[.int .i64 0, .int .i64 0, .slice none 0 0, .slice none 0 0, .slice none 0 0, .slice none 0 0] ?hs (by as_aux_lemma => kernel_rfl) (by as_aux_lemma => kernel_rfl) (by as_aux_lemma => kernel_rfl) ?_; exact HZ4.out))
  refine bodyPost_ret (v := .agg #[.int .i64 f.width, .int .i64 f.regs, .slice xa1 n1 xc1, .slice xa2 n2 xc2, .slice xa3 n3 xc3, .slice xa4 n4 xc4]) ?_ rfl ⟨_, _, _, _, rfl, HR4.out.setRow (by omega) (by omega) _, below_row HB4.out (by omega) _⟩
  exact results_cell_row (P := Tryd.prog) (fn := Tryd.f8) rfl _ _ (w.heap.size + 1) 26 #[.int .i64 f.width, .int .i64 f.regs, .slice xa1 n1 xc1, .slice xa2 n2 xc2, .slice xa3 n3 xc3, .slice xa4 n4 xc4] (0, 0) _ rfl (setRow_heap _ _ _ _ _ _ HZ4.out) Tryd.underlying26 rfl (by as_aux_lemma => kernel_rfl)
end Go.Proofs.YtgllkgedjplpdaaDoor
