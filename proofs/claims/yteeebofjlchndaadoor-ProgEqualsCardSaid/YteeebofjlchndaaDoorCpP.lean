/- Contract of prog.Copy: what comes back reads as what came in, in new memory. Condition: what comes in reads as a program. -/
import Derived.Test.YteeebofjlchndaaDoorCpI
import Derived.Test.YteeebofjlchndaaDoorPu2
set_option linter.unusedVariables false
set_option linter.unusedSimpArgs false
set_option linter.unnecessarySimpa false
namespace Go.Proofs.YteeebofjlchndaaDoor
open Go.ChangeShapes Go.WideShapes Go.ChangeAt Go.RowKit
theorem cloneStrsN (av : Value) (l : List ByteArray) (w : World) (h : RdStrs none w av l) :
    Calls Tryd.prog 36 #[av] w fun e w' => ∃ v, e = .returned v ∧ RdStrs (some (upFrom w.heap.size)) w' v l ∧ Below w.heap.size w w' := by
  obtain ⟨a, c, rfl, ⟨hl, -⟩, hr⟩ := h
  have hfl : (l.flatMap strCells).length = l.length * 1 := flat_length strCells 1 (fun _ => rfl) l
  refine (cloneStrN a l.length c (l.flatMap strCells) w (fun j u hu => ?_) hfl hl (fun u hu => ?_)).mono ?_
  · have hj := (List.getElem?_eq_some_iff.1 hu).1
    rw [hfl] at hj
    obtain ⟨x, hx⟩ : ∃ x, l[j]? = some x := ⟨_, List.getElem?_eq_getElem (by omega)⟩
    obtain ⟨b, o, rfl, -, h0, -⟩ := hr _ x hx
    have e := flat_get strCells 1 (fun _ => rfl) l j 0 x hx (by omega)
    rw [Nat.mul_one, Nat.add_zero, hu] at e
    simp [strCells] at e
    subst e
    exact ⟨b, o, rfl, h0⟩
  · obtain ⟨q, hq, hx⟩ := List.mem_flatMap.1 hu
    simp only [strCells, List.mem_cons, List.not_mem_nil, or_false] at hx
    subst hx
    rfl
  · rintro e w' ⟨v, rfl, hown, hb⟩
    exact ⟨v, rfl, own_strs hown hl (fun s hs => by
      obtain ⟨i, hi⟩ := List.mem_iff_getElem?.1 hs
      obtain ⟨b, o, -, -, -, h3⟩ := hr i s hi
      exact h3), hb⟩
theorem cloneArrsN (av : Value) (l : List ArrD) (w : World) (h : RdArrs none w av l) :
    Calls Tryd.prog 37 #[av] w fun e w' => ∃ v, e = .returned v ∧ RdArrs (some (upFrom w.heap.size)) w' v l ∧ Below w.heap.size w w' := by
  obtain ⟨a, c, rfl, ⟨hl, -⟩, hr⟩ := h
  have hfl : (l.flatMap arrCells).length = l.length * 2 := flat_length arrCells 2 (fun _ => rfl) l
  refine (cloneArrN a l.length c (l.flatMap arrCells) w (fun j u hu => ?_) hfl hl (fun u hu => ?_)).mono ?_
  · have hj := (List.getElem?_eq_some_iff.1 hu).1
    rw [hfl] at hj
    obtain ⟨x, hx⟩ : ∃ x, l[j / 2]? = some x := ⟨_, List.getElem?_eq_getElem (by omega)⟩
    obtain ⟨b, o, rfl, -, h0, h1, -⟩ := hr _ x hx
    have e := flat_get arrCells 2 (fun _ => rfl) l (j / 2) (j % 2) x hx (by omega)
    rw [show j / 2 * 2 + j % 2 = j by omega, hu] at e
    rcases (show j % 2 = 0 ∨ j % 2 = 1 by omega) with h2 | h2
    · rw [h2] at e
      simp [arrCells] at e
      subst e
      exact ⟨b, o, rfl, by rw [show o + j = o + j / 2 * 2 by omega]; exact h0⟩
    · rw [h2] at e
      simp [arrCells] at e
      subst e
      exact ⟨b, o, rfl, by rw [show o + j = o + j / 2 * 2 + 1 by omega]; exact h1⟩
  · obtain ⟨q, hq, hx⟩ := List.mem_flatMap.1 hu
    simp only [arrCells, List.mem_cons, List.not_mem_nil, or_false] at hx
    rcases hx with rfl | rfl <;> rfl
  · rintro e w' ⟨v, rfl, hown, hb⟩
    exact ⟨v, rfl, own_arrs hown hl (fun s hs => by
      obtain ⟨i, hi⟩ := List.mem_iff_getElem?.1 hs
      obtain ⟨b, o, -, -, -, -, h3, h4⟩ := hr i s hi
      exact ⟨h3, h4⟩), hb⟩
theorem cloneFunsN (av : Value) (l : List FuncD) (w0 w : World) (h : RdFuncs none w0 av l) (hbw : Below w0.heap.size w0 w) :
    Calls Tryd.prog 38 #[av] w fun e w' => ∃ v, ∃ P : List (FuncD × Value × Value), e = .returned v ∧ P.map Prod.fst = l ∧ w'.ownsRow w.heap.size 51 5 v l.length (P.flatMap funCells) ∧ (∀ q ∈ P, RdFunc none w0 q.1 q.2.1 q.2.2) ∧ Below w.heap.size w w' := by
  obtain ⟨a, c, rfl, ⟨hl, -⟩, hr⟩ := h
  obtain ⟨P, hPl, hP⟩ := choose_listM (R := fun i (q : FuncD × Value × Value) => l[i]? = some q.1 ∧ ∃ b o, a = some ⟨b, o, none⟩ ∧ RdFunc none w0 q.1 q.2.1 q.2.2 ∧ ∀ j u, (funCells q)[j]? = some u → w0.cell? ⟨b, o + i * 5 + j, none⟩ = some u) l.length (fun i hi => by
    obtain ⟨x, hx⟩ : ∃ x, l[i]? = some x := ⟨_, List.getElem?_eq_getElem hi⟩
    obtain ⟨b, o, pv, cv, rfl, -, c0, c1, c2, c3, c4, hri⟩ := hr i x hx
    refine ⟨(x, pv, cv), hx, b, o, rfl, hri, fun j u hu => ?_⟩
    have hj : j < 5 := (List.getElem?_eq_some_iff.1 hu).1
    match j, hj with
    | 0, _ => simp [funCells] at hu; subst hu; exact c0
    | 1, _ => simp [funCells] at hu; subst hu; exact c1
    | 2, _ => simp [funCells] at hu; subst hu; exact c2
    | 3, _ => simp [funCells] at hu; subst hu; exact c3
    | 4, _ => simp [funCells] at hu; subst hu; exact c4)
  have hfl : (P.flatMap funCells).length = l.length * 5 := by rw [flat_length funCells 5 (fun _ => rfl), hPl]
  have hfst : P.map Prod.fst = l := by
    apply List.ext_getElem?
    intro i
    rw [List.getElem?_map]
    cases hx : P[i]? with
    | none =>
      rw [List.getElem?_eq_none_iff] at hx
      rw [List.getElem?_eq_none (by omega)]
      rfl
    | some q => rw [(hP i q hx).1]; rfl
  have hrd : ∀ q ∈ P, RdFunc none w0 q.1 q.2.1 q.2.2 := fun q hq => by
    obtain ⟨i, hi⟩ := List.mem_iff_getElem?.1 hq
    obtain ⟨-, b, o, -, hr, -⟩ := hP i q hi
    exact hr
  refine (cloneFunN a l.length c (P.flatMap funCells) w (fun j u hu => ?_) hfl hl (fun u hu => ?_)).mono ?_
  · have hj := (List.getElem?_eq_some_iff.1 hu).1
    rw [hfl] at hj
    obtain ⟨q, hq⟩ : ∃ q, P[j / 5]? = some q := ⟨_, List.getElem?_eq_getElem (by omega)⟩
    obtain ⟨-, b, o, ha, -, hc⟩ := hP _ q hq
    have e := flat_get funCells 5 (fun _ => rfl) P (j / 5) (j % 5) q hq (by omega)
    rw [show j / 5 * 5 + j % 5 = j by omega, hu] at e
    have := hc (j % 5) u e.symm
    rw [show o + j / 5 * 5 + j % 5 = o + j by omega] at this
    exact ⟨b, o, ha, cell_keep hbw this⟩
  · obtain ⟨q, hq, hx⟩ := List.mem_flatMap.1 hu
    have h1 := hrd q hq
    obtain ⟨pa, pc, e1, -⟩ := h1.1
    obtain ⟨ca, cc, e2, -⟩ := h1.2.1
    simp only [funCells, List.mem_cons, List.not_mem_nil, or_false] at hx
    rcases hx with rfl | rfl | rfl | rfl | rfl
    all_goals first | rfl | (rw [e1]; rfl) | (rw [e2]; rfl)
  · rintro e w' ⟨v, rfl, hown, hb⟩
    exact ⟨v, P, rfl, hfst, hown, hrd, hb⟩
theorem keep_walk {P : Program} {ops : Array Oper} {C C0 : World → Prop} {K : Act → Prop} {rs ks : List Nat} {l1 l2 : List Oper} {a : Act} (e1 : opsOf ops rs = l1) (e2 : opsOf ops ks = l2) (h : wpQuiet P ops C (fun a1 => wpQuiet P ops C0 K l2 a1) l1 a) :
    wpQuiet P ops C (fun a1 => wpQuiet P ops C0 K (opsOf ops ks) a1) (opsOf ops rs) a := by rw [e1, e2]; exact h
theorem own_sameC {w w' : World} {base base' : Nat} {e : TypeId} {size n : Nat} {v : Value} {xs : List Value} (h : w.ownsRow base e size v n xs) (hs : ∀ b, base ≤ b → w'.heap[b]? = w.heap[b]?) (hb : base' ≤ base) : w'.ownsRow base' e size v n xs := by
  obtain ⟨hl, h | ⟨g, cap, cur, e1, hg, hc, h1⟩⟩ := h
  · exact ⟨hl, .inl h⟩
  · exact ⟨hl, .inr ⟨g, cap, cur, e1, Nat.le_trans hb hg, (hs g hg).trans hc, h1⟩⟩
theorem flat_midF (A B : List (FuncD × Value × Value)) (x : FuncD) (pv cv pv' cv' : Value) : (((A ++ (x, pv, cv) :: B).flatMap funCells).set (A.length * 5 + 1) pv').set (A.length * 5 + 2) cv' = (A ++ (x, pv', cv') :: B).flatMap funCells := by
  have hA : (A.flatMap funCells).length = A.length * 5 := flat_length funCells 5 (fun _ => rfl) A
  rw [List.flatMap_append, List.flatMap_append, List.flatMap_cons, List.flatMap_cons, List.set_append, if_neg (by omega), hA, show A.length * 5 + 1 - A.length * 5 = 1 by omega, List.set_append, if_neg (by omega), hA, show A.length * 5 + 2 - A.length * 5 = 2 by omega]
  rfl
theorem flat_setF {P : List (FuncD × Value × Value)} {i : Nat} {x : FuncD} {pv cv pv' cv' : Value} (h : P[i]? = some (x, pv, cv)) : ((P.flatMap funCells).set (i * 5 + 1) pv').set (i * 5 + 2) cv' = (P.set i (x, pv', cv')).flatMap funCells := by
  have hi := (List.getElem?_eq_some_iff.1 h).1
  have hx := (List.getElem?_eq_some_iff.1 h).2
  have hP : P = P.take i ++ (x, pv, cv) :: P.drop (i + 1) := by
    rw [← hx, ← List.drop_eq_getElem_cons hi, List.take_append_drop]
  have hl : (P.take i).length = i := by rw [List.length_take]; omega
  have h2 : P.set i (x, pv', cv') = P.take i ++ (x, pv', cv') :: P.drop (i + 1) := by
    rw [List.set_eq_take_append_cons_drop, if_pos hi]
  rw [h2, ← flat_midF (P.take i) (P.drop (i + 1)) x pv cv pv' cv', hl, ← hP]
set_option maxRecDepth 100000 in
set_option maxHeartbeats 12800000 in
/-- **prog.Copy**. -/
theorem copyProgN (p : ProgD) (cv av fv mv : Value) (w : World) (h : RdProg none w p cv av fv mv) :
    Calls Tryd.prog 15 #[progV p cv av fv mv] w fun e w' => ∃ cv' av' fv' mv', e = .returned (progV p cv' av' fv' mv') ∧ RdProg (some (upFrom w.heap.size)) w' p cv' av' fv' mv' ∧ Below w.heap.size w w' := by
  obtain ⟨h1, h2, h3, h4, hrest⟩ := h
  have H1 := Lib.hid h1
  have H2 := Lib.hid h2
  have H3 := Lib.hid h3
  have H4 := Lib.hid h4
  have HW := Lib.hid hrest
  clear h1 h2 h3 h4 hrest
  go_enter Tryd.func15, Tryd.ntmps15
  go_wp2_with fail
  have hb0 : Below w.heap.size w ((w.alloc (.cells #[.int .i64 p.width, cv, av, fv, mv] 27)).alloc (.cells #[.int .i64 0, .slice none 0 0, .slice none 0 0, .slice none 0 0, .slice none 0 0] 27)) := (((Below.refl _ _).alloc (Nat.le_refl _) _).alloc (by simp) _)
  have g0 := heap_alloc2_old w (.cells #[.int .i64 p.width, cv, av, fv, mv] 27) (.cells #[.int .i64 0, .slice none 0 0, .slice none 0 0, .slice none 0 0, .slice none 0 0] 27)
  have g1 := heap_alloc2_new w (.cells #[.int .i64 p.width, cv, av, fv, mv] 27) (.cells #[.int .i64 0, .slice none 0 0, .slice none 0 0, .slice none 0 0, .slice none 0 0] 27)
  generalize ((w.alloc (.cells #[.int .i64 p.width, cv, av, fv, mv] 27)).alloc (.cells #[.int .i64 0, .slice none 0 0, .slice none 0 0, .slice none 0 0, .slice none 0 0] 27)) = W0 at *
  have c1 := row_of g0 1 cv rfl
  have c2 := row_of g0 2 av rfl
  have c3 := row_of g0 3 fv rfl
  have c4 := row_of g0 4 mv rfl
  have f1 := frozen_of_row W0 _ 1 _ _ g0
  have f2 := frozen_of_row W0 _ 2 _ _ g0
  have f3 := frozen_of_row W0 _ 3 _ _ g0
  have f4 := frozen_of_row W0 _ 4 _ _ g0
  have G0 := Lib.hid g0
  have G1 := Lib.hid g1
  clear g0 g1
  refine wp_region_plan (fun w' => w'.cell? ⟨w.heap.size, 1, none⟩ = some cv ∧ w'.cell? ⟨w.heap.size, 2, none⟩ = some av ∧ w'.cell? ⟨w.heap.size, 3, none⟩ = some fv ∧ w'.cell? ⟨w.heap.size, 4, none⟩ = some mv ∧ Below W0.heap.size W0 w') (fun j => decide (13 ≤ j)) [(0, true), (1, true), (3, true), (4, true), (6, true), (7, true), (9, true), (10, true), (2, false), (12, true), (5, false), (8, false), (11, false), (13, false), (14, false), (15, false), (16, false), (17, false), (18, false), (19, false)] (by kernel_rfl) (by kernel_rfl) rfl (by kernel_rfl) (fun _ d _ _ _ h => by cases d <;> exact h) ?_
  have hS : W0.drew.cell? ⟨w.heap.size, 1, none⟩ = some cv ∧ W0.drew.cell? ⟨w.heap.size, 2, none⟩ = some av ∧ W0.drew.cell? ⟨w.heap.size, 3, none⟩ = some fv ∧ W0.drew.cell? ⟨w.heap.size, 4, none⟩ = some mv ∧ Below W0.heap.size W0 W0.drew := ⟨c1, c2, c3, c4, (Below.refl _ _).drew⟩
  refine ⟨.pointer (some ⟨w.heap.size, 1, none⟩), _, rfl, .inl ⟨rfl, fun w' hw => by go_simp⟩, hS, ?_⟩
  refine ⟨cv, _, rfl, .inl ⟨rfl, fun w' hw => by obtain ⟨e1, e2, e3, e4, _⟩ := hw; go_simp⟩, hS, ?_⟩
  refine ⟨.pointer (some ⟨w.heap.size, 2, none⟩), _, rfl, .inl ⟨rfl, fun w' hw => by go_simp⟩, hS, ?_⟩
  refine ⟨av, _, rfl, .inl ⟨rfl, fun w' hw => by obtain ⟨e1, e2, e3, e4, _⟩ := hw; go_simp⟩, hS, ?_⟩
  refine ⟨.pointer (some ⟨w.heap.size, 3, none⟩), _, rfl, .inl ⟨rfl, fun w' hw => by go_simp⟩, hS, ?_⟩
  refine ⟨fv, _, rfl, .inl ⟨rfl, fun w' hw => by obtain ⟨e1, e2, e3, e4, _⟩ := hw; go_simp⟩, hS, ?_⟩
  refine ⟨.pointer (some ⟨w.heap.size, 4, none⟩), _, rfl, .inl ⟨rfl, fun w' hw => by go_simp⟩, hS, ?_⟩
  refine ⟨mv, _, rfl, .inl ⟨rfl, fun w' hw => by obtain ⟨e1, e2, e3, e4, _⟩ := hw; go_simp⟩, hS, ?_⟩
  refine plan_step rfl ?_
  go_wp2_with (go_at_call 36; refine (cloneStrsN _ p.chans _ (H1.out.keep hb0.drew)).mono ?_; rintro e w1 ⟨v1, rfl, hr1, hb1⟩; obtain ⟨a1, k1, rfl, _⟩ := id hr1)
  have hb1' : Below W0.heap.size W0 w1 := (Below.refl _ _).drew.trans hb1
  have hS1 : w1.cell? ⟨w.heap.size, 1, none⟩ = some cv ∧ w1.cell? ⟨w.heap.size, 2, none⟩ = some av ∧ w1.cell? ⟨w.heap.size, 3, none⟩ = some fv ∧ w1.cell? ⟨w.heap.size, 4, none⟩ = some mv ∧ Below W0.heap.size W0 w1 := ⟨cell_keep hb1' c1, cell_keep hb1' c2, cell_keep hb1' c3, cell_keep hb1' c4, hb1'⟩
  refine ⟨fun _ => hS1, ?_⟩
  refine ⟨.pointer (some ⟨w.heap.size, 1, none⟩), _, rfl, .inl ⟨rfl, fun w' hw => by go_simp⟩, hS1, ?_⟩
  refine plan_step rfl ?_
  go_wp2_with (go_at_call 37; refine (cloneArrsN _ p.arrays _ (H2.out.keep (bcomp hb0 hb1'))).mono ?_; rintro e w2 ⟨v2, rfl, hr2, hb2⟩; obtain ⟨a2, k2, rfl, _⟩ := id hr2)
  have hb2' : Below W0.heap.size W0 w2 := bcomp hb1' hb2
  have hS2 : w2.cell? ⟨w.heap.size, 1, none⟩ = some cv ∧ w2.cell? ⟨w.heap.size, 2, none⟩ = some av ∧ w2.cell? ⟨w.heap.size, 3, none⟩ = some fv ∧ w2.cell? ⟨w.heap.size, 4, none⟩ = some mv ∧ Below W0.heap.size W0 w2 := ⟨cell_keep hb2' c1, cell_keep hb2' c2, cell_keep hb2' c3, cell_keep hb2' c4, hb2'⟩
  refine ⟨fun _ => hS2, ?_⟩
  refine plan_step rfl ?_
  go_wp2_with (go_at_call 38; refine (cloneFunsN _ p.funcs w _ H3.out (bcomp hb0 hb2')).mono ?_; rintro e w3 ⟨v3, PF, rfl, hP3, hr3, hq3, hb3⟩; obtain ⟨a3, k3, rfl, _⟩ := own_read hr3)
  have hb3' : Below W0.heap.size W0 w3 := bcomp hb2' hb3
  have hS3 : w3.cell? ⟨w.heap.size, 1, none⟩ = some cv ∧ w3.cell? ⟨w.heap.size, 2, none⟩ = some av ∧ w3.cell? ⟨w.heap.size, 3, none⟩ = some fv ∧ w3.cell? ⟨w.heap.size, 4, none⟩ = some mv ∧ Below W0.heap.size W0 w3 := ⟨cell_keep hb3' c1, cell_keep hb3' c2, cell_keep hb3' c3, cell_keep hb3' c4, hb3'⟩
  refine ⟨fun _ => hS3, ?_⟩
  refine plan_step rfl ?_
  go_wp2_with (go_at_call 39; refine (copyInstrsN _ p.main _ (H4.out.keep (bcomp hb0 hb3'))).mono ?_; rintro e w4 ⟨v4, rfl, hr4, hb4⟩; obtain ⟨a4, k4, rfl, _⟩ := id hr4)
  have hb4' : Below W0.heap.size W0 w4 := bcomp hb3' hb4
  have hS4 : w4.cell? ⟨w.heap.size, 1, none⟩ = some cv ∧ w4.cell? ⟨w.heap.size, 2, none⟩ = some av ∧ w4.cell? ⟨w.heap.size, 3, none⟩ = some fv ∧ w4.cell? ⟨w.heap.size, 4, none⟩ = some mv ∧ Below W0.heap.size W0 w4 := ⟨cell_keep hb4' c1, cell_keep hb4' c2, cell_keep hb4' c3, cell_keep hb4' c4, hb4'⟩
  refine ⟨fun _ => hS4, ?_⟩
  have hlt : w.heap.size + 1 < W0.heap.size := (Array.getElem?_eq_some_iff.1 G1.out).1
  have d1 := cell_keep hb4' c1
  have d2 := cell_keep hb4' c2
  have d3 := cell_keep hb4' c3
  have d4 := cell_keep hb4' c4
  have e1 := free_keep hb4' c1 f1
  have e2 := free_keep hb4' c2 f2
  have e3 := free_keep hb4' c3 f3
  have e4 := free_keep hb4' c4 f4
  clear hS hS1 hS2 hS3 hS4
  have g0 := (hb4'.block _ (by omega)).trans G0.out
  have g1 := (hb4'.block _ hlt).trans G1.out
  have I0 := Lib.hid (heap_setCell_same _ _ 4 _ _ (.slice a4 p.main.length k4) (heap_setCell_same _ _ 3 _ _ (.slice a3 p.funcs.length k3) (heap_setCell_same _ _ 2 _ _ (.slice a2 p.arrays.length k2) (heap_setCell_same _ _ 1 _ _ (.slice a1 p.chans.length k1) g0))))
  have I1 : Hid (((((w4.setCell ⟨w.heap.size, 1, none⟩ (.slice a1 p.chans.length k1)).setCell ⟨w.heap.size, 2, none⟩ (.slice a2 p.arrays.length k2)).setCell ⟨w.heap.size, 3, none⟩ (.slice a3 p.funcs.length k3)).setCell ⟨w.heap.size, 4, none⟩ (.slice a4 p.main.length k4)).heap[w.heap.size + 1]? = some (.cells #[.int .i64 0, .slice none 0 0, .slice none 0 0, .slice none 0 0, .slice none 0 0] 27 (0, 0))) := by
    show _ = _
    rw [heap_setCell_other _ _ _ _ (by simp), heap_setCell_other _ _ _ _ (by simp), heap_setCell_other _ _ _ _ (by simp), heap_setCell_other _ _ _ _ (by simp)]
    exact g1
  have J := Lib.hid (And.intro hr1 (And.intro hr2 (And.intro (And.intro hP3 (And.intro hr3 hq3)) (And.intro hr4 (And.intro hb1 (And.intro hb2 (And.intro hb3 (And.intro hb4 (And.intro hb4' hlt)))))))))
  clear g0 g1 c1 c2 c3 c4 f1 f2 f3 f4 hr1 hr2 hP3 hr3 hq3 hr4 hb1 hb2 hb3 hb4 hb1' hb2' hb3' hb4' hlt
  refine plan_tail [13, 14, 15, 16, 17, 18, 19] [_, _, _, _, _, _, _] _ _ rfl rfl ?_
  go_upto_region 3 with fail
  obtain ⟨hr1, hr2, ⟨hP3, hr3, hq3⟩, hr4, hb1, hb2, hb3, hb4, hb4', hlt⟩ := J.out
  have hn : w.heap.size ≤ W0.heap.size := hb0.size
  have n1 : W0.heap.size ≤ w1.heap.size := hb1.size
  have n2 := hb2.size
  have n3 := hb3.size
  have n4 := hb4.size
  have hfr : ∀ b, W0.heap.size ≤ b → ((((w4.setCell ⟨w.heap.size, 1, none⟩ (.slice a1 p.chans.length k1)).setCell ⟨w.heap.size, 2, none⟩ (.slice a2 p.arrays.length k2)).setCell ⟨w.heap.size, 3, none⟩ (.slice a3 p.funcs.length k3)).setCell ⟨w.heap.size, 4, none⟩ (.slice a4 p.main.length k4)).heap[b]? = w4.heap[b]? := fun b hb => by
    rw [heap_setCell_other _ _ _ _ (by simp; omega), heap_setCell_other _ _ _ _ (by simp; omega), heap_setCell_other _ _ _ _ (by simp; omega), heap_setCell_other _ _ _ _ (by simp; omega)]
  have HRS : Hid (RdStrs (some (upFrom W0.heap.size)) ((((w4.setCell ⟨w.heap.size, 1, none⟩ (.slice a1 p.chans.length k1)).setCell ⟨w.heap.size, 2, none⟩ (.slice a2 p.arrays.length k2)).setCell ⟨w.heap.size, 3, none⟩ (.slice a3 p.funcs.length k3)).setCell ⟨w.heap.size, 4, none⟩ (.slice a4 p.main.length k4)) (.slice a1 p.chans.length k1) p.chans) := RdStrs.same (((hr1.keep hb2).keep hb3).keep hb4) (fun b hb _ => hfr b hb) (fun b _ hb => hb)
  have HRA : Hid (RdArrs (some (upFrom W0.heap.size)) ((((w4.setCell ⟨w.heap.size, 1, none⟩ (.slice a1 p.chans.length k1)).setCell ⟨w.heap.size, 2, none⟩ (.slice a2 p.arrays.length k2)).setCell ⟨w.heap.size, 3, none⟩ (.slice a3 p.funcs.length k3)).setCell ⟨w.heap.size, 4, none⟩ (.slice a4 p.main.length k4)) (.slice a2 p.arrays.length k2) p.arrays) := RdArrs.same ((hr2.keep hb3).keep hb4) (fun b hb _ => hfr b (by have h1 : w1.heap.size ≤ b := hb; omega)) (fun b _ hb => by have h1 : w1.heap.size ≤ b := hb; show W0.heap.size ≤ b; omega)
  have HRM : Hid (RdInstrs (some (upFrom W0.heap.size)) ((((w4.setCell ⟨w.heap.size, 1, none⟩ (.slice a1 p.chans.length k1)).setCell ⟨w.heap.size, 2, none⟩ (.slice a2 p.arrays.length k2)).setCell ⟨w.heap.size, 3, none⟩ (.slice a3 p.funcs.length k3)).setCell ⟨w.heap.size, 4, none⟩ (.slice a4 p.main.length k4)) (.slice a4 p.main.length k4) p.main) := RdInstrs.same hr4 (fun b hb _ => hfr b (by have h1 : w3.heap.size ≤ b := hb; omega)) (fun b _ hb => by have h1 : w3.heap.size ≤ b := hb; show W0.heap.size ≤ b; omega)
  have HOW : Hid (((((w4.setCell ⟨w.heap.size, 1, none⟩ (.slice a1 p.chans.length k1)).setCell ⟨w.heap.size, 2, none⟩ (.slice a2 p.arrays.length k2)).setCell ⟨w.heap.size, 3, none⟩ (.slice a3 p.funcs.length k3)).setCell ⟨w.heap.size, 4, none⟩ (.slice a4 p.main.length k4)).ownsRow W0.heap.size 51 5 (.slice a3 p.funcs.length k3) p.funcs.length (PF.flatMap funCells)) := own_sameC (own_below hr3 hb4) (fun b hb => hfr b (by omega)) (by omega)
  have HBW : Hid (Below w.heap.size w ((((w4.setCell ⟨w.heap.size, 1, none⟩ (.slice a1 p.chans.length k1)).setCell ⟨w.heap.size, 2, none⟩ (.slice a2 p.arrays.length k2)).setCell ⟨w.heap.size, 3, none⟩ (.slice a3 p.funcs.length k3)).setCell ⟨w.heap.size, 4, none⟩ (.slice a4 p.main.length k4))) := (((((hb0.trans (hb4'.mono hn)).setCell (by simp) _).setCell (by simp) _).setCell (by simp) _).setCell (by simp) _)
  have HP3 := Lib.hid hP3
  have HQ3 := Lib.hid hq3
  have hszr : w.heap.size + 1 < W0.heap.size := hlt
  have HI0 : Hid (((((w4.setCell ⟨w.heap.size, 1, none⟩ (.slice a1 p.chans.length k1)).setCell ⟨w.heap.size, 2, none⟩ (.slice a2 p.arrays.length k2)).setCell ⟨w.heap.size, 3, none⟩ (.slice a3 p.funcs.length k3)).setCell ⟨w.heap.size, 4, none⟩ (.slice a4 p.main.length k4)).heap[w.heap.size]? = some (.cells #[.int .i64 p.width, .slice a1 p.chans.length k1, .slice a2 p.arrays.length k2, .slice a3 p.funcs.length k3, .slice a4 p.main.length k4] 27 (0, 0))) := I0.out
  have HI1 : Hid (((((w4.setCell ⟨w.heap.size, 1, none⟩ (.slice a1 p.chans.length k1)).setCell ⟨w.heap.size, 2, none⟩ (.slice a2 p.arrays.length k2)).setCell ⟨w.heap.size, 3, none⟩ (.slice a3 p.funcs.length k3)).setCell ⟨w.heap.size, 4, none⟩ (.slice a4 p.main.length k4)).heap[w.heap.size + 1]? = some (.cells #[.int .i64 0, .slice none 0 0, .slice none 0 0, .slice none 0 0, .slice none 0 0] 27 (0, 0))) := I1.out
  clear hr1 hr2 hP3 hr3 hq3 hr4 hb1 hb2 hb3 hb4 hb4' hlt n1 n2 n3 n4 hfr J I0 I1 d1 d2 d3 d4 e1 e2 e3 e4
  generalize ((((w4.setCell ⟨w.heap.size, 1, none⟩ (.slice a1 p.chans.length k1)).setCell ⟨w.heap.size, 2, none⟩ (.slice a2 p.arrays.length k2)).setCell ⟨w.heap.size, 3, none⟩ (.slice a3 p.funcs.length k3)).setCell ⟨w.heap.size, 4, none⟩ (.slice a4 p.main.length k4)) = W5 at *
  obtain ⟨r, hrr⟩ : ∃ r, w.heap.size = r := ⟨_, rfl⟩
  rw [hrr] at HI0 HI1 hszr
  try rw [hrr]
  have HRR := Lib.hid hrr
  clear hrr
  go_loopw [3, 23] (fun _ iv wr => ∃ (i : Nat) (P' : List (FuncD × Value × Value)), i ≤ p.funcs.length ∧ iv = .int .i64 i ∧ wr.ownsRow W0.heap.size 51 5 (.slice a3 p.funcs.length k3) p.funcs.length (P'.flatMap funCells) ∧ P'.map Prod.fst = p.funcs ∧ (∀ (t : Nat) q, P'[t]? = some q → (i ≤ t → RdFunc none w q.1 q.2.1 q.2.2) ∧ (t < i → RdFunc (some (upFrom W0.heap.size)) wr q.1 q.2.1 q.2.2)) ∧ (RdStrs (some (upFrom W0.heap.size)) wr (.slice a1 p.chans.length k1) p.chans ∧ RdArrs (some (upFrom W0.heap.size)) wr (.slice a2 p.arrays.length k2) p.arrays ∧ RdInstrs (some (upFrom W0.heap.size)) wr (.slice a4 p.main.length k4) p.main) ∧ wr.heap[r]? = some (.cells #[.int .i64 p.width, .slice a1 p.chans.length k1, .slice a2 p.arrays.length k2, .slice a3 p.funcs.length k3, .slice a4 p.main.length k4] 27 (0, 0)) ∧ wr.heap[r + 1]? = some (.cells #[.int .i64 0, .slice none 0 0, .slice none 0 0, .slice none 0 0, .slice none 0 0] 27 (0, 0)) ∧ Below w.heap.size w wr) (fun _ iv _ => p.funcs.length - (intOf iv).toNat)
  case atStart => exact ⟨0, PF, Nat.zero_le _, rfl, HOW.out, HP3.out, fun t q hq => ⟨fun _ => HQ3.out q (List.mem_of_getElem? hq), fun h => by omega⟩, ⟨HRS.out, HRA.out, HRM.out⟩, HI0.out, HI1.out, HBW.out⟩
  case round =>
    obtain ⟨i, P', hi, rfl, hown, hP', hq', hrds, hbx, hzr, hb⟩ := hrel
    obtain ⟨w2, rfl⟩ : ∃ x : World, x = wr := ⟨_, rfl⟩
    have HO2 := Lib.hid hown
    have HP2 := Lib.hid hP'
    have HQ2 := Lib.hid hq'
    have HB2 := Lib.hid hb
    have HRD := Lib.hid hrds
    have HBX := Lib.hid hbx
    have HZR := Lib.hid hzr
    have hPl : P'.length = p.funcs.length := by rw [← hP', List.length_map]
    obtain ⟨_, _, -, ⟨hfl, -⟩, -⟩ := id H3.out
    clear hown hP' hq' hb hrds hbx hzr
    by_cases hlt : i < p.funcs.length
    · have hlt1 : (i : Int) < (p.funcs.length : Int) := by omega
      obtain ⟨⟨x, pv, cv2⟩, hx⟩ : ∃ q, P'[i]? = some q := ⟨_, List.getElem?_eq_getElem (by omega)⟩
      have hrx := (HQ2.out i _ hx).1 (Nat.le_refl _)
      obtain ⟨pa, pc, e3, -, -⟩ := id hrx.1
      obtain ⟨ca, cc, e4, -, -⟩ := id hrx.2.1
      simp only at e3 e4
      subst e3 e4
      have hpos : 0 < (P'.flatMap funCells).length := by rw [flat_length funCells 5 (fun _ => rfl)]; omega
      obtain ⟨g, gc, eg, hgf, hgc⟩ := own_at HO2.out hpos
      simp only [Value.slice.injEq, true_and] at eg
      obtain ⟨rfl, rfl⟩ := eg
      have c1 := hgc (i * 5 + 1) (.slice pa x.params.length pc) (by rw [flat_get funCells 5 (fun _ => rfl) P' i 1 _ hx (by omega)]; rfl)
      have c2 := hgc (i * 5 + 2) (.slice ca x.code.length cc) (by rw [flat_get funCells 5 (fun _ => rfl) P' i 2 _ hx (by omega)]; rfl)
      rw [Nat.zero_add] at c1 c2
      have hgb : W0.heap.size ≤ g := (hgf _ rfl).1
      have HC1 := Lib.hid c1
      have HC2 := Lib.hid c2
      have HGF := Lib.hid hgf
      have HX := Lib.hid hx
      have HRX := Lib.hid hrx
      have gr : r < w2.heap.size := (Array.getElem?_eq_some_iff.1 HBX.out).1
      have gg : g < w2.heap.size := block_lt_of_cell c1
      go_upto_region 5 with fail
      have q1 := keepS_cell (S := [r, g]) (by simp) c1
      have q2 := keepS_cell (S := [r, g]) (by simp) c2
      have q3 := keepS_cell (S := [r, g]) (by simp) (row_of HBX.out 3 _ rfl)
      have q4 := keepS_cell (S := [r]) (by simp) (row_of HBX.out 3 _ rfl)
      clear c1 c2 hgf hgc hx hrx hpos
      refine wp_region_keep (fun w' => ∃ x, w' = keepS w2 [r, g] x) (fun w' => ∃ x, w' = keepS w2 [r] x) [0, 1, 2, 6, 7, 8, 9, 10, 11, 13, 14, 15, 16, 17, 18] [3, 4, 5] [12, 19, 20, 21, 22, 23, 24, 25] (fun j => decide (22 ≤ j)) (by kernel_rfl) (by kernel_rfl) rfl (by kernel_rfl) (fun _ d _ _ _ h => by cases d <;> exact h) ⟨_, keepS_of (fun _ _ => rfl)⟩ ⟨_, keepS_of (fun _ _ => rfl)⟩ ?_
      have HBd : Hid (Below w2.heap.size w2 w2.drew) := (Below.refl _ _).drew
      generalize w2.drew = y0 at *
      refine keep_walk (by simp only [opsOf, List.filterMap_cons, List.filterMap_nil, List.getElem?_toArray, List.getElem?_cons_succ, List.getElem?_cons_zero]; rfl) (by simp only [opsOf, List.filterMap_cons, List.filterMap_nil, List.getElem?_toArray, List.getElem?_cons_succ, List.getElem?_cons_zero]; rfl) ?_
      change wpQuiet _ _ _ _ [_, _, _, _, _, _, _, _, _, _, _, _, _, _, _] _
      (repeat (go_big_quiet_step (fail)))
      refine wpQuiet_nil ?_
      change wpQuiet _ _ _ _ [_, _, _] _
      (repeat (go_big_quiet_step (fail)))
      refine wpQuiet_nil ?_
      clear q1 q2 q3 q4
      have KEEP : Hid (∀ z : World, Below w2.heap.size w2 z → (∀ b ∈ [r], z.heap[b]? = w2.heap[b]?) ∧ (∀ b ∈ [r, g], z.heap[b]? = w2.heap[b]?)) := fun z hz => by
        refine ⟨fun b hb => ?_, fun b hb => ?_⟩
        · simp only [List.mem_cons, List.not_mem_nil, or_false] at hb
          subst hb
          exact hz.block _ gr
        · simp only [List.mem_cons, List.not_mem_nil, or_false] at hb
          rcases hb with rfl | rfl
          · exact hz.block _ gr
          · exact hz.block _ gg
      have HK0 := Lib.hid (KEEP.out y0 HBd.out)
      have HCS := Lib.hid (cloneStrsN _ x.params y0 ((HRX.out.1.keep HB2.out).keep HBd.out))
      refine ones_step rfl ?_
      refine mix_step rfl ?_
      go_wp2_with (go_at_call 36; refine HCS.out.mono ?_; rintro e y1 ⟨v1, rfl, hs1, hb1⟩; obtain ⟨va1, vc1, rfl, -, -⟩ := id hs1)
      have HS1 := Lib.hid hs1
      have HBa := Lib.hid (bcomp HBd.out hb1)
      have HK1 := Lib.hid (KEEP.out y1 HBa.out)
      clear hs1 hb1 HCS
      refine ⟨⟨fun _ => ⟨_, keepS_of HK1.out.1⟩, fun _ _ => ⟨_, keepS_of HK1.out.2⟩⟩, ?_⟩
      have HCI := Lib.hid (copyInstrsN _ x.code y1 ((HRX.out.2.1.keep HB2.out).keep HBa.out))
      refine ones_step rfl ?_
      refine mix_step rfl ?_
      go_wp2_with (go_at_call 39; refine HCI.out.mono ?_; rintro e y2 ⟨v2, rfl, hs2, hb2⟩; obtain ⟨va2, vc2, rfl, -, -⟩ := id hs2)
      have HS1b := Lib.hid (HS1.out.keep hb2)
      have HS2 := Lib.hid hs2
      have HSZ := Lib.hid hb2.size
      have HBb := Lib.hid (bcomp HBa.out hb2)
      have HK2 := Lib.hid (KEEP.out y2 HBb.out)
      clear hs2 hb2 HCI
      refine ⟨⟨fun _ => ⟨_, keepS_of HK2.out.1⟩, fun _ _ => ⟨_, keepS_of HK2.out.2⟩⟩, ?_⟩
      refine ones_step rfl ?_
      refine mix_step rfl ?_
      go_wp2_with fail
      refine ⟨⟨fun _ => ⟨_, keepS_of HK2.out.1⟩, fun _ _ => ⟨_, keepS_of HK2.out.2⟩⟩, ?_⟩
      refine ones_step rfl ?_
      refine mix_step rfl ?_
      go_wp2_with fail
      refine ⟨⟨fun _ => ⟨_, keepS_of HK2.out.1⟩, fun _ _ => ⟨_, keepS_of HK2.out.2⟩⟩, ?_⟩
      have d1 := cell_keep HBb.out HC1.out
      have d2 := cell_keep HBb.out HC2.out
      have fz1 := (HGF.out.keep gg HBb.out).frozen (i * 5 + 1)
      have fz2 := (HGF.out.keep gg HBb.out).frozen (i * 5 + 2)
      have hgr : g ≠ r := by omega
      have hyg : ∃ cs, y2.heap[g]? = some (.cells cs 51 (0, 0)) := by
        obtain ⟨gcs, hgcs⟩ := (HGF.out _ rfl).2
        exact ⟨gcs, (HBb.out.block g gg).trans hgcs⟩
      obtain ⟨gcs, hgy⟩ := hyg
      have HGY := Lib.hid hgy
      clear hgy
      refine ones_step rfl ?_
      refine mix_step rfl ?_
      go_wp2_with fail
      have KS1 : ∀ (z : World) (k : Nat) (u : Value), (∀ b ∈ [r], z.heap[b]? = w2.heap[b]?) → ∀ b ∈ [r], (z.setCell ⟨g, k, none⟩ u).heap[b]? = w2.heap[b]? := fun z k u hz b hb => by
        simp only [List.mem_cons, List.not_mem_nil, or_false] at hb
        subst hb
        rw [heap_setCell_other _ _ _ _ (by simpa using hgr.symm)]
        exact hz b (by simp)
      refine ⟨⟨fun _ => ⟨_, keepS_of (KS1 _ _ _ HK2.out.1)⟩, fun h => by cases h⟩, ?_⟩
      refine ones_step rfl ?_
      refine mix_step rfl ?_
      go_wp2_with fail
      refine ⟨⟨fun _ => ⟨_, keepS_of (KS1 _ _ _ HK2.out.1)⟩, fun h => by cases h⟩, ?_⟩
      refine ones_step rfl ?_
      refine mix_step rfl ?_
      go_wp2_with fail
      refine ⟨⟨fun _ => ⟨_, keepS_of (KS1 _ _ _ HK2.out.1)⟩, fun h => by cases h⟩, ?_⟩
      refine ones_step rfl ?_
      refine mix_step rfl ?_
      go_wp2_with fail
      refine ⟨⟨fun _ => ⟨_, keepS_of (KS1 _ _ _ (KS1 _ _ _ HK2.out.1))⟩, fun h => by cases h⟩, ?_⟩
      refine ones_nil ?_
      have hg0 := HGY.out
      have hg1 := heap_setCell_same y2 g (i * 5 + 1) gcs _ (.slice va1 x.params.length vc1) hg0
      have HO5 := Lib.hid (own_setC (k := i * 5 + 2) (u := .slice va2 x.code.length vc2) (own_setC (k := i * 5 + 1) (u := .slice va1 x.params.length vc1) (own_below HO2.out HBb.out)))
      rw [flat_setF HX.out] at HO5
      have hwg : w.heap.size ≤ g := by rw [HRR.out]; omega
      have HB5 := Lib.hid (((bcomp HB2.out HBb.out).setCell (p := ⟨g, i * 5 + 1, none⟩) hwg (.slice va1 x.params.length vc1)).setCell (p := ⟨g, i * 5 + 2, none⟩) hwg (.slice va2 x.code.length vc2))
      have hm1 := HB2.out.size
      have hm2 := HBd.out.size
      have hm3 := HBa.out.size
      have hsw : W0.heap.size ≤ y0.heap.size := by omega
      have HNEW : Hid (RdFunc (some (upFrom W0.heap.size)) ((y2.setCell ⟨g, i * 5 + 1, none⟩ (.slice va1 x.params.length vc1)).setCell ⟨g, i * 5 + 2, none⟩ (.slice va2 x.code.length vc2)) x (.slice va1 x.params.length vc1) (.slice va2 x.code.length vc2)) :=
        RdFunc.map (S := fun U => U ≠ 51) putS_hF (putS_hC hg1) (by decide) (by decide) (by decide) (RdFunc.map (S := fun U => U ≠ 51) putS_hF (putS_hC hg0) (by decide) (by decide) (by decide)
          ⟨RdStrs.same HS1b.out (fun _ _ _ => rfl) (fun b _ hb => by have h1 : y0.heap.size ≤ b := hb; show W0.heap.size ≤ b; omega), RdInstrs.same HS2.out (fun _ _ _ => rfl) (fun b _ hb => by have h1 : y1.heap.size ≤ b := hb; show W0.heap.size ≤ b; omega), HRX.out.2.2⟩)
      have HOLD : Hid (∀ q : FuncD × Value × Value, RdFunc (some (upFrom W0.heap.size)) w2 q.1 q.2.1 q.2.2 → RdFunc (some (upFrom W0.heap.size)) ((y2.setCell ⟨g, i * 5 + 1, none⟩ (.slice va1 x.params.length vc1)).setCell ⟨g, i * 5 + 2, none⟩ (.slice va2 x.code.length vc2)) q.1 q.2.1 q.2.2) := fun q hq =>
        RdFunc.map (S := fun U => U ≠ 51) putS_hF (putS_hC hg1) (by decide) (by decide) (by decide) (RdFunc.map (S := fun U => U ≠ 51) putS_hF (putS_hC hg0) (by decide) (by decide) (by decide) (hq.keep HBb.out))
      have HRD5 : Hid (RdStrs (some (upFrom W0.heap.size)) ((y2.setCell ⟨g, i * 5 + 1, none⟩ (.slice va1 x.params.length vc1)).setCell ⟨g, i * 5 + 2, none⟩ (.slice va2 x.code.length vc2)) (.slice a1 p.chans.length k1) p.chans ∧ RdArrs (some (upFrom W0.heap.size)) ((y2.setCell ⟨g, i * 5 + 1, none⟩ (.slice va1 x.params.length vc1)).setCell ⟨g, i * 5 + 2, none⟩ (.slice va2 x.code.length vc2)) (.slice a2 p.arrays.length k2) p.arrays ∧ RdInstrs (some (upFrom W0.heap.size)) ((y2.setCell ⟨g, i * 5 + 1, none⟩ (.slice va1 x.params.length vc1)).setCell ⟨g, i * 5 + 2, none⟩ (.slice va2 x.code.length vc2)) (.slice a4 p.main.length k4) p.main) :=
        ⟨RdStrs.map (S := fun U => U ≠ 51) putS_hF (putS_hC hg1) (by decide) (RdStrs.map (S := fun U => U ≠ 51) putS_hF (putS_hC hg0) (by decide) (HRD.out.1.keep HBb.out)),
         RdArrs.map (S := fun U => U ≠ 51) putS_hF (putS_hC hg1) (by decide) (RdArrs.map (S := fun U => U ≠ 51) putS_hF (putS_hC hg0) (by decide) (HRD.out.2.1.keep HBb.out)),
         RdInstrs.map (S := fun U => U ≠ 51) putS_hF (putS_hC hg1) (by decide) (by decide) (RdInstrs.map (S := fun U => U ≠ 51) putS_hF (putS_hC hg0) (by decide) (by decide) (HRD.out.2.2.keep HBb.out))⟩
      have HRR5 : Hid (((y2.setCell ⟨g, i * 5 + 1, none⟩ (.slice va1 x.params.length vc1)).setCell ⟨g, i * 5 + 2, none⟩ (.slice va2 x.code.length vc2)).heap[r]? = some (.cells #[.int .i64 p.width, .slice a1 p.chans.length k1, .slice a2 p.arrays.length k2, .slice (some ⟨g, 0, none⟩) p.funcs.length k3, .slice a4 p.main.length k4] 27 (0, 0)) ∧ ((y2.setCell ⟨g, i * 5 + 1, none⟩ (.slice va1 x.params.length vc1)).setCell ⟨g, i * 5 + 2, none⟩ (.slice va2 x.code.length vc2)).heap[r + 1]? = some (.cells #[.int .i64 0, .slice none 0 0, .slice none 0 0, .slice none 0 0, .slice none 0 0] 27 (0, 0))) := by
        have hgr1 : g ≠ r + 1 := by omega
        have gr1 : r + 1 < w2.heap.size := (Array.getElem?_eq_some_iff.1 HZR.out).1
        rw [heap_setCell_other _ _ _ _ (by simpa using hgr.symm), heap_setCell_other _ _ _ _ (by simpa using hgr.symm), heap_setCell_other _ _ _ _ (by simpa using hgr1.symm), heap_setCell_other _ _ _ _ (by simpa using hgr1.symm)]
        exact ⟨(HBb.out.block _ gr).trans HBX.out, (HBb.out.block _ gr1).trans HZR.out⟩
      clear hg0 hg1 hm1 hm2 hm3 hsw KS1 HS1b HS2 HK2 HK1 HK0 KEEP
      go_wp2_with fail
      go_roundw
      case rel =>
        refine ⟨i + 1, P'.set i (x, .slice va1 x.params.length vc1, .slice va2 x.code.length vc2), by omega, by go_num, HO5.out, ?_, fun t q hq => ?_, HRD5.out, HRR5.out.1, HRR5.out.2, HB5.out⟩
        · rw [← HP2.out]
          apply List.ext_getElem?
          intro t
          rw [List.getElem?_map, List.getElem?_map, List.getElem?_set]
          by_cases ht : i = t
          · subst ht
            rw [if_pos rfl, if_pos (List.getElem?_eq_some_iff.1 HX.out).1, HX.out]
            rfl
          · rw [if_neg ht]
        · rw [List.getElem?_set] at hq
          by_cases ht : i = t
          · subst ht
            rw [if_pos rfl, if_pos (List.getElem?_eq_some_iff.1 HX.out).1] at hq
            cases hq
            exact ⟨fun h => by omega, fun _ => HNEW.out⟩
          · rw [if_neg ht] at hq
            have h1 := HQ2.out t q hq
            exact ⟨fun h => h1.1 (by omega), fun h => HOLD.out q (h1.2 (by omega))⟩
      case measure => simp [intOf]; omega
    · have hlt1 : ¬ (i : Int) < (p.funcs.length : Int) := by omega
      obtain rfl : i = p.funcs.length := by omega
      have q3 := row_of HBX.out 3 _ rfl
      go_wp2_with (first
        | (refine wpList_load_row rfl 27 (.tmp 1) rfl r rfl 27 #[.int .i64 p.width, .slice a1 p.chans.length k1, .slice a2 p.arrays.length k2, .slice a3 p.funcs.length k3, .slice a4 p.main.length k4] (0,0) _ ?h Tryd.underlying27 rfl ?s ?_; exact HBX.out; kernel_rfl)
        | (refine wpList_store_row rfl 27 (.tmp 2) (.tmp 51) rfl (r + 1) #[.int .i64 p.width, .slice a1 p.chans.length k1, .slice a2 p.arrays.length k2, .slice a3 p.funcs.length k3, .slice a4 p.main.length k4] rfl rfl 27 #[.int .i64 0, .slice none 0 0, .slice none 0 0, .slice none 0 0, .slice none 0 0] ?h2 ?s2 ?s3 ?s4 ?_; exact HZR.out; kernel_rfl; kernel_rfl; kernel_rfl))
      have hn : w.heap.size ≤ W0.heap.size := hb0.size
      have hle : w.heap.size ≤ r + 1 := by rw [HRR.out]; omega
      have hfr : ∀ b, W0.heap.size ≤ b → (w2.setRow (r + 1) #[.int .i64 p.width, .slice a1 p.chans.length k1, .slice a2 p.arrays.length k2, .slice a3 p.funcs.length k3, .slice a4 p.main.length k4]).heap[b]? = w2.heap[b]? := fun b hb => by
        rw [setRow_other _ _ _ _ (by omega)]
      have hRF : RdFuncs (some (upFrom W0.heap.size)) w2 (.slice a3 p.funcs.length k3) p.funcs := own_funcs HP2.out HO2.out hfl (fun q hq => by
        obtain ⟨t, ht⟩ := List.mem_iff_getElem?.1 hq
        exact (HQ2.out t q ht).2 (by have := (List.getElem?_eq_some_iff.1 ht).1; omega))
      refine bodyPost_ret (v := progV p (.slice a1 p.chans.length k1) (.slice a2 p.arrays.length k2) (.slice a3 p.funcs.length k3) (.slice a4 p.main.length k4)) ?_ rfl ⟨_, _, _, _, rfl, ⟨?_, ?_, ?_, ?_, HW.out⟩, below_row HB2.out hle _⟩
      · exact results_cell_row (P := Tryd.prog) (fn := Tryd.f15) rfl _ _ (r + 1) 27 _ (0,0) _ rfl (setRow_heap _ _ _ _ _ _ HZR.out) Tryd.underlying27 rfl (by kernel_rfl)
      · exact RdStrs.same HRD.out.1 (fun b hb _ => hfr b hb) (fun b _ hb => Nat.le_trans hn hb)
      · exact RdArrs.same HRD.out.2.1 (fun b hb _ => hfr b hb) (fun b _ hb => Nat.le_trans hn hb)
      · exact RdFuncs.same hRF (fun b hb _ => hfr b hb) (fun b _ hb => Nat.le_trans hn hb)
      · exact RdInstrs.same HRD.out.2.2 (fun b hb _ => hfr b hb) (fun b _ hb => Nat.le_trans hn hb)
end Go.Proofs.YteeebofjlchndaaDoor
