/- The walk of RulesFit: a policy fits a program if and only if its flat program has a level for each channel and site. Condition: the arguments read as the plain data; the tables hold what they are laid with; the chapter's examples hold. -/
import Derived.Test.YtgllkgedjplpdaaDoorRfA
import Derived.Test.YtgllkgedjplpdaaDoorRuD
import Derived.Test.YtgllkgedjplpdaaDoorRuP
import Derived.Test.YtgllkgedjplpdaaDoorFlG
import Derived.Test.YtgllkgedjplpdaaDoorFeP
set_option linter.unnecessarySimpa false
set_option linter.unusedVariables false
set_option linter.unusedSimpArgs false
namespace Go.Proofs.YtgllkgedjplpdaaDoor
open Go.ChangeShapes Go.WideShapes Go.ChangeAt Go.RowKit
theorem wordsU_of {lo:Option (Nat→Prop)} {w:World} {p:ProgD} {cv av fv mv:Value} (h:RdProg lo w p cv av fv mv):WordsP p:=by
 intro f x hx
 have h2:∃ av,RdInstr lo w x av:=by
  rcases bodyF_cases p f with e|e|⟨g,fd,_,e1,e⟩
  ·rw [e] at hx
   obtain ⟨i,hi⟩:=List.getElem?_of_mem hx
   obtain ⟨_,_,_,_,hr⟩:=h.2.2.2.1
   obtain ⟨_,_,_,_,_,_,_,_,_,_,_,_,hri⟩:=hr i x hi
   exact ⟨_,hri⟩
  ·rw [e] at hx;cases hx
  ·rw [e] at hx
   obtain ⟨i,hi⟩:=List.getElem?_of_mem hx
   obtain ⟨_,_,_,_,hr⟩:=h.2.2.1
   obtain ⟨_,_,_,_,_,_,_,_,_,_,_,hf⟩:=hr g fd e1
   obtain ⟨_,_,_,_,hr2⟩:=hf.2.1
   obtain ⟨_,_,_,_,_,_,_,_,_,_,_,_,hri⟩:=hr2 i x hi
   exact ⟨_,hri⟩
 obtain ⟨av',h3⟩:=h2
 refine ⟨h3.2.1.1,fun a ha=>?_⟩
 obtain ⟨i,hi⟩:=List.getElem?_of_mem ha
 obtain ⟨_,_,_,_,hr⟩:=h3.1
 obtain ⟨_,_,_,_,_,_,hu,_⟩:=hr i a hi
 exact ⟨hu.1,by have:=hu.2;omega⟩
theorem LevSaid.slice1 {E:Int} {f:FlatD} {q:PolD} {b:Nat} {w:World} {v1 v2:Value} (h:LevSaid E f q b w v1 v2):∃ x y z,v1=.slice x y z:=by
 by_cases he:E=0
 ·obtain ⟨a,c,e⟩:=(h.1 he).1.is;exact ⟨a,_,c,e⟩
 ·exact ⟨_,_,_,(h.2 he).1⟩
theorem LevSaid.slice2 {E:Int} {f:FlatD} {q:PolD} {b:Nat} {w:World} {v1 v2:Value} (h:LevSaid E f q b w v1 v2):∃ x y z,v2=.slice x y z:=by
 by_cases he:E=0
 ·obtain ⟨a,c,e⟩:=(h.1 he).2.is;exact ⟨a,_,c,e⟩
 ·exact ⟨_,_,_,(h.2 he).2⟩

set_option maxRecDepth 100000 in
set_option maxHeartbeats 6400000 in
/-- **bound**: is that the level of the name? -/
theorem bound29 (v : Value) (l : List BindD) (s : ByteArray) (x0 : Int) (w : World) (h : RdRow kBind none w v l) :
    Calls Tryd.prog 17 #[v, .string s, .int .i64 x0] w fun e w' => e = .returned (.bool (levelOf l s == some x0)) ∧ Below w.heap.size w w' := by
  obtain ⟨a, cp, rfl⟩ := h.is
  have hl : l.length * 24 ≤ 140737488351232 := h.size
  have HR := Lib.hid h
  clear h
  obtain ⟨V, hV⟩ : ∃ V, (levelOf l s == some x0) = V := ⟨_, rfl⟩
  rw [hV]
  have HV := Lib.hid hV
  clear hV
  go_enter Tryd.func17, Tryd.ntmps17
  go_wp2_with fail
  go_loopw [7] (fun i wr => ∃ k : Nat, k ≤ l.length ∧ i = .int .i64 k ∧ Hid (levelOf l s = levelOf (l.drop k) s) ∧ w = wr) (fun i _ => l.length - (intOf i).toNat)
  case atStart => exact ⟨0, Nat.zero_le _, rfl, rfl, rfl⟩
  case round =>
    obtain ⟨k, hk, rfl, HQ, rfl⟩ := hrel
    by_cases hlt : k < l.length
    · have hlt1 : (k : Int) < l.length := by omega
      obtain ⟨x, hx⟩ : ∃ x, l[k]? = some x := ⟨_, List.getElem?_eq_getElem hlt⟩
      obtain ⟨b, o, rfl, _, c0, c1, hxs, hx1⟩ := atBind HR.out hx
      have HS : Hid (levelOf l s = if isB s x then some x.level else levelOf (l.drop (k + 1)) s) := by
        show _ = _
        obtain ⟨h1, e1⟩ := List.getElem?_eq_some_iff.1 hx
        rw [HQ.out, List.drop_eq_getElem_cons h1, e1, levelOf]
      clear hx HQ
      cases he : (x.name.toList == s.toList)
      · have HQ2 : Hid (levelOf l s = levelOf (l.drop (k + 1)) s) := by show _ = _; rw [HS.out, isB, he]; rfl
        clear HS
        go_wp2_with fail
        go_roundw
        case rel => exact ⟨k + 1, by omega, by go_num, HQ2, by first | trivial | rfl⟩
        case measure => simp [intOf]; omega
      · have HVV : Hid (V = (x.level == x0)) := by
          show _ = _
          rw [← HV.out, HS.out, isB, he]
          rfl
        clear HS HV
        go_wp2_with fail
        go_ret
        exact ⟨by rw [HVV.out]; rfl, Below.refl _ _⟩
    · obtain rfl : k = l.length := by omega
      have hlt1 : ¬ (l.length : Int) < l.length := by omega
      obtain rfl : V = false := by rw [← HV.out, HQ.out, List.drop_length]; rfl
      go_wp2_with fail
      go_ret
      exact ⟨rfl, Below.refl _ _⟩

set_option maxRecDepth 100000 in
set_option maxHeartbeats 12800000 in
/-- The walk of **RulesFit**. -/
theorem rulesFit_of (hAw : ∀ w, Laid w → LaidM w → BitsAt w → Calls Tryd.prog 13 #[] w fun e w' => e = .returned (.bool true) ∧ Below w.heap.size w w') (p : ProgD) (cv av fv mv : Value) (q : PolD) (lv ov qv sv : Value) (w : World) (h : RdProg none w p cv av fv mv) (g : RdPol none w q lv ov qv sv) (hL : Laid w) (hM : LaidM w) (hT : BitsAt w) :
    Calls Tryd.prog 4 #[progV p cv av fv mv, polV q lv ov qv sv] w fun e w' => e = .returned (.bool true) ∧ Below w.heap.size w w' := by
  obtain ⟨pa, pc, rfl, -, -⟩ := id h.1
  obtain ⟨aa, ac, rfl, -, -⟩ := id h.2.1
  obtain ⟨fa, fc, rfl, -, -⟩ := id h.2.2.1
  obtain ⟨ma, mc, rfl, -, -⟩ := id h.2.2.2.1
  obtain ⟨la, lc, rfl⟩ := g.1.is
  obtain ⟨oa, oc, rfl⟩ := g.2.1.is
  obtain ⟨ca, cc, rfl⟩ := g.2.2.1.is
  obtain ⟨ta, tc, rfl⟩ := g.2.2.2.1.is
  obtain ⟨hx0, hx1, hb0⟩ := heap2_of (w := w) (A := .cells #[.int .i64 p.width, .slice pa p.chans.length pc, .slice aa p.arrays.length ac, .slice fa p.funcs.length fc, .slice ma p.main.length mc] 43) (B := .cells #[.slice la q.levels.length lc, .slice oa q.order.length oc, .slice ca q.chans.length cc, .slice ta q.sites.length tc, .bool q.sens, .int .i64 q.steps, .int .i64 q.paths, .int .i64 q.nodes, .int .i64 q.confs] 30) (Below.refl _ _)
  have H := Lib.hid (h.keep hb0)
  have G0 := Lib.hid (g.keep hb0)
  have HL := Lib.hid hL
  have HM := Lib.hid hM
  have HT := Lib.hid hT
  have HX0 := Lib.hid hx0
  have HX1 := Lib.hid hx1
  have HB0 := Lib.hid hb0
  have HAW := Lib.hid hAw
  clear h g hL hM hT hx0 hx1 hb0 hAw
  go_enter Tryd.func4, Tryd.ntmps4
  go_upto_region 1 with fail
  generalize (w.alloc (.cells #[.int .i64 p.width, .slice pa p.chans.length pc, .slice aa p.arrays.length ac, .slice fa p.funcs.length fc, .slice ma p.main.length mc] 43)).alloc (.cells #[.slice la q.levels.length lc, .slice oa q.order.length oc, .slice ca q.chans.length cc, .slice ta q.sites.length tc, .bool q.sens, .int .i64 q.steps, .int .i64 q.paths, .int .i64 q.nodes, .int .i64 q.confs] 30) = W at *
  obtain ⟨fb, hfb⟩ : ∃ fb, w.heap.size = fb := ⟨_, rfl⟩
  have HFB := Lib.hid hfb
  rw [hfb] at HX0 HX1
  rw [hfb]
  clear hfb
  obtain ⟨P, hP⟩ : ∃ P, fewP p = P := ⟨_, rfl⟩
  obtain ⟨G, hG⟩ : ∃ G, fewQ q = G := ⟨_, rfl⟩
  have HS1 : Hid (∀ z, Below W.heap.size W z → Calls Tryd.prog 14 #[.agg #[.int .i64 p.width, .slice pa p.chans.length pc, .slice aa p.arrays.length ac, .slice fa p.funcs.length fc, .slice ma p.main.length mc]] z fun e w' => ∃ a1 k1 a2 k2 a3 k3 a4 k4, e = .returned (.agg #[.int .i64 P.width, .slice a1 P.chans.length k1, .slice a2 P.arrays.length k2, .slice a3 P.funcs.length k3, .slice a4 P.main.length k4]) ∧ RdProg (some (upFrom z.heap.size)) w' P (.slice a1 P.chans.length k1) (.slice a2 P.arrays.length k2) (.slice a3 P.funcs.length k3) (.slice a4 P.main.length k4) ∧ Below z.heap.size z w') := by
    intro z hz
    refine (few_prog p _ _ _ _ z (H.out.keep hz)).mono ?_
    rintro e w' ⟨c, s, a, k, rfl, hrd, hz⟩
    rw [hP] at hrd ⊢
    obtain ⟨a1, k1, rfl, -, -⟩ := id hrd.1
    obtain ⟨a2, k2, rfl, -, -⟩ := id hrd.2.1
    obtain ⟨a3, k3, rfl, -, -⟩ := id hrd.2.2.1
    obtain ⟨a4, k4, rfl, -, -⟩ := id hrd.2.2.2.1
    exact ⟨a1, k1, a2, k2, a3, k3, a4, k4, rfl, hrd, hz⟩
  have HS2 : Hid (∀ z, Below W.heap.size W z → Calls Tryd.prog 9 #[.agg #[.slice la q.levels.length lc, .slice oa q.order.length oc, .slice ca q.chans.length cc, .slice ta q.sites.length tc, .bool q.sens, .int .i64 q.steps, .int .i64 q.paths, .int .i64 q.nodes, .int .i64 q.confs]] z (PolNew G z)) := fun z hz => by rw [← hG]; exact few28 q _ _ _ _ z (G0.out.keep hz)
  clear hP hG
  refine wp_region_own [0, 2] [⟨1, some 15, []⟩, ⟨3, some 17, [(1, some 15)]⟩] [4, 5] [_, _] (fun j => decide (4 ≤ j))
    (fun j v w' lo hi => match j with
      | 1 => ∃ a1 k1 a2 k2 a3 k3 a4 k4, v = .agg #[.int .i64 P.width, .slice a1 P.chans.length k1, .slice a2 P.arrays.length k2, .slice a3 P.funcs.length k3, .slice a4 P.main.length k4] ∧ RdProg (some (upFrom W.heap.size)) w' P (.slice a1 P.chans.length k1) (.slice a2 P.arrays.length k2) (.slice a3 P.funcs.length k3) (.slice a4 P.main.length k4)
      | 3 => ∃ b1 l1 b2 l2 b3 l3 b4 l4, v = .agg #[.slice b1 G.levels.length l1, .slice b2 G.order.length l2, .slice b3 G.chans.length l3, .slice b4 G.sites.length l4, .bool G.sens, .int .i64 G.steps, .int .i64 G.paths, .int .i64 G.nodes, .int .i64 G.confs] ∧ RdPol (some (upFrom W.heap.size)) w' G (.slice b1 G.levels.length l1) (.slice b2 G.order.length l2) (.slice b3 G.chans.length l3) (.slice b4 G.sites.length l4)
      | _ => True) (by kernel_rfl) (by kernel_rfl) rfl (by kernel_rfl) rfl rfl (fun _ d _ _ _ h => by cases d <;> exact h) ?_ ?_
  · intro j v w w' lo hi hy hbw
    match j, hy with
    | 1, ⟨a1, k1, a2, k2, a3, k3, a4, k4, e, h1⟩ => exact ⟨a1, k1, a2, k2, a3, k3, a4, k4, e, h1.keep hbw⟩
    | 3, ⟨a1, k1, a2, k2, a3, k3, a4, k4, e, h1⟩ => exact ⟨a1, k1, a2, k2, a3, k3, a4, k4, e, h1.keep hbw⟩
    | 0, _ | 2, _ | (x + 4), _ => trivial
  have e0 := ext_cell (row_of HX0.out 0 (.int .i64 p.width) rfl)
  have e1 := ext_cell (row_of HX0.out 1 (.slice pa p.chans.length pc) rfl)
  have e2 := ext_cell (row_of HX0.out 2 (.slice aa p.arrays.length ac) rfl)
  have e3 := ext_cell (row_of HX0.out 3 (.slice fa p.funcs.length fc) rfl)
  have e4 := ext_cell (row_of HX0.out 4 (.slice ma p.main.length mc) rfl)
  have d0 := ext_cell (row_of HX1.out 0 (.slice la q.levels.length lc) rfl)
  have d1 := ext_cell (row_of HX1.out 1 (.slice oa q.order.length oc) rfl)
  have d2 := ext_cell (row_of HX1.out 2 (.slice ca q.chans.length cc) rfl)
  have d3 := ext_cell (row_of HX1.out 3 (.slice ta q.sites.length tc) rfl)
  have d4 := ext_cell (row_of HX1.out 4 (.bool q.sens) rfl)
  have d5 := ext_cell (row_of HX1.out 5 (.int .i64 q.steps) rfl)
  have d6 := ext_cell (row_of HX1.out 6 (.int .i64 q.paths) rfl)
  have d7 := ext_cell (row_of HX1.out 7 (.int .i64 q.nodes) rfl)
  have d8 := ext_cell (row_of HX1.out 8 (.int .i64 q.confs) rfl)
  refine mix_reads (by simp only [opsOf, List.filterMap_cons, List.filterMap_nil, List.getElem?_toArray, List.getElem?_cons_succ, List.getElem?_cons_zero]; rfl) ⟨_, ext_of (Below.refl _ _).drew⟩ ?_
  change wpQuiet _ _ _ _ [_, _] _
  (repeat (go_big_quiet_step (fail)))
  refine wpQuiet_nil ?_
  clear e0 e1 e2 e3 e4 d0 d1 d2 d3 d4 d5 d6 d7 d8
  have HD : Hid (Below W.heap.size W W.drew) := (Below.refl _ _).drew
  refine ⟨⟨fun vs wn hb hn => ?_, fun vs wn hb hn => ?_, trivial⟩, fun vs wn hb hy hd => ?_⟩
  · clear hn
    have HBN := Lib.hid (bcomp HD.out hb)
    clear hb
    refine mix_step rfl ?_
    simp only [pv]
    go_wp2_with (go_at_call 14; refine (HS1.out _ HBN.out).mono ?_; rintro e wz ⟨a1, k1, a2, k2, a3, k3, a4, k4, rfl, hr, hz⟩)
    exact ⟨_, rfl, hz, a1, k1, a2, k2, a3, k3, a4, k4, rfl, hr.up HBN.out.size⟩
  · clear hn
    have HBN := Lib.hid (bcomp HD.out hb)
    clear hb
    refine mix_step rfl ?_
    simp only [pv]
    go_wp2_with (go_at_call 9; refine (HS2.out _ HBN.out).mono ?_; rintro e wz ⟨c, s, a, k, rfl, hr, hz⟩)
    obtain ⟨a1, k1, rfl⟩ := hr.1.is
    obtain ⟨a2, k2, rfl⟩ := hr.2.1.is
    obtain ⟨a3, k3, rfl⟩ := hr.2.2.1.is
    obtain ⟨a4, k4, rfl⟩ := hr.2.2.2.1.is
    exact ⟨_, rfl, hz, a1, k1, a2, k2, a3, k3, a4, k4, rfl, hr.up HBN.out.size⟩
  obtain ⟨⟨a1, k1, a2, k2, a3, k3, a4, k4, em1, hr1⟩, ⟨b1, l1, b2, l2, b3, l3, b4, l4, em2, hr2⟩⟩ : (∃ a1 k1 a2 k2 a3 k3 a4 k4, (vs 1).1 = .agg #[.int .i64 P.width, .slice a1 P.chans.length k1, .slice a2 P.arrays.length k2, .slice a3 P.funcs.length k3, .slice a4 P.main.length k4] ∧ RdProg (some (upFrom W.heap.size)) wn P (.slice a1 P.chans.length k1) (.slice a2 P.arrays.length k2) (.slice a3 P.funcs.length k3) (.slice a4 P.main.length k4)) ∧ (∃ b1 l1 b2 l2 b3 l3 b4 l4, (vs 3).1 = .agg #[.slice b1 G.levels.length l1, .slice b2 G.order.length l2, .slice b3 G.chans.length l3, .slice b4 G.sites.length l4, .bool G.sens, .int .i64 G.steps, .int .i64 G.paths, .int .i64 G.nodes, .int .i64 G.confs] ∧ RdPol (some (upFrom W.heap.size)) wn G (.slice b1 G.levels.length l1) (.slice b2 G.order.length l2) (.slice b3 G.chans.length l3) (.slice b4 G.sites.length l4)) := ⟨(hy ⟨1, some 15, []⟩ (by simp)).1, (hy ⟨3, some 17, [(1, some 15)]⟩ (by simp)).1⟩
  have HBN := Lib.hid (bcomp HD.out hb)
  have HR1 := Lib.hid hr1
  have HR2 := Lib.hid hr2
  clear hy hd hb HS1 HS2 hr1 hr2 HD H G0
  simp only [List.map, Maker.pr, pv]
  rw [em1, em2]
  clear em1 em2
  simp only [Act.put, List.setIfInBounds_toArray, List.set_cons_succ, List.set_cons_zero, List.getElem_toArray, List.getElem_cons_succ, List.getElem_cons_zero]
  have HXa := Lib.hid ((HBN.out.block _ (Array.getElem?_eq_some_iff.1 HX0.out).1).trans HX0.out)
  have HXb := Lib.hid ((HBN.out.block _ (Array.getElem?_eq_some_iff.1 HX1.out).1).trans HX1.out)
  go_upto_region 2 with (first | (refine wpList_store_row rfl 43 (.tmp 2) (.tmp 15) rfl fb #[.int .i64 P.width, .slice a1 P.chans.length k1, .slice a2 P.arrays.length k2, .slice a3 P.funcs.length k3, .slice a4 P.main.length k4] rfl rfl 43 #[.int .i64 p.width, .slice pa p.chans.length pc, .slice aa p.arrays.length ac, .slice fa p.funcs.length fc, .slice ma p.main.length mc] ?hs1 (by as_aux_lemma => kernel_rfl) (by as_aux_lemma => kernel_rfl) (by as_aux_lemma => kernel_rfl) ?_; exact HXa.out) | (refine wpList_store_row rfl 30 (.tmp 3) (.tmp 17) rfl (fb + 1) #[.slice b1 G.levels.length l1, .slice b2 G.order.length l2, .slice b3 G.chans.length l3, .slice b4 G.sites.length l4, .bool G.sens, .int .i64 G.steps, .int .i64 G.paths, .int .i64 G.nodes, .int .i64 G.confs] rfl rfl 30 #[.slice la q.levels.length lc, .slice oa q.order.length oc, .slice ca q.chans.length cc, .slice ta q.sites.length tc, .bool q.sens, .int .i64 q.steps, .int .i64 q.paths, .int .i64 q.nodes, .int .i64 q.confs] ?hs2 (by as_aux_lemma => kernel_rfl) (by as_aux_lemma => kernel_rfl) (by as_aux_lemma => kernel_rfl) ?_; exact (setRow_other _ _ _ _ (by omega)).trans HXb.out))
  try simp only [Act.put]
  have HY0 : Hid (((wn.setRow fb #[.int .i64 P.width, .slice a1 P.chans.length k1, .slice a2 P.arrays.length k2, .slice a3 P.funcs.length k3, .slice a4 P.main.length k4]).setRow (fb + 1) #[.slice b1 G.levels.length l1, .slice b2 G.order.length l2, .slice b3 G.chans.length l3, .slice b4 G.sites.length l4, .bool G.sens, .int .i64 G.steps, .int .i64 G.paths, .int .i64 G.nodes, .int .i64 G.confs]).heap[fb]? = some (.cells #[.int .i64 P.width, .slice a1 P.chans.length k1, .slice a2 P.arrays.length k2, .slice a3 P.funcs.length k3, .slice a4 P.main.length k4] 43 (0, 0))) := (setRow_other _ _ _ _ (by omega)).trans (setRow_heap _ _ _ _ _ _ HXa.out)
  have HY1 : Hid (((wn.setRow fb #[.int .i64 P.width, .slice a1 P.chans.length k1, .slice a2 P.arrays.length k2, .slice a3 P.funcs.length k3, .slice a4 P.main.length k4]).setRow (fb + 1) #[.slice b1 G.levels.length l1, .slice b2 G.order.length l2, .slice b3 G.chans.length l3, .slice b4 G.sites.length l4, .bool G.sens, .int .i64 G.steps, .int .i64 G.paths, .int .i64 G.nodes, .int .i64 G.confs]).heap[fb + 1]? = some (.cells #[.slice b1 G.levels.length l1, .slice b2 G.order.length l2, .slice b3 G.chans.length l3, .slice b4 G.sites.length l4, .bool G.sens, .int .i64 G.steps, .int .i64 G.paths, .int .i64 G.nodes, .int .i64 G.confs] 30 (0, 0))) := setRow_heap _ _ _ _ _ _ ((setRow_other _ _ _ _ (by omega)).trans HXb.out)
  have hlt : fb + 1 < W.heap.size := (Array.getElem?_eq_some_iff.1 HX1.out).1
  have hoth : ∀ b, W.heap.size ≤ b → ((wn.setRow fb #[.int .i64 P.width, .slice a1 P.chans.length k1, .slice a2 P.arrays.length k2, .slice a3 P.funcs.length k3, .slice a4 P.main.length k4]).setRow (fb + 1) #[.slice b1 G.levels.length l1, .slice b2 G.order.length l2, .slice b3 G.chans.length l3, .slice b4 G.sites.length l4, .bool G.sens, .int .i64 G.steps, .int .i64 G.paths, .int .i64 G.nodes, .int .i64 G.confs]).heap[b]? = wn.heap[b]? := fun b hb => (setRow_other _ _ _ _ (by omega)).trans (setRow_other _ _ _ _ (by omega))
  have HP1 : Hid (RdProg none ((wn.setRow fb #[.int .i64 P.width, .slice a1 P.chans.length k1, .slice a2 P.arrays.length k2, .slice a3 P.funcs.length k3, .slice a4 P.main.length k4]).setRow (fb + 1) #[.slice b1 G.levels.length l1, .slice b2 G.order.length l2, .slice b3 G.chans.length l3, .slice b4 G.sites.length l4, .bool G.sens, .int .i64 G.steps, .int .i64 G.paths, .int .i64 G.nodes, .int .i64 G.confs]) P (.slice a1 P.chans.length k1) (.slice a2 P.arrays.length k2) (.slice a3 P.funcs.length k3) (.slice a4 P.main.length k4)) := (RdProg.same (g' := upFrom W.heap.size) HR1.out (fun b hg _ => hoth b hg) (fun _ _ k => k)).forget
  have HG1 : Hid (RdPol none ((wn.setRow fb #[.int .i64 P.width, .slice a1 P.chans.length k1, .slice a2 P.arrays.length k2, .slice a3 P.funcs.length k3, .slice a4 P.main.length k4]).setRow (fb + 1) #[.slice b1 G.levels.length l1, .slice b2 G.order.length l2, .slice b3 G.chans.length l3, .slice b4 G.sites.length l4, .bool G.sens, .int .i64 G.steps, .int .i64 G.paths, .int .i64 G.nodes, .int .i64 G.confs]) G (.slice b1 G.levels.length l1) (.slice b2 G.order.length l2) (.slice b3 G.chans.length l3) (.slice b4 G.sites.length l4)) := (RdPol.same (g' := upFrom W.heap.size) HR2.out (fun b hg _ => hoth b hg) (fun _ _ k => k)).forget
  have HBB : Hid (Below w.heap.size w ((wn.setRow fb #[.int .i64 P.width, .slice a1 P.chans.length k1, .slice a2 P.arrays.length k2, .slice a3 P.funcs.length k3, .slice a4 P.main.length k4]).setRow (fb + 1) #[.slice b1 G.levels.length l1, .slice b2 G.order.length l2, .slice b3 G.chans.length l3, .slice b4 G.sites.length l4, .bool G.sens, .int .i64 G.steps, .int .i64 G.paths, .int .i64 G.nodes, .int .i64 G.confs])) := below_row (below_row (bcomp HB0.out HBN.out) (by have := HFB.out; omega) _) (by have := HFB.out; omega) _
  clear HX0 HX1 HB0 HBN HR1 HR2 HXa HXb hlt hoth
  generalize (wn.setRow fb #[.int .i64 P.width, .slice a1 P.chans.length k1, .slice a2 P.arrays.length k2, .slice a3 P.funcs.length k3, .slice a4 P.main.length k4]).setRow (fb + 1) #[.slice b1 G.levels.length l1, .slice b2 G.order.length l2, .slice b3 G.chans.length l3, .slice b4 G.sites.length l4, .bool G.sens, .int .i64 G.steps, .int .i64 G.paths, .int .i64 G.nodes, .int .i64 G.confs] = W2 at *
  have HL2 := Lib.hid (HL.out.keep HBB.out)
  have HM2 := Lib.hid (HM.out.keep HBB.out)
  have HT2 := Lib.hid (HT.out.keep HBB.out)
  clear HL HM HT
  -- rules.Check
  have hrc := rulesCheck P _ _ _ _ G _ _ _ _ W2 HP1.out HG1.out HL2.out HT2.out
  obtain ⟨⟨⟨pl, pq⟩, ec⟩, hRC⟩ : ∃ r, rulesC P G = r := ⟨_, rfl⟩
  rw [hRC] at hrc
  have HRC := Lib.hid hrc
  have HRE := Lib.hid hRC
  clear hrc hRC
  have c0 := row_of HY0.out 0 (.int .i64 P.width) rfl
  have c1 := row_of HY0.out 1 (.slice a1 P.chans.length k1) rfl
  have c2 := row_of HY0.out 2 (.slice a2 P.arrays.length k2) rfl
  have c3 := row_of HY0.out 3 (.slice a3 P.funcs.length k3) rfl
  have c4 := row_of HY0.out 4 (.slice a4 P.main.length k4) rfl
  have d0 := row_of HY1.out 0 (.slice b1 G.levels.length l1) rfl
  have d1 := row_of HY1.out 1 (.slice b2 G.order.length l2) rfl
  have d2 := row_of HY1.out 2 (.slice b3 G.chans.length l3) rfl
  have d3 := row_of HY1.out 3 (.slice b4 G.sites.length l4) rfl
  have d4 := row_of HY1.out 4 (.bool G.sens) rfl
  have d5 := row_of HY1.out 5 (.int .i64 G.steps) rfl
  have d6 := row_of HY1.out 6 (.int .i64 G.paths) rfl
  have d7 := row_of HY1.out 7 (.int .i64 G.nodes) rfl
  have d8 := row_of HY1.out 8 (.int .i64 G.confs) rfl
  go_upto_region 3 with (go_at_call 15; refine HRC.out.mono ?_; rintro e W3 ⟨rfl, hz⟩; have B3 := Lib.hid hz; clear hz)
  clear c0 c1 c2 c3 c4 d0 d1 d2 d3 d4 d5 d6 d7 d8 HRC
  have HX4 := Lib.hid (heap_alloc_new W3 (.cells #[.int .i64 pl, .int .i64 pq] 46))
  have B4 : Hid (Below W2.heap.size W2 (W3.alloc (.cells #[.int .i64 pl, .int .i64 pq] 46))) := bcomp B3.out ((Below.refl _ _).alloc (Nat.le_refl _) _)
  generalize W3.alloc (.cells #[.int .i64 pl, .int .i64 pq] 46) = W4 at *
  obtain ⟨xb, hxb⟩ : ∃ xb, W3.heap.size = xb := ⟨_, rfl⟩
  rw [hxb] at HX4
  rw [hxb]
  clear hxb B3
  have HY4 := Lib.hid ((B4.out.block _ (Array.getElem?_eq_some_iff.1 HY0.out).1).trans HY0.out)
  have HZ4 := Lib.hid ((B4.out.block _ (Array.getElem?_eq_some_iff.1 HY1.out).1).trans HY1.out)
  have HP4 := Lib.hid (HP1.out.keep B4.out)
  have HG4 := Lib.hid (HG1.out.keep B4.out)
  have HL4 := Lib.hid (HL2.out.keep B4.out)
  have HM4 := Lib.hid (HM2.out.keep B4.out)
  have HT4 := Lib.hid (HT2.out.keep B4.out)
  have HB4 := Lib.hid (bcomp HBB.out B4.out)
  clear HY0 HY1 HP1 HG1 HL2 HM2 HT2 HBB B4
  -- flat.Of
  obtain ⟨⟨F, E⟩, hFE⟩ : ∃ r, flatOf P = r := ⟨_, rfl⟩
  have HOF : Hid (Calls Tryd.prog 16 #[.agg #[.int .i64 P.width, .slice a1 P.chans.length k1, .slice a2 P.arrays.length k2, .slice a3 P.funcs.length k3, .slice a4 P.main.length k4]] W4 fun e w' => ∃ d1 n1 d2 n2 d3 n3 d4 n4, e = .returned (.tuple #[.agg #[.int .i64 F.width, .int .i64 F.regs, .slice d1 F.chans.length n1, .slice d2 F.sites.length n2, .slice d3 F.arrays.length n3, .slice d4 F.code.length n4], .int .i64 E]) ∧ RdFlat none w' F (.slice d1 F.chans.length n1) (.slice d2 F.sites.length n2) (.slice d3 F.arrays.length n3) (.slice d4 F.code.length n4) ∧ Below W4.heap.size W4 w') := by
    refine (flatOf_any P _ _ _ _ W4 HP4.out HL4.out).mono ?_
    rintro e w' ⟨c, s, a, k, rfl, hrd, hz⟩
    rw [hFE] at hrd ⊢
    obtain ⟨d1, n1, rfl⟩ := hrd.1.is
    obtain ⟨d2, n2, rfl⟩ := hrd.2.1.is
    obtain ⟨d3, n3, rfl⟩ := hrd.2.2.1.is
    obtain ⟨d4, n4, rfl⟩ := hrd.2.2.2.1.is
    exact ⟨d1, n1, d2, n2, d3, n3, d4, n4, rfl, hrd.forget, hz⟩
  have HFE := Lib.hid hFE
  clear hFE
  have c0 := row_of HY4.out 0 (.int .i64 P.width) rfl
  have c1 := row_of HY4.out 1 (.slice a1 P.chans.length k1) rfl
  have c2 := row_of HY4.out 2 (.slice a2 P.arrays.length k2) rfl
  have c3 := row_of HY4.out 3 (.slice a3 P.funcs.length k3) rfl
  have c4 := row_of HY4.out 4 (.slice a4 P.main.length k4) rfl
  go_upto_region 4 with (go_at_call 16; refine HOF.out.mono ?_; rintro e W5 ⟨d1, n1, d2, n2, d3, n3, d4, n4, rfl, hrd, hz⟩; have HRF := Lib.hid hrd; have BZ := Lib.hid hz; clear hrd hz)
  try simp only [Act.put]
  clear c0 c1 c2 c3 c4
  have HF6 := Lib.hid (heap_alloc_new W5 (.cells #[.int .i64 F.width, .int .i64 F.regs, .slice d1 F.chans.length n1, .slice d2 F.sites.length n2, .slice d3 F.arrays.length n3, .slice d4 F.code.length n4] 26))
  have hal : Below W5.heap.size W5 (W5.alloc (.cells #[.int .i64 F.width, .int .i64 F.regs, .slice d1 F.chans.length n1, .slice d2 F.sites.length n2, .slice d3 F.arrays.length n3, .slice d4 F.code.length n4] 26)) := (Below.refl _ _).alloc (Nat.le_refl _) _
  have HRF6 := Lib.hid (HRF.out.keep hal)
  have B6 := Lib.hid (bcomp BZ.out hal)
  clear HOF hal BZ HRF
  generalize W5.alloc (.cells #[.int .i64 F.width, .int .i64 F.regs, .slice d1 F.chans.length n1, .slice d2 F.sites.length n2, .slice d3 F.arrays.length n3, .slice d4 F.code.length n4] 26) = W6 at *
  obtain ⟨yb, hyb⟩ : ∃ yb, W5.heap.size = yb := ⟨_, rfl⟩
  rw [hyb] at HF6
  rw [hyb]
  clear hyb
  have HX6 := Lib.hid ((B6.out.block _ (Array.getElem?_eq_some_iff.1 HX4.out).1).trans HX4.out)
  have HY6 := Lib.hid ((B6.out.block _ (Array.getElem?_eq_some_iff.1 HY4.out).1).trans HY4.out)
  have HZ6 := Lib.hid ((B6.out.block _ (Array.getElem?_eq_some_iff.1 HZ4.out).1).trans HZ4.out)
  have HP6 := Lib.hid (HP4.out.keep B6.out)
  have HG6 := Lib.hid (HG4.out.keep B6.out)
  have HM6 := Lib.hid (HM4.out.keep B6.out)
  have HT6 := Lib.hid (HT4.out.keep B6.out)
  have HB6 := Lib.hid (bcomp HB4.out B6.out)
  have HA6 : Hid (∀ z, Below W6.heap.size W6 z → Calls Tryd.prog 13 #[] z fun e w' => e = .returned (.bool true) ∧ Below z.heap.size z w') := fun z hz => HAW.out z (HL4.out.keep (bcomp B6.out hz)) (HM6.out.keep hz) (HT6.out.keep hz)
  clear HX4 HY4 HZ4 HP4 HG4 HL4 HM4 HT4 HB4 B6 HAW
  have HA0 := Lib.hid (HA6.out W6 (Below.refl _ _))
  by_cases hE : E = 0
  rotate_left
  · -- no flat program
    have he0 : (E == 0) = false := by simp [hE]
    have x0 := row_of HX6.out 0 (.int .i64 pl) rfl
    have x1 := row_of HX6.out 1 (.int .i64 pq) rfl
    by_cases h5 : E = 5
    · subst h5
      clear hE HRE HFE
      by_cases h1 : pl = 0 <;> by_cases h2 : pq = 0 <;> by_cases h3 : ec = 0
      all_goals try subst h1
      all_goals try subst h2
      all_goals try subst h3
      all_goals
        go_wp2_with (go_at_call 13; refine HA0.out.mono ?_; rintro e z ⟨rfl, hz⟩; have BZ := Lib.hid hz; clear hz)
        go_ret
        exact ⟨rfl, bcomp HB6.out BZ.out⟩
    · have h50 : (E == 5) = false := by simp [h5]
      have h3 : (ec == 0) = false := by
        cases hc : checkF P with
        | none =>
          have := flatOf_good hc
          rw [HFE.out] at this
          split at this
          · simp at this; exact absurd this.2 h5
          · simp at this; exact absurd this.2 hE
        | some f0 =>
          have := rulesC_bad (q := G) hc
          rw [HRE.out] at this
          have e1 : ec = f0.e := this.1
          simp [e1, this.2]
      have h3a : ¬ ec = 0 := by simpa using h3
      have h3b : (ec != 0) = true := by simpa using h3a
      clear hE h5 HRE HFE
      go_wp2_with (go_at_call 13; refine HA0.out.mono ?_; rintro e z ⟨rfl, hz⟩; have BZ := Lib.hid hz; clear hz)
      go_ret
      exact ⟨rfl, bcomp HB6.out BZ.out⟩
  subst hE
  have hck : checkF P = none := by
    cases hc : checkF P with
    | none => rfl
    | some f0 =>
      have := flatOf_fault hc
      rw [HFE.out] at this
      simp at this
      have h9 := (check_fault hc).1
      omega
  have hFI : F = flatI P ∧ flatOk (flatI P) = true := by
    have := flatOf_good hck
    rw [HFE.out] at this
    split at this
    · simp at this
    · rename_i hl
      simp at this
      exact ⟨this, flat_valid (wfP_of hck) (wordsU_of HP6.out) (placesP_len hck) (by omega)⟩
  obtain ⟨hFI, hok⟩ := hFI
  have hre : rulesErr F G = ec := by rw [hFI, fit_err hck hok, HRE.out]
  have hchn : F.chans = P.chans := by rw [hFI]; rfl
  have hpos : ec = 0 → pl = 0 ∧ pq = 0 := by
    intro e0
    have := fit_pos (p := P) (q := G) (by rw [HRE.out]; exact e0)
    rw [HRE.out] at this
    simpa using this
  have hLEV := rulesLevels F _ _ _ _ G _ _ _ _ W6 HRF6.out HG6.out HM6.out HT6.out
  rw [hre] at hLEV
  have HLEV : Hid (Calls Tryd.prog 11 #[.agg #[.int .i64 F.width, .int .i64 F.regs, .slice d1 F.chans.length n1, .slice d2 F.sites.length n2, .slice d3 F.arrays.length n3, .slice d4 F.code.length n4], .agg #[.slice b1 G.levels.length l1, .slice b2 G.order.length l2, .slice b3 G.chans.length l3, .slice b4 G.sites.length l4, .bool G.sens, .int .i64 G.steps, .int .i64 G.paths, .int .i64 G.nodes, .int .i64 G.confs]] W6 fun e w' => ∃ u1 m1 t1 u2 m2 t2, e = .returned (.tuple #[.slice u1 m1 t1, .slice u2 m2 t2, .int .i64 ec]) ∧ LevSaid ec F G W6.heap.size w' (.slice u1 m1 t1) (.slice u2 m2 t2) ∧ Below W6.heap.size W6 w') := by
    refine hLEV.mono ?_
    rintro e w' ⟨v1, v2, rfl, hl, hz⟩
    obtain ⟨u1, m1, t1, rfl⟩ := hl.slice1
    obtain ⟨u2, m2, t2, rfl⟩ := hl.slice2
    exact ⟨u1, m1, t1, u2, m2, t2, rfl, hl, hz⟩
  clear hLEV HFE HRE hck hFI hok
  have HRE := Lib.hid hre
  have HCH := Lib.hid hchn
  clear hre hchn
  have f0 := row_of HF6.out 0 (.int .i64 F.width) rfl
  have f1 := row_of HF6.out 1 (.int .i64 F.regs) rfl
  have f2 := row_of HF6.out 2 (.slice d1 F.chans.length n1) rfl
  have f3 := row_of HF6.out 3 (.slice d2 F.sites.length n2) rfl
  have f4 := row_of HF6.out 4 (.slice d3 F.arrays.length n3) rfl
  have f5 := row_of HF6.out 5 (.slice d4 F.code.length n4) rfl
  have d0 := row_of HZ6.out 0 (.slice b1 G.levels.length l1) rfl
  have d1 := row_of HZ6.out 1 (.slice b2 G.order.length l2) rfl
  have d2 := row_of HZ6.out 2 (.slice b3 G.chans.length l3) rfl
  have d3 := row_of HZ6.out 3 (.slice b4 G.sites.length l4) rfl
  have d4 := row_of HZ6.out 4 (.bool G.sens) rfl
  have d5 := row_of HZ6.out 5 (.int .i64 G.steps) rfl
  have d6 := row_of HZ6.out 6 (.int .i64 G.paths) rfl
  have d7 := row_of HZ6.out 7 (.int .i64 G.nodes) rfl
  have d8 := row_of HZ6.out 8 (.int .i64 G.confs) rfl
  go_upto_region 7 with (go_at_call 11; refine HLEV.out.mono ?_; rintro e W7 ⟨u1, m1, t1, u2, m2, t2, rfl, hl, hz⟩; have HLV := Lib.hid hl; have B7 := Lib.hid hz; clear hl hz)
  clear f0 f1 f2 f3 f4 f5 d0 d1 d2 d3 d4 d5 d6 d7 d8 HLEV
  have HB7 := Lib.hid (bcomp HB6.out B7.out)
  have HX7 := Lib.hid ((B7.out.block _ (Array.getElem?_eq_some_iff.1 HX6.out).1).trans HX6.out)
  have HA7 := Lib.hid (HA6.out W7 B7.out)
  by_cases hec : ec = 0
  rotate_left
  · have he0 : (ec == 0) = false := by simp [hec]
    have hee : (ec == ec) = true := by simp
    obtain ⟨e1, e2⟩ := HLV.out.2 hec
    simp only [Value.slice.injEq] at e1 e2
    obtain ⟨rfl, rfl, rfl⟩ := e1
    obtain ⟨rfl, rfl, rfl⟩ := e2
    clear hpos hec
    go_wp2_with (go_at_call 13; refine HA7.out.mono ?_; rintro e z ⟨rfl, hz⟩; have BZ := Lib.hid hz; clear hz)
    go_ret
    exact ⟨rfl, bcomp HB7.out BZ.out⟩
  subst hec
  obtain ⟨rfl, rfl⟩ := hpos rfl
  obtain ⟨hr1, hr2⟩ := HLV.out.1 rfl
  obtain ⟨hls1, hls2⟩ := levs_of HRE.out
  have hm1 : m1 = P.chans.length := by
    obtain ⟨_, _, e, _⟩ := id hr1
    simp only [Value.slice.injEq] at e
    rw [e.2.1, (levelsOf_at hls1).1, HCH.out]
  have hm2 : m2 = F.sites.length := by
    obtain ⟨_, _, e, _⟩ := id hr2
    simp only [Value.slice.injEq] at e
    rw [e.2.1, (levelsOf_at hls2).1]
  subst hm1
  subst hm2
  have HLS1 := Lib.hid (HCH.out ▸ hls1)
  have HLS2 := Lib.hid hls2
  have HR1 := Lib.hid hr1
  have HR2 := Lib.hid hr2
  clear HLV hr1 hr2 hls1 hls2 hpos HRE HA0
  have HY7 := Lib.hid ((B7.out.block _ (Array.getElem?_eq_some_iff.1 HY6.out).1).trans HY6.out)
  have HZ7 := Lib.hid ((B7.out.block _ (Array.getElem?_eq_some_iff.1 HZ6.out).1).trans HZ6.out)
  have HF7 := Lib.hid ((B7.out.block _ (Array.getElem?_eq_some_iff.1 HF6.out).1).trans HF6.out)
  have HP7 := Lib.hid (HP6.out.keep B7.out)
  have HG7 := Lib.hid (HG6.out.keep B7.out)
  have HRF7 := Lib.hid (HRF6.out.keep B7.out)
  have HA8 : Hid (∀ z, Below W7.heap.size W7 z → Calls Tryd.prog 13 #[] z fun e w' => e = .returned (.bool true) ∧ Below z.heap.size z w') := fun z hz => HA6.out z (bcomp B7.out hz)
  clear HX6 HY6 HZ6 HF6 HP6 HG6 HRF6 HM6 HT6 HB6 HA6 HA7 B7
  have x0 := row_of HX7.out 0 (.int .i64 0) rfl
  have x1 := row_of HX7.out 1 (.int .i64 0) rfl
  have y1 := row_of HY7.out 1 (.slice a1 P.chans.length k1) rfl
  have f3 := row_of HF7.out 3 (.slice d2 F.sites.length n2) rfl
  have hcl : P.chans.length ≤ 100000000000000 := by obtain ⟨_, _, _, ⟨h1, _⟩, _⟩ := HP7.out.1; omega
  have hsl : F.sites.length ≤ 100000000000000 := by have h1 : F.sites.length * 16 ≤ 140737488351232 := HRF7.out.2.1.size; omega
  have hc2 : ((P.chans.length : Int) == (P.chans.length : Int)) = true := by simp
  have hs2 : ((F.sites.length : Int) == (F.sites.length : Int)) = true := by simp
  go_wp2_with fail
  clear x0 x1 y1 f3 hc2 hs2 HX7
  go_loopw [12] (fun i wr => ∃ k : Nat, k ≤ P.chans.length ∧ i = .int .i64 k ∧ Below W7.heap.size W7 wr) (fun i _ => P.chans.length - (intOf i).toNat)
  case atStart => exact ⟨0, Nat.zero_le _, rfl, Below.refl _ _⟩
  case round =>
    obtain ⟨k, hk, rfl, hb⟩ := hrel
    obtain ⟨W8, rfl⟩ : ∃ x : World, x = wr := ⟨_, rfl⟩
    have HB8 := Lib.hid hb
    clear hb
    by_cases hlt : k < P.chans.length
    · have hlt1 : (k : Int) < P.chans.length := by omega
      have hbd : True := trivial
      obtain ⟨s, hs⟩ : ∃ s, P.chans[k]? = some s := ⟨_, List.getElem?_eq_getElem hlt⟩
      obtain ⟨x, hx⟩ : ∃ x, (chansL F G)[k]? = some x := ⟨_, List.getElem?_eq_getElem (by rw [(levelsOf_at HLS1.out).1]; exact hlt)⟩
      have hlev := (levelsOf_at HLS1.out).2 k s x hs hx
      obtain ⟨bi, oi, rfl, _, ci, hxi⟩ := atInt (HR1.out.keep HB8.out) hx
      obtain ⟨bs, os, rfl, cs, hsz⟩ : ∃ b o, a1 = some ⟨b, o, none⟩ ∧ W8.cell? ⟨b, o + k, none⟩ = some (.string s) ∧ s.size ≤ maxLen := by
        obtain ⟨a', c', e, _, hh⟩ := (HP7.out.keep HB8.out).1
        simp only [Value.slice.injEq] at e
        obtain ⟨rfl, _, rfl⟩ := e
        obtain ⟨b, o, e1, _, e2, e3⟩ := hh k s hs
        exact ⟨b, o, e1, e2, e3⟩
      have HBO : Hid (∀ z, Calls Tryd.prog 17 #[.slice b3 G.chans.length l3, .string s, .int .i64 x] (ext W8 z) fun e w' => e = .returned (.bool true) ∧ Below (ext W8 z).heap.size (ext W8 z) w') := fun z => by
        have h1 := bound29 (.slice b3 G.chans.length l3) G.chans s x (ext W8 z) ((HG7.out.keep HB8.out).2.2.1.keep (ext_below W8 z))
        rw [hlev] at h1
        simpa using h1
      have e1 := ext_cell (row_of ((HB8.out.block _ (Array.getElem?_eq_some_iff.1 HZ7.out).1).trans HZ7.out) 2 (.slice b3 G.chans.length l3) rfl)
      have e2 := ext_cell (row_of ((HB8.out.block _ (Array.getElem?_eq_some_iff.1 HY7.out).1).trans HY7.out) 1 (.slice (some ⟨bs, os, none⟩) P.chans.length k1) rfl)
      have e3 := ext_cell cs
      have e4 := ext_cell ci
      clear hs hx hlev ci cs hbd
      go_upto_region 16 with fail
      (refine wp_region_calm (by kernel_rfl) (by kernel_rfl) ?_; (repeat (go_big_quiet_step ((go_at_call 17; exact calls_calm (HBO.out _))))); refine wpQuiet_nil ?_; intro wc hwc)
      clear e1 e2 e3 e4 HBO
      have HBC := Lib.hid hwc
      clear hwc
      go_wp2_with fail
      go_roundw
      case rel => exact ⟨k + 1, by omega, by go_num, bcomp HB8.out HBC.out⟩
      case measure => simp [intOf]; omega
    · obtain rfl : k = P.chans.length := by omega
      have hlt1 : ¬ (P.chans.length : Int) < (P.chans.length : Int) := by omega
      clear hk hlt
      go_wp2_with fail
      go_loopw [13] (fun i wr => ∃ k : Nat, k ≤ F.sites.length ∧ i = .int .i64 k ∧ Below W8.heap.size W8 wr) (fun i _ => F.sites.length - (intOf i).toNat)
      case atStart => exact ⟨0, Nat.zero_le _, rfl, Below.refl _ _⟩
      case round =>
        obtain ⟨k, hk, rfl, hb⟩ := hrel
        obtain ⟨W9, rfl⟩ : ∃ x : World, x = wr := ⟨_, rfl⟩
        have HB9 := Lib.hid (bcomp HB8.out hb)
        have HC9 := Lib.hid hb
        clear hb
        by_cases hlt : k < F.sites.length
        · have hlt1 : (k : Int) < F.sites.length := by omega
          obtain ⟨s, hs⟩ : ∃ s, F.sites[k]? = some s := ⟨_, List.getElem?_eq_getElem hlt⟩
          obtain ⟨x, hx⟩ : ∃ x, (sitesL F G)[k]? = some x := ⟨_, List.getElem?_eq_getElem (by rw [(levelsOf_at HLS2.out).1]; exact hlt)⟩
          have hlev := (levelsOf_at HLS2.out).2 k s x hs hx
          obtain ⟨bi, oi, rfl, _, ci, hxi⟩ := atInt (HR2.out.keep HB9.out) hx
          obtain ⟨bs, os, rfl, _, cs, hsz⟩ := atStr (HRF7.out.keep HB9.out).2.1 hs
          have HBO : Hid (∀ z, Calls Tryd.prog 17 #[.slice b4 G.sites.length l4, .string s, .int .i64 x] (ext W9 z) fun e w' => e = .returned (.bool true) ∧ Below (ext W9 z).heap.size (ext W9 z) w') := fun z => by
            have h1 := bound29 (.slice b4 G.sites.length l4) G.sites s x (ext W9 z) ((HG7.out.keep HB9.out).2.2.2.1.keep (ext_below W9 z))
            rw [hlev] at h1
            simpa using h1
          have e1 := ext_cell (row_of ((HB9.out.block _ (Array.getElem?_eq_some_iff.1 HZ7.out).1).trans HZ7.out) 3 (.slice b4 G.sites.length l4) rfl)
          have e2 := ext_cell (row_of ((HB9.out.block _ (Array.getElem?_eq_some_iff.1 HF7.out).1).trans HF7.out) 3 (.slice (some ⟨bs, os, none⟩) F.sites.length n2) rfl)
          have e3 := ext_cell cs
          have e4 := ext_cell ci
          clear hs hx hlev ci cs
          go_upto_region 21 with fail
          (refine wp_region_calm (by kernel_rfl) (by kernel_rfl) ?_; (repeat (go_big_quiet_step ((go_at_call 17; exact calls_calm (HBO.out _))))); refine wpQuiet_nil ?_; intro wc hwc)
          clear e1 e2 e3 e4 HBO
          have HBC := Lib.hid hwc
          clear hwc
          go_wp2_with fail
          go_roundw
          case rel => exact ⟨k + 1, by omega, by go_num, bcomp HC9.out HBC.out⟩
          case measure => simp [intOf]; omega
        · obtain rfl : k = F.sites.length := by omega
          have hlt1 : ¬ (F.sites.length : Int) < (F.sites.length : Int) := by omega
          have HA := Lib.hid (HA8.out W9 HB9.out)
          clear hk hlt
          go_wp2_with (go_at_call 13; refine HA.out.mono ?_; rintro e z ⟨rfl, hz⟩; have BZ := Lib.hid hz; clear hz)
          go_ret
          exact ⟨rfl, bcomp HB7.out (bcomp HB9.out BZ.out)⟩
end Go.Proofs.YtgllkgedjplpdaaDoor
