/- The walk of RulesMore: levels of names that the program does not have, and another order, make no difference. Condition: the arguments read as the plain data; the tables hold what they are laid with; the chapter's examples hold. -/
import Derived.Test.YtgllkgedjplpdaaDoorRiA
import Derived.Test.YtgllkgedjplpdaaDoorRiO
import Derived.Test.YtgllkgedjplpdaaDoorFeP
set_option linter.unnecessarySimpa false
set_option linter.unusedVariables false
set_option linter.unusedSimpArgs false
namespace Go.Proofs.YtgllkgedjplpdaaDoor
open Go.ChangeShapes Go.WideShapes Go.ChangeAt Go.RowKit
theorem wordsU_of {lo:Option (Nat→Prop)} {w:World} {p:ProgD} {cv av fv mv:Value} (h:RdProg lo w p cv av fv mv):WordsP p:=by
 intro f x hx
 have h2:∃ av,RdInstr lo w x av:=by
  rcases bodyF_cases p f with e|e|⟨g,fd,_,e1,e⟩
  ·rw [e] at hx
   obtain ⟨i,hi⟩:=List.getElem?_of_mem hx
   obtain ⟨_,_,_,_,hr⟩:=h.2.2.2.1
   obtain ⟨_,_,_,_,_,_,_,_,_,_,_,_,hri⟩:=hr i x hi
   exact ⟨_,hri⟩
  ·rw [e] at hx;cases hx
  ·rw [e] at hx
   obtain ⟨i,hi⟩:=List.getElem?_of_mem hx
   obtain ⟨_,_,_,_,hr⟩:=h.2.2.1
   obtain ⟨_,_,_,_,_,_,_,_,_,_,_,hf⟩:=hr g fd e1
   obtain ⟨_,_,_,_,hr2⟩:=hf.2.1
   obtain ⟨_,_,_,_,_,_,_,_,_,_,_,_,hri⟩:=hr2 i x hi
   exact ⟨_,hri⟩
 obtain ⟨av',h3⟩:=h2
 refine ⟨h3.2.1.1,fun a ha=>?_⟩
 obtain ⟨i,hi⟩:=List.getElem?_of_mem ha
 obtain ⟨_,_,_,_,hr⟩:=h3.1
 obtain ⟨_,_,_,_,_,_,hu,_⟩:=hr i a hi
 exact ⟨hu.1,by have:=hu.2;omega⟩
theorem LevSaid.slice1 {E:Int} {f:FlatD} {q:PolD} {b:Nat} {w:World} {v1 v2:Value} (h:LevSaid E f q b w v1 v2):∃ x y z,v1=.slice x y z:=by
 by_cases he:E=0
 ·obtain ⟨a,c,e⟩:=(h.1 he).1.is;exact ⟨a,_,c,e⟩
 ·exact ⟨_,_,_,(h.2 he).1⟩
theorem LevSaid.slice2 {E:Int} {f:FlatD} {q:PolD} {b:Nat} {w:World} {v1 v2:Value} (h:LevSaid E f q b w v1 v2):∃ x y z,v2=.slice x y z:=by
 by_cases he:E=0
 ·obtain ⟨a,c,e⟩:=(h.1 he).2.is;exact ⟨a,_,c,e⟩
 ·exact ⟨_,_,_,(h.2 he).2⟩
theorem all_len {P:ProgD} (hc:checkF P=none):P.chans.length≤1000000∧(codesOf P.funcs).length+P.main.length≤1000000:=by
 have H:=wfP_of hc
 have h1:=codes_len hc P.funcs.length
 rw [List.take_length] at h1
 have h2:=H.chl
 have h3:=H.fl
 have h4:=H.main.len
 refine ⟨by omega,?_⟩
 have:P.funcs.length * 1024≤32 * 1024:=Nat.mul_le_mul_right _ h3
 omega
set_option maxRecDepth 100000 in
set_option maxHeartbeats 6400000 in
/-- **named**: has a list that name? -/
theorem named29 (v : Value) (l : List BindD) (s : ByteArray) (w : World) (h : RdRow kBind none w v l) :
    Calls Tryd.prog 23 #[v, .string s] w fun e w' => e = .returned (.bool (hasN l s)) ∧ Below w.heap.size w w' := by
  obtain ⟨a, cp, rfl⟩ := h.is
  have hl : l.length * 24 ≤ 140737488351232 := h.size
  have HR := Lib.hid h
  clear h
  obtain ⟨V, hV⟩ : ∃ V, hasN l s = V := ⟨_, rfl⟩
  rw [hV]
  have HV := Lib.hid hV
  clear hV
  go_enter Tryd.func23, Tryd.ntmps23
  go_wp2_with fail
  go_loopw [5] (fun i wr => ∃ k : Nat, k ≤ l.length ∧ i = .int .i64 k ∧ Hid (hasN (l.take k) s = false) ∧ w = wr) (fun i _ => l.length - (intOf i).toNat)
  case atStart => exact ⟨0, Nat.zero_le _, rfl, rfl, rfl⟩
  case round =>
    obtain ⟨k, hk, rfl, HQ, rfl⟩ := hrel
    by_cases hlt : k < l.length
    · have hlt1 : (k : Int) < l.length := by omega
      obtain ⟨x, hx⟩ : ∃ x, l[k]? = some x := ⟨_, List.getElem?_eq_getElem hlt⟩
      obtain ⟨b, o, rfl, _, c0, c1, hxs, hx1⟩ := atBind HR.out hx
      have HS : Hid (hasN (l.take (k + 1)) s = (x.name.toList == s.toList)) := by
        show _ = _
        rw [hasN_step hx, HQ.out]; rfl
      have HX := Lib.hid hx
      clear hx HQ
      cases he : (x.name.toList == s.toList)
      · rw [he] at HS
        go_wp2_with fail
        go_roundw
        case rel => exact ⟨k + 1, by omega, by go_num, HS, by first | trivial | rfl⟩
        case measure => simp [intOf]; omega
      · obtain rfl : V = true := by
          rw [← HV.out]
          unfold hasN
          rw [List.any_eq_true]
          exact ⟨x, List.mem_of_getElem? HX.out, he⟩
        clear HS
        go_wp2_with fail
        go_ret
        exact ⟨rfl, Below.refl _ _⟩
    · obtain rfl : k = l.length := by omega
      have hlt1 : ¬ (l.length : Int) < l.length := by omega
      obtain rfl : V = false := by rw [← HV.out, ← HQ.out, List.take_length]
      go_wp2_with fail
      go_ret
      exact ⟨rfl, Below.refl _ _⟩

theorem eqL_selfM : ∀ l : List Int, eqL eqInt l l = true := by
  intro l
  induction l with
  | nil => rfl
  | cons x r ih => simp [eqL, eqInt, ih]
theorem keep_walk {P : Program} {ops : Array Oper} {C C0 : World → Prop} {K : Act → Prop} {rs ks : List Nat} {l1 l2 : List Oper} {a : Act} (e1 : opsOf ops rs = l1) (e2 : opsOf ops ks = l2) (h : wpQuiet P ops C (fun a1 => wpQuiet P ops C0 K l2 a1) l1 a) :
    wpQuiet P ops C (fun a1 => wpQuiet P ops C0 K (opsOf ops ks) a1) (opsOf ops rs) a := by rw [e1, e2]; exact h
theorem run_append_nonec {P : Program} {w : World} (base : Nat) (t ty e : TypeId) (i : TypeInfo) (size : Nat) (ht : P.underlying t = some (.slice e)) (hi : P.info? e = some i)
    (v : Value) (n c : Nat) (xs : List Value) (hown : w.ownsRow base e size v n xs) :
    (Builtin.append_ #[t, t] ty #[v, .slice none 0 c]).run P w = .ok v w := by
  rcases hown.2 with ⟨rfl, rfl⟩ | ⟨g, cap, cur, rfl, _, _, hnc, _⟩
  · simp [Builtin.append_, run_underlying ht, sizeOf, typeInfo, hi, Builtin.lenOf, Builtin.firstCells]
  · simp [Builtin.append_, run_underlying ht, sizeOf, typeInfo, hi, Builtin.lenOf, Builtin.firstCells, hnc, storeCells]
theorem wpList_append_nonec {P : Program} {w : World} {ops : Array Oper} {rest : List Oper} {o : Oper} {a : Act} {Q : Exit → Act → World → Prop} (hgd : o.guard = none) (s x : Operand) (t : TypeId)
    (ho : o.op = .call { callee := .builtin .append, args := #[s, x], argTypes := #[t, t] })
    (base : Nat) (e : TypeId) (i : TypeInfo) (size : Nat) (ht : P.underlying t = some (.slice e)) (hi : P.info? e = some i)
    (v : Value) (n c : Nat) (xs : List Value) (hs : a.eval s = v) (hown : w.ownsRow base e size v n xs) (hx : a.eval x = .slice none 0 c)
    (h : wpList P ops Q rest (a.put o.dst v) w) : wpList P ops Q (o :: rest) a w := by
  refine wpList_plain hgd fun K hK => ?_
  have hrun := run_append_nonec (P := P) (w := w) base t o.type e i size ht hi v n c xs hown
  unfold Oper.wp
  simp [execOp, ho, resolve, invoke, builtin, hs, hx, hrun, Result.andThen]
  exact hK _ _ h
theorem row_cellsB {w:World} {b o n c:Nat} {l:List BindD} (h:RdRow kBind none w (.slice (some ⟨b,o,none⟩) n c) l):∀ j u,(l.flatMap cellsBind)[j]?=some u→w.cell? ⟨b,o+j,none⟩=some u:=by
 obtain ⟨a',c',e,_,hr⟩:=h
 simp only [Value.slice.injEq] at e
 obtain ⟨rfl,_,_⟩:=e
 intro j u hj
 have hlt:j<l.length * 2:=by
  have:=(List.getElem?_eq_some_iff.1 hj).1
  rwa [flat_length cellsBind 2 (fun _=>rfl)] at this
 obtain ⟨x,hx⟩:∃ x,l[j / 2]?=some x:=⟨_,List.getElem?_eq_getElem (by omega)⟩
 obtain ⟨b',o',e1,_,hc,_⟩:=hr _ x hx
 simp only [Option.some.injEq,Addr.mk.injEq] at e1
 obtain ⟨rfl,rfl,_⟩:=e1
 have h2:=flat_get cellsBind 2 (fun _=>rfl) l (j / 2) (j % 2) x hx (by omega)
 rw [show j / 2 * 2+j % 2=j by omega] at h2
 have h3:=hc (j % 2) u (by rw [← h2];exact hj)
 rw [show o+j / 2 * kBind.sz+j % 2=o+j by show o+j / 2 * 2+j % 2=o+j;omega] at h3
 exact h3
/-- One binding ahead of a list: 'append([]api.Bind{b}, l...)'. -/
theorem wpList_joinB {w : World} {ops : Array Oper} {rest : List Oper} {o : Oper} {a : Act} {Q : Exit → Act → World → Prop} (hg : o.guard = none) (s x : Operand)
    (hop : o.op = Op.call { callee := Callee.builtin Builtin.append, args := #[s, x], argTypes := #[28, 28] })
    (gb : Nat) (b : BindD) (hs : a.eval s = .slice (some ⟨gb, 0, none⟩) 1 1) (hgb : w.heap[gb]? = some (.cells #[.string b.name, .int .i64 b.level] 58 (0, 0)))
    (L : List BindD) (xa : Option Addr) (xc : Nat) (hx : a.eval x = .slice xa L.length xc) (hr : RdRow kBind none w (.slice xa L.length xc) L) (hL : L.length ≤ 1000000)
    (hK : ∀ u c w', w'.ownsRow gb 58 2 (.slice u (b :: L).length c) (b :: L).length ((b :: L).flatMap cellsBind) → Below gb w w' → wpList Tryd.prog ops Q rest (a.put o.dst (.slice u (b :: L).length c)) w') :
    wpList Tryd.prog ops Q (o :: rest) a w := by
  obtain ⟨iB, hiB, hzB0, hzB1, hzB2⟩ := info_parts infoBindU
  have hone : w.ownsRow gb 58 2 (.slice (some ⟨gb, 0, none⟩) 1 1) 1 (cellsBind b) := ⟨rfl, .inr ⟨gb, 1, _, rfl, Nat.le_refl _, hgb, Nat.le_refl _, by unfold maxLen; omega, rfl, rfl⟩⟩
  cases xa with
  | none =>
    obtain rfl : L = [] := by
      cases L with
      | nil => rfl
      | cons x l =>
        obtain ⟨b, o, e, _⟩ := RdRow.at hr (i := 0) (x := x) rfl
        cases e
    refine wpList_append_nonec hg s x 28 hop gb 58 iB 2 Tryd.underlying28 hiB _ 1 xc _ hs hone hx ?_
    exact hK _ _ _ hone (Below.refl _ _)
  | some ad =>
    obtain ⟨hcap, hcs⟩ : True ∧ ∀ j u, (L.flatMap cellsBind)[j]? = some u → w.cell? (ad.add j) = some u := by
      refine ⟨trivial, fun j u hj => ?_⟩
      have hlt : j < L.length * 2 := by
        have := (List.getElem?_eq_some_iff.1 hj).1
        rwa [flat_length cellsBind 2 (fun _ => rfl)] at this
      obtain ⟨y, hy⟩ : ∃ y, L[0]? = some y := ⟨_, List.getElem?_eq_getElem (by omega)⟩
      obtain ⟨b', o', e1, _⟩ := RdRow.at hr hy
      simp only [Option.some.injEq] at e1
      subst e1
      have := row_cellsB hr j u hj
      rw [show (⟨b', o', none⟩ : Addr).add j = ⟨b', o' + j, none⟩ from by simp [Addr.add]]
      exact this
    refine wpList_append_own _ hg s x 28 hop gb 58 iB (.agg #[.string ⟨#[]⟩, .int .i64 0]) 2 24 Tryd.underlying28 hiB hzB0 hzB1 hzB2 rfl (by decide) _ _ _ hs hone ad L.length xc (L.flatMap cellsBind) hx (by rw [flat_length cellsBind 2 (fun _ => rfl)]) hcs (by intro u hu; obtain ⟨p, _, hp⟩ := List.mem_flatMap.1 hu; simp only [cellsBind, List.mem_cons, List.not_mem_nil, or_false] at hp; rcases hp with rfl | rfl <;> rfl) (by unfold maxLen; omega) (by omega) (by have := (Array.getElem?_eq_some_iff.1 hgb).1; omega) ?_
    intro v' w' hown hgrow _
    obtain ⟨u, c, rfl, -⟩ := own_read hown
    rw [show 1 + L.length = (b :: L).length from by rw [List.length_cons]; omega] at hown ⊢
    refine hK _ _ _ (by rw [List.flatMap_cons]; exact hown) ?_
    exact (Below.refl gb w).grown hgrow (by have := (Array.getElem?_eq_some_iff.1 hgb).1; omega) (own_row_le hone)

set_option maxRecDepth 100000 in
set_option maxHeartbeats 12800000 in
/-- The walk of **RulesMore**. -/
theorem rulesMore_of (hAw : ∀ w, Laid w → LaidM w → BitsAt w → Calls Tryd.prog 13 #[] w fun e w' => e = .returned (.bool true) ∧ Below w.heap.size w w') (p : ProgD) (cv av fv mv : Value) (q : PolD) (lv ov qv sv dv : Value) (dl : List Int) (w : World) (h : RdProg none w p cv av fv mv) (g : RdPol none w q lv ov qv sv) (hd : RdRow kInt none w dv dl) (hL : Laid w) (hM : LaidM w) (hT : BitsAt w) :
    Calls Tryd.prog 6 #[progV p cv av fv mv, polV q lv ov qv sv, dv] w fun e w' => e = .returned (.bool true) ∧ Below w.heap.size w w' := by
  obtain ⟨pa, pc, rfl, -, -⟩ := id h.1
  obtain ⟨aa, ac, rfl, -, -⟩ := id h.2.1
  obtain ⟨fa, fc, rfl, -, -⟩ := id h.2.2.1
  obtain ⟨ma, mc, rfl, -, -⟩ := id h.2.2.2.1
  obtain ⟨la, lc, rfl⟩ := g.1.is
  obtain ⟨oa, oc, rfl⟩ := g.2.1.is
  obtain ⟨ca, cc, rfl⟩ := g.2.2.1.is
  obtain ⟨ta, tc, rfl⟩ := g.2.2.2.1.is
  obtain ⟨hx0, hx1, hb0⟩ := heap2_of (w := w) (A := .cells #[.int .i64 p.width, .slice pa p.chans.length pc, .slice aa p.arrays.length ac, .slice fa p.funcs.length fc, .slice ma p.main.length mc] 43) (B := .cells #[.slice la q.levels.length lc, .slice oa q.order.length oc, .slice ca q.chans.length cc, .slice ta q.sites.length tc, .bool q.sens, .int .i64 q.steps, .int .i64 q.paths, .int .i64 q.nodes, .int .i64 q.confs] 30) (Below.refl _ _)
  have HFW := Lib.hid (few_prog p _ _ _ _ _ (h.keep hb0))
  have HG0 := Lib.hid g
  have HD0 := Lib.hid hd
  have HL := Lib.hid hL
  have HM := Lib.hid hM
  have HT := Lib.hid hT
  have HX0 := Lib.hid hx0
  have HX1 := Lib.hid hx1
  have HB0 := Lib.hid hb0
  have HAW := Lib.hid hAw
  clear h g hd hL hM hT hx0 hx1 hb0 hAw
  go_enter Tryd.func6, Tryd.ntmps6
  go_upto_region 1 with fail
  generalize (w.alloc (.cells #[.int .i64 p.width, .slice pa p.chans.length pc, .slice aa p.arrays.length ac, .slice fa p.funcs.length fc, .slice ma p.main.length mc] 43)).alloc (.cells #[.slice la q.levels.length lc, .slice oa q.order.length oc, .slice ca q.chans.length cc, .slice ta q.sites.length tc, .bool q.sens, .int .i64 q.steps, .int .i64 q.paths, .int .i64 q.nodes, .int .i64 q.confs] 30) = W at *
  obtain ⟨fb, hfb⟩ : ∃ fb, w.heap.size = fb := ⟨_, rfl⟩
  have HFB := Lib.hid hfb
  rw [hfb] at HX0 HX1
  try rw [hfb]
  clear hfb
  obtain ⟨P, hP⟩ : ∃ P, fewP p = P := ⟨_, rfl⟩
  rw [hP] at HFW
  clear hP
  have c0 := row_of HX0.out 0 (.int .i64 p.width) rfl
  have c1 := row_of HX0.out 1 (.slice pa p.chans.length pc) rfl
  have c2 := row_of HX0.out 2 (.slice aa p.arrays.length ac) rfl
  have c3 := row_of HX0.out 3 (.slice fa p.funcs.length fc) rfl
  have c4 := row_of HX0.out 4 (.slice ma p.main.length mc) rfl
  go_upto_region 2 with (first | (go_at_call 14; refine HFW.out.mono ?_; rintro e wz ⟨c, s, a, k, rfl, hr, hz⟩; obtain ⟨a1, k1, rfl, -, -⟩ := id hr.1; obtain ⟨a2, k2, rfl, -, -⟩ := id hr.2.1; obtain ⟨a3, k3, rfl, -, -⟩ := id hr.2.2.1; obtain ⟨a4, k4, rfl, -, -⟩ := id hr.2.2.2.1; have HBZ := Lib.hid hz; have HRZ := Lib.hid hr; clear hr hz; have HXa := Lib.hid ((HBZ.out.block _ (Array.getElem?_eq_some_iff.1 HX0.out).1).trans HX0.out)) | (refine wpList_store_row rfl 43 (.tmp 3) (.tmp 19) rfl fb #[.int .i64 P.width, .slice a1 P.chans.length k1, .slice a2 P.arrays.length k2, .slice a3 P.funcs.length k3, .slice a4 P.main.length k4] rfl rfl 43 #[.int .i64 p.width, .slice pa p.chans.length pc, .slice aa p.arrays.length ac, .slice fa p.funcs.length fc, .slice ma p.main.length mc] ?hs2 (by as_aux_lemma => kernel_rfl) (by as_aux_lemma => kernel_rfl) (by as_aux_lemma => kernel_rfl) ?_; exact HXa.out))
  try simp only [Act.put]
  clear c0 c1 c2 c3 c4 HFW
  have HX1b := Lib.hid ((HBZ.out.block _ (Array.getElem?_eq_some_iff.1 HX1.out).1).trans HX1.out)
  have hlt : fb + 1 < W.heap.size := (Array.getElem?_eq_some_iff.1 HX1.out).1
  have HY0 : Hid ((wz.setRow fb #[.int .i64 P.width, .slice a1 P.chans.length k1, .slice a2 P.arrays.length k2, .slice a3 P.funcs.length k3, .slice a4 P.main.length k4]).heap[fb]? = some (.cells #[.int .i64 P.width, .slice a1 P.chans.length k1, .slice a2 P.arrays.length k2, .slice a3 P.funcs.length k3, .slice a4 P.main.length k4] 43 (0, 0))) := setRow_heap _ _ _ _ _ _ HXa.out
  have HY1 : Hid ((wz.setRow fb #[.int .i64 P.width, .slice a1 P.chans.length k1, .slice a2 P.arrays.length k2, .slice a3 P.funcs.length k3, .slice a4 P.main.length k4]).heap[fb + 1]? = some (.cells #[.slice la q.levels.length lc, .slice oa q.order.length oc, .slice ca q.chans.length cc, .slice ta q.sites.length tc, .bool q.sens, .int .i64 q.steps, .int .i64 q.paths, .int .i64 q.nodes, .int .i64 q.confs] 30 (0, 0))) := (setRow_other _ _ _ _ (by omega)).trans HX1b.out
  have HP1 : Hid (RdProg none (wz.setRow fb #[.int .i64 P.width, .slice a1 P.chans.length k1, .slice a2 P.arrays.length k2, .slice a3 P.funcs.length k3, .slice a4 P.main.length k4]) P (.slice a1 P.chans.length k1) (.slice a2 P.arrays.length k2) (.slice a3 P.funcs.length k3) (.slice a4 P.main.length k4)) := (RdProg.same (g' := upFrom W.heap.size) HRZ.out (fun b hg _ => setRow_other _ _ _ _ (by have hg : W.heap.size ≤ b := hg; omega)) (fun _ _ k => k)).forget
  have HBB : Hid (Below w.heap.size w (wz.setRow fb #[.int .i64 P.width, .slice a1 P.chans.length k1, .slice a2 P.arrays.length k2, .slice a3 P.funcs.length k3, .slice a4 P.main.length k4])) := below_row (bcomp HB0.out HBZ.out) (by have := HFB.out; omega) _
  have HG1 := Lib.hid (HG0.out.keep HBB.out)
  have HD1 := Lib.hid (HD0.out.keep HBB.out)
  have HL1 := Lib.hid (HL.out.keep HBB.out)
  have HM1 := Lib.hid (HM.out.keep HBB.out)
  have HT1 := Lib.hid (HT.out.keep HBB.out)
  have HA1 : Hid (∀ z, Below (wz.setRow fb #[.int .i64 P.width, .slice a1 P.chans.length k1, .slice a2 P.arrays.length k2, .slice a3 P.funcs.length k3, .slice a4 P.main.length k4]).heap.size (wz.setRow fb #[.int .i64 P.width, .slice a1 P.chans.length k1, .slice a2 P.arrays.length k2, .slice a3 P.funcs.length k3, .slice a4 P.main.length k4]) z → Calls Tryd.prog 13 #[] z fun e w' => e = .returned (.bool true) ∧ Below z.heap.size z w') := fun z hz => HAW.out z (HL1.out.keep hz) (HM1.out.keep hz) (HT1.out.keep hz)
  clear HX0 HX1 HX1b HB0 HBZ HRZ HXa hlt HL HM HT HG0 HD0 HAW
  generalize wz.setRow fb #[.int .i64 P.width, .slice a1 P.chans.length k1, .slice a2 P.arrays.length k2, .slice a3 P.funcs.length k3, .slice a4 P.main.length k4] = W1 at *
  -- flat.Of
  obtain ⟨⟨F, E⟩, hFE⟩ : ∃ r, flatOf P = r := ⟨_, rfl⟩
  have HOF : Hid (Calls Tryd.prog 16 #[.agg #[.int .i64 P.width, .slice a1 P.chans.length k1, .slice a2 P.arrays.length k2, .slice a3 P.funcs.length k3, .slice a4 P.main.length k4]] W1 fun e w' => ∃ d1 n1 d2 n2 d3 n3 d4 n4, e = .returned (.tuple #[.agg #[.int .i64 F.width, .int .i64 F.regs, .slice d1 F.chans.length n1, .slice d2 F.sites.length n2, .slice d3 F.arrays.length n3, .slice d4 F.code.length n4], .int .i64 E]) ∧ RdFlat none w' F (.slice d1 F.chans.length n1) (.slice d2 F.sites.length n2) (.slice d3 F.arrays.length n3) (.slice d4 F.code.length n4) ∧ Below W1.heap.size W1 w') := by
    refine (flatOf_any P _ _ _ _ W1 HP1.out HL1.out).mono ?_
    rintro e w' ⟨c, s, a, k, rfl, hrd, hz⟩
    rw [hFE] at hrd ⊢
    obtain ⟨d1, n1, rfl⟩ := hrd.1.is
    obtain ⟨d2, n2, rfl⟩ := hrd.2.1.is
    obtain ⟨d3, n3, rfl⟩ := hrd.2.2.1.is
    obtain ⟨d4, n4, rfl⟩ := hrd.2.2.2.1.is
    exact ⟨d1, n1, d2, n2, d3, n3, d4, n4, rfl, hrd.forget, hz⟩
  have HFE := Lib.hid hFE
  clear hFE
  have c0 := row_of HY0.out 0 (.int .i64 P.width) rfl
  have c1 := row_of HY0.out 1 (.slice a1 P.chans.length k1) rfl
  have c2 := row_of HY0.out 2 (.slice a2 P.arrays.length k2) rfl
  have c3 := row_of HY0.out 3 (.slice a3 P.funcs.length k3) rfl
  have c4 := row_of HY0.out 4 (.slice a4 P.main.length k4) rfl
  by_cases hE : E = 0
  rotate_left
  · have he0 : (E != 0) = true := by simp [hE]
    go_wp2_with (first | (go_at_call 16; refine HOF.out.mono ?_; rintro e w2 ⟨d1, n1, d2, n2, d3, n3, d4, n4, rfl, hrd, hz⟩; have HB2 := Lib.hid (bcomp hz ((Below.refl w2.heap.size w2).alloc (Nat.le_refl _) (.cells #[.int .i64 F.width, .int .i64 F.regs, .slice d1 F.chans.length n1, .slice d2 F.sites.length n2, .slice d3 F.arrays.length n3, .slice d4 F.code.length n4] 26))); clear hz hrd) | (go_at_call 13; refine (HA1.out _ HB2.out).mono ?_; rintro e z ⟨rfl, hz⟩; have BZ := Lib.hid hz; clear hz))
    go_ret
    exact ⟨rfl, bcomp HBB.out (bcomp HB2.out BZ.out)⟩
  subst hE
  have hck : checkF P = none := by
    cases hc : checkF P with
    | none => rfl
    | some f0 =>
      have := flatOf_fault hc
      rw [HFE.out] at this
      simp at this
      have h9 := (check_fault hc).1
      omega
  have hFI : F = flatI P ∧ flatOk (flatI P) = true := by
    have := flatOf_good hck
    rw [HFE.out] at this
    split at this
    · simp at this
    · rename_i hl
      simp at this
      exact ⟨this, flat_valid (wfP_of hck) (wordsU_of HP1.out) (placesP_len hck) (by omega)⟩
  obtain ⟨hFI, hok⟩ := hFI
  have HFI := Lib.hid hFI
  have HOK := Lib.hid hok
  have HCF := Lib.hid hck
  clear hck hFI hok HFE
  go_upto_region 5 with (go_at_call 16; refine HOF.out.mono ?_; rintro e w2 ⟨d1, n1, d2, n2, d3, n3, d4, n4, rfl, hrd, hz⟩; have HRF := Lib.hid hrd; have HBF := Lib.hid hz; clear hrd hz)
  try simp only [Act.put]
  clear c0 c1 c2 c3 c4 HOF
  have HF2 := Lib.hid (heap_alloc_new w2 (.cells #[.int .i64 F.width, .int .i64 F.regs, .slice d1 F.chans.length n1, .slice d2 F.sites.length n2, .slice d3 F.arrays.length n3, .slice d4 F.code.length n4] 26))
  have HB2 : Hid (Below W1.heap.size W1 (w2.alloc (.cells #[.int .i64 F.width, .int .i64 F.regs, .slice d1 F.chans.length n1, .slice d2 F.sites.length n2, .slice d3 F.arrays.length n3, .slice d4 F.code.length n4] 26))) := bcomp HBF.out ((Below.refl _ _).alloc (Nat.le_refl _) _)
  have HRF2 := Lib.hid (HRF.out.keep ((Below.refl w2.heap.size w2).alloc (Nat.le_refl _) (.cells #[.int .i64 F.width, .int .i64 F.regs, .slice d1 F.chans.length n1, .slice d2 F.sites.length n2, .slice d3 F.arrays.length n3, .slice d4 F.code.length n4] 26)))
  generalize w2.alloc (.cells #[.int .i64 F.width, .int .i64 F.regs, .slice d1 F.chans.length n1, .slice d2 F.sites.length n2, .slice d3 F.arrays.length n3, .slice d4 F.code.length n4] 26) = W2 at *
  obtain ⟨yb, hyb⟩ : ∃ yb, w2.heap.size = yb := ⟨_, rfl⟩
  rw [hyb] at HF2
  try rw [hyb]
  clear hyb HBF HRF
  have HY0b := Lib.hid ((HB2.out.block _ (Array.getElem?_eq_some_iff.1 HY0.out).1).trans HY0.out)
  have HY1b := Lib.hid ((HB2.out.block _ (Array.getElem?_eq_some_iff.1 HY1.out).1).trans HY1.out)
  have HGV := Lib.hid (given29 P _ _ _ _ q _ _ _ _ _ dl W2 (HP1.out.keep HB2.out) (HG1.out.keep HB2.out) (HD1.out.keep HB2.out) (HT1.out.keep HB2.out) (all_len HCF.out))
  have c0 := row_of HY0b.out 0 (.int .i64 P.width) rfl
  have c1 := row_of HY0b.out 1 (.slice a1 P.chans.length k1) rfl
  have c2 := row_of HY0b.out 2 (.slice a2 P.arrays.length k2) rfl
  have c3 := row_of HY0b.out 3 (.slice a3 P.funcs.length k3) rfl
  have c4 := row_of HY0b.out 4 (.slice a4 P.main.length k4) rfl
  have d0 := row_of HY1b.out 0 (.slice la q.levels.length lc) rfl
  have d1 := row_of HY1b.out 1 (.slice oa q.order.length oc) rfl
  have d2 := row_of HY1b.out 2 (.slice ca q.chans.length cc) rfl
  have d3 := row_of HY1b.out 3 (.slice ta q.sites.length tc) rfl
  have d4 := row_of HY1b.out 4 (.bool q.sens) rfl
  have d5 := row_of HY1b.out 5 (.int .i64 q.steps) rfl
  have d6 := row_of HY1b.out 6 (.int .i64 q.paths) rfl
  have d7 := row_of HY1b.out 7 (.int .i64 q.nodes) rfl
  have d8 := row_of HY1b.out 8 (.int .i64 q.confs) rfl
  go_upto_region 6 with (go_at_call 19; refine HGV.out.mono ?_; rintro e w3 ⟨R, hgq, lv, ov, cv, sv, rfl, hr, hz⟩; obtain ⟨b1, l1, rfl⟩ := hr.1.is; obtain ⟨b2, l2, rfl⟩ := hr.2.1.is; obtain ⟨b3, l3, rfl⟩ := hr.2.2.1.is; obtain ⟨b4, l4, rfl⟩ := hr.2.2.2.1.is; have HB3 := Lib.hid hz; have HR3 := Lib.hid hr; have HGQ := Lib.hid hgq; clear hr hz hgq)
  try simp only [Act.put]
  clear c0 c1 c2 c3 c4 d0 d1 d2 d3 d4 d5 d6 d7 d8 HGV HY0 HY1
  have HX4 := Lib.hid (heap_alloc_new w3 (.cells #[.slice b1 R.levels.length l1, .slice b2 R.order.length l2, .slice b3 R.chans.length l3, .slice b4 R.sites.length l4, .bool R.sens, .int .i64 R.steps, .int .i64 R.paths, .int .i64 R.nodes, .int .i64 R.confs] 30))
  have B4 : Hid (Below W2.heap.size W2 (w3.alloc (.cells #[.slice b1 R.levels.length l1, .slice b2 R.order.length l2, .slice b3 R.chans.length l3, .slice b4 R.sites.length l4, .bool R.sens, .int .i64 R.steps, .int .i64 R.paths, .int .i64 R.nodes, .int .i64 R.confs] 30))) := bcomp HB3.out ((Below.refl _ _).alloc (Nat.le_refl _) _)
  have HR4 := Lib.hid (HR3.out.keep ((Below.refl w3.heap.size w3).alloc (Nat.le_refl _) (.cells #[.slice b1 R.levels.length l1, .slice b2 R.order.length l2, .slice b3 R.chans.length l3, .slice b4 R.sites.length l4, .bool R.sens, .int .i64 R.steps, .int .i64 R.paths, .int .i64 R.nodes, .int .i64 R.confs] 30)))
  have HSZ4 : Hid (w3.heap.size < (w3.alloc (.cells #[.slice b1 R.levels.length l1, .slice b2 R.order.length l2, .slice b3 R.chans.length l3, .slice b4 R.sites.length l4, .bool R.sens, .int .i64 R.steps, .int .i64 R.paths, .int .i64 R.nodes, .int .i64 R.confs] 30)).heap.size) := by show _ < _; simp
  have HSZ3 := Lib.hid HB3.out.size
  generalize w3.alloc (.cells #[.slice b1 R.levels.length l1, .slice b2 R.order.length l2, .slice b3 R.chans.length l3, .slice b4 R.sites.length l4, .bool R.sens, .int .i64 R.steps, .int .i64 R.paths, .int .i64 R.nodes, .int .i64 R.confs] 30) = W4 at *
  obtain ⟨xb, hxb⟩ : ∃ xb, w3.heap.size = xb := ⟨_, rfl⟩
  rw [hxb] at HX4 HSZ4 HSZ3
  try rw [hxb]
  clear hxb HB3 HR3
  have HY0 := Lib.hid ((B4.out.block _ (Array.getElem?_eq_some_iff.1 HY0b.out).1).trans HY0b.out)
  have HB4 := Lib.hid (bcomp HB2.out B4.out)
  have HP4 := Lib.hid (HP1.out.keep HB4.out)
  have HL4 := Lib.hid (HL1.out.keep HB4.out)
  have HM4 := Lib.hid (HM1.out.keep HB4.out)
  have HT4 := Lib.hid (HT1.out.keep HB4.out)
  have HF4 := Lib.hid ((B4.out.block _ (Array.getElem?_eq_some_iff.1 HF2.out).1).trans HF2.out)
  have HRF4 := Lib.hid (HRF2.out.keep B4.out)
  have HA4 : Hid (∀ z, Below W4.heap.size W4 z → Calls Tryd.prog 13 #[] z fun e w' => e = .returned (.bool true) ∧ Below z.heap.size z w') := fun z hz => HA1.out z (bcomp HB4.out hz)
  have hH := wfP_of HCF.out
  have HLN : Hid (R.chans.length ≤ 32 ∧ R.sites.length ≤ 32) := by
    have h1 := congrArg List.length HGQ.out.1
    have h2 := congrArg List.length HGQ.out.2.1
    rw [List.length_map] at h1 h2
    have h3 := hH.chl
    have h4 := hH.sites
    exact ⟨by omega, by omega⟩
  have HLV := Lib.hid (polErr_levels (q := { R with chans := [], sites := [] }) HGQ.out.2.2.2)
  have HB4x := Lib.hid HB4.out
  clear HF2 HRF2 HA1 HB2 HB4 B4 HY0b HY1b HSZ3 HSZ4 hH
  -- the copy
  have HCP := Lib.hid (copyPolO R _ _ _ _ W4 HR4.out.forget)
  have d0 := row_of HX4.out 0 (.slice b1 R.levels.length l1) rfl
  have d1 := row_of HX4.out 1 (.slice b2 R.order.length l2) rfl
  have d2 := row_of HX4.out 2 (.slice b3 R.chans.length l3) rfl
  have d3 := row_of HX4.out 3 (.slice b4 R.sites.length l4) rfl
  have d4 := row_of HX4.out 4 (.bool R.sens) rfl
  have d5 := row_of HX4.out 5 (.int .i64 R.steps) rfl
  have d6 := row_of HX4.out 6 (.int .i64 R.paths) rfl
  have d7 := row_of HX4.out 7 (.int .i64 R.nodes) rfl
  have d8 := row_of HX4.out 8 (.int .i64 R.confs) rfl
  go_upto_region 7 with (go_at_call 22; refine HCP.out.mono ?_; rintro e w5 ⟨v1, v2, v3, v4, rfl, r1, r2, o1, o2, ap, hz⟩; obtain ⟨u1, m1, rfl⟩ := r1.is; obtain ⟨u2, m2, rfl⟩ := r2.is; obtain ⟨u3, m3, rfl, -⟩ := own_read o1; obtain ⟨u4, m4, rfl, -⟩ := own_read o2; have HZ5 := Lib.hid hz; have HR1 := Lib.hid r1; have HR2 := Lib.hid r2; have HO1 := Lib.hid o1; have HO2 := Lib.hid o2; have HAP := Lib.hid ap; clear hz r1 r2 o1 o2 ap)
  try simp only [Act.put]
  clear d0 d1 d2 d3 d4 d5 d6 d7 d8 HCP
  have hal : Below w5.heap.size w5 (w5.alloc (.cells #[.slice u1 R.levels.length m1, .slice u2 R.order.length m2, .slice u3 R.chans.length m3, .slice u4 R.sites.length m4, .bool R.sens, .int .i64 R.steps, .int .i64 R.paths, .int .i64 R.nodes, .int .i64 R.confs] 30)) := (Below.refl _ _).alloc (Nat.le_refl _) _
  have hat : Ms.At ⟨W4, w5.heap.size, R, u1, m1, u2, m2⟩ (.slice u3 R.chans.length m3) (.slice u4 R.sites.length m4) R.chans R.sites (w5.alloc (.cells #[.slice u1 R.levels.length m1, .slice u2 R.order.length m2, .slice u3 R.chans.length m3, .slice u4 R.sites.length m4, .bool R.sens, .int .i64 R.steps, .int .i64 R.paths, .int .i64 R.nodes, .int .i64 R.confs] 30)) :=
    ⟨bcomp HZ5.out hal, HZ5.out.size, heap_alloc_new _ _, HR1.out.keep hal, HR2.out.keep hal, own_below HO1.out hal, own_below HO2.out hal, HAP.out, fun b hb => by
      rcases List.mem_append.1 hb with hb | hb
      · exact HR4.out.2.2.1.ok b hb
      · exact HR4.out.2.2.2.1.ok b hb, HR4.out.2.2.2.2⟩
  have HAT := Lib.hid hat
  generalize w5.alloc (.cells #[.slice u1 R.levels.length m1, .slice u2 R.order.length m2, .slice u3 R.chans.length m3, .slice u4 R.sites.length m4, .bool R.sens, .int .i64 R.steps, .int .i64 R.paths, .int .i64 R.nodes, .int .i64 R.confs] 30) = W6 at *
  obtain ⟨g, hg0, hg1, hg2, hg3, hg4, hg5⟩ : ∃ g : Ms, w5.heap.size = g.xb ∧ u1 = g.la ∧ m1 = g.lc ∧ u2 = g.oa ∧ m2 = g.oc ∧ g = ⟨W4, w5.heap.size, R, u1, m1, u2, m2⟩ := ⟨⟨W4, w5.heap.size, R, u1, m1, u2, m2⟩, rfl, rfl, rfl, rfl, rfl, rfl⟩
  rw [← hg5] at HAT
  have HGW : Hid (g.w0 = W4) := by rw [hg5]; rfl
  have HGB : Hid (g.B = R) := by rw [hg5]; rfl
  clear hat hal HZ5 HR1 HR2 HO1 HO2 HAP hg5
  try rw [hg0]
  subst hg1 hg2 hg3 hg4
  clear hg0 w5
  have hl1 : R.chans.length ≤ 32 := HLN.out.1
  have hl2 : R.sites.length ≤ 32 := HLN.out.2
  have HXL : Hid (0 ≤ (g.B.levels.length : Int) - 1 ∧ (g.B.levels.length : Int) - 1 < R.levels.length ∧ g.B.levels.length ≤ 32) := by
    have h1 := HLV.out.1
    have h2 := HLV.out.2
    have h1 : 1 ≤ R.levels.length := h1
    have h2 : R.levels.length ≤ 32 := h2
    rw [HGB.out]
    exact ⟨by omega, by omega, h2⟩
  obtain ⟨T, hTT⟩ : ∃ T, (decide (R.chans.length < 32) && !hasN R.chans otC) = T := ⟨_, rfl⟩
  have HTV := Lib.hid hTT
  clear hTT
  go_cut [43] from 34 to 43 (fun t wx => t = .bool T ∧ Below W6.heap.size W6 wx)
  case first =>
    have hrow := (HAT.out.row1 (by omega)).forget
    have HNM := Lib.hid (named29 (.slice u3 R.chans.length m3) R.chans otC W6 hrow)
    have d2 := row_of HAT.out.hq 2 (.slice u3 R.chans.length m3) rfl
    clear hrow
    by_cases h32 : R.chans.length < 32
    rotate_left
    · have h33 : ¬ (R.chans.length : Int) < 32 := by omega
      obtain rfl : T = false := by rw [← HTV.out]; simp [h32]
      go_wp2_with fail
      go_meet
      exact ⟨rfl, Below.refl _ _⟩
    have h33 : (R.chans.length : Int) < 32 := by omega
    cases hV : hasN R.chans otC
    · obtain rfl : T = true := by rw [← HTV.out, hV]; simp [h32]
      rw [hV] at HNM
      go_wp2_with (go_at_call 23; refine HNM.out.mono ?_; rintro e z ⟨rfl, hz⟩; have HZ := Lib.hid hz; clear hz)
      go_meet
      exact ⟨rfl, HZ.out⟩
    · obtain rfl : T = false := by rw [← HTV.out, hV]; simp
      rw [hV] at HNM
      go_wp2_with (go_at_call 23; refine HNM.out.mono ?_; rintro e z ⟨rfl, hz⟩; have HZ := Lib.hid hz; clear hz)
      go_meet
      exact ⟨rfl, HZ.out⟩
  case rest =>
  obtain ⟨rfl, hb7⟩ := hcut
  obtain ⟨W7, rfl⟩ : ∃ x : World, x = wc := ⟨_, rfl⟩
  have HAT7 := Lib.hid (HAT.out.keep hb7)
  clear HAT hb7
  go_upto_if 43 with fail
  go_cut [] from 44 to 53 (fun wx => ∃ (pre : List BindD) (x1 : Option Addr) (y1 : Nat), Added R.levels.length otC R.chans pre ∧ g.At (.slice x1 (pre ++ R.chans).length y1) (.slice u4 R.sites.length m4) (pre ++ R.chans) R.sites wx)
  case first =>
    cases T
    · go_wp2_with fail
      go_meet
      exact ⟨[], _, _, .inl rfl, HAT7.out⟩
    obtain ⟨h32, HV⟩ : R.chans.length < 32 ∧ Hid (hasN R.chans otC = false) := by
      have := HTV.out
      simp at this
      exact ⟨this.1, this.2⟩
    go_upto_region 8 with fail
    have d0 := row_of HAT7.out.hq 0 (.slice g.la g.B.levels.length g.lc) rfl
    have hx1 : (g.B.levels.length : Int) ≤ 32 := by have := HXL.out.2.2; omega
    have hx2 : 0 ≤ (g.B.levels.length : Int) - 1 := HXL.out.1
    have hal : Below W7.heap.size W7 (W7.alloc (.cells #[.string ⟨#[111, 116, 104, 101, 114, 95, 99, 104, 97, 110, 110, 101, 108]⟩, .int .i64 ((g.B.levels.length : Int) - 1)] 58)) := (Below.refl _ _).alloc (Nat.le_refl _) _
    have HN := Lib.hid (heap_alloc_new W7 (.cells #[.string ⟨#[111, 116, 104, 101, 114, 95, 99, 104, 97, 110, 110, 101, 108]⟩, .int .i64 ((g.B.levels.length : Int) - 1)] 58))
    have HAT8 := Lib.hid (HAT7.out.keep hal)
    have HAL := Lib.hid hal
    have d2 := row_of HAT8.out.hq 2 (.slice u3 R.chans.length m3) rfl
    have d2b := row_of HAT7.out.hq 2 (.slice u3 R.chans.length m3) rfl
    clear hal
    go_wp2_with (at_builtin; refine wpList_joinB rfl (.tmp 49) (.tmp 51) rfl W7.heap.size ⟨otC, (g.B.levels.length : Int) - 1⟩ rfl HN.out R.chans u3 m3 rfl (HAT8.out.row1 (by omega)).forget (by omega) ?_)
    intro u c w8 ho hb8
    clear d0 d2 d2b hx1 hx2
    have hb9 : Below W7.heap.size W7 w8 := HAL.out.trans hb8
    have hat8 := HAT7.out.keep hb9
    have hlo := HAT7.out.below.size
    have hfin := hat8.put1 (L' := (⟨otC, (g.B.levels.length : Int) - 1⟩ : BindD) :: R.chans) (own_upF ho hlo) (fun i hi hj => by
      have h1 := (own_is ho hi).1
      obtain ⟨_, cur, hc⟩ := own_is HAT7.out.own2 hj
      have h2 := (Array.getElem?_eq_some_iff.1 hc).1
      omega) (fun b hb => by
      rcases List.mem_append.1 hb with hb | hb
      · rcases List.mem_cons.1 hb with rfl | hb
        · refine ⟨show otC.size ≤ maxLen by decide, ?_⟩
          have := HXL.out
          show InI64 ((g.B.levels.length : Int) - 1)
          unfold InI64
          omega
        · exact HAT7.out.ok b (List.mem_append_left _ hb)
      · exact HAT7.out.ok b (List.mem_append_right _ hb))
    have HFIN := Lib.hid hfin
    have c2 := row_of hat8.hq 2 (.slice u3 R.chans.length m3) rfl
    have f2 := frozen_of_row w8 g.xb 2 _ _ hat8.hq
    clear ho hb8 hb9 hat8 hlo hfin
    go_wp2_with fail
    go_meet
    exact ⟨[⟨otC, (g.B.levels.length : Int) - 1⟩], _, _, .inr ⟨h32, HV.out, _, HXL.out.1, HXL.out.2.1, rfl⟩, HFIN.out⟩
  case rest =>
  obtain ⟨pre, x1, y1, hpre, hat⟩ := hcut
  obtain ⟨W9, rfl⟩ : ∃ x : World, x = wc := ⟨_, rfl⟩
  have HPRE := Lib.hid hpre
  have HAT := Lib.hid hat
  obtain ⟨C, hC⟩ : ∃ C, pre ++ R.chans = C := ⟨_, rfl⟩
  rw [hC] at HAT
  have HC := Lib.hid hC
  have hcl : C.length ≤ 33 := by
    rw [← hC, List.length_append]
    rcases hpre with rfl | ⟨_, _, _, _, _, rfl⟩ <;> simp <;> omega
  clear hpre hat hC
  clear HTV
  go_upto_region 9 with fail
  obtain ⟨T, hTT⟩ : ∃ T, (decide (R.sites.length < 32) && !hasN R.sites otS) = T := ⟨_, rfl⟩
  have HTV := Lib.hid hTT
  clear hTT
  go_cut [63] from 54 to 63 (fun t wx => t = .bool T ∧ Below W9.heap.size W9 wx)
  case first =>
    have hrow := (HAT.out.row2 (by omega)).forget
    have HNM := Lib.hid (named29 (.slice u4 R.sites.length m4) R.sites otS W9 hrow)
    have d3 := row_of HAT.out.hq 3 (.slice u4 R.sites.length m4) rfl
    clear hrow
    by_cases h32 : R.sites.length < 32
    rotate_left
    · have h33 : ¬ (R.sites.length : Int) < 32 := by omega
      obtain rfl : T = false := by rw [← HTV.out]; simp [h32]
      go_wp2_with fail
      go_meet
      exact ⟨rfl, Below.refl _ _⟩
    have h33 : (R.sites.length : Int) < 32 := by omega
    cases hV : hasN R.sites otS
    · obtain rfl : T = true := by rw [← HTV.out, hV]; simp [h32]
      rw [hV] at HNM
      go_wp2_with (go_at_call 23; refine HNM.out.mono ?_; rintro e z ⟨rfl, hz⟩; have HZ := Lib.hid hz; clear hz)
      go_meet
      exact ⟨rfl, HZ.out⟩
    · obtain rfl : T = false := by rw [← HTV.out, hV]; simp
      rw [hV] at HNM
      go_wp2_with (go_at_call 23; refine HNM.out.mono ?_; rintro e z ⟨rfl, hz⟩; have HZ := Lib.hid hz; clear hz)
      go_meet
      exact ⟨rfl, HZ.out⟩
  case rest =>
  obtain ⟨rfl, hb7⟩ := hcut
  obtain ⟨W10, rfl⟩ : ∃ x : World, x = wc := ⟨_, rfl⟩
  have HAT7 := Lib.hid (HAT.out.keep hb7)
  clear HAT hb7
  go_upto_if 63 with fail
  go_cut [] from 64 to 69 (fun wx => ∃ (post : List BindD) (x2 : Option Addr) (y2 : Nat), Added R.levels.length otS R.sites post ∧ g.At (.slice x1 C.length y1) (.slice x2 (R.sites ++ post).length y2) C (R.sites ++ post) wx)
  case first =>
    cases T
    · go_wp2_with fail
      go_meet
      exact ⟨[], _, _, .inl rfl, by rw [List.append_nil]; exact HAT7.out⟩
    obtain ⟨h32, HV⟩ : R.sites.length < 32 ∧ Hid (hasN R.sites otS = false) := by
      have := HTV.out
      simp at this
      exact ⟨this.1, this.2⟩
    go_upto_region 10 with fail
    obtain ⟨iB, hiB, hzB0, hzB1, hzB2⟩ := info_parts infoBindU
    have hal : Below W10.heap.size W10 (W10.alloc (.cells #[.string ⟨#[111, 116, 104, 101, 114, 95, 115, 105, 116, 101]⟩, .int .i64 0] 58)) := (Below.refl _ _).alloc (Nat.le_refl _) _
    have HN := Lib.hid (heap_alloc_new W10 (.cells #[.string ⟨#[111, 116, 104, 101, 114, 95, 115, 105, 116, 101]⟩, .int .i64 0] 58))
    have HAT8 := Lib.hid (HAT7.out.keep hal)
    have HAL := Lib.hid hal
    have d3 := row_of HAT7.out.hq 3 (.slice u4 R.sites.length m4) rfl
    clear hal
    go_wp2_with (at_builtin; refine wpList_append_own_at _ rfl (.tmp 65) (.tmp 67) 28 rfl g.w0.heap.size 58 iB (.agg #[.string ⟨#[]⟩, .int .i64 0]) 2 24 Tryd.underlying28 hiB hzB0 hzB1 hzB2 rfl (by decide) _ _ _ rfl HAT8.out.own2 ⟨W10.heap.size, 0, none⟩ 1 1 (cellsBind ⟨otS, 0⟩) rfl rfl ?hnw ?hone ?h63 ?hby HAT8.out.below.size ?_)
    case hnw =>
      intro j u hu
      have e : (⟨W10.heap.size, 0, none⟩ : Addr).add j = ⟨W10.heap.size, j, none⟩ := by simp [Addr.add] <;> omega
      rw [e]
      exact row_of HN.out j u (by rw [← List.getElem?_toArray] at hu; exact hu)
    case hone => intro u hu; simp only [cellsBind, List.mem_cons, List.not_mem_nil, or_false] at hu; rcases hu with rfl | rfl <;> rfl
    case h63 => unfold maxLen; omega
    case hby => omega
    intro v' w8 hown' hgrow _ hblk
    obtain ⟨za, zc, rfl, _⟩ := own_read hown'
    have hT4 : Turned (fun k => (Value.slice u4 R.sites.length m4).ownBlock = some k) _ w8 := Turned.of_grown hgrow (fun b e => e)
    have HFIN := Lib.hid (HAT8.out.push2 ⟨otS, 0⟩ ⟨show otS.size ≤ maxLen by decide, show InI64 0 by unfold InI64; omega⟩ hT4 hown' (hblk.imp id fun e => e.trans (by simp)))
    have hq8 := (hT4.block _ HAT8.out.lt (fun e => HAT8.out.ne2 e)).trans HAT8.out.hq
    have c3 := row_of hq8 3 (.slice u4 R.sites.length m4) rfl
    have f3 := frozen_of_row w8 g.xb 3 _ _ hq8
    clear hown' hgrow hblk hT4 hq8 d3
    go_wp2_with fail
    go_meet
    exact ⟨[⟨otS, 0⟩], _, _, .inr ⟨h32, HV.out, 0, by omega, by have := HLV.out.1; have h1 : 1 ≤ R.levels.length := this; omega, rfl⟩, by rw [show (R.sites ++ [(⟨otS, 0⟩ : BindD)]).length = R.sites.length + 1 by simp]; exact HFIN.out⟩
  case rest =>
  obtain ⟨post, x2, y2, hpost, hat⟩ := hcut
  obtain ⟨W11, rfl⟩ : ∃ x : World, x = wc := ⟨_, rfl⟩
  have HPOST := Lib.hid hpost
  have HAT := Lib.hid hat
  obtain ⟨D, hD⟩ : ∃ D, R.sites ++ post = D := ⟨_, rfl⟩
  rw [hD] at HAT
  have HD := Lib.hid hD
  have hdl : D.length ≤ 33 := by
    rw [← hD, List.length_append]
    rcases hpost with rfl | ⟨_, _, _, _, _, rfl⟩ <;> simp <;> omega
  clear hpost hat hD
  go_wp2_with fail
  go_loopw [11] (fun i wr => ∃ (j : Nat) (L : List BindD), j ≤ C.length / 2 ∧ i = .int .i64 j ∧ Rv C L j ∧ g.At (.slice x1 L.length y1) (.slice x2 D.length y2) L D wr) (fun i _ => C.length - (intOf i).toNat)
  case atStart => exact ⟨0, C, Nat.zero_le _, rfl, Rv.start C, HAT.out⟩
  case round =>
    obtain ⟨j, L, hj, rfl, hrv, hat⟩ := hrel
    obtain ⟨z0, rfl⟩ : ∃ x : World, x = wr := ⟨_, rfl⟩
    have HAT1 := Lib.hid hat
    have HRV := Lib.hid hrv
    have hLC : L.length = C.length := hrv.1
    clear hat hrv HAT
    have q2 := row_of HAT1.out.hq 2 (.slice x1 L.length y1) rfl
    have htd : ((C.length : Int)).tdiv 2 = ((C.length / 2 : Nat) : Int) := by rw [Int.tdiv_eq_ediv_of_nonneg (by omega)]; rfl
    by_cases hlt : j < C.length / 2
    · obtain ⟨H2, hH2⟩ : ∃ n : Nat, C.length / 2 = n := ⟨_, rfl⟩
      rw [hH2] at htd
      have hlt1 : (j : Int) < (H2 : Int) := by omega
      have hj1 : j < L.length := by omega
      obtain ⟨k, hk⟩ : ∃ k, C.length - 1 - j = k := ⟨_, rfl⟩
      have hk1 : k < L.length := by omega
      obtain ⟨u, hu⟩ : ∃ u, L[j]? = some u := ⟨_, List.getElem?_eq_getElem hj1⟩
      obtain ⟨v, hv⟩ : ∃ v, L[k]? = some v := ⟨_, List.getElem?_eq_getElem hk1⟩
      have hstep := HRV.out.step (by omega) hu (by rw [hk]; exact hv)
      rw [hk] at hstep
      have hrow := (HAT1.out.row1 (by omega)).forget
      obtain ⟨bb, oo, rfl, _, c0, c1, hux⟩ := atBind hrow hu
      obtain ⟨b2, o2, e2, _, c2, c3, hvx⟩ := atBind hrow hv
      simp only [Option.some.injEq, Addr.mk.injEq, and_true] at e2
      obtain ⟨rfl, rfl⟩ := e2
      have hoo : oo = 0 := by
        obtain ⟨_, h | ⟨_, _, _, e, _⟩⟩ := HAT1.out.own1
        · simp at h
        · simp only [Value.slice.injEq, Option.some.injEq, Addr.mk.injEq, and_true] at e
          exact e.1.2
      subst hoo
      rw [Nat.zero_add] at c0 c1 c2 c3
      obtain ⟨cs, hrb⟩ : ∃ cs, z0.heap[bb]? = some (.cells cs 58 (0, 0)) := (own_is HAT1.out.own1 rfl).2
      have hbx : bb ≠ g.xb := fun e => HAT1.out.ne1 (by rw [← e]; rfl)
      have HBXN := Lib.hid hbx
      have HSTEP := Lib.hid hstep
      have HV9 := Lib.hid hv
      have HUX := Lib.hid hux
      have HVX := Lib.hid hvx
      have HRB := Lib.hid hrb
      have HC0 := Lib.hid c0
      have HC1 := Lib.hid c1
      have HC2 := Lib.hid c2
      have HC3 := Lib.hid c3
      have hkk : ((C.length : Int) - 1) - (j : Int) = (k : Int) := by omega
      have hLi : (L.length : Int) = (C.length : Int) := by omega
      go_upto_region 14 with fail
      clear q2 c0 c1 c2 c3
      have q1 := keepS_cell (S := [g.xb, bb]) (by simp) (row_of HAT1.out.hq 2 (.slice (some ⟨bb, 0, none⟩) L.length y1) rfl)
      have q4 := keepS_cell (S := [g.xb]) (by simp) (row_of HAT1.out.hq 2 (.slice (some ⟨bb, 0, none⟩) L.length y1) rfl)
      have c0 := keepS_cell (S := [g.xb, bb]) (by simp) HC0.out
      have c1 := keepS_cell (S := [g.xb, bb]) (by simp) HC1.out
      have c2 := keepS_cell (S := [g.xb, bb]) (by simp) HC2.out
      have c3 := keepS_cell (S := [g.xb, bb]) (by simp) HC3.out
      have hjL : (j : Int) < (L.length : Int) := by omega
      have hkL : (k : Int) < (L.length : Int) := by omega
      have hLb : (L.length : Int) ≤ 33 := by omega
      have hkk2 : ((L.length : Int) - 1) - (j : Int) = (k : Int) := by omega
      refine wp_region_keep (fun w' => ∃ x, w' = keepS z0 [g.xb, bb] x) (fun w' => ∃ x, w' = keepS z0 [g.xb] x) [0, 1, 2, 11, 12, 13, 14, 15, 16, 17, 18, 19, 20, 21, 22, 23, 24, 25] [3, 4, 5, 6, 7, 8, 9, 10] [26, 27, 28, 29] (fun j => decide (27 ≤ j)) (by kernel_rfl) (by kernel_rfl) rfl (by kernel_rfl) (fun _ d _ _ _ h => by cases d <;> exact h) ⟨_, keepS_of (fun _ _ => rfl)⟩ ⟨_, keepS_of (fun _ _ => rfl)⟩ ?_
      have HBd : Hid (Below z0.heap.size z0 z0.drew) := (Below.refl _ _).drew
      have HDR : Hid (∀ b : Nat, z0.drew.heap[b]? = z0.heap[b]?) := fun _ => rfl
      generalize z0.drew = y0 at *
      refine keep_walk (by simp only [opsOf, List.filterMap_cons, List.filterMap_nil, List.getElem?_toArray, List.getElem?_cons_succ, List.getElem?_cons_zero]; rfl) (by simp only [opsOf, List.filterMap_cons, List.filterMap_nil, List.getElem?_toArray, List.getElem?_cons_succ, List.getElem?_cons_zero]; rfl) ?_
      change wpQuiet _ _ _ _ [_, _, _, _, _, _, _, _, _, _, _, _, _, _, _, _, _, _] _
      (repeat (go_big_quiet_step (fail)))
      refine wpQuiet_nil ?_
      change wpQuiet _ _ _ _ [_, _, _, _, _, _, _, _] _
      (repeat (go_big_quiet_step (fail)))
      refine wpQuiet_nil ?_
      clear q1 q4 c0 c1 c2 c3
      have HAy := Lib.hid (HAT1.out.keep HBd.out)
      refine ones_step rfl ?_
      refine mix_step rfl ?_
      go_wp2_with fail
      refine ⟨⟨fun _ => ⟨_, keepS_of fun b _ => HDR.out b⟩, fun _ _ => ⟨_, keepS_of fun b _ => HDR.out b⟩⟩, ?_⟩
      refine ones_step rfl ?_
      refine mix_step rfl ?_
      have HRY := Lib.hid ((HDR.out bb).trans HRB.out)
      have x0 : y0.cell? ⟨bb, j * 2, none⟩ = some (.string u.name) := (World.cell?_of_block (HDR.out bb)).trans HC0.out
      have x1 : y0.cell? ⟨bb, j * 2 + 1, none⟩ = some (.int .i64 u.level) := (World.cell?_of_block (HDR.out bb)).trans HC1.out
      have f0 := frozen_of_row y0 bb (j * 2) _ _ HRY.out
      have f1 := frozen_of_row y0 bb (j * 2 + 1) _ _ HRY.out
      go_wp2_with fail
      change ((_ → _) ∧ (_ → _)) ∧ _
      have hlen1 : (L.set j v).length = L.length := List.length_set
      have HAw := Lib.hid (HAy.out.set1 (b := bb) (c := y1) hj1 HVX.out)
      have HK1 : Hid (((y0.setCell ⟨bb, j * 2, none⟩ (.string v.name)).setCell ⟨bb, j * 2 + 1, none⟩ (.int .i64 v.level)).heap[g.xb]? = y0.heap[g.xb]?) := (heap_setCell_other _ _ _ _ (fun e => HBXN.out e.symm)).trans (heap_setCell_other _ _ _ _ (fun e => HBXN.out e.symm))
      generalize (y0.setCell ⟨bb, j * 2, none⟩ (.string v.name)).setCell ⟨bb, j * 2 + 1, none⟩ (.int .i64 v.level) = y9 at *
      have HK9 : Hid (∀ b ∈ [g.xb], y9.heap[b]? = z0.heap[b]?) := fun b hb => by
        rw [List.mem_singleton] at hb
        subst hb
        exact HK1.out.trans (HDR.out _)
      first | refine ⟨⟨by intros; exact ⟨_, keepS_of HK9.out⟩, fun h => absurd h (by decide)⟩, ?_⟩ | refine ⟨by intros; exact ⟨_, keepS_of HK9.out⟩, ?_⟩ | refine ⟨⟨by intros; exact ⟨_, keepS_of HK9.out⟩, by intros; first | trivial | contradiction⟩, ?_⟩
      clear x0 x1 f0 f1 HK1
      refine ones_step rfl ?_
      refine mix_step rfl ?_
      try (simp only [Act.put, List.setIfInBounds_toArray, List.set_cons_succ, List.set_cons_zero, List.getElem_toArray, List.getElem_cons_succ, List.getElem_cons_zero])
      go_wp2_with fail
      try (change ((_ → _) ∧ (_ → _)) ∧ _)
      first | refine ⟨⟨by intros; exact ⟨_, keepS_of HK9.out⟩, fun h => absurd h (by decide)⟩, ?_⟩ | refine ⟨by intros; exact ⟨_, keepS_of HK9.out⟩, ?_⟩ | refine ⟨⟨by intros; exact ⟨_, keepS_of HK9.out⟩, by intros; first | trivial | contradiction⟩, ?_⟩
      refine ones_step rfl ?_
      refine mix_step rfl ?_
      have hk9 : (L.set j v)[k]? = some v := by rw [List.getElem?_set, if_neg (by omega)]; exact HV9.out
      obtain ⟨b9, o9, e9, _, x0, x1, _⟩ := atBind (HAw.out.row1 (by omega)).forget hk9
      simp only [Option.some.injEq, Addr.mk.injEq, and_true] at e9
      obtain ⟨rfl, rfl⟩ := e9
      rw [Nat.zero_add] at x0 x1
      obtain ⟨_, cs9, hr9⟩ := own_is HAw.out.own1 rfl
      have f0 := frozen_of_row y9 bb (k * 2) _ _ hr9
      have f1 := frozen_of_row y9 bb (k * 2 + 1) _ _ hr9
      clear hk9 hr9
      go_wp2_with fail
      try (change ((_ → _) ∧ (_ → _)) ∧ _)
      have HAv := Lib.hid (HAw.out.set1 (b := bb) (c := y1) (i := k) (by omega) HUX.out)
      have HK8 : Hid (∀ b ∈ [g.xb], ((y9.setCell ⟨bb, k * 2, none⟩ (.string u.name)).setCell ⟨bb, k * 2 + 1, none⟩ (.int .i64 u.level)).heap[b]? = z0.heap[b]?) := fun b hb => by
        have h1 := HK9.out b hb
        rw [List.mem_singleton] at hb
        subst hb
        exact ((heap_setCell_other _ _ _ _ (fun e => HBXN.out e.symm)).trans (heap_setCell_other _ _ _ _ (fun e => HBXN.out e.symm))).trans h1
      generalize (y9.setCell ⟨bb, k * 2, none⟩ (.string u.name)).setCell ⟨bb, k * 2 + 1, none⟩ (.int .i64 u.level) = y8 at *
      first | refine ⟨⟨by intros; exact ⟨_, keepS_of HK8.out⟩, fun h => absurd h (by decide)⟩, ?_⟩ | refine ⟨by intros; exact ⟨_, keepS_of HK8.out⟩, ?_⟩ | refine ⟨⟨by intros; exact ⟨_, keepS_of HK8.out⟩, by intros; first | trivial | contradiction⟩, ?_⟩
      refine ones_nil ?_
      try (simp only [Act.put, List.setIfInBounds_toArray, List.set_cons_succ, List.set_cons_zero, List.getElem_toArray, List.getElem_cons_succ, List.getElem_cons_zero])
      clear x0 x1 f0 f1
      go_wp2_with fail
      go_roundw
      case rel => exact ⟨j + 1, (L.set j v).set k u, by omega, by go_num, HSTEP.out, by
        have h9 := HAv.out
        rw [show ((L.set j v).set k u).length = L.length by simp] at h9 ⊢
        exact h9⟩
      case measure => simp [intOf]; omega
    · have hLR : L = C.reverse := HRV.out.stop hlt hj
      have hLb : L.length ≤ 33 := by omega
      have htdL : ((L.length : Int)).tdiv 2 = ((L.length / 2 : Nat) : Int) := by rw [Int.tdiv_eq_ediv_of_nonneg (by omega)]; rfl
      have hlt1 : ¬ (j : Int) < ((L.length / 2 : Nat) : Int) := by omega
      have hgb := HGB.out
      have hBz := HAT1.out.below
      rw [HGW.out] at hBz
      have hmo := more_ok (wfP_of HCF.out) HGQ.out HPRE.out HPOST.out (c := L) (s := D) (by rw [HC.out]; exact hLR) (by rw [HD.out])
      have hpol := HAT1.out.pol (by omega) (by omega)
      rw [hgb] at hpol
      have hmf := more_fits (S := { R with chans := L, sites := D }) HCF.out HGQ.out hmo.1 hmo.2.1 hmo.2.2
      obtain ⟨e1, e2, e3, e4⟩ := more_levels (S := { R with chans := L, sites := D }) HCF.out HOK.out HGQ.out hmo.1 hmo.2.1 hmo.2.2
      rw [← HFI.out] at e1 e2 e3 e4
      have HE3 := Lib.hid e3
      have HE4 := Lib.hid e4
      have hHQ := HAT1.out.hq
      unfold Ms.qc at hHQ
      rw [hgb] at hHQ
      have HSQ := Lib.hid hHQ
      have HBz := Lib.hid hBz
      have HPOL := Lib.hid hpol
      have HMF := Lib.hid hmf
      have HLz := Lib.hid (HL4.out.keep hBz)
      have HMz := Lib.hid (HM4.out.keep hBz)
      have HTz := Lib.hid (HT4.out.keep hBz)
      have HFz := Lib.hid ((hBz.block _ (Array.getElem?_eq_some_iff.1 HF4.out).1).trans HF4.out)
      have HRz := Lib.hid ((hBz.block _ (Array.getElem?_eq_some_iff.1 HX4.out).1).trans HX4.out)
      have HPz := Lib.hid ((hBz.block _ (Array.getElem?_eq_some_iff.1 HY0.out).1).trans HY0.out)
      have h15 := rulesLevels F _ _ _ _ R _ _ _ _ z0 (HRF4.out.keep hBz) (HR4.out.forget.keep hBz) HMz.out HTz.out
      rw [e1] at h15
      have H15 : Hid (Calls Tryd.prog 11 #[.agg #[.int .i64 F.width, .int .i64 F.regs, .slice d1 F.chans.length n1, .slice d2 F.sites.length n2, .slice d3 F.arrays.length n3, .slice d4 F.code.length n4], .agg #[.slice b1 R.levels.length l1, .slice b2 R.order.length l2, .slice b3 R.chans.length l3, .slice b4 R.sites.length l4, .bool R.sens, .int .i64 R.steps, .int .i64 R.paths, .int .i64 R.nodes, .int .i64 R.confs]] z0 fun e w' => ∃ s1 s2 s3 t1 t2 t3, e = .returned (.tuple #[.slice s1 s2 s3, .slice t1 t2 t3, .int .i64 0]) ∧ RdRow kInt none w' (.slice s1 s2 s3) (chansL F R) ∧ RdRow kInt none w' (.slice t1 t2 t3) (sitesL F R) ∧ Below z0.heap.size z0 w') := by
        refine h15.mono ?_
        rintro e w' ⟨v1, v2, rfl, hl, hz⟩
        obtain ⟨s1, s2, s3, rfl⟩ := hl.slice1
        obtain ⟨t1, t2, t3, rfl⟩ := hl.slice2
        exact ⟨s1, s2, s3, t1, t2, t3, rfl, (hl.1 rfl).1.forget, (hl.1 rfl).2.forget, hz⟩
      have H16 : Hid (∀ z, Below z0.heap.size z0 z → Calls Tryd.prog 11 #[.agg #[.int .i64 F.width, .int .i64 F.regs, .slice d1 F.chans.length n1, .slice d2 F.sites.length n2, .slice d3 F.arrays.length n3, .slice d4 F.code.length n4], .agg #[.slice g.la R.levels.length g.lc, .slice g.oa R.order.length g.oc, .slice x1 L.length y1, .slice x2 D.length y2, .bool R.sens, .int .i64 R.steps, .int .i64 R.paths, .int .i64 R.nodes, .int .i64 R.confs]] z fun e w' => ∃ s1 s2 s3 t1 t2 t3, e = .returned (.tuple #[.slice s1 s2 s3, .slice t1 t2 t3, .int .i64 0]) ∧ RdRow kInt none w' (.slice s1 s2 s3) (chansL F R) ∧ RdRow kInt none w' (.slice t1 t2 t3) (sitesL F R) ∧ Below z.heap.size z w') := fun z hz => by
        have h1 := rulesLevels F _ _ _ _ { R with chans := L, sites := D } _ _ _ _ z (HRF4.out.keep (bcomp HBz.out hz)) (HPOL.out.keep hz) (HMz.out.keep hz) (HTz.out.keep hz)
        rw [e2] at h1
        refine h1.mono ?_
        rintro e w' ⟨v1, v2, rfl, hl, hz⟩
        obtain ⟨s1, s2, s3, rfl⟩ := hl.slice1
        obtain ⟨t1, t2, t3, rfl⟩ := hl.slice2
        exact ⟨s1, s2, s3, t1, t2, t3, rfl, by rw [← HE3.out]; exact (hl.1 rfl).1.forget, by rw [← HE4.out]; exact (hl.1 rfl).2.forget, hz⟩
      clear hLR hLC htd hgb hBz hmo hpol hmf e1 e2 e3 e4 hHQ h15 hlt hj
      have f0 := row_of HFz.out 0 (.int .i64 F.width) rfl
      have f1 := row_of HFz.out 1 (.int .i64 F.regs) rfl
      have f2 := row_of HFz.out 2 (.slice d1 F.chans.length n1) rfl
      have f3 := row_of HFz.out 3 (.slice d2 F.sites.length n2) rfl
      have f4 := row_of HFz.out 4 (.slice d3 F.arrays.length n3) rfl
      have f5 := row_of HFz.out 5 (.slice d4 F.code.length n4) rfl
      have d0 := row_of HRz.out 0 (.slice b1 R.levels.length l1) rfl
      have d1 := row_of HRz.out 1 (.slice b2 R.order.length l2) rfl
      have d2 := row_of HRz.out 2 (.slice b3 R.chans.length l3) rfl
      have d3 := row_of HRz.out 3 (.slice b4 R.sites.length l4) rfl
      have d4 := row_of HRz.out 4 (.bool R.sens) rfl
      have d5 := row_of HRz.out 5 (.int .i64 R.steps) rfl
      have d6 := row_of HRz.out 6 (.int .i64 R.paths) rfl
      have d7 := row_of HRz.out 7 (.int .i64 R.nodes) rfl
      have d8 := row_of HRz.out 8 (.int .i64 R.confs) rfl
      go_upto_region 16 with (go_at_call 11; refine H15.out.mono ?_; rintro e z1 ⟨s1, s2, s3, t1, t2, t3, rfl, ra, rb, hz⟩; have HA1r := Lib.hid ra; have HB1r := Lib.hid rb; have HZ1 := Lib.hid hz; clear ra rb hz)
      try simp only [Act.put]
      clear f0 f1 f2 f3 f4 f5 d0 d1 d2 d3 d4 d5 d6 d7 d8 H15 q2
      have HFz1 := Lib.hid ((HZ1.out.block _ (Array.getElem?_eq_some_iff.1 HFz.out).1).trans HFz.out)
      have HSQ1 := Lib.hid ((HZ1.out.block _ (Array.getElem?_eq_some_iff.1 HSQ.out).1).trans HSQ.out)
      have f0 := row_of HFz1.out 0 (.int .i64 F.width) rfl
      have f1 := row_of HFz1.out 1 (.int .i64 F.regs) rfl
      have f2 := row_of HFz1.out 2 (.slice d1 F.chans.length n1) rfl
      have f3 := row_of HFz1.out 3 (.slice d2 F.sites.length n2) rfl
      have f4 := row_of HFz1.out 4 (.slice d3 F.arrays.length n3) rfl
      have f5 := row_of HFz1.out 5 (.slice d4 F.code.length n4) rfl
      have d0 := row_of HSQ1.out 0 (.slice g.la R.levels.length g.lc) rfl
      have d1 := row_of HSQ1.out 1 (.slice g.oa R.order.length g.oc) rfl
      have d2 := row_of HSQ1.out 2 (.slice x1 L.length y1) rfl
      have d3 := row_of HSQ1.out 3 (.slice x2 D.length y2) rfl
      have d4 := row_of HSQ1.out 4 (.bool R.sens) rfl
      have d5 := row_of HSQ1.out 5 (.int .i64 R.steps) rfl
      have d6 := row_of HSQ1.out 6 (.int .i64 R.paths) rfl
      have d7 := row_of HSQ1.out 7 (.int .i64 R.nodes) rfl
      have d8 := row_of HSQ1.out 8 (.int .i64 R.confs) rfl
      go_upto_region 17 with (go_at_call 11; refine (H16.out _ HZ1.out).mono ?_; rintro e z2 ⟨p1, p2, p3, o1, o2, o3, rfl, ra, rb, hz⟩; have HA2r := Lib.hid ra; have HB2r := Lib.hid rb; have HZ2 := Lib.hid (bcomp HZ1.out hz); have HA1s := Lib.hid (HA1r.out.keep hz); have HB1s := Lib.hid (HB1r.out.keep hz); clear ra rb hz)
      try simp only [Act.put]
      clear f0 f1 f2 f3 f4 f5 d0 d1 d2 d3 d4 d5 d6 d7 d8 H16
      have HQ1 : Hid (Calls Tryd.prog 12 #[.slice s1 s2 s3, .slice p1 p2 p3] z2 fun e w' => e = .returned (.bool true) ∧ Below z2.heap.size z2 w') := by
        have h1 := equalInt _ _ _ _ z2 HA1s.out HA2r.out
        rw [eqL_selfM] at h1
        exact h1
      have HQ2 : Hid (∀ z, Below z2.heap.size z2 z → Calls Tryd.prog 12 #[.slice t1 t2 t3, .slice o1 o2 o3] z fun e w' => e = .returned (.bool true) ∧ Below z.heap.size z w') := fun z hz => by
        have h1 := equalInt _ _ _ _ z (HB1s.out.keep hz) (HB2r.out.keep hz)
        rw [eqL_selfM] at h1
        exact h1
      have HIS : Hid (∀ z, Below z2.heap.size z2 z → Calls Tryd.prog 20 #[.agg #[.int .i64 P.width, .slice a1 P.chans.length k1, .slice a2 P.arrays.length k2, .slice a3 P.funcs.length k3, .slice a4 P.main.length k4], .agg #[.slice g.la R.levels.length g.lc, .slice g.oa R.order.length g.oc, .slice x1 L.length y1, .slice x2 D.length y2, .bool R.sens, .int .i64 R.steps, .int .i64 R.paths, .int .i64 R.nodes, .int .i64 R.confs], .int .i64 0, .int .i64 0, .int .i64 0] z fun e w' => e = .returned (.bool true) ∧ Below z.heap.size z w') := fun z hz => is29 P _ _ _ _ { R with chans := L, sites := D } _ _ _ _ 0 0 0 z (HP4.out.keep (bcomp HBz.out (bcomp HZ2.out hz))) (HPOL.out.keep (bcomp HZ2.out hz)) (HLz.out.keep (bcomp HZ2.out hz)) (HTz.out.keep (bcomp HZ2.out hz)) HMF.out
      have HAA : Hid (∀ z, Below z2.heap.size z2 z → Calls Tryd.prog 13 #[] z fun e w' => e = .returned (.bool true) ∧ Below z.heap.size z w') := fun z hz => HA4.out z (bcomp HBz.out (bcomp HZ2.out hz))
      have HPz2 := Lib.hid ((HZ2.out.block _ (Array.getElem?_eq_some_iff.1 HPz.out).1).trans HPz.out)
      have HSQ2 := Lib.hid ((HZ2.out.block _ (Array.getElem?_eq_some_iff.1 HSQ.out).1).trans HSQ.out)
      have HTOT := Lib.hid (bcomp HBB.out (bcomp HB4x.out (bcomp HBz.out HZ2.out)))
      clear HA1r HB1r HA1s HB1s HA2r HB2r
      have e0 := row_of HPz2.out 0 (.int .i64 P.width) rfl
      have e1 := row_of HPz2.out 1 (.slice a1 P.chans.length k1) rfl
      have e2 := row_of HPz2.out 2 (.slice a2 P.arrays.length k2) rfl
      have e3 := row_of HPz2.out 3 (.slice a3 P.funcs.length k3) rfl
      have e4 := row_of HPz2.out 4 (.slice a4 P.main.length k4) rfl
      have h0 := row_of HSQ2.out 0 (.slice g.la R.levels.length g.lc) rfl
      have h1 := row_of HSQ2.out 1 (.slice g.oa R.order.length g.oc) rfl
      have h2 := row_of HSQ2.out 2 (.slice x1 L.length y1) rfl
      have h3 := row_of HSQ2.out 3 (.slice x2 D.length y2) rfl
      have h4 := row_of HSQ2.out 4 (.bool R.sens) rfl
      have h5 := row_of HSQ2.out 5 (.int .i64 R.steps) rfl
      have h6 := row_of HSQ2.out 6 (.int .i64 R.paths) rfl
      have h7 := row_of HSQ2.out 7 (.int .i64 R.nodes) rfl
      have h8 := row_of HSQ2.out 8 (.int .i64 R.confs) rfl
      go_wp2_with (first
        | (go_at_call 13; refine (HAA.out _ B7.out).mono ?_; rintro e y4 ⟨rfl, hz⟩; have B8 := Lib.hid (bcomp B7.out hz); clear hz)
        | (go_at_call 20; refine (HIS.out _ B6.out).mono ?_; rintro e y3 ⟨rfl, hz⟩; have B7 := Lib.hid (bcomp B6.out hz); clear hz)
        | (go_at_call 12; refine (HQ2.out _ B5.out).mono ?_; rintro e y2 ⟨rfl, hz⟩; have B6 := Lib.hid (bcomp B5.out hz); clear hz; have E0 := cell_keep B6.out e0; have E1 := cell_keep B6.out e1; have E2 := cell_keep B6.out e2; have E3 := cell_keep B6.out e3; have E4 := cell_keep B6.out e4; have F0 := cell_keep B6.out h0; have F1 := cell_keep B6.out h1; have F2 := cell_keep B6.out h2; have F3 := cell_keep B6.out h3; have F4 := cell_keep B6.out h4; have F5 := cell_keep B6.out h5; have F6 := cell_keep B6.out h6; have F7 := cell_keep B6.out h7; have F8 := cell_keep B6.out h8)
        | (go_at_call 12; refine HQ1.out.mono ?_; rintro e y1 ⟨rfl, hz⟩; have B5 := Lib.hid hz; clear hz))
      go_ret
      exact ⟨rfl, bcomp HTOT.out B8.out⟩

end Go.Proofs.YtgllkgedjplpdaaDoor
