/- The walk of RulesGiven: a policy that is given levels for all channels and sites fits; without one of them it does not. Condition: the arguments read as the plain data; the tables hold what they are laid with; the chapter's examples hold. -/
import Derived.Test.YtgllkgedjplpdaaDoorRgB
import Derived.Test.YtgllkgedjplpdaaDoorRhA
import Derived.Test.YtgllkgedjplpdaaDoorFeP
set_option linter.all false
set_option maxRecDepth 1000000
set_option maxHeartbeats 12800000
set_option linter.unusedVariables false
set_option linter.unusedSimpArgs false
namespace Go.Proofs.YtgllkgedjplpdaaDoor
open Go.ChangeShapes Go.WideShapes Go.ChangeAt Go.RowKit
theorem erase_is {α:Type} {l:List α} {k:Nat}:l.eraseIdx k=l.take k ++ l.drop (k+1):=List.eraseIdx_eq_take_drop_succ ..
theorem flat_takeB {l:List BindD} {k j:Nat} {u:Value} (h:((l.take k).flatMap cellsBind)[j]?=some u):(l.flatMap cellsBind)[j]?=some u:=by
 have e:l.flatMap cellsBind=(l.take k).flatMap cellsBind ++ (l.drop k).flatMap cellsBind:=by rw [← List.flatMap_append,List.take_append_drop]
 rw [e,List.getElem?_append_left (List.getElem?_eq_some_iff.1 h).1]
 exact h
theorem flat_dropB {l:List BindD} {k j:Nat} {u:Value} (hk:k≤l.length) (h:((l.drop k).flatMap cellsBind)[j]?=some u):(l.flatMap cellsBind)[k * 2+j]?=some u:=by
 have e:l.flatMap cellsBind=(l.take k).flatMap cellsBind ++ (l.drop k).flatMap cellsBind:=by rw [← List.flatMap_append,List.take_append_drop]
 have hl:((l.take k).flatMap cellsBind).length=k * 2:=by rw [flat_length cellsBind 2 (fun _=>rfl),List.length_take,Nat.min_eq_left hk]
 rw [e,List.getElem?_append_right (by rw [hl];omega),hl,Nat.add_sub_cancel_left]
 exact h
theorem row_cellsB {w:World} {b o n c:Nat} {l:List BindD} (h:RdRow kBind none w (.slice (some ⟨b,o,none⟩) n c) l):∀ j u,(l.flatMap cellsBind)[j]?=some u→w.cell? ⟨b,o+j,none⟩=some u:=by
 obtain ⟨a',c',e,_,hr⟩:=h
 simp only [Value.slice.injEq] at e
 obtain ⟨rfl,_,_⟩:=e
 intro j u hj
 have hlt:j<l.length * 2:=by
  have:=(List.getElem?_eq_some_iff.1 hj).1
  rwa [flat_length cellsBind 2 (fun _=>rfl)] at this
 obtain ⟨x,hx⟩:∃ x,l[j / 2]?=some x:=⟨_,List.getElem?_eq_getElem (by omega)⟩
 obtain ⟨b',o',e1,_,hc,_⟩:=hr _ x hx
 simp only [Option.some.injEq,Addr.mk.injEq] at e1
 obtain ⟨rfl,rfl,_⟩:=e1
 have h2:=flat_get cellsBind 2 (fun _=>rfl) l (j / 2) (j % 2) x hx (by omega)
 rw [show j / 2 * 2+j % 2=j by omega] at h2
 have h3:=hc (j % 2) u (by rw [← h2];exact hj)
 rw [show o+j / 2 * kBind.sz+j % 2=o+j by show o+j / 2 * 2+j % 2=o+j;omega] at h3
 exact h3
theorem RdRow.setCT {α:Type} {K:Kind α} {G:Nat→Prop} {w:World} {v:Value} {l:List α} (h:RdRow K (some G) w v l) {g o:Nat} {u:Value} {cs:Array Value} {S:TypeId} (hg:w.heap[g]?=some (.cells cs S (0,0))) (hT:K.T ≠ S):RdRow K (some G) (w.setCell ⟨g,o,none⟩ u) v l:=by
 have hb:∀ b,Free (some G) K.T w b→(w.setCell ⟨g,o,none⟩ u).heap[b]?=w.heap[b]?:=by
  intro b hf
  refine heap_setCell_other _ _ _ _ ?_
  intro e
  obtain ⟨_,c,hc⟩:=hf G rfl
  rw [e,hg] at hc
  simp at hc
  exact hT hc.2.symm
 refine RdRow.map (fun b _ hf=>?_) (fun b o v hf hc=>(World.cell?_of_block (hb b hf)).trans hc) h
 intro g' e
 obtain ⟨h1,c,hc⟩:=hf g' e
 exact ⟨h1,c,(hb b hf).trans hc⟩
theorem RdPol.setCT {G:Nat→Prop} {w:World} {q:PolD} {a b c d:Value} (h:RdPol (some G) w q a b c d) {g o:Nat} {u:Value} {cs:Array Value} (hg:w.heap[g]?=some (.cells cs 30 (0,0))):RdPol (some G) (w.setCell ⟨g,o,none⟩ u) q a b c d:=
 ⟨h.1.setCT hg (by decide),h.2.1.setCT hg (by decide),h.2.2.1.setCT hg (by decide),h.2.2.2.1.setCT hg (by decide),h.2.2.2.2⟩
theorem wpList_eraseB {w:World} {ops:Array Oper} {rest:List Oper} {o:Oper} {a:Act} {Q:Exit→Act→World→Prop} (hg:o.guard=none) (s x:Operand)
  (hop:o.op=Op.call { callee:=Callee.builtin Builtin.append,args:=#[s,x],argTypes:=#[28,28] })
  (b off k n c n0:Nat) (l:List BindD) (hl:l.length=n) (hr:RdRow kBind (some (upFrom n0)) w (.slice (some ⟨b,off,none⟩) n c) l) (h0:n0≤w.heap.size) (hk:k<n) (hn:n≤1000000)
  (hs:a.eval s=.slice (some ⟨b,off,none⟩) k k) (hx:a.eval x=.slice (if c=k+1 then some ⟨b,off,none⟩ else some ⟨b,off+(k+1) * 2,none⟩) (n - (k+1)) (c - (k+1)))
  (hK:∀ u1 u2 w',RdRow kBind (some (upFrom n0)) w' (.slice u1 (l.eraseIdx k).length u2) (l.eraseIdx k)→Below w.heap.size w w'→wpList Tryd.prog ops Q rest (a.put o.dst (.slice u1 (l.eraseIdx k).length u2)) w') :
  wpList Tryd.prog ops Q (o :: rest) a w:=by
 subst hl
 obtain ⟨iB,hiB,hzB0,hzB1,hzB2⟩:=info_parts infoBindU
 have hcells:=row_cellsB hr.forget
 obtain ⟨ad,had⟩:∃ ad:Addr,(if c=k+1 then some (⟨b,off,none⟩:Addr) else some ⟨b,off+(k+1) * 2,none⟩)=some ad:=by split <;> exact ⟨_,rfl⟩
 have hcap:l.length≤c:=by
  obtain ⟨_,_,e,⟨_,h2⟩,_⟩:=hr
  simp only [Value.slice.injEq] at e
  omega
 have hnews:∀ j u,((l.drop (k+1)).flatMap cellsBind)[j]?=some u→w.cell? (ad.add j)=some u:=by
  intro j u hu
  have h1:=hcells _ _ (flat_dropB (by omega) hu)
  by_cases ht:c=k+1
  ·have:l.drop (k+1)=[]:=List.drop_eq_nil_of_le (by omega)
   rw [this] at hu
   simp at hu
  ·rw [if_neg ht] at had
   cases had
   have e2:(⟨b,off+(k+1) * 2,none⟩:Addr).add j=⟨b,off+((k+1) * 2+j),none⟩:=by simp [Addr.add,Nat.add_assoc]
   rw [e2];exact h1
 have holds:∀ j u,((l.take k).flatMap cellsBind)[j]?=some u→w.cell? ⟨b,off+j,none⟩=some u:=fun j u hu=>hcells _ _ (flat_takeB hu)
 have hone:∀ u ∈ (l.drop (k+1)).flatMap cellsBind,u.oneCell'=true:=by
  intro u hu
  obtain ⟨p,hp,hu⟩:=List.mem_flatMap.1 hu
  simp only [cellsBind,List.mem_cons,List.not_mem_nil,or_false] at hu
  rcases hu with rfl|rfl <;> rfl
 have hlo:((l.take k).flatMap cellsBind).length=k * 2:=by rw [flat_length cellsBind 2 (fun _=>rfl),List.length_take,Nat.min_eq_left (by omega)]
 have hln:((l.drop (k+1)).flatMap cellsBind).length=(l.length - (k+1)) * 2:=by rw [flat_length cellsBind 2 (fun _=>rfl),List.length_drop]
 rw [had] at hx
 have hel:(l.eraseIdx k).length=l.length - 1:=by rw [List.length_eraseIdx,if_pos hk]
 have hok:=hr.ok
 refine wpList_append_arg _ hg s x 28 hop 58 iB (.agg #[.string ⟨#[]⟩,.int .i64 0]) 2 24 Tryd.underlying28 hiB hzB0 hzB1 hzB2 rfl (by decide) b off k k ((l.take k).flatMap cellsBind) hs hlo holds ad (l.length - (k+1)) (c - (k+1)) ((l.drop (k+1)).flatMap cellsBind) hx hln hnews hone (fun hroom j hj=>by rw [hln] at hj;omega) (by unfold maxLen;omega) (by omega) ?_ ?_
 ·intro hroom
  have hk1:k+1=l.length:=by omega
  have hn0:(l.drop (k+1)).flatMap cellsBind=[]:=List.eq_nil_of_length_eq_zero (by rw [hln];omega)
  rw [hn0,show k+(l.length - (k+1))=(l.eraseIdx k).length by rw [hel];omega]
  refine hK _ _ _ ?_ (Below.refl _ _)
  obtain ⟨a',c',e,hb,hrr⟩:=hr
  simp only [Value.slice.injEq] at e
  obtain ⟨rfl,_,_⟩:=e
  refine ⟨_,_,rfl,⟨by rw [hel];have:=hb.1;exact Nat.le_trans (Nat.mul_le_mul_right _ (Nat.sub_le _ _)) this,by rw [hel];omega⟩,fun i x hx=>hrr i x ?_⟩
  rw [erase_is,List.drop_eq_nil_of_le (by omega),List.append_nil,List.getElem?_take] at hx
  split at hx
  ·exact hx
  ·cases hx
 ·intro hfull v' w' hown hgrow
  rw [← List.flatMap_append,← erase_is,show k+(l.length - (k+1))=(l.eraseIdx k).length by rw [hel];omega] at hown
  obtain ⟨u1,u2,rfl,-⟩:=own_read hown
  refine hK _ _ _ ?_ ((Below.refl _ _).grown hgrow (Nat.le_refl _) (fun j h=>by cases h))
  have h1:=(own_rows (K:=kBind) (l:=l.eraseIdx k) hown (by show _ * 24≤_;rw [hel];omega) (fun s hs=>hok s (List.mem_of_mem_eraseIdx hs))).up h0
  exact h1
def hitB (nm:ByteArray) (a:Int × Int) (x:InstrD):Bool:=(x.name.toList == nm.toList) && ((x.line == a.1) && (x.col == a.2))
theorem hit_any {P:ProgD} {nm:ByteArray} {a:Int × Int} (h:AtName P nm a):((a.1 == 0 && a.2 == 0) || (preC P (P.funcs.length+1)).any (hitB nm a))=true:=by
 rcases h with rfl|⟨x,hx,rfl,rfl⟩
 ·rfl
 ·rw [Bool.or_eq_true]
  refine .inr ?_
  rw [List.any_eq_true]
  refine ⟨x,?_,by unfold hitB;simp⟩
  unfold preC
  rw [List.take_of_length_le (by omega),if_pos (by omega)]
  exact hx
theorem all_len {P:ProgD} (hc:checkF P=none):P.chans.length≤1000000∧(codesOf P.funcs).length+P.main.length≤1000000:=by
 have H:=wfP_of hc
 have h1:=codes_len hc P.funcs.length
 rw [List.take_length] at h1
 have h2:=H.chl
 have h3:=H.fl
 have h4:=H.main.len
 refine ⟨by omega,?_⟩
 have:P.funcs.length * 1024≤32 * 1024:=Nat.mul_le_mul_right _ h3
 omega
theorem rulesGiven_of (hAw:∀ w,Laid w→LaidM w→BitsAt w→Calls Tryd.prog 13 #[] w fun e w'=>e=.returned (.bool true)∧Below w.heap.size w w') (p:ProgD) (cv av fv mv:Value) (q:PolD) (lv ov qv sv dv:Value) (dl:List Int) (nn:Int) (w:World) (h:RdProg none w p cv av fv mv) (g:RdPol none w q lv ov qv sv) (hd:RdRow kInt none w dv dl) (hn:InI64 nn) (hL:Laid w) (hM:LaidM w) (hT:BitsAt w) :
  Calls Tryd.prog 5 #[progV p cv av fv mv,polV q lv ov qv sv,dv,.int .i64 nn] w fun e w'=>e=.returned (.bool true)∧Below w.heap.size w w':=by
 obtain ⟨pa,pc,rfl,-,-⟩:=id h.1
 obtain ⟨aa,ac,rfl,-,-⟩:=id h.2.1
 obtain ⟨fa,fc,rfl,-,-⟩:=id h.2.2.1
 obtain ⟨ma,mc,rfl,-,-⟩:=id h.2.2.2.1
 obtain ⟨la,lc,rfl⟩:=g.1.is
 obtain ⟨oa,oc,rfl⟩:=g.2.1.is
 obtain ⟨ca,cc,rfl⟩:=g.2.2.1.is
 obtain ⟨ta,tc,rfl⟩:=g.2.2.2.1.is
 obtain ⟨hx0,hx1,hb0⟩:=heap2_of (w:=w) (A:=.cells #[.int .i64 p.width,.slice pa p.chans.length pc,.slice aa p.arrays.length ac,.slice fa p.funcs.length fc,.slice ma p.main.length mc] 43) (B:=.cells #[.slice la q.levels.length lc,.slice oa q.order.length oc,.slice ca q.chans.length cc,.slice ta q.sites.length tc,.bool q.sens,.int .i64 q.steps,.int .i64 q.paths,.int .i64 q.nodes,.int .i64 q.confs] 30) (Below.refl _ _)
 have HFW:=Lib.hid (few_prog p _ _ _ _ _ (h.keep hb0))
 have HG0:=Lib.hid g
 have HD0:=Lib.hid hd
 have HL:=Lib.hid hL
 have HM:=Lib.hid hM
 have HT:=Lib.hid hT
 have HX0:=Lib.hid hx0
 have HX1:=Lib.hid hx1
 have HB0:=Lib.hid hb0
 have HAW:=Lib.hid hAw
 clear h g hd hL hM hT hx0 hx1 hb0 hAw
 go_enter Tryd.func5,Tryd.ntmps5
 go_upto_region 1 with fail
 generalize (w.alloc (.cells #[.int .i64 p.width,.slice pa p.chans.length pc,.slice aa p.arrays.length ac,.slice fa p.funcs.length fc,.slice ma p.main.length mc] 43)).alloc (.cells #[.slice la q.levels.length lc,.slice oa q.order.length oc,.slice ca q.chans.length cc,.slice ta q.sites.length tc,.bool q.sens,.int .i64 q.steps,.int .i64 q.paths,.int .i64 q.nodes,.int .i64 q.confs] 30)=W at *
 obtain ⟨fb,hfb⟩:∃ fb,w.heap.size=fb:=⟨_,rfl⟩
 have HFB:=Lib.hid hfb
 rw [hfb] at HX0 HX1
 try rw [hfb]
 clear hfb
 obtain ⟨P,hP⟩:∃ P,fewP p=P:=⟨_,rfl⟩
 rw [hP] at HFW
 clear hP
 have c0:=row_of HX0.out 0 (.int .i64 p.width) rfl
 have c1:=row_of HX0.out 1 (.slice pa p.chans.length pc) rfl
 have c2:=row_of HX0.out 2 (.slice aa p.arrays.length ac) rfl
 have c3:=row_of HX0.out 3 (.slice fa p.funcs.length fc) rfl
 have c4:=row_of HX0.out 4 (.slice ma p.main.length mc) rfl
 go_upto_region 2 with (first|(go_at_call 14;refine HFW.out.mono ?_;rintro e wz ⟨c,s,a,k,rfl,hr,hz⟩;obtain ⟨a1,k1,rfl,-,-⟩:=id hr.1;obtain ⟨a2,k2,rfl,-,-⟩:=id hr.2.1;obtain ⟨a3,k3,rfl,-,-⟩:=id hr.2.2.1;obtain ⟨a4,k4,rfl,-,-⟩:=id hr.2.2.2.1;have HBZ:=Lib.hid hz;have HRZ:=Lib.hid hr;clear hr hz;have HXa:=Lib.hid ((HBZ.out.block _ (Array.getElem?_eq_some_iff.1 HX0.out).1).trans HX0.out))|(refine wpList_store_row rfl 43 (.tmp 4) (.tmp 22) rfl fb #[.int .i64 P.width,.slice a1 P.chans.length k1,.slice a2 P.arrays.length k2,.slice a3 P.funcs.length k3,.slice a4 P.main.length k4] rfl rfl 43 #[.int .i64 p.width,.slice pa p.chans.length pc,.slice aa p.arrays.length ac,.slice fa p.funcs.length fc,.slice ma p.main.length mc] ?hs2 (by as_aux_lemma=>kernel_rfl) (by as_aux_lemma=>kernel_rfl) (by as_aux_lemma=>kernel_rfl) ?_;exact HXa.out))
 try simp only [Act.put]
 clear c0 c1 c2 c3 c4 HFW
 have HX1b:=Lib.hid ((HBZ.out.block _ (Array.getElem?_eq_some_iff.1 HX1.out).1).trans HX1.out)
 have hlt:fb+1<W.heap.size:=(Array.getElem?_eq_some_iff.1 HX1.out).1
 have HY0:Hid ((wz.setRow fb #[.int .i64 P.width,.slice a1 P.chans.length k1,.slice a2 P.arrays.length k2,.slice a3 P.funcs.length k3,.slice a4 P.main.length k4]).heap[fb]?=some (.cells #[.int .i64 P.width,.slice a1 P.chans.length k1,.slice a2 P.arrays.length k2,.slice a3 P.funcs.length k3,.slice a4 P.main.length k4] 43 (0,0))):=setRow_heap _ _ _ _ _ _ HXa.out
 have HY1:Hid ((wz.setRow fb #[.int .i64 P.width,.slice a1 P.chans.length k1,.slice a2 P.arrays.length k2,.slice a3 P.funcs.length k3,.slice a4 P.main.length k4]).heap[fb+1]?=some (.cells #[.slice la q.levels.length lc,.slice oa q.order.length oc,.slice ca q.chans.length cc,.slice ta q.sites.length tc,.bool q.sens,.int .i64 q.steps,.int .i64 q.paths,.int .i64 q.nodes,.int .i64 q.confs] 30 (0,0))):=(setRow_other _ _ _ _ (by omega)).trans HX1b.out
 have HP1:Hid (RdProg none (wz.setRow fb #[.int .i64 P.width,.slice a1 P.chans.length k1,.slice a2 P.arrays.length k2,.slice a3 P.funcs.length k3,.slice a4 P.main.length k4]) P (.slice a1 P.chans.length k1) (.slice a2 P.arrays.length k2) (.slice a3 P.funcs.length k3) (.slice a4 P.main.length k4)):=(RdProg.same (g':=upFrom W.heap.size) HRZ.out (fun b hg _=>setRow_other _ _ _ _ (by have hg:W.heap.size≤b:=hg;omega)) (fun _ _ k=>k)).forget
 have HBB:Hid (Below w.heap.size w (wz.setRow fb #[.int .i64 P.width,.slice a1 P.chans.length k1,.slice a2 P.arrays.length k2,.slice a3 P.funcs.length k3,.slice a4 P.main.length k4])):=below_row (bcomp HB0.out HBZ.out) (by have:=HFB.out;omega) _
 have HG1:=Lib.hid (HG0.out.keep HBB.out)
 have HD1:=Lib.hid (HD0.out.keep HBB.out)
 have HL1:=Lib.hid (HL.out.keep HBB.out)
 have HM1:=Lib.hid (HM.out.keep HBB.out)
 have HT1:=Lib.hid (HT.out.keep HBB.out)
 have HA1:Hid (∀ z,Below (wz.setRow fb #[.int .i64 P.width,.slice a1 P.chans.length k1,.slice a2 P.arrays.length k2,.slice a3 P.funcs.length k3,.slice a4 P.main.length k4]).heap.size (wz.setRow fb #[.int .i64 P.width,.slice a1 P.chans.length k1,.slice a2 P.arrays.length k2,.slice a3 P.funcs.length k3,.slice a4 P.main.length k4]) z→Calls Tryd.prog 13 #[] z fun e w'=>e=.returned (.bool true)∧Below z.heap.size z w'):=fun z hz=>HAW.out z (HL1.out.keep hz) (HM1.out.keep hz) (HT1.out.keep hz)
 clear HX0 HX1 HX1b HB0 HBZ HRZ HXa hlt HL HM HT HG0 HD0 HAW
 generalize wz.setRow fb #[.int .i64 P.width,.slice a1 P.chans.length k1,.slice a2 P.arrays.length k2,.slice a3 P.funcs.length k3,.slice a4 P.main.length k4]=W1 at *
 have hck:=check_any P _ _ _ _ W1 HP1.out HL1.out
 have c0:=row_of HY0.out 0 (.int .i64 P.width) rfl
 have c1:=row_of HY0.out 1 (.slice a1 P.chans.length k1) rfl
 have c2:=row_of HY0.out 2 (.slice a2 P.arrays.length k2) rfl
 have c3:=row_of HY0.out 3 (.slice a3 P.funcs.length k3) rfl
 have c4:=row_of HY0.out 4 (.slice a4 P.main.length k4) rfl
 cases hc:checkF P with
 | some F=>
  have h9:=(check_fault hc).1
  rw [hc] at hck
  have he0:(F.e != 0)=true:=by simp;omega
  have he1:¬ F.e=0:=by omega
  have HCK:Hid (Calls Tryd.prog 18 #[.agg #[.int .i64 P.width,.slice a1 P.chans.length k1,.slice a2 P.arrays.length k2,.slice a3 P.funcs.length k3,.slice a4 P.main.length k4]] W1 fun e w'=>e=.returned (.tuple #[.agg #[.int .i64 F.line,.int .i64 F.col],.int .i64 F.e])∧Below W1.heap.size W1 w'):=hck
  clear hck hc h9
  go_wp2_with (first|(go_at_call 18;refine HCK.out.mono ?_;rintro e w2 ⟨rfl,hz⟩;have HB2:=Lib.hid (bcomp hz ((Below.refl w2.heap.size w2).alloc (Nat.le_refl _) (.cells #[.int .i64 F.line,.int .i64 F.col] 46)));clear hz)|(go_at_call 13;refine (HA1.out _ HB2.out).mono ?_;rintro e z ⟨rfl,hz⟩;have BZ:=Lib.hid hz;clear hz))
  go_ret
  exact ⟨rfl,bcomp HBB.out (bcomp HB2.out BZ.out)⟩
 | none=>
 rw [hc] at hck
 have HCK:Hid (Calls Tryd.prog 18 #[.agg #[.int .i64 P.width,.slice a1 P.chans.length k1,.slice a2 P.arrays.length k2,.slice a3 P.funcs.length k3,.slice a4 P.main.length k4]] W1 fun e w'=>e=.returned (.tuple #[.agg #[.int .i64 0,.int .i64 0],.int .i64 0])∧Below W1.heap.size W1 w'):=hck
 have HCF:=Lib.hid hc
 clear hck hc
 go_upto_region 5 with (go_at_call 18;refine HCK.out.mono ?_;rintro e w2 ⟨rfl,hz⟩;have HB2:=Lib.hid (bcomp hz ((Below.refl w2.heap.size w2).alloc (Nat.le_refl _) (.cells #[.int .i64 0,.int .i64 0] 46)));clear hz)
 clear c0 c1 c2 c3 c4 HCK
 generalize w2.alloc (.cells #[.int .i64 0,.int .i64 0] 46)=W2 at *
 have HY0b:=Lib.hid ((HB2.out.block _ (Array.getElem?_eq_some_iff.1 HY0.out).1).trans HY0.out)
 have HY1b:=Lib.hid ((HB2.out.block _ (Array.getElem?_eq_some_iff.1 HY1.out).1).trans HY1.out)
 have HGV:=Lib.hid (given29 P _ _ _ _ q _ _ _ _ _ dl W2 (HP1.out.keep HB2.out) (HG1.out.keep HB2.out) (HD1.out.keep HB2.out) (HT1.out.keep HB2.out) (all_len HCF.out))
 have c0:=row_of HY0b.out 0 (.int .i64 P.width) rfl
 have c1:=row_of HY0b.out 1 (.slice a1 P.chans.length k1) rfl
 have c2:=row_of HY0b.out 2 (.slice a2 P.arrays.length k2) rfl
 have c3:=row_of HY0b.out 3 (.slice a3 P.funcs.length k3) rfl
 have c4:=row_of HY0b.out 4 (.slice a4 P.main.length k4) rfl
 have d0:=row_of HY1b.out 0 (.slice la q.levels.length lc) rfl
 have d1:=row_of HY1b.out 1 (.slice oa q.order.length oc) rfl
 have d2:=row_of HY1b.out 2 (.slice ca q.chans.length cc) rfl
 have d3:=row_of HY1b.out 3 (.slice ta q.sites.length tc) rfl
 have d4:=row_of HY1b.out 4 (.bool q.sens) rfl
 have d5:=row_of HY1b.out 5 (.int .i64 q.steps) rfl
 have d6:=row_of HY1b.out 6 (.int .i64 q.paths) rfl
 have d7:=row_of HY1b.out 7 (.int .i64 q.nodes) rfl
 have d8:=row_of HY1b.out 8 (.int .i64 q.confs) rfl
 go_upto_region 6 with (go_at_call 19;refine HGV.out.mono ?_;rintro e w3 ⟨R,hgq,lv,ov,cv,sv,rfl,hr,hz⟩;obtain ⟨b1,l1,rfl⟩:=hr.1.is;obtain ⟨b2,l2,rfl⟩:=hr.2.1.is;obtain ⟨b3,l3,rfl⟩:=hr.2.2.1.is;obtain ⟨b4,l4,rfl⟩:=hr.2.2.2.1.is;have HB3:=Lib.hid hz;have HR3:=Lib.hid hr;have HGQ:=Lib.hid hgq;clear hr hz hgq)
 try simp only [Act.put]
 clear c0 c1 c2 c3 c4 d0 d1 d2 d3 d4 d5 d6 d7 d8 HGV HY0 HY1
 have HX4:=Lib.hid (heap_alloc_new w3 (.cells #[.slice b1 R.levels.length l1,.slice b2 R.order.length l2,.slice b3 R.chans.length l3,.slice b4 R.sites.length l4,.bool R.sens,.int .i64 R.steps,.int .i64 R.paths,.int .i64 R.nodes,.int .i64 R.confs] 30))
 have B4:Hid (Below W2.heap.size W2 (w3.alloc (.cells #[.slice b1 R.levels.length l1,.slice b2 R.order.length l2,.slice b3 R.chans.length l3,.slice b4 R.sites.length l4,.bool R.sens,.int .i64 R.steps,.int .i64 R.paths,.int .i64 R.nodes,.int .i64 R.confs] 30))):=bcomp HB3.out ((Below.refl _ _).alloc (Nat.le_refl _) _)
 have HR4:=Lib.hid (HR3.out.keep ((Below.refl w3.heap.size w3).alloc (Nat.le_refl _) (.cells #[.slice b1 R.levels.length l1,.slice b2 R.order.length l2,.slice b3 R.chans.length l3,.slice b4 R.sites.length l4,.bool R.sens,.int .i64 R.steps,.int .i64 R.paths,.int .i64 R.nodes,.int .i64 R.confs] 30)))
 have HSZ4:Hid (w3.heap.size<(w3.alloc (.cells #[.slice b1 R.levels.length l1,.slice b2 R.order.length l2,.slice b3 R.chans.length l3,.slice b4 R.sites.length l4,.bool R.sens,.int .i64 R.steps,.int .i64 R.paths,.int .i64 R.nodes,.int .i64 R.confs] 30)).heap.size):=by show _<_;simp
 have HSZ3:=Lib.hid HB3.out.size
 generalize w3.alloc (.cells #[.slice b1 R.levels.length l1,.slice b2 R.order.length l2,.slice b3 R.chans.length l3,.slice b4 R.sites.length l4,.bool R.sens,.int .i64 R.steps,.int .i64 R.paths,.int .i64 R.nodes,.int .i64 R.confs] 30)=W4 at *
 obtain ⟨xb,hxb⟩:∃ xb,w3.heap.size=xb:=⟨_,rfl⟩
 rw [hxb] at HX4 HSZ4 HSZ3
 try rw [hxb]
 clear hxb HB3 HR3
 have HY0:=Lib.hid ((B4.out.block _ (Array.getElem?_eq_some_iff.1 HY0b.out).1).trans HY0b.out)
 have HB4:=Lib.hid (bcomp HB2.out B4.out)
 have HP4:=Lib.hid (HP1.out.keep HB4.out)
 have HL4:=Lib.hid (HL1.out.keep HB4.out)
 have HM4:=Lib.hid (HM1.out.keep HB4.out)
 have HT4:=Lib.hid (HT1.out.keep HB4.out)
 have HIS:=Lib.hid (is29 P _ _ _ _ R _ _ _ _ 0 0 0 W4 HP4.out HR4.out.forget HL4.out HT4.out (given_fits HCF.out HGQ.out))
 have hH:=wfP_of HCF.out
 have HLN:Hid (R.chans.length≤32∧R.sites.length≤32):=by
  have h1:=congrArg List.length HGQ.out.1
  have h2:=congrArg List.length HGQ.out.2.1
  rw [List.length_map] at h1 h2
  have h3:=hH.chl
  have h4:=hH.sites
  exact ⟨by omega,by omega⟩
 clear hH
 have c0:=row_of HY0.out 0 (.int .i64 P.width) rfl
 have c1:=row_of HY0.out 1 (.slice a1 P.chans.length k1) rfl
 have c2:=row_of HY0.out 2 (.slice a2 P.arrays.length k2) rfl
 have c3:=row_of HY0.out 3 (.slice a3 P.funcs.length k3) rfl
 have c4:=row_of HY0.out 4 (.slice a4 P.main.length k4) rfl
 have d0:=row_of HX4.out 0 (.slice b1 R.levels.length l1) rfl
 have d1:=row_of HX4.out 1 (.slice b2 R.order.length l2) rfl
 have d2:=row_of HX4.out 2 (.slice b3 R.chans.length l3) rfl
 have d3:=row_of HX4.out 3 (.slice b4 R.sites.length l4) rfl
 have d4:=row_of HX4.out 4 (.bool R.sens) rfl
 have d5:=row_of HX4.out 5 (.int .i64 R.steps) rfl
 have d6:=row_of HX4.out 6 (.int .i64 R.paths) rfl
 have d7:=row_of HX4.out 7 (.int .i64 R.nodes) rfl
 have d8:=row_of HX4.out 8 (.int .i64 R.confs) rfl
 go_upto_region 8 with (go_at_call 20;refine HIS.out.mono ?_;rintro e W5 ⟨rfl,hz⟩;have HZ5:=Lib.hid hz;clear hz)
 clear c0 c1 c2 c3 c4 d0 d1 d2 d3 d4 d5 d6 d7 d8 HIS
 have HB5:=Lib.hid (bcomp B4.out HZ5.out)
 have HX5:=Lib.hid ((HZ5.out.block _ (Array.getElem?_eq_some_iff.1 HX4.out).1).trans HX4.out)
 have HR5:=Lib.hid (HR4.out.keep HZ5.out)
 have HSZ5:Hid (W2.heap.size≤W5.heap.size):=HB5.out.size
 have HA5:Hid (∀ z,Below W2.heap.size W2 z→Calls Tryd.prog 13 #[] z fun e w'=>e=.returned (.bool true)∧Below z.heap.size z w'):=fun z hz=>HA1.out z (bcomp HB2.out hz)
 clear HX4 HR4 HZ5 HSZ4 HA1
 have d2:=row_of HX5.out 2 (.slice b3 R.chans.length l3) rfl
 have d3:=row_of HX5.out 3 (.slice b4 R.sites.length l4) rfl
 have hl1:R.chans.length≤32:=HLN.out.1
 have hl2:R.sites.length≤32:=HLN.out.2
 go_upto_region 10 with fail
 by_cases hpos:0<R.chans.length+R.sites.length
 rotate_left
 ·have hp0:¬ (0:Int)<(R.chans.length:Int)+(R.sites.length:Int):=by omega
  have HAA:=Lib.hid (HA5.out W5 HB5.out)
  clear d2 d3
  go_wp2_with (go_at_call 13;refine HAA.out.mono ?_;rintro e z ⟨rfl,hz⟩;have BZ:=Lib.hid hz;clear hz)
  go_ret
  exact ⟨rfl,bcomp HBB.out (bcomp HB2.out (bcomp HB5.out BZ.out))⟩
 have hp0:(0:Int)<(R.chans.length:Int)+(R.sites.length:Int):=by omega
 obtain ⟨M,hM0⟩:∃ M:Int,modF nn ((R.chans.length:Int)+(R.sites.length:Int))=M:=⟨_,rfl⟩
 have hmi:=modF_in nn ((R.chans.length:Int)+(R.sites.length:Int)) (by omega)
 have hmo:=fun z=>mod29 nn ((R.chans.length:Int)+(R.sites.length:Int)) hn (by omega) z
 rw [hM0] at hmi hmo
 obtain ⟨k,hk⟩:∃ k:Nat,M=k:=⟨M.toNat,by omega⟩
 subst hk
 have HMO:=Lib.hid hmo
 have hk5:k<R.chans.length+R.sites.length:=by omega
 clear hmo hM0 hmi
 go_upto_if 55 with (go_at_call 21;refine (HMO.out _).mono ?_;rintro e W6 ⟨rfl,hz⟩;have HZ6:=Lib.hid hz;clear hz;have d2b:=cell_keep HZ6.out d2;have d3b:=cell_keep HZ6.out d3)
 clear d2 d3
 have HX6:=Lib.hid ((HZ6.out.block _ (Array.getElem?_eq_some_iff.1 HX5.out).1).trans HX5.out)
 have HR6a:=Lib.hid (HR5.out.keep HZ6.out)
 have HB6a:=Lib.hid (bcomp HB5.out HZ6.out)
 have HSZ6:Hid (W2.heap.size≤W6.heap.size):=HB6a.out.size
 clear HX5 HR5 HB5 HSZ5 HZ6 HMO
 go_cut [12,14] from 51 to 96 (fun nm kk wx=>∃ (R2:PolD) (name:ByteArray) (at1:Int × Int) (u3:Option Addr) (m3:Nat) (u4:Option Addr) (m4:Nat),nm=.string name∧name.size≤maxLen∧rulesC P R2=(at1,6)∧AtName P name at1∧wx.heap[xb]?=some (.cells #[.slice b1 R2.levels.length l1,.slice b2 R2.order.length l2,.slice u3 R2.chans.length m3,.slice u4 R2.sites.length m4,.bool R2.sens,.int .i64 R2.steps,.int .i64 R2.paths,.int .i64 R2.nodes,.int .i64 R2.confs] 30 (0,0))∧RdPol none wx R2 (.slice b1 R2.levels.length l1) (.slice b2 R2.order.length l2) (.slice u3 R2.chans.length m3) (.slice u4 R2.sites.length m4)∧Below W2.heap.size W2 wx)
 case first=>
  by_cases hlk:k<R.chans.length
  ·have hkl:(k:Int)<(R.chans.length:Int):=by omega
   obtain ⟨x,hx⟩:∃ x,R.chans[k]?=some x:=⟨_,List.getElem?_eq_getElem hlk⟩
   have hrow:=HR6a.out.2.2.1
   obtain ⟨bb,oo,rfl,_,x0,_,hxz⟩:=atBind hrow hx
   obtain ⟨at1,hat1,hat2⟩:=less_chan HCF.out HGQ.out hx
   have hcap:R.chans.length≤l3:=by
    obtain ⟨_,_,e,⟨_,h2⟩,_⟩:=hrow
    simp only [Value.slice.injEq] at e
    omega
   have hl1:R.chans.length≤1000000:=by have:=HLN.out.1;omega
   have q2:=row_of HX6.out 2 (.slice (some ⟨bb,oo,none⟩) R.chans.length l3) rfl
   have HROW:=Lib.hid hrow
   have HAT1:=Lib.hid hat1
   have HAT2:=Lib.hid hat2
   have HXZ:=Lib.hid hxz.1
   have hk1:(k:Int)<(R.chans.length:Int):=by omega
   clear hx hrow hat1 hat2 hxz
   go_upto_region 14 with fail
   clear x0 q2
   have hk2:(k:Int)≤(l3:Int):=by omega
   have hk3:(k:Int)+1≤(R.chans.length:Int):=by omega
   have hk4:(R.chans.length:Int)≤(l3:Int):=by omega
   refine wp_region_mix (.one [0,1,2,3,4,5,6,7,8,9] 10 (tailOf [11,12])) (fun j=>decide (10≤j)) (by kernel_rfl) (by kernel_rfl) rfl (by kernel_rfl) (fun _ d _ _ _ h=>by cases d <;> exact h) ?_
   have HBd:Hid (Below W6.heap.size W6 W6.drew):=(Below.refl _ _).drew
   generalize W6.drew=wn at *
   have e2:=ext_cell (row_of HX6.out 2 (.slice (some ⟨bb,oo,none⟩) R.chans.length l3) rfl)
   refine mix_one (by simp only [opsOf,List.filterMap_cons,List.filterMap_nil,List.getElem?_toArray,List.getElem?_cons_succ,List.getElem?_cons_zero];rfl) ⟨_,ext_of HBd.out⟩ ?_
   change wpQuiet _ _ _ _ [_,_,_,_,_,_,_,_,_,_] _
   (repeat (go_big_quiet_step (fail)))
   refine wpQuiet_nil ?_
   clear e2 hk2 hk3 hk4
   refine mix_step rfl ?_
   obtain ⟨ad,had⟩:∃ ad,(if l3=k+1 then some (⟨bb,oo,none⟩:Addr) else some ⟨bb,oo+(k+1) * 2,none⟩)=ad:=⟨_,rfl⟩
   rw [had]
   refine wpList_eraseB rfl (.tmp 66) (.tmp 71) rfl bb oo k R.chans.length l3 W2.heap.size R.chans rfl (HROW.out.keep HBd.out) (Nat.le_trans HSZ6.out HBd.out.size) hlk hl1 rfl (by rw [had];rfl) ?_
   intro u1 u2 w6 hr6 hb6
   clear had
   have hq6:=((bcomp HBd.out hb6).block xb (Array.getElem?_eq_some_iff.1 HX6.out).1).trans HX6.out
   have c6:=row_of hq6 2 (.slice (some ⟨bb,oo,none⟩) R.chans.length l3) rfl
   have f6:=frozen_of_row w6 xb 2 _ _ hq6
   refine ⟨fun h=>absurd h (by decide),?_⟩
   refine mix_tail [11,12] [_,_] _ _ rfl rfl ?_
   try (simp only [Act.put,List.setIfInBounds_toArray,List.set_cons_succ,List.set_cons_zero,List.getElem_toArray,List.getElem_cons_succ,List.getElem_cons_zero])
   have HQ6:=Lib.hid hq6
   have HR6:=Lib.hid hr6
   have HB6:=Lib.hid (bcomp HBd.out hb6)
   clear hr6 hb6 hq6
   go_wp2_with fail
   go_meet
   refine ⟨{ R with chans:=R.chans.eraseIdx k },x.name,at1,u1,u2,b4,l4,rfl,HXZ.out,HAT1.out,HAT2.out,?_,?_,?_⟩
   ·rw [heap_setCell_same _ _ _ _ _ _ HQ6.out];rfl
   ·exact (RdPol.setCT (q:={ R with chans:=R.chans.eraseIdx k }) ⟨HR6a.out.1.keep HB6.out,HR6a.out.2.1.keep HB6.out,HR6.out,HR6a.out.2.2.2.1.keep HB6.out,HR6a.out.2.2.2.2⟩ HQ6.out).forget
   ·exact below_then (bcomp HB6a.out HB6.out) (setCell_turned w6 ⟨xb,2,none⟩ (.slice u1 (R.chans.eraseIdx k).length u2)) (Nat.le_trans HSZ6.out HB6.out.size) (fun i e=>by have e:i=xb:=e;have:=HSZ3.out;omega)
  ·have hkl:¬ (k:Int)<(R.chans.length:Int):=by omega
   obtain ⟨kk,hkk⟩:∃ kk:Nat,(k:Int) - (R.chans.length:Int)=(kk:Int):=⟨k - R.chans.length,by omega⟩
   have hlk:kk<R.sites.length:=by omega
   obtain ⟨x,hx⟩:∃ x,R.sites[kk]?=some x:=⟨_,List.getElem?_eq_getElem hlk⟩
   have hrow:=HR6a.out.2.2.2.1
   obtain ⟨bb,oo,rfl,_,x0,_,hxz⟩:=atBind hrow hx
   obtain ⟨at1,hat1,hat2⟩:=less_site HCF.out HGQ.out hx
   have hcap:R.sites.length≤l4:=by
    obtain ⟨_,_,e,⟨_,h2⟩,_⟩:=hrow
    simp only [Value.slice.injEq] at e
    omega
   have hl1:R.sites.length≤1000000:=by have:=HLN.out.2;omega
   have q2:=row_of HX6.out 3 (.slice (some ⟨bb,oo,none⟩) R.sites.length l4) rfl
   have HROW:=Lib.hid hrow
   have HAT1:=Lib.hid hat1
   have HAT2:=Lib.hid hat2
   have HXZ:=Lib.hid hxz.1
   have hk1:(kk:Int)<(R.sites.length:Int):=by omega
   clear hx hrow hat1 hat2 hxz
   go_upto_region 17 with fail
   clear x0 q2
   have hk2:(kk:Int)≤(l4:Int):=by omega
   have hk3:(kk:Int)+1≤(R.sites.length:Int):=by omega
   have hk4:(R.sites.length:Int)≤(l4:Int):=by omega
   refine wp_region_mix (.one [0,1,2,3,4,5,6,7,8,9] 10 (tailOf [11,12])) (fun j=>decide (10≤j)) (by kernel_rfl) (by kernel_rfl) rfl (by kernel_rfl) (fun _ d _ _ _ h=>by cases d <;> exact h) ?_
   have HBd:Hid (Below W6.heap.size W6 W6.drew):=(Below.refl _ _).drew
   generalize W6.drew=wn at *
   have e2:=ext_cell (row_of HX6.out 3 (.slice (some ⟨bb,oo,none⟩) R.sites.length l4) rfl)
   refine mix_one (by simp only [opsOf,List.filterMap_cons,List.filterMap_nil,List.getElem?_toArray,List.getElem?_cons_succ,List.getElem?_cons_zero];rfl) ⟨_,ext_of HBd.out⟩ ?_
   change wpQuiet _ _ _ _ [_,_,_,_,_,_,_,_,_,_] _
   (repeat (go_big_quiet_step (fail)))
   refine wpQuiet_nil ?_
   clear e2 hk2 hk3 hk4
   refine mix_step rfl ?_
   obtain ⟨ad,had⟩:∃ ad,(if l4=kk+1 then some (⟨bb,oo,none⟩:Addr) else some ⟨bb,oo+(kk+1) * 2,none⟩)=ad:=⟨_,rfl⟩
   rw [had]
   refine wpList_eraseB rfl (.tmp 89) (.tmp 94) rfl bb oo kk R.sites.length l4 W2.heap.size R.sites rfl (HROW.out.keep HBd.out) (Nat.le_trans HSZ6.out HBd.out.size) hlk hl1 rfl (by rw [had];rfl) ?_
   intro u1 u2 w6 hr6 hb6
   clear had
   have hq6:=((bcomp HBd.out hb6).block xb (Array.getElem?_eq_some_iff.1 HX6.out).1).trans HX6.out
   have c6:=row_of hq6 3 (.slice (some ⟨bb,oo,none⟩) R.sites.length l4) rfl
   have f6:=frozen_of_row w6 xb 3 _ _ hq6
   refine ⟨fun h=>absurd h (by decide),?_⟩
   refine mix_tail [11,12] [_,_] _ _ rfl rfl ?_
   try (simp only [Act.put,List.setIfInBounds_toArray,List.set_cons_succ,List.set_cons_zero,List.getElem_toArray,List.getElem_cons_succ,List.getElem_cons_zero])
   have HQ6:=Lib.hid hq6
   have HR6:=Lib.hid hr6
   have HB6:=Lib.hid (bcomp HBd.out hb6)
   clear hr6 hb6 hq6
   go_wp2_with fail
   go_meet
   refine ⟨{ R with sites:=R.sites.eraseIdx kk },x.name,at1,b3,l3,u1,u2,rfl,HXZ.out,HAT1.out,HAT2.out,?_,?_,?_⟩
   ·rw [heap_setCell_same _ _ _ _ _ _ HQ6.out];rfl
   ·exact (RdPol.setCT (q:={ R with sites:=R.sites.eraseIdx kk }) ⟨HR6a.out.1.keep HB6.out,HR6a.out.2.1.keep HB6.out,HR6a.out.2.2.1.keep HB6.out,HR6.out,HR6a.out.2.2.2.2⟩ HQ6.out).forget
   ·exact below_then (bcomp HB6a.out HB6.out) (setCell_turned w6 ⟨xb,3,none⟩ (.slice u1 (R.sites.eraseIdx kk).length u2)) (Nat.le_trans HSZ6.out HB6.out.size) (fun i e=>by have e:i=xb:=e;have:=HSZ3.out;omega)
 case rest=>
  obtain ⟨R2,nm,at1,u3,m3,u4,m4,rfl,hnz,hrc,hat,hx7,hr7,hb7⟩:=hcut
  obtain ⟨W7,rfl⟩:∃ x:World,x=wc:=⟨_,rfl⟩
  obtain ⟨l,c⟩:=at1
  have HNZ:=Lib.hid hnz
  have HAT:=Lib.hid hat
  have hr8:=rulesCheck P _ _ _ _ R2 _ _ _ _ W7 (HP1.out.keep (bcomp HB2.out hb7)) hr7 (HL1.out.keep (bcomp HB2.out hb7)) (HT1.out.keep (bcomp HB2.out hb7))
  rw [hrc] at hr8
  have HRC:=Lib.hid hr8
  have HY7:=Lib.hid ((hb7.block _ (Array.getElem?_eq_some_iff.1 HY0b.out).1).trans HY0b.out)
  have HB7:=Lib.hid hb7
  have c0:=row_of HY7.out 0 (.int .i64 P.width) rfl
  have c1:=row_of HY7.out 1 (.slice a1 P.chans.length k1) rfl
  have c2:=row_of HY7.out 2 (.slice a2 P.arrays.length k2) rfl
  have c3:=row_of HY7.out 3 (.slice a3 P.funcs.length k3) rfl
  have c4:=row_of HY7.out 4 (.slice a4 P.main.length k4) rfl
  have d0:=row_of hx7 0 (.slice b1 R2.levels.length l1) rfl
  have d1:=row_of hx7 1 (.slice b2 R2.order.length l2) rfl
  have d2:=row_of hx7 2 (.slice u3 R2.chans.length m3) rfl
  have d3:=row_of hx7 3 (.slice u4 R2.sites.length m4) rfl
  have d4:=row_of hx7 4 (.bool R2.sens) rfl
  have d5:=row_of hx7 5 (.int .i64 R2.steps) rfl
  have d6:=row_of hx7 6 (.int .i64 R2.paths) rfl
  have d7:=row_of hx7 7 (.int .i64 R2.nodes) rfl
  have d8:=row_of hx7 8 (.int .i64 R2.confs) rfl
  clear hnz hrc hat hx7 hr7 hr8 hb7 HX6 HR6a HB6a
  go_upto_region 19 with (go_at_call 15;refine HRC.out.mono ?_;rintro e w8 ⟨rfl,hz⟩;have HZ8:=Lib.hid hz;clear hz)
  clear c0 c1 c2 c3 c4 d0 d1 d2 d3 d4 d5 d6 d7 d8 HRC
  have HX8:=Lib.hid (heap_alloc_new w8 (.cells #[.int .i64 l,.int .i64 c] 46))
  have HB8:Hid (Below W2.heap.size W2 (w8.alloc (.cells #[.int .i64 l,.int .i64 c] 46))):=bcomp HB7.out (bcomp HZ8.out ((Below.refl _ _).alloc (Nat.le_refl _) _))
  generalize w8.alloc (.cells #[.int .i64 l,.int .i64 c] 46)=W8 at *
  obtain ⟨yb,hyb⟩:∃ yb,w8.heap.size=yb:=⟨_,rfl⟩
  rw [hyb] at HX8
  try rw [hyb]
  clear hyb HZ8 HB7 HY7
  have HY8:=Lib.hid ((HB8.out.block _ (Array.getElem?_eq_some_iff.1 HY0b.out).1).trans HY0b.out)
  have HP8:=Lib.hid (HP1.out.keep (bcomp HB2.out HB8.out))
  have y0:=row_of HX8.out 0 (.int .i64 l) rfl
  have y1:=row_of HX8.out 1 (.int .i64 c) rfl
  go_upto_region 21 with fail
  go_cut [17] from 105 to 107 (fun t wx=>t=.bool (l == 0 && c == 0)∧W8=wx)
  case first=>
   by_cases h1:l=0 <;> by_cases h2:c=0
   all_goals try subst h1
   all_goals try subst h2
   ·go_wp2_with fail
    go_meet
    exact ⟨rfl,by first|trivial|rfl⟩
   ·have e2:(c == 0)=false:=by simp [h2]
    go_wp2_with fail
    go_meet
    exact ⟨by rw [e2];rfl,by first|trivial|rfl⟩
   ·have e1:(l == 0)=false:=by simp [h1]
    go_wp2_with fail
    go_meet
    exact ⟨by rw [e1];rfl,by first|trivial|rfl⟩
   ·have e1:(l == 0)=false:=by simp [h1]
    have e2:(c == 0)=false:=by simp [h2]
    go_wp2_with fail
    go_meet
    exact ⟨by rw [e1];rfl,by first|trivial|rfl⟩
  case rest=>
   obtain ⟨rfl,rfl⟩:=hcut
   clear y0 y1
   obtain ⟨Z,hZ⟩:∃ Z,(l == 0 && c == 0)=Z:=⟨_,rfl⟩
   try rw [hZ]
   have HZZ:=Lib.hid hZ
   clear hZ
   go_wp2_with fail
   go_loopw [17,18] (fun t i wr=>∃ m:Nat,m≤P.funcs.length+1∧i=.int .i64 m∧t=.bool (Z || (preC P m).any (hitB nm (l,c)))∧Below W8.heap.size W8 wr) (fun _ i _=>P.funcs.length+1 - (intOf i).toNat)
   case atStart=>exact ⟨0,Nat.zero_le _,rfl,by simp [preC,codesOf],Below.refl _ _⟩
   case round=>
    obtain ⟨m,hm,rfl,rfl,hb⟩:=hrel
    obtain ⟨z0,rfl⟩:∃ x:World,x=wr:=⟨_,rfl⟩
    have HB9:=Lib.hid hb
    clear hb
    have HY9:=Lib.hid ((HB9.out.block _ (Array.getElem?_eq_some_iff.1 HY8.out).1).trans HY8.out)
    have HP9:=Lib.hid (HP8.out.keep HB9.out)
    have hfl:P.funcs.length≤100000000000000:=by obtain ⟨_,_,_,⟨h1,_⟩,_⟩:=HP8.out.2.2.1;omega
    have p3:=row_of HY9.out 3 (.slice a3 P.funcs.length k3) rfl
    have p4:=row_of HY9.out 4 (.slice a4 P.main.length k4) rfl
    by_cases hm1:m≤P.funcs.length
    rotate_left
    ·obtain rfl:m=P.funcs.length+1:=by omega
     have hm2:¬ ((P.funcs.length+1:Nat):Int)≤(P.funcs.length:Int):=by omega
     have hh:(Z || (preC P (P.funcs.length+1)).any (hitB nm (l,c)))=true:=by rw [← HZZ.out];exact hit_any HAT.out
     rw [hh]
     have HAA:=Lib.hid (HA5.out z0 (bcomp HB8.out HB9.out))
     clear hh hm1 hm
     go_wp2_with (go_at_call 13;refine HAA.out.mono ?_;rintro e z ⟨rfl,hz⟩;have BZ:=Lib.hid hz;clear hz)
     go_ret
     exact ⟨rfl,bcomp HBB.out (bcomp HB2.out (bcomp HB8.out (bcomp HB9.out BZ.out)))⟩
    have hm2:(m:Int)≤(P.funcs.length:Int):=by omega
    obtain ⟨T0,hT0⟩:∃ T,(Z || (preC P m).any (hitB nm (l,c)))=T:=⟨_,rfl⟩
    try rw [hT0]
    have HST:Hid ((Z || (preC P (m+1)).any (hitB nm (l,c)))=(T0 || (codeAt P m).any (hitB nm (l,c)))):=by show _=_;rw [preC_step hm1,List.any_append,← hT0,Bool.or_assoc]
    clear hT0
    go_upto_if 121 with fail
    go_cut [19] from 115 to 127 (fun cw wx=>RdInstrs none z0 cw (codeAt P m)∧z0=wx)
    case first=>
     by_cases hlt:m<P.funcs.length
     ·have hlt1:(m:Int)<(P.funcs.length:Int):=by omega
      obtain ⟨fd,hfd⟩:∃ fd,P.funcs[m]?=some fd:=⟨_,List.getElem?_eq_getElem hlt⟩
      obtain ⟨a',c',e',hl',hr'⟩:=HP9.out.2.2.1
      simp only [Value.slice.injEq] at e'
      obtain ⟨rfl,_,rfl⟩:=e'
      obtain ⟨fq,fo,fv1,fv2,rfl,_,f0,f1,f2,f3,f4,hri⟩:=hr' m fd hfd
      obtain ⟨ka2,kk2,rfl,_⟩:=id hri.2.1
      have HRI:Hid (RdInstrs none z0 (.slice ka2 fd.code.length kk2) (codeAt P m)):=by
       show RdInstrs _ _ _ _
       have:codeAt P m=fd.code:=by unfold codeAt;rw [hfd]
       rw [this];exact hri.2.1
      clear hri hr' f0 f1 f3 f4 hfd hl' p4
      go_wp2_with fail
      go_meet
      exact ⟨HRI.out,by first|trivial|rfl⟩
     ·have hlt1:¬ (m:Int)<(P.funcs.length:Int):=by omega
      have HRI:Hid (RdInstrs none z0 (.slice a4 P.main.length k4) (codeAt P m)):=by
       show RdInstrs _ _ _ _
       have:codeAt P m=P.main:=by unfold codeAt;rw [List.getElem?_eq_none (by omega)]
       rw [this];exact HP9.out.2.2.2.1
      go_wp2_with fail
      go_meet
      exact ⟨HRI.out,by first|trivial|rfl⟩
    case rest=>
     obtain ⟨hrd,rfl⟩:=hcut
     clear p3 p4
     obtain ⟨acd,kcd,rfl,⟨hcl2,_⟩,_⟩:=id hrd
     obtain ⟨code,hcode⟩:∃ code,codeAt P m=code:=⟨_,rfl⟩
     rw [hcode] at hcl2 hrd HST
     try rw [hcode]
     have HRD:=Lib.hid hrd
     clear hcode hrd
     go_wp2_with fail
     go_loopw [17,20] (fun t i wr=>∃ j:Nat,j≤code.length∧i=.int .i64 j∧t=.bool (T0 || (code.take j).any (hitB nm (l,c)))∧Below z0.heap.size z0 wr) (fun _ i _=>code.length - (intOf i).toNat)
     case atStart=>exact ⟨0,Nat.zero_le _,rfl,by simp,Below.refl _ _⟩
     case round=>
      obtain ⟨j,hj,rfl,rfl,hb⟩:=hrel
      obtain ⟨z,rfl⟩:∃ x:World,x=wr:=⟨_,rfl⟩
      have HBz:=Lib.hid hb
      clear hb
      by_cases hlt:j<code.length
      rotate_left
      ·obtain rfl:j=code.length:=by omega
       have hlt1:¬ (code.length:Int)<(code.length:Int):=by omega
       rw [List.take_length]
       obtain ⟨T1,hT1⟩:∃ T,(T0 || code.any (hitB nm (l,c)))=T:=⟨_,rfl⟩
       try rw [hT1]
       have HS2:=Lib.hid (HST.out.trans hT1)
       clear hT1
       go_wp2_with fail
       go_roundw
       case rel=>exact ⟨m+1,by omega,by go_num,by rw [HS2.out],bcomp HB9.out HBz.out⟩
       case measure=>simp [intOf];omega
      have hlt1:(j:Int)<(code.length:Int):=by omega
      obtain ⟨x,hx⟩:∃ x,code[j]?=some x:=⟨_,List.getElem?_eq_getElem hlt⟩
      obtain ⟨T1,hT1⟩:∃ T,(T0 || (code.take j).any (hitB nm (l,c)))=T:=⟨_,rfl⟩
      have HS2:Hid ((T0 || (code.take (j+1)).any (hitB nm (l,c)))=(T1 || hitB nm (l,c) x)):=by
       show _=_
       rw [List.take_add_one,hx,List.any_append,← hT1,Bool.or_assoc]
       simp
      try rw [hT1]
      obtain ⟨a',c',e',_,hrr⟩:=HRD.out.keep HBz.out
      simp only [Value.slice.injEq] at e'
      obtain ⟨rfl,_,rfl⟩:=e'
      obtain ⟨bx,ox,xv,rfl,_,i0,i1,i2,i3,i4,i5,i6,hri⟩:=hrr j x hx
      have HXz:=Lib.hid ((HBz.out.block yb (by have:=(Array.getElem?_eq_some_iff.1 HX8.out).1;have:=HB9.out.size;omega)).trans ((HB9.out.block yb (Array.getElem?_eq_some_iff.1 HX8.out).1).trans HX8.out))
      have e3:=ext_cell i3
      have e5:=ext_cell i5
      have e6:=ext_cell i6
      have y0:=ext_cell (row_of HXz.out 0 (.int .i64 l) rfl)
      have y1:=ext_cell (row_of HXz.out 1 (.int .i64 c) rfl)
      clear hx hrr hri i0 i1 i2 i3 i4 i5 i6 hT1
      go_upto_region 31 with fail
      cases T1
      ·cases hn:(x.name.toList == nm.toList)
       ·have HS3:Hid ((T0 || (code.take (j+1)).any (hitB nm (l,c)))=false):=by show _=_;rw [HS2.out];unfold hitB;rw [hn];rfl
        clear HS2
        (refine wp_region_calm (by kernel_rfl) (by kernel_rfl) ?_; (repeat (go_big_quiet_step (fail))); refine wpQuiet_nil ?_; intro wc hwc)
        clear e3 e5 e6 y0 y1
        have HBC:=Lib.hid hwc
        clear hwc
        go_wp2_with fail
        go_roundw
        case rel=>exact ⟨j+1,by omega,by go_num,by rw [HS3.out],bcomp HBz.out HBC.out⟩
        case measure=>simp [intOf];omega
       ·by_cases hl:x.line=l <;> by_cases hc:x.col=c
        all_goals try (have hl1:(x.line == l)=false:=by simp [hl])
        all_goals try (have hc1:(x.col == c)=false:=by simp [hc])
        ·have HS3:Hid ((T0 || (code.take (j+1)).any (hitB nm (l,c)))=true):=by show _=_;rw [HS2.out];unfold hitB;rw [hn,hl,hc];simp
         clear HS2
         rw [hl] at e5
         rw [hc] at e6
         clear hl hc
         (refine wp_region_calm (by kernel_rfl) (by kernel_rfl) ?_; (repeat (go_big_quiet_step (fail))); refine wpQuiet_nil ?_; intro wc hwc)
         clear e3 e5 e6 y0 y1
         have HBC:=Lib.hid hwc
         clear hwc
         go_wp2_with fail
         go_roundw
         case rel=>exact ⟨j+1,by omega,by go_num,by rw [HS3.out],bcomp HBz.out HBC.out⟩
         case measure=>simp [intOf];omega
        ·have HS3:Hid ((T0 || (code.take (j+1)).any (hitB nm (l,c)))=false):=by show _=_;rw [HS2.out];unfold hitB;rw [hn,hc1];simp
         clear HS2
         rw [hl] at e5
         clear hl
         (refine wp_region_calm (by kernel_rfl) (by kernel_rfl) ?_; (repeat (go_big_quiet_step (fail))); refine wpQuiet_nil ?_; intro wc hwc)
         clear e3 e5 e6 y0 y1
         have HBC:=Lib.hid hwc
         clear hwc
         go_wp2_with fail
         go_roundw
         case rel=>exact ⟨j+1,by omega,by go_num,by rw [HS3.out],bcomp HBz.out HBC.out⟩
         case measure=>simp [intOf];omega
        ·have HS3:Hid ((T0 || (code.take (j+1)).any (hitB nm (l,c)))=false):=by show _=_;rw [HS2.out];unfold hitB;rw [hn,hl1];simp
         clear HS2
         rw [hc] at e6
         clear hc
         (refine wp_region_calm (by kernel_rfl) (by kernel_rfl) ?_; (repeat (go_big_quiet_step (fail))); refine wpQuiet_nil ?_; intro wc hwc)
         clear e3 e5 e6 y0 y1
         have HBC:=Lib.hid hwc
         clear hwc
         go_wp2_with fail
         go_roundw
         case rel=>exact ⟨j+1,by omega,by go_num,by rw [HS3.out],bcomp HBz.out HBC.out⟩
         case measure=>simp [intOf];omega
        ·have HS3:Hid ((T0 || (code.take (j+1)).any (hitB nm (l,c)))=false):=by show _=_;rw [HS2.out];unfold hitB;rw [hn,hl1];simp
         clear HS2
         (refine wp_region_calm (by kernel_rfl) (by kernel_rfl) ?_; (repeat (go_big_quiet_step (fail))); refine wpQuiet_nil ?_; intro wc hwc)
         clear e3 e5 e6 y0 y1
         have HBC:=Lib.hid hwc
         clear hwc
         go_wp2_with fail
         go_roundw
         case rel=>exact ⟨j+1,by omega,by go_num,by rw [HS3.out],bcomp HBz.out HBC.out⟩
         case measure=>simp [intOf];omega
      ·have HS3:Hid ((T0 || (code.take (j+1)).any (hitB nm (l,c)))=true):=by show _=_;rw [HS2.out];rfl
       clear HS2
       (refine wp_region_calm (by kernel_rfl) (by kernel_rfl) ?_; (repeat (go_big_quiet_step (fail))); refine wpQuiet_nil ?_; intro wc hwc)
       clear e3 e5 e6 y0 y1
       have HBC:=Lib.hid hwc
       clear hwc
       go_wp2_with fail
       go_roundw
       case rel=>exact ⟨j+1,by omega,by go_num,by rw [HS3.out],bcomp HBz.out HBC.out⟩
       case measure=>simp [intOf];omega
end Go.Proofs.YtgllkgedjplpdaaDoor
