/- A region that draws its order, by a plan: some operations (loads) are taken first because no operation that may come before them touches what they read; of the others at most one may come up at a time -/
import Derived.OrdersHeld
import Derived.WalkKit
import Derived.StillTail
import Derived.Deep.QuietTactic
import Derived.BigQuiet
import Derived.Test.YtgllkgedjplpdaaGreatDoorLib
set_option linter.all false
set_option maxRecDepth 1000000
set_option maxHeartbeats 12800000
namespace Go.Proofs.YtgllkgedjplpdaaGreatDoor
section
variable {P:Program} {ops:Array Oper} {Q:Exit->Act->World->Prop} {md:Region.Mode} {H:World->Prop} {E:Nat->Bool}
def anyG (P:Program) (md:Region.Mode) (ops:Array Oper) (Q:Exit->Act->World->Prop) (H:World->Prop) (E:Nat->Bool):Nat->Array Bool->Act->World->Prop
 | 0,L,a,w=>Region.ready md ops L=[]/\Q .normal a w
 | n+1,L,a,w=>(Region.ready md ops L=[]->Q .normal a w) /\
   ∀ i ∈ Region.ready md ops L,wpOp P ops Q i (fun a' w'=>(E i=false->H w')/\anyG P md ops Q H E n (L.setIfInBounds i true) a' w') a w
theorem any_of_G:∀ (n:Nat) (L:Array Bool) (a:Act) (w:World),anyG P md ops Q H E n L a w->wpAny P md ops Q n L a w
 | 0,_,_,_,h=>h
 | n+1,_,_,_,h=>⟨h.1,fun i hi=>wpOp_mono (fun a' w' k=>any_of_G n _ a' w' k.2) (h.2 i hi)⟩
theorem anyG_first {i:Nat} {oi:Oper} {v:Value} (hi:ops[i]?=some oi) (hsel:∀ (j:Nat) (o:Oper) cs b,ops[j]?=some o->o.op ≠ .select cs b)
  (hQ:∀ c a w,Q (.panic c) (a.put oi.dst v) w->Q (.panic c) a w) (hEi:E i=false)
  (hlate:∀ j oj,ops[j]?=some oj->E j=true->∃ e ∈ oj.after,Region.binds md e=true/\e.on=i) :
  ∀ (n:Nat) (L:Array Bool) (a:Act) (w:World),
   (∀ j oj,ops[j]?=some oj->j ≠ i->L.getD j true=false->(∀ e ∈ oj.after,Region.binds md e=true->e.on ≠ i)->oi.apart ops oj=true) ->
   i ∈ Region.ready md ops L->YieldsIf P ops H oi v a->H w ->
   anyG P md ops Q H E n (L.setIfInBounds i true) (a.put oi.dst v) w->anyG P md ops Q H E (n+1) L a w:=by
 intro n
 induction n with
 | zero=>
  intro L a w _ hr hy hS K
  refine ⟨fun h=>(by rw [h] at hr;cases hr),fun j hj=>?_⟩
  by_cases hji:j=i
  ·subst hji;exact hy.wpOp hi hS ⟨fun _=>hS,K⟩
  ·have:=ready_mono hj hji
   rw [K.1] at this
   cases this
 | succ n ih=>
  intro L a w hfree hr hy hS K
  refine ⟨fun h=>(by rw [h] at hr;cases hr),fun j hj=>?_⟩
  by_cases hji:j=i
  ·subst hji;exact hy.wpOp hi hS ⟨fun _=>hS,K⟩
  ·have h1:=K.2 j (ready_mono hj hji)
   obtain ⟨hjun,oj,hoj,hall⟩:=mem_ready.1 hj
   have hnot:∀ e ∈ oj.after,Region.binds md e=true->e.on ≠ i:=by
    intro e he hb heq
    have g1:=hall e he hb
    have g0:=(mem_ready.1 hr).1
    rw [heq] at g1
    rcases Nat.lt_or_ge i L.size with h'|h'
    ·simp [h'] at g0 g1;rw [g0] at g1;cases g1
    ·simp [Array.getElem?_eq_none h'] at g1
   have hEj:E j=false:=by
    cases h:E j
    ·rfl
    ·obtain ⟨e,he,hb,heq⟩:=hlate j oj hoj h
     exact absurd heq (hnot e he hb)
   have h2:=wpOp_putIf hoj (hfree j oj hoj hji hjun hnot) (fun cs b=>hsel i oi cs b hi) (fun cs b=>hsel j oj cs b hoj) hQ hy h1
   have hfree':∀ k ok,ops[k]?=some ok->k ≠ i->(L.setIfInBounds j true).getD k true=false ->
     (∀ e ∈ ok.after,Region.binds md e=true->e.on ≠ i)->oi.apart ops ok=true:=by
    intro k ok hk hki hun hno
    refine hfree k ok hk hki ?_ hno
    by_cases hjk:j=k
    ·subst hjk;exact hjun
    ·rw [getD_set_ne true hjk] at hun;exact hun
   refine wpOp_mono (fun a' w' h3=>⟨h3.2.1,ih (L.setIfInBounds j true) a' w' hfree' (ready_mono hr (Ne.symm hji)) h3.1 (h3.2.1 hEj) ?_⟩) h2
   rw [Array.setIfInBounds_comm _ _ hji]
   exact h3.2.2
def planRun (P:Program) (ops:Array Oper) (Q:Exit->Act->World->Prop) (H:World->Prop) (E:Nat->Bool):List (Nat × Bool)->Act->World->Prop
 | [],a,w=>Q .normal a w
 | (i,true) :: r,a,w=>∃ v o,ops[i]?=some o/\YieldsIf P ops H o v a/\H w/\planRun P ops Q H E r (a.put o.dst v) w
 | (i,false) :: r,a,w=>wpOp P ops Q i (fun a' w'=>(E i=false->H w')/\planRun P ops Q H E r a' w') a w
def lateOk (md:Region.Mode) (ops:Array Oper) (E:Nat->Bool) (i:Nat):Bool:=
 (List.range ops.size).all fun j=>!E j || (match ops[j]? with|some o=>o.after.any (fun e=>Region.binds md e && e.on == i)|none=>true)
def planOk (md:Region.Mode) (ops:Array Oper) (E:Nat->Bool):List (Nat × Bool)->Array Bool->Bool
 | [],L=>(Region.ready md ops L).isEmpty
 | (i,true) :: r,L=>Region.free md ops L i && (Region.ready md ops L).contains i && lateOk md ops E i && !E i && planOk md ops E r (L.setIfInBounds i true)
 | (i,false) :: r,L=>(Region.ready md ops L == [i]) && planOk md ops E r (L.setIfInBounds i true)
theorem lateOk_spec {i:Nat} (h:lateOk md ops E i=true):∀ j oj,ops[j]?=some oj->E j=true->∃ e ∈ oj.after,Region.binds md e=true/\e.on=i:=by
 intro j oj hj hE
 have hlt:j<ops.size:=(aE hj).1
 have:=List.all_eq_true.1 h j (by simpa using hlt)
 rw [hE,hj] at this
 simp only [Bool.not_true,Bool.false_or] at this
 obtain ⟨e,he,hb⟩:=Array.any_eq_true'.1 this
 rw [Bool.and_eq_true,beq_iff_eq] at hb
 exact ⟨e,he,hb.1,hb.2⟩
theorem anyG_of_plan (hs:Region.noSelect ops=true) (hQ:∀ c (d:Option Tmp) v a w,Q (.panic c) (a.put d v) w->Q (.panic c) a w) :
  ∀ (l:List (Nat × Bool)) (L:Array Bool) (a:Act) (w:World),planOk md ops E l L=true->planRun P ops Q H E l a w->anyG P md ops Q H E l.length L a w
 | [],L,a,w,h,k=>⟨List.isEmpty_iff.1 h,k⟩
 | (i,true) :: r,L,a,w,h,⟨v,o,ho,hy,hH,k⟩=>by
  simp only [planOk,Bool.and_eq_true,Bool.not_eq_true'] at h
  obtain ⟨⟨⟨⟨h1,h2⟩,h3⟩,h4⟩,h5⟩:=h
  exact anyG_first ho (Region.noSelect_spec hs) (fun c a w=>hQ c _ _ a w) h4 (lateOk_spec h3) r.length L a w (Region.free_spec ho h1) (by simpa using h2) hy hH (anyG_of_plan hs hQ r _ _ _ h5 k)
 | (i,false) :: r,L,a,w,h,k=>by
  simp only [planOk,Bool.and_eq_true,beq_iff_eq] at h
  refine ⟨fun e=>?_,fun j hj=>?_⟩
  ·rw [h.1] at e;cases e
  ·rw [h.1,List.mem_singleton] at hj
   subst hj
   exact wpOp_mono (fun a' w' h3=>⟨h3.1,anyG_of_plan hs hQ r _ _ _ h.2 h3.2⟩) k
theorem wp_region_plan {id:Nat} {a:Act} {w:World} (H:World->Prop) (E:Nat->Bool) (l:List (Nat × Bool)) (hm:P.follows .mixedOrders=true) (hs:Region.noSelect ops=true)
  (hl:l.length=ops.size) (hok:planOk .any ops E l (Array.replicate ops.size false)=true)
  (hQ:∀ c (d:Option Tmp) v a w,Q (.panic c) (a.put d v) w->Q (.panic c) a w)
  (h:planRun P ops Q H E l a w.drew):(Code.region id ops true).wp P Q a w:=
 wp_region_any hm (any_of_G _ _ _ _ (hl ▸ anyG_of_plan hs hQ l _ _ _ hok h))
def stepQ (K:Act->World->Prop) (Q:Exit->Act->World->Prop):Exit->Act->World->Prop
 | .normal,a,w=>K a w
 | e,a,w=>Q e a w
theorem wp_stepQ {o:Oper} {a:Act} {w:World} {K K':Act->World->Prop} (h:o.wp P a w K (stepQ K' Q)):o.wp P a w K Q:=by
 unfold Oper.wp at *
 generalize (execOp a.eval o).run P w=r at *
 cases r with
 | ok n w'=>
  cases n <;> simp only [Oper.upon] at h ⊢
  case value u=>exact h
  case skip=>exact h
  case defer d=>exact h
  case enter f args=>
   refine Calls.mono h fun e w'' he=>?_
   cases e with
   | returned u=>exact he
   | panicked c=>exact he
   | outgrown=>exact he
  case row row args=>exact h
 | halt x w'=>cases x <;> simp only [Oper.upon] at h ⊢ <;> exact h
theorem wpOp_some {i:Nat} {o:Oper} {K:Act->World->Prop} {a:Act} {w:World} (ho:ops[i]?=some o) :
  wpOp P ops Q i K a w=if Region.wanted o (yielded ops a.tmps) then o.wp P a w K Q \/ (o.asks P a w/\LetsOut Q) else K (a.put o.dst undef) w:=by
 unfold wpOp
 simp only [ho]
theorem plan_step {i:Nat} {o:Oper} {r:List (Nat × Bool)} {a:Act} {w:World} (ho:ops[i]?=some o)
  (h:wpList P ops (stepQ (fun a' w'=>(E i=false->H w')/\planRun P ops Q H E r a' w') Q) [o] a w):planRun P ops Q H E ((i,false) :: r) a w:=by
 show wpOp P ops Q i _ a w
 rw [wpOp_some ho]
 simp only [wpList] at h
 by_cases hw:Region.wanted o (yielded ops a.tmps)=true
 ·rw [if_pos hw] at h ⊢
  rcases h with h|⟨h1,h2⟩
  ·exact .inl (wp_stepQ h)
  ·exact .inr ⟨h1,h2⟩
 ·rw [if_neg hw] at h ⊢
  exact h
theorem plan_nil {a:Act} {w:World} (h:Q .normal a w):planRun P ops Q H E [] a w:=h
theorem plan_tail:∀ (l:List Nat) (os:List Oper) (a:Act) (w:World),l.map (fun i=>ops[i]?)=os.map some->l.all E=true->wpList P ops Q os a w->planRun P ops Q H E (l.map fun i=>(i,false)) a w
 | [],[],_,_,_,_,h=>h
 | [],_ :: _,_,_,h,_,_=>by cases h
 | _ :: _,[],_,_,h,_,_=>by cases h
 | i :: l,o :: os,a,w,h,hE,hw=>by
  simp only [List.map_cons,List.cons.injEq] at h
  simp only [List.all_cons,Bool.and_eq_true] at hE
  have hk:∀ a' w',wpList P ops Q os a' w'->(E i=false->H w')/\planRun P ops Q H E (l.map fun i=>(i,false)) a' w':=by
   intro a' w' h3
   exact ⟨fun e=>(by rw [hE.1] at e;cases e),plan_tail l os a' w' h.2 hE.2 h3⟩
  have h0:wpOp P ops Q i (wpList P ops Q os) a w:=by rw [wpOp_some h.1];exact hw
  exact wpOp_mono hk h0
end
open Go.ChangeShapes Go.WideShapes Go.ChangeAt Go.RowKit
open Classical in
noncomputable def ext (W x:World):World:=if Below W.heap.size W x then x else W
theorem ext_below (W x:World):Below W.heap.size W (ext W x):=by
 unfold ext
 split
 ·assumption
 ·exact bR _ _
theorem ext_of {W x:World} (h:Below W.heap.size W x):x=ext W x:=by unfold ext;rw [if_pos h]
theorem ext_cell {W:World} {a:Addr} {v:Value} (h:W.cell? a=some v) (x:World):(ext W x).cell? a=some v:=cell_keep (ext_below W x) h
theorem calls_calm {P:Program} {f:FuncId} {args:Array Value} {W:World} {v:Value} {x:World}
  (h:Calls P f args (ext W x) fun e w'=>e=.returned v/\Below (ext W x).heap.size (ext W x) w'):Calls P f args (ext W x) fun e w''=>e=.returned v/\∃ y,w''=ext W y:=
 h.mono fun _ _ ⟨he,hb⟩=>⟨he,_,ext_of (bcomp (ext_below W x) hb)⟩
theorem calls_calm_same {P:Program} {f:FuncId} {args:Array Value} {W:World} {v:Value} {x:World}
  (h:Calls P f args (ext W x) fun e w'=>e=.returned v/\ext W x=w'):Calls P f args (ext W x) fun e w''=>e=.returned v/\∃ y,w''=ext W y:=
 h.mono fun _ _ ⟨he,hb⟩=>⟨he,x,hb.symm⟩
section
variable {P:Program} {ops:Array Oper} {md:Region.Mode} {C:World->Prop}
def anyQL (P:Program) (md:Region.Mode) (ops:Array Oper) (C:World->Prop) (n:Nat) (L:Array Bool->Act->Prop):Nat->Array Bool->Act->Prop
 | 0,listed,a=>L listed a
 | f+1,listed,a=>
  Region.ready md ops listed ≠ []/\∀ i ∈ Region.ready md ops listed,i<n/\qOp P ops C i (anyQL P md ops C n L f (listed.setIfInBounds i true)) a
theorem any_of_QL {n g:Nat} {L:Array Bool->Act->Prop} {Q':Exit->Act->World->Prop} (hL:∀ listed a w,C w->L listed a->wpAny P md ops Q' g listed a w) :
  ∀ (f:Nat) (listed:Array Bool) (a:Act) (w:World),C w->anyQL P md ops C n L f listed a->wpAny P md ops Q' (f+g) listed a w
 | 0,listed,a,w,hw,h=>by rw [Nat.zero_add];exact hL _ _ _ hw h
 | f+1,listed,a,w,hw,h=>by
  rw [show f+1+g=(f+g)+1 by omega]
  exact ⟨fun h0=>absurd h0 h.1,fun i hi=>wpOp_of_qOp hw (fun a' w' hw' h'=>any_of_QL hL f _ a' w' hw' h') (h.2 i hi).2⟩
theorem anyQL_first {n i:Nat} {oi:Oper} {v:Value} {L:Array Bool->Act->Prop} (hi:ops[i]?=some oi) (hsel:∀ (j:Nat) (o:Oper) cs b,ops[j]?=some o->o.op ≠ .select cs b)
  (hs:Region.sinkB md ops n=true) (hc:Region.chainB md ops n=true) (hn:n<ops.size) (hin:i<n)
  (hdone:∀ listed a,L listed a->∀ j ∈ Region.ready md ops listed,n<=j) :
  ∀ (f:Nat) (listed:Array Bool) (a:Act),HeadInv md ops n listed ->
   (∀ j oj,ops[j]?=some oj->j ≠ i->listed.getD j true=false->(∀ e ∈ oj.after,Region.binds md e=true->e.on ≠ i)->oi.apart ops oj=true) ->
   i ∈ Region.ready md ops listed->YieldsIn P ops C oi v a ->
   anyQL P md ops C n L f (listed.setIfInBounds i true) (a.put oi.dst v)->anyQL P md ops C n L (f+1) listed a:=by
 intro f
 induction f with
 | zero=>
  intro listed a inv _ hr hy H
  have hun:=(mem_ready.1 hr).1
  refine ⟨fun h=>(by rw [h] at hr;cases hr),fun j hj=>?_⟩
  have hjn:j<n:=by
   rcases Nat.lt_or_ge j n with h|h
   ·exact h
   ·exact absurd hj (tail_waits hs hc hn inv _ i rfl hin hun j h)
  refine ⟨hjn,?_⟩
  by_cases hji:j=i
  ·subst hji;exact hy.qOp hi H
  ·have:=hdone _ _ H j (ready_mono hj hji)
   omega
 | succ f ih=>
  intro listed a inv hfree hr hy H
  have hun:=(mem_ready.1 hr).1
  refine ⟨fun h=>(by rw [h] at hr;cases hr),fun j hj=>?_⟩
  have hjn:j<n:=by
   rcases Nat.lt_or_ge j n with h|h
   ·exact h
   ·exact absurd hj (tail_waits hs hc hn inv _ i rfl hin hun j h)
  refine ⟨hjn,?_⟩
  by_cases hji:j=i
  ·subst hji;exact hy.qOp hi H
  ·have h1:=(H.2 j (ready_mono hj hji)).2
   obtain ⟨hjun,oj,hoj,hall⟩:=mem_ready.1 hj
   have hnot:∀ e ∈ oj.after,Region.binds md e=true->e.on ≠ i:=fun e he hb heq=>by
    have h1:=hall e he hb
    rw [heq,getD_both hun] at h1
    cases h1
   have h2:=qOp_put hoj (hfree j oj hoj hji hjun hnot) (fun cs b=>hsel i oi cs b hi) (fun cs b=>hsel j oj cs b hoj) hy h1
   have hfree':∀ k ok,ops[k]?=some ok->k ≠ i->(listed.setIfInBounds j true).getD k true=false ->
     (∀ e ∈ ok.after,Region.binds md e=true->e.on ≠ i)->oi.apart ops ok=true:=fun k ok hk hki hun hno=>by
    refine hfree k ok hk hki ?_ hno
    by_cases hjk:j=k
    ·subst hjk;exact hjun
    ·rw [getD_set_ne true hjk] at hun;exact hun
   refine qOp_mono (fun a' h3=>ih (listed.setIfInBounds j true) a' (inv.set hj hjn) hfree' (ready_mono hr (Ne.symm hji)) h3.1 ?_) h2
   rw [Array.setIfInBounds_comm _ _ hji]
   exact h3.2
theorem anyQL_lex {n g:Nat} {Lq:Act->Prop} (hsel:Region.noSelect ops=true) (hs:Region.sinkB md ops n=true) (hc:Region.chainB md ops n=true) (hn:n<ops.size) :
  ∀ (l:List Oper) (k:Nat) (listed:Array Bool) (a:Act),(∀ j,j<l.length->l[j]?=ops[k+j]?)->k+l.length=n->HeadInv md ops n listed ->
  Region.lexHead md ops g l.length k listed=true->wpQuiet P ops C Lq l a ->
  anyQL P md ops C n (fun listed' a'=>Region.seqB md ops g n listed'=true/\Lq a') l.length listed a
 | [],k,listed,a,_,hk,_,hB,h=>by
  have:k=n:=by simpa using hk
  subst this
  exact ⟨by simpa [Region.lexHead] using hB,h⟩
 | o :: l,k,listed,a,hl,hk,inv,hB,h=>by
  have h0:ops[k]?=some o:=by simpa using (hl 0 (by simp)).symm
  simp only [List.length_cons,Region.lexHead,Bool.and_eq_true] at hB
  obtain ⟨⟨hr,hf⟩,hB'⟩:=hB
  have hkn:k<n:=by simp only [List.length_cons] at hk;omega
  have hr':k ∈ Region.ready md ops listed:=by simpa using hr
  have hst:qOp P ops C k (wpQuiet P ops C Lq l) a:=by unfold qOp;simp only [h0];exact h
  obtain ⟨v,hy,hK⟩:=yieldsIn_of_qOp h0 hst
  exact anyQL_first h0 (Region.noSelect_spec hsel) hs hc hn hkn (fun listed' a' hL=>seqB_ready hL.1) l.length listed a inv (Region.free_spec h0 hf) hr' hy
   (anyQL_lex hsel hs hc hn l (k+1) _ _ (fun j hj=>by have:=hl (j+1) (by simp;omega);simpa [Nat.add_assoc,Nat.add_comm 1 j] using this) (by simp only [List.length_cons] at hk;omega) (inv.set hr' hkn) hB' hK)
theorem wp_region_quiet_tail {id:Nat} {Q:Exit->Act->World->Prop} {a:Act} {w:World} {l:List Oper} (n:Nat) (hm:P.follows .mixedOrders=true) (hB:Region.lexTailB .any l.toArray n=true) (hC:C { w with drawn:=w.drawn+1 })
  (h:wpQuiet P l.toArray C (fun a'=>∀ w',C w'->wpList P l.toArray Q (l.drop n) a' w') (l.take n) a):(Code.region id l.toArray true).wp P Q a w:=by
 simp only [Region.lexTailB,Bool.and_eq_true,decide_eq_true_eq] at hB
 obtain ⟨⟨⟨⟨hsel,hn⟩,hs⟩,hc⟩,hlex⟩:=hB
 have hn':n<l.length:=by simpa using hn
 have htl:(l.take n).length=n:=by simp;omega
 have hdl:(l.drop n).length=l.toArray.size - n:=by simp
 have inv0:HeadInv .any l.toArray n (Array.replicate l.toArray.size false):=
  ⟨by simp,fun j oj _ hl=>(by rw [getD_replicate_false] at hl;cases hl),fun t _ ht=>getD_in (by simpa using ht) (getD_replicate_false _ _)⟩
 have H:=anyQL_lex (md:=.any) (g:=l.toArray.size - n) hsel hs hc hn (l.take n) 0 _ a (fun j hj=>by
  have hj':j<n:=by rw [htl] at hj;exact hj
  simp [hj']) (by simpa using htl) inv0 (by rw [htl];exact hlex) h
 refine wp_region_any hm ?_
 have:=any_of_QL (Q':=Q) (g:=l.toArray.size - n) (fun listed a' w' hw' hL=>by
  have:=wpAny_of_seq (md:=.any) (Q':=Q) (l.drop n) n listed a' w' (fun j=>by simp [List.getElem?_drop]) (by rw [hdl];exact hL.1) (hL.2 w' hw')
  rwa [hdl] at this) _ _ _ _ hC H
 rw [htl,show n+(l.toArray.size - n)=l.toArray.size by omega] at this
 exact this
theorem wp_region_calm {id:Nat} {Q:Exit->Act->World->Prop} {a:Act} {w:World} {l:List Oper} (hm:P.follows .mixedOrders=true) (hB:Region.lexB .any l.toArray=true)
  (h:wpQuiet P l.toArray (fun w'=>∃ x,w'=ext w x) (fun a'=>∀ w',Below w.heap.size w w'->Q .normal a' w') l a):(Code.region id l.toArray true).wp P Q a w:=by
 refine wp_region_quiet (C:=fun w'=>∃ x,w'=ext w x) hm hB ⟨_,ext_of (bR _ _).drew⟩ ?_
 have e:(fun a'=>∀ w',(∃ x,w'=ext w x)->Q .normal a' w')=(fun a'=>∀ w',Below w.heap.size w w'->Q .normal a' w'):=by
  funext a'
  apply propext
  exact ⟨fun k w' hb=>k w' ⟨w',ext_of hb⟩,fun k w' ⟨x,hx⟩=>k w' (by rw [hx];exact ext_below _ _)⟩
 rw [e]
 simpa using h
theorem wp_region_calm_tail {id:Nat} {Q:Exit->Act->World->Prop} {a:Act} {w:World} {l:List Oper} (n:Nat) (hm:P.follows .mixedOrders=true) (hB:Region.lexTailB .any l.toArray n=true)
  (h:wpQuiet P l.toArray (fun w'=>∃ x,w'=ext w x) (fun a'=>∀ w',Below w.heap.size w w'->wpList P l.toArray Q (l.drop n) a' w') (l.take n) a):(Code.region id l.toArray true).wp P Q a w:=by
 refine wp_region_quiet_tail (C:=fun w'=>∃ x,w'=ext w x) n hm hB ⟨_,ext_of (bR _ _).drew⟩ ?_
 have e:(fun a'=>∀ w',(∃ x,w'=ext w x)->wpList P l.toArray Q (l.drop n) a' w')=(fun a'=>∀ w',Below w.heap.size w w'->wpList P l.toArray Q (l.drop n) a' w'):=by
  funext a'
  apply propext
  exact ⟨fun k w' hb=>k w' ⟨w',ext_of hb⟩,fun k w' ⟨x,hx⟩=>k w' (by rw [hx];exact ext_below _ _)⟩
 rw [e]
 exact h
end
open Go.ChangeShapes Go.WideShapes Go.ChangeAt Go.RowKit
def isReader:Op->Bool
 | .move _|.assign _|.nilCheck _|.pick _ _ _|.build _ _|.load _ _|.binOp _ _ _ _ _|.unOp _ _ _|.convert _ _ _|.slice _ _ _ _ _|.fieldAddr _ _ _|.field _ _ _|.indexAddr _ _ _|.index _ _ _|.lookup _ _ _ _|.extract _ _=>true
 | .call { callee:=.builtin .len,.. }|.call { callee:=.builtin .min,.. }=>true
 | _=>false
theorem value_of {P:Program} {s:Sem Value} {w w':World} {n:Next} (h:(do pure (Next.value (<- s)):Sem Next).run P w=.ok n w'):∃ v,n=.value v:=by
 rw [Sem.run_bind] at h
 cases hs:s.run P w with
 | ok a w1=>rw [hs] at h;simp at h;exact ⟨_,h.1.symm⟩
 | halt x w1=>rw [hs] at h;simp at h
theorem value_of' {r:Result Value} {w':World} {n:Next} (h:(r.andThen fun a w1=>Result.ok (Next.value a) w1)=.ok n w'):∃ v,n=.value v:=by
 cases r with
 | ok a w1=>simp at h;exact ⟨_,h.1.symm⟩
 | halt x w1=>simp at h
theorem reader_value {P:Program} {o:Oper} {e:Operand->Value} {w w':World} {n:Next} (hr:isReader o.op=true) (h:(execOp e o).run P w=.ok n w'):∃ v,n=.value v:=by
 obtain ⟨dst,op,ty,pos,after,guard⟩:=o
 cases op <;> simp only [isReader] at hr <;> (try (cases hr;done)) <;> try (exact value_of h)
 case move x=>simp [execOp] at h;exact ⟨_,h.1.symm⟩
 case assign x=>simp [execOp] at h;exact ⟨_,h.1.symm⟩
 case nilCheck x=>
  simp only [execOp] at h
  split at h
  ·simp [runtimePanic,goPanic,Sem.run_bind] at h
  ·simp [runtimePanic,goPanic,Sem.run_bind] at h
  ·simp [runtimePanic,goPanic,Sem.run_bind] at h
  ·split at h
   ·simp [runtimePanic,goPanic,Sem.run_bind] at h
   ·skip
    rw [Sem.run_bind] at h
    cases hs:(program).run P w with
    | halt y w1=>rw [hs] at h;simp at h
    | ok p w1=>
     rw [hs] at h
     simp only [Result.andThen_ok] at h
     rw [Sem.run_bind] at h
     generalize Sem.run P (nilAhead _ _ _ _) w1=R at h
     cases R with
     | halt y w2=>simp at h
     | ok b w2=>
      simp only [Result.andThen_ok] at h
      split at h
      ·simp at h
      ·simp at h;exact ⟨_,h.1.symm⟩
   ·simp at h;exact ⟨_,h.1.symm⟩
  ·simp at h;exact ⟨_,h.1.symm⟩
 case pick c a b=>
  simp only [execOp] at h
  rw [Sem.run_bind] at h
  cases hs:(asBool (e c)).run P w with
  | ok a w1=>rw [hs] at h;simp at h;exact ⟨_,h.1.symm⟩
  | halt x w1=>rw [hs] at h;simp at h
 case call c=>
  obtain ⟨callee,args,tys⟩:=c
  cases callee with
  | builtin b=>
   cases b <;> simp only [isReader] at hr <;> (try (cases hr;done))
   all_goals
    simp only [execOp,resolve,Sem.run_bind,Sem.run_pure,Result.andThen_ok,invoke,builtin] at h
    exact value_of' h
  | invoke r n=>simp [isReader] at hr
  | value f=>simp [isReader] at hr
section
variable {P:Program} {ops:Array Oper} {Q:Exit->Act->World->Prop} {md:Region.Mode} {C:World->Prop} {E:Nat->Bool}
theorem yieldsIf_of_in {o:Oper} {v:Value} {a:Act} (hr:isReader o.op=true) (h:YieldsIn P ops C o v a):YieldsIf P ops C o v a:=by
 rcases h with ⟨hw,hv⟩|⟨hw,rfl⟩
 ·refine .inl ⟨hw,fun w hc=>?_⟩
  have:=hv w hc
  unfold Oper.quietAt at this
  cases hs:(execOp a.eval o).run P w with
  | ok n w'=>
   obtain ⟨u,rfl⟩:=reader_value hr hs
   rw [hs] at this
   simp only [Oper.quietUpon] at this
   rw [this.1,this.2]
  | halt x w'=>rw [hs] at this;simp only [Oper.quietUpon] at this
 ·exact .inr ⟨hw,rfl⟩
def Closed (md:Region.Mode) (ops:Array Oper) (L:Array Bool):Prop:=∀ j o,ops[j]?=some o->L.getD j false=true->∀ e ∈ o.after,Region.binds md e=true->L.getD e.on false=true
def waitsB (md:Region.Mode) (ops:Array Oper):Nat->Nat->Nat->Bool
 | 0,_,_=>false
 | f+1,j,i=>match ops[j]? with
  | some o=>o.after.any fun e=>Region.binds md e && (e.on == i || waitsB md ops f e.on i)
  | none=>false
theorem getD_set_mono {L:Array Bool} {j a:Nat} (h:L.getD a false=true):(L.setIfInBounds j true).getD a false=true:=by
 have ha:a<L.size:=by
  rcases Nat.lt_or_ge a L.size with h'|h'
  ·exact h'
  ·simp [Array.getElem?_eq_none h'] at h
 simp only [Array.getD_eq_getD_getElem?,Array.getElem?_setIfInBounds] at h ⊢
 split
 ·rw [if_pos (by omega)];rfl
 ·exact h
theorem Closed.set {L:Array Bool} {j:Nat} (h:Closed md ops L) (hj:j ∈ Region.ready md ops L):Closed md ops (L.setIfInBounds j true):=by
 intro k o hk hl e he hb
 by_cases hkj:j=k
 ·subst hkj
  obtain ⟨_,o',ho',hall⟩:=mem_ready.1 hj
  rw [hk] at ho';cases ho'
  exact getD_set_mono (hall e he hb)
 ·refine getD_set_mono (h k o hk ?_ e he hb)
  simp only [Array.getD_eq_getD_getElem?,Array.getElem?_setIfInBounds,if_neg hkj] at hl ⊢
  exact hl
theorem Closed.start (n:Nat):Closed md ops (Array.replicate n false):=by
 intro j o _ h
 simp only [Array.getD_eq_getD_getElem?,Array.getElem?_replicate] at h
 split at h <;> simp at h
theorem waits_listed {L:Array Bool} (hc:Closed md ops L) {i:Nat}:∀ (f j:Nat),waitsB md ops f j i=true->(∀ o,ops[j]?=some o->∀ e ∈ o.after,Region.binds md e=true->L.getD e.on false=true)->L.getD i false=true
 | 0,_,h,_=>by simp [waitsB] at h
 | f+1,j,h,hall=>by
  unfold waitsB at h
  cases ho:ops[j]? with
  | none=>rw [ho] at h;cases h
  | some o=>
   rw [ho] at h
   simp only at h
   obtain ⟨e,he,hb⟩:=Array.any_eq_true'.1 h
   rw [Bool.and_eq_true,Bool.or_eq_true,beq_iff_eq] at hb
   have hl:=hall o ho e he hb.1
   rcases hb.2 with h1|h1
   ·rw [<- h1];exact hl
   ·exact waits_listed hc f e.on h1 (fun o' ho' e' he' hb'=>hc e.on o' ho' hl e' he' hb')
def lateW (md:Region.Mode) (ops:Array Oper) (E:Nat->Bool) (i:Nat):Bool:=(List.range ops.size).all fun j=>!E j || waitsB md ops ops.size j i
theorem anyG_firstW {i:Nat} {oi:Oper} {v:Value} (hi:ops[i]?=some oi) (hsel:∀ (j:Nat) (o:Oper) cs b,ops[j]?=some o->o.op ≠ .select cs b)
  (hQ:∀ c a w,Q (.panic c) (a.put oi.dst v) w->Q (.panic c) a w) (hlate:lateW md ops E i=true) :
  ∀ (n:Nat) (L:Array Bool) (a:Act) (w:World),Closed md ops L ->
   (∀ j oj,ops[j]?=some oj->j ≠ i->L.getD j true=false->(∀ e ∈ oj.after,Region.binds md e=true->e.on ≠ i)->oi.apart ops oj=true) ->
   i ∈ Region.ready md ops L->YieldsIf P ops C oi v a->C w ->
   anyG P md ops Q C E n (L.setIfInBounds i true) (a.put oi.dst v) w->anyG P md ops Q C E (n+1) L a w:=by
 intro n
 induction n with
 | zero=>
  intro L a w _ _ hr hy hS K
  refine ⟨fun h=>(by rw [h] at hr;cases hr),fun j hj=>?_⟩
  by_cases hji:j=i
  ·subst hji;exact hy.wpOp hi hS ⟨fun _=>hS,K⟩
  ·have:=ready_mono hj hji
   rw [K.1] at this
   cases this
 | succ n ih=>
  intro L a w hcl hfree hr hy hS K
  refine ⟨fun h=>(by rw [h] at hr;cases hr),fun j hj=>?_⟩
  by_cases hji:j=i
  ·subst hji;exact hy.wpOp hi hS ⟨fun _=>hS,K⟩
  ·have h1:=K.2 j (ready_mono hj hji)
   obtain ⟨hjun,oj,hoj,hall⟩:=mem_ready.1 hj
   have g0:=(mem_ready.1 hr).1
   have hun:L.getD i false=false:=by
    rcases Nat.lt_or_ge i L.size with h'|h'
    ·simp [h'] at g0 ⊢;exact g0
    ·simp [Array.getElem?_eq_none h']
   have hnot:∀ e ∈ oj.after,Region.binds md e=true->e.on ≠ i:=by
    intro e he hb heq
    have g1:=hall e he hb
    rw [heq,hun] at g1
    cases g1
   have hEj:E j=false:=by
    cases h:E j
    ·rfl
    ·have hlt:j<ops.size:=(aE hoj).1
     have:=List.all_eq_true.1 hlate j (by simpa using hlt)
     rw [h] at this
     simp only [Bool.not_true,Bool.false_or] at this
     have:=waits_listed hcl _ _ this (fun o ho e he hb=>by rw [hoj] at ho;cases ho;exact hall e he hb)
     rw [hun] at this;cases this
   have h2:=wpOp_putIf hoj (hfree j oj hoj hji hjun hnot) (fun cs b=>hsel i oi cs b hi) (fun cs b=>hsel j oj cs b hoj) hQ hy h1
   have hfree':∀ k ok,ops[k]?=some ok->k ≠ i->(L.setIfInBounds j true).getD k true=false ->
     (∀ e ∈ ok.after,Region.binds md e=true->e.on ≠ i)->oi.apart ops ok=true:=by
    intro k ok hk hki hun' hno
    refine hfree k ok hk hki ?_ hno
    by_cases hjk:j=k
    ·subst hjk;exact hjun
    ·rw [getD_set_ne true hjk] at hun';exact hun'
   refine wpOp_mono (fun a' w' h3=>⟨h3.2.1,ih (L.setIfInBounds j true) a' w' (hcl.set hj) hfree' (ready_mono hr (Ne.symm hji)) h3.1 (h3.2.1 hEj) ?_⟩) h2
   rw [Array.setIfInBounds_comm _ _ hji]
   exact h3.2.2
inductive Mix
 | fin (rs:List Nat)
 | one (rs:List Nat) (i:Nat) (k:Mix)
 | two (rs:List Nat) (i j:Nat) (k l:Mix)
def Mix.size:Mix->Nat
 | .fin rs=>rs.length
 | .one rs _ k=>rs.length+(k.size+1)
 | .two rs _ _ k _=>rs.length+(k.size+1)
def opsOf (ops:Array Oper) (rs:List Nat):List Oper:=rs.filterMap fun i=>ops[i]?
def readRun (P:Program) (ops:Array Oper) (C:World->Prop) (w:World):List Nat->(Act->Prop)->Act->Prop
 | [],K,a=>K a
 | i :: r,K,a=>C w/\wpQuiet P ops C K (opsOf ops (i :: r)) a
def mixRun (P:Program) (ops:Array Oper) (Q:Exit->Act->World->Prop) (C:World->Prop) (E:Nat->Bool):Mix->Act->World->Prop
 | .fin rs,a,w=>readRun P ops C w rs (fun a'=>Q .normal a' w) a
 | .one rs i k,a,w=>readRun P ops C w rs (fun a'=>wpOp P ops Q i (fun a'' w''=>(E i=false->C w'')/\mixRun P ops Q C E k a'' w'') a' w) a
 | .two rs i j k l,a,w=>readRun P ops C w rs (fun a'=>wpOp P ops Q i (fun a'' w''=>(E i=false->C w'')/\mixRun P ops Q C E k a'' w'') a' w/\wpOp P ops Q j (fun a'' w''=>(E j=false->C w'')/\mixRun P ops Q C E l a'' w'') a' w) a
def readOk (md:Region.Mode) (ops:Array Oper) (E:Nat->Bool):List Nat->Array Bool->Option (Array Bool)
 | [],L=>some L
 | i :: r,L=>if Region.free md ops L i && (Region.ready md ops L).contains i && lateW md ops E i && !E i && (match ops[i]? with|some o=>isReader o.op|none=>false) then readOk md ops E r (L.setIfInBounds i true) else none
def mixOk (md:Region.Mode) (ops:Array Oper) (E:Nat->Bool):Mix->Array Bool->Bool
 | .fin rs,L=>match readOk md ops E rs L with|some L=>(Region.ready md ops L).isEmpty|none=>false
 | .one rs i k,L=>match readOk md ops E rs L with|some L=>(Region.ready md ops L == [i]) && mixOk md ops E k (L.setIfInBounds i true)|none=>false
 | .two rs i j k l,L=>match readOk md ops E rs L with
  | some L=>(Region.ready md ops L == [i,j]) && mixOk md ops E k (L.setIfInBounds i true) && mixOk md ops E l (L.setIfInBounds j true) && k.size == l.size
  | none=>false
theorem anyG_reads (hs:Region.noSelect ops=true) (hQ:∀ c (d:Option Tmp) v a w,Q (.panic c) (a.put d v) w->Q (.panic c) a w) {n:Nat} {w:World} {K:Act->Prop} :
  ∀ (rs:List Nat) (L L':Array Bool) (a:Act),Closed md ops L->readOk md ops E rs L=some L'->C w->wpQuiet P ops C K (opsOf ops rs) a ->
  (∀ a',Closed md ops L'->K a'->anyG P md ops Q C E n L' a' w)->anyG P md ops Q C E (rs.length+n) L a w
 | [],L,L',a,hcl,h,_,hq,hk=>by
  simp only [readOk,Option.some.injEq] at h
  subst h
  simp only [List.length_nil,Nat.zero_add]
  exact hk a hcl hq
 | i :: r,L,L',a,hcl,h,hc,hq,hk=>by
  cases ho:ops[i]? with
  | none=>simp [readOk,ho] at h
  | some o=>
   simp only [readOk,ho] at h
   by_cases hb:(Region.free md ops L i && (Region.ready md ops L).contains i && lateW md ops E i && !E i && isReader o.op)=true
   ·rw [if_pos hb] at h
    simp only [Bool.and_eq_true,Bool.not_eq_true'] at hb
    obtain ⟨⟨⟨⟨h1,h2⟩,h3⟩,h4⟩,h5⟩:=hb
    have e:opsOf ops (i :: r)=o :: opsOf ops r:=by unfold opsOf;rw [List.filterMap_cons,ho]
    rw [e] at hq
    have hq':qOp P ops C i (wpQuiet P ops C K (opsOf ops r)) a:=by unfold qOp;simp only [ho];exact hq
    obtain ⟨v,hy,hk'⟩:=yieldsIn_of_qOp ho hq'
    rw [List.length_cons,show r.length+1+n=(r.length+n)+1 from by omega]
    exact anyG_firstW ho (Region.noSelect_spec hs) (fun c a w=>hQ c _ _ a w) h3 (r.length+n) L a w hcl (Region.free_spec ho h1) (by simpa using h2) (yieldsIf_of_in h5 hy) hc
     (anyG_reads hs hQ r _ L' _ (hcl.set (by simpa using h2)) h hc hk' hk)
   ·rw [if_neg hb] at h;cases h
theorem anyG_readRun (hs:Region.noSelect ops=true) (hQ:∀ c (d:Option Tmp) v a w,Q (.panic c) (a.put d v) w->Q (.panic c) a w) {n:Nat} {w:World} {K:Act->Prop} (rs:List Nat) (L L':Array Bool) (a:Act) (hcl:Closed md ops L)
  (h:readOk md ops E rs L=some L') (hq:readRun P ops C w rs K a) (hk:∀ a',Closed md ops L'->K a'->anyG P md ops Q C E n L' a' w):anyG P md ops Q C E (rs.length+n) L a w:=by
 cases rs with
 | nil=>
  simp only [readOk,Option.some.injEq] at h
  subst h
  simp only [List.length_nil,Nat.zero_add]
  exact hk a hcl hq
 | cons i r=>exact anyG_reads hs hQ (i :: r) L L' a hcl h hq.1 hq.2 hk
theorem anyG_of_mix (hs:Region.noSelect ops=true) (hQ:∀ c (d:Option Tmp) v a w,Q (.panic c) (a.put d v) w->Q (.panic c) a w) :
  ∀ (t:Mix) (L:Array Bool) (a:Act) (w:World),Closed md ops L->mixOk md ops E t L=true->mixRun P ops Q C E t a w->anyG P md ops Q C E t.size L a w
 | .fin rs,L,a,w,hcl,h,k=>by
  simp only [mixOk] at h
  cases hr:readOk md ops E rs L with
  | none=>rw [hr] at h;cases h
  | some L'=>
   rw [hr] at h
   have:=anyG_readRun (n:=0) hs hQ rs L L' a hcl hr k (fun a' hcl' hq=>⟨List.isEmpty_iff.1 h,hq⟩)
   simpa [Mix.size] using this
 | .one rs i t,L,a,w,hcl,h,k=>by
  simp only [mixOk] at h
  cases hr:readOk md ops E rs L with
  | none=>rw [hr] at h;cases h
  | some L'=>
   rw [hr] at h
   simp only [Bool.and_eq_true,beq_iff_eq] at h
   refine anyG_readRun (n:=t.size+1) hs hQ rs L L' a hcl hr k (fun a' hcl' hq=>⟨fun e=>?_,fun j hj=>?_⟩)
   ·rw [h.1] at e;cases e
   ·rw [h.1,List.mem_singleton] at hj
    subst hj
    exact wpOp_mono (fun a'' w'' h3=>⟨h3.1,anyG_of_mix hs hQ t _ _ _ (hcl'.set (by rw [h.1];simp)) h.2 h3.2⟩) hq
 | .two rs i j t l,L,a,w,hcl,h,k=>by
  simp only [mixOk] at h
  cases hr:readOk md ops E rs L with
  | none=>rw [hr] at h;cases h
  | some L'=>
   rw [hr] at h
   simp only [Bool.and_eq_true,beq_iff_eq] at h
   obtain ⟨⟨⟨h1,h2⟩,h3⟩,h4⟩:=h
   refine anyG_readRun (n:=t.size+1) hs hQ rs L L' a hcl hr k (fun a' hcl' hq=>⟨fun e=>?_,fun m hm=>?_⟩)
   ·rw [h1] at e;cases e
   ·rw [h1] at hm
    simp only [List.mem_cons,List.not_mem_nil,or_false] at hm
    rcases hm with rfl|rfl
    ·exact wpOp_mono (fun a'' w'' h5=>⟨h5.1,anyG_of_mix hs hQ t _ _ _ (hcl'.set (by rw [h1];simp)) h2 h5.2⟩) hq.1
    ·exact wpOp_mono (fun a'' w'' h5=>⟨h5.1,by rw [h4];exact anyG_of_mix hs hQ l _ _ _ (hcl'.set (by rw [h1];simp)) h3 h5.2⟩) hq.2
theorem wp_region_mix {id:Nat} {a:Act} {w:World} {l:List Oper} (t:Mix) (E:Nat->Bool) (hm:P.follows .mixedOrders=true) (hs:Region.noSelect l.toArray=true)
  (hl:t.size=l.length) (hok:mixOk .any l.toArray E t (Array.replicate l.length false)=true)
  (hQ:∀ c (d:Option Tmp) v a w,Q (.panic c) (a.put d v) w->Q (.panic c) a w)
  (h:mixRun P l.toArray Q (fun w'=>∃ x,w'=ext w x) E t a w.drew):(Code.region id l.toArray true).wp P Q a w:=by
 refine wp_region_any hm (any_of_G (H:=fun w'=>∃ x,w'=ext w x) (E:=E) _ _ _ _ ?_)
 have:=anyG_of_mix (md:=.any) (C:=fun w'=>∃ x,w'=ext w x) (Q:=Q) (E:=E) hs hQ t (Array.replicate l.length false) a w.drew (Closed.start _) hok h
 rw [hl] at this
 simpa using this
theorem mix_step {i:Nat} {o:Oper} {a:Act} {w:World} {K:Act->World->Prop} (ho:ops[i]?=some o) (h:wpList P ops (stepQ K Q) [o] a w):wpOp P ops Q i K a w:=by
 rw [wpOp_some ho]
 simp only [wpList] at h
 by_cases hw:Region.wanted o (yielded ops a.tmps)=true
 ·rw [if_pos hw] at h ⊢
  rcases h with h|⟨h1,h2⟩
  ·exact .inl (wp_stepQ h)
  ·exact .inr ⟨h1,h2⟩
 ·rw [if_neg hw] at h ⊢
  exact h
theorem mix_reads {i:Nat} {r:List Nat} {l:List Oper} {w:World} {K:Act->Prop} {a:Act} (e:opsOf ops (i :: r)=l) (hc:C w) (h:wpQuiet P ops C K l a):readRun P ops C w (i :: r) K a:=⟨hc,by rw [e];exact h⟩
theorem mix_one {i j:Nat} {r:List Nat} {k:Mix} {l:List Oper} {w:World} {a:Act} (e:opsOf ops (i :: r)=l) (hc:C w)
  (h:wpQuiet P ops C (fun a'=>wpOp P ops Q j (fun a'' w''=>(E j=false->C w'')/\mixRun P ops Q C E k a'' w'') a' w) l a):mixRun P ops Q C E (.one (i :: r) j k) a w:=mix_reads e hc h
theorem mix_now {j:Nat} {k:Mix} {w:World} {a:Act}
  (h:wpOp P ops Q j (fun a'' w''=>(E j=false->C w'')/\mixRun P ops Q C E k a'' w'') a w):mixRun P ops Q C E (.one [] j k) a w:=h
theorem mix_fin {i:Nat} {r:List Nat} {l:List Oper} {w:World} {a:Act} (e:opsOf ops (i :: r)=l) (hc:C w)
  (h:wpQuiet P ops C (fun a'=>Q .normal a' w) l a):mixRun P ops Q C E (.fin (i :: r)) a w:=mix_reads e hc h
end
end Go.Proofs.YtgllkgedjplpdaaGreatDoor
