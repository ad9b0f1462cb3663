/- A drawn region whose first operations read, whose next ones look at no memory (and may be taken beside stores), and whose rest goes by segments. -/
import Derived.Test.YtgllkgedjplpdaaGreatDoorMixK
set_option linter.all false
set_option maxRecDepth 1000000
set_option maxHeartbeats 12800000
namespace Go.Proofs.YtgllkgedjplpdaaGreatDoor
open Go.ChangeShapes Go.WideShapes Go.ChangeAt Go.RowKit
def anyW (_w x:World):World:=x
section
variable {P:Program} {ops:Array Oper} {Q:Exit->Act->World->Prop} {md:Region.Mode} {C:World->Prop} {E:Nat->Bool}
def anyH (P:Program) (md:Region.Mode) (ops:Array Oper) (Q:Exit->Act->World->Prop) (C:World->Prop) (E:Nat->Bool):Nat->Array Bool->Act->World->Prop
 | 0,L,a,w=>Region.ready md ops L=[]/\Q .normal a w
 | n+1,L,a,w=>(Region.ready md ops L=[]->Q .normal a w) /\
   ∀ i ∈ Region.ready md ops L,wpOp P ops Q i (fun a' w'=>(E i=false->C w->C w')/\anyH P md ops Q C E n (L.setIfInBounds i true) a' w') a w
theorem any_of_H:∀ (n:Nat) (L:Array Bool) (a:Act) (w:World),anyH P md ops Q C E n L a w->wpAny P md ops Q n L a w
 | 0,_,_,_,h=>h
 | n+1,_,_,_,h=>⟨h.1,fun i hi=>wpOp_mono (fun a' w' k=>any_of_H n _ a' w' k.2) (h.2 i hi)⟩
theorem anyH_of_G:∀ (n:Nat) (L:Array Bool) (a:Act) (w:World),anyG P md ops Q C E n L a w->anyH P md ops Q C E n L a w
 | 0,_,_,_,h=>h
 | n+1,_,_,_,h=>⟨h.1,fun i hi=>wpOp_mono (fun a' w' k=>⟨fun e _=>k.1 e,anyH_of_G n _ a' w' k.2⟩) (h.2 i hi)⟩
theorem anyH_first {i:Nat} {oi:Oper} {v:Value} {C0:World->Prop} (hi:ops[i]?=some oi) (hsel:∀ (j:Nat) (o:Oper) cs b,ops[j]?=some o->o.op ≠ .select cs b)
  (hQ:∀ c a w,Q (.panic c) (a.put oi.dst v) w->Q (.panic c) a w) (hlate:(∀ w,C0 w) \/ (lateW md ops E i=true/\C0=C)) :
  ∀ (n:Nat) (L:Array Bool) (a:Act) (w:World),Closed md ops L ->
   (∀ j oj,ops[j]?=some oj->j ≠ i->L.getD j true=false->(∀ e ∈ oj.after,Region.binds md e=true->e.on ≠ i)->oi.apart ops oj=true) ->
   i ∈ Region.ready md ops L->YieldsIf P ops C0 oi v a->C0 w ->
   anyH P md ops Q C E n (L.setIfInBounds i true) (a.put oi.dst v) w->anyH P md ops Q C E (n+1) L a w:=by
 intro n
 induction n with
 | zero=>
  intro L a w _ _ hr hy hS K
  refine ⟨fun h=>(by rw [h] at hr;cases hr),fun j hj=>?_⟩
  by_cases hji:j=i
  ·subst hji;exact hy.wpOp hi hS ⟨fun _ k=>k,K⟩
  ·have:=ready_mono hj hji
   rw [K.1] at this
   cases this
 | succ n ih=>
  intro L a w hcl hfree hr hy hS K
  refine ⟨fun h=>(by rw [h] at hr;cases hr),fun j hj=>?_⟩
  by_cases hji:j=i
  ·subst hji;exact hy.wpOp hi hS ⟨fun _ k=>k,K⟩
  ·have h1:=K.2 j (ready_mono hj hji)
   obtain ⟨hjun,oj,hoj,hall⟩:=mem_ready.1 hj
   have g0:=(mem_ready.1 hr).1
   have hun:L.getD i false=false:=by
    rcases Nat.lt_or_ge i L.size with h'|h'
    ·simp [h'] at g0 ⊢;exact g0
    ·simp [Array.getElem?_eq_none h']
   have hnot:∀ e ∈ oj.after,Region.binds md e=true->e.on ≠ i:=by
    intro e he hb heq
    have g1:=hall e he hb
    rw [heq,hun] at g1
    cases g1
   have hEj:lateW md ops E i=true->E j=false:=fun hl=>by
    cases h:E j
    ·rfl
    ·have hlt:j<ops.size:=(aE hoj).1
     have:=List.all_eq_true.1 hl j (by simpa using hlt)
     rw [h] at this
     simp only [Bool.not_true,Bool.false_or] at this
     have:=waits_listed hcl _ _ this (fun o ho e he hb=>by rw [hoj] at ho;cases ho;exact hall e he hb)
     rw [hun] at this;cases this
   have h2:=wpOp_putIf hoj (hfree j oj hoj hji hjun hnot) (fun cs b=>hsel i oi cs b hi) (fun cs b=>hsel j oj cs b hoj) hQ hy h1
   have hfree':∀ k ok,ops[k]?=some ok->k ≠ i->(L.setIfInBounds j true).getD k true=false ->
     (∀ e ∈ ok.after,Region.binds md e=true->e.on ≠ i)->oi.apart ops ok=true:=by
    intro k ok hk hki hun' hno
    refine hfree k ok hk hki ?_ hno
    by_cases hjk:j=k
    ·subst hjk;exact hjun
    ·rw [getD_set_ne true hjk] at hun';exact hun'
   refine wpOp_mono (fun a' w' h3=>⟨h3.2.1,ih (L.setIfInBounds j true) a' w' (hcl.set hj) hfree' (ready_mono hr (Ne.symm hji)) h3.1 ?_ ?_⟩) h2
   ·rcases hlate with h0|⟨hl,rfl⟩
    ·exact h0 w'
    ·exact h3.2.1 (hEj hl) hS
   ·rw [Array.setIfInBounds_comm _ _ hji]
    exact h3.2.2
def pureOk (md:Region.Mode) (ops:Array Oper):List Nat->Array Bool->Option (Array Bool)
 | [],L=>some L
 | i :: r,L=>if Region.free md ops L i && (Region.ready md ops L).contains i && (match ops[i]? with|some o=>isReader o.op|none=>false) then pureOk md ops r (L.setIfInBounds i true) else none
theorem anyH_pures (hs:Region.noSelect ops=true) (hQ:∀ c (d:Option Tmp) v a w,Q (.panic c) (a.put d v) w->Q (.panic c) a w) {n:Nat} {w:World} {K:Act->Prop} {C0:World->Prop} (h0:∀ w,C0 w) :
  ∀ (rs:List Nat) (L L':Array Bool) (a:Act),Closed md ops L->pureOk md ops rs L=some L'->wpQuiet P ops C0 K (opsOf ops rs) a ->
  (∀ a',Closed md ops L'->K a'->anyH P md ops Q C E n L' a' w)->anyH P md ops Q C E (rs.length+n) L a w
 | [],L,L',a,hcl,h,hq,hk=>by
  simp only [pureOk,Option.some.injEq] at h
  subst h
  simp only [List.length_nil,Nat.zero_add]
  exact hk a hcl hq
 | i :: r,L,L',a,hcl,h,hq,hk=>by
  cases ho:ops[i]? with
  | none=>simp [pureOk,ho] at h
  | some o=>
   simp only [pureOk,ho] at h
   by_cases hb:(Region.free md ops L i && (Region.ready md ops L).contains i && isReader o.op)=true
   ·rw [if_pos hb] at h
    simp only [Bool.and_eq_true] at hb
    obtain ⟨⟨h1,h2⟩,h5⟩:=hb
    have e:opsOf ops (i :: r)=o :: opsOf ops r:=by unfold opsOf;rw [List.filterMap_cons,ho]
    rw [e] at hq
    have hq':qOp P ops C0 i (wpQuiet P ops C0 K (opsOf ops r)) a:=by unfold qOp;simp only [ho];exact hq
    obtain ⟨v,hy,hk'⟩:=yieldsIn_of_qOp ho hq'
    rw [List.length_cons,show r.length+1+n=(r.length+n)+1 from by omega]
    exact anyH_first ho (Region.noSelect_spec hs) (fun c a w=>hQ c _ _ a w) (.inl h0) (r.length+n) L a w hcl (Region.free_spec ho h1) (by simpa using h2) (yieldsIf_of_in h5 hy) (h0 w)
     (anyH_pures hs hQ h0 r _ L' _ (hcl.set (by simpa using h2)) h hk' hk)
   ·rw [if_neg hb] at h;cases h
theorem anyH_reads (hs:Region.noSelect ops=true) (hQ:∀ c (d:Option Tmp) v a w,Q (.panic c) (a.put d v) w->Q (.panic c) a w) {n:Nat} {w:World} {K:Act->Prop} (hc:C w) :
  ∀ (rs:List Nat) (L L':Array Bool) (a:Act),Closed md ops L->readOk md ops E rs L=some L'->wpQuiet P ops C K (opsOf ops rs) a ->
  (∀ a',Closed md ops L'->K a'->anyH P md ops Q C E n L' a' w)->anyH P md ops Q C E (rs.length+n) L a w
 | [],L,L',a,hcl,h,hq,hk=>by
  simp only [readOk,Option.some.injEq] at h
  subst h
  simp only [List.length_nil,Nat.zero_add]
  exact hk a hcl hq
 | i :: r,L,L',a,hcl,h,hq,hk=>by
  cases ho:ops[i]? with
  | none=>simp [readOk,ho] at h
  | some o=>
   simp only [readOk,ho] at h
   by_cases hb:(Region.free md ops L i && (Region.ready md ops L).contains i && lateW md ops E i && !E i && isReader o.op)=true
   ·rw [if_pos hb] at h
    simp only [Bool.and_eq_true,Bool.not_eq_true'] at hb
    obtain ⟨⟨⟨⟨h1,h2⟩,h3⟩,h4⟩,h5⟩:=hb
    have e:opsOf ops (i :: r)=o :: opsOf ops r:=by unfold opsOf;rw [List.filterMap_cons,ho]
    rw [e] at hq
    have hq':qOp P ops C i (wpQuiet P ops C K (opsOf ops r)) a:=by unfold qOp;simp only [ho];exact hq
    obtain ⟨v,hy,hk'⟩:=yieldsIn_of_qOp ho hq'
    rw [List.length_cons,show r.length+1+n=(r.length+n)+1 from by omega]
    exact anyH_first ho (Region.noSelect_spec hs) (fun c a w=>hQ c _ _ a w) (.inr ⟨h3,rfl⟩) (r.length+n) L a w hcl (Region.free_spec ho h1) (by simpa using h2) (yieldsIf_of_in h5 hy) hc
     (anyH_reads hs hQ hc r _ L' _ (hcl.set (by simpa using h2)) h hk' hk)
   ·rw [if_neg hb] at h;cases h
end
theorem wp_region_pure {P:Program} {Q:Exit->Act->World->Prop} (S:List Nat) {id:Nat} {a:Act} {w:World} {l:List Oper} (rs ps:List Nat) (t:Mix) (E:Nat->Bool) (hm:P.follows .mixedOrders=true) (hs:Region.noSelect l.toArray=true)
  (hl:rs.length+(ps.length+t.size)=l.length) (hok:(match readOk .any l.toArray E rs (Array.replicate l.length false) with|some L=>(match pureOk .any l.toArray ps L with|some L'=>mixOk .any l.toArray E t L'|none=>false)|none=>false)=true)
  (hQ:∀ c (d:Option Tmp) v a w,Q (.panic c) (a.put d v) w->Q (.panic c) a w)
  (h:wpQuiet P l.toArray (fun w'=>∃ x,w'=keepS w S x) (fun a'=>wpQuiet P l.toArray (fun w'=>∃ x,w'=anyW w x) (fun a''=>mixRun P l.toArray Q (fun w'=>∃ x,w'=keepS w S x) E t a'' w.drew) (opsOf l.toArray ps) a') (opsOf l.toArray rs) a):(Code.region id l.toArray true).wp P Q a w:=by
 refine wp_region_any hm (any_of_H (C:=fun w'=>∃ x,w'=keepS w S x) (E:=E) _ _ _ _ ?_)
 cases hr:readOk .any l.toArray E rs (Array.replicate l.length false) with
 | none=>rw [hr] at hok;cases hok
 | some L=>
  rw [hr] at hok
  simp only at hok
  cases hp:pureOk .any l.toArray ps L with
  | none=>rw [hp] at hok;cases hok
  | some L'=>
   rw [hp] at hok
   simp only at hok
   have:=anyH_reads (md:=.any) (C:=fun w'=>∃ x,w'=keepS w S x) (Q:=Q) (E:=E) (n:=ps.length+t.size) (w:=w.drew) hs hQ ⟨w.drew,keepS_of (fun _ _=>rfl)⟩ rs (Array.replicate l.length false) L a (Closed.start _) hr h
    (fun a' hcl hq=>anyH_pures (md:=.any) (C:=fun w'=>∃ x,w'=keepS w S x) (Q:=Q) (E:=E) (n:=t.size) (C0:=fun w'=>∃ x,w'=anyW w x) hs hQ (fun x=>⟨x,rfl⟩) ps L L' a' hcl hp hq
      (fun a'' hcl' hq'=>anyH_of_G _ _ _ _ (anyG_of_mix (md:=.any) hs hQ t L' a'' w.drew hcl' hok hq')))
   rw [hl] at this
   simpa using this
theorem pure_walk {P:Program} {ops:Array Oper} {C C0:World->Prop} {K:Act->Prop} {rs ps:List Nat} {l1 l2:List Oper} {a:Act} (e1:opsOf ops rs=l1) (e2:opsOf ops ps=l2) (h:wpQuiet P ops C (fun a'=>wpQuiet P ops C0 K l2 a') l1 a) :
  wpQuiet P ops C (fun a'=>wpQuiet P ops C0 K (opsOf ops ps) a') (opsOf ops rs) a:=by rw [e1,e2];exact h
open Go.ChangeShapes Go.WideShapes Go.ChangeAt Go.RowKit
section
variable {P:Program} {ops:Array Oper} {Q:Exit->Act->World->Prop} {md:Region.Mode} {C C0:World->Prop} {E:Nat->Bool}
end
end Go.Proofs.YtgllkgedjplpdaaGreatDoor
