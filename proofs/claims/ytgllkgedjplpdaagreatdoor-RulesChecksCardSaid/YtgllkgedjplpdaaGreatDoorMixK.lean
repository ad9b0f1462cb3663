/- A region that draws its order and holds makers: operations that make memory and come up in whatever order; each hands back a value of which something is shown that new memory does not undo. -/
import Derived.Test.YtgllkgedjplpdaaGreatDoorMix
set_option linter.all false
set_option maxRecDepth 1000000
set_option maxHeartbeats 12800000
namespace Go.Proofs.YtgllkgedjplpdaaGreatDoor
open Go.ChangeShapes Go.WideShapes Go.ChangeAt Go.RowKit
def tailOf:List Nat->Mix
 | []=>.fin []
 | i :: l=>.one [] i (tailOf l)
structure Maker where
 j:Nat
 dst:Option Tmp
 need:List (Nat × Option Tmp)
abbrev Vals:=Nat->Option (Value × Nat × Nat)
def pv (val:Vals):List (Nat × Option Tmp)->Act->Act
 | [],a=>a
 | p :: l,a=>pv val l (match val p.1 with|some x=>a.put p.2 x.1|none=>a)
theorem nodup_dst:∀ (l:List Maker),(l.map Maker.dst).Nodup->∀ m ∈ l,∀ m' ∈ l,m.dst=m'.dst->m=m'
 | [],_,m,hm,_,_,_=>by cases hm
 | x :: l,h,m,hm,m',hm',e=>by
  simp only [List.map_cons,List.nodup_cons] at h
  rcases List.mem_cons.1 hm with rfl|h1 <;> rcases List.mem_cons.1 hm' with rfl|h2
  ·rfl
  ·exact absurd (by rw [e];exact List.mem_map_of_mem h2) h.1
  ·exact absurd (by rw [<- e];exact List.mem_map_of_mem h1) h.1
  ·exact nodup_dst l h.2 m h1 m' h2 e
def Maker.pr (m:Maker):Nat × Option Tmp:=(m.j,m.dst)
theorem pv_put {val:Vals} {d:Option Tmp} {v:Value}:∀ (l:List (Nat × Option Tmp)) (a:Act),(∀ p ∈ l,∀ t,d=some t->p.2 ≠ some t)->pv val l (a.put d v)=(pv val l a).put d v
 | [],_,_=>rfl
 | p :: l,a,h=>by
  simp only [pv]
  cases hx:val p.1 with
  | none=>exact pv_put l a (fun q hq=>h q (List.mem_cons_of_mem _ hq))
  | some x=>
   simp only
   rw [Act.put_comm a v x.1 (fun t ht=>h p List.mem_cons_self t ht)]
   exact pv_put l _ (fun q hq=>h q (List.mem_cons_of_mem _ hq))
theorem pv_congr {val val':Vals}:∀ (l:List (Nat × Option Tmp)) (a:Act),(∀ p ∈ l,val p.1=val' p.1)->pv val l a=pv val' l a
 | [],_,_=>rfl
 | p :: l,a,h=>by
  simp only [pv]
  rw [h p List.mem_cons_self]
  exact pv_congr l _ (fun q hq=>h q (List.mem_cons_of_mem _ hq))
theorem pv_insert {val:Vals} {j:Nat} {d:Option Tmp} {x:Value × Nat × Nat}:∀ (l:List (Nat × Option Tmp)) (a:Act),(l.map Prod.fst).Nodup->(∀ p ∈ l,p.1 ≠ j->∀ t,d=some t->p.2 ≠ some t)->(j,d) ∈ l->val j=none ->
  pv (fun i=>if i=j then some x else val i) l a=(pv val l a).put d x.1
 | [],_,_,_,h,_=>by cases h
 | p :: l,a,hn,hd,hm,hv=>by
  simp only [List.map_cons,List.nodup_cons] at hn
  simp only [pv]
  by_cases hp:p.1=j
  ·have hnot:∀ q ∈ l,q.1 ≠ j:=fun q hq e=>hn.1 (by rw [hp,<- e];exact List.mem_map_of_mem hq)
   have hpe:p.2=d:=by
    rcases List.mem_cons.1 hm with h|h
    ·rw [<- h]
    ·exact absurd rfl (hnot _ h)
   rw [if_pos hp,hp,hv,hpe]
   simp only
   rw [pv_congr (val':=val) l _ (fun q hq=>if_neg (hnot q hq))]
   exact pv_put l a (fun q hq=>hd q (List.mem_cons_of_mem _ hq) (hnot q hq))
  ·rw [if_neg hp]
   refine pv_insert l _ hn.2 (fun q hq=>hd q (List.mem_cons_of_mem _ hq)) ?_ hv
   rcases List.mem_cons.1 hm with h|h
   ·rw [<- h] at hp;exact absurd rfl hp
   ·exact h
theorem pv_size {val:Vals}:∀ (l:List (Nat × Option Tmp)) (a:Act),(pv val l a).tmps.size=a.tmps.size
 | [],_=>rfl
 | p :: l,a=>by
  simp only [pv]
  rw [pv_size l]
  cases val p.1 with
  | none=>rfl
  | some x=>cases p.2 <;> simp [Act.put]
theorem pv_eval {val:Vals} {t:Tmp}:∀ (l:List (Nat × Option Tmp)) (a b:Act),a.tmps.size=b.tmps.size->a.eval (.tmp t)=b.eval (.tmp t)->(pv val l a).eval (.tmp t)=(pv val (l.filter fun p=>p.2 == some t) b).eval (.tmp t)
 | [],_,_,_,h=>h
 | p :: l,a,b,hs,h=>by
  simp only [pv,List.filter_cons]
  by_cases hp:(p.2 == some t)=true
  ·rw [if_pos hp]
   simp only [pv]
   have hp':p.2=some t:=by simpa using hp
   cases hx:val p.1 with
   | none=>exact pv_eval l _ _ hs h
   | some x=>
    refine pv_eval l _ _ ?_ ?_
    ·rw [hp'];simp [Act.put,hs]
    ·rw [hp']
     simp only [Act.put,Act.eval,Array.getD_eq_getD_getElem?,Array.getElem?_setIfInBounds]
     simp [hs]
  ·rw [if_neg hp]
   have hp':p.2 ≠ some t:=by simpa using hp
   cases hx:val p.1 with
   | none=>exact pv_eval l _ _ hs h
   | some x=>
    refine pv_eval l _ _ ?_ ?_
    ·rw [<- hs];cases p.2 <;> simp [Act.put]
    ·rw [<- h]
     exact Act.eval_put fun d hd hxd=>hp' (by rw [hd];cases hxd;rfl)
theorem pv_need {val:Vals} {M need:List (Nat × Option Tmp)} {a:Act} {x:Operand} (h:∀ t,x=.tmp t->(M.filter fun p=>p.2 == some t)=need.filter fun p=>p.2 == some t):(pv val M a).eval x=(pv val need a).eval x:=by
 cases x with
 | tmp t=>rw [pv_eval M a a rfl rfl,pv_eval need a a rfl rfl,h t rfl]
 | _=>rfl
section
variable {P:Program} {ops:Array Oper} {Q:Exit->Act->World->Prop} {md:Region.Mode} {C:World->Prop} {E:Nat->Bool}
theorem put_same {a a1:Act} {dst:Option Tmp} {u v:Value} (hs:a.tmps.size=a1.tmps.size) (h:a1.put dst u=a1.put dst v):a.put dst u=a.put dst v:=by
 cases dst with
 | none=>rfl
 | some d=>
  simp only [Act.put,Act.mk.injEq,and_true] at h ⊢
  by_cases hd:d<a1.tmps.size
  ·have e:=congrArg (fun x:Array Value=>x[d]?) h
   simp [hd] at e
   rw [e]
  ·have ha:¬ d<a.tmps.size:=by rw [hs];exact hd
   simp [Array.setIfInBounds,ha]
def plainOp:Op->Bool
 | .select _ _|.defer _=>false
 | _=>true
theorem wpOp_moved {j:Nat} {o:Oper} {a a1:Act} {w:World} {R:Value->World->Prop} (ho:ops[j]?=some o) (hg:o.guard=none) (hp:plainOp o.op=true) (hs:a.tmps.size=a1.tmps.size)
  (hx:∀ x ∈ o.op.operands,a.eval x=a1.eval x) (h:wpOp P ops (fun _ _ _=>False) j (fun a' w'=>∃ v,a'=a1.put o.dst v/\R v w') a1 w) :
  wpOp P ops Q j (fun a' w'=>∃ v,a'=a.put o.dst v/\R v w') a w:=by
 have hsel:∀ cs b,o.op ≠ .select cs b:=fun cs b e=>by rw [e] at hp;cases hp
 have hw:∀ b:Act,Region.wanted o (yielded ops b.tmps)=true:=fun b=>by unfold Region.wanted;rw [hg]
 unfold wpOp at *
 simp only [ho,hw,if_true] at *
 rcases h with h|⟨_,_,_,h⟩
 case inr=>exact h.elim
 refine .inl ?_
 unfold Oper.wp at *
 rw [execOp_congr o hsel hx]
 generalize (execOp a1.eval o).run P w=r at *
 have go:∀ u w',(∃ v,a1.put o.dst u=a1.put o.dst v/\R v w')->∃ v,a.put o.dst u=a.put o.dst v/\R v w':=fun u w' ⟨v,e,hr⟩=>⟨v,put_same hs e,hr⟩
 cases r with
 | ok n w'=>
  cases n <;> simp only [Oper.upon] at h ⊢
  case value u=>exact go _ _ h
  case skip=>exact go _ _ h
  case defer d=>
   obtain ⟨v,e,hr⟩:=h
   have:=congrArg (fun x:Act=>x.defers.length) e
   cases ho:o.dst <;> rw [ho] at this <;> simp [Act.put] at this
  case enter f args=>
   refine Calls.mono h fun e w'' he=>?_
   cases e with
   | returned u=>exact go _ _ he
   | panicked c=>exact he.elim
   | outgrown=>obtain ⟨_,_,he⟩:=he;exact he.elim
  case row row args=>exact Rows.mono h fun u w'' he=>go _ _ he
 | halt x w'=>cases x <;> simp only [Oper.upon] at h ⊢
theorem mix_tail:∀ (l:List Nat) (os:List Oper) (a:Act) (w:World),l.map (fun i=>ops[i]?)=os.map some->l.all E=true->wpList P ops Q os a w->mixRun P ops Q C E (tailOf l) a w
 | [],[],_,_,_,_,h=>h
 | [],_ :: _,_,_,h,_,_=>by cases h
 | _ :: _,[],_,_,h,_,_=>by cases h
 | i :: l,o :: os,a,w,h,hE,hw=>by
  simp only [List.map_cons,List.cons.injEq] at h
  simp only [List.all_cons,Bool.and_eq_true] at hE
  have hk:∀ a' w',wpList P ops Q os a' w'->(E i=false->C w')/\mixRun P ops Q C E (tailOf l) a' w':=by
   intro a' w' h3
   exact ⟨fun e=>(by rw [hE.1] at e;cases e),mix_tail l os a' w' h.2 hE.2 h3⟩
  have h0:wpOp P ops Q i (wpList P ops Q os) a w:=by rw [wpOp_some h.1];exact hw
  exact mix_now (wpOp_mono hk h0)
abbrev Said:=Nat->Value->World->Nat->Nat->Prop
def stepOk (P:Program) (ops:Array Oper) (Y:Said) (w0:World) (a0:Act) (m:Maker):Prop:=
 ∀ (vs:Nat->Value × Nat × Nat) (w:World),Below w0.heap.size w0 w->(∀ p ∈ m.need,Y p.1 (vs p.1).1 w (vs p.1).2.1 (vs p.1).2.2) ->
  wpOp P ops (fun _ _ _=>False) m.j (fun a' w'=>∃ v,a'=(pv (fun i=>some (vs i)) m.need a0).put m.dst v/\Below w.heap.size w w'/\Y m.j v w' w.heap.size w'.heap.size) (pv (fun i=>some (vs i)) m.need a0) w
def stepsOk (P:Program) (ops:Array Oper) (Y:Said) (w0:World) (a0:Act):List Maker->Prop
 | []=>True
 | m :: l=>stepOk P ops Y w0 a0 m/\stepsOk P ops Y w0 a0 l
theorem stepsOk_mem {Y:Said} {w0:World} {a0:Act}:∀ {l:List Maker},stepsOk P ops Y w0 a0 l->∀ m ∈ l,stepOk P ops Y w0 a0 m
 | [],_,m,hm=>by cases hm
 | x :: l,h,m,hm=>by
  rcases List.mem_cons.1 hm with rfl|hm
  ·exact h.1
  ·exact stepsOk_mem h.2 m hm
def topoOk (md:Region.Mode) (ops:Array Oper):List Maker->Array Bool->Bool
 | [],_=>true
 | m :: l,L=>(Region.ready md ops L).contains m.j && topoOk md ops l (L.setIfInBounds m.j true)
def makersL (M:List Maker) (L:Array Bool):Array Bool:=M.foldl (fun L m=>L.setIfInBounds m.j true) L
def makerOk (md:Region.Mode) (ops:Array Oper) (M:List Maker) (m:Maker):Bool:=match ops[m.j]? with
 | some o=>o.guard.isNone && (o.dst == m.dst) && plainOp o.op && m.dst.isSome &&
   (m.need.all fun p=>waitsB md ops ops.size m.j p.1 && (M.map Maker.pr).contains p) &&
   (o.op.operands.toList.all fun x=>match x with|.tmp t=>((M.map Maker.pr).filter fun p=>p.2 == some t) == (m.need.filter fun p=>p.2 == some t)|_=>true)
 | none=>false
def ownOk (md:Region.Mode) (ops:Array Oper) (E:Nat->Bool) (M:List Maker) (T:List Nat) (L0:Array Bool):Bool:=
 decide ((M.map Maker.j).Nodup) && decide ((M.map Maker.dst).Nodup) && (M.all (makerOk md ops M)) && (M.all fun m=>!L0.getD m.j true) &&
 ((List.range ops.size).all fun i=>L0.getD i false || (M.map Maker.j).contains i || T.contains i) && topoOk md ops M L0 &&
 (T.all fun t=>M.all fun m=>waitsB md ops ops.size t m.j) && mixOk md ops E (tailOf T) (makersL M L0) && (L0.size == ops.size)
theorem makersL_get {M:List Maker}:∀ {L:Array Bool} {i:Nat},(∀ m ∈ M,m.j<L.size)->((makersL M L).getD i false=true ↔ L.getD i false=true \/ i ∈ M.map Maker.j)/\(makersL M L).size=L.size:=by
 induction M with
 | nil=>intro L i _;simp [makersL]
 | cons m l ih=>
  intro L i h
  have h0:=h m List.mem_cons_self
  have:=ih (L:=L.setIfInBounds m.j true) (i:=i) (fun q hq=>by rw [Array.size_setIfInBounds];exact h q (List.mem_cons_of_mem _ hq))
  have e:makersL (m :: l) L=makersL l (L.setIfInBounds m.j true):=rfl
  rw [e]
  refine ⟨this.1.trans ?_,by rw [this.2,Array.size_setIfInBounds]⟩
  simp only [Array.getD_eq_getD_getElem?,Array.getElem?_setIfInBounds,List.map_cons,List.mem_cons]
  by_cases hi:m.j=i
  ·subst hi
   simp [h0]
  ·simp [hi,Ne.symm hi]
theorem topo_ready {L:Array Bool}:∀ (M:List Maker) (L0:Array Bool),topoOk md ops M L0=true->(∀ i,L0.getD i false=true->L.getD i false=true)->L.size=L0.size->(∃ m ∈ M,L.getD m.j true=false)->Region.ready md ops L ≠ []
 | [],_,_,_,_,h=>by obtain ⟨m,hm,_⟩:=h;cases hm
 | m :: l,L0,ht,hs,hz,h=>by
  simp only [topoOk,Bool.and_eq_true] at ht
  obtain ⟨h1,o,ho,hall⟩:=mem_ready.1 (by simpa using ht.1:m.j ∈ Region.ready md ops L0)
  cases hm:L.getD m.j true with
  | false=>
   have:m.j ∈ Region.ready md ops L:=mem_ready.2 ⟨hm,o,ho,fun e he hb=>hs _ (hall e he hb)⟩
   intro e;rw [e] at this;cases this
  | true=>
   have hlt:m.j<L0.size:=by
    rcases Nat.lt_or_ge m.j L0.size with h'|h'
    ·exact h'
    ·simp [Array.getElem?_eq_none h'] at h1
   have hmf:L.getD m.j false=true:=by
    have:m.j<L.size:=by omega
    simp [this] at hm ⊢;exact hm
   refine topo_ready l _ ht.2 (fun i hi=>?_) (by rw [hz,Array.size_setIfInBounds]) ?_
   ·by_cases e:m.j=i
    ·subst e;exact hmf
    ·rw [getD_set_ne false e] at hi;exact hs i hi
   ·obtain ⟨q,hq,hqf⟩:=h
    rcases List.mem_cons.1 hq with rfl|hq
    ·rw [hm] at hqf;cases hqf
    ·exact ⟨q,hq,hqf⟩
def ownEnd (P:Program) (ops:Array Oper) (Q:Exit->Act->World->Prop) (Y:Said) (w0:World) (a0:Act) (M:List Maker) (os:List Oper):Prop:=
 ∀ (vs:Nat->Value × Nat × Nat) (w:World),Below w0.heap.size w0 w ->
  (∀ m ∈ M,Y m.j (vs m.j).1 w (vs m.j).2.1 (vs m.j).2.2/\w0.heap.size<=(vs m.j).2.1/\(vs m.j).2.1<=(vs m.j).2.2/\(vs m.j).2.2<=w.heap.size) ->
  (∀ m ∈ M,∀ m' ∈ M,m.j ≠ m'.j->(vs m.j).2.2<=(vs m'.j).2.1 \/ (vs m'.j).2.2<=(vs m.j).2.1) ->
  wpList P ops Q os (pv (fun i=>some (vs i)) (M.map Maker.pr) a0) w
theorem anyG_own {M:List Maker} {T:List Nat} {os:List Oper} {Y:Said} {L0:Array Bool} {a0:Act} {w0:World} (hs:Region.noSelect ops=true) (hQ:∀ c (d:Option Tmp) v a w,Q (.panic c) (a.put d v) w->Q (.panic c) a w)
  (hok:ownOk md ops E M T L0=true) (hT:T.all E=true) (hos:T.map (fun i=>ops[i]?)=os.map some) (hC:∀ w',Below w0.heap.size w0 w'->C w')
  (hY:∀ j v w w' lo hi,Y j v w lo hi->Below w.heap.size w w'->Y j v w' lo hi)
  (hst:stepsOk P ops Y w0 a0 M) (hend:ownEnd P ops Q Y w0 a0 M os) :
  ∀ (r:Nat) (L:Array Bool) (val:Vals) (w:World),Closed md ops L->L.size=L0.size->(∀ i,L.getD i false=true ↔ L0.getD i false=true \/ (i ∈ M.map Maker.j/\(val i).isSome=true)) ->
   (M.filter fun m=>(val m.j).isNone).length=r->Below w0.heap.size w0 w ->
   (∀ m ∈ M,∀ x,val m.j=some x->Y m.j x.1 w x.2.1 x.2.2/\w0.heap.size<=x.2.1/\x.2.1<=x.2.2/\x.2.2<=w.heap.size) ->
   (∀ m ∈ M,∀ m' ∈ M,m.j ≠ m'.j->∀ x y,val m.j=some x->val m'.j=some y->x.2.2<=y.2.1 \/ y.2.2<=x.2.1) ->
   anyG P md ops Q C E (r+(tailOf T).size) L (pv val (M.map Maker.pr) a0) w:=by
 unfold ownOk at hok
 simp only [Bool.and_eq_true,decide_eq_true_eq,List.all_eq_true,Bool.not_eq_true',beq_iff_eq] at hok
 obtain ⟨⟨⟨⟨⟨⟨⟨⟨k1,k2⟩,k3⟩,k4⟩,k5⟩,k6⟩,k7⟩,k8⟩,k9⟩:=hok
 have hprj:(M.map Maker.pr).map Prod.fst=M.map Maker.j:=by rw [List.map_map];rfl
 have hdst:∀ m ∈ M,∀ m' ∈ M,m.j ≠ m'.j->∀ t,m.dst=some t->m'.dst ≠ some t:=by
  intro m hm m' hm' hne t ht ht'
  exact hne (by rw [nodup_dst M k2 m hm m' hm' (ht.trans ht'.symm)])
 have hlt:∀ m ∈ M,m.j<L0.size:=by
  intro m hm
  have:=k4 m hm
  rcases Nat.lt_or_ge m.j L0.size with h'|h'
  ·exact h'
  ·simp [Array.getElem?_eq_none h'] at this
 intro r
 induction r with
 | zero=>
  intro L val w hcl hsz hL hr hb hv hd
  rw [Nat.zero_add]
  have hall:∀ m ∈ M,(val m.j).isSome=true:=by
   intro m hm
   have:=List.eq_nil_of_length_eq_zero hr
   rw [List.filter_eq_nil_iff] at this
   have:=this m hm
   cases hx:val m.j with
   | none=>simp [hx] at this
   | some x=>rfl
  have hLe:L=makersL M L0:=by
   have hm:=fun i=>makersL_get (M:=M) (L:=L0) (i:=i) hlt
   refine Array.ext (by rw [hsz,(hm 0).2]) (fun i h1 h2=>?_)
   have e1:=hL i
   have e2:=(hm i).1
   have e3:(i ∈ M.map Maker.j/\(val i).isSome=true) ↔ i ∈ M.map Maker.j:=by
    refine ⟨fun h=>h.1,fun h=>⟨h,?_⟩⟩
    obtain ⟨m,hm,rfl⟩:=List.mem_map.1 h
    exact hall m hm
   rw [e3] at e1
   have:=e1.trans e2.symm
   simp [h1,h2] at this
   exact this
  rw [hLe]
  rw [hLe] at hcl
  refine anyG_of_mix hs hQ (tailOf T) _ _ _ hcl k8 (mix_tail T os _ _ hos hT ?_)
  have:=hend (fun i=>(val i).getD (undef,0,0)) w hb (fun m hm=>?_) (fun m hm m' hm' hne=>?_)
  ·rw [pv_congr (val':=fun i=>some ((val i).getD (undef,0,0))) _ _ (fun p hp=>?_)]
   ·exact this
   ·obtain ⟨m,hm,rfl⟩:=List.mem_map.1 hp
    obtain ⟨x,hx⟩:=Option.isSome_iff_exists.1 (hall m hm)
    show val m.j=some ((val m.j).getD _)
    rw [hx];rfl
  ·obtain ⟨x,hx⟩:=Option.isSome_iff_exists.1 (hall m hm)
   simp only [hx,Option.getD_some]
   exact hv m hm x hx
  ·obtain ⟨x,hx⟩:=Option.isSome_iff_exists.1 (hall m hm)
   obtain ⟨y,hy⟩:=Option.isSome_iff_exists.1 (hall m' hm')
   simp only [hx,hy,Option.getD_some]
   exact hd m hm m' hm' hne x y hx hy
 | succ r ih=>
  intro L val w hcl hsz hL hr hb hv hd
  rw [show r+1+(tailOf T).size=(r+(tailOf T).size)+1 from by omega]
  obtain ⟨mu,hmu,hun⟩:∃ m ∈ M,(val m.j).isNone=true:=by
   have:(M.filter fun m=>(val m.j).isNone) ≠ []:=fun e=>by rw [e] at hr;cases hr
   obtain ⟨m,hm⟩:=List.exists_mem_of_ne_nil _ this
   rw [List.mem_filter] at hm
   exact ⟨m,hm.1,by simpa using hm.2⟩
  have hk4:∀ m ∈ M,L0.getD m.j false=false:=fun m hm=>by
   have h1:=k4 m hm;have h2:=hlt m hm
   simp [h2] at h1 ⊢;exact h1
  have hnl:∀ m ∈ M,(val m.j).isNone=true->L.getD m.j false=false:=by
   intro m hm h
   cases hx:L.getD m.j false with
   | false=>rfl
   | true=>
    rcases (hL m.j).1 hx with h1|h1
    ·rw [hk4 m hm] at h1;cases h1
    ·rw [Option.isNone_iff_eq_none] at h;rw [h] at h1;cases h1.2
  refine ⟨fun e=>absurd e (topo_ready M L0 k6 (fun i hi=>(hL i).2 (.inl hi)) hsz ⟨mu,hmu,?_⟩),fun j hj=>?_⟩
  ·have h1:=hnl mu hmu hun
   have h2:mu.j<L.size:=by rw [hsz];exact hlt mu hmu
   simp [h2] at h1 ⊢;exact h1
  ·obtain ⟨hjun,o,ho,hdeps⟩:=mem_ready.1 hj
   have hjlt:j<ops.size:=(aE ho).1
   have hjf:L.getD j false=false:=by
    have:j<L.size:=by rw [hsz,k9];exact hjlt
    simp [this] at hjun ⊢;exact hjun
   have hwaits:∀ i,waitsB md ops ops.size j i=true->L.getD i false=true:=fun i hi=>waits_listed hcl _ j hi (fun o' ho' e he hb=>by rw [ho] at ho';cases ho';exact hdeps e he hb)
   have hjM:∃ m ∈ M,m.j=j:=by
    have:=k5 j (by simpa using hjlt)
    simp only [Bool.or_eq_true,List.contains_iff_mem] at this
    rcases this with (h|h)|h
    ·rw [(hL j).2 (.inl h)] at hjf;cases hjf
    ·obtain ⟨m,hm,e⟩:=List.mem_map.1 h;exact ⟨m,hm,e⟩
    ·have h1:=hwaits mu.j (k7 j h mu hmu)
     rw [hnl mu hmu hun] at h1;cases h1
   obtain ⟨m,hm,rfl⟩:=hjM
   have hmo:=k3 m hm
   unfold makerOk at hmo
   simp only [ho,Bool.and_eq_true,List.all_eq_true,beq_iff_eq] at hmo
   obtain ⟨⟨⟨⟨⟨g1,g2⟩,g3⟩,g4⟩,g5⟩,g6⟩:=hmo
   have hvn:val m.j=none:=by
    cases hx:val m.j with
    | none=>rfl
    | some x=>
     rw [(hL m.j).2 (.inr ⟨List.mem_map_of_mem hm,by rw [hx];rfl⟩)] at hjf;cases hjf
   have hneed:∀ p ∈ m.need,∃ q ∈ M,p=q.pr/\∃ x,val q.j=some x:=by
    intro p hp
    have h1:=g5 p hp
    simp only [List.contains_iff_mem] at h1
    obtain ⟨q,hq,rfl⟩:=List.mem_map.1 h1.2
    refine ⟨q,hq,rfl,?_⟩
    rcases (hL q.j).1 (hwaits q.j h1.1) with h|h
    ·rw [hk4 q hq] at h;cases h
    ·exact Option.isSome_iff_exists.1 h.2
   have hpvn:pv val m.need a0=pv (fun i=>some ((val i).getD (undef,0,0))) m.need a0:=pv_congr _ _ (fun p hp=>by
    obtain ⟨q,hq,rfl,x,hx⟩:=hneed p hp
    show val q.j=some ((val q.j).getD _)
    rw [hx];rfl)
   have hstep:=stepsOk_mem hst m hm (fun i=>(val i).getD (undef,0,0)) w hb (fun p hp=>by
    obtain ⟨q,hq,rfl,x,hx⟩:=hneed p hp
    simp only [Maker.pr,hx,Option.getD_some]
    exact (hv q hq x hx).1)
   rw [<- hpvn] at hstep
   have hmv:=wpOp_moved (Q:=Q) (a:=pv val (M.map Maker.pr) a0) (a1:=pv val m.need a0) (R:=fun v w'=>Below w.heap.size w w'/\Y m.j v w' w.heap.size w'.heap.size) ho (by simpa using g1) g3 (by rw [pv_size,pv_size])
    (fun x hx=>pv_need (fun t ht=>by have:=g6 x (by simpa using hx);rw [ht] at this;simpa using this)) (by rw [g2];exact hstep)
   refine wpOp_mono (fun a' w' h3=>?_) hmv
   obtain ⟨v,rfl,hb',hy⟩:=h3
   have hbb:Below w0.heap.size w0 w':=hb.trans (hb'.mono hb.size)
   refine ⟨fun _=>hC w' hbb,?_⟩
   rw [g2]
   have hins:=pv_insert (val:=val) (j:=m.j) (d:=m.dst) (x:=(v,w.heap.size,w'.heap.size)) (M.map Maker.pr) a0 (by rw [hprj];exact k1)
    (fun p hp hne t ht=>by obtain ⟨q,hq,rfl⟩:=List.mem_map.1 hp;exact hdst m hm q hq (Ne.symm hne) t ht) (List.mem_map_of_mem (f:=Maker.pr) hm) hvn
   rw [<- hins]
   have hjs:m.j<L.size:=by rw [hsz];exact hlt m hm
   refine ih (L.setIfInBounds m.j true) _ w' (hcl.set hj) (by rw [Array.size_setIfInBounds];exact hsz) (fun i=>?_) ?_ hbb (fun q hq x hx=>?_) (fun q hq q' hq' hne x y hx hy=>?_)
   ·by_cases e:m.j=i
    ·subst e
     simp [hjs]
     exact .inr ⟨m,hm,rfl⟩
    ·rw [getD_set_ne false e,hL i,if_neg (Ne.symm e)]
   ·have hcount:∀ (l:List Maker),(l.map Maker.j).Nodup->m ∈ l->(l.filter fun q=>(val q.j).isNone).length=(l.filter fun q=>(if q.j=m.j then some (v,w.heap.size,w'.heap.size) else val q.j).isNone).length+1:=by
     intro l
     induction l with
     | nil=>intro _ h;cases h
     | cons q l ihl=>
      intro hn hmem
      simp only [List.map_cons,List.nodup_cons] at hn
      by_cases hq:q.j=m.j
      ·have hnot:∀ p ∈ l,p.j ≠ m.j:=fun p hp e=>hn.1 (by rw [hq,<- e];exact List.mem_map_of_mem hp)
       have e2:(l.filter fun q=>(if q.j=m.j then some (v,w.heap.size,w'.heap.size) else val q.j).isNone)=l.filter fun q=>(val q.j).isNone:=List.filter_congr (fun p hp=>by rw [if_neg (hnot p hp)])
       rw [List.filter_cons,List.filter_cons,e2,hq,hvn]
       simp
      ·have hmem':m ∈ l:=by
        rcases List.mem_cons.1 hmem with rfl|h
        ·exact absurd rfl hq
        ·exact h
       have:=ihl hn.2 hmem'
       rw [List.filter_cons,List.filter_cons,if_neg hq]
       cases hx:(val q.j).isNone
       ·simpa [hx] using this
       ·simpa [hx] using this
    have:=hcount M k1 hm
    omega
   ·by_cases e:q.j=m.j
    ·have hx':x=(v,w.heap.size,w'.heap.size):=by
      simp only [e,if_true,Option.some.injEq] at hx;exact hx.symm
     subst hx'
     rw [e]
     exact ⟨hy,hb.size,hb'.size,nR _⟩
    ·rw [if_neg e] at hx
     obtain ⟨h1,h2,h3,h4⟩:=hv q hq x hx
     exact ⟨hY _ _ _ _ _ _ h1 hb',h2,h3,Nat.le_trans h4 hb'.size⟩
   ·by_cases e:q.j=m.j
    ·have e':q'.j ≠ m.j:=fun h=>hne (e.trans h.symm)
     have hx':x=(v,w.heap.size,w'.heap.size):=by
      simp only [e,if_true,Option.some.injEq] at hx;exact hx.symm
     subst hx'
     rw [if_neg e'] at hy
     exact .inr (hv q' hq' y hy).2.2.2
    ·rw [if_neg e] at hx
     by_cases e':q'.j=m.j
     ·have hy':y=(v,w.heap.size,w'.heap.size):=by
       simp only [e',if_true,Option.some.injEq] at hy;exact hy.symm
      subst hy'
      exact .inl (hv q hq x hx).2.2.2
     ·rw [if_neg e'] at hy
      exact hd q hq q' hq' hne x y hx hy
theorem wp_region_own {id:Nat} {a:Act} {w:World} {l:List Oper} (rs:List Nat) (M:List Maker) (T:List Nat) (os:List Oper) (E:Nat->Bool) (Y:Said) (hm:P.follows .mixedOrders=true) (hs:Region.noSelect l.toArray=true)
  (hl:rs.length+(M.length+(tailOf T).size)=l.length) (hok:(match readOk .any l.toArray E rs (Array.replicate l.length false) with|some L=>ownOk .any l.toArray E M T L|none=>false)=true) (hT:T.all E=true) (hos:T.map (fun i=>l.toArray[i]?)=os.map some)
  (hQ:∀ c (d:Option Tmp) v a w,Q (.panic c) (a.put d v) w->Q (.panic c) a w)
  (hY:∀ j v w w' lo hi,Y j v w lo hi->Below w.heap.size w w'->Y j v w' lo hi)
  (h:readRun P l.toArray (fun w'=>∃ x,w'=ext w x) w.drew rs (fun a'=>stepsOk P l.toArray Y w.drew a' M/\ownEnd P l.toArray Q Y w.drew a' M os) a):(Code.region id l.toArray true).wp P Q a w:=by
 refine wp_region_any hm (any_of_G (H:=fun w'=>∃ x,w'=ext w x) (E:=E) _ _ _ _ ?_)
 cases hr:readOk .any l.toArray E rs (Array.replicate l.length false) with
 | none=>rw [hr] at hok;cases hok
 | some L=>
  rw [hr] at hok
  have:=anyG_readRun (md:=.any) (C:=fun w'=>∃ x,w'=ext w x) (Q:=Q) (E:=E) (n:=M.length+(tailOf T).size) hs hQ rs (Array.replicate l.length false) L a (Closed.start _) hr h (fun a' hcl hk=>by
   have hown:=anyG_own (C:=fun w'=>∃ x,w'=ext w x) (L0:=L) hs hQ hok hT hos (fun w' hb=>⟨_,ext_of ((bR _ _).drew.trans hb)⟩) hY hk.1 hk.2 M.length L (fun _=>none) w.drew hcl rfl (fun i=>by simp) (by simp) (bR _ _) (fun m hm x hx=>by cases hx) (fun m hm m' hm' hne x y hx=>by cases hx)
   have e:∀ (q:List (Nat × Option Tmp)) (b:Act),pv (fun _=>none) q b=b:=fun q=>by
    induction q with
    | nil=>intro b;rfl
    | cons p q ih=>intro b;exact ih b
   rw [e] at hown
   exact hown)
  rw [hl] at this
  simpa using this
end
open Go.ChangeShapes Go.WideShapes Go.ChangeAt Go.RowKit
open Classical in
theorem many_of {w:World} {g:Nat} {xs:List Value} {T:TypeId} (h:w.heap[g]?=some (.cells xs.toArray T (0,0))):∀ j u,xs[j]?=some u->w.cell? ((⟨g,0,none⟩:Addr).add j)=some u:=by
 intro j u hj
 have e:(⟨g,0,none⟩:Addr).add j=⟨g,j,none⟩:=by simp [Addr.add];omega
 rw [e]
 exact row_of h j u (by simpa using hj)
open Classical in
noncomputable def keepS (W:World) (S:List Nat) (x:World):World:=if ∀ b ∈ S,x.heap[b]?=W.heap[b]? then x else W
theorem keepS_is (W:World) (S:List Nat) (x:World):∀ b ∈ S,(keepS W S x).heap[b]?=W.heap[b]?:=by
 unfold keepS
 split
 ·assumption
 ·intro b _;rfl
theorem keepS_of {W x:World} {S:List Nat} (h:∀ b ∈ S,x.heap[b]?=W.heap[b]?):x=keepS W S x:=by unfold keepS;rw [if_pos h]
theorem keepS_cell {W:World} {S:List Nat} {b o:Nat} {v:Value} (hb:b ∈ S) (h:W.cell? ⟨b,o,none⟩=some v) (x:World):(keepS W S x).cell? ⟨b,o,none⟩=some v:=(World.cell?_of_block (keepS_is W S x b hb)).trans h
theorem wp_region_mixS {P:Program} {Q:Exit->Act->World->Prop} (S:List Nat) {id:Nat} {a:Act} {w:World} {l:List Oper} (t:Mix) (E:Nat->Bool) (hm:P.follows .mixedOrders=true) (hs:Region.noSelect l.toArray=true)
  (hl:t.size=l.length) (hok:mixOk .any l.toArray E t (Array.replicate l.length false)=true)
  (hQ:∀ c (d:Option Tmp) v a w,Q (.panic c) (a.put d v) w->Q (.panic c) a w)
  (h:mixRun P l.toArray Q (fun w'=>∃ x,w'=keepS w S x) E t a w.drew):(Code.region id l.toArray true).wp P Q a w:=by
 refine wp_region_any hm (any_of_G (H:=fun w'=>∃ x,w'=keepS w S x) (E:=E) _ _ _ _ ?_)
 have:=anyG_of_mix (md:=.any) (C:=fun w'=>∃ x,w'=keepS w S x) (Q:=Q) (E:=E) hs hQ t (Array.replicate l.length false) a w.drew (Closed.start _) hok h
 rw [hl] at this
 simpa using this
end Go.Proofs.YtgllkgedjplpdaaGreatDoor
