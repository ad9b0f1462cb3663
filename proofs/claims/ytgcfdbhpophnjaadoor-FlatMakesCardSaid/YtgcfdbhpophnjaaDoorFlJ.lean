/- A drawn region that holds makers in any order, of which some are guarded: as wp_region_own, where a guard's own operation is among those whose values are known. No condition. -/
import Derived.Test.YtgcfdbhpophnjaaDoorMixK
import Derived.Test.YtgcfdbhpophnjaaDoorFlG
import Derived.Test.YtgcfdbhpophnjaaDoorAwa
import Derived.Test.YtgcfdbhpophnjaaDoorMRf
set_option linter.all false
set_option maxRecDepth 1000000
set_option maxHeartbeats 12800000
namespace Go.Proofs.YtgcfdbhpophnjaaDoor
open Go.Maps (Keyed string_keyed int_keyed)
open Go.Lib (hid)
theorem gsFlJ {α:Type} {a:Array α} {i:Nat} {v:α} (h:a[i]?=some v):i<a.size:=(Array.getElem?_eq_some_iff.1 h).1
open Go.ChangeShapes Go.WideShapes Go.ChangeAt Go.RowKit
section
variable {P:Program} {ops:Array Oper} {Q:Exit→Act→World→Prop} {md:Region.Mode} {C:World→Prop} {E:Nat→Bool}
theorem wpOp_movedG {j:Nat} {o:Oper} {a a1:Act} {w:World} {R:Value→World→Prop} (ho:ops[j]?=some o) (hp:plainOp o.op=true) (hs:a.tmps.size=a1.tmps.size) (hw:Region.wanted o (yielded ops a.tmps)=Region.wanted o (yielded ops a1.tmps))
  (hx:∀ x∈o.op.operands,a.eval x=a1.eval x) (h:wpOp P ops (fun _ _ _=>False) j (fun a' w'=>∃ v,a'=a1.put o.dst v∧R v w') a1 w) :
  wpOp P ops Q j (fun a' w'=>∃ v,a'=a.put o.dst v∧R v w') a w:=by
 have hsel:∀ cs b,o.op≠.select cs b:=fun cs b e=>by rw[e] at hp;cases hp
 unfold wpOp at *
 simp only[ho,hw] at *
 split at h
 case isFalse hb=>
  rw[if_neg hb]
  obtain⟨v,e,hr⟩:=h
  exact⟨v,put_same hs e,hr⟩
 rename_i hb
 rw[if_pos hb]
 rcases h with h|⟨_,_,_,h⟩
 case inr=>exact h.elim
 refine .inl ?_
 unfold Oper.wp at *
 rw[execOp_congr o hsel hx]
 generalize (execOp a1.eval o).run P w=r at *
 have go:∀ u w',(∃ v,a1.put o.dst u=a1.put o.dst v∧R v w')→∃ v,a.put o.dst u=a.put o.dst v∧R v w':=fun u w' ⟨v,e,hr⟩=>⟨v,put_same hs e,hr⟩
 cases r with
 | ok n w'=>
  cases n <;> simp only[Oper.upon] at h ⊢
  case value u=>exact go _ _ h
  case skip=>exact go _ _ h
  case defer d=>
   obtain⟨v,e,hr⟩:=h
   have:=congrArg (fun x:Act=>x.defers.length) e
   cases ho:o.dst <;> rw[ho] at this <;> simp[Act.put] at this
  case enter f args=>
   refine Calls.mono h fun e w'' he=>?_
   cases e with
   | returned u=>exact go _ _ he
   | panicked c=>exact he.elim
   | outgrown=>obtain⟨_,_,he⟩:=he;exact he.elim
  case row row args=>exact Rows.mono h fun u w'' he=>go _ _ he
 | halt x w'=>cases x <;> simp only[Oper.upon] at h ⊢
theorem wanted_same {o:Oper} {val:Vals} {M need:List (Nat × Option Tmp)} {a:Act} (h:∀ g b,o.guard=some (g,b)→∀ t,(ops[g]?).bind (·.dst)=some t→(M.filter fun p=>p.2==some t)=need.filter fun p=>p.2==some t) :
  Region.wanted o (yielded ops (pv val M a).tmps)=Region.wanted o (yielded ops (pv val need a).tmps):=by
 unfold Region.wanted
 cases hg:o.guard with
 | none=>rfl
 | some gb=>
  obtain⟨g,b⟩:=gb
  have:yielded ops (pv val M a).tmps g=yielded ops (pv val need a).tmps g:=by
   unfold yielded
   cases hd:(ops[g]?).bind (·.dst) with
   | none=>rfl
   | some t=>
    have h1:=pv_need (val:=val) (a:=a) (x:=.tmp t) (fun t' ht'=>by cases ht';exact h g b hg t hd)
    simp only[Act.eval,Array.getD_eq_getD_getElem?] at h1
    have hsz:(pv val M a).tmps.size=(pv val need a).tmps.size:=by rw[pv_size,pv_size]
    have h2:(pv val M a).tmps[t]?=(pv val need a).tmps[t]?:=by
     by_cases hl:t<(pv val M a).tmps.size
     ·have hl2:t<(pv val need a).tmps.size:=by rw[← hsz];exact hl
      simp[hl,hl2] at h1 ⊢
      exact h1
     ·have hl2:¬ t<(pv val need a).tmps.size:=by rw[← hsz];exact hl
      simp[hl,hl2]
    simp only[Option.bind_some,h2]
  simp only[this]
def makerOkG (md:Region.Mode) (ops:Array Oper) (M:List Maker) (m:Maker):Bool:=match ops[m.j]? with
 | some o=>(match o.guard with|none=>true|some (g,_)=>match (ops[g]?).bind (·.dst) with|none=>true|some t=>((M.map Maker.pr).filter fun p=>p.2==some t)==(m.need.filter fun p=>p.2==some t))&&(o.dst==m.dst)&&plainOp o.op&&m.dst.isSome &&
   (m.need.all fun p=>waitsB md ops ops.size m.j p.1&&(M.map Maker.pr).contains p) &&
   (o.op.operands.toList.all fun x=>match x with|.tmp t=>((M.map Maker.pr).filter fun p=>p.2==some t)==(m.need.filter fun p=>p.2==some t)|_=>true)
 | none=>false
def ownOkG (md:Region.Mode) (ops:Array Oper) (E:Nat→Bool) (M:List Maker) (T:List Nat) (L0:Array Bool):Bool:=
 decide ((M.map Maker.j).Nodup)&&decide ((M.map Maker.dst).Nodup)&&(M.all (makerOkG md ops M))&&(M.all fun m=>!L0.getD m.j true) &&
 ((List.range ops.size).all fun i=>L0.getD i false||(M.map Maker.j).contains i||T.contains i)&&topoOk md ops M L0 &&
 (T.all fun t=>M.all fun m=>waitsB md ops ops.size t m.j)&&mixOk md ops E (tailOf T) (makersL M L0)&&(L0.size==ops.size)
theorem anyG_ownG {M:List Maker} {T:List Nat} {os:List Oper} {Y:Said} {L0:Array Bool} {a0:Act} {w0:World} (hs:Region.noSelect ops=true) (hQ:∀ c (d:Option Tmp) v a w,Q (.panic c) (a.put d v) w→Q (.panic c) a w)
  (hok:ownOkG md ops E M T L0=true) (hT:T.all E=true) (hos:T.map (fun i=>ops[i]?)=os.map some) (hC:∀ w',Below w0.heap.size w0 w'→C w')
  (hY:∀ j v w w' lo hi,Y j v w lo hi→Below w.heap.size w w'→Y j v w' lo hi)
  (hst:stepsOk P ops Y w0 a0 M) (hend:ownEnd P ops Q Y w0 a0 M os) :
  ∀ (r:Nat) (L:Array Bool) (val:Vals) (w:World),Closed md ops L→L.size=L0.size→(∀ i,L.getD i false=true↔L0.getD i false=true ∨ (i∈M.map Maker.j∧(val i).isSome=true)) →
   (M.filter fun m=>(val m.j).isNone).length=r→Below w0.heap.size w0 w →
   (∀ m∈M,∀ x,val m.j=some x→Y m.j x.1 w x.2.1 x.2.2∧w0.heap.size≤x.2.1∧x.2.1≤x.2.2∧x.2.2≤w.heap.size) →
   (∀ m∈M,∀ m'∈M,m.j≠m'.j→∀ x y,val m.j=some x→val m'.j=some y→x.2.2≤y.2.1 ∨ y.2.2≤x.2.1) →
   anyG P md ops Q C E (r+(tailOf T).size) L (pv val (M.map Maker.pr) a0) w:=by
 unfold ownOkG at hok
 simp only[Bool.and_eq_true,decide_eq_true_eq,List.all_eq_true,Bool.not_eq_true',beq_iff_eq] at hok
 obtain⟨⟨⟨⟨⟨⟨⟨⟨k1,k2⟩,k3⟩,k4⟩,k5⟩,k6⟩,k7⟩,k8⟩,k9⟩:=hok
 have hprj:(M.map Maker.pr).map Prod.fst=M.map Maker.j:=by rw[List.map_map];rfl
 have hdst:∀ m∈M,∀ m'∈M,m.j≠m'.j→∀ t,m.dst=some t→m'.dst≠some t:=by
  intro m hm m' hm' hne t ht ht'
  exact hne (by rw[nodup_dst M k2 m hm m' hm' (ht.trans ht'.symm)])
 have hlt:∀ m∈M,m.j<L0.size:=by
  intro m hm
  have:=k4 m hm
  rcases Nat.lt_or_ge m.j L0.size with h'|h'
  ·exact h'
  ·simp[Array.getElem?_eq_none h'] at this
 intro r
 induction r with
 | zero=>
  intro L val w hcl hsz hL hr hb hv hd
  rw[Nat.zero_add]
  have hall:∀ m∈M,(val m.j).isSome=true:=by
   intro m hm
   have:=List.eq_nil_of_length_eq_zero hr
   rw[List.filter_eq_nil_iff] at this
   have:=this m hm
   cases hx:val m.j with
   | none=>simp[hx] at this
   | some x=>rfl
  have hLe:L=makersL M L0:=by
   have hm:=fun i=>makersL_get (M:=M) (L:=L0) (i:=i) hlt
   refine Array.ext (by rw[hsz,(hm 0).2]) (fun i h1 h2=>?_)
   have e1:=hL i
   have e2:=(hm i).1
   have e3:(i∈M.map Maker.j∧(val i).isSome=true)↔i∈M.map Maker.j:=by
    refine⟨fun h=>h.1,fun h=>⟨h,?_⟩⟩
    obtain⟨m,hm,rfl⟩:=List.mem_map.1 h
    exact hall m hm
   rw[e3] at e1
   have:=e1.trans e2.symm
   simp[h1,h2] at this
   exact this
  rw[hLe]
  rw[hLe] at hcl
  refine anyG_of_mix hs hQ (tailOf T) _ _ _ hcl k8 (mix_tail T os _ _ hos hT ?_)
  have:=hend (fun i=>(val i).getD (undef,0,0)) w hb (fun m hm=>?_) (fun m hm m' hm' hne=>?_)
  ·rw[pv_congr (val':=fun i=>some ((val i).getD (undef,0,0))) _ _ (fun p hp=>?_)]
   ·exact this
   ·obtain⟨m,hm,rfl⟩:=List.mem_map.1 hp
    obtain⟨x,hx⟩:=Option.isSome_iff_exists.1 (hall m hm)
    show val m.j=some ((val m.j).getD _)
    rw[hx];rfl
  ·obtain⟨x,hx⟩:=Option.isSome_iff_exists.1 (hall m hm)
   simp only[hx,Option.getD_some]
   exact hv m hm x hx
  ·obtain⟨x,hx⟩:=Option.isSome_iff_exists.1 (hall m hm)
   obtain⟨y,hy⟩:=Option.isSome_iff_exists.1 (hall m' hm')
   simp only[hx,hy,Option.getD_some]
   exact hd m hm m' hm' hne x y hx hy
 | succ r ih=>
  intro L val w hcl hsz hL hr hb hv hd
  rw[show r+1+(tailOf T).size=(r+(tailOf T).size)+1 from by omega]
  obtain⟨mu,hmu,hun⟩:∃ m∈M,(val m.j).isNone=true:=by
   have:(M.filter fun m=>(val m.j).isNone)≠[]:=fun e=>by rw[e] at hr;cases hr
   obtain⟨m,hm⟩:=List.exists_mem_of_ne_nil _ this
   rw[List.mem_filter] at hm
   exact⟨m,hm.1,by simpa using hm.2⟩
  have hk4:∀ m∈M,L0.getD m.j false=false:=fun m hm=>by
   have h1:=k4 m hm;have h2:=hlt m hm
   simp[h2] at h1 ⊢;exact h1
  have hnl:∀ m∈M,(val m.j).isNone=true→L.getD m.j false=false:=by
   intro m hm h
   cases hx:L.getD m.j false with
   | false=>rfl
   | true=>
    rcases (hL m.j).1 hx with h1|h1
    ·rw[hk4 m hm] at h1;cases h1
    ·rw[Option.isNone_iff_eq_none] at h;rw[h] at h1;cases h1.2
  refine⟨fun e=>absurd e (topo_ready M L0 k6 (fun i hi=>(hL i).2 (.inl hi)) hsz ⟨mu,hmu,?_⟩),fun j hj=>?_⟩
  ·have h1:=hnl mu hmu hun
   have h2:mu.j<L.size:=by rw[hsz];exact hlt mu hmu
   simp[h2] at h1 ⊢;exact h1
  ·obtain⟨hjun,o,ho,hdeps⟩:=mem_ready.1 hj
   have hjlt:j<ops.size:=(gsFlJ ho)
   have hjf:L.getD j false=false:=by
    have:j<L.size:=by rw[hsz,k9];exact hjlt
    simp[this] at hjun ⊢;exact hjun
   have hwaits:∀ i,waitsB md ops ops.size j i=true→L.getD i false=true:=fun i hi=>waits_listed hcl _ j hi (fun o' ho' e he hb=>by rw[ho] at ho';cases ho';exact hdeps e he hb)
   have hjM:∃ m∈M,m.j=j:=by
    have:=k5 j (by simpa using hjlt)
    simp only[Bool.or_eq_true,List.contains_iff_mem] at this
    rcases this with (h|h)|h
    ·rw[(hL j).2 (.inl h)] at hjf;cases hjf
    ·obtain⟨m,hm,e⟩:=List.mem_map.1 h;exact⟨m,hm,e⟩
    ·have h1:=hwaits mu.j (k7 j h mu hmu)
     rw[hnl mu hmu hun] at h1;cases h1
   obtain⟨m,hm,rfl⟩:=hjM
   have hmo:=k3 m hm
   unfold makerOkG at hmo
   simp only[ho,Bool.and_eq_true,List.all_eq_true,beq_iff_eq] at hmo
   obtain⟨⟨⟨⟨⟨g1,g2⟩,g3⟩,g4⟩,g5⟩,g6⟩:=hmo
   have hvn:val m.j=none:=by
    cases hx:val m.j with
    | none=>rfl
    | some x=>
     rw[(hL m.j).2 (.inr ⟨List.mem_map_of_mem hm,by rw[hx];rfl⟩)] at hjf;cases hjf
   have hneed:∀ p∈m.need,∃ q∈M,p=q.pr∧∃ x,val q.j=some x:=by
    intro p hp
    have h1:=g5 p hp
    simp only[List.contains_iff_mem] at h1
    obtain⟨q,hq,rfl⟩:=List.mem_map.1 h1.2
    refine⟨q,hq,rfl,?_⟩
    rcases (hL q.j).1 (hwaits q.j h1.1) with h|h
    ·rw[hk4 q hq] at h;cases h
    ·exact Option.isSome_iff_exists.1 h.2
   have hpvn:pv val m.need a0=pv (fun i=>some ((val i).getD (undef,0,0))) m.need a0:=pv_congr _ _ (fun p hp=>by
    obtain⟨q,hq,rfl,x,hx⟩:=hneed p hp
    show val q.j=some ((val q.j).getD _)
    rw[hx];rfl)
   have hstep:=stepsOk_mem hst m hm (fun i=>(val i).getD (undef,0,0)) w hb (fun p hp=>by
    obtain⟨q,hq,rfl,x,hx⟩:=hneed p hp
    simp only[Maker.pr,hx,Option.getD_some]
    exact (hv q hq x hx).1)
   rw[← hpvn] at hstep
   have hmv:=wpOp_movedG (Q:=Q) (a:=pv val (M.map Maker.pr) a0) (a1:=pv val m.need a0) (R:=fun v w'=>Below w.heap.size w w'∧Y m.j v w' w.heap.size w'.heap.size) ho g3 (by rw[pv_size,pv_size]) (wanted_same (fun g b hg t hd=>by rw[hg] at g1;simp only[hd] at g1;simpa using g1))
    (fun x hx=>pv_need (fun t ht=>by have:=g6 x (by simpa using hx);rw[ht] at this;simpa using this)) (by rw[g2];exact hstep)
   refine wpOp_mono (fun a' w' h3=>?_) hmv
   obtain⟨v,rfl,hb',hy⟩:=h3
   have hbb:Below w0.heap.size w0 w':=hb.trans (hb'.mono hb.size)
   refine⟨fun _=>hC w' hbb,?_⟩
   rw[g2]
   have hins:=pv_insert (val:=val) (j:=m.j) (d:=m.dst) (x:=(v,w.heap.size,w'.heap.size)) (M.map Maker.pr) a0 (by rw[hprj];exact k1)
    (fun p hp hne t ht=>by obtain⟨q,hq,rfl⟩:=List.mem_map.1 hp;exact hdst m hm q hq (Ne.symm hne) t ht) (List.mem_map_of_mem (f:=Maker.pr) hm) hvn
   rw[← hins]
   have hjs:m.j<L.size:=by rw[hsz];exact hlt m hm
   refine ih (L.setIfInBounds m.j true) _ w' (hcl.set hj) (by rw[Array.size_setIfInBounds];exact hsz) (fun i=>?_) ?_ hbb (fun q hq x hx=>?_) (fun q hq q' hq' hne x y hx hy=>?_)
   ·by_cases e:m.j=i
    ·subst e
     simp[hjs]
     exact .inr ⟨m,hm,rfl⟩
    ·rw[getD_set_ne false e,hL i,if_neg (Ne.symm e)]
   ·have hcount:∀ (l:List Maker),(l.map Maker.j).Nodup→m∈l→(l.filter fun q=>(val q.j).isNone).length=(l.filter fun q=>(if q.j=m.j then some (v,w.heap.size,w'.heap.size) else val q.j).isNone).length+1:=by
     intro l
     induction l with
     | nil=>intro _ h;cases h
     | cons q l ihl=>
      intro hn hmem
      simp only[List.map_cons,List.nodup_cons] at hn
      by_cases hq:q.j=m.j
      ·have hnot:∀ p∈l,p.j≠m.j:=fun p hp e=>hn.1 (by rw[hq,← e];exact List.mem_map_of_mem hp)
       have e2:(l.filter fun q=>(if q.j=m.j then some (v,w.heap.size,w'.heap.size) else val q.j).isNone)=l.filter fun q=>(val q.j).isNone:=List.filter_congr (fun p hp=>by rw[if_neg (hnot p hp)])
       rw[List.filter_cons,List.filter_cons,e2,hq,hvn]
       simp
      ·have hmem':m∈l:=by
        rcases List.mem_cons.1 hmem with rfl|h
        ·exact absurd rfl hq
        ·exact h
       have:=ihl hn.2 hmem'
       rw[List.filter_cons,List.filter_cons,if_neg hq]
       cases hx:(val q.j).isNone
       ·simpa[hx] using this
       ·simpa[hx] using this
    have:=hcount M k1 hm
    omega
   ·by_cases e:q.j=m.j
    ·have hx':x=(v,w.heap.size,w'.heap.size):=by
      simp only[e,if_true,Option.some.injEq] at hx;exact hx.symm
     subst hx'
     rw[e]
     exact⟨hy,hb.size,hb'.size,Nat.le_refl _⟩
    ·rw[if_neg e] at hx
     obtain⟨h1,h2,h3,h4⟩:=hv q hq x hx
     exact⟨hY _ _ _ _ _ _ h1 hb',h2,h3,Nat.le_trans h4 hb'.size⟩
   ·by_cases e:q.j=m.j
    ·have e':q'.j≠m.j:=fun h=>hne (e.trans h.symm)
     have hx':x=(v,w.heap.size,w'.heap.size):=by
      simp only[e,if_true,Option.some.injEq] at hx;exact hx.symm
     subst hx'
     rw[if_neg e'] at hy
     exact .inr (hv q' hq' y hy).2.2.2
    ·rw[if_neg e] at hx
     by_cases e':q'.j=m.j
     ·have hy':y=(v,w.heap.size,w'.heap.size):=by
       simp only[e',if_true,Option.some.injEq] at hy;exact hy.symm
      subst hy'
      exact .inl (hv q hq x hx).2.2.2
     ·rw[if_neg e'] at hy
      exact hd q hq q' hq' hne x y hx hy
theorem wp_region_ownG {id:Nat} {a:Act} {w:World} {l:List Oper} (rs:List Nat) (M:List Maker) (T:List Nat) (os:List Oper) (E:Nat→Bool) (Y:Said) (hm:P.follows .mixedOrders=true) (hs:Region.noSelect l.toArray=true)
  (hl:rs.length+(M.length+(tailOf T).size)=l.length) (hok:(match readOk .any l.toArray E rs (Array.replicate l.length false) with|some L=>ownOkG .any l.toArray E M T L|none=>false)=true) (hT:T.all E=true) (hos:T.map (fun i=>l.toArray[i]?)=os.map some)
  (hQ:∀ c (d:Option Tmp) v a w,Q (.panic c) (a.put d v) w→Q (.panic c) a w)
  (hY:∀ j v w w' lo hi,Y j v w lo hi→Below w.heap.size w w'→Y j v w' lo hi)
  (h:readRun P l.toArray (fun w'=>∃ x,w'=ext w x) w.drew rs (fun a'=>stepsOk P l.toArray Y w.drew a' M∧ownEnd P l.toArray Q Y w.drew a' M os) a):(Code.region id l.toArray true).wp P Q a w:=by
 refine wp_region_any hm (any_of_G (H:=fun w'=>∃ x,w'=ext w x) (E:=E) _ _ _ _ ?_)
 cases hr:readOk .any l.toArray E rs (Array.replicate l.length false) with
 | none=>rw[hr] at hok;cases hok
 | some L=>
  rw[hr] at hok
  have:=anyG_readRun (md:=.any) (C:=fun w'=>∃ x,w'=ext w x) (Q:=Q) (E:=E) (n:=M.length+(tailOf T).size) hs hQ rs (Array.replicate l.length false) L a (Closed.start _) hr h (fun a' hcl hk=>by
   have hown:=anyG_ownG (C:=fun w'=>∃ x,w'=ext w x) (L0:=L) hs hQ hok hT hos (fun w' hb=>⟨_,ext_of ((Below.refl _ _).drew.trans hb)⟩) hY hk.1 hk.2 M.length L (fun _=>none) w.drew hcl rfl (fun i=>by simp) (by simp) (Below.refl _ _) (fun m hm x hx=>by cases hx) (fun m hm m' hm' hne x y hx=>by cases hx)
   have e:∀ (q:List (Nat × Option Tmp)) (b:Act),pv (fun _=>none) q b=b:=fun q=>by
    induction q with
    | nil=>intro b;rfl
    | cons p q ih=>intro b;exact ih b
   rw[e] at hown
   exact hown)
  rw[hl] at this
  simpa using this
end
def sx:ByteArray:=⟨#[120]⟩
def sy:ByteArray:=⟨#[121]⟩
def sp:ByteArray:=⟨#[112]⟩
def sL:ByteArray:=⟨#[76]⟩
def sf:ByteArray:=⟨#[102]⟩
def sc:ByteArray:=⟨#[99]⟩
def ss:ByteArray:=⟨#[115]⟩
def s0:ByteArray:=⟨#[]⟩
def aX:ArgD:=⟨sx,0⟩
def aY:ArgD:=⟨sy,0⟩
def aP:ArgD:=⟨sp,0⟩
def aN (n:Int):ArgD:=⟨s0,n⟩
def loopI:List InstrD:=[⟨10,0,s0,sL,[],0,0⟩,⟨1,4,sx,s0,[aX,aN 5],0,0⟩,⟨9,0,s0,sL,[aX],0,0⟩]
def fnD:FuncD:=⟨sf,[sp],[⟨1,2,sy,s0,[aP],0,0⟩,⟨12,0,s0,s0,[aY],0,0⟩],0,0⟩
def fn0:FuncD:=⟨sf,[],[],0,0⟩
def callI:List InstrD:=[⟨4,0,sx,sf,[aN 3],0,0⟩]
def emptyI:List InstrD:=[⟨4,0,sx,sf,[],0,0⟩]
def ioI:List InstrD:=[⟨5,0,sx,sc,[],0,0⟩,⟨6,0,s0,sc,[aN 7],0,0⟩,⟨7,0,sy,ss,[aX],0,0⟩]
def haltC:CodeD:=⟨9,0,0,0,⟨0,0⟩,⟨0,0⟩⟩
def pA:ProgD:=⟨2,[],[],[],[]⟩
def pB:ProgD:=⟨2,[],[],[],loopI⟩
def pC:ProgD:=⟨2,[],[],[fn0],emptyI⟩
def pD:ProgD:=⟨2,[],[],[fnD],callI⟩
def pE:ProgD:=⟨2,[sc],[],[],ioI⟩
def pZ:ProgD:=⟨0,[],[],[],[]⟩
def cB:List CodeD:=[⟨1,4,0,0,⟨0,0⟩,⟨-1,1⟩⟩,⟨8,0,0,0,⟨0,0⟩,⟨0,0⟩⟩,haltC]
def cC:List CodeD:=[⟨0,0,0,0,⟨-1,0⟩,⟨0,0⟩⟩,haltC]
def cD:List CodeD:=[⟨0,0,1,0,⟨-1,3⟩,⟨0,0⟩⟩,⟨0,0,2,0,⟨-1,0⟩,⟨0,0⟩⟩,⟨1,2,2,0,⟨1,0⟩,⟨0,0⟩⟩,⟨0,0,0,0,⟨2,0⟩,⟨0,0⟩⟩,⟨7,0,0,6,⟨0,0⟩,⟨0,0⟩⟩,⟨0,0,0,0,⟨-1,0⟩,⟨0,0⟩⟩,haltC]
def cE:List CodeD:=[⟨4,0,0,0,⟨0,0⟩,⟨0,0⟩⟩,⟨5,0,0,0,⟨-1,3⟩,⟨0,0⟩⟩,⟨6,0,1,0,⟨0,0⟩,⟨0,0⟩⟩,haltC]
theorem ckA:checkF pA=none:=by rw[check_plain rfl];kernel_rfl
theorem ckB:checkF pB=none:=by rw[check_plain rfl];kernel_rfl
theorem ckE:checkF pE=none:=by rw[check_plain rfl];kernel_rfl
theorem ckZ:checkF pZ=some ⟨0,0,3⟩:=by rw[check_plain rfl];kernel_rfl
theorem loops_none {fs:List FuncD} (h:∀ f∈fs,callsOf f.code=[]):loopsF fs=none:=by
 unfold loopsF
 rw[firstF_none]
 intro p x r e
 unfold needF
 rw[if_pos]
 simp only[Bool.not_eq_true']
 unfold loopB
 rw[decide_eq_false_iff_not]
 have hn:∀ b,¬ Reach fs x.name b:=by
  have h1:∀ a b,¬ CallsN fs a b:=by
   rintro a b ⟨f,hf,hb⟩
   rw[h f (List.mem_of_find?_eq_some hf)] at hb
   cases hb
  intro b hb
  cases hb with
  | one q=>exact h1 _ _ q
  | more _ q=>exact h1 _ _ q
 exact hn _
theorem ckC:checkF pC=none:=by
 rw[check_split,loops_none (fs:=pC.funcs) (by intro f hf;simp only[pC,List.mem_singleton] at hf;subst hf;rfl)]
 have:checkA pC=none:=by kernel_rfl
 rw[this];rfl
theorem ckD:checkF pD=none:=by
 rw[check_split,loops_none (fs:=pD.funcs) (by intro f hf;simp only[pD,List.mem_singleton] at hf;subst hf;rfl)]
 have:checkA pD=none:=by kernel_rfl
 rw[this];rfl
theorem flA:flatOf pA=(⟨2,0,[],[],[],[haltC]⟩,0):=by rw[flatOf_good ckA];kernel_rfl
theorem flB:flatOf pB=(⟨2,1,[],[],[],cB⟩,0):=by rw[flatOf_good ckB];kernel_rfl
theorem flC:flatOf pC=(⟨2,1,[],[],[],cC⟩,0):=by rw[flatOf_good ckC];kernel_rfl
theorem flD:flatOf pD=(⟨2,3,[],[],[],cD⟩,0):=by rw[flatOf_good ckD];kernel_rfl
theorem flE:flatOf pE=(⟨2,2,[sc],[ss],[],cE⟩,0):=by rw[flatOf_good ckE];kernel_rfl
theorem flZ:flatOf pZ=(zeroFlat,3):=flatOf_fault ckZ
theorem num25_any (n:Int) (w:World):Calls Tryd.prog 48 #[.int .u64 n] w fun e w'=>e=.returned (.agg #[.int .i64 (-1),.int .u64 n])∧Below w.heap.size w w':=by
 have hn:=hid (heap_alloc_new w (.cells #[.int .i64 0,.int .u64 0] 45))
 have hb:=hid ((Below.refl w.heap.size w).alloc (Nat.le_refl _) (.cells #[.int .i64 0,.int .u64 0] 45))
 go_enter Tryd.func48,Tryd.ntmps48
 go_wp2_with (refine wpList_store_row rfl 45 (.tmp 2) (.tmp 4) rfl w.heap.size #[.int .i64 (-1),.int .u64 n] rfl rfl 45 #[.int .i64 0,.int .u64 0] ?hs (by as_aux_lemma=>kernel_rfl) (by as_aux_lemma=>kernel_rfl) (by as_aux_lemma=>kernel_rfl) ?_;exact hn.out)
 refine bodyPost_ret (v:=.agg #[.int .i64 (-1),.int .u64 n]) ?_ rfl ⟨rfl,below_row hb.out (Nat.le_refl _) _⟩
 exact results_cell_row (P:=Tryd.prog) (fn:=Tryd.f48) rfl _ _ w.heap.size 45 #[.int .i64 (-1),.int .u64 n] (0,0) _ rfl (setRow_heap _ _ _ _ _ _ hn.out) Tryd.underlying45 rfl (by as_aux_lemma=>kernel_rfl)
theorem reg25_any (n:Int) (w:World):Calls Tryd.prog 47 #[.int .i64 n] w fun e w'=>e=.returned (.agg #[.int .i64 n,.int .u64 0])∧Below w.heap.size w w':=by
 have hn:=hid (heap_alloc_new w (.cells #[.int .i64 0,.int .u64 0] 45))
 have hb:=hid ((Below.refl w.heap.size w).alloc (Nat.le_refl _) (.cells #[.int .i64 0,.int .u64 0] 45))
 go_enter Tryd.func47,Tryd.ntmps47
 go_wp2_with (refine wpList_store_row rfl 45 (.tmp 2) (.tmp 4) rfl w.heap.size #[.int .i64 n,.int .u64 0] rfl rfl 45 #[.int .i64 0,.int .u64 0] ?hs (by as_aux_lemma=>kernel_rfl) (by as_aux_lemma=>kernel_rfl) (by as_aux_lemma=>kernel_rfl) ?_;exact hn.out)
 refine bodyPost_ret (v:=.agg #[.int .i64 n,.int .u64 0]) ?_ rfl ⟨rfl,below_row hb.out (Nat.le_refl _) _⟩
 exact results_cell_row (P:=Tryd.prog) (fn:=Tryd.f47) rfl _ _ w.heap.size 45 #[.int .i64 n,.int .u64 0] (0,0) _ rfl (setRow_heap _ _ _ _ _ _ hn.out) Tryd.underlying45 rfl (by as_aux_lemma=>kernel_rfl)
theorem eqL_selfF {α:Type} {f:α→α→Bool} (hf:∀ x,f x x=true):∀ l:List α,eqL f l l=true
 | []=>rfl
 | x :: r=>by rw[eqL,hf x,eqL_selfF hf r];rfl
theorem eqCode_self:∀ x:CodeD,eqCode x x=true:=fun x=>by unfold eqCode;simp
theorem makes_any (p:ProgD) (cv av fv mv wv:Value) (F:FlatD) (w:World) (h:RdProg none w p cv av fv mv) (hL:Laid w) (hF:flatOf { p with width:=2 }=(F,0)) (h2:F.width=2) (hr:RdRow kCode none w wv F.code) :
  Calls Tryd.prog 46 #[progV p cv av fv mv,.int .i64 F.regs,wv] w fun e w'=>e=.returned (.bool true)∧Below w.heap.size w w':=by
 obtain⟨ac,kc,rfl,-,-⟩:=id h.1
 obtain⟨aa,ka,rfl,-,-⟩:=id h.2.1
 obtain⟨af,kf,rfl,-,-⟩:=id h.2.2.1
 obtain⟨am,km,rfl,-,-⟩:=id h.2.2.2.1
 have hb1:=(Below.refl w.heap.size w).alloc (Nat.le_refl _) (.cells #[.int .i64 2,.slice ac p.chans.length kc,.slice aa p.arrays.length ka,.slice af p.funcs.length kf,.slice am p.main.length km] 27)
 have hx1:=heap_alloc_new w (.cells #[.int .i64 2,.slice ac p.chans.length kc,.slice aa p.arrays.length ka,.slice af p.funcs.length kf,.slice am p.main.length km] 27)
 have HB:=hid hb1
 have HX:=hid hx1
 have H:Hid (RdProg none _ { p with width:=2 } _ _ _ _):=⟨(h.keep hb1).1,(h.keep hb1).2.1,(h.keep hb1).2.2.1,(h.keep hb1).2.2.2.1,(by show InI64 2;exact⟨by decide,by decide⟩)⟩
 have HL:=hid (hL.keep hb1)
 have HR:=hid (hr.keep hb1)
 have HF:=hid hF
 have H2:=hid h2
 clear h hL hF h2 hr hb1 hx1
 go_enter Tryd.func46,Tryd.ntmps46
 go_upto_region 2 with fail
 generalize w.alloc (.cells #[.int .i64 2,.slice ac p.chans.length kc,.slice aa p.arrays.length ka,.slice af p.funcs.length kf,.slice am p.main.length km] 27)=W at *
 obtain⟨pb,hpb⟩:∃ pb,w.heap.size=pb:=⟨_,rfl⟩
 rw[hpb] at HX
 rw[hpb]
 have c0:=row_of HX.out 0 (.int .i64 2) rfl
 have c1:=row_of HX.out 1 (.slice ac p.chans.length kc) rfl
 have c2:=row_of HX.out 2 (.slice aa p.arrays.length ka) rfl
 have c3:=row_of HX.out 3 (.slice af p.funcs.length kf) rfl
 have c4:=row_of HX.out 4 (.slice am p.main.length km) rfl
 have HOF:Hid (Calls Tryd.prog 11 #[.agg #[.int .i64 2,.slice ac p.chans.length kc,.slice aa p.arrays.length ka,.slice af p.funcs.length kf,.slice am p.main.length km]] W fun e w'=>∃ c1 k1 c2 k2 c3 k3 c4 k4,e=.returned (.tuple #[.agg #[.int .i64 2,.int .i64 F.regs,.slice c1 F.chans.length k1,.slice c2 F.sites.length k2,.slice c3 F.arrays.length k3,.slice c4 F.code.length k4],.int .i64 0])∧RdRow kCode none w' (.slice c4 F.code.length k4) F.code∧Below W.heap.size W w'):=by
  refine (flatOf_any _ _ _ _ _ W H.out HL.out).mono ?_
  rintro e w' ⟨c,s,a,k,rfl,hrd,hz⟩
  rw[HF.out] at hrd ⊢
  obtain⟨c1,k1,rfl⟩:=hrd.1.is
  obtain⟨c2,k2,rfl⟩:=hrd.2.1.is
  obtain⟨c3,k3,rfl⟩:=hrd.2.2.1.is
  obtain⟨c4,k4,rfl⟩:=hrd.2.2.2.1.is
  exact⟨c1,k1,c2,k2,c3,k3,c4,k4,by rw[← H2.out],hrd.2.2.2.1.forget,hz⟩
 clear H HL HF H2 HX hpb
 obtain⟨rg,hrg⟩:∃ rg,F.regs=rg:=⟨_,rfl⟩
 rw[hrg] at HOF
 rw[hrg]
 clear hrg
 go_upto_region 3 with (first|(go_at_call 11;refine HOF.out.mono ?_;rintro e z ⟨d1,k1,d2,k2,d3,k3,d4,k4,rfl,hrd,hz⟩;have HRD:=hid hrd;have BZ:=hid hz;have HN:=hid (heap_alloc_new z (.cells #[.int .i64 0,.int .i64 0,.slice none 0 0,.slice none 0 0,.slice none 0 0,.slice none 0 0] 32));clear hrd hz)|(refine wpList_store_row rfl 32 (.tmp 7) (.tmp 13) rfl z.heap.size #[.int .i64 2,.int .i64 rg,.slice d1 F.chans.length k1,.slice d2 F.sites.length k2,.slice d3 F.arrays.length k3,.slice d4 F.code.length k4] rfl rfl 32 #[.int .i64 0,.int .i64 0,.slice none 0 0,.slice none 0 0,.slice none 0 0,.slice none 0 0] ?hs0 (by as_aux_lemma=>kernel_rfl) (by as_aux_lemma=>kernel_rfl) (by as_aux_lemma=>kernel_rfl) ?_;exact HN.out))
 have HG:Hid (_=_):=setRow_heap (z.alloc (.cells #[.int .i64 0,.int .i64 0,.slice none 0 0,.slice none 0 0,.slice none 0 0,.slice none 0 0] 32)) z.heap.size _ #[.int .i64 2,.int .i64 rg,.slice d1 F.chans.length k1,.slice d2 F.sites.length k2,.slice d3 F.arrays.length k3,.slice d4 F.code.length k4] _ _ HN.out
 have hal:Below z.heap.size z ((z.alloc (.cells #[.int .i64 0,.int .i64 0,.slice none 0 0,.slice none 0 0,.slice none 0 0,.slice none 0 0] 32)).setRow z.heap.size #[.int .i64 2,.int .i64 rg,.slice d1 F.chans.length k1,.slice d2 F.sites.length k2,.slice d3 F.arrays.length k3,.slice d4 F.code.length k4]):=below_row ((Below.refl _ _).alloc (Nat.le_refl _) _) (Nat.le_refl _) _
 have HRD1:=hid (HRD.out.keep hal)
 have HR1:=hid ((HR.out.keep BZ.out).keep hal)
 have HB1:=hid (bcomp (bcomp HB.out BZ.out) hal)
 clear c0 c1 c2 c3 c4 HOF HRD HR HB BZ HN hal
 try simp only[Act.put]
 generalize (z.alloc (.cells #[.int .i64 0,.int .i64 0,.slice none 0 0,.slice none 0 0,.slice none 0 0,.slice none 0 0] 32)).setRow z.heap.size #[.int .i64 2,.int .i64 rg,.slice d1 F.chans.length k1,.slice d2 F.sites.length k2,.slice d3 F.arrays.length k3,.slice d4 F.code.length k4]=W3 at *
 generalize z.heap.size=xb at *
 have c0:=row_of HG.out 0 (.int .i64 2) rfl
 have c1:=row_of HG.out 1 (.int .i64 rg) rfl
 have c5:=row_of HG.out 5 (.slice d4 F.code.length k4) rfl
 have HEQ:=hid (equalCode _ _ F.code F.code W3 HRD1.out HR1.out)
 rw[eqL_selfF eqCode_self] at HEQ
 have hrr:(rg==rg)=true:=by simp
 clear HG HRD1 HR1
 go_wp2_with (go_at_call 42;refine HEQ.out.mono ?_;rintro e z9 ⟨rfl,hz⟩;have B9:=hid hz;clear hz)
 go_ret
 exact⟨rfl,bcomp HB1.out B9.out⟩
theorem rowNewF {α:Type} (K:Kind α) {w:World} {g:Nat} {l:List α} {cs:Array Value} (h:w.heap[g]?=some (.cells cs K.T (0,0))) (hc:cs=(l.flatMap K.cells).toArray) (hl:l.length*K.bytes≤140737488351232) (hs:∀ s∈l,K.ok s):RdRow K none w (.slice (some ⟨g,0,none⟩) l.length l.length) l:=by
 subst hc
 refine⟨_,_,rfl,⟨hl,Nat.le_refl _⟩,fun i x hx=>⟨g,0,rfl,Free.none _ _ _,fun j u hj=>?_,hs x (List.mem_of_getElem? hx)⟩⟩
 have hjl:j<K.sz:=by rw[← K.len x];exact (List.getElem?_eq_some_iff.1 hj).1
 refine row_of h _ u ?_
 rw[List.getElem?_toArray,Nat.zero_add,flat_get K.cells K.sz K.len l i j x hx hjl]
 exact hj
theorem chain1 (w:World) (A:Obj):(w.alloc A).heap[w.heap.size]?=some A∧Below w.heap.size w (w.alloc A):=⟨heap_alloc_new _ _,(Below.refl _ _).alloc (Nat.le_refl _) _⟩
theorem chain2 (w:World) (A B:Obj):((w.alloc A).alloc B).heap[w.heap.size]?=some A∧((w.alloc A).alloc B).heap[w.heap.size+1]?=some B∧Below w.heap.size w ((w.alloc A).alloc B):=heap2_of (Below.refl _ _)
theorem chain3 (w:World) (A B C:Obj):(((w.alloc A).alloc B).alloc C).heap[w.heap.size]?=some A∧(((w.alloc A).alloc B).alloc C).heap[w.heap.size+1]?=some B∧(((w.alloc A).alloc B).alloc C).heap[w.heap.size+1+1]?=some C∧Below w.heap.size w (((w.alloc A).alloc B).alloc C):=by
 obtain⟨h1,h2,h3⟩:=chain2 w A B
 obtain⟨k1,k2⟩:=chain1 ((w.alloc A).alloc B) C
 exact⟨(k2.block _ (gsFlJ h1)).trans h1,(k2.block _ (gsFlJ h2)).trans h2,by simpa using k1,bcomp h3 k2⟩
def ValIs (v x:Value):Prop:=v=x
def RowOf {α:Type} (K:Kind α) (w:World) (v:Value) (n:Nat) (l:List α):Prop:=∃ g:Nat,v=.slice (some ⟨g,0,none⟩) n n∧RdRow K none w v l
theorem RowOf.keep {α:Type} {K:Kind α} {w w':World} {v:Value} {n:Nat} {l:List α} (h:RowOf K w v n l) (k:Below w.heap.size w w'):RowOf K w' v n l:=by
 obtain⟨g,e,h⟩:=h;exact⟨g,e,h.keep k⟩
def FunsOf (w:World) (v:Value) (l:List FuncD):Prop:=∃ g:Nat,v=.slice (some ⟨g,0,none⟩) l.length l.length∧RdFuncs none w v l
theorem FunsOf.keep {w w':World} {v:Value} {l:List FuncD} (h:FunsOf w v l) (k:Below w.heap.size w w'):FunsOf w' v l:=by
 obtain⟨g,e,h⟩:=h;exact⟨g,e,h.keep k⟩
def ProgFn (w:World) (v mv:Value) (l:List FuncD):Prop:=∃ g:Nat,v=.agg #[.int .i64 0,.slice none 0 0,.slice none 0 0,.slice (some ⟨g,0,none⟩) l.length l.length,mv]∧RdFuncs none w (.slice (some ⟨g,0,none⟩) l.length l.length) l
theorem ProgFn.keep {w w':World} {v mv:Value} {l:List FuncD} (h:ProgFn w v mv l) (k:Below w.heap.size w w'):ProgFn w' v mv l:=by
 obtain⟨g,e,h⟩:=h;exact⟨g,e,h.keep k⟩
def ProgCh (w:World) (v mv:Value) (l:List ByteArray):Prop:=∃ g:Nat,v=.agg #[.int .i64 0,.slice (some ⟨g,0,none⟩) l.length l.length,.slice none 0 0,.slice none 0 0,mv]∧RdStrs none w (.slice (some ⟨g,0,none⟩) l.length l.length) l
theorem ProgCh.keep {w w':World} {v mv:Value} {l:List ByteArray} (h:ProgCh w v mv l) (k:Below w.heap.size w w'):ProgCh w' v mv l:=by
 obtain⟨g,e,h⟩:=h;exact⟨g,e,h.keep k⟩
def StrsOf (w:World) (v:Value) (l:List ByteArray):Prop:=∃ g:Nat,v=.slice (some ⟨g,0,none⟩) l.length l.length∧RdStrs none w v l
theorem StrsOf.keep {w w':World} {v:Value} {l:List ByteArray} (h:StrsOf w v l) (k:Below w.heap.size w w'):StrsOf w' v l:=by
 obtain⟨g,e,h⟩:=h;exact⟨g,e,h.keep k⟩
theorem rdFn1 {w:World} {g:Nat} {x:FuncD} {pv cv:Value} (hg:w.heap[g]?=some (.cells #[.string x.name,pv,cv,.int .i64 x.line,.int .i64 x.col] 57 (0,0))) (h:RdFunc none w x pv cv):RdFuncs none w (.slice (some ⟨g,0,none⟩) 1 1) [x]:=by
 refine⟨some ⟨g,0,none⟩,1,rfl,by simp,fun i s hs=>?_⟩
 match i,hs with
 | 0,hs=>
  simp only[List.getElem?_cons_zero,Option.some.injEq] at hs
  subst hs
  exact⟨g,0,pv,cv,rfl,Free.none _ _ _,row_of hg 0 _ rfl,row_of hg 1 _ rfl,row_of hg 2 _ rfl,row_of hg 3 _ rfl,row_of hg 4 _ rfl,h⟩
theorem okIns {w:World} {av:Value} (x:InstrD) (h:RdArgs none w av x.args) (hk:InU8 x.kind∧InU8 x.op∧InI64 x.line∧InI64 x.col∧x.dst.size≤maxLen∧x.name.size≤maxLen):RdInstr none w x av:=⟨h,hk⟩
theorem flatCheck0 (w:World):Calls Tryd.prog 18 #[.agg #[.int .i64 0,.int .i64 0,.slice none 0 0,.slice none 0 0,.slice none 0 0,.slice none 0 0]] w fun e w'=>e=.returned (.int .i64 2)∧Below w.heap.size w w':=by
 go_enter Tryd.func18,Tryd.ntmps18
 go_wp2_with fail
 go_ret
 exact⟨rfl,(Below.refl _ _).alloc (Nat.le_refl _) _⟩
theorem awake25_any (w:World) (hL:Laid w) (hM:LaidM w):Calls Tryd.prog 15 #[] w fun e w'=>e=.returned (.bool true)∧Below w.heap.size w w':=by
 have hn:=hid (heap_alloc_new w (.cells #[.int .u8 0,.int .u8 0,.int .i64 0,.int .i64 0,.int .i64 0,.int .u64 0,.int .i64 0,.int .u64 0] 48))
 have hbn:=(Below.refl w.heap.size w).alloc (Nat.le_refl _) (.cells #[.int .u8 0,.int .u8 0,.int .i64 0,.int .i64 0,.int .i64 0,.int .u64 0,.int .i64 0,.int .u64 0] 48)
 have HLw:=hid hL
 have HMw:=hid hM
 clear hL hM
 go_enter Tryd.func15,Tryd.ntmps15
 go_upto_region 2 with (refine wpList_store_row rfl 48 (.tmp 1) (.tmp 12) rfl w.heap.size #[.int .u8 9,.int .u8 0,.int .i64 0,.int .i64 0,.int .i64 0,.int .u64 0,.int .i64 0,.int .u64 0] rfl rfl 48 #[.int .u8 0,.int .u8 0,.int .i64 0,.int .i64 0,.int .i64 0,.int .u64 0,.int .i64 0,.int .u64 0] ?hs0 (by as_aux_lemma=>kernel_rfl) (by as_aux_lemma=>kernel_rfl) (by as_aux_lemma=>kernel_rfl) ?_;exact hn.out)
 try simp only[Act.put]
 have HH:Hid (((w.alloc (.cells #[.int .u8 0,.int .u8 0,.int .i64 0,.int .i64 0,.int .i64 0,.int .u64 0,.int .i64 0,.int .u64 0] 48)).setRow w.heap.size #[.int .u8 9,.int .u8 0,.int .i64 0,.int .i64 0,.int .i64 0,.int .u64 0,.int .i64 0,.int .u64 0]).heap[w.heap.size]?=some (.cells #[.int .u8 9,.int .u8 0,.int .i64 0,.int .i64 0,.int .i64 0,.int .u64 0,.int .i64 0,.int .u64 0] 48 (0,0))):=setRow_heap _ _ _ _ _ _ hn.out
 have HB:=hid (below_row hbn (Nat.le_refl _) #[.int .u8 9,.int .u8 0,.int .i64 0,.int .i64 0,.int .i64 0,.int .u64 0,.int .i64 0,.int .u64 0])
 clear hn hbn
 generalize ((w.alloc (.cells #[.int .u8 0,.int .u8 0,.int .i64 0,.int .i64 0,.int .i64 0,.int .u64 0,.int .i64 0,.int .u64 0] 48)).setRow w.heap.size #[.int .u8 9,.int .u8 0,.int .i64 0,.int .i64 0,.int .i64 0,.int .u64 0,.int .i64 0,.int .u64 0])=W1 at *
 obtain⟨hh,hhh⟩:∃ hh,w.heap.size=hh:=⟨_,rfl⟩
 have HBh:Hid (Below w.heap.size w W1):=HB
 rw[hhh] at HH
 try rw[hhh]
 go_upto_region 3 with fail
 obtain⟨q0,q1,q2,hbz⟩:=chain3 W1 (.cells #[.string ⟨#[120]⟩,.int .u64 0] 65) (.cells #[.string ⟨#[121]⟩,.int .u64 0] 65) (.cells #[.string ⟨#[112]⟩,.int .u64 0] 65)
 generalize (((W1.alloc (.cells #[.string ⟨#[120]⟩,.int .u64 0] 65)).alloc (.cells #[.string ⟨#[121]⟩,.int .u64 0] 65)).alloc (.cells #[.string ⟨#[112]⟩,.int .u64 0] 65))=W2 at *
 replace HH:=hid ((hbz.block hh (gsFlJ HH.out)).trans HH.out)
 replace HBh:=hid (bcomp HBh.out hbz)
 obtain⟨ap,hap⟩:∃ n,W1.heap.size+1+1=n:=⟨_,rfl⟩
 try rw[hap] at q0
 try rw[hap] at q1
 try rw[hap] at q2
 try rw[hap]
 obtain⟨ay,hay⟩:∃ n,W1.heap.size+1=n:=⟨_,rfl⟩
 try rw[hay] at q0
 try rw[hay] at q1
 try rw[hay] at q2
 try rw[hay]
 obtain⟨ax,hax⟩:∃ n,W1.heap.size=n:=⟨_,rfl⟩
 try rw[hax] at q0
 try rw[hax] at q1
 try rw[hax] at q2
 try rw[hax]
 have Gax:=hid q0
 have Gay:=hid q1
 have Gap:=hid q2
 clear hbz q0 q1 q2 hax hay hap
 go_upto_region 4 with fail
 obtain⟨q0,q1,hbz⟩:=chain2 W2 (.cells #[.string ⟨#[120]⟩,.int .u64 0,.string ⟨#[]⟩,.int .u64 5] 65) (.cells #[.int .u8 10,.int .u8 0,.string ⟨#[]⟩,.string ⟨#[76]⟩,.slice none 0 0,.int .i64 0,.int .i64 0,.int .u8 1,.int .u8 4,.string ⟨#[120]⟩,.string ⟨#[]⟩,.slice (some ⟨W2.heap.size,0,none⟩) 2 2,.int .i64 0,.int .i64 0,.int .u8 9,.int .u8 0,.string ⟨#[]⟩,.string ⟨#[76]⟩,.slice (some ⟨ax,0,none⟩) 1 1,.int .i64 0,.int .i64 0] 60)
 generalize ((W2.alloc (.cells #[.string ⟨#[120]⟩,.int .u64 0,.string ⟨#[]⟩,.int .u64 5] 65)).alloc (.cells #[.int .u8 10,.int .u8 0,.string ⟨#[]⟩,.string ⟨#[76]⟩,.slice none 0 0,.int .i64 0,.int .i64 0,.int .u8 1,.int .u8 4,.string ⟨#[120]⟩,.string ⟨#[]⟩,.slice (some ⟨W2.heap.size,0,none⟩) 2 2,.int .i64 0,.int .i64 0,.int .u8 9,.int .u8 0,.string ⟨#[]⟩,.string ⟨#[76]⟩,.slice (some ⟨ax,0,none⟩) 1 1,.int .i64 0,.int .i64 0] 60))=W3 at *
 replace HH:=hid ((hbz.block hh (gsFlJ HH.out)).trans HH.out)
 replace Gax:=hid ((hbz.block ax (gsFlJ Gax.out)).trans Gax.out)
 replace Gay:=hid ((hbz.block ay (gsFlJ Gay.out)).trans Gay.out)
 replace Gap:=hid ((hbz.block ap (gsFlJ Gap.out)).trans Gap.out)
 replace HBh:=hid (bcomp HBh.out hbz)
 obtain⟨b3,hb3⟩:∃ n,W2.heap.size+1=n:=⟨_,rfl⟩
 try rw[hb3] at q0
 try rw[hb3] at q1
 try rw[hb3]
 obtain⟨a3,ha3⟩:∃ n,W2.heap.size=n:=⟨_,rfl⟩
 try rw[ha3] at q0
 try rw[ha3] at q1
 try rw[ha3]
 have Ga3:=hid q0
 have Gb3:=hid q1
 clear hbz q0 q1 ha3 hb3
 go_upto_region 5 with fail
 obtain⟨q0,q1,q2,hbz⟩:=chain3 W3 (.cells #[.string ⟨#[112]⟩] 9) (.cells #[.int .u8 1,.int .u8 2,.string ⟨#[121]⟩,.string ⟨#[]⟩,.slice (some ⟨ap,0,none⟩) 1 1,.int .i64 0,.int .i64 0,.int .u8 12,.int .u8 0,.string ⟨#[]⟩,.string ⟨#[]⟩,.slice (some ⟨ay,0,none⟩) 1 1,.int .i64 0,.int .i64 0] 60) (.cells #[.string ⟨#[102]⟩,.slice (some ⟨W3.heap.size,0,none⟩) 1 1,.slice (some ⟨W3.heap.size+1,0,none⟩) 2 2,.int .i64 0,.int .i64 0] 57)
 generalize (((W3.alloc (.cells #[.string ⟨#[112]⟩] 9)).alloc (.cells #[.int .u8 1,.int .u8 2,.string ⟨#[121]⟩,.string ⟨#[]⟩,.slice (some ⟨ap,0,none⟩) 1 1,.int .i64 0,.int .i64 0,.int .u8 12,.int .u8 0,.string ⟨#[]⟩,.string ⟨#[]⟩,.slice (some ⟨ay,0,none⟩) 1 1,.int .i64 0,.int .i64 0] 60)).alloc (.cells #[.string ⟨#[102]⟩,.slice (some ⟨W3.heap.size,0,none⟩) 1 1,.slice (some ⟨W3.heap.size+1,0,none⟩) 2 2,.int .i64 0,.int .i64 0] 57))=W4 at *
 replace HH:=hid ((hbz.block hh (gsFlJ HH.out)).trans HH.out)
 replace Gax:=hid ((hbz.block ax (gsFlJ Gax.out)).trans Gax.out)
 replace Gay:=hid ((hbz.block ay (gsFlJ Gay.out)).trans Gay.out)
 replace Gap:=hid ((hbz.block ap (gsFlJ Gap.out)).trans Gap.out)
 replace Ga3:=hid ((hbz.block a3 (gsFlJ Ga3.out)).trans Ga3.out)
 replace Gb3:=hid ((hbz.block b3 (gsFlJ Gb3.out)).trans Gb3.out)
 replace HBh:=hid (bcomp HBh.out hbz)
 obtain⟨e4,he4⟩:∃ n,W3.heap.size+1+1=n:=⟨_,rfl⟩
 try rw[he4] at q0
 try rw[he4] at q1
 try rw[he4] at q2
 try rw[he4]
 obtain⟨d4,hd4⟩:∃ n,W3.heap.size+1=n:=⟨_,rfl⟩
 try rw[hd4] at q0
 try rw[hd4] at q1
 try rw[hd4] at q2
 try rw[hd4]
 obtain⟨c4,hc4⟩:∃ n,W3.heap.size=n:=⟨_,rfl⟩
 try rw[hc4] at q0
 try rw[hc4] at q1
 try rw[hc4] at q2
 try rw[hc4]
 have Gc4:=hid q0
 have Gd4:=hid q1
 have Ge4:=hid q2
 clear hbz q0 q1 q2 hc4 hd4 he4
 go_upto_region 6 with fail
 obtain⟨q0,q1,hbz⟩:=chain2 W4 (.cells #[.string ⟨#[]⟩,.int .u64 3] 65) (.cells #[.int .u8 4,.int .u8 0,.string ⟨#[120]⟩,.string ⟨#[102]⟩,.slice (some ⟨W4.heap.size,0,none⟩) 1 1,.int .i64 0,.int .i64 0] 60)
 generalize ((W4.alloc (.cells #[.string ⟨#[]⟩,.int .u64 3] 65)).alloc (.cells #[.int .u8 4,.int .u8 0,.string ⟨#[120]⟩,.string ⟨#[102]⟩,.slice (some ⟨W4.heap.size,0,none⟩) 1 1,.int .i64 0,.int .i64 0] 60))=W5 at *
 replace HH:=hid ((hbz.block hh (gsFlJ HH.out)).trans HH.out)
 replace Gax:=hid ((hbz.block ax (gsFlJ Gax.out)).trans Gax.out)
 replace Gay:=hid ((hbz.block ay (gsFlJ Gay.out)).trans Gay.out)
 replace Gap:=hid ((hbz.block ap (gsFlJ Gap.out)).trans Gap.out)
 replace Ga3:=hid ((hbz.block a3 (gsFlJ Ga3.out)).trans Ga3.out)
 replace Gb3:=hid ((hbz.block b3 (gsFlJ Gb3.out)).trans Gb3.out)
 replace Gc4:=hid ((hbz.block c4 (gsFlJ Gc4.out)).trans Gc4.out)
 replace Gd4:=hid ((hbz.block d4 (gsFlJ Gd4.out)).trans Gd4.out)
 replace Ge4:=hid ((hbz.block e4 (gsFlJ Ge4.out)).trans Ge4.out)
 replace HBh:=hid (bcomp HBh.out hbz)
 obtain⟨b5,hb5⟩:∃ n,W4.heap.size+1=n:=⟨_,rfl⟩
 try rw[hb5] at q0
 try rw[hb5] at q1
 try rw[hb5]
 obtain⟨a5,ha5⟩:∃ n,W4.heap.size=n:=⟨_,rfl⟩
 try rw[ha5] at q0
 try rw[ha5] at q1
 try rw[ha5]
 have Ga5:=hid q0
 have Gb5:=hid q1
 clear hbz q0 q1 ha5 hb5
 go_upto_region 7 with fail
 obtain⟨q0,hbz⟩:=chain1 W5 (.cells #[.int .u8 4,.int .u8 0,.string ⟨#[120]⟩,.string ⟨#[102]⟩,.slice none 0 0,.int .i64 0,.int .i64 0] 60)
 generalize (W5.alloc (.cells #[.int .u8 4,.int .u8 0,.string ⟨#[120]⟩,.string ⟨#[102]⟩,.slice none 0 0,.int .i64 0,.int .i64 0] 60))=W6 at *
 replace HH:=hid ((hbz.block hh (gsFlJ HH.out)).trans HH.out)
 replace Gax:=hid ((hbz.block ax (gsFlJ Gax.out)).trans Gax.out)
 replace Gay:=hid ((hbz.block ay (gsFlJ Gay.out)).trans Gay.out)
 replace Gap:=hid ((hbz.block ap (gsFlJ Gap.out)).trans Gap.out)
 replace Ga3:=hid ((hbz.block a3 (gsFlJ Ga3.out)).trans Ga3.out)
 replace Gb3:=hid ((hbz.block b3 (gsFlJ Gb3.out)).trans Gb3.out)
 replace Gc4:=hid ((hbz.block c4 (gsFlJ Gc4.out)).trans Gc4.out)
 replace Gd4:=hid ((hbz.block d4 (gsFlJ Gd4.out)).trans Gd4.out)
 replace Ge4:=hid ((hbz.block e4 (gsFlJ Ge4.out)).trans Ge4.out)
 replace Ga5:=hid ((hbz.block a5 (gsFlJ Ga5.out)).trans Ga5.out)
 replace Gb5:=hid ((hbz.block b5 (gsFlJ Gb5.out)).trans Gb5.out)
 replace HBh:=hid (bcomp HBh.out hbz)
 obtain⟨b6,hb6⟩:∃ n,W5.heap.size=n:=⟨_,rfl⟩
 try rw[hb6] at q0
 try rw[hb6]
 have Gb6:=hid q0
 clear hbz q0 hb6
 go_upto_region 8 with fail
 obtain⟨q0,q1,hbz⟩:=chain2 W6 (.cells #[.string ⟨#[]⟩,.int .u64 7] 65) (.cells #[.int .u8 5,.int .u8 0,.string ⟨#[120]⟩,.string ⟨#[99]⟩,.slice none 0 0,.int .i64 0,.int .i64 0,.int .u8 6,.int .u8 0,.string ⟨#[]⟩,.string ⟨#[99]⟩,.slice (some ⟨W6.heap.size,0,none⟩) 1 1,.int .i64 0,.int .i64 0,.int .u8 7,.int .u8 0,.string ⟨#[121]⟩,.string ⟨#[115]⟩,.slice (some ⟨ax,0,none⟩) 1 1,.int .i64 0,.int .i64 0] 60)
 generalize ((W6.alloc (.cells #[.string ⟨#[]⟩,.int .u64 7] 65)).alloc (.cells #[.int .u8 5,.int .u8 0,.string ⟨#[120]⟩,.string ⟨#[99]⟩,.slice none 0 0,.int .i64 0,.int .i64 0,.int .u8 6,.int .u8 0,.string ⟨#[]⟩,.string ⟨#[99]⟩,.slice (some ⟨W6.heap.size,0,none⟩) 1 1,.int .i64 0,.int .i64 0,.int .u8 7,.int .u8 0,.string ⟨#[121]⟩,.string ⟨#[115]⟩,.slice (some ⟨ax,0,none⟩) 1 1,.int .i64 0,.int .i64 0] 60))=W7 at *
 replace HH:=hid ((hbz.block hh (gsFlJ HH.out)).trans HH.out)
 replace Gax:=hid ((hbz.block ax (gsFlJ Gax.out)).trans Gax.out)
 replace Gay:=hid ((hbz.block ay (gsFlJ Gay.out)).trans Gay.out)
 replace Gap:=hid ((hbz.block ap (gsFlJ Gap.out)).trans Gap.out)
 replace Ga3:=hid ((hbz.block a3 (gsFlJ Ga3.out)).trans Ga3.out)
 replace Gb3:=hid ((hbz.block b3 (gsFlJ Gb3.out)).trans Gb3.out)
 replace Gc4:=hid ((hbz.block c4 (gsFlJ Gc4.out)).trans Gc4.out)
 replace Gd4:=hid ((hbz.block d4 (gsFlJ Gd4.out)).trans Gd4.out)
 replace Ge4:=hid ((hbz.block e4 (gsFlJ Ge4.out)).trans Ge4.out)
 replace Ga5:=hid ((hbz.block a5 (gsFlJ Ga5.out)).trans Ga5.out)
 replace Gb5:=hid ((hbz.block b5 (gsFlJ Gb5.out)).trans Gb5.out)
 replace Gb6:=hid ((hbz.block b6 (gsFlJ Gb6.out)).trans Gb6.out)
 replace HBh:=hid (bcomp HBh.out hbz)
 obtain⟨b7,hb7⟩:∃ n,W6.heap.size+1=n:=⟨_,rfl⟩
 try rw[hb7] at q0
 try rw[hb7] at q1
 try rw[hb7]
 obtain⟨a7,ha7⟩:∃ n,W6.heap.size=n:=⟨_,rfl⟩
 try rw[ha7] at q0
 try rw[ha7] at q1
 try rw[ha7]
 have Ga7:=hid q0
 have Gb7:=hid q1
 clear hbz q0 q1 ha7 hb7
 have rx:RdArgs none W7 (.slice (some ⟨ax,0,none⟩) 1 1) [aX]:=rdA (l:=[aX]) Gax.out (by decide) (by decide)
 have ry:RdArgs none W7 (.slice (some ⟨ay,0,none⟩) 1 1) [aY]:=rdA (l:=[aY]) Gay.out (by decide) (by decide)
 have rp:RdArgs none W7 (.slice (some ⟨ap,0,none⟩) 1 1) [aP]:=rdA (l:=[aP]) Gap.out (by decide) (by decide)
 have r3:RdArgs none W7 (.slice (some ⟨a3,0,none⟩) 2 2) [aX,aN 5]:=rdA (l:=[aX,aN 5]) Ga3.out (by decide) (by decide)
 have r5:RdArgs none W7 (.slice (some ⟨a5,0,none⟩) 1 1) [aN 3]:=rdA (l:=[aN 3]) Ga5.out (by decide) (by decide)
 have r7:RdArgs none W7 (.slice (some ⟨a7,0,none⟩) 1 1) [aN 7]:=rdA (l:=[aN 7]) Ga7.out (by decide) (by decide)
 have rl:RdInstrs none W7 (.slice (some ⟨b3,0,none⟩) 3 3) loopI:=rdI (l:=[(⟨10,0,s0,sL,[],0,0⟩,.slice none 0 0),(⟨1,4,sx,s0,[aX,aN 5],0,0⟩,.slice (some ⟨a3,0,none⟩) 2 2),(⟨9,0,s0,sL,[aX],0,0⟩,.slice (some ⟨ax,0,none⟩) 1 1)]) Gb3.out (by simp) (by
  intro p hp;simp only[List.mem_cons,List.not_mem_nil,or_false] at hp;rcases hp with rfl|rfl|rfl
  ·exact okIns ⟨10,0,s0,sL,[],0,0⟩ (rdArgs_nil none W7) (by decide)
  ·exact okIns ⟨1,4,sx,s0,[aX,aN 5],0,0⟩ r3 (by decide)
  ·exact okIns ⟨9,0,s0,sL,[aX],0,0⟩ rx (by decide))
 have rd:RdInstrs none W7 (.slice (some ⟨d4,0,none⟩) 2 2) fnD.code:=rdI (l:=[(⟨1,2,sy,s0,[aP],0,0⟩,.slice (some ⟨ap,0,none⟩) 1 1),(⟨12,0,s0,s0,[aY],0,0⟩,.slice (some ⟨ay,0,none⟩) 1 1)]) Gd4.out (by simp) (by
  intro p hp;simp only[List.mem_cons,List.not_mem_nil,or_false] at hp;rcases hp with rfl|rfl
  ·exact okIns ⟨1,2,sy,s0,[aP],0,0⟩ rp (by decide)
  ·exact okIns ⟨12,0,s0,s0,[aY],0,0⟩ ry (by decide))
 have rc:RdInstrs none W7 (.slice (some ⟨b5,0,none⟩) 1 1) callI:=rdI (l:=[(⟨4,0,sx,sf,[aN 3],0,0⟩,.slice (some ⟨a5,0,none⟩) 1 1)]) Gb5.out (by simp) (by
  intro p hp;simp only[List.mem_cons,List.not_mem_nil,or_false] at hp;rcases hp with rfl
  ·exact okIns ⟨4,0,sx,sf,[aN 3],0,0⟩ r5 (by decide))
 have re:RdInstrs none W7 (.slice (some ⟨b6,0,none⟩) 1 1) emptyI:=rdI (l:=[(⟨4,0,sx,sf,[],0,0⟩,.slice none 0 0)]) Gb6.out (by simp) (by
  intro p hp;simp only[List.mem_cons,List.not_mem_nil,or_false] at hp;rcases hp with rfl
  ·exact okIns ⟨4,0,sx,sf,[],0,0⟩ (rdArgs_nil none W7) (by decide))
 have ri:RdInstrs none W7 (.slice (some ⟨b7,0,none⟩) 3 3) ioI:=rdI (l:=[(⟨5,0,sx,sc,[],0,0⟩,.slice none 0 0),(⟨6,0,s0,sc,[aN 7],0,0⟩,.slice (some ⟨a7,0,none⟩) 1 1),(⟨7,0,sy,ss,[aX],0,0⟩,.slice (some ⟨ax,0,none⟩) 1 1)]) Gb7.out (by simp) (by
  intro p hp;simp only[List.mem_cons,List.not_mem_nil,or_false] at hp;rcases hp with rfl|rfl|rfl
  ·exact okIns ⟨5,0,sx,sc,[],0,0⟩ (rdArgs_nil none W7) (by decide)
  ·exact okIns ⟨6,0,s0,sc,[aN 7],0,0⟩ r7 (by decide)
  ·exact okIns ⟨7,0,sy,ss,[aX],0,0⟩ rx (by decide))
 have rs:RdStrs none W7 (.slice (some ⟨c4,0,none⟩) 1 1) [sp]:=rdS (l:=[sp]) Gc4.out (by simp) (by decide)
 have HRF:Hid (RdFunc none W7 fnD (.slice (some ⟨c4,0,none⟩) 1 1) (.slice (some ⟨d4,0,none⟩) 2 2)):=⟨rs,rd,by decide,by decide,by decide⟩
 have Hrl:=hid rl
 have Hrc:=hid rc
 have Hre:=hid re
 have Hri:=hid ri
 have HL:=hid (HLw.out.keep HBh.out)
 have HM:=hid (HMw.out.keep HBh.out)
 clear rx ry rp r3 r5 r7 rl rd rc re ri rs Gax Gay Gap Ga3 Gb3 Gc4 Gd4 Ga5 Gb5 Gb6 Ga7 Gb7 HLw HMw
 go_upto_region 8 with fail
 try simp only[List.append_eq,List.cons_append,List.nil_append]
 refine wp_region_ownG [0,1] [⟨2,some 49,[]⟩,⟨3,some 50,[(2,some 49)]⟩,⟨4,some 51,[(3,some 50)]⟩,⟨5,some 52,[(4,some 51)]⟩,⟨6,some 53,[(5,some 52)]⟩,⟨7,some 54,[(5,some 52),(6,some 53)]⟩,⟨8,some 55,[(5,some 52)]⟩,⟨9,some 56,[(5,some 52)]⟩,⟨10,some 57,[(5,some 52),(8,some 55),(9,some 56)]⟩,⟨11,some 58,[(5,some 52)]⟩,⟨12,some 59,[(5,some 52),(11,some 58)]⟩,⟨13,some 60,[(5,some 52)]⟩,⟨14,some 61,[(5,some 52),(10,some 57),(12,some 59),(13,some 60)]⟩,⟨15,some 62,[(5,some 52),(7,some 54),(14,some 61)]⟩,⟨16,some 63,[(5,some 52),(15,some 62)]⟩,⟨17,some 64,[(5,some 52),(16,some 63)]⟩,⟨18,some 65,[(17,some 64)]⟩,⟨19,some 66,[(18,some 65)]⟩,⟨20,some 67,[(18,some 65),(19,some 66)]⟩,⟨21,some 68,[(18,some 65)]⟩,⟨22,some 69,[(18,some 65),(20,some 67),(21,some 68)]⟩,⟨23,some 70,[(18,some 65)]⟩,⟨24,some 71,[(18,some 65),(23,some 70)]⟩,⟨25,some 72,[(18,some 65)]⟩,⟨26,some 73,[(18,some 65),(24,some 71),(25,some 72)]⟩,⟨27,some 74,[(18,some 65),(22,some 69),(26,some 73)]⟩,⟨28,some 75,[(18,some 65),(27,some 74)]⟩] [29] [_] (fun j=>decide (29≤j))
  (fun j v w lo hi=>match j with
    | 2=>RowOf kCode w v 1 [⟨9,0,0,0,⟨0,0⟩,⟨0,0⟩⟩]
    | 3=>ValIs v (.bool true)
    | 4=>ValIs v (.bool false)
    | 5=>ValIs v (.bool false)
    | 6=>ValIs v (.slice (some ⟨b3,0,none⟩) 3 3)
    | 7=>ValIs v (.agg #[.int .i64 0,.slice none 0 0,.slice none 0 0,.slice none 0 0,.slice (some ⟨b3,0,none⟩) 3 3])
    | 8=>ValIs v (.agg #[.int .i64 0,.int .u64 0])
    | 9=>ValIs v (.agg #[.int .i64 (-1),.int .u64 1])
    | 10=>ValIs v (.agg #[.int .u8 1,.int .u8 4,.int .i64 0,.int .i64 0,.int .i64 0,.int .u64 0,.int .i64 (-1),.int .u64 1])
    | 11=>ValIs v (.agg #[.int .i64 0,.int .u64 0])
    | 12=>ValIs v (.agg #[.int .u8 8,.int .u8 0,.int .i64 0,.int .i64 0,.int .i64 0,.int .u64 0,.int .i64 0,.int .u64 0])
    | 13=>ValIs v (.agg #[.int .u8 9,.int .u8 0,.int .i64 0,.int .i64 0,.int .i64 0,.int .u64 0,.int .i64 0,.int .u64 0])
    | 14=>RowOf kCode w v 3 [⟨1,4,0,0,⟨0,0⟩,⟨-1,1⟩⟩,⟨8,0,0,0,⟨0,0⟩,⟨0,0⟩⟩,⟨9,0,0,0,⟨0,0⟩,⟨0,0⟩⟩]
    | 15=>ValIs v (.bool true)
    | 16=>ValIs v (.bool false)
    | 17=>ValIs v (.bool false)
    | 18=>ValIs v (.bool false)
    | 19=>ValIs v (.agg #[.string ⟨#[102]⟩,.slice none 0 0,.slice none 0 0,.int .i64 0,.int .i64 0])
    | 20=>FunsOf w v [fn0]
    | 21=>ValIs v (.slice (some ⟨b6,0,none⟩) 1 1)
    | 22=>ProgFn w v (.slice (some ⟨b6,0,none⟩) 1 1) [fn0]
    | 23=>ValIs v (.agg #[.int .i64 (-1),.int .u64 0])
    | 24=>ValIs v (.agg #[.int .u8 0,.int .u8 0,.int .i64 0,.int .i64 0,.int .i64 (-1),.int .u64 0,.int .i64 0,.int .u64 0])
    | 25=>ValIs v (.agg #[.int .u8 9,.int .u8 0,.int .i64 0,.int .i64 0,.int .i64 0,.int .u64 0,.int .i64 0,.int .u64 0])
    | 26=>RowOf kCode w v 2 [⟨0,0,0,0,⟨-1,0⟩,⟨0,0⟩⟩,⟨9,0,0,0,⟨0,0⟩,⟨0,0⟩⟩]
    | 27=>ValIs v (.bool true)
    | 28=>ValIs v (.bool false)
    | _=>True) (by kernel_rfl) (by kernel_rfl) rfl (by kernel_rfl) rfl rfl (fun _ d _ _ _ h=>by cases d <;> exact h) ?_ ?_
 ·intro j v w w' lo hi hy hbw
  match j,hy with
  | 2,hy=>exact RowOf.keep hy hbw
  | 3,hy=>exact hy
  | 4,hy=>exact hy
  | 5,hy=>exact hy
  | 6,hy=>exact hy
  | 7,hy=>exact hy
  | 8,hy=>exact hy
  | 9,hy=>exact hy
  | 10,hy=>exact hy
  | 11,hy=>exact hy
  | 12,hy=>exact hy
  | 13,hy=>exact hy
  | 14,hy=>exact RowOf.keep hy hbw
  | 15,hy=>exact hy
  | 16,hy=>exact hy
  | 17,hy=>exact hy
  | 18,hy=>exact hy
  | 19,hy=>exact hy
  | 20,hy=>exact FunsOf.keep hy hbw
  | 21,hy=>exact hy
  | 22,hy=>exact ProgFn.keep hy hbw
  | 23,hy=>exact hy
  | 24,hy=>exact hy
  | 25,hy=>exact hy
  | 26,hy=>exact RowOf.keep hy hbw
  | 27,hy=>exact hy
  | 28,hy=>exact hy
  | 0,_|1,_|(x+29),_=>trivial
 have l0:=ext_cell (W:=W7) (row_of HH.out 0 (.int .u8 9) rfl)
 have l1:=ext_cell (W:=W7) (row_of HH.out 1 (.int .u8 0) rfl)
 have l2:=ext_cell (W:=W7) (row_of HH.out 2 (.int .i64 0) rfl)
 have l3:=ext_cell (W:=W7) (row_of HH.out 3 (.int .i64 0) rfl)
 have l4:=ext_cell (W:=W7) (row_of HH.out 4 (.int .i64 0) rfl)
 have l5:=ext_cell (W:=W7) (row_of HH.out 5 (.int .u64 0) rfl)
 have l6:=ext_cell (W:=W7) (row_of HH.out 6 (.int .i64 0) rfl)
 have l7:=ext_cell (W:=W7) (row_of HH.out 7 (.int .u64 0) rfl)
 refine mix_reads (by simp only[opsOf,List.filterMap_cons,List.filterMap_nil,List.getElem?_toArray,List.getElem?_cons_succ,List.getElem?_cons_zero];rfl) ⟨_,ext_of (Below.refl _ _).drew⟩ ?_
 change wpQuiet _ _ _ _ [_,_] _
 (repeat (go_big_quiet_step (fail)))
 refine wpQuiet_nil ?_
 clear l0 l1 l2 l3 l4 l5 l6 l7
 have HD:Hid (Below W7.heap.size W7 W7.drew):=(Below.refl _ _).drew
 refine⟨⟨fun vs wn hb hn=>?_,fun vs wn hb hn=>?_,fun vs wn hb hn=>?_,fun vs wn hb hn=>?_,fun vs wn hb hn=>?_,fun vs wn hb hn=>?_,fun vs wn hb hn=>?_,fun vs wn hb hn=>?_,fun vs wn hb hn=>?_,fun vs wn hb hn=>?_,fun vs wn hb hn=>?_,fun vs wn hb hn=>?_,fun vs wn hb hn=>?_,fun vs wn hb hn=>?_,fun vs wn hb hn=>?_,fun vs wn hb hn=>?_,fun vs wn hb hn=>?_,fun vs wn hb hn=>?_,fun vs wn hb hn=>?_,fun vs wn hb hn=>?_,fun vs wn hb hn=>?_,fun vs wn hb hn=>?_,fun vs wn hb hn=>?_,fun vs wn hb hn=>?_,fun vs wn hb hn=>?_,fun vs wn hb hn=>?_,fun vs wn hb hn=>?_,trivial⟩,fun vs wn hb hy hd=>?_⟩
 ·have HBN:=hid (bcomp HD.out hb)
  clear hn hb
  refine mix_step rfl ?_
  simp only[pv]
  go_wp2_with fail
  exact⟨_,rfl,(Below.refl _ _).alloc (Nat.le_refl _) _,wn.heap.size,rfl,rowNewF kCode (l:=[⟨9,0,0,0,⟨0,0⟩,⟨0,0⟩⟩]) (heap_alloc_new _ _) rfl (by decide) (by decide)⟩
 ·have HBN:=hid (bcomp HD.out hb)
  obtain⟨g0,e0,h0⟩:=hn (2,some 49) (by simp)
  rw[e0] at h0
  clear hn hb
  have hmk:=hid (makes_any ⟨0,[],[],[],[]⟩ (.slice none 0 0) (.slice none 0 0) (.slice none 0 0) (.slice none 0 0) _ ⟨2,0,[],[],[],[haltC]⟩ wn ⟨rdStrs_nil _ _,rdArrs_nil _ _,rdFuncs_nil _ _,rdInstrs_nil _ _,by decide⟩ (HL.out.keep HBN.out) flA rfl h0)
  refine mix_step rfl ?_
  simp only[pv]
  rw[e0]
  go_wp2_with (go_at_call 46;refine hmk.out.mono ?_;rintro e w1 ⟨rfl,hb1⟩)
  exact⟨_,rfl,hb1,rfl⟩
 ·have HBN:=hid (bcomp HD.out hb)
  have e0:(vs 3).1=.bool true:=hn (3,some 50) (by simp)
  clear hn hb
  refine mix_step rfl ?_
  simp only[pv]
  rw[e0]
  go_wp2_with fail
  exact⟨_,rfl,Below.refl _ _,rfl⟩
 ·have HBN:=hid (bcomp HD.out hb)
  have e0:(vs 4).1=.bool false:=hn (4,some 51) (by simp)
  clear hn hb
  refine mix_step rfl ?_
  simp only[pv]
  rw[e0]
  go_wp2_with fail
  exact⟨_,rfl,Below.refl _ _,rfl⟩
 ·have HBN:=hid (bcomp HD.out hb)
  have e0:(vs 5).1=.bool false:=hn (5,some 52) (by simp)
  clear hn hb
  refine mix_step rfl ?_
  simp only[pv]
  rw[e0]
  go_wp2_with fail
  exact⟨_,rfl,Below.refl _ _,rfl⟩
 ·have HBN:=hid (bcomp HD.out hb)
  have e0:(vs 5).1=.bool false:=hn (5,some 52) (by simp)
  have e1:(vs 6).1=.slice (some ⟨b3,0,none⟩) 3 3:=hn (6,some 53) (by simp)
  clear hn hb
  refine mix_step rfl ?_
  simp only[pv]
  rw[e0,e1]
  go_wp2_with fail
  exact⟨_,rfl,Below.refl _ _,rfl⟩
 ·have HBN:=hid (bcomp HD.out hb)
  have e0:(vs 5).1=.bool false:=hn (5,some 52) (by simp)
  clear hn hb
  refine mix_step rfl ?_
  simp only[pv]
  rw[e0]
  go_wp2_with (go_at_call 47;refine (reg25_any _ _).mono ?_;rintro e w1 ⟨rfl,hb1⟩)
  exact⟨_,rfl,hb1,rfl⟩
 ·have HBN:=hid (bcomp HD.out hb)
  have e0:(vs 5).1=.bool false:=hn (5,some 52) (by simp)
  clear hn hb
  refine mix_step rfl ?_
  simp only[pv]
  rw[e0]
  go_wp2_with (go_at_call 48;refine (num25_any _ _).mono ?_;rintro e w1 ⟨rfl,hb1⟩)
  exact⟨_,rfl,hb1,rfl⟩
 ·have HBN:=hid (bcomp HD.out hb)
  have e0:(vs 5).1=.bool false:=hn (5,some 52) (by simp)
  have e1:(vs 8).1=.agg #[.int .i64 0,.int .u64 0]:=hn (8,some 55) (by simp)
  have e2:(vs 9).1=.agg #[.int .i64 (-1),.int .u64 1]:=hn (9,some 56) (by simp)
  clear hn hb
  refine mix_step rfl ?_
  simp only[pv]
  rw[e0,e1,e2]
  go_wp2_with fail
  exact⟨_,rfl,Below.refl _ _,rfl⟩
 ·have HBN:=hid (bcomp HD.out hb)
  have e0:(vs 5).1=.bool false:=hn (5,some 52) (by simp)
  clear hn hb
  refine mix_step rfl ?_
  simp only[pv]
  rw[e0]
  go_wp2_with (go_at_call 47;refine (reg25_any _ _).mono ?_;rintro e w1 ⟨rfl,hb1⟩)
  exact⟨_,rfl,hb1,rfl⟩
 ·have HBN:=hid (bcomp HD.out hb)
  have e0:(vs 5).1=.bool false:=hn (5,some 52) (by simp)
  have e1:(vs 11).1=.agg #[.int .i64 0,.int .u64 0]:=hn (11,some 58) (by simp)
  clear hn hb
  refine mix_step rfl ?_
  simp only[pv]
  rw[e0,e1]
  go_wp2_with fail
  exact⟨_,rfl,Below.refl _ _,rfl⟩
 ·have HBN:=hid (bcomp HD.out hb)
  have e0:(vs 5).1=.bool false:=hn (5,some 52) (by simp)
  clear hn hb
  have hq:=(HBN.out.block hh (gsFlJ HH.out)).trans HH.out
  have l0:=row_of hq 0 (.int .u8 9) rfl
  have l1:=row_of hq 1 (.int .u8 0) rfl
  have l2:=row_of hq 2 (.int .i64 0) rfl
  have l3:=row_of hq 3 (.int .i64 0) rfl
  have l4:=row_of hq 4 (.int .i64 0) rfl
  have l5:=row_of hq 5 (.int .u64 0) rfl
  have l6:=row_of hq 6 (.int .i64 0) rfl
  have l7:=row_of hq 7 (.int .u64 0) rfl
  clear hq
  refine mix_step rfl ?_
  simp only[pv]
  rw[e0]
  go_wp2_with fail
  exact⟨_,rfl,Below.refl _ _,rfl⟩
 ·have HBN:=hid (bcomp HD.out hb)
  have e0:(vs 5).1=.bool false:=hn (5,some 52) (by simp)
  have e1:(vs 10).1=.agg #[.int .u8 1,.int .u8 4,.int .i64 0,.int .i64 0,.int .i64 0,.int .u64 0,.int .i64 (-1),.int .u64 1]:=hn (10,some 57) (by simp)
  have e2:(vs 12).1=.agg #[.int .u8 8,.int .u8 0,.int .i64 0,.int .i64 0,.int .i64 0,.int .u64 0,.int .i64 0,.int .u64 0]:=hn (12,some 59) (by simp)
  have e3:(vs 13).1=.agg #[.int .u8 9,.int .u8 0,.int .i64 0,.int .i64 0,.int .i64 0,.int .u64 0,.int .i64 0,.int .u64 0]:=hn (13,some 60) (by simp)
  clear hn hb
  refine mix_step rfl ?_
  simp only[pv]
  rw[e0,e1,e2,e3]
  go_wp2_with fail
  exact⟨_,rfl,(Below.refl _ _).alloc (Nat.le_refl _) _,wn.heap.size,rfl,rowNewF kCode (l:=[⟨1,4,0,0,⟨0,0⟩,⟨-1,1⟩⟩,⟨8,0,0,0,⟨0,0⟩,⟨0,0⟩⟩,⟨9,0,0,0,⟨0,0⟩,⟨0,0⟩⟩]) (heap_alloc_new _ _) rfl (by decide) (by decide)⟩
 ·have HBN:=hid (bcomp HD.out hb)
  have e0:(vs 5).1=.bool false:=hn (5,some 52) (by simp)
  have e1:(vs 7).1=.agg #[.int .i64 0,.slice none 0 0,.slice none 0 0,.slice none 0 0,.slice (some ⟨b3,0,none⟩) 3 3]:=hn (7,some 54) (by simp)
  obtain⟨g2,e2,h2⟩:=hn (14,some 61) (by simp)
  rw[e2] at h2
  clear hn hb
  have hmk:=hid (makes_any ⟨0,[],[],[],loopI⟩ (.slice none 0 0) (.slice none 0 0) (.slice none 0 0) (.slice (some ⟨b3,0,none⟩) 3 3) _ ⟨2,1,[],[],[],cB⟩ wn ⟨rdStrs_nil _ _,rdArrs_nil _ _,rdFuncs_nil _ _,Hrl.out.keep HBN.out,by decide⟩ (HL.out.keep HBN.out) flB rfl h2)
  refine mix_step rfl ?_
  simp only[pv]
  rw[e0,e1,e2]
  go_wp2_with (go_at_call 46;refine hmk.out.mono ?_;rintro e w1 ⟨rfl,hb1⟩)
  exact⟨_,rfl,hb1,rfl⟩
 ·have HBN:=hid (bcomp HD.out hb)
  have e0:(vs 5).1=.bool false:=hn (5,some 52) (by simp)
  have e1:(vs 15).1=.bool true:=hn (15,some 62) (by simp)
  clear hn hb
  refine mix_step rfl ?_
  simp only[pv]
  rw[e0,e1]
  go_wp2_with fail
  exact⟨_,rfl,Below.refl _ _,rfl⟩
 ·have HBN:=hid (bcomp HD.out hb)
  have e0:(vs 5).1=.bool false:=hn (5,some 52) (by simp)
  have e1:(vs 16).1=.bool false:=hn (16,some 63) (by simp)
  clear hn hb
  refine mix_step rfl ?_
  simp only[pv]
  rw[e0,e1]
  go_wp2_with fail
  exact⟨_,rfl,Below.refl _ _,rfl⟩
 ·have HBN:=hid (bcomp HD.out hb)
  have e0:(vs 17).1=.bool false:=hn (17,some 64) (by simp)
  clear hn hb
  refine mix_step rfl ?_
  simp only[pv]
  rw[e0]
  go_wp2_with fail
  exact⟨_,rfl,Below.refl _ _,rfl⟩
 ·have HBN:=hid (bcomp HD.out hb)
  have e0:(vs 18).1=.bool false:=hn (18,some 65) (by simp)
  clear hn hb
  refine mix_step rfl ?_
  simp only[pv]
  rw[e0]
  go_wp2_with fail
  exact⟨_,rfl,Below.refl _ _,rfl⟩
 ·have HBN:=hid (bcomp HD.out hb)
  have e0:(vs 18).1=.bool false:=hn (18,some 65) (by simp)
  have e1:(vs 19).1=.agg #[.string ⟨#[102]⟩,.slice none 0 0,.slice none 0 0,.int .i64 0,.int .i64 0]:=hn (19,some 66) (by simp)
  clear hn hb
  refine mix_step rfl ?_
  simp only[pv]
  rw[e0,e1]
  go_wp2_with fail
  have hal:=(Below.refl wn.heap.size wn).alloc (Nat.le_refl _) (.cells #[.string ⟨#[102]⟩,.slice none 0 0,.slice none 0 0,.int .i64 0,.int .i64 0] 57)
  exact⟨_,rfl,hal,wn.heap.size,rfl,rdFn1 (x:=fn0) (heap_alloc_new _ _) (⟨rdStrs_nil _ _,rdInstrs_nil _ _,by decide,by decide,by decide⟩)⟩
 ·have HBN:=hid (bcomp HD.out hb)
  have e0:(vs 18).1=.bool false:=hn (18,some 65) (by simp)
  clear hn hb
  refine mix_step rfl ?_
  simp only[pv]
  rw[e0]
  go_wp2_with fail
  exact⟨_,rfl,Below.refl _ _,rfl⟩
 ·have HBN:=hid (bcomp HD.out hb)
  have e0:(vs 18).1=.bool false:=hn (18,some 65) (by simp)
  obtain⟨g1,e1,h1⟩:=hn (20,some 67) (by simp)
  rw[e1] at h1
  have e2:(vs 21).1=.slice (some ⟨b6,0,none⟩) 1 1:=hn (21,some 68) (by simp)
  clear hn hb
  refine mix_step rfl ?_
  simp only[pv]
  rw[e0,e1,e2]
  go_wp2_with fail
  exact⟨_,rfl,Below.refl _ _,g1,rfl,h1⟩
 ·have HBN:=hid (bcomp HD.out hb)
  have e0:(vs 18).1=.bool false:=hn (18,some 65) (by simp)
  clear hn hb
  refine mix_step rfl ?_
  simp only[pv]
  rw[e0]
  go_wp2_with (go_at_call 48;refine (num25_any _ _).mono ?_;rintro e w1 ⟨rfl,hb1⟩)
  exact⟨_,rfl,hb1,rfl⟩
 ·have HBN:=hid (bcomp HD.out hb)
  have e0:(vs 18).1=.bool false:=hn (18,some 65) (by simp)
  have e1:(vs 23).1=.agg #[.int .i64 (-1),.int .u64 0]:=hn (23,some 70) (by simp)
  clear hn hb
  refine mix_step rfl ?_
  simp only[pv]
  rw[e0,e1]
  go_wp2_with fail
  exact⟨_,rfl,Below.refl _ _,rfl⟩
 ·have HBN:=hid (bcomp HD.out hb)
  have e0:(vs 18).1=.bool false:=hn (18,some 65) (by simp)
  clear hn hb
  have hq:=(HBN.out.block hh (gsFlJ HH.out)).trans HH.out
  have l0:=row_of hq 0 (.int .u8 9) rfl
  have l1:=row_of hq 1 (.int .u8 0) rfl
  have l2:=row_of hq 2 (.int .i64 0) rfl
  have l3:=row_of hq 3 (.int .i64 0) rfl
  have l4:=row_of hq 4 (.int .i64 0) rfl
  have l5:=row_of hq 5 (.int .u64 0) rfl
  have l6:=row_of hq 6 (.int .i64 0) rfl
  have l7:=row_of hq 7 (.int .u64 0) rfl
  clear hq
  refine mix_step rfl ?_
  simp only[pv]
  rw[e0]
  go_wp2_with fail
  exact⟨_,rfl,Below.refl _ _,rfl⟩
 ·have HBN:=hid (bcomp HD.out hb)
  have e0:(vs 18).1=.bool false:=hn (18,some 65) (by simp)
  have e1:(vs 24).1=.agg #[.int .u8 0,.int .u8 0,.int .i64 0,.int .i64 0,.int .i64 (-1),.int .u64 0,.int .i64 0,.int .u64 0]:=hn (24,some 71) (by simp)
  have e2:(vs 25).1=.agg #[.int .u8 9,.int .u8 0,.int .i64 0,.int .i64 0,.int .i64 0,.int .u64 0,.int .i64 0,.int .u64 0]:=hn (25,some 72) (by simp)
  clear hn hb
  refine mix_step rfl ?_
  simp only[pv]
  rw[e0,e1,e2]
  go_wp2_with fail
  exact⟨_,rfl,(Below.refl _ _).alloc (Nat.le_refl _) _,wn.heap.size,rfl,rowNewF kCode (l:=[⟨0,0,0,0,⟨-1,0⟩,⟨0,0⟩⟩,⟨9,0,0,0,⟨0,0⟩,⟨0,0⟩⟩]) (heap_alloc_new _ _) rfl (by decide) (by decide)⟩
 ·have HBN:=hid (bcomp HD.out hb)
  have e0:(vs 18).1=.bool false:=hn (18,some 65) (by simp)
  obtain⟨g1,e1,h1⟩:=hn (22,some 69) (by simp)
  obtain⟨g2,e2,h2⟩:=hn (26,some 73) (by simp)
  rw[e2] at h2
  clear hn hb
  have hmk:=hid (makes_any ⟨0,[],[],[fn0],emptyI⟩ (.slice none 0 0) (.slice none 0 0) _ (.slice (some ⟨b6,0,none⟩) 1 1) _ ⟨2,1,[],[],[],cC⟩ wn ⟨rdStrs_nil _ _,rdArrs_nil _ _,h1,Hre.out.keep HBN.out,by decide⟩ (HL.out.keep HBN.out) flC rfl h2)
  refine mix_step rfl ?_
  simp only[pv]
  rw[e0,e1,e2]
  go_wp2_with (go_at_call 46;refine hmk.out.mono ?_;rintro e w1 ⟨rfl,hb1⟩)
  exact⟨_,rfl,hb1,rfl⟩
 ·have HBN:=hid (bcomp HD.out hb)
  have e0:(vs 18).1=.bool false:=hn (18,some 65) (by simp)
  have e1:(vs 27).1=.bool true:=hn (27,some 74) (by simp)
  clear hn hb
  refine mix_step rfl ?_
  simp only[pv]
  rw[e0,e1]
  go_wp2_with fail
  exact⟨_,rfl,Below.refl _ _,rfl⟩
 obtain⟨ym,-⟩:=hy ⟨28,some 75,[(18,some 65),(27,some 74)]⟩ (by simp)
 have em:(vs 28).1=.bool false:=ym
 obtain⟨yg18,-⟩:=hy ⟨18,some 65,[(17,some 64)]⟩ (by simp)
 have eg18:(vs 18).1=.bool false:=yg18
 replace HBh:=hid (bcomp HBh.out (bcomp HD.out hb))
 have hbz:=bcomp HD.out hb
 replace HH:=hid ((hbz.block hh (gsFlJ HH.out)).trans HH.out)
 replace Ge4:=hid ((hbz.block e4 (gsFlJ Ge4.out)).trans Ge4.out)
 replace Hrl:=hid (Hrl.out.keep hbz)
 replace Hrc:=hid (Hrc.out.keep hbz)
 replace Hre:=hid (Hre.out.keep hbz)
 replace Hri:=hid (Hri.out.keep hbz)
 replace HL:=hid (HL.out.keep hbz)
 replace HM:=hid (HM.out.keep hbz)
 replace HRF:Hid (RdFunc none wn fnD (.slice (some ⟨c4,0,none⟩) 1 1) (.slice (some ⟨d4,0,none⟩) 2 2)):=⟨HRF.out.1.keep hbz,HRF.out.2.1.keep hbz,HRF.out.2.2⟩
 clear hy hd hb hbz HD ym yg18
 simp only[List.map,Maker.pr,pv]
 rw[em,eg18]
 clear em eg18
 simp only[Act.put,List.setIfInBounds_toArray,List.set_cons_succ,List.set_cons_zero,List.getElem_toArray,List.getElem_cons_succ,List.getElem_cons_zero]
 obtain⟨V8,rfl⟩:∃ x:World,x=wn:=⟨_,rfl⟩
 go_upto_region 10 with fail
 try simp only[List.append_eq,List.cons_append,List.nil_append]
 refine wp_region_ownG [0,2,12,15] [⟨1,some 78,[]⟩,⟨3,some 80,[(1,some 78)]⟩,⟨4,some 81,[]⟩,⟨5,some 82,[(4,some 81)]⟩,⟨6,some 83,[]⟩,⟨7,some 84,[(6,some 83)]⟩,⟨8,some 85,[]⟩,⟨9,some 86,[(8,some 85)]⟩,⟨10,some 87,[]⟩,⟨11,some 88,[(10,some 87)]⟩,⟨13,some 90,[]⟩,⟨14,some 91,[(13,some 90)]⟩,⟨16,some 93,[(5,some 82),(7,some 84),(9,some 86),(11,some 88),(14,some 91)]⟩,⟨17,some 94,[(3,some 80),(16,some 93)]⟩] [18] [_] (fun j=>decide (18≤j))
  (fun j v w lo hi=>match j with
    | 1=>FunsOf w v [fnD]
    | 3=>ProgFn w v (.slice (some ⟨b5,0,none⟩) 1 1) [fnD]
    | 4=>ValIs v (.agg #[.int .i64 (-1),.int .u64 3])
    | 5=>ValIs v (.agg #[.int .u8 0,.int .u8 0,.int .i64 1,.int .i64 0,.int .i64 (-1),.int .u64 3,.int .i64 0,.int .u64 0])
    | 6=>ValIs v (.agg #[.int .i64 (-1),.int .u64 0])
    | 7=>ValIs v (.agg #[.int .u8 0,.int .u8 0,.int .i64 2,.int .i64 0,.int .i64 (-1),.int .u64 0,.int .i64 0,.int .u64 0])
    | 8=>ValIs v (.agg #[.int .i64 1,.int .u64 0])
    | 9=>ValIs v (.agg #[.int .u8 1,.int .u8 2,.int .i64 2,.int .i64 0,.int .i64 1,.int .u64 0,.int .i64 0,.int .u64 0])
    | 10=>ValIs v (.agg #[.int .i64 2,.int .u64 0])
    | 11=>ValIs v (.agg #[.int .u8 0,.int .u8 0,.int .i64 0,.int .i64 0,.int .i64 2,.int .u64 0,.int .i64 0,.int .u64 0])
    | 13=>ValIs v (.agg #[.int .i64 (-1),.int .u64 0])
    | 14=>ValIs v (.agg #[.int .u8 0,.int .u8 0,.int .i64 0,.int .i64 0,.int .i64 (-1),.int .u64 0,.int .i64 0,.int .u64 0])
    | 16=>RowOf kCode w v 7 [⟨0,0,1,0,⟨-1,3⟩,⟨0,0⟩⟩,⟨0,0,2,0,⟨-1,0⟩,⟨0,0⟩⟩,⟨1,2,2,0,⟨1,0⟩,⟨0,0⟩⟩,⟨0,0,0,0,⟨2,0⟩,⟨0,0⟩⟩,⟨7,0,0,6,⟨0,0⟩,⟨0,0⟩⟩,⟨0,0,0,0,⟨-1,0⟩,⟨0,0⟩⟩,⟨9,0,0,0,⟨0,0⟩,⟨0,0⟩⟩]
    | 17=>ValIs v (.bool true)
    | _=>True) (by kernel_rfl) (by kernel_rfl) rfl (by kernel_rfl) rfl rfl (fun _ d _ _ _ h=>by cases d <;> exact h) ?_ ?_
 ·intro j v w w' lo hi hy hbw
  match j,hy with
  | 1,hy=>exact FunsOf.keep hy hbw
  | 3,hy=>exact ProgFn.keep hy hbw
  | 4,hy=>exact hy
  | 5,hy=>exact hy
  | 6,hy=>exact hy
  | 7,hy=>exact hy
  | 8,hy=>exact hy
  | 9,hy=>exact hy
  | 10,hy=>exact hy
  | 11,hy=>exact hy
  | 13,hy=>exact hy
  | 14,hy=>exact hy
  | 16,hy=>exact RowOf.keep hy hbw
  | 17,hy=>exact hy
  | 0,_|2,_|12,_|15,_|(x+18),_=>trivial
 have l0:=ext_cell (W:=V8) (row_of HH.out 0 (.int .u8 9) rfl)
 have l1:=ext_cell (W:=V8) (row_of HH.out 1 (.int .u8 0) rfl)
 have l2:=ext_cell (W:=V8) (row_of HH.out 2 (.int .i64 0) rfl)
 have l3:=ext_cell (W:=V8) (row_of HH.out 3 (.int .i64 0) rfl)
 have l4:=ext_cell (W:=V8) (row_of HH.out 4 (.int .i64 0) rfl)
 have l5:=ext_cell (W:=V8) (row_of HH.out 5 (.int .u64 0) rfl)
 have l6:=ext_cell (W:=V8) (row_of HH.out 6 (.int .i64 0) rfl)
 have l7:=ext_cell (W:=V8) (row_of HH.out 7 (.int .u64 0) rfl)
 have m0:=ext_cell (W:=V8) (row_of Ge4.out 0 (.string ⟨#[102]⟩) rfl)
 have m1:=ext_cell (W:=V8) (row_of Ge4.out 1 (.slice (some ⟨c4,0,none⟩) 1 1) rfl)
 have m2:=ext_cell (W:=V8) (row_of Ge4.out 2 (.slice (some ⟨d4,0,none⟩) 2 2) rfl)
 have m3:=ext_cell (W:=V8) (row_of Ge4.out 3 (.int .i64 0) rfl)
 have m4:=ext_cell (W:=V8) (row_of Ge4.out 4 (.int .i64 0) rfl)
 refine mix_reads (by simp only[opsOf,List.filterMap_cons,List.filterMap_nil,List.getElem?_toArray,List.getElem?_cons_succ,List.getElem?_cons_zero];rfl) ⟨_,ext_of (Below.refl _ _).drew⟩ ?_
 change wpQuiet _ _ _ _ [_,_,_,_] _
 (repeat (go_big_quiet_step (fail)))
 refine wpQuiet_nil ?_
 clear l0 l1 l2 l3 l4 l5 l6 l7 m0 m1 m2 m3 m4
 have HD:Hid (Below V8.heap.size V8 V8.drew):=(Below.refl _ _).drew
 refine⟨⟨fun vs wn hb hn=>?_,fun vs wn hb hn=>?_,fun vs wn hb hn=>?_,fun vs wn hb hn=>?_,fun vs wn hb hn=>?_,fun vs wn hb hn=>?_,fun vs wn hb hn=>?_,fun vs wn hb hn=>?_,fun vs wn hb hn=>?_,fun vs wn hb hn=>?_,fun vs wn hb hn=>?_,fun vs wn hb hn=>?_,fun vs wn hb hn=>?_,fun vs wn hb hn=>?_,trivial⟩,fun vs wn hb hy hd=>?_⟩
 ·have HBN:=hid (bcomp HD.out hb)
  clear hn hb
  refine mix_step rfl ?_
  simp only[pv]
  go_wp2_with fail
  have hal:=(Below.refl wn.heap.size wn).alloc (Nat.le_refl _) (.cells #[.string ⟨#[102]⟩,.slice (some ⟨c4,0,none⟩) 1 1,.slice (some ⟨d4,0,none⟩) 2 2,.int .i64 0,.int .i64 0] 57)
  exact⟨_,rfl,hal,wn.heap.size,rfl,rdFn1 (x:=fnD) (heap_alloc_new _ _) (⟨HRF.out.1.keep (bcomp HBN.out hal),HRF.out.2.1.keep (bcomp HBN.out hal),HRF.out.2.2⟩)⟩
 ·have HBN:=hid (bcomp HD.out hb)
  obtain⟨g0,e0,h0⟩:=hn (1,some 78) (by simp)
  rw[e0] at h0
  clear hn hb
  refine mix_step rfl ?_
  simp only[pv]
  rw[e0]
  go_wp2_with fail
  exact⟨_,rfl,Below.refl _ _,g0,rfl,h0⟩
 ·have HBN:=hid (bcomp HD.out hb)
  clear hn hb
  refine mix_step rfl ?_
  simp only[pv]
  go_wp2_with (go_at_call 48;refine (num25_any _ _).mono ?_;rintro e w1 ⟨rfl,hb1⟩)
  exact⟨_,rfl,hb1,rfl⟩
 ·have HBN:=hid (bcomp HD.out hb)
  have e0:(vs 4).1=.agg #[.int .i64 (-1),.int .u64 3]:=hn (4,some 81) (by simp)
  clear hn hb
  refine mix_step rfl ?_
  simp only[pv]
  rw[e0]
  go_wp2_with fail
  exact⟨_,rfl,Below.refl _ _,rfl⟩
 ·have HBN:=hid (bcomp HD.out hb)
  clear hn hb
  refine mix_step rfl ?_
  simp only[pv]
  go_wp2_with (go_at_call 48;refine (num25_any _ _).mono ?_;rintro e w1 ⟨rfl,hb1⟩)
  exact⟨_,rfl,hb1,rfl⟩
 ·have HBN:=hid (bcomp HD.out hb)
  have e0:(vs 6).1=.agg #[.int .i64 (-1),.int .u64 0]:=hn (6,some 83) (by simp)
  clear hn hb
  refine mix_step rfl ?_
  simp only[pv]
  rw[e0]
  go_wp2_with fail
  exact⟨_,rfl,Below.refl _ _,rfl⟩
 ·have HBN:=hid (bcomp HD.out hb)
  clear hn hb
  refine mix_step rfl ?_
  simp only[pv]
  go_wp2_with (go_at_call 47;refine (reg25_any _ _).mono ?_;rintro e w1 ⟨rfl,hb1⟩)
  exact⟨_,rfl,hb1,rfl⟩
 ·have HBN:=hid (bcomp HD.out hb)
  have e0:(vs 8).1=.agg #[.int .i64 1,.int .u64 0]:=hn (8,some 85) (by simp)
  clear hn hb
  refine mix_step rfl ?_
  simp only[pv]
  rw[e0]
  go_wp2_with fail
  exact⟨_,rfl,Below.refl _ _,rfl⟩
 ·have HBN:=hid (bcomp HD.out hb)
  clear hn hb
  refine mix_step rfl ?_
  simp only[pv]
  go_wp2_with (go_at_call 47;refine (reg25_any _ _).mono ?_;rintro e w1 ⟨rfl,hb1⟩)
  exact⟨_,rfl,hb1,rfl⟩
 ·have HBN:=hid (bcomp HD.out hb)
  have e0:(vs 10).1=.agg #[.int .i64 2,.int .u64 0]:=hn (10,some 87) (by simp)
  clear hn hb
  refine mix_step rfl ?_
  simp only[pv]
  rw[e0]
  go_wp2_with fail
  exact⟨_,rfl,Below.refl _ _,rfl⟩
 ·have HBN:=hid (bcomp HD.out hb)
  clear hn hb
  refine mix_step rfl ?_
  simp only[pv]
  go_wp2_with (go_at_call 48;refine (num25_any _ _).mono ?_;rintro e w1 ⟨rfl,hb1⟩)
  exact⟨_,rfl,hb1,rfl⟩
 ·have HBN:=hid (bcomp HD.out hb)
  have e0:(vs 13).1=.agg #[.int .i64 (-1),.int .u64 0]:=hn (13,some 90) (by simp)
  clear hn hb
  refine mix_step rfl ?_
  simp only[pv]
  rw[e0]
  go_wp2_with fail
  exact⟨_,rfl,Below.refl _ _,rfl⟩
 ·have HBN:=hid (bcomp HD.out hb)
  have e0:(vs 5).1=.agg #[.int .u8 0,.int .u8 0,.int .i64 1,.int .i64 0,.int .i64 (-1),.int .u64 3,.int .i64 0,.int .u64 0]:=hn (5,some 82) (by simp)
  have e1:(vs 7).1=.agg #[.int .u8 0,.int .u8 0,.int .i64 2,.int .i64 0,.int .i64 (-1),.int .u64 0,.int .i64 0,.int .u64 0]:=hn (7,some 84) (by simp)
  have e2:(vs 9).1=.agg #[.int .u8 1,.int .u8 2,.int .i64 2,.int .i64 0,.int .i64 1,.int .u64 0,.int .i64 0,.int .u64 0]:=hn (9,some 86) (by simp)
  have e3:(vs 11).1=.agg #[.int .u8 0,.int .u8 0,.int .i64 0,.int .i64 0,.int .i64 2,.int .u64 0,.int .i64 0,.int .u64 0]:=hn (11,some 88) (by simp)
  have e4:(vs 14).1=.agg #[.int .u8 0,.int .u8 0,.int .i64 0,.int .i64 0,.int .i64 (-1),.int .u64 0,.int .i64 0,.int .u64 0]:=hn (14,some 91) (by simp)
  clear hn hb
  refine mix_step rfl ?_
  simp only[pv]
  rw[e0,e1,e2,e3,e4]
  go_wp2_with fail
  exact⟨_,rfl,(Below.refl _ _).alloc (Nat.le_refl _) _,wn.heap.size,rfl,rowNewF kCode (l:=[⟨0,0,1,0,⟨-1,3⟩,⟨0,0⟩⟩,⟨0,0,2,0,⟨-1,0⟩,⟨0,0⟩⟩,⟨1,2,2,0,⟨1,0⟩,⟨0,0⟩⟩,⟨0,0,0,0,⟨2,0⟩,⟨0,0⟩⟩,⟨7,0,0,6,⟨0,0⟩,⟨0,0⟩⟩,⟨0,0,0,0,⟨-1,0⟩,⟨0,0⟩⟩,⟨9,0,0,0,⟨0,0⟩,⟨0,0⟩⟩]) (heap_alloc_new _ _) rfl (by decide) (by decide)⟩
 ·have HBN:=hid (bcomp HD.out hb)
  obtain⟨g0,e0,h0⟩:=hn (3,some 80) (by simp)
  obtain⟨g1,e1,h1⟩:=hn (16,some 93) (by simp)
  rw[e1] at h1
  clear hn hb
  have hmk:=hid (makes_any ⟨0,[],[],[fnD],callI⟩ (.slice none 0 0) (.slice none 0 0) _ (.slice (some ⟨b5,0,none⟩) 1 1) _ ⟨2,3,[],[],[],cD⟩ wn ⟨rdStrs_nil _ _,rdArrs_nil _ _,h0,Hrc.out.keep HBN.out,by decide⟩ (HL.out.keep HBN.out) flD rfl h1)
  refine mix_step rfl ?_
  simp only[pv]
  rw[e0,e1]
  go_wp2_with (go_at_call 46;refine hmk.out.mono ?_;rintro e w1 ⟨rfl,hb1⟩)
  exact⟨_,rfl,hb1,rfl⟩
 obtain⟨ym,-⟩:=hy ⟨17,some 94,[(3,some 80),(16,some 93)]⟩ (by simp)
 have em:(vs 17).1=.bool true:=ym
 replace HBh:=hid (bcomp HBh.out (bcomp HD.out hb))
 have hbz:=bcomp HD.out hb
 replace HH:=hid ((hbz.block hh (gsFlJ HH.out)).trans HH.out)
 replace Ge4:=hid ((hbz.block e4 (gsFlJ Ge4.out)).trans Ge4.out)
 replace Hrl:=hid (Hrl.out.keep hbz)
 replace Hrc:=hid (Hrc.out.keep hbz)
 replace Hre:=hid (Hre.out.keep hbz)
 replace Hri:=hid (Hri.out.keep hbz)
 replace HL:=hid (HL.out.keep hbz)
 replace HM:=hid (HM.out.keep hbz)
 replace HRF:Hid (RdFunc none wn fnD (.slice (some ⟨c4,0,none⟩) 1 1) (.slice (some ⟨d4,0,none⟩) 2 2)):=⟨HRF.out.1.keep hbz,HRF.out.2.1.keep hbz,HRF.out.2.2⟩
 clear hy hd hb hbz HD ym
 simp only[List.map,Maker.pr,pv]
 rw[em]
 clear em
 simp only[Act.put,List.setIfInBounds_toArray,List.set_cons_succ,List.set_cons_zero,List.getElem_toArray,List.getElem_cons_succ,List.getElem_cons_zero]
 obtain⟨V10,rfl⟩:∃ x:World,x=wn:=⟨_,rfl⟩
 go_upto_region 12 with fail
 try simp only[List.append_eq,List.cons_append,List.nil_append]
 refine wp_region_ownG [1,3,8] [⟨0,some 96,[]⟩,⟨2,some 98,[(0,some 96)]⟩,⟨4,some 100,[]⟩,⟨5,some 101,[(4,some 100)]⟩,⟨6,some 102,[]⟩,⟨7,some 103,[(6,some 102)]⟩,⟨9,some 105,[(5,some 101),(7,some 103)]⟩,⟨10,some 106,[(2,some 98),(9,some 105)]⟩] [11] [_] (fun j=>decide (11≤j))
  (fun j v w lo hi=>match j with
    | 0=>StrsOf w v [sc]
    | 2=>ProgCh w v (.slice (some ⟨b7,0,none⟩) 3 3) [sc]
    | 4=>ValIs v (.agg #[.int .i64 (-1),.int .u64 3])
    | 5=>ValIs v (.agg #[.int .u8 5,.int .u8 0,.int .i64 0,.int .i64 0,.int .i64 (-1),.int .u64 3,.int .i64 0,.int .u64 0])
    | 6=>ValIs v (.agg #[.int .i64 0,.int .u64 0])
    | 7=>ValIs v (.agg #[.int .u8 6,.int .u8 0,.int .i64 1,.int .i64 0,.int .i64 0,.int .u64 0,.int .i64 0,.int .u64 0])
    | 9=>RowOf kCode w v 4 [⟨4,0,0,0,⟨0,0⟩,⟨0,0⟩⟩,⟨5,0,0,0,⟨-1,3⟩,⟨0,0⟩⟩,⟨6,0,1,0,⟨0,0⟩,⟨0,0⟩⟩,⟨9,0,0,0,⟨0,0⟩,⟨0,0⟩⟩]
    | 10=>ValIs v (.bool true)
    | _=>True) (by kernel_rfl) (by kernel_rfl) rfl (by kernel_rfl) rfl rfl (fun _ d _ _ _ h=>by cases d <;> exact h) ?_ ?_
 ·intro j v w w' lo hi hy hbw
  match j,hy with
  | 0,hy=>exact StrsOf.keep hy hbw
  | 2,hy=>exact ProgCh.keep hy hbw
  | 4,hy=>exact hy
  | 5,hy=>exact hy
  | 6,hy=>exact hy
  | 7,hy=>exact hy
  | 9,hy=>exact RowOf.keep hy hbw
  | 10,hy=>exact hy
  | 1,_|3,_|8,_|(x+11),_=>trivial
 have l0:=ext_cell (W:=V10) (row_of HH.out 0 (.int .u8 9) rfl)
 have l1:=ext_cell (W:=V10) (row_of HH.out 1 (.int .u8 0) rfl)
 have l2:=ext_cell (W:=V10) (row_of HH.out 2 (.int .i64 0) rfl)
 have l3:=ext_cell (W:=V10) (row_of HH.out 3 (.int .i64 0) rfl)
 have l4:=ext_cell (W:=V10) (row_of HH.out 4 (.int .i64 0) rfl)
 have l5:=ext_cell (W:=V10) (row_of HH.out 5 (.int .u64 0) rfl)
 have l6:=ext_cell (W:=V10) (row_of HH.out 6 (.int .i64 0) rfl)
 have l7:=ext_cell (W:=V10) (row_of HH.out 7 (.int .u64 0) rfl)
 refine mix_reads (by simp only[opsOf,List.filterMap_cons,List.filterMap_nil,List.getElem?_toArray,List.getElem?_cons_succ,List.getElem?_cons_zero];rfl) ⟨_,ext_of (Below.refl _ _).drew⟩ ?_
 change wpQuiet _ _ _ _ [_,_,_] _
 (repeat (go_big_quiet_step (fail)))
 refine wpQuiet_nil ?_
 clear l0 l1 l2 l3 l4 l5 l6 l7
 have HD:Hid (Below V10.heap.size V10 V10.drew):=(Below.refl _ _).drew
 refine⟨⟨fun vs wn hb hn=>?_,fun vs wn hb hn=>?_,fun vs wn hb hn=>?_,fun vs wn hb hn=>?_,fun vs wn hb hn=>?_,fun vs wn hb hn=>?_,fun vs wn hb hn=>?_,fun vs wn hb hn=>?_,trivial⟩,fun vs wn hb hy hd=>?_⟩
 ·have HBN:=hid (bcomp HD.out hb)
  clear hn hb
  refine mix_step rfl ?_
  simp only[pv]
  go_wp2_with fail
  exact⟨_,rfl,(Below.refl _ _).alloc (Nat.le_refl _) _,wn.heap.size,rfl,rdS (l:=[sc]) (heap_alloc_new _ _) (by simp) (by decide)⟩
 ·have HBN:=hid (bcomp HD.out hb)
  obtain⟨g0,e0,h0⟩:=hn (0,some 96) (by simp)
  rw[e0] at h0
  clear hn hb
  refine mix_step rfl ?_
  simp only[pv]
  rw[e0]
  go_wp2_with fail
  exact⟨_,rfl,Below.refl _ _,g0,rfl,h0⟩
 ·have HBN:=hid (bcomp HD.out hb)
  clear hn hb
  refine mix_step rfl ?_
  simp only[pv]
  go_wp2_with (go_at_call 48;refine (num25_any _ _).mono ?_;rintro e w1 ⟨rfl,hb1⟩)
  exact⟨_,rfl,hb1,rfl⟩
 ·have HBN:=hid (bcomp HD.out hb)
  have e0:(vs 4).1=.agg #[.int .i64 (-1),.int .u64 3]:=hn (4,some 100) (by simp)
  clear hn hb
  refine mix_step rfl ?_
  simp only[pv]
  rw[e0]
  go_wp2_with fail
  exact⟨_,rfl,Below.refl _ _,rfl⟩
 ·have HBN:=hid (bcomp HD.out hb)
  clear hn hb
  refine mix_step rfl ?_
  simp only[pv]
  go_wp2_with (go_at_call 47;refine (reg25_any _ _).mono ?_;rintro e w1 ⟨rfl,hb1⟩)
  exact⟨_,rfl,hb1,rfl⟩
 ·have HBN:=hid (bcomp HD.out hb)
  have e0:(vs 6).1=.agg #[.int .i64 0,.int .u64 0]:=hn (6,some 102) (by simp)
  clear hn hb
  refine mix_step rfl ?_
  simp only[pv]
  rw[e0]
  go_wp2_with fail
  exact⟨_,rfl,Below.refl _ _,rfl⟩
 ·have HBN:=hid (bcomp HD.out hb)
  have e0:(vs 5).1=.agg #[.int .u8 5,.int .u8 0,.int .i64 0,.int .i64 0,.int .i64 (-1),.int .u64 3,.int .i64 0,.int .u64 0]:=hn (5,some 101) (by simp)
  have e1:(vs 7).1=.agg #[.int .u8 6,.int .u8 0,.int .i64 1,.int .i64 0,.int .i64 0,.int .u64 0,.int .i64 0,.int .u64 0]:=hn (7,some 103) (by simp)
  clear hn hb
  refine mix_step rfl ?_
  simp only[pv]
  rw[e0,e1]
  go_wp2_with fail
  exact⟨_,rfl,(Below.refl _ _).alloc (Nat.le_refl _) _,wn.heap.size,rfl,rowNewF kCode (l:=[⟨4,0,0,0,⟨0,0⟩,⟨0,0⟩⟩,⟨5,0,0,0,⟨-1,3⟩,⟨0,0⟩⟩,⟨6,0,1,0,⟨0,0⟩,⟨0,0⟩⟩,⟨9,0,0,0,⟨0,0⟩,⟨0,0⟩⟩]) (heap_alloc_new _ _) rfl (by decide) (by decide)⟩
 ·have HBN:=hid (bcomp HD.out hb)
  obtain⟨g0,e0,h0⟩:=hn (2,some 98) (by simp)
  obtain⟨g1,e1,h1⟩:=hn (9,some 105) (by simp)
  rw[e1] at h1
  clear hn hb
  have hmk:=hid (makes_any ⟨0,[sc],[],[],ioI⟩ _ (.slice none 0 0) (.slice none 0 0) (.slice (some ⟨b7,0,none⟩) 3 3) _ ⟨2,2,[sc],[ss],[],cE⟩ wn ⟨h0,rdArrs_nil _ _,rdFuncs_nil _ _,Hri.out.keep HBN.out,by decide⟩ (HL.out.keep HBN.out) flE rfl h1)
  refine mix_step rfl ?_
  simp only[pv]
  rw[e0,e1]
  go_wp2_with (go_at_call 46;refine hmk.out.mono ?_;rintro e w1 ⟨rfl,hb1⟩)
  exact⟨_,rfl,hb1,rfl⟩
 obtain⟨ym,-⟩:=hy ⟨10,some 106,[(2,some 98),(9,some 105)]⟩ (by simp)
 have em:(vs 10).1=.bool true:=ym
 replace HBh:=hid (bcomp HBh.out (bcomp HD.out hb))
 have hbz:=bcomp HD.out hb
 replace HH:=hid ((hbz.block hh (gsFlJ HH.out)).trans HH.out)
 replace Ge4:=hid ((hbz.block e4 (gsFlJ Ge4.out)).trans Ge4.out)
 replace Hrl:=hid (Hrl.out.keep hbz)
 replace Hrc:=hid (Hrc.out.keep hbz)
 replace Hre:=hid (Hre.out.keep hbz)
 replace Hri:=hid (Hri.out.keep hbz)
 replace HL:=hid (HL.out.keep hbz)
 replace HM:=hid (HM.out.keep hbz)
 replace HRF:Hid (RdFunc none wn fnD (.slice (some ⟨c4,0,none⟩) 1 1) (.slice (some ⟨d4,0,none⟩) 2 2)):=⟨HRF.out.1.keep hbz,HRF.out.2.1.keep hbz,HRF.out.2.2⟩
 clear hy hd hb hbz HD ym
 simp only[List.map,Maker.pr,pv]
 rw[em]
 clear em
 simp only[Act.put,List.setIfInBounds_toArray,List.set_cons_succ,List.set_cons_zero,List.getElem_toArray,List.getElem_cons_succ,List.getElem_cons_zero]
 obtain⟨V12,rfl⟩:∃ x:World,x=wn:=⟨_,rfl⟩
 have HOF:Hid (Calls Tryd.prog 11 #[.agg #[.int .i64 0,.slice none 0 0,.slice none 0 0,.slice none 0 0,.slice none 0 0]] V12 fun e w'=>∃ c1 k1 c2 k2 c3 k3 c4 k4,e=.returned (.tuple #[.agg #[.int .i64 0,.int .i64 0,.slice c1 0 k1,.slice c2 0 k2,.slice c3 0 k3,.slice c4 0 k4],.int .i64 3])∧Below V12.heap.size V12 w'):=by
  refine (flatOf_any pZ _ _ _ _ V12 ⟨rdStrs_nil _ _,rdArrs_nil _ _,rdFuncs_nil _ _,rdInstrs_nil _ _,by decide⟩ HL.out).mono ?_
  rintro e w' ⟨c,s,a,k,rfl,hrd,hz⟩
  rw[flZ] at hrd ⊢
  obtain⟨c1,k1,rfl⟩:=hrd.1.is
  obtain⟨c2,k2,rfl⟩:=hrd.2.1.is
  obtain⟨c3,k3,rfl⟩:=hrd.2.2.1.is
  obtain⟨c4,k4,rfl⟩:=hrd.2.2.2.1.is
  exact⟨c1,k1,c2,k2,c3,k3,c4,k4,rfl,hz⟩
 have HCK:Hid (∀ z,Below V12.heap.size V12 z→Calls Tryd.prog 18 #[.agg #[.int .i64 0,.int .i64 0,.slice none 0 0,.slice none 0 0,.slice none 0 0,.slice none 0 0]] z fun e w'=>e=.returned (.int .i64 2)∧Below z.heap.size z w'):=fun z hz=>by
  exact flatCheck0 z
 clear HL HM Hrl Hrc Hre Hri HRF HH Ge4
 go_upto_region 15 with (first|(go_at_call 11;refine HOF.out.mono ?_;rintro e z ⟨d1,k1,d2,k2,d3,k3,d4,k4,rfl,hz⟩;have BZ:=hid hz;have HN:=hid (heap_alloc_new z (.cells #[.int .i64 0,.int .i64 0,.slice none 0 0,.slice none 0 0,.slice none 0 0,.slice none 0 0] 32));clear hz)|(refine wpList_store_row rfl 32 (.tmp 10) (.tmp 111) rfl z.heap.size #[.int .i64 0,.int .i64 0,.slice d1 0 k1,.slice d2 0 k2,.slice d3 0 k3,.slice d4 0 k4] rfl rfl 32 #[.int .i64 0,.int .i64 0,.slice none 0 0,.slice none 0 0,.slice none 0 0,.slice none 0 0] ?hs9 (by as_aux_lemma=>kernel_rfl) (by as_aux_lemma=>kernel_rfl) (by as_aux_lemma=>kernel_rfl) ?_;exact HN.out))
 have hal:Below z.heap.size z ((z.alloc (.cells #[.int .i64 0,.int .i64 0,.slice none 0 0,.slice none 0 0,.slice none 0 0,.slice none 0 0] 32)).setRow z.heap.size #[.int .i64 0,.int .i64 0,.slice d1 0 k1,.slice d2 0 k2,.slice d3 0 k3,.slice d4 0 k4]):=below_row ((Below.refl _ _).alloc (Nat.le_refl _) _) (Nat.le_refl _) _
 try simp only[Act.put]
 have HBF:=hid (bcomp BZ.out hal)
 clear HOF HN hal BZ
 generalize (z.alloc (.cells #[.int .i64 0,.int .i64 0,.slice none 0 0,.slice none 0 0,.slice none 0 0,.slice none 0 0] 32)).setRow z.heap.size #[.int .i64 0,.int .i64 0,.slice d1 0 k1,.slice d2 0 k2,.slice d3 0 k3,.slice d4 0 k4]=Wf at *
 have HCF:=hid (HCK.out Wf HBF.out)
 clear HCK
 go_wp2_with (go_at_call 18;refine HCF.out.mono ?_;rintro e z9 ⟨rfl,hz⟩;have B9:=hid hz;clear hz)
 go_ret
 exact⟨rfl,bcomp HBh.out (bcomp HBF.out B9.out)⟩
end Go.Proofs.YtgcfdbhpophnjaaDoor
