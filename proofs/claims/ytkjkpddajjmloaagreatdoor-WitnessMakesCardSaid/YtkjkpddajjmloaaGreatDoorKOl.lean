/- Contracts of the kit's CopyInputs, and of the law's Few: new lists of lists. Condition: what comes in reads as the lists. -/
import Derived.Test.YtkjkpddajjmloaaGreatDoorMMq
import Derived.Test.YtkjkpddajjmloaaGreatDoorCalm
set_option linter.all false
set_option maxRecDepth 1000000
set_option maxHeartbeats 6400000
namespace Go.Proofs.YtkjkpddajjmloaaGreatDoor
open Go.ChangeShapes Go.WideShapes Go.ChangeAt Go.RowKit
open Go.Lib (hid)
theorem gsKOl {α:Type} {a:Array α} {i:Nat} {v:α} (h:a[i]?=some v):i<a.size:=(Array.getElem?_eq_some_iff.1 h).1
theorem lgKOl {α:Type} {l:List α} {i:Nat} (h:i<l.length):l[i]?=some l[i]:=List.getElem?_eq_getElem h
theorem run_min2 {P:Program} (ats:Array TypeId) (ty:TypeId) (a b:Int) (w:World):(Builtin.min_ ats ty #[.int .i64 a,.int .i64 b]).run P w=.ok (.int .i64 (min a b)) w:=by
 have:(if b<a then b else a)=min a b:=by split <;> omega
 simp[Builtin.min_,Builtin.min2,this]
theorem RdRow.grown {α:Type} {K:Kind α} {base E size n:Nat} {w w':World} {v v0:Value} {l:List α} {xs:List Value} (h:RdRow K (some (upFrom base)) w v l) (hown:w.ownsRow base E size v0 n xs) (hg:w.grownBy w' v0.ownBlock) (hT:K.T≠E):RdRow K (some (upFrom base)) w' v l:=
 RdRow.map (fun b hb hf=>grown_hF hown hg _ b hT hb hf) (fun b o v hf hc=>grown_hC hown hg _ b o v hT hf hc) h
structure Copied (n0:Nat) (L:List (List Int)) (vs:List Value) (w:World) (v:Value):Prop where
 own:w.ownsRow n0 61 1 v vs.length vs
 rd:∀ (j:Nat) (u:Value) (l:List Int),vs[j]?=some u→L[j]?=some l→RdRow kNum (some (upFrom n0)) w u l
theorem Copied.step {n0:Nat} {L:List (List Int)} {vs:List Value} {w w1 w4:World} {v u v':Value} {l:List Int} (h:Copied n0 L vs w v) (hb:Below w.heap.size w w1) (hr:RdRow kNum (some (upFrom w.heap.size)) w1 u l) (hn:n0≤w.heap.size) (hl:L[vs.length]?=some l)
  (h1:w4.ownsRow n0 61 1 v' (vs.length+1) (vs++[u])) (h2:(w1.alloc (.cells #[u] 61)).grownBy w4 v.ownBlock):Copied n0 L (vs++[u]) w4 v':=by
 obtain⟨ho,hx⟩:=h
 have hal:=(Below.refl w1.heap.size w1).alloc (Nat.le_refl _) (.cells #[u] 61)
 have ho1:=own_below (own_below ho hb) hal
 refine⟨by simpa using h1,fun j u' l' hj hl'=>?_⟩
 rw[List.getElem?_append] at hj
 split at hj
 ·exact (((hx j u' l' hj hl').keep hb).keep hal).grown ho1 h2 (by decide)
 ·have hj0:j=vs.length:=by
   rcases Nat.lt_or_ge (j-vs.length) 1 with h1|h1
   ·omega
   ·rw[List.getElem?_eq_none (by simpa using h1)] at hj;cases hj
  subst hj0
  simp only[Nat.sub_self,List.getElem?_cons_zero,Option.some.injEq] at hj
  subst hj
  rw[hl] at hl'
  cases hl'
  exact ((hr.up hn).keep hal).grown ho1 h2 (by decide)
theorem Copied.all {n0:Nat} {L:List (List Int)} {vs:List Value} {w:World} {v:Value} (h:Copied n0 L vs w v) (hv:vs.length=L.length) (hs:L.length*24≤140737488351232):RdLists (some (upFrom n0)) w v L:=by
 obtain⟨ho,hx⟩:=h
 obtain⟨a,c,rfl,_⟩:=own_read ho
 refine⟨a,c,by rw[hv],⟨hs,by rw[← hv];exact own_cap ho⟩,fun i l hl=>?_⟩
 have hi:i<vs.length:=by rw[hv];exact (List.getElem?_eq_some_iff.1 hl).1
 obtain⟨g,c',e',hf,hc⟩:=own_at ho (by omega)
 simp only[Value.slice.injEq] at e'
 obtain⟨rfl,_,_⟩:=e'
 exact⟨g,0,vs[i],rfl,hf,hc i _ (List.getElem?_eq_getElem hi),hx i _ l (List.getElem?_eq_getElem hi) hl⟩
theorem copyLists (av:Value) (L:List (List Int)) (w:World) (h:RdLists none w av L) :
  Calls Tryz.prog 36 #[av] w fun e w'=>∃ v,e=.returned v∧RdLists (some (upFrom w.heap.size)) w' v L∧Below w.heap.size w w':=by
 obtain⟨a,c,rfl⟩:=h.is
 obtain⟨i0,hi,hz0,hz1,hz2⟩:=info_parts infoNumS
 have hl:L.length*24≤140737488351232:=h.size
 have HR:=hid h
 clear h
 go_enter Tryz.func36,Tryz.ntmps36
 go_wp2
 go_loopw [3,4] (fun v i wr=>∃ k:Nat,k≤L.length∧i=.int .i64 k∧(∃ vs:List Value,vs.length=k∧Copied w.heap.size L vs wr v)∧Below w.heap.size w wr) (fun _ i _=>L.length-(intOf i).toNat)
 case atStart=>exact⟨0,Nat.zero_le _,rfl,⟨[],rfl,World.ownsRow_nil _ _ _ _,fun j u l hj=>by simp at hj⟩,Below.refl _ _⟩
 case round=>
  obtain⟨k,hk,rfl,⟨vs,rfl,hcp⟩,hb⟩:=hrel
  by_cases hlt:vs.length<L.length
  ·obtain⟨x,hx⟩:∃ x,L[vs.length]?=some x:=⟨_,lgKOl hlt⟩
   obtain⟨b,o,xa,xc,rfl,_,c0,hx0⟩:=RdLists.at (HR.out.keep hb) hx
   have hown:=hcp.own
   obtain⟨va,vc,rfl,-⟩:=own_read hown
   have HCP:=hid hcp
   have HX:=hid hx
   have HX0:=hid (copyNum _ _ _ hx0.forget)
   have hsz:=hb.size
   have HBr:=hid hb
   clear hx hcp hx0 hb
   go_wp2_with (first|(go_at_call 65;refine HX0.out.mono ?_;rintro e w1 ⟨v,rfl,hro1,hr1,hb1⟩;obtain⟨ya,yc,rfl⟩:=hr1.is;have hown1:=own_below hown hb1;have HR1:=hid hr1;have HB1:=hid hb1;have hs1:=hb1.size;clear hown hb1 hr1 hro1)|(at_builtin;refine wpList_append_own _ rfl (.tmp 11) (.tmp 17) 35 rfl w.heap.size 61 i0 (.slice none 0 0) 1 24 Tryz.underlying35 hi hz0 hz1 hz2 rfl (by decide) _ _ _ rfl (hown1.alloc _) ⟨w1.heap.size,0,none⟩ 1 1 [.slice ya x.length yc] rfl rfl (many_new _ _ _) ?c2 ?c3 ?c4 ?c5 ?_))
   case c2=>intro u hu;simp at hu;subst hu;rfl
   case c3=>unfold maxLen;omega
   case c4=>omega
   case c5=>simp;omega
   ·intro v' w4 hown' hgrow _
    have HN:=hid (HCP.out.step HB1.out HR1.out hsz HX.out hown' hgrow)
    have HBN:=hid (((bcomp' HB1.out HBr.out).alloc (by omega) (.cells #[.slice ya x.length yc] 61)).grown hgrow (by simp;omega) (own_row_le hown1))
    clear hown' hgrow hown1
    go_wp2
    go_roundw
    case rel=>exact⟨vs.length+1,by omega,by go_num,⟨_,by simp,HN.out⟩,HBN.out⟩
    case measure=>simp[intOf];omega
  ·have hk2:vs.length=L.length:=by omega
   have HL:=hid (hcp.all hk2 hl)
   clear hcp
   rw[hk2] at hk ⊢
   clear hk2 hlt
   go_wp2
   go_ret
   exact⟨_,rfl,HL.out,hb⟩
theorem run_append_nonec {P:Program} {w:World} (base:Nat) (t ty e:TypeId) (i:TypeInfo) (size:Nat) (ht:P.underlying t=some (.slice e)) (hi:P.info? e=some i)
  (v:Value) (n c:Nat) (xs:List Value) (hown:w.ownsRow base e size v n xs) :
  (Builtin.append_ #[t,t] ty #[v,.slice none 0 c]).run P w=.ok v w:=by
 rcases hown.2 with ⟨rfl,rfl⟩|⟨g,cap,cur,rfl,_,_,hnc,_⟩
 ·simp[Builtin.append_,run_underlying ht,sizeOf,typeInfo,hi,Builtin.lenOf,Builtin.firstCells]
 ·simp[Builtin.append_,run_underlying ht,sizeOf,typeInfo,hi,Builtin.lenOf,Builtin.firstCells,hnc,storeCells]
theorem wpList_append_nonec {P:Program} {w:World} {ops:Array Oper} {rest:List Oper} {o:Oper} {a:Act} {Q:Exit→Act→World→Prop} (hgd:o.guard=none) (s x:Operand) (t:TypeId)
  (ho:o.op=.call { callee:=.builtin .append,args:=#[s,x],argTypes:=#[t,t] })
  (base:Nat) (e:TypeId) (i:TypeInfo) (size:Nat) (ht:P.underlying t=some (.slice e)) (hi:P.info? e=some i)
  (v:Value) (n c:Nat) (xs:List Value) (hs:a.eval s=v) (hown:w.ownsRow base e size v n xs) (hx:a.eval x=.slice none 0 c)
  (h:wpList P ops Q rest (a.put o.dst v) w):wpList P ops Q (o :: rest) a w:=by
 refine wpList_plain hgd fun K hK=>?_
 have hrun:=run_append_nonec (P:=P) (w:=w) base t o.type e i size ht hi v n c xs hown
 unfold Oper.wp
 simp[execOp,ho,resolve,invoke,builtin,hs,hx,hrun,Result.andThen]
 exact hK _ _ h
theorem own_up {w:World} {base base':Nat} {e:TypeId} {size:Nat} {v:Value} {n:Nat} {xs:List Value} (h:w.ownsRow base e size v n xs) (hb:base'≤base):w.ownsRow base' e size v n xs:=by
 obtain⟨hl,h|⟨g,cap,cur,rfl,hg,r⟩⟩:=h
 ·exact⟨hl,.inl h⟩
 ·exact⟨hl,.inr ⟨g,cap,cur,rfl,by omega,r⟩⟩
theorem own_in {w:World} {base:Nat} {e:TypeId} {size:Nat} {v:Value} {n:Nat} {xs:List Value} (h:w.ownsRow base e size v n xs) (hp:0<xs.length) :
  ∃ g c cur,v=.slice (some ⟨g,0,none⟩) n c∧w.heap[g]?=some (.cells cur e (0,0))∧base≤g∧(∀ j u,xs[j]?=some u→w.cell? ⟨g,j,none⟩=some u)∧∀ j,w.frozen? ⟨g,j,none⟩=false:=by
 obtain⟨a,c,rfl,hr⟩:=own_read h
 obtain⟨hl,⟨e0,e00⟩|⟨g,cap,cur,e1,hb,hg,r⟩⟩:=id h
 ·rw[e00,Nat.zero_mul] at hl;omega
 ·simp only[Value.slice.injEq,true_and] at e1
  obtain⟨rfl,rfl⟩:=e1
  refine⟨g,c,cur,rfl,hg,hb,fun j u hj=>?_,fun j=>frozen_of_row w g j _ _ hg⟩
  obtain⟨g',e',_,hc⟩:=hr j u hj
  simp only[Option.some.injEq,Addr.mk.injEq,and_true] at e'
  subst e'
  simpa using hc
theorem kNum_cells (l:List Int) (k:Nat) (x:Int):(l.flatMap cellsNum).set k (.int .u64 x)=(l.set k x).flatMap cellsNum:=by
 have e:∀ l:List Int,l.flatMap cellsNum=l.map fun x=>.int .u64 x:=fun l=>by
  induction l with
  | nil=>rfl
  | cons a r ih=>rw[List.flatMap_cons,ih];rfl
 rw[e,e,List.map_set]
theorem kNum_at {l:List Int} {k:Nat} {x:Int} (h:l[k]?=some x):(l.flatMap cellsNum)[k]?=some (.int .u64 x):=by
 have e:∀ l:List Int,l.flatMap cellsNum=l.map fun x=>.int .u64 x:=fun l=>by
  induction l with
  | nil=>rfl
  | cons a r ih=>rw[List.flatMap_cons,ih];rfl
 rw[e,List.getElem?_map,h];rfl
theorem kNum_len (l:List Int):(l.flatMap cellsNum).length=l.length:=by rw[flat_length cellsNum 1 (fun _=>rfl)];omega
theorem set_at {α:Type} {l:List α} {i:Nat} {x:α} {j:Nat} {y:α} (h:(l.set i x)[j]?=some y):(i=j∧y=x∧i<l.length) ∨ (i≠j∧l[j]?=some y):=by
 rw[List.getElem?_set] at h
 split at h
 ·rename_i e
  subst e
  split at h
  ·cases h;rename_i hl;exact .inl ⟨rfl,rfl,hl⟩
  ·cases h
 ·rename_i e
  exact .inr ⟨e,h⟩
theorem snoc_at {α:Type} {l:List α} {x:α} {j:Nat} {y:α} (h:(l++[x])[j]?=some y):(j<l.length∧l[j]?=some y) ∨ (j=l.length∧y=x):=by
 rw[List.getElem?_append] at h
 split at h
 ·rename_i hj;exact .inl ⟨hj,h⟩
 ·rename_i hj
  have:j=l.length:=by
   rcases Nat.lt_or_ge (j-l.length) 1 with h1|h1
   ·omega
   ·rw[List.getElem?_eq_none (by simpa using h1)] at h;cases h
  subst this
  simp at h
  exact .inr ⟨rfl,h.symm⟩
structure OwnL (n0:Nat) (w:World) (v:Value) (vs:List Value) (M:List (List Int)):Prop where
 own:w.ownsRow n0 61 1 v vs.length vs
 len:vs.length=M.length
 rows:∀ (j:Nat) (u:Value) (l:List Int),vs[j]?=some u→M[j]?=some l→w.ownsRow n0 58 1 u l.length (l.flatMap cellsNum)
 apart:∀ (i j:Nat) (u x:Value) (b:Nat),vs[i]?=some u→vs[j]?=some x→i≠j→u.ownBlock=some b→x.ownBlock≠some b
 ok:∀ l∈M,∀ x∈l,InU64 x
theorem OwnL.nil (n0:Nat) (w:World):OwnL n0 w (.slice none 0 0) [] []:=
 ⟨World.ownsRow_nil _ _ _ _,rfl,fun j u l h=>by simp at h,fun i j u x b h=>by simp at h,fun l h=>by simp at h⟩
theorem OwnL.same {n0:Nat} {w w':World} {v:Value} {vs:List Value} {M:List (List Int)} (h:OwnL n0 w v vs M) (k:∀ b,n0≤b→b<w.heap.size→w'.heap[b]?=w.heap[b]?):OwnL n0 w' v vs M:=
 ⟨own_same h.own fun b hb=>k b (own_row_le h.own b hb) (own_lt h.own b hb),h.len,fun j u l hj hl=>own_same (h.rows j u l hj hl) fun b hb=>k b (own_row_le (h.rows j u l hj hl) b hb) (own_lt (h.rows j u l hj hl) b hb),h.apart,h.ok⟩
theorem OwnL.keep {n0:Nat} {w w':World} {v:Value} {vs:List Value} {M:List (List Int)} (h:OwnL n0 w v vs M) (k:Below w.heap.size w w'):OwnL n0 w' v vs M:=h.same fun b _ hl=>k.block b hl
theorem OwnL.up {n0 n1:Nat} {w:World} {v:Value} {vs:List Value} {M:List (List Int)} (h:OwnL n1 w v vs M) (k:n0≤n1):OwnL n0 w v vs M:=
 ⟨own_up h.own k,h.len,fun j u l hj hl=>own_up (h.rows j u l hj hl) k,h.apart,h.ok⟩
theorem OwnL.rd {n0:Nat} {w:World} {v:Value} {vs:List Value} {M:List (List Int)} (h:OwnL n0 w v vs M) (hs:M.length≤1000000) (hz:∀ l∈M,l.length≤1000000):RdLists (some (upFrom n0)) w v M:=by
 refine Copied.all (vs:=vs) ⟨h.own,fun j u l hj hl=>?_⟩ h.len (by omega)
 exact own_rows (K:=kNum) (h.rows j u l hj hl) (by show l.length*8≤_;have:=hz l (List.mem_of_getElem? hl);omega) (fun x hx=>h.ok l (List.mem_of_getElem? hl) x hx)
theorem OwnL.at {n0:Nat} {w:World} {v:Value} {vs:List Value} {M:List (List Int)} (h:OwnL n0 w v vs M) {i:Nat} {l:List Int} (hi:M[i]?=some l) :
  ∃ g c u,v=.slice (some ⟨g,0,none⟩) vs.length c∧vs[i]?=some u∧w.cell? ⟨g,i,none⟩=some u∧w.frozen? ⟨g,i,none⟩=false∧w.ownsRow n0 58 1 u l.length (l.flatMap cellsNum)∧n0≤g∧g<w.heap.size∧u.ownBlock≠some g:=by
 have hil:i<vs.length:=by rw[h.len];exact (List.getElem?_eq_some_iff.1 hi).1
 obtain⟨g,c,cur,rfl,hg,hb,hc,hf⟩:=own_in h.own (by omega)
 have hu:=List.getElem?_eq_getElem hil
 have hr:=h.rows i _ l hu hi
 exact⟨g,c,vs[i],rfl,hu,hc i _ hu,hf i,hr,hb,(gsKOl hg),fun e=>by obtain⟨cs,hx⟩:=own_row hr e;exact row_ne hg hx (by decide) rfl⟩
theorem OwnL.push {n0:Nat} {w w1 w4:World} {v u v':Value} {vs:List Value} {M:List (List Int)} {l:List Int} (h:OwnL n0 w v vs M) (hb:Below w.heap.size w w1) (hu:w1.ownsRow w.heap.size 58 1 u l.length (l.flatMap cellsNum)) (hok:∀ x∈l,InU64 x) (hn:n0≤w.heap.size)
  (h1:w4.ownsRow n0 61 1 v' (vs.length+1) (vs++[u])) (h2:(w1.alloc (.cells #[u] 61)).grownBy w4 v.ownBlock):OwnL n0 w4 v' (vs++[u]) (M++[l]):=by
 have hal:=(Below.refl w1.heap.size w1).alloc (Nat.le_refl _) (.cells #[u] 61)
 have ho1:=own_below (own_below h.own hb) hal
 have hst:∀ (b:Nat) (cs:Array Value),w1.heap[b]?=some (.cells cs 58 (0,0))→w4.heap[b]?=w1.heap[b]?:=fun b cs hb'=>by
  have hlt:=(gsKOl hb')
  rw[h2.block b (by simp;omega) (fun e=>by obtain⟨cs',hr⟩:=own_row ho1 e.symm;exact row_ne ((hal.block b hlt).trans hb') hr (by decide) rfl),hal.block b hlt]
 have hkeep:∀ {base:Nat} {x:Value} {n:Nat} {xs:List Value},w1.ownsRow base 58 1 x n xs→w4.ownsRow base 58 1 x n xs:=fun hx=>own_same hx fun b hb'=>by obtain⟨cs,hr⟩:=own_row hx hb';exact hst b cs hr
 refine⟨by simpa using h1,by simp[h.len],fun j x l' hj hl=>?_,fun i j x y b hi hj hne hx=>?_,fun l' hl'=>?_⟩
 ·rcases snoc_at hj with ⟨hjl,hj⟩|⟨rfl,rfl⟩
  ·rcases snoc_at hl with ⟨_,hl⟩|⟨e,_⟩
   ·exact hkeep (own_below (h.rows j x l' hj hl) hb)
   ·have:=h.len;omega
  ·rcases snoc_at hl with ⟨e,_⟩|⟨_,rfl⟩
   ·have:=h.len;omega
   ·exact own_up (hkeep hu) hn
 ·have hold:∀ (j:Nat) (y:Value) (b:Nat),vs[j]?=some y→y.ownBlock=some b→b<w.heap.size:=fun j y b hj hy=>by
   have hjl:=(List.getElem?_eq_some_iff.1 hj).1
   exact own_lt (h.rows j y _ hj (List.getElem?_eq_getElem (by rw[← h.len];exact hjl))) b hy
  rcases snoc_at hi with ⟨_,hi1⟩|⟨ei,exu⟩
  ·rcases snoc_at hj with ⟨_,hj1⟩|⟨ej,eyu⟩
   ·exact h.apart i j x y b hi1 hj1 hne hx
   ·intro e
    have h1:=hold i x b hi1 hx
    have h2:=own_row_le hu b (eyu ▸ e)
    omega
  ·rcases snoc_at hj with ⟨_,hj1⟩|⟨ej,eyu⟩
   ·intro e
    have h1:=hold j y b hj1 e
    have h2:=own_row_le hu b (exu ▸ hx)
    omega
   ·exact absurd (ei.trans ej.symm) hne
 ·rcases List.mem_append.1 hl' with h3|h3
  ·exact h.ok l' h3
  ·simp at h3;subst h3;exact hok
theorem OwnL.put {n0:Nat} {w w2:World} {g c:Nat} {u u':Value} {vs:List Value} {M:List (List Int)} {l':List Int} {i:Nat} (h:OwnL n0 w (.slice (some ⟨g,0,none⟩) vs.length c) vs M) (hi:vs[i]?=some u) (hk:∀ b,b<w.heap.size→u.ownBlock≠some b→w2.heap[b]?=w.heap[b]?)
  (hu:w2.ownsRow n0 58 1 u' l'.length (l'.flatMap cellsNum)) (hf:∀ b,u'.ownBlock=some b→u.ownBlock=some b ∨ w.heap.size≤b) (hok:∀ x∈l',InU64 x):OwnL n0 (w2.setCell ⟨g,i,none⟩ u') (.slice (some ⟨g,0,none⟩) vs.length c) (vs.set i u') (M.set i l'):=by
 have hil:i<vs.length:=(List.getElem?_eq_some_iff.1 hi).1
 have hil':i<M.length:=by rw[← h.len];exact hil
 have hrow:∀ (j:Nat) (y:Value),vs[j]?=some y→∃ l,M[j]?=some l∧w.ownsRow n0 58 1 y l.length (l.flatMap cellsNum):=fun j y hj=>by
  have hjl:=(List.getElem?_eq_some_iff.1 hj).1
  have:=List.getElem?_eq_getElem (l:=M) (i:=j) (by rw[← h.len];exact hjl)
  exact⟨_,this,h.rows j y _ hj this⟩
 have hcur:∃ cur,w.heap[g]?=some (.cells cur 61 (0,0)):=by
  obtain⟨cs,hr⟩:=own_row h.own (b:=g) rfl;exact⟨cs,hr⟩
 obtain⟨cur,hg⟩:=hcur
 have hlt:=(gsKOl hg)
 have hug:u.ownBlock≠some g:=fun e=>by
  obtain⟨l,_,hr⟩:=hrow i u hi
  obtain⟨cs,hx⟩:=own_row hr e
  exact row_ne hg hx (by decide) rfl
 have hg2:=(hk g hlt hug).trans hg
 have hown2:w2.ownsRow n0 61 1 (.slice (some ⟨g,0,none⟩) vs.length c) vs.length vs:=own_same h.own fun b hb=>by
  simp[Value.ownBlock] at hb;subst hb;exact hk _ hlt hug
 have hst:=hown2.stored i u'
 have hoth:∀ {x:Value} {n:Nat} {xs:List Value},w2.ownsRow n0 58 1 x n xs→(w2.setCell ⟨g,i,none⟩ u').ownsRow n0 58 1 x n xs:=fun hx=>own_same hx fun b hb=>by
  obtain⟨cs,hr⟩:=own_row hx hb
  exact heap_setCell_other _ _ _ _ (by simpa using row_ne hr hg2 (by decide))
 refine⟨by simpa using hst.1,by simp[h.len],fun j x l hj hl=>?_,fun a b x y bb ha hb hne hx=>?_,fun l hl=>?_⟩
 ·rcases set_at hj with ⟨rfl,rfl,_⟩|⟨hne,hj⟩
  ·rcases set_at hl with ⟨_,rfl,_⟩|⟨hne,_⟩
   ·exact hoth hu
   ·exact absurd rfl hne
  ·rcases set_at hl with ⟨e,_⟩|⟨_,hl⟩
   ·exact absurd e hne
   ·have hr:=h.rows j x l hj hl
    exact hoth (own_same hr fun b hb=>hk b (own_lt hr b hb) (fun e=>h.apart i j u x b hi hj hne e hb))
 ·have hbound:∀ (j:Nat) (y:Value),vs[j]?=some y→i≠j→y.ownBlock=some bb→u'.ownBlock≠some bb:=fun j y hj hne hy e=>by
   rcases hf bb e with h1|h1
   ·exact h.apart i j u y bb hi hj hne h1 hy
   ·obtain⟨l,_,hr⟩:=hrow j y hj
    have:=own_lt hr bb hy;omega
  rcases set_at ha with ⟨e1,ex,_⟩|⟨h1,ha1⟩
  ·rcases set_at hb with ⟨e2,_⟩|⟨h2,hb1⟩
   ·exact absurd (e1.symm.trans e2) hne
   ·exact fun e=>hbound b y hb1 h2 e (ex ▸ hx)
  ·rcases set_at hb with ⟨e2,ey,_⟩|⟨h2,hb1⟩
   ·exact fun e=>hbound a x ha1 h1 hx (ey ▸ e)
   ·exact h.apart a b x y bb ha1 hb1 hne hx
 ·rcases List.mem_or_eq_of_mem_set hl with h3|rfl
  ·exact h.ok l h3
  ·exact hok
theorem OwnL.setElem {n0:Nat} {w:World} {v:Value} {b n c:Nat} {vs:List Value} {M:List (List Int)} {l:List Int} {i:Nat} (h:OwnL n0 w v vs M) (hi:vs[i]?=some (.slice (some ⟨b,0,none⟩) n c)) (hl:M[i]?=some l) (k:Nat) (x:Int) (hx:InU64 x):OwnL n0 (w.setCell ⟨b,k,none⟩ (.int .u64 x)) v vs (M.set i (l.set k x)):=by
 have hr:=h.rows i _ l hi hl
 obtain⟨cs,hb⟩:=own_row hr (b:=b) rfl
 have hn:n=l.length:=by
  rcases hr.2 with ⟨e,_⟩|⟨g,cap,cur,e,_⟩
  ·simp at e
  ·simp only[Value.slice.injEq] at e;exact e.2.1
 subst hn
 have hst:=(hr.stored k (.int .u64 x)).1
 rw[kNum_cells] at hst
 refine⟨own_same h.own fun b' hb'=>?_,by simp[h.len],fun j y l' hj hl'=>?_,h.apart,fun l' hl'=>?_⟩
 ·obtain⟨cs',hr'⟩:=own_row h.own hb'
  exact heap_setCell_other _ _ _ _ (by simpa using row_ne hr' hb (by decide))
 ·rcases set_at hl' with ⟨rfl,rfl,_⟩|⟨hne,hl'⟩
  ·rw[hi] at hj;cases hj;rw[List.length_set];exact hst
  ·have hr':=h.rows j y l' hj hl'
   exact own_same hr' fun b' hb'=>heap_setCell_other _ _ _ _ (fun e=>h.apart i j _ y b hi hj hne rfl (by rw[hb'];simpa using e))
 ·rcases List.mem_or_eq_of_mem_set hl' with h3|rfl
  ·exact h.ok l' h3
  ·intro y hy
   rcases List.mem_or_eq_of_mem_set hy with h4|rfl
   ·exact h.ok l (List.mem_of_getElem? hl) y h4
   ·exact hx
theorem copyListsOwn (av:Value) (L:List (List Int)) (w:World) (h:RdLists none w av L) :
  Calls Tryz.prog 36 #[av] w fun e w'=>∃ v vs,e=.returned v∧OwnL w.heap.size w' v vs L∧Below w.heap.size w w':=by
 obtain⟨a,c,rfl⟩:=h.is
 obtain⟨i0,hi,hz0,hz1,hz2⟩:=info_parts infoNumS
 have hl:L.length*24≤140737488351232:=h.size
 have HR:=hid h
 clear h
 go_enter Tryz.func36,Tryz.ntmps36
 go_wp2
 go_loopw [3,4] (fun v i wr=>∃ k:Nat,k≤L.length∧i=.int .i64 k∧(∃ vs:List Value,vs.length=k∧OwnL w.heap.size wr v vs (L.take k))∧Below w.heap.size w wr) (fun _ i _=>L.length-(intOf i).toNat)
 case atStart=>exact⟨0,Nat.zero_le _,rfl,⟨[],rfl,OwnL.nil _ _⟩,Below.refl _ _⟩
 case round=>
  obtain⟨k,hk,rfl,⟨vs,rfl,hcp⟩,hb⟩:=hrel
  by_cases hlt:vs.length<L.length
  ·obtain⟨x,hx⟩:∃ x,L[vs.length]?=some x:=⟨_,lgKOl hlt⟩
   obtain⟨b,o,xa,xc,rfl,_,c0,hx0⟩:=RdLists.at (HR.out.keep hb) hx
   have hown:=hcp.own
   obtain⟨va,vc,rfl,-⟩:=own_read hown
   have HCP:=hid hcp
   have HX:=hid hx
   have HX0:=hid (copyNum _ _ _ hx0.forget)
   have HOK:Hid (∀ y∈x,InU64 y):=hx0.ok
   have hsz:=hb.size
   have HBr:=hid hb
   clear hx hcp hx0 hb
   go_wp2_with (first|(go_at_call 65;refine HX0.out.mono ?_;rintro e w1 ⟨v,rfl,hro1,hr1,hb1⟩;obtain⟨ya,yc,rfl⟩:=hr1.is;have hown1:=own_below hown hb1;have HR1:=hid hr1;have HB1:=hid hb1;have HRO:=hid hro1;have hs1:=hb1.size;clear hown hb1 hr1 hro1)|(at_builtin;refine wpList_append_own _ rfl (.tmp 11) (.tmp 17) 35 rfl w.heap.size 61 i0 (.slice none 0 0) 1 24 Tryz.underlying35 hi hz0 hz1 hz2 rfl (by decide) _ _ _ rfl (hown1.alloc _) ⟨w1.heap.size,0,none⟩ 1 1 [.slice ya x.length yc] rfl rfl (many_new _ _ _) ?c2 ?c3 ?c4 ?c5 ?_))
   case c2=>intro u hu;simp at hu;subst hu;rfl
   case c3=>unfold maxLen;omega
   case c4=>omega
   case c5=>simp;omega
   ·intro v' w4 hown' hgrow _
    have hN:=HCP.out.push HB1.out HRO.out HOK.out hsz hown' hgrow
    rw[show L.take vs.length++[x]=L.take (vs.length+1) by rw[List.take_add_one,HX.out];rfl] at hN
    have HN:=hid hN
    clear hN
    have HBN:=hid (((bcomp' HB1.out HBr.out).alloc (by omega) (.cells #[.slice ya x.length yc] 61)).grown hgrow (by simp;omega) (own_row_le hown1))
    clear hown' hgrow hown1
    go_wp2
    go_roundw
    case rel=>exact⟨vs.length+1,by omega,by go_num,⟨_,by simp,HN.out⟩,HBN.out⟩
    case measure=>simp[intOf];omega
  ·have hk2:vs.length=L.length:=by omega
   rw[hk2,List.take_length] at hcp
   have HL:=hid hcp
   clear hcp
   rw[hk2] at hk ⊢
   clear hk2 hlt
   go_wp2
   go_ret
   exact⟨_,_,rfl,HL.out,hb⟩
end Go.Proofs.YtkjkpddajjmloaaGreatDoor
