/- The reference's maker while it is filled: its variables, first registers and arrays in rows of its own. Conditions: the argument reads as a program that is not too long, and the body does what is said of it. -/
import Derived.Test.YtgcfdbhpophnjaaDoorFlS
import Derived.Test.YtgcfdbhpophnjaaDoorFlQ
import Derived.Test.YtgcfdbhpophnjaaDoorPlo
import Derived.Test.YtgcfdbhpophnjaaDoorRck
set_option linter.all false
set_option maxRecDepth 1000000
set_option maxHeartbeats 12800000
namespace Go.Proofs.YtgcfdbhpophnjaaDoor
open Go.WideShapes Go.ChangeMaps Go.MapKept Go.WideMaps Go.ChangeAt Go.RowKit Go.ChangeShapes
open Go.Lib (hid)
theorem gsFlO {α:Type} {a:Array α} {i:Nat} {v:α} (h:a[i]?=some v):i<a.size:=(Array.getElem?_eq_some_iff.1 h).1
theorem lgFlO {α:Type} {l:List α} {i:Nat} (h:i<l.length):l[i]?=some l[i]:=List.getElem?_eq_getElem h
structure PrR where
 w0:World
 c1:Nat
 M:Nat
 p:ProgD
 S:List ByteArray
 ac:Option Addr
 kc:Nat
 aa:Option Addr
 ka:Nat
 af:Option Addr
 kf:Nat
 am:Option Addr
 km:Nat
 ca:Option Addr
 ck:Nat
 sa:Option Addr
 sk:Nat
 ma:Option Addr
 nk:Nat
 L:List ByteArray
namespace PrR
abbrev cells (q:PrR) (rg:Int) (vv fv av:Value):Array Value:=#[.int .i64 q.p.width,.slice q.ac q.p.chans.length q.kc,.slice q.aa q.p.arrays.length q.ka,.slice q.af q.p.funcs.length q.kf,.slice q.am q.p.main.length q.km,vv,fv,.int .i64 q.p.width,.int .i64 rg,.slice q.ca q.p.chans.length q.ck,.slice q.sa q.S.length q.sk,av,.slice none 0 0,.bool false]
def lo (q:PrR):Nat→Prop:=fun k=>q.w0.heap.size≤k∧k<q.c1
def VarsIs (q:PrR) (vv:Value) (V:List (List ByteArray)) (vs:List Value) (w:World):Prop:=vs.length=V.length∧w.ownsRow q.c1 22 1 vv V.length vs∧∀ (i:Nat) (v:Value) (l:List ByteArray),vs[i]?=some v→V[i]?=some l→RdStrs (some (upFrom q.w0.heap.size)) w v l
theorem VarsIs.keep {q:PrR} {vv:Value} {V:List (List ByteArray)} {vs:List Value} {w w':World} (h:q.VarsIs vv V vs w) (k:Below w.heap.size w w'):q.VarsIs vv V vs w':=⟨h.1,own_below h.2.1 k,fun i v l hv hl=>(h.2.2 i v l hv hl).keep k⟩
def VarsAt (q:PrR) (vv:Value) (V:List (List ByteArray)) (w:World):Prop:=∃ vs:List Value,q.VarsIs vv V vs w
theorem VarsAt.nil (q:PrR) (w:World):q.VarsAt (.slice none 0 0) [] w:=⟨[],rfl,World.ownsRow_nil _ _ _ _,fun i v l h=>by simp at h⟩
structure At (q:PrR) (rg:Int) (vv fv av:Value) (V:List (List ByteArray)) (F A:List Int) (w:World):Prop where
 below:Below q.w0.heap.size q.w0 w
 hm:w.heap[q.M]?=some (.cells (q.cells rg vv fv av) 85 (0,0))
 chs:RdStrs (some q.lo) w (.slice q.ca q.p.chans.length q.ck) q.p.chans
 sit:RdStrs (some q.lo) w (.slice q.sa q.S.length q.sk) q.S
 mn:RdStrs (some (upFrom q.w0.heap.size)) w (.slice q.ma q.L.length q.nk) q.L
 vars:q.VarsAt vv V w
 first:w.ownsRow q.c1 3 1 fv F.length (F.flatMap cellsInt)
 arrs:w.ownsRow q.c1 3 1 av A.length (A.flatMap cellsInt)
 dis:∀ k,fv.ownBlock=some k→av.ownBlock≠some k
 c1:q.w0.heap.size≤q.c1∧q.c1≤w.heap.size
 lm:q.w0.heap.size≤q.M
theorem At.firstIn {q:PrR} {rg:Int} {vv fv av:Value} {V:List (List ByteArray)} {F A:List Int} {x y:World} (h:q.At rg vv fv av V F A x) (hT:Turned (fun k=>vv.ownBlock=some k) x y):y.ownsRow q.c1 3 1 fv F.length (F.flatMap cellsInt):=by
 obtain⟨vs,hvl,hvo,hvr⟩:=h.vars
 exact own_turn h.first hT (fun k hk e=>MkS.own_ne_own h.first hvo (by decide) hk e)
theorem strs_turn {g:Nat→Prop} {T:Nat→Prop} {w w':World} {v:Value} {l:List ByteArray} (h:RdStrs (some g) w v l) (k:Turned T w w') (hd:∀ b cs,g b→w.heap[b]?=some (.cells cs 9 (0,0))→¬ T b):RdStrs (some g) w' v l:=by
 refine RdStrs.map (S:=fun T=>T=9) (fun T b hT hb hf=>?_) (fun T b o u hT hf hc=>?_) rfl h
 ·obtain⟨h1,cs,h2⟩:=hf g rfl
  subst hT
  exact Free.of h1 ((k.block b hb (hd b cs h1 h2)).trans h2)
 ·obtain⟨h1,cs,h2⟩:=hf g rfl
  subst hT
  exact k.cell hc (hd b cs h1 h2)
theorem VarsAt.turn {q:PrR} {vv:Value} {V:List (List ByteArray)} {T:Nat→Prop} {x y:World} (h:q.VarsAt vv V x) (k:Turned T x y) (h3:∀ b cs,x.heap[b]?=some (.cells cs 9 (0,0))→¬ T b) (h4:∀ i,vv.ownBlock=some i→¬ T i):q.VarsAt vv V y:=by
 obtain⟨vs,hl,ho,hr⟩:=h
 exact⟨vs,hl,own_turn ho k h4,fun i v l hv hV=>strs_turn (hr i v l hv hV) k (fun b cs _ hb=>h3 b cs hb)⟩
theorem VarsAt.ne {q:PrR} {vv:Value} {V:List (List ByteArray)} {w:World} (h:q.VarsAt vv V w) {b:Nat} {cs:Array Value} {T:TypeId} (hc:w.heap[b]?=some (.cells cs T (0,0))) (hT:T≠22):vv.ownBlock≠some b:=by
 obtain⟨vs,hl,ho,hr⟩:=h
 exact own_ne_cells ho hc hT
theorem At.mlt {q:PrR} {rg:Int} {vv fv av:Value} {V:List (List ByteArray)} {F A:List Int} {w:World} (h:q.At rg vv fv av V F A w):q.M<w.heap.size:=(gsFlO h.hm)
theorem At.turn {q:PrR} {rg:Int} {vv fv av:Value} {V:List (List ByteArray)} {F A:List Int} {x y:World} {T:Nat→Prop} (h:q.At rg vv fv av V F A x) (k:Turned T x y) (h0:∀ i,T i→q.w0.heap.size≤i) (h1:¬ T q.M)
  (h3:∀ b cs,x.heap[b]?=some (.cells cs 9 (0,0))→¬ T b) (h4:∀ i,vv.ownBlock=some i→¬ T i) (h5:∀ i,fv.ownBlock=some i→¬ T i) (h6:∀ i,av.ownBlock=some i→¬ T i):q.At rg vv fv av V F A y:=
 ⟨below_then h.below k h.below.size h0,(k.block _ h.mlt h1).trans h.hm,strs_turn h.chs k (fun b cs _ hb=>h3 b cs hb),strs_turn h.sit k (fun b cs _ hb=>h3 b cs hb),strs_turn h.mn k (fun b cs _ hb=>h3 b cs hb),h.vars.turn k h3 h4,own_turn h.first k h5,own_turn h.arrs k h6,h.dis,⟨h.c1.1,Nat.le_trans h.c1.2 k.size⟩,h.lm⟩
theorem At.keep {q:PrR} {rg:Int} {vv fv av:Value} {V:List (List ByteArray)} {F A:List Int} {x y:World} (h:q.At rg vv fv av V F A x) (k:Below x.heap.size x y):q.At rg vv fv av V F A y:=
 h.turn (T:=fun _=>False) (Turned.of_below k) (fun _ h=>h.elim) id (fun _ _ _=>id) (fun _ _=>id) (fun _ _=>id) (fun _ _=>id)
theorem At.arrayed {q:PrR} {rg:Int} {vv fv:Value} {k0:Option Addr} {kc0:Nat} {V:List (List ByteArray)} {F A:List Int} {x y:World} {xa:Option Addr} {xc:Nat} (n:Int) (h:q.At rg vv fv (.slice k0 A.length kc0) V F A x)
  (hT:Turned (fun k=>(Value.slice k0 A.length kc0).ownBlock=some k) x y) (hown:y.ownsRow q.c1 3 1 (.slice xa (A.length+1) xc) (A.length+1) (A.flatMap cellsInt++cellsInt n))
  (hblk:∀ k,(Value.slice xa (A.length+1) xc).ownBlock=some k→(Value.slice k0 A.length kc0).ownBlock=some k ∨ x.heap.size≤k) :
  q.At rg vv fv (.slice xa (A.length+1) xc) V F (A++[n]) (y.setCell ⟨q.M,11,none⟩ (.slice xa (A.length+1) xc)):=by
 have hsc:=setCell_turned y ⟨q.M,11,none⟩ (.slice xa (A.length+1) xc)
 have hnM:(Value.slice k0 A.length kc0).ownBlock≠some q.M:=own_ne_cells h.arrs h.hm (by decide)
 have hm1:y.heap[q.M]?=some (.cells (q.cells rg vv fv (.slice k0 A.length kc0)) 85 (0,0)):=(hT.block _ h.mlt hnM).trans h.hm
 have hnM':(Value.slice xa (A.length+1) xc).ownBlock≠some q.M:=own_ne_cells hown hm1 (by decide)
 have h3:∀ b cs,x.heap[b]?=some (.cells cs 9 (0,0))→¬ (Value.slice k0 A.length kc0).ownBlock=some b:=fun b cs hb e=>own_ne_cells h.arrs hb (by decide) e
 have h3':∀ b cs,y.heap[b]?=some (.cells cs 9 (0,0))→¬ b=q.M:=fun b cs hb e=>by subst e;rw[hm1] at hb;simp at hb
 have hb1:=below_then h.below hT h.below.size (fun i e=>Nat.le_trans h.c1.1 (own_is h.arrs e).1)
 have hv1:=h.vars.turn hT h3 (fun i hi e=>by obtain⟨vs,_,ho,_⟩:=h.vars;exact MkS.own_ne_own ho h.arrs (by decide) hi e)
 have hf1:=own_turn h.first hT (fun k hk e=>h.dis k hk e)
 refine⟨below_then hb1 hsc hb1.size (fun i e=>by rw[e];exact h.lm),?_,strs_turn (strs_turn h.chs hT fun b cs _ hb=>h3 b cs hb) hsc (fun b cs _ hb=>h3' b cs hb),strs_turn (strs_turn h.sit hT fun b cs _ hb=>h3 b cs hb) hsc (fun b cs _ hb=>h3' b cs hb),strs_turn (strs_turn h.mn hT fun b cs _ hb=>h3 b cs hb) hsc (fun b cs _ hb=>h3' b cs hb),hv1.turn hsc h3' (fun i hi e=>hv1.ne hm1 (by decide) (by rw[hi,e])),own_turn hf1 hsc (fun k hk e=>own_ne_cells hf1 hm1 (by decide) (by rw[hk,e])),?_,fun k hk e=>?_,⟨h.c1.1,Nat.le_trans h.c1.2 (Nat.le_trans hT.size hsc.size)⟩,h.lm⟩
 ·rw[heap_setCell_same _ _ _ _ _ _ hm1]
  rfl
 ·have h1:=own_turn hown hsc (fun k hk e=>hnM' (by rw[hk,e]))
  rw[List.flatMap_append,List.length_append,List.length_singleton]
  simpa using h1
 ·rcases hblk k e with h1|h1
  ·exact h.dis k hk h1
  ·obtain⟨_,cur,h2⟩:=own_is h.first hk
   have:=(gsFlO h2)
   omega
theorem At.counted {q:PrR} {rg:Int} {vv fv av:Value} {V:List (List ByteArray)} {F A:List Int} {x:World} (n:Int) (h:q.At rg vv fv av V F A x):q.At n vv fv av V F A (x.setCell ⟨q.M,8,none⟩ (.int .i64 n)):=by
 have hsc:=setCell_turned x ⟨q.M,8,none⟩ (.int .i64 n)
 have h3':∀ b cs,x.heap[b]?=some (.cells cs 9 (0,0))→¬ b=q.M:=fun b cs hb e=>by subst e;rw[h.hm] at hb;simp at hb
 refine⟨below_then h.below hsc h.below.size (fun i e=>by rw[e];exact h.lm),?_,strs_turn h.chs hsc (fun b cs _ hb=>h3' b cs hb),strs_turn h.sit hsc (fun b cs _ hb=>h3' b cs hb),strs_turn h.mn hsc (fun b cs _ hb=>h3' b cs hb),h.vars.turn hsc h3' (fun i hi e=>h.vars.ne h.hm (by decide) (by rw[hi,e])),own_turn h.first hsc (fun k hk e=>own_ne_cells h.first h.hm (by decide) (by rw[hk,e])),own_turn h.arrs hsc (fun k hk e=>own_ne_cells h.arrs h.hm (by decide) (by rw[hk,e])),h.dis,⟨h.c1.1,Nat.le_trans h.c1.2 hsc.size⟩,h.lm⟩
 rw[heap_setCell_same _ _ _ _ _ _ h.hm]
 rfl
theorem At.pushed {q:PrR} {rg:Int} {va fa:Option Addr} {vk fk:Nat} {av:Value} {V:List (List ByteArray)} {F A:List Int} {x y z:World} {ya ya2:Option Addr} {yc yc2:Nat} {vs:List Value} (lv:Value) (l:List ByteArray) (n:Int)
  (h:q.At rg (.slice va V.length vk) (.slice fa F.length fk) av V F A x) (hv:q.VarsIs (.slice va V.length vk) V vs x) (hlv:RdStrs (some (upFrom q.w0.heap.size)) x lv l)
  (hT:Turned (fun k=>(Value.slice va V.length vk).ownBlock=some k) x y)
  (hy:y.ownsRow q.c1 22 1 (.slice ya (V.length+1) yc) (V.length+1) (vs++[lv]))
  (hT2:Turned (fun k=>(Value.slice fa F.length fk).ownBlock=some k) y z) (hown2:z.ownsRow q.c1 3 1 (.slice ya2 (F.length+1) yc2) (F.length+1) (F.flatMap cellsInt++cellsInt n))
  (hblk2:∀ k,(Value.slice ya2 (F.length+1) yc2).ownBlock=some k→(Value.slice fa F.length fk).ownBlock=some k ∨ y.heap.size≤k) :
  q.At rg (.slice ya (V.length+1) yc) (.slice ya2 (F.length+1) yc2) av (V++[l]) (F++[n]) A ((z.setCell ⟨q.M,5,none⟩ (.slice ya (V.length+1) yc)).setCell ⟨q.M,6,none⟩ (.slice ya2 (F.length+1) yc2)):=by
 obtain⟨hvl,hvo,hvr⟩:=hv
 have hnM:(Value.slice va V.length vk).ownBlock≠some q.M:=own_ne_cells hvo h.hm (by decide)
 have hm1:=(hT.block _ h.mlt hnM).trans h.hm
 have hs1:∀ b cs,x.heap[b]?=some (.cells cs 9 (0,0))→¬ (Value.slice va V.length vk).ownBlock=some b:=fun b cs hb e=>own_ne_cells hvo hb (by decide) e
 have hf1:=own_turn h.first hT (fun k hk e=>MkS.own_ne_own h.first hvo (by decide) hk e)
 have ha1:=own_turn h.arrs hT (fun k hk e=>MkS.own_ne_own h.arrs hvo (by decide) hk e)
 have hb1:=below_then h.below hT h.below.size (fun i e=>Nat.le_trans h.c1.1 (own_is hvo e).1)
 have hnM2:(Value.slice fa F.length fk).ownBlock≠some q.M:=own_ne_cells hf1 hm1 (by decide)
 have hmy:q.M<y.heap.size:=(gsFlO hm1)
 have hm2:=(hT2.block _ hmy hnM2).trans hm1
 have hs2:∀ b cs,y.heap[b]?=some (.cells cs 9 (0,0))→¬ (Value.slice fa F.length fk).ownBlock=some b:=fun b cs hb e=>own_ne_cells hf1 hb (by decide) e
 have hv2:=own_turn hy hT2 (fun k hk e=>MkS.own_ne_own hy hf1 (by decide) hk e)
 have ha2:=own_turn ha1 hT2 (fun k hk e=>h.dis k e hk)
 have hb2:=below_then hb1 hT2 hb1.size (fun i e=>Nat.le_trans h.c1.1 (own_is hf1 e).1)
 have hsc:=(setCell_turned z ⟨q.M,5,none⟩ (.slice ya (V.length+1) yc)).trans (setCell_turned (z.setCell ⟨q.M,5,none⟩ (.slice ya (V.length+1) yc)) ⟨q.M,6,none⟩ (.slice ya2 (F.length+1) yc2))
 have hs3:∀ b cs,z.heap[b]?=some (.cells cs 9 (0,0))→¬ b=q.M:=fun b cs hb e=>by subst e;rw[hm2] at hb;simp at hb
 have keep3:∀ {g:Nat→Prop} {v:Value} {l:List ByteArray},RdStrs (some g) x v l→RdStrs (some g) ((z.setCell ⟨q.M,5,none⟩ (.slice ya (V.length+1) yc)).setCell ⟨q.M,6,none⟩ (.slice ya2 (F.length+1) yc2)) v l:=fun h=>
  strs_turn (strs_turn (strs_turn h hT fun b cs _ hb=>hs1 b cs hb) hT2 fun b cs _ hb=>hs2 b cs hb) hsc fun b cs _ hb=>hs3 b cs hb
 refine⟨below_then hb2 hsc hb2.size (fun i e=>by rw[e];exact h.lm),?_,keep3 h.chs,keep3 h.sit,keep3 h.mn,⟨vs++[lv],by simp[hvl],?_,fun i v l' hv hl'=>?_⟩,?_,own_turn ha2 hsc (fun k hk e=>own_ne_cells ha2 hm2 (by decide) (by rw[hk,e])),fun k hk e=>?_,⟨h.c1.1,Nat.le_trans h.c1.2 (Nat.le_trans hT.size (Nat.le_trans hT2.size hsc.size))⟩,h.lm⟩
 ·rw[heap_setCell_same _ _ _ _ _ _ (heap_setCell_same _ _ _ _ _ _ hm2)]
  rfl
 ·have h1:=own_turn hv2 hsc (fun k hk e=>own_ne_cells hv2 hm2 (by decide) (by rw[hk,e]))
  rw[List.length_append,List.length_singleton]
  exact h1
 ·rcases Nat.lt_or_ge i V.length with hi|hi
  ·rw[List.getElem?_append_left (by omega)] at hv
   rw[List.getElem?_append_left hi] at hl'
   exact keep3 (hvr i v l' hv hl')
  ·have hi2:i=V.length:=by
    have:=(List.getElem?_eq_some_iff.1 hl').1
    rw[List.length_append,List.length_singleton] at this
    omega
   subst hi2
   rw[← hvl,List.getElem?_concat_length] at hv
   rw[List.getElem?_concat_length] at hl'
   obtain rfl:=Option.some.inj hv
   obtain rfl:=Option.some.inj hl'
   exact keep3 hlv
 ·have h1:=own_turn hown2 hsc (fun k hk e=>own_ne_cells hown2 hm2 (by decide) (by rw[hk,e]))
  rw[List.flatMap_append,List.length_append,List.length_singleton]
  simpa using h1
 ·rcases hblk2 k hk with h1|h1
  ·exact h.dis k h1 e
  ·obtain⟨_,cur,h2⟩:=own_is ha1 e
   have:=(gsFlO h2)
   omega
theorem At.made {q:PrR} {va fa ra:Option Addr} {vk fk rk:Nat} {rg:Int} {w:World} (h:q.At rg (.slice va (q.p.funcs.length+1) vk) (.slice fa (q.p.funcs.length+1) fk) (.slice ra q.p.arrays.length rk) (RMk.varsL q.p) (RMk.firstL q.p) (q.p.arrays.map (·.size)) w)
  (hf:q.p.funcs.length≤99) (hal:q.p.arrays.length≤1000) (hfi:∀ n∈RMk.firstL q.p,InI64 n) (hai:∀ x∈q.p.arrays,InI64 x.size) (hS:q.S=sitesAllF q.p) :
  RMk.At ⟨q.w0,w.heap.size,q.M,envOf q.p,q.ac,q.kc,q.aa,q.ka,q.af,q.kf,q.am,q.km,va,vk,fa,fk,q.ca,q.ck,q.sa,q.sk,ra,rk,rg⟩ (.slice none 0 0) false [] w:=by
 have hlo:∀ {T:TypeId} {b:Nat},Free (some (upFrom q.w0.heap.size)) T w b→Free (some (RMk.lo ⟨q.w0,w.heap.size,q.M,envOf q.p,q.ac,q.kc,q.aa,q.ka,q.af,q.kf,q.am,q.km,va,vk,fa,fk,q.ca,q.ck,q.sa,q.sk,ra,rk,rg⟩)) T w b:=fun hf=>by
  obtain⟨h1,cs,h2⟩:=hf _ rfl
  exact Free.of ⟨h1,(gsFlO h2)⟩ h2
 have hlq:∀ {T:TypeId} {b:Nat},Free (some q.lo) T w b→Free (some (upFrom q.w0.heap.size)) T w b:=fun hf=>by
  obtain⟨h1,cs,h2⟩:=hf _ rfl
  exact Free.of h1.1 h2
 have hstr:∀ {v:Value} {l:List ByteArray},RdStrs (some (upFrom q.w0.heap.size)) w v l→RdStrs (some (RMk.lo ⟨q.w0,w.heap.size,q.M,envOf q.p,q.ac,q.kc,q.aa,q.ka,q.af,q.kf,q.am,q.km,va,vk,fa,fk,q.ca,q.ck,q.sa,q.sk,ra,rk,rg⟩)) w v l:=fun h=>
  RdStrs.map (S:=fun T=>T=9) (fun T b hT hb hf=>hlo hf) (fun T b o u hT hf hc=>hc) rfl h
 have hint:∀ {v:Value} {l:List Int},RdRow kInt (some (upFrom q.c1)) w v l→RdRow kInt (some (RMk.lo ⟨q.w0,w.heap.size,q.M,envOf q.p,q.ac,q.kc,q.aa,q.ka,q.af,q.kf,q.am,q.km,va,vk,fa,fk,q.ca,q.ck,q.sa,q.sk,ra,rk,rg⟩)) w v l:=fun h=>
  RdRow.map (fun b hb hf=>by obtain⟨h1,cs,h2⟩:=hf _ rfl;exact Free.of ⟨Nat.le_trans ‹PrR.At ..›.c1.1 h1,hb⟩ h2) (fun b o v hf hc=>hc) h
 have hVL:(RMk.varsL q.p).length=q.p.funcs.length+1:=by unfold RMk.varsL;simp
 have hFL:(RMk.firstL q.p).length=q.p.funcs.length+1:=by unfold RMk.firstL;simp
 have hAL:(q.p.arrays.map (·.size)).length=q.p.arrays.length:=List.length_map _
 obtain⟨vs,hvl,hvo,hvr⟩:=h.vars
 have hfo:RdRow kInt (some (upFrom q.c1)) w (.slice fa (q.p.funcs.length+1) fk) (RMk.firstL q.p):=own_rows h.first (by rw[hFL];show _*8≤_;omega) hfi
 have hao:RdRow kInt (some (upFrom q.c1)) w (.slice ra q.p.arrays.length rk) (q.p.arrays.map (·.size)):=own_rows h.arrs (by rw[hAL];show _*8≤_;omega) (by
  intro n hn
  obtain⟨x,hx,rfl⟩:=List.mem_map.1 hn
  exact hai x hx)
 refine⟨h.below,?_,World.ownsRow_nil _ _ _ _,(fun c hc=>by cases hc),?_,hint hfo,hstr (RdStrs.map (S:=fun T=>T=9) (fun T b hT hb hf=>hlq hf) (fun T b o u hT hf hc=>hc) rfl h.chs),?_,hint hao,h.lm,Nat.le_refl _⟩
 ·have hm:=h.hm
  have e:(envOf q.p).S.length=q.S.length:=by rw[hS];rfl
  show w.heap[q.M]?=some (.cells (RMk.cells _ _ _) _ _)
  unfold RMk.cells
  rw[e]
  exact hm
 ·obtain⟨a,c,e,hr⟩:=own_read hvo
  rw[hVL] at e
  simp only[Value.slice.injEq,true_and] at e
  obtain⟨rfl,rfl⟩:=e
  refine⟨va,vk,by show Value.slice va (q.p.funcs.length+1) vk=.slice va (RMk.varsL q.p).length vk;rw[hVL],by show (RMk.varsL q.p).length≤100;rw[hVL];omega,fun i l hl=>?_⟩
  obtain⟨v,hv⟩:∃ v,vs[i]?=some v:=⟨_,lgFlO (by rw[hvl];exact (List.getElem?_eq_some_iff.1 hl).1)⟩
  obtain⟨g,e1,hfr,hc⟩:=hr i v hv
  refine⟨g,0,v,e1,?_,hc,hstr (hvr i v l hv hl)⟩
  obtain⟨h1,cs,h2⟩:=hfr _ rfl
  exact Free.of ⟨Nat.le_trans h.c1.1 h1,(gsFlO h2)⟩ h2
 ·have hs:=h.sit
  have e:(envOf q.p).S=q.S:=by rw[hS];rfl
  show RdStrs _ _ (.slice _ (envOf q.p).S.length _) (envOf q.p).S
  rw[e]
  exact hstr (RdStrs.map (S:=fun T=>T=9) (fun T b hT hb hf=>hlq hf) (fun T b o u hT hf hc=>hc) rfl hs)
end PrR
theorem strs_cellsR {lo:Option (Nat→Prop)} {w:World} {ad:Addr} {n c:Nat} {l:List ByteArray} (h:RdStrs lo w (.slice (some ad) n c) l):∀ j u,(l.flatMap strCells)[j]?=some u→w.cell? (ad.add j)=some u:=by
 obtain⟨a',c',e,_,hr⟩:=h
 simp only[Value.slice.injEq] at e
 obtain⟨rfl,_,_⟩:=e
 intro j u hj
 have hlt:j<l.length:=by
  have:=(List.getElem?_eq_some_iff.1 hj).1
  rw[flat_length strCells 1 (fun _=>rfl)] at this
  omega
 obtain⟨b,o,e,_,hc,_⟩:=hr j _ (List.getElem?_eq_getElem hlt)
 simp only[Option.some.injEq] at e
 subst e
 have h1:=flat_get strCells 1 (fun _=>rfl) l j 0 _ (List.getElem?_eq_getElem hlt) (by omega)
 rw[Nat.mul_one,Nat.add_zero] at h1
 rw[h1] at hj
 have e2:(⟨b,o,none⟩:Addr).add j=⟨b,o+j,none⟩:=by
  unfold Addr.add
  split
  ·rename_i h;subst h;rfl
  ·rfl
 rw[e2]
 simp[strCells] at hj
 subst hj
 exact hc
theorem run_append_noneR {P:Program} {w:World} (base:Nat) (t ty e:TypeId) (i:TypeInfo) (size:Nat) (ht:P.underlying t=some (.slice e)) (hi:P.info? e=some i)
  (v:Value) (n c:Nat) (xs:List Value) (hown:w.ownsRow base e size v n xs) :
  (Builtin.append_ #[t,t] ty #[v,.slice none 0 c]).run P w=.ok v w:=by
 rcases hown.2 with ⟨rfl,rfl⟩|⟨g,cap,cur,rfl,_,_,hnc,_⟩
 ·simp[Builtin.append_,run_underlying ht,sizeOf,typeInfo,hi,Builtin.lenOf,Builtin.firstCells]
 ·simp[Builtin.append_,run_underlying ht,sizeOf,typeInfo,hi,Builtin.lenOf,Builtin.firstCells,hnc,storeCells]
theorem wpList_append_noneR {P:Program} {w:World} {ops:Array Oper} {rest:List Oper} {o:Oper} {a:Act} {Q:Exit→Act→World→Prop} (hgd:o.guard=none) (s x:Operand) (t:TypeId)
  (ho:o.op=.call { callee:=.builtin .append,args:=#[s,x],argTypes:=#[t,t] })
  (base:Nat) (e:TypeId) (i:TypeInfo) (size:Nat) (ht:P.underlying t=some (.slice e)) (hi:P.info? e=some i)
  (v:Value) (n c:Nat) (xs:List Value) (hs:a.eval s=v) (hown:w.ownsRow base e size v n xs) (hx:a.eval x=.slice none 0 c)
  (h:wpList P ops Q rest (a.put o.dst v) w):wpList P ops Q (o :: rest) a w:=by
 refine wpList_plain hgd fun K hK=>?_
 have hrun:=run_append_noneR (P:=P) (w:=w) base t o.type e i size ht hi v n c xs hown
 unfold Oper.wp
 simp[execOp,ho,resolve,invoke,builtin,hs,hx,hrun,Result.andThen]
 exact hK _ _ h
theorem wpList_append_strs {w:World} {ops:Array Oper} {rest:List Oper} {o:Oper} {a:Act} {Q:Exit→Act→World→Prop} (hgd:o.guard=none) (s x:Operand)
  (ho:o.op=.call { callee:=.builtin .append,args:=#[s,x],argTypes:=#[22,22] }) (base:Nat)
  (v:Value) (n:Nat) (xs:List Value) (hs:a.eval s=v) (hown:w.ownsRow base 9 1 v n xs) (lo:Option (Nat→Prop)) (xv:Value) (l:List ByteArray) (hx:a.eval x=xv) (hrd:RdStrs lo w xv l)
  (hn:n+l.length≤1000000000) (hbase:base≤w.heap.size)
  (h:∀ a' c' w',w'.ownsRow base 9 1 (.slice a' (n+l.length) c') (n+l.length) (xs++l.flatMap strCells)→Turned (fun k=>v.ownBlock=some k) w w'→(∀ k,(Value.slice a' (n+l.length) c').ownBlock=some k→v.ownBlock=some k ∨ w.heap.size≤k)→wpList Tryd.prog ops Q rest (a.put o.dst (.slice a' (n+l.length) c')) w') :
  wpList Tryd.prog ops Q (o :: rest) a w:=by
 obtain⟨i0,hi,hz0,hz1,hz2⟩:=info_parts infoStr
 obtain⟨ax,cx,rfl,⟨hl,_⟩,hr⟩:=id hrd
 cases ax with
 | none=>
  have hl0:l=[]:=by
   cases l with
   | nil=>rfl
   | cons y r=>obtain⟨b,o',e,_⟩:=hr 0 y rfl;cases e
  subst hl0
  refine wpList_append_noneR hgd s x 22 ho base 9 i0 1 Tryd.underlying22 hi v n cx xs hs hown hx ?_
  obtain⟨a',c',rfl,_⟩:=own_read hown
  exact h a' c' w (by simpa using hown) (Turned.refl _ _) (fun k hk=>.inl hk)
 | some ad=>
  refine wpList_append_own_at _ hgd s x 22 ho base 9 i0 (.string ⟨#[]⟩) 1 16 Tryd.underlying22 hi hz0 hz1 hz2 rfl (by decide) v n xs hs hown ad l.length cx (l.flatMap strCells) hx (flat_length strCells 1 (fun _=>rfl) l) (strs_cellsR hrd) (fun u hu=>by
   obtain⟨y,_,hy⟩:=List.mem_flatMap.1 hu
   simp[strCells] at hy
   subst hy;rfl) (by unfold maxLen;omega) (by omega) hbase ?_
  intro v' w' ho' hg' _ hb'
  obtain⟨a',c',rfl,_⟩:=own_read ho'
  refine h a' c' w' ho' (Turned.of_grown hg' (fun b e=>e)) (fun k hk=>?_)
  rcases hb' with e|e
  ·exact .inl (e.symm.trans hk)
  ·exact .inr (Nat.le_of_eq (Option.some.inj (e.symm.trans hk)))
theorem wpList_copy_strs {w:World} {ops:Array Oper} {rest:List Oper} {o:Oper} {a:Act} {Q:Exit→Act→World→Prop} (hgd:o.guard=none) (x:Operand)
  (ho:o.op=.call { callee:=.builtin .append,args:=#[.const (.slice none 0 0),x],argTypes:=#[22,22] }) (lo:Option (Nat→Prop)) (xv:Value) (l:List ByteArray) (hx:a.eval x=xv) (hrd:RdStrs lo w xv l)
  (hn:l.length≤1000000000)
  (h:∀ a' c' w',w'.ownsRow w.heap.size 9 1 (.slice a' l.length c') l.length (l.flatMap strCells)→Below w.heap.size w w'→wpList Tryd.prog ops Q rest (a.put o.dst (.slice a' l.length c')) w') :
  wpList Tryd.prog ops Q (o :: rest) a w:=by
 refine wpList_append_strs hgd (.const (.slice none 0 0)) x ho w.heap.size (.slice none 0 0) 0 [] rfl (World.ownsRow_nil _ _ _ _) lo xv l hx hrd (by omega) (Nat.le_refl _) ?_
 intro a' c' w' ho' hT' hb'
 rw[Nat.zero_add] at ho' ⊢
 rw[List.nil_append] at ho'
 exact h a' c' w' ho' (hT'.below w.heap.size (Nat.le_refl _) (fun i e=>by simp[Value.ownBlock] at e))
/-! ### a drawn region with readers of two sorts, whose other operations come up one at a time, or two in either order -/
section
variable {P:Program} {ops:Array Oper} {Q:Exit→Act→World→Prop} {md:Region.Mode} {C C0:World→Prop} {E:Nat→Bool}
def treeOk (md:Region.Mode) (ops:Array Oper):Mix→Array Bool→Bool
 | .fin _,L=>(Region.ready md ops L).isEmpty
 | .one _ i t,L=>(Region.ready md ops L==[i])&&treeOk md ops t (L.setIfInBounds i true)
 | .two _ i j t l,L=>(Region.ready md ops L==[i,j])&&treeOk md ops t (L.setIfInBounds i true)&&treeOk md ops l (L.setIfInBounds j true)
def treeLen:Mix→Nat→Bool
 | .fin _,n=>n==0
 | .one _ _ t,n+1=>treeLen t n
 | .two _ _ _ t l,n+1=>treeLen t n&&treeLen l n
 | _,_=>false
def treeRun (P:Program) (ops:Array Oper) (Q:Exit→Act→World→Prop) (C C0:World→Prop) (E:Nat→Bool):Mix→Act→World→Prop
 | .fin _,a,w=>Q .normal a w
 | .one _ i t,a,w=>wpOp P ops Q i (fun a' w'=>((C0 w→C0 w')∧(E i=false→C w→C w'))∧treeRun P ops Q C C0 E t a' w') a w
 | .two _ i j t l,a,w=>wpOp P ops Q i (fun a' w'=>((C0 w→C0 w')∧(E i=false→C w→C w'))∧treeRun P ops Q C C0 E t a' w') a w∧wpOp P ops Q j (fun a' w'=>((C0 w→C0 w')∧(E j=false→C w→C w'))∧treeRun P ops Q C C0 E l a' w') a w
theorem anyK_of_tree:∀ (t:Mix) (n:Nat) (L:Array Bool) (a:Act) (w:World),treeLen t n=true→treeOk md ops t L=true→treeRun P ops Q C C0 E t a w→anyK P md ops Q C C0 E n L a w
 | .fin _,0,L,a,w,_,h,k=>⟨List.isEmpty_iff.1 h,k⟩
 | .fin _,n+1,_,_,_,hn,_,_=>by simp[treeLen] at hn
 | .one _ _ _,0,_,_,_,hn,_,_=>by simp[treeLen] at hn
 | .two _ _ _ _ _,0,_,_,_,hn,_,_=>by simp[treeLen] at hn
 | .one _ j t,n+1,L,a,w,hn,h,k=>by
  simp only[treeOk,Bool.and_eq_true,beq_iff_eq] at h
  simp only[treeLen] at hn
  refine⟨fun e=>(by rw[h.1] at e;cases e),fun i hi=>?_⟩
  rw[h.1] at hi
  simp only[List.mem_cons,List.not_mem_nil,or_false] at hi
  subst hi
  exact wpOp_mono (fun a' w' s=>⟨s.1,anyK_of_tree t n _ a' w' hn h.2 s.2⟩) k
 | .two _ j m t l,n+1,L,a,w,hn,h,k=>by
  simp only[treeOk,Bool.and_eq_true,beq_iff_eq] at h
  simp only[treeLen,Bool.and_eq_true] at hn
  refine⟨fun e=>(by rw[h.1.1] at e;cases e),fun i hi=>?_⟩
  rw[h.1.1] at hi
  simp only[List.mem_cons,List.not_mem_nil,or_false] at hi
  rcases hi with rfl|rfl
  ·exact wpOp_mono (fun a' w' s=>⟨s.1,anyK_of_tree t n _ a' w' hn.1 h.1.2 s.2⟩) k.1
  ·exact wpOp_mono (fun a' w' s=>⟨s.1,anyK_of_tree l n _ a' w' hn.2 h.2 s.2⟩) k.2
theorem tree_one {j:Nat} {t:Mix} {a:Act} {w:World} (h:wpOp P ops Q j (fun a' w'=>((C0 w→C0 w')∧(E j=false→C w→C w'))∧treeRun P ops Q C C0 E t a' w') a w):treeRun P ops Q C C0 E (.one [] j t) a w:=h
theorem tree_two {j m:Nat} {t l:Mix} {a:Act} {w:World} (h:wpOp P ops Q j (fun a' w'=>((C0 w→C0 w')∧(E j=false→C w→C w'))∧treeRun P ops Q C C0 E t a' w') a w)
  (k:wpOp P ops Q m (fun a' w'=>((C0 w→C0 w')∧(E m=false→C w→C w'))∧treeRun P ops Q C C0 E l a' w') a w):treeRun P ops Q C C0 E (.two [] j m t l) a w:=⟨h,k⟩
theorem tree_tail (hC0:∀ w,C0 w):∀ (l:List Nat) (os:List Oper) (a:Act) (w:World),l.map (fun i=>ops[i]?)=os.map some→l.all E=true→wpList P ops Q os a w→treeRun P ops Q C C0 E (tailOf l) a w
 | [],[],_,_,_,_,h=>h
 | [],_ :: _,_,_,h,_,_=>by cases h
 | _ :: _,[],_,_,h,_,_=>by cases h
 | i :: l,o :: os,a,w,h,hE,hw=>by
  simp only[List.map_cons,List.cons.injEq] at h
  simp only[List.all_cons,Bool.and_eq_true] at hE
  have hk:∀ a' w',wpList P ops Q os a' w'→((C0 w→C0 w')∧(E i=false→C w→C w'))∧treeRun P ops Q C C0 E (tailOf l) a' w':=by
   intro a' w' h3
   exact⟨⟨fun _=>hC0 w',fun e=>(by rw[hE.1] at e;cases e)⟩,tree_tail hC0 l os a' w' h.2 hE.2 h3⟩
  have h0:wpOp P ops Q i (wpList P ops Q os) a w:=by rw[wpOp_some h.1];exact hw
  exact tree_one (wpOp_mono hk h0)
end
theorem wp_region_tree {P:Program} {Q:Exit→Act→World→Prop} (C C0:World→Prop) {id:Nat} {a:Act} {w:World} {l:List Oper} (rs ks:List Nat) (n:Nat) (t:Mix) (E:Nat→Bool) (hm:P.follows .mixedOrders=true) (hs:Region.noSelect l.toArray=true)
  (hl:rs.length+(ks.length+n)=l.length) (htl:treeLen t n=true) (hok:(match readOk .any l.toArray E rs (Array.replicate l.length false) with|some L=>(match pureOk .any l.toArray ks L with|some L1=>treeOk .any l.toArray t L1|none=>false)|none=>false)=true)
  (hQ:∀ c (d:Option Tmp) v a w,Q (.panic c) (a.put d v) w→Q (.panic c) a w) (hc:C w.drew) (hc0:C0 w.drew)
  (h:wpQuiet P l.toArray C (fun a1=>wpQuiet P l.toArray C0 (fun a2=>treeRun P l.toArray Q C C0 E t a2 w.drew) (opsOf l.toArray ks) a1) (opsOf l.toArray rs) a):(Code.region id l.toArray true).wp P Q a w:=by
 refine wp_region_any hm (any_of_K (C:=C) (C0:=C0) (E:=E) _ _ _ _ ?_)
 cases hr:readOk .any l.toArray E rs (Array.replicate l.length false) with
 | none=>rw[hr] at hok;cases hok
 | some L=>
  rw[hr] at hok
  simp only at hok
  cases hp:pureOk .any l.toArray ks L with
  | none=>rw[hp] at hok;cases hok
  | some L1=>
   rw[hp] at hok
   simp only at hok
   have:=anyK_reads (md:=.any) (C:=C) (C0:=C0) (Q:=Q) (E:=E) (n:=ks.length+n) (w:=w.drew) hs hQ hc rs (Array.replicate l.length false) L a (Closed.start _) hr h
    (fun a' hcl hq=>anyK_keeps (md:=.any) (C:=C) (C0:=C0) (Q:=Q) (E:=E) (n:=n) hs hQ hc0 ks L L1 a' hcl hp hq
      (fun a2 hcl2 hq2=>anyK_of_tree t n L1 a2 w.drew htl hok hq2))
   rw[hl] at this
   simpa using this
theorem tree_walk {P:Program} {ops:Array Oper} {C C0:World→Prop} {K:Act→Prop} {rs ks:List Nat} {l1 l2:List Oper} {a:Act} (e1:opsOf ops rs=l1) (e2:opsOf ops ks=l2) (h:wpQuiet P ops C (fun a1=>wpQuiet P ops C0 K l2 a1) l1 a) :
  wpQuiet P ops C (fun a1=>wpQuiet P ops C0 K (opsOf ops ks) a1) (opsOf ops rs) a:=by rw[e1,e2];exact h
namespace EnvF
theorem setN_snocR (C:List CodeD) (c:CodeD) (k:Nat) (v:Int) (h:k<C.length):setN (C++[c]) k v=setN C k v++[c]:=by
 unfold setN
 rw[List.modify_eq_take_cons_drop (by rw[List.length_append];omega),List.modify_eq_take_cons_drop h,List.take_append_of_le_length (Nat.le_of_lt h),List.getElem_append_left h,List.drop_append_of_le_length (by omega)]
 simp
theorem patch_snocR (c:CodeD):∀ (P:List (Nat × Int)) (C:List CodeD),(∀ q∈P,q.1<C.length)→patch (C++[c]) P=patch C P++[c]
 | [],_,_=>rfl
 | q :: r,C,h=>by
  show patch (setN (C++[c]) q.1 q.2) r=patch (setN C q.1 q.2) r++[c]
  rw[setN_snocR C c q.1 q.2 (h q (by simp))]
  exact patch_snocR c r _ (fun x hx=>by rw[setN_length];exact h x (by simp[hx]))
theorem stI_jlR (E:EnvF) (n:Nat) (f dst:Int) (C:List CodeD) (code:List InstrD) (k:Nat):∀ q∈(E.stI (E.bodyI n) f dst C code k).J,q.1<(E.stI (E.bodyI n) f dst C code k).C.length:=by
 induction k with
 | zero=>rw[stI_zero];intro q hq;cases hq
 | succ k ih=>
  cases h:code[k]? with
  | none=>
   have e:E.stI (E.bodyI n) f dst C code (k+1)=E.stI (E.bodyI n) f dst C code k:=by unfold stI;rw[List.take_add_one,h];simp
   rw[e];exact ih
  | some x=>
   have hup:(E.stI (E.bodyI n) f dst C code k).C.length≤(E.stI (E.bodyI n) f dst C code (k+1)).C.length:=by
    rw[E.stI_succ _ f dst C code k x h]
    exact E.foldlI_len (E.bodyI n) (E.bodyI_len n) f dst [x] _
   intro q hq
   rw[E.stI_succ _ f dst C code k x h,stepI_J] at hq
   by_cases h8:x.kind=8 ∨ x.kind=9
   ·rw[if_pos h8] at hq
    rcases List.mem_append.1 hq with hq|hq
    ·exact Nat.lt_of_lt_of_le (ih q hq) hup
    ·rw[List.mem_singleton] at hq;subst hq
     rw[E.stI_succ _ f dst C code k x h]
     unfold stepI
     rw[if_neg (by omega),if_neg (by omega),if_pos h8]
     simp
   ·rw[if_neg h8] at hq
    exact Nat.lt_of_lt_of_le (ih q hq) hup
end EnvF
theorem codeI25_ref {p:ProgD} (H:checkF p=none):codeI25 p=resR (envOf p) (p.funcs.length+1) p.funcs.length 0 []++[⟨9,0,0,0,zeroRef,zeroRef⟩]:=by
 have hW:=wfP_of H
 have hm:=hW.main
 have hall:=(envOf p).stI_all ((envOf p).bodyI p.funcs.length) (-1) 0 [] p.main
 obtain⟨S,hS⟩:∃ S,(envOf p).stI ((envOf p).bodyI p.funcs.length) (-1) 0 [] p.main p.main.length=S:=⟨_,rfl⟩
 have hT:S.T=[]:=by
  rw[← hS]
  exact (envOf p).stI_T_nil p.funcs.length (-1) 0 [] p.main (fun x hx=>(hm.ins x hx).ret rfl) p.main.length
 have hJ:=(envOf p).stI_jlR p.funcs.length (-1) 0 [] p.main p.main.length
 rw[hS] at hall hJ
 unfold codeI25 resR
 rw[if_neg (by show ¬ p.funcs.length<p.funcs.length;omega)]
 show EnvF.finishI (-1) 0 ((envOf p).foldI ((envOf p).bodyI p.funcs.length) (-1) 0 (bodyF p (-1)).2 [])=EnvF.patch ((envOf p).foldI ((envOf p).bodyI p.funcs.length) (-1) 0 (bodyF p (-1)).2 []).C (EnvF.jumpsOf ((envOf p).foldI ((envOf p).bodyI p.funcs.length) (-1) 0 (bodyF p (-1)).2 []))++_
 rw[bodyF_main]
 show EnvF.finishI (-1) 0 ((envOf p).foldI ((envOf p).bodyI p.funcs.length) (-1) 0 p.main [])=EnvF.patch ((envOf p).foldI ((envOf p).bodyI p.funcs.length) (-1) 0 p.main []).C (EnvF.jumpsOf ((envOf p).foldI ((envOf p).bodyI p.funcs.length) (-1) 0 p.main []))++_
 rw[← hall]
 unfold EnvF.finishI
 rw[hT]
 show EnvF.patch (S.C++[EnvF.last (-1) 0]) (EnvF.jumpsOf S)=_
 rw[EnvF.patch_snocR _ _ _ (fun q hq=>by
  unfold EnvF.jumpsOf at hq
  obtain⟨j,hj,rfl⟩:=List.mem_map.1 hq
  exact hJ j hj)]
 rfl
theorem one_keepR {W w':World} {M:Nat} (h:w'.heap[M]?=W.heap[M]?):∀ x∈[M],w'.heap[x]?=W.heap[x]?:=by
 intro x hx;simp only[List.mem_cons,List.not_mem_nil,or_false] at hx;subst hx;exact h
theorem three_keepR {W w':World} {a b c:Nat} (ha:w'.heap[a]?=W.heap[a]?) (hb:w'.heap[b]?=W.heap[b]?) (hc:w'.heap[c]?=W.heap[c]?):∀ x∈[a,b,c],w'.heap[x]?=W.heap[x]?:=by
 intro x hx;simp only[List.mem_cons,List.not_mem_nil,or_false] at hx;rcases hx with rfl|rfl|rfl;exact ha;exact hb;exact hc
theorem infoSlR:(Tryd.prog.info? 22).map (fun i=>(i.zero,i.size,i.bytes))=some (some (.slice none 0 0),1,24):=by kernel_rfl
theorem infoIntR:(Tryd.prog.info? 3).map (fun i=>(i.zero,i.size,i.bytes))=some (some (.int .i64 0),1,8):=by kernel_rfl
theorem row_of_strsR {lo:Option (Nat→Prop)} {w:World} {v:Value} {l:List ByteArray} (h:RdStrs lo w v l):RdRow kStr lo w v l:=by
 obtain⟨a,c,rfl,hl,hr⟩:=h
 refine⟨a,c,rfl,hl,fun i s hs=>?_⟩
 obtain⟨b,o,rfl,hf,h0,hz⟩:=hr i s hs
 refine⟨b,o,rfl,hf,fun j u hj=>?_,hz⟩
 have hj0:j=0:=by
  have:=(List.getElem?_eq_some_iff.1 hj).1
  have e:(kStr.cells s).length=1:=rfl
  omega
 subst hj0
 have:u=.string s:=(Option.some.inj hj).symm
 subst this
 show w.cell? ⟨b,o+i*1+0,none⟩=_
 rw[Nat.mul_one,Nat.add_zero]
 exact h0
theorem rowNilR {α:Type} (K:Kind α) (lo:Option (Nat→Prop)) (w:World):RdRow K lo w (.slice none 0 0) []:=⟨none,0,rfl,⟨by simp,by simp⟩,fun i x h=>by simp at h⟩
theorem rdFlat_zeroR (lo:Option (Nat→Prop)) (w:World):RdFlat lo w zeroFlat (.slice none 0 0) (.slice none 0 0) (.slice none 0 0) (.slice none 0 0):=⟨rowNilR _ _ _,rowNilR _ _ _,rowNilR _ _ _,rowNilR _ _ _,i64_0,i64_0⟩
theorem results_cell_twoR {P:Program} {fn:Func} {p u:Tmp} {ty:TypeId} (h:fn.results=#[.cell p ty,.tmp u]) (tmps:Array Value) (w:World) (g:Nat) (t:TypeId) (cs:Array Value) (fr:Nat × Nat) (d:TypeDesc)
  (hp:tmps.getD p undef=.pointer (some ⟨g,0,none⟩)) (hg:w.heap[g]?=some (.cells cs t fr))
  (hu:P.underlying ty=some d) (hd:(match d with|.struct _|.array _ _=>true|_=>false)=true) (hi:(P.info? ty).map (·.size)=some cs.size) :
  (results fn tmps).run P w=.ok (.tuple #[.agg cs,tmps.getD u undef]) w:=by
 have hp':tmps[p]?.getD undef=.pointer (some ⟨g,0,none⟩):=by simpa using hp
 simp[results,h,hp',asAddr,run_loadVar_row w g t ty cs fr d hg hu hd hi]
theorem RdFlat.sameR {g g':Nat→Prop} {w w':World} {f:FlatD} {a b c d:Value} (h:RdFlat (some g) w f a b c d) (k:∀ b,g b→b<w.heap.size→w'.heap[b]?=w.heap[b]?) (hg:∀ b,b<w.heap.size→g b→g' b):RdFlat (some g') w' f a b c d:=
 ⟨h.1.same k hg,h.2.1.same k hg,h.2.2.1.same k hg,h.2.2.2.1.same k hg,h.2.2.2.2⟩
theorem locals_mainR {p:ProgD} (hc:checkF p=none):localsF p (-1)=(localsL [] p.main [],0):=by
 unfold localsF
 rw[hc]
 simp only
 rw[if_neg (by omega),bodyF_main]
theorem preC_all (p:ProgD):sitesOf [] (preC p (p.funcs.length+1))=sitesAllF p:=by
 unfold preC sitesAllF
 rw[List.take_of_length_le (by omega),if_pos (by omega)]
theorem varsL_take {p:ProgD} {k:Nat} (h:k≤p.funcs.length):(RMk.varsL p).take (k+1)=(RMk.varsL p).take k++[varsR p k]:=by
 rw[List.take_add_one,varsL_at h];rfl
theorem firstL_take {p:ProgD} {k:Nat} (h:k≤p.funcs.length):(RMk.firstL p).take (k+1)=(RMk.firstL p).take k++[(firstR p k:Int)]:=by
 rw[List.take_add_one,firstL_at h];rfl
theorem varsL_len (p:ProgD):(RMk.varsL p).length=p.funcs.length+1:=by unfold RMk.varsL;simp
theorem firstL_len (p:ProgD):(RMk.firstL p).length=p.funcs.length+1:=by unfold RMk.firstL;simp
theorem placesF_takeR:∀ (l:List FuncD) (i k:Nat),(placesF i (l.take k)).length≤(placesF i l).length
 | [],i,k=>by simp[placesF]
 | x :: r,i,0=>by simp[placesF]
 | x :: r,i,k+1=>by
  rw[List.take_succ_cons,placesF,placesF,List.length_append,List.length_append]
  have:=placesF_takeR r (i+1) k
  omega
def Made25 (W2:World) (p:ProgD) (ac:Option Addr) (kc:Nat) (aa:Option Addr) (ka:Nat) (af:Option Addr) (kf:Nat) (am:Option Addr) (km:Nat) (v:Value) (w:World):Prop:=∃ (M:Nat) (ca:Option Addr) (ck:Nat) (sa:Option Addr) (sk:Nat),v=.pointer (some ⟨M,0,none⟩)∧W2.heap.size≤M∧w.heap[M]?=some (.cells #[.int .i64 p.width,.slice ac p.chans.length kc,.slice aa p.arrays.length ka,.slice af p.funcs.length kf,.slice am p.main.length km,.slice none 0 0,.slice none 0 0,.int .i64 p.width,.int .i64 0,.slice ca p.chans.length ck,.slice sa (sitesAllF p).length sk,.slice none 0 0,.slice none 0 0,.bool false] 85 (0,0))∧RdStrs (some (upFrom W2.heap.size)) w (.slice ca p.chans.length ck) p.chans∧RdStrs (some (upFrom W2.heap.size)) w (.slice sa (sitesAllF p).length sk) (sitesAllF p)
theorem strs_into {g g':Nat→Prop} {w:World} {v:Value} {l:List ByteArray} (h:RdStrs (some g) w v l) (hg:∀ b,b<w.heap.size→g b→g' b):RdStrs (some g') w v l:=
 RdStrs.map (S:=fun T=>T=9) (fun T b hT hb hf=>by obtain⟨h1,cs,h2⟩:=hf _ rfl;exact Free.of (hg b hb h1) h2) (fun T b o u hT hf hc=>hc) rfl h
theorem refOf_of (hBody:∀ m:RMk,m.Ok→∀ n,n≤101→∀ f:Nat,f≤m.E.p.funcs.length→EnvF.Fits m.E.p n (fiR m.E.p f)→RBodyC m n f) (p:ProgD) (cv av fv mv:Value) (w:World) (h:RdProg none w p cv av fv mv) (hN:(codesOf p.funcs).length+p.main.length≤100000) :
  Calls Tryd.prog 12 #[progV p cv av fv mv] w fun e w'=>∃ c s a k,e=.returned (.tuple #[flatV (flatOf p).1 c s a k,.int .i64 (flatOf p).2])∧RdFlat (some (upFrom w.heap.size)) w' (flatOf p).1 c s a k∧Below w.heap.size w w':=by
 obtain⟨ac,kc,rfl,-,-⟩:=id h.1
 obtain⟨aa,ka,rfl,-,-⟩:=id h.2.1
 obtain⟨af,kf,rfl,-,-⟩:=id h.2.2.1
 obtain⟨am,km,rfl,-,-⟩:=id h.2.2.2.1
 obtain⟨hx0,hx1,hb0⟩:=heap2_of (w:=w) (A:=.cells #[.int .i64 p.width,.slice ac p.chans.length kc,.slice aa p.arrays.length ka,.slice af p.funcs.length kf,.slice am p.main.length km] 27) (B:=.cells #[.int .i64 0,.int .i64 0,.slice none 0 0,.slice none 0 0,.slice none 0 0,.slice none 0 0] 32) (Below.refl _ _)
 have H:=hid (h.keep hb0)
 have HN:=hid hN
 have HBODY:=hid hBody
 have HX0:=hid hx0
 have HX1:=hid hx1
 have HB0:=hid hb0
 clear h hx0 hx1 hb0 hN hBody
 go_enter Tryd.func12,Tryd.ntmps12
 go_upto_region 1 with fail
 generalize (w.alloc (.cells #[.int .i64 p.width,.slice ac p.chans.length kc,.slice aa p.arrays.length ka,.slice af p.funcs.length kf,.slice am p.main.length km] 27)).alloc (.cells #[.int .i64 0,.int .i64 0,.slice none 0 0,.slice none 0 0,.slice none 0 0,.slice none 0 0] 32)=W at *
 obtain⟨pb,hpb⟩:∃ pb,w.heap.size=pb:=⟨_,rfl⟩
 rw[hpb] at HX0 HX1
 rw[hpb]
 have HPB:=hid hpb
 clear hpb
 have c0:=row_of HX0.out 0 (.int .i64 p.width) rfl
 have c1:=row_of HX0.out 1 (.slice ac p.chans.length kc) rfl
 have c2:=row_of HX0.out 2 (.slice aa p.arrays.length ka) rfl
 have c3:=row_of HX0.out 3 (.slice af p.funcs.length kf) rfl
 have c4:=row_of HX0.out 4 (.slice am p.main.length km) rfl
 have hck:=refCheck p _ _ _ _ _ H.out (by have:=HN.out;omega)
 cases hc:checkF p with
 | some F=>
  rw[hc,refV_some] at hck
  have HFO:=hid (flatOf_fault hc)
  have hF:=check_fault hc
  have hne:(F.e != 0)=true:=by have:=hF.1;simp;omega
  have HC:=hid hck
  clear hck hc hF H HBODY
  go_upto_region 3 with (go_at_call 36;refine HC.out.mono ?_;rintro e w1 ⟨rfl,hb2⟩;have B2:=hid hb2;clear hb2)
  have KEY:Hid (∀ A,(w1.alloc A).heap[pb+1]?=some (.cells #[.int .i64 0,.int .i64 0,.slice none 0 0,.slice none 0 0,.slice none 0 0,.slice none 0 0] 32 (0,0))):=fun A=>((B2.out.alloc B2.out.size A).block (pb+1) (gsFlO HX1.out)).trans HX1.out
  have HBz:Hid (∀ A,Below w.heap.size w (w1.alloc A)):=fun A=>bcomp HB0.out (B2.out.alloc B2.out.size A)
  clear c0 c1 c2 c3 c4 HC
  go_wp2_with (refine wpList_store_row rfl 32 (.tmp 2) (.tmp 21) rfl (pb+1) #[.int .i64 0,.int .i64 0,.slice none 0 0,.slice none 0 0,.slice none 0 0,.slice none 0 0] rfl rfl 32 #[.int .i64 0,.int .i64 0,.slice none 0 0,.slice none 0 0,.slice none 0 0,.slice none 0 0] ?hs21 (by as_aux_lemma=>kernel_rfl) (by as_aux_lemma=>kernel_rfl) (by as_aux_lemma=>kernel_rfl) ?_;exact KEY.out _)
  refine bodyPost_ret (v:=.tuple #[.agg #[.int .i64 0,.int .i64 0,.slice none 0 0,.slice none 0 0,.slice none 0 0,.slice none 0 0],.int .i64 F.e]) ?_ rfl ⟨.slice none 0 0,.slice none 0 0,.slice none 0 0,.slice none 0 0,by rw[HFO.out];rfl,by rw[HFO.out];exact rdFlat_zeroR _ _,below_row (HBz.out _) (by have:=HPB.out;omega) _⟩
  try simp only[Act.put]
  exact results_cell_twoR (P:=Tryd.prog) (fn:=Tryd.f12) rfl _ _ (pb+1) 32 #[.int .i64 0,.int .i64 0,.slice none 0 0,.slice none 0 0,.slice none 0 0,.slice none 0 0] (0,0) _ rfl (setRow_heap _ _ _ _ _ _ (KEY.out _)) Tryd.underlying32 rfl (by kernel_rfl)
 | none=>
  rw[hc,refV_none] at hck
  have HC1:=hid hck
  have HC:=hid hc
  have HW:=hid (wfP_of hc)
  clear hck hc
  go_upto_region 4 with (go_at_call 36;refine HC1.out.mono ?_;rintro e w1 ⟨rfl,hb2⟩;have B2:=hid hb2;clear hb2)
  clear HC1 c0 c1 c2 c3 c4
  have BZ:Hid (Below W.heap.size W (w1.alloc (.cells #[.int .i64 0,.int .i64 0] 50))):=B2.out.alloc B2.out.size _
  generalize w1.alloc (.cells #[.int .i64 0,.int .i64 0] 50)=W2 at *
  have H2:=hid (H.out.keep BZ.out)
  have HP2:=hid ((BZ.out.block pb (gsFlO HX0.out)).trans HX0.out)
  have HR2:=hid ((BZ.out.block (pb+1) (gsFlO HX1.out)).trans HX1.out)
  have HB2:=hid (bcomp HB0.out BZ.out)
  have HSI:Hid (∀ z,Below W2.heap.size W2 z→Calls Tryd.prog 37 #[progV p (.slice ac p.chans.length kc) (.slice aa p.arrays.length ka) (.slice af p.funcs.length kf) (.slice am p.main.length km)] z fun e w'=>∃ v,e=.returned v∧RdStrs (some (upFrom z.heap.size)) w' v (sitesAllF p)∧Below z.heap.size z w'):=fun z hz=>by
   have:=refSites p _ _ _ _ z (H2.out.keep hz) (by have:=HN.out;omega)
   rw[preC_all] at this
   exact this
  clear H HX0 HX1 BZ HB0 B2
  have HCS:Hid (∀ s∈p.chans,s.size≤maxLen):=fun s hs=>by
   obtain⟨i,hi⟩:=List.getElem?_of_mem hs
   obtain⟨_,_,_,_,hr⟩:=H2.out.1
   obtain⟨_,_,_,_,_,hz⟩:=hr i s hi
   exact hz
  have HCN:Hid (p.chans.length≤32):=HW.out.chl
  refine wp_region_own [0,1,2,3,4,6] [⟨5,some 28,[]⟩,⟨7,some 30,[]⟩,⟨8,some 31,[(5,some 28),(7,some 30)]⟩,⟨9,some 32,[(8,some 31)]⟩,⟨10,some 33,[(9,some 32)]⟩] [11] [_] (fun j=>decide (11≤j))
   (fun j v w lo hi=>match j with
     | 5=>∃ ca ck,v=.slice ca p.chans.length ck∧RdStrs (some (upFrom W2.heap.size)) w (.slice ca p.chans.length ck) p.chans
     | 7=>∃ sa sk,v=.slice sa (sitesAllF p).length sk∧RdStrs (some (upFrom W2.heap.size)) w (.slice sa (sitesAllF p).length sk) (sitesAllF p)
     | 8=>∃ ca ck sa sk,v=.agg #[.int .i64 p.width,.int .i64 0,.slice ca p.chans.length ck,.slice sa (sitesAllF p).length sk,.slice none 0 0,.slice none 0 0]∧RdStrs (some (upFrom W2.heap.size)) w (.slice ca p.chans.length ck) p.chans∧RdStrs (some (upFrom W2.heap.size)) w (.slice sa (sitesAllF p).length sk) (sitesAllF p)
     | 9=>∃ ca ck sa sk,v=.agg #[.int .i64 p.width,.slice ac p.chans.length kc,.slice aa p.arrays.length ka,.slice af p.funcs.length kf,.slice am p.main.length km,.slice none 0 0,.slice none 0 0,.int .i64 p.width,.int .i64 0,.slice ca p.chans.length ck,.slice sa (sitesAllF p).length sk,.slice none 0 0,.slice none 0 0,.bool false]∧RdStrs (some (upFrom W2.heap.size)) w (.slice ca p.chans.length ck) p.chans∧RdStrs (some (upFrom W2.heap.size)) w (.slice sa (sitesAllF p).length sk) (sitesAllF p)
     | 10=>Made25 W2 p ac kc aa ka af kf am km v w
     | _=>True) (by kernel_rfl) (by kernel_rfl) rfl (by kernel_rfl) rfl rfl (fun _ d _ _ _ h=>by cases d <;> exact h) ?_ ?_
  ·intro j v w w' lo hi hy hbw
   have hk:∀ {b:Nat} {o:Obj},w.heap[b]?=some o→w'.heap[b]?=some o:=fun h=>(hbw.block _ (gsFlO h)).trans h
   match j,hy with
   | 5,⟨a,b,e,h1⟩=>exact⟨a,b,e,h1.keep hbw⟩
   | 7,⟨a,b,e,h1⟩=>exact⟨a,b,e,h1.keep hbw⟩
   | 8,⟨a,b,c,d,e,h1,h2⟩=>exact⟨a,b,c,d,e,h1.keep hbw,h2.keep hbw⟩
   | 9,⟨a,b,c,d,e,h1,h2⟩=>exact⟨a,b,c,d,e,h1.keep hbw,h2.keep hbw⟩
   | 10,⟨a,b,c,d,f,e,l,h0,h1,h2⟩=>exact⟨a,b,c,d,f,e,l,hk h0,h1.keep hbw,h2.keep hbw⟩
   | 0,_|1,_|2,_|3,_|4,_|6,_|(x+11),_=>trivial
  have l0:=ext_cell (row_of HP2.out 0 (.int .i64 p.width) rfl)
  have l1:=ext_cell (row_of HP2.out 1 (.slice ac p.chans.length kc) rfl)
  have l2:=ext_cell (row_of HP2.out 2 (.slice aa p.arrays.length ka) rfl)
  have l3:=ext_cell (row_of HP2.out 3 (.slice af p.funcs.length kf) rfl)
  have l4:=ext_cell (row_of HP2.out 4 (.slice am p.main.length km) rfl)
  refine mix_reads (by simp only[opsOf,List.filterMap_cons,List.filterMap_nil,List.getElem?_toArray,List.getElem?_cons_succ,List.getElem?_cons_zero];rfl) ⟨_,ext_of (Below.refl _ _).drew⟩ ?_
  change wpQuiet _ _ _ _ [_,_,_,_,_,_] _
  (repeat (go_big_quiet_step (fail)))
  refine wpQuiet_nil ?_
  clear l0 l1 l2 l3 l4
  have HD:Hid (Below W2.heap.size W2 W2.drew):=(Below.refl _ _).drew
  refine⟨⟨fun vs wn hb hn=>?_,fun vs wn hb hn=>?_,fun vs wn hb hn=>?_,fun vs wn hb hn=>?_,fun vs wn hb hn=>?_,trivial⟩,fun vs wn hb hy hd=>?_⟩
  ·clear hn
   have HBN:=hid (bcomp HD.out hb)
   clear hb
   refine mix_step rfl ?_
   simp only[pv]
   refine wpList_copy_strs rfl (.tmp 27) rfl none _ p.chans rfl (H2.out.1.keep HBN.out) (by have:=HCN.out;omega) ?_
   intro ca ck wz ho hz
   exact⟨_,rfl,hz,ca,ck,rfl,strs_into (own_strs ho (by have:=HCN.out;omega) HCS.out) (fun b _ hb=>Nat.le_trans HBN.out.size hb)⟩
  ·clear hn
   have HBN:=hid (bcomp HD.out hb)
   clear hb
   refine mix_step rfl ?_
   simp only[pv]
   go_wp2_with (go_at_call 37;refine (HSI.out _ HBN.out).mono ?_;rintro e wz ⟨v,rfl,hr,hz⟩)
   obtain⟨sa,sk,rfl,_⟩:=id hr
   exact⟨_,rfl,hz,sa,sk,rfl,strs_into hr (fun b _ hb=>Nat.le_trans HBN.out.size hb)⟩
  ·obtain⟨ca,ck,e,hr⟩:=hn (5,some 28) (by simp)
   obtain⟨sa,sk,e2,hr2⟩:=hn (7,some 30) (by simp)
   clear hn
   refine mix_step rfl ?_
   simp only[pv]
   rw[e,e2]
   go_wp2_with fail
   exact⟨_,rfl,Below.refl _ _,ca,ck,sa,sk,rfl,hr,hr2⟩
  ·obtain⟨ca,ck,sa,sk,e,hr,hr2⟩:=hn (8,some 31) (by simp)
   clear hn
   refine mix_step rfl ?_
   simp only[pv]
   rw[e]
   go_wp2_with fail
   exact⟨_,rfl,Below.refl _ _,ca,ck,sa,sk,rfl,hr,hr2⟩
  ·obtain⟨ca,ck,sa,sk,e,hr,hr2⟩:=hn (9,some 32) (by simp)
   clear hn
   refine mix_step rfl ?_
   simp only[pv]
   rw[e]
   go_wp2_with fail
   have hal:=(Below.refl wn.heap.size wn).alloc (Nat.le_refl _) (.cells #[.int .i64 p.width,.slice ac p.chans.length kc,.slice aa p.arrays.length ka,.slice af p.funcs.length kf,.slice am p.main.length km,.slice none 0 0,.slice none 0 0,.int .i64 p.width,.int .i64 0,.slice ca p.chans.length ck,.slice sa (sitesAllF p).length sk,.slice none 0 0,.slice none 0 0,.bool false] 85)
   exact⟨_,rfl,hal,wn.heap.size,ca,ck,sa,sk,rfl,(bcomp HD.out hb).size,heap_alloc_new _ _,hr.keep hal,hr2.keep hal⟩
  obtain⟨⟨M,ca,ck,sa,sk,em,lM,hM,hr,hr2⟩,-⟩:=hy ⟨10,some 33,[(9,some 32)]⟩ (by simp)
  have HBN:=hid (bcomp HD.out hb)
  clear hy hd hb HSI
  simp only[List.map,Maker.pr,pv]
  have em':(vs 10).1=.pointer (some ⟨M,0,none⟩):=em
  rw[em']
  clear em em'
  simp only[Act.put,List.setIfInBounds_toArray,List.set_cons_succ,List.set_cons_zero,List.getElem_toArray,List.getElem_cons_succ,List.getElem_cons_zero]
  have HAT0:Hid (PrR.At ⟨W2,wn.heap.size,M,p,sitesAllF p,ac,kc,aa,ka,af,kf,am,km,ca,ck,sa,sk,none,0,[]⟩ 0 (.slice none 0 0) (.slice none 0 0) (.slice none 0 0) [] [] [] wn):=
   ⟨HBN.out,hM,strs_into hr (fun b hb hg=>⟨hg,hb⟩),strs_into hr2 (fun b hb hg=>⟨hg,hb⟩),rdStrs_nil _ _,PrR.VarsAt.nil _ _,World.ownsRow_nil _ _ _ _,World.ownsRow_nil _ _ _ _,fun k hk=>by simp[Value.ownBlock] at hk,⟨HBN.out.size,Nat.le_refl _⟩,lM⟩
  obtain⟨c1,hc1⟩:∃ c1,wn.heap.size=c1:=⟨_,rfl⟩
  rw[hc1] at HAT0
  clear hM hr hr2 lM hc1 HD
  have hpbl:pb<W2.heap.size:=(gsFlO HP2.out)
  have HPBL:=hid hpbl
  have m2:=row_of ((HBN.out.block pb hpbl).trans HP2.out) 2 (.slice aa p.arrays.length ka) rfl
  clear hpbl
  go_wp2_with fail
  go_loopw [7] (fun i wr=>∃ (k:Nat) (av1:Value),k≤p.arrays.length∧i=.int .i64 k∧PrR.At ⟨W2,c1,M,p,sitesAllF p,ac,kc,aa,ka,af,kf,am,km,ca,ck,sa,sk,none,0,[]⟩ 0 (.slice none 0 0) (.slice none 0 0) av1 [] [] ((p.arrays.map (·.size)).take k) wr) (fun i _=>p.arrays.length-(intOf i).toNat)
  case atStart=>exact⟨0,.slice none 0 0,Nat.zero_le _,rfl,by simpa using HAT0.out⟩
  case round=>
   clear HAT0 m2
   obtain⟨wo,rfl⟩:∃ x:World,x=wr:=⟨_,rfl⟩
   obtain⟨k,av1,hk,rfl,hat⟩:=hrel
   have mp2:=row_of ((hat.below.block pb HPBL.out).trans HP2.out) 2 (.slice aa p.arrays.length ka) rfl
   by_cases hlt:k<p.arrays.length
   rotate_left
   ·obtain rfl:k=p.arrays.length:=by omega
    clear hlt hk
    have hlt1:¬ (p.arrays.length:Int)<(p.arrays.length:Int):=by omega
    have hA:(p.arrays.map (·.size)).take p.arrays.length=p.arrays.map (·.size):=List.take_of_length_le (by simp)
    rw[hA] at hat
    obtain⟨ra,rk,e,_⟩:=own_read hat.arrs
    rw[List.length_map] at e
    subst e
    have HAT:=hid hat
    clear hat hA
    have hl:=refLocals p _ _ _ _ (-1) wo (H2.out.keep HAT.out.below) HN.out i64_m1
    rw[locals_mainR HC.out] at hl
    have HL1:=hid hl
    have HPo:=hid ((HAT.out.below.block pb HPBL.out).trans HP2.out)
    have e0:=row_of HPo.out 0 (.int .i64 p.width) rfl
    have e1:=row_of HPo.out 1 (.slice ac p.chans.length kc) rfl
    have e3:=row_of HPo.out 3 (.slice af p.funcs.length kf) rfl
    have e4:=row_of HPo.out 4 (.slice am p.main.length km) rfl
    clear hl
    obtain⟨L0,hL0⟩:∃ L0,localsL [] p.main []=L0:=⟨_,rfl⟩
    rw[hL0] at HL1
    have HL0:=hid hL0
    clear hL0
    go_upto_region 10 with (go_at_call 38;refine HL1.out.mono ?_;rintro e W4 ⟨v,rfl,hrd,hz⟩;obtain⟨al,kl,rfl,_⟩:=id hrd;have HRD:=hid hrd;have BZ:=hid hz;clear hrd hz)
    clear e0 e1 mp2 e3 e4 HL1
    have HAT4:Hid (PrR.At ⟨W2,c1,M,p,sitesAllF p,ac,kc,aa,ka,af,kf,am,km,ca,ck,sa,sk,al,kl,L0⟩ 0 (.slice none 0 0) (.slice none 0 0) (.slice ra p.arrays.length rk) [] [] (p.arrays.map (·.size)) W4):=by
     have h:=HAT.out.keep BZ.out
     exact⟨h.below,h.hm,h.chs,h.sit,strs_into HRD.out (fun b _ hb=>Nat.le_trans HAT.out.below.size hb),PrR.VarsAt.nil _ _,h.first,h.arrs,h.dis,h.c1,h.lm⟩
    clear HAT HPo
    have m3:=row_of ((HAT4.out.below.block pb HPBL.out).trans HP2.out) 3 (.slice af p.funcs.length kf) rfl
    go_wp2_with fail
    go_loopw [10,11,12,13] (fun nx i _ _ wr=>∃ (k:Nat) (vv fv:Value),k≤p.funcs.length∧i=.int .i64 k∧nx=.int .i64 ((L0.length+(placesF 0 (p.funcs.take k)).length:Nat):Int)∧PrR.At ⟨W2,c1,M,p,sitesAllF p,ac,kc,aa,ka,af,kf,am,km,ca,ck,sa,sk,al,kl,L0⟩ 0 vv fv (.slice ra p.arrays.length rk) ((RMk.varsL p).take k) ((RMk.firstL p).take k) (p.arrays.map (·.size)) wr) (fun _ i _ _ _=>p.funcs.length-(intOf i).toNat)
    case atStart=>exact⟨0,.slice none 0 0,.slice none 0 0,Nat.zero_le _,rfl,by simp[placesF],by simpa using HAT4.out⟩
    case round=>
     clear HAT4 m3
     obtain⟨wf,rfl⟩:∃ x:World,x=wr:=⟨_,rfl⟩
     obtain⟨k,vv,fv,hk,rfl,rfl,hat⟩:=hrel
     have m3:=row_of ((hat.below.block pb HPBL.out).trans HP2.out) 3 (.slice af p.funcs.length kf) rfl
     have hVLn:((RMk.varsL p).take k).length≤1000:=by rw[List.length_take,varsL_len];have:=HW.out.fl;omega
     have hFLn:((RMk.firstL p).take k).length≤1000:=by rw[List.length_take,firstL_len];have:=HW.out.fl;omega
     have HVL:=hid hVLn
     have HFL:=hid hFLn
     clear hVLn hFLn
     obtain⟨iS,hiS,hzS0,hzS1,hzS2⟩:=info_parts infoSlR
     obtain⟨iI,hiI,hzI0,hzI1,hzI2⟩:=info_parts infoIntR
     by_cases hlt:k<p.funcs.length
     rotate_left
     ·obtain rfl:k=p.funcs.length:=by omega
      clear hk hlt
      have hlt1:¬ (p.funcs.length:Int)<(p.funcs.length:Int):=by omega
      have HEV:Hid ((RMk.varsL p).take p.funcs.length++[L0]=RMk.varsL p):=by
       have h1:=varsL_take (p:=p) (Nat.le_refl _)
       rw[List.take_of_length_le (by rw[varsL_len];omega),varsR_main,HL0.out] at h1
       exact h1.symm
      have HEF:Hid ((RMk.firstL p).take p.funcs.length++[0]=RMk.firstL p):=by
       have h1:=firstL_take (p:=p) (Nat.le_refl _)
       rw[List.take_of_length_le (by rw[firstL_len];omega)] at h1
       have h2:firstR p p.funcs.length=0:=by unfold firstR;rw[if_neg (Nat.lt_irrefl _)]
       rw[h2] at h1
       exact h1.symm
      have hrg:((L0.length+(placesF 0 (p.funcs.take p.funcs.length)).length:Nat):Int)=((placesP p).length:Int):=by
       unfold placesP
       rw[List.take_length,List.length_append,HL0.out]
       unfold placesOf
       rw[List.length_map]
      rw[hrg]
      obtain⟨rg,hrg2⟩:∃ n:Int,((placesP p).length:Int)=n:=⟨_,rfl⟩
      rw[hrg2]
      have HRG:=hid hrg2
      clear hrg hrg2
      obtain⟨V1,hV1⟩:∃ V1,(RMk.varsL p).take p.funcs.length=V1:=⟨_,rfl⟩
      obtain⟨F1,hF1⟩:∃ F1,(RMk.firstL p).take p.funcs.length=F1:=⟨_,rfl⟩
      rw[hV1] at hat HEV HVL
      rw[hF1] at hat HEF HFL
      clear hV1 hF1
      obtain⟨vs,hvs⟩:=hat.vars
      obtain⟨va,vk,rfl,_⟩:=own_read hvs.2.1
      obtain⟨fa,fk,rfl,_⟩:=own_read hat.first
      have HAT:=hid hat
      have HVI:=hid hvs
      have HLV:=hid hat.mn
      clear hat hvs
      go_upto_region 18 with fail
      clear m3
      go_cut [] from 111 to 129 (fun wx=>∃ (v5 f5:Value),PrR.At ⟨W2,c1,M,p,sitesAllF p,ac,kc,aa,ka,af,kf,am,km,ca,ck,sa,sk,al,kl,L0⟩ 0 v5 f5 (.slice ra p.arrays.length rk) (V1++[L0]) (F1++[0]) (p.arrays.map (·.size)) wx)
      case first=>
       have hmw:M<wf.heap.size:=HAT.out.mlt
       have l5:=keepS_cell (S:=[M]) (by simp) (row_of HAT.out.hm 5 (.slice va V1.length vk) rfl)
       have l6:=keepS_cell (S:=[M]) (by simp) (row_of HAT.out.hm 6 (.slice fa F1.length fk) rfl)
       refine wp_region_tree (fun w'=>∃ x,w'=keepS wf [M] x) (fun _=>True) [0,2,3,4,5,6,9,10,11,12] [1] 10 (.two [] 7 13 (.two [] 8 13 (.one [] 13 (.one [] 14 (tailOf [15,16,17,18,19,20]))) (.one [] 8 (.one [] 14 (tailOf [15,16,17,18,19,20])))) (.one [] 7 (.one [] 8 (.one [] 14 (tailOf [15,16,17,18,19,20]))))) (fun j=>decide (15≤j)) (by kernel_rfl) (by kernel_rfl) rfl (by kernel_rfl) (by kernel_rfl) (fun _ d _ _ _ h=>by cases d <;> exact h) ⟨_,keepS_of (fun _ _=>rfl)⟩ trivial ?_
       have HBd:Hid (Below wf.heap.size wf wf.drew):=(Below.refl _ _).drew
       generalize wf.drew=y0 at *
       refine tree_walk (by simp only[opsOf,List.filterMap_cons,List.filterMap_nil,List.getElem?_toArray,List.getElem?_cons_succ,List.getElem?_cons_zero];rfl) (by simp only[opsOf,List.filterMap_cons,List.filterMap_nil,List.getElem?_toArray,List.getElem?_cons_succ,List.getElem?_cons_zero];rfl) ?_
       change wpQuiet _ _ _ _ [_,_,_,_,_,_,_,_,_,_] _
       (repeat (go_big_quiet_step (fail)))
       refine wpQuiet_nil ?_
       change wpQuiet _ _ _ _ [_] _
       (repeat (go_big_quiet_step (fail)))
       refine wpQuiet_nil ?_
       clear l5 l6
       refine tree_two ?_ ?_
       ·-- the list first
        refine mix_step rfl ?_
        go_wp2_with fail
        have HNa:=hid (heap_alloc_new y0 (.cells #[.slice al L0.length kl] 22))
        have HAL1:Hid (Below y0.heap.size y0 (y0.alloc (.cells #[.slice al L0.length kl] 22))):=(Below.refl _ _).alloc (Nat.le_refl _) _
        obtain⟨g1,hg1⟩:∃ g,y0.heap.size=g:=⟨_,rfl⟩
        rw[hg1] at HNa
        try rw[hg1]
        generalize y0.alloc (.cells #[.slice al L0.length kl] 22)=y1 at *
        have HSZ1:=hid (Nat.le_of_eq hg1)
        have HBy1:=hid (bcomp HBd.out HAL1.out)
        clear hg1
        refine⟨by first | exact ⟨fun _=>trivial,by intros;exact ⟨_,keepS_of (one_keepR (HBy1.out.block M hmw))⟩⟩ | (intros;exact ⟨_,keepS_of (one_keepR (HBy1.out.block M hmw))⟩),?_⟩
        refine tree_two ?_ ?_
        ·-- its append next
         have HATx:=hid (HAT.out.keep HBy1.out)
         have HVIx:=hid (HVI.out.keep HBy1.out)
         have hnM:Hid (¬ (Value.slice va V1.length vk).ownBlock=some M):=own_ne_cells HVIx.out.2.1 HATx.out.hm (by decide)
         refine mix_step rfl ?_
         (try simp only[Act.put,List.setIfInBounds_toArray,List.set_cons_succ,List.set_cons_zero,List.getElem_toArray,List.getElem_cons_succ,List.getElem_cons_zero])
         have hcc:c1≤y1.heap.size:=HATx.out.c1.2
         have hvo:y1.ownsRow c1 22 1 (.slice va V1.length vk) V1.length vs:=HVIx.out.2.1
         refine wpList_append_own_at _ rfl (.tmp 116) (.tmp 118) 83 rfl c1 22 iS (.slice none 0 0) 1 24 Tryd.underlying83 hiS hzS0 hzS1 hzS2 rfl (by decide) _ _ _ rfl hvo ⟨g1,0,none⟩ 1 1 [.slice al L0.length kl] rfl rfl (many_of (xs:=[.slice al L0.length kl]) HNa.out) (fun u hu=>by simp only[List.mem_cons,List.not_mem_nil,or_false] at hu;rcases hu with rfl;rfl) (by have:=HVL.out;unfold maxLen;omega) (by have:=HVL.out;omega) hcc ?_
         intro v' y2 hown' hgrow _ hblk
         have HTy2:Hid (Turned (fun k=>(Value.slice va V1.length vk).ownBlock=some k) y1 y2):=Turned.of_grown hgrow (fun b e=>e)
         obtain⟨ya,yc,rfl,_⟩:=own_read hown'
         have HOy2:=hid hown'
         clear hown' hgrow hblk hvo hcc
         (try simp only[Act.put,List.setIfInBounds_toArray,List.set_cons_succ,List.set_cons_zero,List.getElem_toArray,List.getElem_cons_succ,List.getElem_cons_zero])
         refine⟨by first | exact ⟨fun _=>trivial,by intros;exact ⟨_,keepS_of (one_keepR ((HTy2.out.block M HATx.out.mlt hnM.out).trans (HBy1.out.block M hmw)))⟩⟩ | (intros;exact ⟨_,keepS_of (one_keepR ((HTy2.out.block M HATx.out.mlt hnM.out).trans (HBy1.out.block M hmw)))⟩),?_⟩
         refine tree_one ?_
         refine mix_step rfl ?_
         go_wp2_with fail
         have HNb:=hid (heap_alloc_new y2 (.cells #[.int .i64 0] 3))
         have HAL3:Hid (Below y2.heap.size y2 (y2.alloc (.cells #[.int .i64 0] 3))):=(Below.refl _ _).alloc (Nat.le_refl _) _
         obtain⟨g2,hg2⟩:∃ g,y2.heap.size=g:=⟨_,rfl⟩
         rw[hg2] at HNb
         try rw[hg2]
         generalize y2.alloc (.cells #[.int .i64 0] 3)=y3 at *
         have HSZ3:=hid (Nat.le_of_eq hg2)
         have HTy3:=hid (HTy2.out.trans (Turned.of_below HAL3.out))
         have HOy3:=hid (own_below HOy2.out HAL3.out)
         clear hg2
         refine⟨by first | exact ⟨fun _=>trivial,by intros;exact ⟨_,keepS_of (one_keepR ((HTy3.out.block M HATx.out.mlt hnM.out).trans (HBy1.out.block M hmw)))⟩⟩ | (intros;exact ⟨_,keepS_of (one_keepR ((HTy3.out.block M HATx.out.mlt hnM.out).trans (HBy1.out.block M hmw)))⟩),?_⟩
         refine tree_one ?_
         have HFI:=hid (HATx.out.firstIn HTy3.out)
         have hm3:Hid (y3.heap[M]?=some (.cells (PrR.cells ⟨W2,c1,M,p,sitesAllF p,ac,kc,aa,ka,af,kf,am,km,ca,ck,sa,sk,al,kl,L0⟩ 0 (.slice va V1.length vk) (.slice fa F1.length fk) (.slice ra p.arrays.length rk)) 85 (0,0))):=(HTy3.out.block M HATx.out.mlt hnM.out).trans HATx.out.hm
         have hnM2:Hid (¬ (Value.slice fa F1.length fk).ownBlock=some M):=own_ne_cells HFI.out hm3.out (by decide)
         refine mix_step rfl ?_
         (try simp only[Act.put,List.setIfInBounds_toArray,List.set_cons_succ,List.set_cons_zero,List.getElem_toArray,List.getElem_cons_succ,List.getElem_cons_zero])
         have hcc:c1≤y3.heap.size:=Nat.le_trans HATx.out.c1.2 HTy3.out.size
         have hfo:y3.ownsRow c1 3 1 (.slice fa F1.length fk) F1.length (F1.flatMap cellsInt):=HFI.out
         refine wpList_append_own_at _ rfl (.tmp 123) (.tmp 124) 29 rfl c1 3 iI (.int .i64 0) 1 8 Tryd.underlying29 hiI hzI0 hzI1 hzI2 rfl (by decide) _ _ _ rfl hfo ⟨g2,0,none⟩ 1 1 (cellsInt 0) rfl rfl (many_of (xs:=[.int .i64 0]) HNb.out) (fun u hu=>by simp only[cellsInt,List.mem_cons,List.not_mem_nil,or_false] at hu;rcases hu with rfl;rfl) (by have:=HFL.out;unfold maxLen;omega) (by have:=HFL.out;omega) hcc ?_
         intro v' y4 hown' hgrow _ hblk
         have HT2:Hid (Turned (fun k=>(Value.slice fa F1.length fk).ownBlock=some k) y3 y4):=Turned.of_grown hgrow (fun b e=>e)
         obtain⟨ya2,yc2,rfl,_⟩:=own_read hown'
         have HO2:=hid hown'
         have HBK:Hid (∀ k,(Value.slice ya2 (F1.length+1) yc2).ownBlock=some k→(Value.slice fa F1.length fk).ownBlock=some k ∨ y3.heap.size≤k):=fun k hk=>by
          rcases hblk with e|e
          ·exact .inl (e.symm.trans hk)
          ·exact .inr (Nat.le_of_eq (Option.some.inj (e.symm.trans hk)))
         have hm4:Hid (y4.heap[M]?=some (.cells (PrR.cells ⟨W2,c1,M,p,sitesAllF p,ac,kc,aa,ka,af,kf,am,km,ca,ck,sa,sk,al,kl,L0⟩ 0 (.slice va V1.length vk) (.slice fa F1.length fk) (.slice ra p.arrays.length rk)) 85 (0,0))):=(HT2.out.block M (gsFlO hm3.out) hnM2.out).trans hm3.out
         have HPU:=hid (PrR.At.pushed (.slice al L0.length kl) L0 0 HATx.out HVIx.out (HLV.out.keep HBy1.out) HTy3.out HOy3.out HT2.out HO2.out HBK.out)
         clear hown' hgrow hblk hfo hcc
         (try simp only[Act.put,List.setIfInBounds_toArray,List.set_cons_succ,List.set_cons_zero,List.getElem_toArray,List.getElem_cons_succ,List.getElem_cons_zero])
         refine⟨by first | exact ⟨fun _=>trivial,by intros;exact ⟨_,keepS_of (one_keepR ((HT2.out.block M (gsFlO hm3.out) hnM2.out).trans ((HTy3.out.block M HATx.out.mlt hnM.out).trans (HBy1.out.block M hmw))))⟩⟩ | (intros;exact ⟨_,keepS_of (one_keepR ((HT2.out.block M (gsFlO hm3.out) hnM2.out).trans ((HTy3.out.block M HATx.out.mlt hnM.out).trans (HBy1.out.block M hmw))))⟩),?_⟩
         have c5:=row_of hm4.out 5 (.slice va V1.length vk) rfl
         have f5:=frozen_of_row y4 M 5 _ _ hm4.out
         have c6:=row_of hm4.out 6 (.slice fa F1.length fk) rfl
         have f6:=frozen_of_row y4 M 6 _ _ hm4.out
         refine tree_tail (fun _=>trivial) [15,16,17,18,19,20] [_,_,_,_,_,_] _ _ rfl rfl ?_
         (try simp only[Act.put,List.setIfInBounds_toArray,List.set_cons_succ,List.set_cons_zero,List.getElem_toArray,List.getElem_cons_succ,List.getElem_cons_zero])
         go_wp2_with fail
         go_meet
         exact⟨_,_,HPU.out⟩
        ·-- the number next
         refine mix_step rfl ?_
         go_wp2_with fail
         have HNb:=hid (heap_alloc_new y1 (.cells #[.int .i64 0] 3))
         have HAL2:Hid (Below y1.heap.size y1 (y1.alloc (.cells #[.int .i64 0] 3))):=(Below.refl _ _).alloc (Nat.le_refl _) _
         obtain⟨g2,hg2⟩:∃ g,y1.heap.size=g:=⟨_,rfl⟩
         rw[hg2] at HNb
         try rw[hg2]
         generalize y1.alloc (.cells #[.int .i64 0] 3)=y2 at *
         have HSZ2:=hid (Nat.le_of_eq hg2)
         have HBy2:=hid (bcomp HBy1.out HAL2.out)
         have HNax:=hid ((HAL2.out.block _ (gsFlO HNa.out)).trans HNa.out)
         clear HNa
         have HNa:=HNax
         clear HNax
         clear hg2
         refine⟨by first | exact ⟨fun _=>trivial,by intros;exact ⟨_,keepS_of (one_keepR (HBy2.out.block M hmw))⟩⟩ | (intros;exact ⟨_,keepS_of (one_keepR (HBy2.out.block M hmw))⟩),?_⟩
         refine tree_one ?_
         have HATx:=hid (HAT.out.keep HBy2.out)
         have HVIx:=hid (HVI.out.keep HBy2.out)
         have hnM:Hid (¬ (Value.slice va V1.length vk).ownBlock=some M):=own_ne_cells HVIx.out.2.1 HATx.out.hm (by decide)
         refine mix_step rfl ?_
         (try simp only[Act.put,List.setIfInBounds_toArray,List.set_cons_succ,List.set_cons_zero,List.getElem_toArray,List.getElem_cons_succ,List.getElem_cons_zero])
         have hcc:c1≤y2.heap.size:=HATx.out.c1.2
         have hvo:y2.ownsRow c1 22 1 (.slice va V1.length vk) V1.length vs:=HVIx.out.2.1
         refine wpList_append_own_at _ rfl (.tmp 116) (.tmp 118) 83 rfl c1 22 iS (.slice none 0 0) 1 24 Tryd.underlying83 hiS hzS0 hzS1 hzS2 rfl (by decide) _ _ _ rfl hvo ⟨g1,0,none⟩ 1 1 [.slice al L0.length kl] rfl rfl (many_of (xs:=[.slice al L0.length kl]) HNa.out) (fun u hu=>by simp only[List.mem_cons,List.not_mem_nil,or_false] at hu;rcases hu with rfl;rfl) (by have:=HVL.out;unfold maxLen;omega) (by have:=HVL.out;omega) hcc ?_
         intro v' y3 hown' hgrow _ hblk
         have HTy3:Hid (Turned (fun k=>(Value.slice va V1.length vk).ownBlock=some k) y2 y3):=Turned.of_grown hgrow (fun b e=>e)
         obtain⟨ya,yc,rfl,_⟩:=own_read hown'
         have HOy3:=hid hown'
         clear hown' hgrow hblk hvo hcc
         have HNbx:=hid ((HTy3.out.block g2 (gsFlO HNb.out) (own_ne_cells HVIx.out.2.1 HNb.out (by decide))).trans HNb.out)
         clear HNb
         have HNb:=HNbx
         clear HNbx
         (try simp only[Act.put,List.setIfInBounds_toArray,List.set_cons_succ,List.set_cons_zero,List.getElem_toArray,List.getElem_cons_succ,List.getElem_cons_zero])
         refine⟨by first | exact ⟨fun _=>trivial,by intros;exact ⟨_,keepS_of (one_keepR ((HTy3.out.block M HATx.out.mlt hnM.out).trans (HBy2.out.block M hmw)))⟩⟩ | (intros;exact ⟨_,keepS_of (one_keepR ((HTy3.out.block M HATx.out.mlt hnM.out).trans (HBy2.out.block M hmw)))⟩),?_⟩
         refine tree_one ?_
         have HFI:=hid (HATx.out.firstIn HTy3.out)
         have hm3:Hid (y3.heap[M]?=some (.cells (PrR.cells ⟨W2,c1,M,p,sitesAllF p,ac,kc,aa,ka,af,kf,am,km,ca,ck,sa,sk,al,kl,L0⟩ 0 (.slice va V1.length vk) (.slice fa F1.length fk) (.slice ra p.arrays.length rk)) 85 (0,0))):=(HTy3.out.block M HATx.out.mlt hnM.out).trans HATx.out.hm
         have hnM2:Hid (¬ (Value.slice fa F1.length fk).ownBlock=some M):=own_ne_cells HFI.out hm3.out (by decide)
         refine mix_step rfl ?_
         (try simp only[Act.put,List.setIfInBounds_toArray,List.set_cons_succ,List.set_cons_zero,List.getElem_toArray,List.getElem_cons_succ,List.getElem_cons_zero])
         have hcc:c1≤y3.heap.size:=Nat.le_trans HATx.out.c1.2 HTy3.out.size
         have hfo:y3.ownsRow c1 3 1 (.slice fa F1.length fk) F1.length (F1.flatMap cellsInt):=HFI.out
         refine wpList_append_own_at _ rfl (.tmp 123) (.tmp 124) 29 rfl c1 3 iI (.int .i64 0) 1 8 Tryd.underlying29 hiI hzI0 hzI1 hzI2 rfl (by decide) _ _ _ rfl hfo ⟨g2,0,none⟩ 1 1 (cellsInt 0) rfl rfl (many_of (xs:=[.int .i64 0]) HNb.out) (fun u hu=>by simp only[cellsInt,List.mem_cons,List.not_mem_nil,or_false] at hu;rcases hu with rfl;rfl) (by have:=HFL.out;unfold maxLen;omega) (by have:=HFL.out;omega) hcc ?_
         intro v' y4 hown' hgrow _ hblk
         have HT2:Hid (Turned (fun k=>(Value.slice fa F1.length fk).ownBlock=some k) y3 y4):=Turned.of_grown hgrow (fun b e=>e)
         obtain⟨ya2,yc2,rfl,_⟩:=own_read hown'
         have HO2:=hid hown'
         have HBK:Hid (∀ k,(Value.slice ya2 (F1.length+1) yc2).ownBlock=some k→(Value.slice fa F1.length fk).ownBlock=some k ∨ y3.heap.size≤k):=fun k hk=>by
          rcases hblk with e|e
          ·exact .inl (e.symm.trans hk)
          ·exact .inr (Nat.le_of_eq (Option.some.inj (e.symm.trans hk)))
         have hm4:Hid (y4.heap[M]?=some (.cells (PrR.cells ⟨W2,c1,M,p,sitesAllF p,ac,kc,aa,ka,af,kf,am,km,ca,ck,sa,sk,al,kl,L0⟩ 0 (.slice va V1.length vk) (.slice fa F1.length fk) (.slice ra p.arrays.length rk)) 85 (0,0))):=(HT2.out.block M (gsFlO hm3.out) hnM2.out).trans hm3.out
         have HPU:=hid (PrR.At.pushed (.slice al L0.length kl) L0 0 HATx.out HVIx.out (HLV.out.keep HBy2.out) HTy3.out HOy3.out HT2.out HO2.out HBK.out)
         clear hown' hgrow hblk hfo hcc
         (try simp only[Act.put,List.setIfInBounds_toArray,List.set_cons_succ,List.set_cons_zero,List.getElem_toArray,List.getElem_cons_succ,List.getElem_cons_zero])
         refine⟨by first | exact ⟨fun _=>trivial,by intros;exact ⟨_,keepS_of (one_keepR ((HT2.out.block M (gsFlO hm3.out) hnM2.out).trans ((HTy3.out.block M HATx.out.mlt hnM.out).trans (HBy2.out.block M hmw))))⟩⟩ | (intros;exact ⟨_,keepS_of (one_keepR ((HT2.out.block M (gsFlO hm3.out) hnM2.out).trans ((HTy3.out.block M HATx.out.mlt hnM.out).trans (HBy2.out.block M hmw))))⟩),?_⟩
         have c5:=row_of hm4.out 5 (.slice va V1.length vk) rfl
         have f5:=frozen_of_row y4 M 5 _ _ hm4.out
         have c6:=row_of hm4.out 6 (.slice fa F1.length fk) rfl
         have f6:=frozen_of_row y4 M 6 _ _ hm4.out
         refine tree_tail (fun _=>trivial) [15,16,17,18,19,20] [_,_,_,_,_,_] _ _ rfl rfl ?_
         (try simp only[Act.put,List.setIfInBounds_toArray,List.set_cons_succ,List.set_cons_zero,List.getElem_toArray,List.getElem_cons_succ,List.getElem_cons_zero])
         go_wp2_with fail
         go_meet
         exact⟨_,_,HPU.out⟩
       ·-- the number first
        refine mix_step rfl ?_
        go_wp2_with fail
        have HNb:=hid (heap_alloc_new y0 (.cells #[.int .i64 0] 3))
        have HAL1:Hid (Below y0.heap.size y0 (y0.alloc (.cells #[.int .i64 0] 3))):=(Below.refl _ _).alloc (Nat.le_refl _) _
        obtain⟨g2,hg2⟩:∃ g,y0.heap.size=g:=⟨_,rfl⟩
        rw[hg2] at HNb
        try rw[hg2]
        generalize y0.alloc (.cells #[.int .i64 0] 3)=y1 at *
        have HSZ1:=hid (Nat.le_of_eq hg2)
        have HBy1:=hid (bcomp HBd.out HAL1.out)
        clear hg2
        refine⟨by first | exact ⟨fun _=>trivial,by intros;exact ⟨_,keepS_of (one_keepR (HBy1.out.block M hmw))⟩⟩ | (intros;exact ⟨_,keepS_of (one_keepR (HBy1.out.block M hmw))⟩),?_⟩
        refine tree_one ?_
        refine mix_step rfl ?_
        go_wp2_with fail
        have HNa:=hid (heap_alloc_new y1 (.cells #[.slice al L0.length kl] 22))
        have HAL2:Hid (Below y1.heap.size y1 (y1.alloc (.cells #[.slice al L0.length kl] 22))):=(Below.refl _ _).alloc (Nat.le_refl _) _
        obtain⟨g1,hg1⟩:∃ g,y1.heap.size=g:=⟨_,rfl⟩
        rw[hg1] at HNa
        try rw[hg1]
        generalize y1.alloc (.cells #[.slice al L0.length kl] 22)=y2 at *
        have HSZ2:=hid (Nat.le_of_eq hg1)
        have HBy2:=hid (bcomp HBy1.out HAL2.out)
        have HNbx:=hid ((HAL2.out.block _ (gsFlO HNb.out)).trans HNb.out)
        clear HNb
        have HNb:=HNbx
        clear HNbx
        clear hg1
        refine⟨by first | exact ⟨fun _=>trivial,by intros;exact ⟨_,keepS_of (one_keepR (HBy2.out.block M hmw))⟩⟩ | (intros;exact ⟨_,keepS_of (one_keepR (HBy2.out.block M hmw))⟩),?_⟩
        refine tree_one ?_
        have HATx:=hid (HAT.out.keep HBy2.out)
        have HVIx:=hid (HVI.out.keep HBy2.out)
        have hnM:Hid (¬ (Value.slice va V1.length vk).ownBlock=some M):=own_ne_cells HVIx.out.2.1 HATx.out.hm (by decide)
        refine mix_step rfl ?_
        (try simp only[Act.put,List.setIfInBounds_toArray,List.set_cons_succ,List.set_cons_zero,List.getElem_toArray,List.getElem_cons_succ,List.getElem_cons_zero])
        have hcc:c1≤y2.heap.size:=HATx.out.c1.2
        have hvo:y2.ownsRow c1 22 1 (.slice va V1.length vk) V1.length vs:=HVIx.out.2.1
        refine wpList_append_own_at _ rfl (.tmp 116) (.tmp 118) 83 rfl c1 22 iS (.slice none 0 0) 1 24 Tryd.underlying83 hiS hzS0 hzS1 hzS2 rfl (by decide) _ _ _ rfl hvo ⟨g1,0,none⟩ 1 1 [.slice al L0.length kl] rfl rfl (many_of (xs:=[.slice al L0.length kl]) HNa.out) (fun u hu=>by simp only[List.mem_cons,List.not_mem_nil,or_false] at hu;rcases hu with rfl;rfl) (by have:=HVL.out;unfold maxLen;omega) (by have:=HVL.out;omega) hcc ?_
        intro v' y3 hown' hgrow _ hblk
        have HTy3:Hid (Turned (fun k=>(Value.slice va V1.length vk).ownBlock=some k) y2 y3):=Turned.of_grown hgrow (fun b e=>e)
        obtain⟨ya,yc,rfl,_⟩:=own_read hown'
        have HOy3:=hid hown'
        clear hown' hgrow hblk hvo hcc
        have HNbx:=hid ((HTy3.out.block g2 (gsFlO HNb.out) (own_ne_cells HVIx.out.2.1 HNb.out (by decide))).trans HNb.out)
        clear HNb
        have HNb:=HNbx
        clear HNbx
        (try simp only[Act.put,List.setIfInBounds_toArray,List.set_cons_succ,List.set_cons_zero,List.getElem_toArray,List.getElem_cons_succ,List.getElem_cons_zero])
        refine⟨by first | exact ⟨fun _=>trivial,by intros;exact ⟨_,keepS_of (one_keepR ((HTy3.out.block M HATx.out.mlt hnM.out).trans (HBy2.out.block M hmw)))⟩⟩ | (intros;exact ⟨_,keepS_of (one_keepR ((HTy3.out.block M HATx.out.mlt hnM.out).trans (HBy2.out.block M hmw)))⟩),?_⟩
        refine tree_one ?_
        have HFI:=hid (HATx.out.firstIn HTy3.out)
        have hm3:Hid (y3.heap[M]?=some (.cells (PrR.cells ⟨W2,c1,M,p,sitesAllF p,ac,kc,aa,ka,af,kf,am,km,ca,ck,sa,sk,al,kl,L0⟩ 0 (.slice va V1.length vk) (.slice fa F1.length fk) (.slice ra p.arrays.length rk)) 85 (0,0))):=(HTy3.out.block M HATx.out.mlt hnM.out).trans HATx.out.hm
        have hnM2:Hid (¬ (Value.slice fa F1.length fk).ownBlock=some M):=own_ne_cells HFI.out hm3.out (by decide)
        refine mix_step rfl ?_
        (try simp only[Act.put,List.setIfInBounds_toArray,List.set_cons_succ,List.set_cons_zero,List.getElem_toArray,List.getElem_cons_succ,List.getElem_cons_zero])
        have hcc:c1≤y3.heap.size:=Nat.le_trans HATx.out.c1.2 HTy3.out.size
        have hfo:y3.ownsRow c1 3 1 (.slice fa F1.length fk) F1.length (F1.flatMap cellsInt):=HFI.out
        refine wpList_append_own_at _ rfl (.tmp 123) (.tmp 124) 29 rfl c1 3 iI (.int .i64 0) 1 8 Tryd.underlying29 hiI hzI0 hzI1 hzI2 rfl (by decide) _ _ _ rfl hfo ⟨g2,0,none⟩ 1 1 (cellsInt 0) rfl rfl (many_of (xs:=[.int .i64 0]) HNb.out) (fun u hu=>by simp only[cellsInt,List.mem_cons,List.not_mem_nil,or_false] at hu;rcases hu with rfl;rfl) (by have:=HFL.out;unfold maxLen;omega) (by have:=HFL.out;omega) hcc ?_
        intro v' y4 hown' hgrow _ hblk
        have HT2:Hid (Turned (fun k=>(Value.slice fa F1.length fk).ownBlock=some k) y3 y4):=Turned.of_grown hgrow (fun b e=>e)
        obtain⟨ya2,yc2,rfl,_⟩:=own_read hown'
        have HO2:=hid hown'
        have HBK:Hid (∀ k,(Value.slice ya2 (F1.length+1) yc2).ownBlock=some k→(Value.slice fa F1.length fk).ownBlock=some k ∨ y3.heap.size≤k):=fun k hk=>by
         rcases hblk with e|e
         ·exact .inl (e.symm.trans hk)
         ·exact .inr (Nat.le_of_eq (Option.some.inj (e.symm.trans hk)))
        have hm4:Hid (y4.heap[M]?=some (.cells (PrR.cells ⟨W2,c1,M,p,sitesAllF p,ac,kc,aa,ka,af,kf,am,km,ca,ck,sa,sk,al,kl,L0⟩ 0 (.slice va V1.length vk) (.slice fa F1.length fk) (.slice ra p.arrays.length rk)) 85 (0,0))):=(HT2.out.block M (gsFlO hm3.out) hnM2.out).trans hm3.out
        have HPU:=hid (PrR.At.pushed (.slice al L0.length kl) L0 0 HATx.out HVIx.out (HLV.out.keep HBy2.out) HTy3.out HOy3.out HT2.out HO2.out HBK.out)
        clear hown' hgrow hblk hfo hcc
        (try simp only[Act.put,List.setIfInBounds_toArray,List.set_cons_succ,List.set_cons_zero,List.getElem_toArray,List.getElem_cons_succ,List.getElem_cons_zero])
        refine⟨by first | exact ⟨fun _=>trivial,by intros;exact ⟨_,keepS_of (one_keepR ((HT2.out.block M (gsFlO hm3.out) hnM2.out).trans ((HTy3.out.block M HATx.out.mlt hnM.out).trans (HBy2.out.block M hmw))))⟩⟩ | (intros;exact ⟨_,keepS_of (one_keepR ((HT2.out.block M (gsFlO hm3.out) hnM2.out).trans ((HTy3.out.block M HATx.out.mlt hnM.out).trans (HBy2.out.block M hmw))))⟩),?_⟩
        have c5:=row_of hm4.out 5 (.slice va V1.length vk) rfl
        have f5:=frozen_of_row y4 M 5 _ _ hm4.out
        have c6:=row_of hm4.out 6 (.slice fa F1.length fk) rfl
        have f6:=frozen_of_row y4 M 6 _ _ hm4.out
        refine tree_tail (fun _=>trivial) [15,16,17,18,19,20] [_,_,_,_,_,_] _ _ rfl rfl ?_
        (try simp only[Act.put,List.setIfInBounds_toArray,List.set_cons_succ,List.set_cons_zero,List.getElem_toArray,List.getElem_cons_succ,List.getElem_cons_zero])
        go_wp2_with fail
        go_meet
        exact⟨_,_,HPU.out⟩
      case rest=>
       obtain⟨v5,f5,hat5⟩:=hcut
       obtain⟨W7,rfl⟩:∃ z:World,z=wc:=⟨_,rfl⟩
       rw[HEV.out,HEF.out] at hat5
       obtain⟨vs5,hvs5⟩:=hat5.vars
       obtain⟨va5,vk5,e5,_⟩:=own_read hvs5.2.1
       obtain⟨fa5,fk5,e6,_⟩:=own_read hat5.first
       rw[varsL_len] at e5
       rw[firstL_len] at e6
       subst e5 e6
       have HAT7:=hid hat5
       clear hat5 hvs5 HAT HVI HLV
       have m8:=row_of HAT7.out.hm 8 (.int .i64 0) rfl
       have f8:=frozen_of_row W7 M 8 _ _ HAT7.out.hm
       go_upto_region 20 with fail
       clear m8 f8
       have HAT8:=hid (HAT7.out.counted rg)
       clear HAT7
       generalize W7.setCell ⟨M,8,none⟩ (.int .i64 rg)=W8 at *
       have HMA:Hid (RMk.At ⟨W2,W8.heap.size,M,envOf p,ac,kc,aa,ka,af,kf,am,km,va5,vk5,fa5,fk5,ca,ck,sa,sk,ra,rk,rg⟩ (.slice none 0 0) false [] W8):=
        PrR.At.made HAT8.out (by have:=HW.out.fl;show p.funcs.length≤99;omega) (by have:=HW.out.arl;show p.arrays.length≤1000;omega) (fun n hn=>by
         obtain⟨i,hi,rfl⟩:=List.mem_map.1 hn
         have hpl:=placesP_len HC.out
         have:firstR p i≤(placesP p).length:=by
          unfold firstR
          split
          ·rename_i hi2
           have h1:=placesF_takeR p.funcs 0 i
           unfold placesP placesOf
           rw[List.length_append,List.length_map]
           omega
          ·omega
         show InI64 ((firstR p i:Nat):Int)
         unfold InI64;omega) (fun x hx=>by have:=HW.out.ars x hx;unfold InI64;omega) rfl
       have hMO:RMk.Ok ⟨W2,W8.heap.size,M,envOf p,ac,kc,aa,ka,af,kf,am,km,va5,vk5,fa5,fk5,ca,ck,sa,sk,ra,rk,rg⟩:=⟨H2.out,HC.out,rfl⟩
       have hbc:RBodyC ⟨W2,W8.heap.size,M,envOf p,ac,kc,aa,ka,af,kf,am,km,va5,vk5,fa5,fk5,ca,ck,sa,sk,ra,rk,rg⟩ (p.funcs.length+1) p.funcs.length:=HBODY.out _ hMO (p.funcs.length+1) (by have:=HW.out.fl;omega) p.funcs.length (Nat.le_refl _) (by show EnvF.Fits p _ (fiR p p.funcs.length);rw[fiR_main];exact fits_main HW.out)
       have HBD:=hid (hbc 0 (.slice none 0 0) false [] [] W8 i64_0 (.inl ⟨rfl,rfl,by simp⟩) HMA.out)
       have m3:=row_of ((HAT8.out.below.block pb HPBL.out).trans HP2.out) 3 (.slice af p.funcs.length kf) rfl
       clear hMO hbc
       go_upto_region 21 with (go_at_call 39;refine HBD.out.mono ?_;rintro e W9 ⟨rfl,kv9,long9,C9,hi9,hat9,hgr9⟩;have HI9:=hid hi9;have HAT9:=hid hat9;clear hi9 hat9 hgr9)
       clear HBD m3
       have hput:=rput_any ⟨W2,W8.heap.size,M,envOf p,ac,kc,aa,ka,af,kf,am,km,va5,vk5,fa5,fk5,ca,ck,sa,sk,ra,rk,rg⟩ ⟨9,0,0,0,zeroRef,zeroRef⟩ kv9 long9 C9 W9 HAT9.out ⟨(by unfold InU8;omega:InU8 9),u8_0,i64_0,i64_0,i64_0,u64_0,i64_0,u64_0⟩ HI9.out.len
       simp only[codeA] at hput
       have HPUT:=hid hput
       have HI2:=hid (HI9.out.put ⟨9,0,0,0,zeroRef,zeroRef⟩)
       rw[← codeI25_ref HC.out] at HI2
       clear hput
       go_upto_region 22 with (go_at_call 40;refine HPUT.out.mono ?_;rintro e W10 ⟨rfl,kv10,hat10,hgr10⟩;have HAT10:=hid hat10;clear hat10 hgr10)
       clear HPUT HAT9 HMA HAT8
       obtain⟨long2,hlong2⟩:∃ b,(if 4096<C9.length then true else long9)=b:=⟨_,rfl⟩
       obtain⟨C2,hC2⟩:∃ C2,(if 4096<C9.length then C9 else C9++[⟨9,0,0,0,zeroRef,zeroRef⟩])=C2:=⟨_,rfl⟩
       rw[hlong2,hC2] at HAT10 HI2
       clear hlong2 hC2 HI9
       obtain⟨ka9,kc9,rfl,_⟩:=own_read HAT10.out.own
       have HRR:Hid (W10.heap[pb+1]?=some (.cells #[.int .i64 0,.int .i64 0,.slice none 0 0,.slice none 0 0,.slice none 0 0,.slice none 0 0] 32 (0,0))):=(HAT10.out.below.block (pb+1) (gsFlO HR2.out)).trans HR2.out
       have HB9:=hid (bcomp HB2.out HAT10.out.below)
       have HFG:=hid (flatOf_good HC.out)
       have m13:=row_of HAT10.out.hm 13 (.bool long2) rfl
       have m12:=row_of HAT10.out.hm 12 (.slice ka9 C2.length kc9) rfl
       by_cases hbig:4096<(codeI25 p).length
       ·have HFO:Hid (flatOf p=(zeroFlat,5)):=by
         show _=_
         rw[HFG.out,if_pos hbig]
        cases long2 with
        | true=>
         clear hbig m12
         go_wp2_with (refine wpList_store_row rfl 32 (.tmp 2) (.tmp 156) rfl (pb+1) #[.int .i64 0,.int .i64 0,.slice none 0 0,.slice none 0 0,.slice none 0 0,.slice none 0 0] rfl rfl 32 #[.int .i64 0,.int .i64 0,.slice none 0 0,.slice none 0 0,.slice none 0 0,.slice none 0 0] ?hs156 (by as_aux_lemma=>kernel_rfl) (by as_aux_lemma=>kernel_rfl) (by as_aux_lemma=>kernel_rfl) ?_;exact HRR.out)
         refine bodyPost_ret (v:=.tuple #[.agg #[.int .i64 0,.int .i64 0,.slice none 0 0,.slice none 0 0,.slice none 0 0,.slice none 0 0],.int .i64 5]) ?_ rfl ⟨.slice none 0 0,.slice none 0 0,.slice none 0 0,.slice none 0 0,by rw[HFO.out];rfl,by rw[HFO.out];exact rdFlat_zeroR _ _,below_row HB9.out (by have:=HPB.out;omega) _⟩
         try simp only[Act.put]
         exact results_cell_twoR (P:=Tryd.prog) (fn:=Tryd.f12) rfl _ _ (pb+1) 32 #[.int .i64 0,.int .i64 0,.slice none 0 0,.slice none 0 0,.slice none 0 0,.slice none 0 0] (0,0) _ rfl (setRow_heap _ _ _ _ _ _ HRR.out) Tryd.underlying32 rfl (by kernel_rfl)
        | false=>
         have hbi:(4096:Int)<(C2.length:Int):=by
          rcases HI2.out with ⟨_,e,_⟩|⟨e,_⟩
          ·rw[e];omega
          ·cases e
         clear hbig
         go_wp2_with (refine wpList_store_row rfl 32 (.tmp 2) (.tmp 156) rfl (pb+1) #[.int .i64 0,.int .i64 0,.slice none 0 0,.slice none 0 0,.slice none 0 0,.slice none 0 0] rfl rfl 32 #[.int .i64 0,.int .i64 0,.slice none 0 0,.slice none 0 0,.slice none 0 0,.slice none 0 0] ?hsb156 (by as_aux_lemma=>kernel_rfl) (by as_aux_lemma=>kernel_rfl) (by as_aux_lemma=>kernel_rfl) ?_;exact HRR.out)
         refine bodyPost_ret (v:=.tuple #[.agg #[.int .i64 0,.int .i64 0,.slice none 0 0,.slice none 0 0,.slice none 0 0,.slice none 0 0],.int .i64 5]) ?_ rfl ⟨.slice none 0 0,.slice none 0 0,.slice none 0 0,.slice none 0 0,by rw[HFO.out];rfl,by rw[HFO.out];exact rdFlat_zeroR _ _,below_row HB9.out (by have:=HPB.out;omega) _⟩
         try simp only[Act.put]
         exact results_cell_twoR (P:=Tryd.prog) (fn:=Tryd.f12) rfl _ _ (pb+1) 32 #[.int .i64 0,.int .i64 0,.slice none 0 0,.slice none 0 0,.slice none 0 0,.slice none 0 0] (0,0) _ rfl (setRow_heap _ _ _ _ _ _ HRR.out) Tryd.underlying32 rfl (by kernel_rfl)
       ·have HFO:Hid (flatOf p=(flatI p,0)):=by
         show _=_
         rw[HFG.out,if_neg hbig]
        have hl2:long2=false∧C2=codeI25 p:=by
         rcases HI2.out with ⟨e1,e2,_⟩|⟨_,_,e⟩
         ·exact⟨e1,e2⟩
         ·omega
        obtain⟨rfl,rfl⟩:=hl2
        have hbi:¬ (4096:Int)<((codeI25 p).length:Int):=by omega
        have m7:=row_of HAT10.out.hm 7 (.int .i64 p.width) rfl
        have m8:=row_of HAT10.out.hm 8 (.int .i64 rg) rfl
        have m9:=row_of HAT10.out.hm 9 (.slice ca p.chans.length ck) rfl
        have m10:=row_of HAT10.out.hm 10 (.slice sa (sitesAllF p).length sk) rfl
        have m11:=row_of HAT10.out.hm 11 (.slice ra p.arrays.length rk) rfl
        have HCF:Hid (RdFlat (some (upFrom W2.heap.size)) W10 (flatI p) (.slice ca p.chans.length ck) (.slice sa (sitesAllF p).length sk) (.slice ra p.arrays.length rk) (.slice ka9 (codeI25 p).length kc9)):=by
         have h2:=(row_of_strsR HAT10.out.chs).same (g':=upFrom W2.heap.size) (fun _ _ _=>rfl) (fun b _ hb=>hb.1)
         have h5:=(row_of_strsR HAT10.out.sit).same (g':=upFrom W2.heap.size) (fun _ _ _=>rfl) (fun b _ hb=>hb.1)
         have h4:=HAT10.out.arr.same (g':=upFrom W2.heap.size) (fun _ _ _=>rfl) (fun b _ hb=>hb.1)
         have h6:=own_rows (K:=kCode) HAT10.out.own (by show _*56≤_;omega) HAT10.out.ok
         have hpl:=placesP_len HC.out
         have hwd:=HW.out.wd
         exact⟨h2,h5,h4,h6,by show InI64 p.width;unfold InI64;omega,by show InI64 ((placesP p).length:Int);unfold InI64;omega⟩
        have hpb2:pb+1<W2.heap.size:=(gsFlO HR2.out)
        have HPB2:=hid hpb2
        have HW22:=hid HB2.out.size
        clear hbig HAT10 HI2 hpb2
        go_wp2_with (refine wpList_store_row rfl 32 (.tmp 2) (.tmp 160) rfl (pb+1) #[.int .i64 p.width,.int .i64 rg,.slice ca p.chans.length ck,.slice sa (sitesAllF p).length sk,.slice ra p.arrays.length rk,.slice ka9 (codeI25 p).length kc9] rfl rfl 32 #[.int .i64 0,.int .i64 0,.slice none 0 0,.slice none 0 0,.slice none 0 0,.slice none 0 0] ?hs160 (by as_aux_lemma=>kernel_rfl) (by as_aux_lemma=>kernel_rfl) (by as_aux_lemma=>kernel_rfl) ?_;exact HRR.out)
        refine bodyPost_ret (v:=.tuple #[.agg #[.int .i64 p.width,.int .i64 rg,.slice ca p.chans.length ck,.slice sa (sitesAllF p).length sk,.slice ra p.arrays.length rk,.slice ka9 (codeI25 p).length kc9],.int .i64 0]) ?_ rfl ⟨.slice ca p.chans.length ck,.slice sa (sitesAllF p).length sk,.slice ra p.arrays.length rk,.slice ka9 (codeI25 p).length kc9,by rw[HFO.out,← HRG.out];rfl,by
         rw[HFO.out]
         exact HCF.out.sameR (g':=upFrom w.heap.size) (fun b hb _=>setRow_other _ _ _ _ (by have:W2.heap.size≤b:=hb;have:=HPB2.out;omega)) (fun b _ hb=>Nat.le_trans HW22.out hb),below_row HB9.out (by have:=HPB.out;omega) _⟩
        try simp only[Act.put]
        exact results_cell_twoR (P:=Tryd.prog) (fn:=Tryd.f12) rfl _ _ (pb+1) 32 #[.int .i64 p.width,.int .i64 rg,.slice ca p.chans.length ck,.slice sa (sitesAllF p).length sk,.slice ra p.arrays.length rk,.slice ka9 (codeI25 p).length kc9] (0,0) _ rfl (setRow_heap _ _ _ _ _ _ HRR.out) Tryd.underlying32 rfl (by kernel_rfl)
     obtain⟨x,hx⟩:∃ x,p.funcs[k]?=some x:=⟨_,lgFlO hlt⟩
     have hki:InI64 (k:Int):=by have:=HW.out.fl;unfold InI64;omega
     have HVN:=hid (varsL_take (p:=p) (Nat.le_of_lt hlt))
     have HFN:=hid (firstL_take (p:=p) (Nat.le_of_lt hlt))
     have hsu:=firstR_succ hx
     rw[HL0.out] at hsu
     have hfr:firstR p k=L0.length+(placesF 0 (p.funcs.take k)).length:=by unfold firstR;rw[if_pos hlt,HL0.out]
     have hsz:(varsR p k).length≤2000000:=by
      have h1:=placesP_len HC.out
      have h2:=placesF_takeR p.funcs 0 (k+1)
      have h3:(placesP p).length=L0.length+(placesF 0 p.funcs).length:=by unfold placesP placesOf;rw[List.length_append,List.length_map,HL0.out]
      omega
     have hvr:=varsR_fn hx
     have hlf:=locals_fn HC.out hx
     obtain⟨L1,hL1⟩:∃ L1,localsL x.params x.code []=L1:=⟨_,rfl⟩
     rw[hL1] at hvr hlf
     obtain⟨V1,hV1⟩:∃ V1,(RMk.varsL p).take k=V1:=⟨_,rfl⟩
     obtain⟨F1,hF1⟩:∃ F1,(RMk.firstL p).take k=F1:=⟨_,rfl⟩
     rw[hV1] at hat HVN HVL
     rw[hF1] at hat HFN HFL
     rw[hfr] at HFN hsu
     obtain⟨nx,hnx⟩:∃ nx:Nat,L0.length+(placesF 0 (p.funcs.take k)).length=nx:=⟨_,rfl⟩
     rw[hnx] at HFN hsu
     rw[hnx]
     obtain⟨ls,hls⟩:∃ ls,varsR p k=ls:=⟨_,rfl⟩
     rw[hls] at HVN hsu hsz hvr
     have hnxl:nx+ls.length≤4000000:=by
      have h1:=placesP_len HC.out
      have h2:=placesF_takeR p.funcs 0 (k+1)
      have h3:(placesP p).length=L0.length+(placesF 0 p.funcs).length:=by unfold placesP placesOf;rw[List.length_append,List.length_map,HL0.out]
      omega
     have HSU:=hid hsu
     have HNL:=hid hnxl
     have HSZ:=hid hsz
     have HVR:=hid hvr
     have hlc:=refLocals p _ _ _ _ (k:Int) wf (H2.out.keep hat.below) HN.out hki
     rw[hlf] at hlc
     have HLC:=hid hlc
     clear hki hsu hfr hsz hvr hlf hL1 hV1 hF1 hnx hls hlc hnxl
     have hklt:(k:Int)<(p.funcs.length:Int):=by omega
     obtain⟨a',c',e',_,hrr⟩:=H2.out.2.2.1
     simp only[Value.slice.injEq] at e'
     obtain⟨bx,ox,pv,kv,e2,_,i0,i1,i2,i3,i4,hri⟩:=hrr k x hx
     have ee:af=some ⟨bx,ox,none⟩:=e'.1.trans e2
     obtain⟨pa,pk,rfl,_⟩:=id hri.1
     have HRI:=hid hri.1
     have j1:=cell_keep hat.below i1
     have HAT:=hid hat
     have HPo:=hid ((hat.below.block pb HPBL.out).trans HP2.out)
     subst ee
     have e0:=row_of HPo.out 0 (.int .i64 p.width) rfl
     have e1:=row_of HPo.out 1 (.slice ac p.chans.length kc) rfl
     have e2:=row_of HPo.out 2 (.slice aa p.arrays.length ka) rfl
     have e4:=row_of HPo.out 4 (.slice am p.main.length km) rfl
     clear hat hrr hx e' i0 i1 i2 i3 i4 hri
     go_upto_region 15 with (go_at_call 38;refine HLC.out.mono ?_;rintro e z ⟨v,rfl,hrd,hz⟩;obtain⟨al2,kl2,rfl,_⟩:=id hrd;have HRD:=hid hrd;have BZ:=hid hz;clear hrd hz)
     clear e0 e1 e2 e4 HLC
     have m3z:=cell_keep BZ.out m3
     have j1z:=cell_keep BZ.out j1
     clear m3 j1
     have HATz:=hid (HAT.out.keep BZ.out)
     have HPZ:=hid (HRI.out.keep HATz.out.below)
     have HPN:Hid (∀ s∈x.params,s.size≤maxLen):=fun s hs=>by
      obtain⟨i,hi⟩:=List.getElem?_of_mem hs
      obtain⟨_,_,_,_,hr⟩:=HRI.out
      obtain⟨_,_,_,_,_,hz⟩:=hr i s hi
      exact hz
     have HLN:Hid (∀ s∈L1,s.size≤maxLen):=fun s hs=>by
      obtain⟨i,hi⟩:=List.getElem?_of_mem hs
      obtain⟨_,_,_,_,hr⟩:=HRD.out
      obtain⟨_,_,_,_,_,hz⟩:=hr i s hi
      exact hz
     have HPL:Hid (x.params.length+L1.length=ls.length):=by show _=_;rw[HVR.out,List.length_append]
     clear HAT
     go_upto_region 16 with (first|(at_builtin;refine wpList_copy_strs rfl (.tmp 83) rfl none _ x.params rfl HPZ.out (by have:=HSZ.out;have:=HPL.out;omega) ?_;intro a1 k1 z1 ho1 hz1;have HO1:=hid ho1;have HZ1:=hid hz1;clear ho1 hz1)|(at_builtin;refine wpList_append_strs rfl (.tmp 84) (.tmp 85) rfl z.heap.size _ _ _ rfl HO1.out _ _ L1 rfl (HRD.out.keep HZ1.out) (by have:=HSZ.out;have:=HPL.out;omega) HZ1.out.size ?_;intro a2 k2 z2 ho2 hT2 _;have HO2:=hid ho2;have HT2:=hid hT2;clear ho2 hT2))
     clear m3z j1z
     have HZ2:Hid (Below z.heap.size z z2):=below_then HZ1.out HT2.out HZ1.out.size (fun i e=>(own_is HO1.out e).1)
     have HLV:Hid (RdStrs (some (upFrom W2.heap.size)) z2 (.slice a2 ls.length k2) ls):=by
      have h1:=HO2.out
      rw[HPL.out] at h1
      have h2:ls.flatMap strCells=x.params.flatMap strCells++L1.flatMap strCells:=by rw[HVR.out,List.flatMap_append]
      rw[← h2] at h1
      exact strs_into (own_strs h1 (by have:=HSZ.out;omega) (fun s hs=>by
       rw[HVR.out] at hs
       rcases List.mem_append.1 hs with h|h
       ·exact HPN.out s h
       ·exact HLN.out s h)) (fun b _ hb=>Nat.le_trans HATz.out.below.size hb)
     rw[HPL.out]
     have HATy:=hid (HATz.out.keep HZ2.out)
     clear HATz HO1 HO2 HT2 HZ1 HZ2 HRD HPZ HPN HLN BZ
     have hat:=HATy.out
     obtain⟨vs,hvs⟩:=hat.vars
     obtain⟨va,vk,rfl,_⟩:=own_read hvs.2.1
     obtain⟨fa,fk,rfl,_⟩:=own_read hat.first
     have HAT:=hid hat
     have HVI:=hid hvs
     clear hat hvs HATy
     go_cut [] from 87 to 106 (fun wx=>∃ (v5 f5:Value),PrR.At ⟨W2,c1,M,p,sitesAllF p,ac,kc,aa,ka,some ⟨bx,ox,none⟩,kf,am,km,ca,ck,sa,sk,al,kl,L0⟩ 0 v5 f5 (.slice ra p.arrays.length rk) (V1++[ls]) (F1++[(nx:Int)]) (p.arrays.map (·.size)) wx)
     case first=>
      have hmw:M<z2.heap.size:=HAT.out.mlt
      have l5:=keepS_cell (S:=[M]) (by simp) (row_of HAT.out.hm 5 (.slice va V1.length vk) rfl)
      have l6:=keepS_cell (S:=[M]) (by simp) (row_of HAT.out.hm 6 (.slice fa F1.length fk) rfl)
      refine wp_region_tree (fun w'=>∃ x,w'=keepS z2 [M] x) (fun _=>True) [0,2,3,4,5,6,9,10,11,12,13] [1] 10 (.two [] 7 14 (.two [] 8 14 (.one [] 14 (.one [] 15 (tailOf [16,17,18,19,20,21]))) (.one [] 8 (.one [] 15 (tailOf [16,17,18,19,20,21])))) (.one [] 7 (.one [] 8 (.one [] 15 (tailOf [16,17,18,19,20,21]))))) (fun j=>decide (16≤j)) (by kernel_rfl) (by kernel_rfl) rfl (by kernel_rfl) (by kernel_rfl) (fun _ d _ _ _ h=>by cases d <;> exact h) ⟨_,keepS_of (fun _ _=>rfl)⟩ trivial ?_
      have HBd:Hid (Below z2.heap.size z2 z2.drew):=(Below.refl _ _).drew
      generalize z2.drew=y0 at *
      refine tree_walk (by simp only[opsOf,List.filterMap_cons,List.filterMap_nil,List.getElem?_toArray,List.getElem?_cons_succ,List.getElem?_cons_zero];rfl) (by simp only[opsOf,List.filterMap_cons,List.filterMap_nil,List.getElem?_toArray,List.getElem?_cons_succ,List.getElem?_cons_zero];rfl) ?_
      change wpQuiet _ _ _ _ [_,_,_,_,_,_,_,_,_,_,_] _
      (repeat (go_big_quiet_step (fail)))
      refine wpQuiet_nil ?_
      change wpQuiet _ _ _ _ [_] _
      (repeat (go_big_quiet_step (fail)))
      refine wpQuiet_nil ?_
      clear l5 l6
      refine tree_two ?_ ?_
      ·-- the list first
       refine mix_step rfl ?_
       go_wp2_with fail
       have HNa:=hid (heap_alloc_new y0 (.cells #[.slice a2 ls.length k2] 22))
       have HAL1:Hid (Below y0.heap.size y0 (y0.alloc (.cells #[.slice a2 ls.length k2] 22))):=(Below.refl _ _).alloc (Nat.le_refl _) _
       obtain⟨g1,hg1⟩:∃ g,y0.heap.size=g:=⟨_,rfl⟩
       rw[hg1] at HNa
       try rw[hg1]
       generalize y0.alloc (.cells #[.slice a2 ls.length k2] 22)=y1 at *
       have HSZ1:=hid (Nat.le_of_eq hg1)
       have HBy1:=hid (bcomp HBd.out HAL1.out)
       clear hg1
       refine⟨by first | exact ⟨fun _=>trivial,by intros;exact ⟨_,keepS_of (one_keepR (HBy1.out.block M hmw))⟩⟩ | (intros;exact ⟨_,keepS_of (one_keepR (HBy1.out.block M hmw))⟩),?_⟩
       refine tree_two ?_ ?_
       ·-- its append next
        have HATx:=hid (HAT.out.keep HBy1.out)
        have HVIx:=hid (HVI.out.keep HBy1.out)
        have hnM:Hid (¬ (Value.slice va V1.length vk).ownBlock=some M):=own_ne_cells HVIx.out.2.1 HATx.out.hm (by decide)
        refine mix_step rfl ?_
        (try simp only[Act.put,List.setIfInBounds_toArray,List.set_cons_succ,List.set_cons_zero,List.getElem_toArray,List.getElem_cons_succ,List.getElem_cons_zero])
        have hcc:c1≤y1.heap.size:=HATx.out.c1.2
        have hvo:y1.ownsRow c1 22 1 (.slice va V1.length vk) V1.length vs:=HVIx.out.2.1
        refine wpList_append_own_at _ rfl (.tmp 92) (.tmp 94) 83 rfl c1 22 iS (.slice none 0 0) 1 24 Tryd.underlying83 hiS hzS0 hzS1 hzS2 rfl (by decide) _ _ _ rfl hvo ⟨g1,0,none⟩ 1 1 [.slice a2 ls.length k2] rfl rfl (many_of (xs:=[.slice a2 ls.length k2]) HNa.out) (fun u hu=>by simp only[List.mem_cons,List.not_mem_nil,or_false] at hu;rcases hu with rfl;rfl) (by have:=HVL.out;unfold maxLen;omega) (by have:=HVL.out;omega) hcc ?_
        intro v' y2 hown' hgrow _ hblk
        have HTy2:Hid (Turned (fun k=>(Value.slice va V1.length vk).ownBlock=some k) y1 y2):=Turned.of_grown hgrow (fun b e=>e)
        obtain⟨ya,yc,rfl,_⟩:=own_read hown'
        have HOy2:=hid hown'
        clear hown' hgrow hblk hvo hcc
        (try simp only[Act.put,List.setIfInBounds_toArray,List.set_cons_succ,List.set_cons_zero,List.getElem_toArray,List.getElem_cons_succ,List.getElem_cons_zero])
        refine⟨by first | exact ⟨fun _=>trivial,by intros;exact ⟨_,keepS_of (one_keepR ((HTy2.out.block M HATx.out.mlt hnM.out).trans (HBy1.out.block M hmw)))⟩⟩ | (intros;exact ⟨_,keepS_of (one_keepR ((HTy2.out.block M HATx.out.mlt hnM.out).trans (HBy1.out.block M hmw)))⟩),?_⟩
        refine tree_one ?_
        refine mix_step rfl ?_
        go_wp2_with fail
        have HNb:=hid (heap_alloc_new y2 (.cells #[.int .i64 nx] 3))
        have HAL3:Hid (Below y2.heap.size y2 (y2.alloc (.cells #[.int .i64 nx] 3))):=(Below.refl _ _).alloc (Nat.le_refl _) _
        obtain⟨g2,hg2⟩:∃ g,y2.heap.size=g:=⟨_,rfl⟩
        rw[hg2] at HNb
        try rw[hg2]
        generalize y2.alloc (.cells #[.int .i64 nx] 3)=y3 at *
        have HSZ3:=hid (Nat.le_of_eq hg2)
        have HTy3:=hid (HTy2.out.trans (Turned.of_below HAL3.out))
        have HOy3:=hid (own_below HOy2.out HAL3.out)
        clear hg2
        refine⟨by first | exact ⟨fun _=>trivial,by intros;exact ⟨_,keepS_of (one_keepR ((HTy3.out.block M HATx.out.mlt hnM.out).trans (HBy1.out.block M hmw)))⟩⟩ | (intros;exact ⟨_,keepS_of (one_keepR ((HTy3.out.block M HATx.out.mlt hnM.out).trans (HBy1.out.block M hmw)))⟩),?_⟩
        refine tree_one ?_
        have HFI:=hid (HATx.out.firstIn HTy3.out)
        have hm3:Hid (y3.heap[M]?=some (.cells (PrR.cells ⟨W2,c1,M,p,sitesAllF p,ac,kc,aa,ka,some ⟨bx,ox,none⟩,kf,am,km,ca,ck,sa,sk,al,kl,L0⟩ 0 (.slice va V1.length vk) (.slice fa F1.length fk) (.slice ra p.arrays.length rk)) 85 (0,0))):=(HTy3.out.block M HATx.out.mlt hnM.out).trans HATx.out.hm
        have hnM2:Hid (¬ (Value.slice fa F1.length fk).ownBlock=some M):=own_ne_cells HFI.out hm3.out (by decide)
        refine mix_step rfl ?_
        (try simp only[Act.put,List.setIfInBounds_toArray,List.set_cons_succ,List.set_cons_zero,List.getElem_toArray,List.getElem_cons_succ,List.getElem_cons_zero])
        have hcc:c1≤y3.heap.size:=Nat.le_trans HATx.out.c1.2 HTy3.out.size
        have hfo:y3.ownsRow c1 3 1 (.slice fa F1.length fk) F1.length (F1.flatMap cellsInt):=HFI.out
        refine wpList_append_own_at _ rfl (.tmp 99) (.tmp 101) 29 rfl c1 3 iI (.int .i64 0) 1 8 Tryd.underlying29 hiI hzI0 hzI1 hzI2 rfl (by decide) _ _ _ rfl hfo ⟨g2,0,none⟩ 1 1 (cellsInt nx) rfl rfl (many_of (xs:=[.int .i64 nx]) HNb.out) (fun u hu=>by simp only[cellsInt,List.mem_cons,List.not_mem_nil,or_false] at hu;rcases hu with rfl;rfl) (by have:=HFL.out;unfold maxLen;omega) (by have:=HFL.out;omega) hcc ?_
        intro v' y4 hown' hgrow _ hblk
        have HT2:Hid (Turned (fun k=>(Value.slice fa F1.length fk).ownBlock=some k) y3 y4):=Turned.of_grown hgrow (fun b e=>e)
        obtain⟨ya2,yc2,rfl,_⟩:=own_read hown'
        have HO2:=hid hown'
        have HBK:Hid (∀ k,(Value.slice ya2 (F1.length+1) yc2).ownBlock=some k→(Value.slice fa F1.length fk).ownBlock=some k ∨ y3.heap.size≤k):=fun k hk=>by
         rcases hblk with e|e
         ·exact .inl (e.symm.trans hk)
         ·exact .inr (Nat.le_of_eq (Option.some.inj (e.symm.trans hk)))
        have hm4:Hid (y4.heap[M]?=some (.cells (PrR.cells ⟨W2,c1,M,p,sitesAllF p,ac,kc,aa,ka,some ⟨bx,ox,none⟩,kf,am,km,ca,ck,sa,sk,al,kl,L0⟩ 0 (.slice va V1.length vk) (.slice fa F1.length fk) (.slice ra p.arrays.length rk)) 85 (0,0))):=(HT2.out.block M (gsFlO hm3.out) hnM2.out).trans hm3.out
        have HPU:=hid (PrR.At.pushed (.slice a2 ls.length k2) ls nx HATx.out HVIx.out (HLV.out.keep HBy1.out) HTy3.out HOy3.out HT2.out HO2.out HBK.out)
        clear hown' hgrow hblk hfo hcc
        (try simp only[Act.put,List.setIfInBounds_toArray,List.set_cons_succ,List.set_cons_zero,List.getElem_toArray,List.getElem_cons_succ,List.getElem_cons_zero])
        refine⟨by first | exact ⟨fun _=>trivial,by intros;exact ⟨_,keepS_of (one_keepR ((HT2.out.block M (gsFlO hm3.out) hnM2.out).trans ((HTy3.out.block M HATx.out.mlt hnM.out).trans (HBy1.out.block M hmw))))⟩⟩ | (intros;exact ⟨_,keepS_of (one_keepR ((HT2.out.block M (gsFlO hm3.out) hnM2.out).trans ((HTy3.out.block M HATx.out.mlt hnM.out).trans (HBy1.out.block M hmw))))⟩),?_⟩
        have c5:=row_of hm4.out 5 (.slice va V1.length vk) rfl
        have f5:=frozen_of_row y4 M 5 _ _ hm4.out
        have c6:=row_of hm4.out 6 (.slice fa F1.length fk) rfl
        have f6:=frozen_of_row y4 M 6 _ _ hm4.out
        refine tree_tail (fun _=>trivial) [16,17,18,19,20,21] [_,_,_,_,_,_] _ _ rfl rfl ?_
        (try simp only[Act.put,List.setIfInBounds_toArray,List.set_cons_succ,List.set_cons_zero,List.getElem_toArray,List.getElem_cons_succ,List.getElem_cons_zero])
        go_wp2_with fail
        go_meet
        exact⟨_,_,HPU.out⟩
       ·-- the number next
        refine mix_step rfl ?_
        go_wp2_with fail
        have HNb:=hid (heap_alloc_new y1 (.cells #[.int .i64 nx] 3))
        have HAL2:Hid (Below y1.heap.size y1 (y1.alloc (.cells #[.int .i64 nx] 3))):=(Below.refl _ _).alloc (Nat.le_refl _) _
        obtain⟨g2,hg2⟩:∃ g,y1.heap.size=g:=⟨_,rfl⟩
        rw[hg2] at HNb
        try rw[hg2]
        generalize y1.alloc (.cells #[.int .i64 nx] 3)=y2 at *
        have HSZ2:=hid (Nat.le_of_eq hg2)
        have HBy2:=hid (bcomp HBy1.out HAL2.out)
        have HNax:=hid ((HAL2.out.block _ (gsFlO HNa.out)).trans HNa.out)
        clear HNa
        have HNa:=HNax
        clear HNax
        clear hg2
        refine⟨by first | exact ⟨fun _=>trivial,by intros;exact ⟨_,keepS_of (one_keepR (HBy2.out.block M hmw))⟩⟩ | (intros;exact ⟨_,keepS_of (one_keepR (HBy2.out.block M hmw))⟩),?_⟩
        refine tree_one ?_
        have HATx:=hid (HAT.out.keep HBy2.out)
        have HVIx:=hid (HVI.out.keep HBy2.out)
        have hnM:Hid (¬ (Value.slice va V1.length vk).ownBlock=some M):=own_ne_cells HVIx.out.2.1 HATx.out.hm (by decide)
        refine mix_step rfl ?_
        (try simp only[Act.put,List.setIfInBounds_toArray,List.set_cons_succ,List.set_cons_zero,List.getElem_toArray,List.getElem_cons_succ,List.getElem_cons_zero])
        have hcc:c1≤y2.heap.size:=HATx.out.c1.2
        have hvo:y2.ownsRow c1 22 1 (.slice va V1.length vk) V1.length vs:=HVIx.out.2.1
        refine wpList_append_own_at _ rfl (.tmp 92) (.tmp 94) 83 rfl c1 22 iS (.slice none 0 0) 1 24 Tryd.underlying83 hiS hzS0 hzS1 hzS2 rfl (by decide) _ _ _ rfl hvo ⟨g1,0,none⟩ 1 1 [.slice a2 ls.length k2] rfl rfl (many_of (xs:=[.slice a2 ls.length k2]) HNa.out) (fun u hu=>by simp only[List.mem_cons,List.not_mem_nil,or_false] at hu;rcases hu with rfl;rfl) (by have:=HVL.out;unfold maxLen;omega) (by have:=HVL.out;omega) hcc ?_
        intro v' y3 hown' hgrow _ hblk
        have HTy3:Hid (Turned (fun k=>(Value.slice va V1.length vk).ownBlock=some k) y2 y3):=Turned.of_grown hgrow (fun b e=>e)
        obtain⟨ya,yc,rfl,_⟩:=own_read hown'
        have HOy3:=hid hown'
        clear hown' hgrow hblk hvo hcc
        have HNbx:=hid ((HTy3.out.block g2 (gsFlO HNb.out) (own_ne_cells HVIx.out.2.1 HNb.out (by decide))).trans HNb.out)
        clear HNb
        have HNb:=HNbx
        clear HNbx
        (try simp only[Act.put,List.setIfInBounds_toArray,List.set_cons_succ,List.set_cons_zero,List.getElem_toArray,List.getElem_cons_succ,List.getElem_cons_zero])
        refine⟨by first | exact ⟨fun _=>trivial,by intros;exact ⟨_,keepS_of (one_keepR ((HTy3.out.block M HATx.out.mlt hnM.out).trans (HBy2.out.block M hmw)))⟩⟩ | (intros;exact ⟨_,keepS_of (one_keepR ((HTy3.out.block M HATx.out.mlt hnM.out).trans (HBy2.out.block M hmw)))⟩),?_⟩
        refine tree_one ?_
        have HFI:=hid (HATx.out.firstIn HTy3.out)
        have hm3:Hid (y3.heap[M]?=some (.cells (PrR.cells ⟨W2,c1,M,p,sitesAllF p,ac,kc,aa,ka,some ⟨bx,ox,none⟩,kf,am,km,ca,ck,sa,sk,al,kl,L0⟩ 0 (.slice va V1.length vk) (.slice fa F1.length fk) (.slice ra p.arrays.length rk)) 85 (0,0))):=(HTy3.out.block M HATx.out.mlt hnM.out).trans HATx.out.hm
        have hnM2:Hid (¬ (Value.slice fa F1.length fk).ownBlock=some M):=own_ne_cells HFI.out hm3.out (by decide)
        refine mix_step rfl ?_
        (try simp only[Act.put,List.setIfInBounds_toArray,List.set_cons_succ,List.set_cons_zero,List.getElem_toArray,List.getElem_cons_succ,List.getElem_cons_zero])
        have hcc:c1≤y3.heap.size:=Nat.le_trans HATx.out.c1.2 HTy3.out.size
        have hfo:y3.ownsRow c1 3 1 (.slice fa F1.length fk) F1.length (F1.flatMap cellsInt):=HFI.out
        refine wpList_append_own_at _ rfl (.tmp 99) (.tmp 101) 29 rfl c1 3 iI (.int .i64 0) 1 8 Tryd.underlying29 hiI hzI0 hzI1 hzI2 rfl (by decide) _ _ _ rfl hfo ⟨g2,0,none⟩ 1 1 (cellsInt nx) rfl rfl (many_of (xs:=[.int .i64 nx]) HNb.out) (fun u hu=>by simp only[cellsInt,List.mem_cons,List.not_mem_nil,or_false] at hu;rcases hu with rfl;rfl) (by have:=HFL.out;unfold maxLen;omega) (by have:=HFL.out;omega) hcc ?_
        intro v' y4 hown' hgrow _ hblk
        have HT2:Hid (Turned (fun k=>(Value.slice fa F1.length fk).ownBlock=some k) y3 y4):=Turned.of_grown hgrow (fun b e=>e)
        obtain⟨ya2,yc2,rfl,_⟩:=own_read hown'
        have HO2:=hid hown'
        have HBK:Hid (∀ k,(Value.slice ya2 (F1.length+1) yc2).ownBlock=some k→(Value.slice fa F1.length fk).ownBlock=some k ∨ y3.heap.size≤k):=fun k hk=>by
         rcases hblk with e|e
         ·exact .inl (e.symm.trans hk)
         ·exact .inr (Nat.le_of_eq (Option.some.inj (e.symm.trans hk)))
        have hm4:Hid (y4.heap[M]?=some (.cells (PrR.cells ⟨W2,c1,M,p,sitesAllF p,ac,kc,aa,ka,some ⟨bx,ox,none⟩,kf,am,km,ca,ck,sa,sk,al,kl,L0⟩ 0 (.slice va V1.length vk) (.slice fa F1.length fk) (.slice ra p.arrays.length rk)) 85 (0,0))):=(HT2.out.block M (gsFlO hm3.out) hnM2.out).trans hm3.out
        have HPU:=hid (PrR.At.pushed (.slice a2 ls.length k2) ls nx HATx.out HVIx.out (HLV.out.keep HBy2.out) HTy3.out HOy3.out HT2.out HO2.out HBK.out)
        clear hown' hgrow hblk hfo hcc
        (try simp only[Act.put,List.setIfInBounds_toArray,List.set_cons_succ,List.set_cons_zero,List.getElem_toArray,List.getElem_cons_succ,List.getElem_cons_zero])
        refine⟨by first | exact ⟨fun _=>trivial,by intros;exact ⟨_,keepS_of (one_keepR ((HT2.out.block M (gsFlO hm3.out) hnM2.out).trans ((HTy3.out.block M HATx.out.mlt hnM.out).trans (HBy2.out.block M hmw))))⟩⟩ | (intros;exact ⟨_,keepS_of (one_keepR ((HT2.out.block M (gsFlO hm3.out) hnM2.out).trans ((HTy3.out.block M HATx.out.mlt hnM.out).trans (HBy2.out.block M hmw))))⟩),?_⟩
        have c5:=row_of hm4.out 5 (.slice va V1.length vk) rfl
        have f5:=frozen_of_row y4 M 5 _ _ hm4.out
        have c6:=row_of hm4.out 6 (.slice fa F1.length fk) rfl
        have f6:=frozen_of_row y4 M 6 _ _ hm4.out
        refine tree_tail (fun _=>trivial) [16,17,18,19,20,21] [_,_,_,_,_,_] _ _ rfl rfl ?_
        (try simp only[Act.put,List.setIfInBounds_toArray,List.set_cons_succ,List.set_cons_zero,List.getElem_toArray,List.getElem_cons_succ,List.getElem_cons_zero])
        go_wp2_with fail
        go_meet
        exact⟨_,_,HPU.out⟩
      ·-- the number first
       refine mix_step rfl ?_
       go_wp2_with fail
       have HNb:=hid (heap_alloc_new y0 (.cells #[.int .i64 nx] 3))
       have HAL1:Hid (Below y0.heap.size y0 (y0.alloc (.cells #[.int .i64 nx] 3))):=(Below.refl _ _).alloc (Nat.le_refl _) _
       obtain⟨g2,hg2⟩:∃ g,y0.heap.size=g:=⟨_,rfl⟩
       rw[hg2] at HNb
       try rw[hg2]
       generalize y0.alloc (.cells #[.int .i64 nx] 3)=y1 at *
       have HSZ1:=hid (Nat.le_of_eq hg2)
       have HBy1:=hid (bcomp HBd.out HAL1.out)
       clear hg2
       refine⟨by first | exact ⟨fun _=>trivial,by intros;exact ⟨_,keepS_of (one_keepR (HBy1.out.block M hmw))⟩⟩ | (intros;exact ⟨_,keepS_of (one_keepR (HBy1.out.block M hmw))⟩),?_⟩
       refine tree_one ?_
       refine mix_step rfl ?_
       go_wp2_with fail
       have HNa:=hid (heap_alloc_new y1 (.cells #[.slice a2 ls.length k2] 22))
       have HAL2:Hid (Below y1.heap.size y1 (y1.alloc (.cells #[.slice a2 ls.length k2] 22))):=(Below.refl _ _).alloc (Nat.le_refl _) _
       obtain⟨g1,hg1⟩:∃ g,y1.heap.size=g:=⟨_,rfl⟩
       rw[hg1] at HNa
       try rw[hg1]
       generalize y1.alloc (.cells #[.slice a2 ls.length k2] 22)=y2 at *
       have HSZ2:=hid (Nat.le_of_eq hg1)
       have HBy2:=hid (bcomp HBy1.out HAL2.out)
       have HNbx:=hid ((HAL2.out.block _ (gsFlO HNb.out)).trans HNb.out)
       clear HNb
       have HNb:=HNbx
       clear HNbx
       clear hg1
       refine⟨by first | exact ⟨fun _=>trivial,by intros;exact ⟨_,keepS_of (one_keepR (HBy2.out.block M hmw))⟩⟩ | (intros;exact ⟨_,keepS_of (one_keepR (HBy2.out.block M hmw))⟩),?_⟩
       refine tree_one ?_
       have HATx:=hid (HAT.out.keep HBy2.out)
       have HVIx:=hid (HVI.out.keep HBy2.out)
       have hnM:Hid (¬ (Value.slice va V1.length vk).ownBlock=some M):=own_ne_cells HVIx.out.2.1 HATx.out.hm (by decide)
       refine mix_step rfl ?_
       (try simp only[Act.put,List.setIfInBounds_toArray,List.set_cons_succ,List.set_cons_zero,List.getElem_toArray,List.getElem_cons_succ,List.getElem_cons_zero])
       have hcc:c1≤y2.heap.size:=HATx.out.c1.2
       have hvo:y2.ownsRow c1 22 1 (.slice va V1.length vk) V1.length vs:=HVIx.out.2.1
       refine wpList_append_own_at _ rfl (.tmp 92) (.tmp 94) 83 rfl c1 22 iS (.slice none 0 0) 1 24 Tryd.underlying83 hiS hzS0 hzS1 hzS2 rfl (by decide) _ _ _ rfl hvo ⟨g1,0,none⟩ 1 1 [.slice a2 ls.length k2] rfl rfl (many_of (xs:=[.slice a2 ls.length k2]) HNa.out) (fun u hu=>by simp only[List.mem_cons,List.not_mem_nil,or_false] at hu;rcases hu with rfl;rfl) (by have:=HVL.out;unfold maxLen;omega) (by have:=HVL.out;omega) hcc ?_
       intro v' y3 hown' hgrow _ hblk
       have HTy3:Hid (Turned (fun k=>(Value.slice va V1.length vk).ownBlock=some k) y2 y3):=Turned.of_grown hgrow (fun b e=>e)
       obtain⟨ya,yc,rfl,_⟩:=own_read hown'
       have HOy3:=hid hown'
       clear hown' hgrow hblk hvo hcc
       have HNbx:=hid ((HTy3.out.block g2 (gsFlO HNb.out) (own_ne_cells HVIx.out.2.1 HNb.out (by decide))).trans HNb.out)
       clear HNb
       have HNb:=HNbx
       clear HNbx
       (try simp only[Act.put,List.setIfInBounds_toArray,List.set_cons_succ,List.set_cons_zero,List.getElem_toArray,List.getElem_cons_succ,List.getElem_cons_zero])
       refine⟨by first | exact ⟨fun _=>trivial,by intros;exact ⟨_,keepS_of (one_keepR ((HTy3.out.block M HATx.out.mlt hnM.out).trans (HBy2.out.block M hmw)))⟩⟩ | (intros;exact ⟨_,keepS_of (one_keepR ((HTy3.out.block M HATx.out.mlt hnM.out).trans (HBy2.out.block M hmw)))⟩),?_⟩
       refine tree_one ?_
       have HFI:=hid (HATx.out.firstIn HTy3.out)
       have hm3:Hid (y3.heap[M]?=some (.cells (PrR.cells ⟨W2,c1,M,p,sitesAllF p,ac,kc,aa,ka,some ⟨bx,ox,none⟩,kf,am,km,ca,ck,sa,sk,al,kl,L0⟩ 0 (.slice va V1.length vk) (.slice fa F1.length fk) (.slice ra p.arrays.length rk)) 85 (0,0))):=(HTy3.out.block M HATx.out.mlt hnM.out).trans HATx.out.hm
       have hnM2:Hid (¬ (Value.slice fa F1.length fk).ownBlock=some M):=own_ne_cells HFI.out hm3.out (by decide)
       refine mix_step rfl ?_
       (try simp only[Act.put,List.setIfInBounds_toArray,List.set_cons_succ,List.set_cons_zero,List.getElem_toArray,List.getElem_cons_succ,List.getElem_cons_zero])
       have hcc:c1≤y3.heap.size:=Nat.le_trans HATx.out.c1.2 HTy3.out.size
       have hfo:y3.ownsRow c1 3 1 (.slice fa F1.length fk) F1.length (F1.flatMap cellsInt):=HFI.out
       refine wpList_append_own_at _ rfl (.tmp 99) (.tmp 101) 29 rfl c1 3 iI (.int .i64 0) 1 8 Tryd.underlying29 hiI hzI0 hzI1 hzI2 rfl (by decide) _ _ _ rfl hfo ⟨g2,0,none⟩ 1 1 (cellsInt nx) rfl rfl (many_of (xs:=[.int .i64 nx]) HNb.out) (fun u hu=>by simp only[cellsInt,List.mem_cons,List.not_mem_nil,or_false] at hu;rcases hu with rfl;rfl) (by have:=HFL.out;unfold maxLen;omega) (by have:=HFL.out;omega) hcc ?_
       intro v' y4 hown' hgrow _ hblk
       have HT2:Hid (Turned (fun k=>(Value.slice fa F1.length fk).ownBlock=some k) y3 y4):=Turned.of_grown hgrow (fun b e=>e)
       obtain⟨ya2,yc2,rfl,_⟩:=own_read hown'
       have HO2:=hid hown'
       have HBK:Hid (∀ k,(Value.slice ya2 (F1.length+1) yc2).ownBlock=some k→(Value.slice fa F1.length fk).ownBlock=some k ∨ y3.heap.size≤k):=fun k hk=>by
        rcases hblk with e|e
        ·exact .inl (e.symm.trans hk)
        ·exact .inr (Nat.le_of_eq (Option.some.inj (e.symm.trans hk)))
       have hm4:Hid (y4.heap[M]?=some (.cells (PrR.cells ⟨W2,c1,M,p,sitesAllF p,ac,kc,aa,ka,some ⟨bx,ox,none⟩,kf,am,km,ca,ck,sa,sk,al,kl,L0⟩ 0 (.slice va V1.length vk) (.slice fa F1.length fk) (.slice ra p.arrays.length rk)) 85 (0,0))):=(HT2.out.block M (gsFlO hm3.out) hnM2.out).trans hm3.out
       have HPU:=hid (PrR.At.pushed (.slice a2 ls.length k2) ls nx HATx.out HVIx.out (HLV.out.keep HBy2.out) HTy3.out HOy3.out HT2.out HO2.out HBK.out)
       clear hown' hgrow hblk hfo hcc
       (try simp only[Act.put,List.setIfInBounds_toArray,List.set_cons_succ,List.set_cons_zero,List.getElem_toArray,List.getElem_cons_succ,List.getElem_cons_zero])
       refine⟨by first | exact ⟨fun _=>trivial,by intros;exact ⟨_,keepS_of (one_keepR ((HT2.out.block M (gsFlO hm3.out) hnM2.out).trans ((HTy3.out.block M HATx.out.mlt hnM.out).trans (HBy2.out.block M hmw))))⟩⟩ | (intros;exact ⟨_,keepS_of (one_keepR ((HT2.out.block M (gsFlO hm3.out) hnM2.out).trans ((HTy3.out.block M HATx.out.mlt hnM.out).trans (HBy2.out.block M hmw))))⟩),?_⟩
       have c5:=row_of hm4.out 5 (.slice va V1.length vk) rfl
       have f5:=frozen_of_row y4 M 5 _ _ hm4.out
       have c6:=row_of hm4.out 6 (.slice fa F1.length fk) rfl
       have f6:=frozen_of_row y4 M 6 _ _ hm4.out
       refine tree_tail (fun _=>trivial) [16,17,18,19,20,21] [_,_,_,_,_,_] _ _ rfl rfl ?_
       (try simp only[Act.put,List.setIfInBounds_toArray,List.set_cons_succ,List.set_cons_zero,List.getElem_toArray,List.getElem_cons_succ,List.getElem_cons_zero])
       go_wp2_with fail
       go_meet
       exact⟨_,_,HPU.out⟩
     case rest=>
      obtain⟨v5,f5,hat5⟩:=hcut
      obtain⟨W7,rfl⟩:∃ z:World,z=wc:=⟨_,rfl⟩
      have HAT7:=hid hat5
      clear hat5 HAT HVI HLV
      have hnb:(nx:Int)+(ls.length:Int)≤4000000:=by have:=HNL.out;omega
      go_wp2_with fail
      go_roundw
      case rel=>exact⟨k+1,v5,f5,by omega,by go_num,by rw[HSU.out];go_num,by rw[HVN.out,HFN.out];exact HAT7.out⟩
      case measure=>simp[intOf];omega
   obtain⟨x,hx⟩:∃ x,p.arrays[k]?=some x:=⟨_,lgFlO hlt⟩
   have hnx:(p.arrays.map (·.size)).take (k+1)=(p.arrays.map (·.size)).take k++[x.size]:=by
    rw[List.take_add_one,List.getElem?_map,hx];rfl
   have hAl:((p.arrays.map (·.size)).take k).length≤1000000:=by rw[List.length_take,List.length_map];have:=HW.out.arl;omega
   obtain⟨A1,hA1⟩:∃ A1,(p.arrays.map (·.size)).take k=A1:=⟨_,rfl⟩
   rw[hA1] at hat hnx hAl
   obtain⟨iI,hiI,hzI0,hzI1,hzI2⟩:=info_parts infoIntR
   obtain⟨a',c',e',_,hrr⟩:=H2.out.2.1
   simp only[Value.slice.injEq] at e'
   obtain⟨bx,ox,e2,_,i0,i1,hri⟩:=hrr k x hx
   have e3:aa=some ⟨bx,ox,none⟩:=e'.1.trans e2
   have hklt:(k:Int)<(p.arrays.length:Int):=by omega
   have HNX:=hid hnx
   have HBX:=hid (block_lt_of_cell i1)
   have i1w:=cell_keep hat.below i1
   obtain⟨k0,kc0,rfl,_⟩:=own_read hat.arrs
   have HAT:=hid hat
   have HAL:=hid hAl
   subst e3
   clear hat hrr hx hnx hri hA1 e' e2 i0 i1 hAl
   go_upto_region 8 with fail
   have l11:=keepS_cell (S:=[M,pb,bx]) (by simp) (row_of HAT.out.hm 11 (.slice k0 A1.length kc0) rfl)
   have l2:=keepS_cell (S:=[M,pb,bx]) (by simp) mp2
   have l1:=keepS_cell (S:=[M,pb,bx]) (by simp) i1w
   clear mp2 i1w
   refine wp_region_mixS [M,pb,bx] (.one [0,1,2,3,4,5,6,7,8,9,10,11] 12 (.one [] 13 (tailOf [14,15,16,17]))) (fun j=>decide (14≤j)) (by kernel_rfl) (by kernel_rfl) rfl (by kernel_rfl) (fun _ d _ _ _ h=>by cases d <;> exact h) ?_
   have HBd:Hid (Below wo.heap.size wo wo.drew):=(Below.refl _ _).drew
   have hmw:M<wo.heap.size:=HAT.out.mlt
   have HPW:Hid (pb<wo.heap.size∧bx<wo.heap.size):=⟨Nat.lt_of_lt_of_le HPBL.out HAT.out.below.size,Nat.lt_of_lt_of_le HBX.out HAT.out.below.size⟩
   generalize wo.drew=wn at *
   have HKn:=hid (three_keepR (HBd.out.block M hmw) (HBd.out.block pb HPW.out.1) (HBd.out.block bx HPW.out.2))
   refine mix_one (by simp only[opsOf,List.filterMap_cons,List.filterMap_nil,List.getElem?_toArray,List.getElem?_cons_succ,List.getElem?_cons_zero];rfl) ⟨_,keepS_of HKn.out⟩ ?_
   change wpQuiet _ _ _ _ [_,_,_,_,_,_,_,_,_,_,_,_] _
   (repeat (go_big_quiet_step (fail)))
   clear l11 l2 l1
   refine wpQuiet_nil ?_
   refine mix_step rfl ?_
   go_wp2_with fail
   have HN1:=hid (heap_alloc_new wn (.cells #[.int .i64 x.size] 3))
   have hal2:Below wn.heap.size wn (wn.alloc (.cells #[.int .i64 x.size] 3)):=(Below.refl _ _).alloc (Nat.le_refl _) _
   have HBn:=hid (bcomp HBd.out hal2)
   obtain⟨gb,hgb⟩:∃ gb,wn.heap.size=gb:=⟨_,rfl⟩
   rw[hgb] at HN1
   try rw[hgb]
   clear hal2
   generalize wn.alloc (.cells #[.int .i64 x.size] 3)=wa at *
   have HKw:=hid (three_keepR (HBn.out.block M hmw) (HBn.out.block pb HPW.out.1) (HBn.out.block bx HPW.out.2))
   have HAa:=hid (HAT.out.keep HBn.out)
   clear hgb
   (first|refine⟨fun _=>⟨_,keepS_of HKw.out⟩,?_⟩|refine⟨⟨_,keepS_of HKw.out⟩,?_⟩)
   refine mix_now ?_
   refine mix_step rfl ?_
   try (simp only[Act.put,List.setIfInBounds_toArray,List.set_cons_succ,List.set_cons_zero,List.getElem_toArray,List.getElem_cons_succ,List.getElem_cons_zero])
   have hcc:c1≤wa.heap.size:=HAa.out.c1.2
   have harr:wa.ownsRow c1 3 1 (.slice k0 A1.length kc0) A1.length (A1.flatMap cellsInt):=HAa.out.arrs
   refine wpList_append_own_at _ rfl (.tmp 46) (.tmp 53) 29 rfl c1 3 iI (.int .i64 0) 1 8 Tryd.underlying29 hiI hzI0 hzI1 hzI2 rfl (by decide) _ _ _ rfl harr ⟨gb,0,none⟩ 1 1 (cellsInt x.size) rfl rfl (many_of (xs:=[.int .i64 x.size]) HN1.out) (fun u hu=>by simp only[cellsInt,List.mem_cons,List.not_mem_nil,or_false] at hu;rcases hu with rfl;rfl) (by have:=HAL.out;unfold maxLen;omega) (by have:=HAL.out;omega) hcc ?_
   intro v' w4 hown' hgrow _ hblk
   have hT4:Turned (fun k=>(Value.slice k0 A1.length kc0).ownBlock=some k) wa w4:=Turned.of_grown hgrow (fun b e=>e)
   have hcw:W2.heap.size≤c1:=HAa.out.c1.1
   have hkM:(Value.slice k0 A1.length kc0).ownBlock≠some M:=own_ne_cells harr HAa.out.hm (by decide)
   have hkp:(Value.slice k0 A1.length kc0).ownBlock≠some pb:=fun e=>by have:=(own_is harr e).1;have:=HPBL.out;omega
   have hkx:(Value.slice k0 A1.length kc0).ownBlock≠some bx:=fun e=>by have:=(own_is harr e).1;have:=HBX.out;omega
   have hm4:=(hT4.block M HAa.out.mlt hkM).trans HAa.out.hm
   have hsz:=HBn.out.size
   have HKf:=hid (three_keepR ((hT4.block M HAa.out.mlt hkM).trans (HKw.out M (by simp))) ((hT4.block pb (Nat.lt_of_lt_of_le HPW.out.1 hsz) hkp).trans (HKw.out pb (by simp))) ((hT4.block bx (Nat.lt_of_lt_of_le HPW.out.2 hsz) hkx).trans (HKw.out bx (by simp))))
   obtain⟨xa,xc,rfl,_⟩:=own_read hown'
   have HT4:=hid hT4
   have HO4:=hid hown'
   have HBK:Hid (∀ k,(Value.slice xa (A1.length+1) xc).ownBlock=some k→(Value.slice k0 A1.length kc0).ownBlock=some k ∨ wa.heap.size≤k):=fun k hk=>by
    rcases hblk with e|e
    ·exact .inl (e.symm.trans hk)
    ·exact .inr (Nat.le_of_eq (Option.some.inj (e.symm.trans hk)))
   clear hown' hgrow hblk hT4 hkM hkx hkp harr hcc hcw hsz
   try (simp only[Act.put,List.setIfInBounds_toArray,List.set_cons_succ,List.set_cons_zero,List.getElem_toArray,List.getElem_cons_succ,List.getElem_cons_zero])
   (first|refine⟨fun _=>⟨_,keepS_of HKf.out⟩,?_⟩|refine⟨⟨_,keepS_of HKf.out⟩,?_⟩)
   have c11:=row_of hm4 11 (.slice k0 A1.length kc0) rfl
   have f11:=frozen_of_row w4 M 11 _ _ hm4
   clear hm4
   refine mix_tail [14,15,16,17] [_,_,_,_] _ _ rfl rfl ?_
   simp only[Act.put,List.setIfInBounds_toArray,List.set_cons_succ,List.set_cons_zero,List.getElem_toArray,List.getElem_cons_succ,List.getElem_cons_zero]
   go_wp2_with fail
   go_roundw
   case rel=>exact⟨k+1,_,by omega,by go_num,by rw[HNX.out];exact PrR.At.arrayed x.size HAa.out HT4.out HO4.out HBK.out⟩
   case measure=>simp[intOf];omega
end Go.Proofs.YtgcfdbhpophnjaaDoor
