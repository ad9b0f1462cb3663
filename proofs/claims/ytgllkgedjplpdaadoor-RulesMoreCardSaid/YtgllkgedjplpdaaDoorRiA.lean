/- A copied policy that grows and turns in memory (RulesMore); plain: more levels, in another order, make no difference. Condition: what comes in reads as the plain data. -/
import Derived.Test.YtgllkgedjplpdaaDoorRgB
import Derived.Test.YtgllkgedjplpdaaDoorRhA
set_option linter.all false
set_option maxRecDepth 1000000
set_option maxHeartbeats 12800000
set_option linter.unusedVariables false
set_option linter.unusedSimpArgs false
namespace Go.Proofs.YtgllkgedjplpdaaDoor
open Go.ChangeShapes Go.WideShapes Go.ChangeAt Go.RowKit
theorem RdRow.turnedT {α:Type} {K:Kind α} {G S:Nat→Prop} {x y:World} {v:Value} {l:List α} (h:RdRow K (some G) x v l) (k:Turned S x y) (hS:∀ b,S b→∀ cs,x.heap[b]? ≠ some (.cells cs K.T (0,0))):RdRow K (some G) y v l:=by
 have hb:∀ b,Free (some G) K.T x b→y.heap[b]?=x.heap[b]?:=by
  intro b hf
  obtain ⟨_,c,hc⟩:=hf G rfl
  exact k.block b (Array.getElem?_eq_some_iff.1 hc).1 (fun e=>hS b e c hc)
 refine RdRow.map (fun b _ hf=>?_) (fun b o v hf hc=>(World.cell?_of_block (hb b hf)).trans hc) h
 intro g' e
 obtain ⟨h1,c,hc⟩:=hf g' e
 exact ⟨h1,c,(hb b hf).trans hc⟩
theorem own_setB {w:World} {base:Nat} {e:TypeId} {size n c g k:Nat} {xs:List Value} {u:Value} (h:w.ownsRow base e size (.slice (some ⟨g,0,none⟩) n c) n xs):(w.setCell ⟨g,k,none⟩ u).ownsRow base e size (.slice (some ⟨g,0,none⟩) n c) n (xs.set k u):=by
 obtain ⟨hl,h|⟨g',cap,cur,e1,hg,hc,h1,h2,h3,h4⟩⟩:=h
 ·cases h.1
 ·simp only [Value.slice.injEq,Option.some.injEq,Addr.mk.injEq,and_true,true_and] at e1
  obtain ⟨rfl,rfl⟩:=e1
  refine ⟨by rw [List.length_set];exact hl,.inr ⟨g,c,cur.setIfInBounds k u,rfl,hg,heap_setCell_same _ _ _ _ _ u hc,h1,h2,by simpa using h3,?_⟩⟩
  rw [Array.toList_setIfInBounds,List.take_set,h4]
theorem flat_setB {L:List BindD} {i:Nat} {x:BindD} (hi:i<L.length):((L.flatMap cellsBind).set (i * 2) (.string x.name)).set (i * 2+1) (.int .i64 x.level)=(L.set i x).flatMap cellsBind:=by
 have hP:L=L.take i ++ L[i] :: L.drop (i+1):=by rw [← List.drop_eq_getElem_cons hi,List.take_append_drop]
 have hl:(L.take i).length=i:=by rw [List.length_take];omega
 have hf:((L.take i).flatMap cellsBind).length=i * 2:=by rw [flat_length cellsBind 2 (fun _=>rfl),hl]
 have h2:L.set i x=L.take i ++ x :: L.drop (i+1):=List.set_eq_take_append_cons_drop .. |>.trans (by rw [if_pos hi])
 rw [h2]
 conv=>lhs;rw [hP]
 rw [List.flatMap_append,List.flatMap_cons,List.flatMap_append,List.flatMap_cons]
 rw [List.set_append_right _ _ (by rw [hf];exact Nat.le_refl _),hf,Nat.sub_self,List.set_append_right _ _ (by rw [hf];omega),hf,show i * 2+1 - i * 2=1 by omega]
 rfl
structure Ms where
 w0:World
 xb:Nat
 B:PolD
 la:Option Addr
 lc:Nat
 oa:Option Addr
 oc:Nat
namespace Ms
abbrev qc (g:Ms) (cv sv:Value):Array Value:=#[.slice g.la g.B.levels.length g.lc,.slice g.oa g.B.order.length g.oc,cv,sv,.bool g.B.sens,.int .i64 g.B.steps,.int .i64 g.B.paths,.int .i64 g.B.nodes,.int .i64 g.B.confs]
structure At (g:Ms) (cv sv:Value) (L M:List BindD) (w:World):Prop where
 below:Below g.w0.heap.size g.w0 w
 hxb:g.w0.heap.size≤g.xb
 hq:w.heap[g.xb]?=some (.cells (g.qc cv sv) 30 (0,0))
 rl:RdRow kStr (some (upFrom g.w0.heap.size)) w (.slice g.la g.B.levels.length g.lc) g.B.levels
 ro:RdRow kPair (some (upFrom g.w0.heap.size)) w (.slice g.oa g.B.order.length g.oc) g.B.order
 own1:w.ownsRow g.w0.heap.size 58 2 cv L.length (L.flatMap cellsBind)
 own2:w.ownsRow g.w0.heap.size 58 2 sv M.length (M.flatMap cellsBind)
 ap:∀ i,cv.ownBlock=some i→sv.ownBlock ≠ some i
 ok:∀ b ∈ L ++ M,b.name.size≤maxLen∧InI64 b.level
 lim:InI64 g.B.steps∧InI64 g.B.paths∧InI64 g.B.nodes∧InI64 g.B.confs
variable {g:Ms} {cv sv cv' sv':Value} {L M L' M':List BindD} {x y z:World}
theorem At.lt (h:g.At cv sv L M x):g.xb<x.heap.size:=(Array.getElem?_eq_some_iff.1 h.hq).1
theorem At.ne1 (h:g.At cv sv L M x):cv.ownBlock ≠ some g.xb:=own_ne_cells h.own1 h.hq (by decide)
theorem At.ne2 (h:g.At cv sv L M x):sv.ownBlock ≠ some g.xb:=own_ne_cells h.own2 h.hq (by decide)
theorem At.go {S:Nat→Prop} (h:g.At cv sv L M x) (k:Turned S x z) (hS:∀ b,S b→g.w0.heap.size≤b∧∃ cs T,x.heap[b]?=some (.cells cs T (0,0))∧(T=58 ∨ T=30))
  (hq:z.heap[g.xb]?=some (.cells (g.qc cv' sv') 30 (0,0))) (o1:z.ownsRow g.w0.heap.size 58 2 cv' L'.length (L'.flatMap cellsBind)) (o2:z.ownsRow g.w0.heap.size 58 2 sv' M'.length (M'.flatMap cellsBind))
  (ap:∀ i,cv'.ownBlock=some i→sv'.ownBlock ≠ some i) (ok:∀ b ∈ L' ++ M',b.name.size≤maxLen∧InI64 b.level):g.At cv' sv' L' M' z:=by
 refine ⟨below_then h.below k h.below.size (fun i e=>(hS i e).1),h.hxb,hq,h.rl.turnedT k (fun b hb cs hc=>?_),h.ro.turnedT k (fun b hb cs hc=>?_),o1,o2,ap,ok,h.lim⟩
 ·obtain ⟨_,c,T,h1,h2⟩:=hS b hb
  rw [h1] at hc
  simp only [Option.some.injEq,Obj.cells.injEq] at hc
  obtain ⟨_,rfl,_⟩:=hc
  rcases h2 with h2|h2 <;> exact absurd h2 (by decide)
 ·obtain ⟨_,c,T,h1,h2⟩:=hS b hb
  rw [h1] at hc
  simp only [Option.some.injEq,Obj.cells.injEq] at hc
  obtain ⟨_,rfl,_⟩:=hc
  rcases h2 with h2|h2 <;> exact absurd h2 (by decide)
theorem At.keep (h:g.At cv sv L M x) (k:Below x.heap.size x y):g.At cv sv L M y:=
 h.go (Turned.of_below (S:=fun _=>False) k) (fun _ e=>e.elim) ((k.block _ h.lt).trans h.hq) (own_below h.own1 k) (own_below h.own2 k) h.ap h.ok
theorem At.isBox (h:g.At cv sv L M x):g.w0.heap.size≤g.xb∧∃ cs T,x.heap[g.xb]?=some (.cells cs T (0,0))∧(T=58 ∨ T=30):=⟨h.hxb,_,_,h.hq,.inr rfl⟩
theorem At.isRow {v:Value} {n:Nat} {xs:List Value} (h:x.ownsRow g.w0.heap.size 58 2 v n xs) {b:Nat} (hb:v.ownBlock=some b):g.w0.heap.size≤b∧∃ cs T,x.heap[b]?=some (.cells cs T (0,0))∧(T=58 ∨ T=30):=by
 obtain ⟨h1,cs,h2⟩:=own_is h hb
 exact ⟨h1,cs,_,h2,.inl rfl⟩
theorem At.put1 (h:g.At cv sv L M x) (o1:x.ownsRow g.w0.heap.size 58 2 cv' L'.length (L'.flatMap cellsBind)) (ap:∀ i,cv'.ownBlock=some i→sv.ownBlock ≠ some i) (ok:∀ b ∈ L' ++ M,b.name.size≤maxLen∧InI64 b.level):g.At cv' sv L' M (x.setCell ⟨g.xb,2,none⟩ cv'):=by
 have hsc:=setCell_turned x ⟨g.xb,2,none⟩ cv'
 have hn:cv'.ownBlock ≠ some g.xb:=own_ne_cells o1 h.hq (by decide)
 refine h.go hsc (fun b e=>by have e:b=g.xb:=e;subst e;exact h.isBox) ?_ (own_turn o1 hsc fun i hi e=>hn (by rw [hi];exact congrArg some e)) (own_turn h.own2 hsc fun i hi e=>h.ne2 (by rw [hi];exact congrArg some e)) ap ok
 rw [heap_setCell_same _ _ _ _ _ _ h.hq]
 rfl
theorem At.push2 (b:BindD) (hb:b.name.size≤maxLen∧InI64 b.level) (h:g.At cv sv L M x) (hT:Turned (fun j=>sv.ownBlock=some j) x y) (o2:y.ownsRow g.w0.heap.size 58 2 sv' (M.length+1) (M.flatMap cellsBind ++ cellsBind b))
  (hblk:sv'.ownBlock=sv.ownBlock ∨ sv'.ownBlock=some x.heap.size):g.At cv sv' L (M ++ [b]) (y.setCell ⟨g.xb,3,none⟩ sv'):=by
 have hq1:=(hT.block _ h.lt (fun e=>h.ne2 e)).trans h.hq
 have hsc:=setCell_turned y ⟨g.xb,3,none⟩ sv'
 have hn:sv'.ownBlock ≠ some g.xb:=own_ne_cells o2 hq1 (by decide)
 have h1:cv.ownBlock ≠ some g.xb:=h.ne1
 have o1:(y.setCell ⟨g.xb,3,none⟩ sv').ownsRow g.w0.heap.size 58 2 cv L.length (L.flatMap cellsBind):=
  own_turn (own_turn h.own1 hT fun i hi e=>h.ap i hi e) hsc fun i hi e=>h1 (by rw [hi];exact congrArg some e)
 have o2':(y.setCell ⟨g.xb,3,none⟩ sv').ownsRow g.w0.heap.size 58 2 sv' (M ++ [b]).length ((M ++ [b]).flatMap cellsBind):=by
  have h2:=own_turn o2 hsc fun i hi e=>hn (by rw [hi];exact congrArg some e)
  rw [List.flatMap_append,List.length_append,List.length_singleton]
  simpa using h2
 have hsz:=hT.size
 refine h.go (S:=fun j=>sv.ownBlock=some j ∨ j=g.xb) ((hT.mono (fun _ e=>.inl e)).trans (hsc.mono fun _ e=>.inr e)) (fun j e=>?_) ?_ o1 o2' ?_ ?_
 ·rcases e with e|e
  ·exact At.isRow h.own2 e
  ·subst e;exact h.isBox
 ·rw [heap_setCell_same _ _ _ _ _ _ hq1]
  rfl
 ·intro i hi e
  rcases hblk with h3|h3
  ·exact h.ap i hi (h3 ▸ e)
  ·rw [h3] at e
   simp only [Option.some.injEq] at e
   obtain ⟨_,cur,hc⟩:=own_is h.own1 hi
   have:=(Array.getElem?_eq_some_iff.1 hc).1
   omega
 ·intro t ht
  rw [← List.append_assoc] at ht
  rcases List.mem_append.1 ht with ht|ht
  ·exact h.ok t ht
  ·rw [List.mem_singleton] at ht;subst ht;exact hb
theorem At.set1 {b c i:Nat} {u:BindD} (h:g.At (.slice (some ⟨b,0,none⟩) L.length c) sv L M x) (hi:i<L.length) (hu:u.name.size≤maxLen∧InI64 u.level) :
  g.At (.slice (some ⟨b,0,none⟩) (L.set i u).length c) sv (L.set i u) M ((x.setCell ⟨b,i * 2,none⟩ (.string u.name)).setCell ⟨b,i * 2+1,none⟩ (.int .i64 u.level)):=by
 have hlen:(L.set i u).length=L.length:=List.length_set
 have o:=own_setB (k:=i * 2+1) (u:=.int .i64 u.level) (own_setB (k:=i * 2) (u:=.string u.name) h.own1)
 rw [flat_setB hi] at o
 have hT:=(setCell_turned x ⟨b,i * 2,none⟩ (.string u.name)).trans (setCell_turned (x.setCell ⟨b,i * 2,none⟩ (.string u.name)) ⟨b,i * 2+1,none⟩ (.int .i64 u.level))
 have hbx:b ≠ g.xb:=fun e=>h.ne1 (by rw [← e];rfl)
 refine h.go hT (fun j e=>by have e:j=b:=e;subst e;exact At.isRow h.own1 rfl) ?_ (by rw [hlen];exact o) (own_turn h.own2 hT fun j hj e=>by have e:j=b:=e;subst e;exact h.ap _ rfl hj) (fun j hj=>h.ap j hj) ?_
 ·rw [hlen]
  exact (hT.block _ h.lt (fun e=>hbx e.symm)).trans h.hq
 ·intro t ht
  rcases List.mem_append.1 ht with ht|ht
  ·rcases List.mem_or_eq_of_mem_set ht with ht|rfl
   ·exact h.ok t (List.mem_append_left _ ht)
   ·exact hu
  ·exact h.ok t (List.mem_append_right _ ht)
theorem At.row1 (h:g.At cv sv L M x) (hl:L.length≤1000000):RdRow kBind (some (upFrom g.w0.heap.size)) x cv L:=own_rows (K:=kBind) h.own1 (by show _ * 24≤_;omega) (fun b hb=>by
 obtain ⟨h1,h2⟩:=h.ok b (List.mem_append_left _ hb)
 exact ⟨h1,h2⟩)
theorem At.row2 (h:g.At cv sv L M x) (hl:M.length≤1000000):RdRow kBind (some (upFrom g.w0.heap.size)) x sv M:=own_rows (K:=kBind) h.own2 (by show _ * 24≤_;omega) (fun b hb=>by
 obtain ⟨h1,h2⟩:=h.ok b (List.mem_append_right _ hb)
 exact ⟨h1,h2⟩)
theorem At.pol (h:g.At cv sv L M x) (hl:L.length≤1000000) (hm:M.length≤1000000):RdPol none x { g.B with chans:=L,sites:=M } (.slice g.la g.B.levels.length g.lc) (.slice g.oa g.B.order.length g.oc) cv sv:=
 ⟨h.rl.forget,h.ro.forget,(h.row1 hl).forget,(h.row2 hm).forget,h.lim⟩
end Ms
/-! ### plain -/
def Rv (L0 L:List BindD) (i:Nat):Prop:=L.length=L0.length∧∀ k,k<L0.length→L[k]?=if k<i ∨ L0.length≤k+i then L0[L0.length - 1 - k]? else L0[k]?
theorem Rv.start (L:List BindD):Rv L L 0:=⟨rfl,fun k hk=>by rw [if_neg (by omega)]⟩
theorem Rv.step {L0 L:List BindD} {i:Nat} {u v:BindD} (h:Rv L0 L i) (hi:i<L0.length / 2) (hu:L[i]?=some u) (hv:L[L0.length - 1 - i]?=some v):Rv L0 ((L.set i v).set (L0.length - 1 - i) u) (i+1):=by
 obtain ⟨hl,hr⟩:=h
 have h1:=hr i (by omega)
 rw [if_neg (by omega),hu] at h1
 have h2:=hr (L0.length - 1 - i) (by omega)
 rw [if_neg (by omega),hv] at h2
 refine ⟨by simp [hl],fun k hk=>?_⟩
 rw [List.getElem?_set,List.length_set]
 by_cases hk1:L0.length - 1 - i=k
 ·rw [if_pos hk1,if_pos (by omega),if_pos (by omega),h1]
  congr 1
  omega
 ·rw [if_neg hk1,List.getElem?_set]
  by_cases hk2:i=k
  ·rw [if_pos hk2,if_pos (by omega),if_pos (by omega),h2]
   congr 1
   omega
  ·rw [if_neg hk2,hr k hk]
   by_cases hk3:k<i ∨ L0.length≤k+i
   ·rw [if_pos hk3,if_pos (by omega)]
   ·rw [if_neg hk3,if_neg (by omega)]
theorem Rv.stop {L0 L:List BindD} {i:Nat} (h:Rv L0 L i) (hi:¬ i<L0.length / 2) (hi2:i≤L0.length / 2):L=L0.reverse:=by
 obtain ⟨hl,hr⟩:=h
 apply List.ext_getElem?
 intro k
 by_cases hk:k<L0.length
 ·rw [hr k hk,List.getElem?_reverse hk]
  by_cases hk3:k<i ∨ L0.length≤k+i
  ·rw [if_pos hk3]
  ·rw [if_neg hk3]
   congr 1
   omega
 ·rw [List.getElem?_eq_none (by omega),List.getElem?_eq_none (by simp;omega)]
theorem hasN_iff {M:List BindD} {s:ByteArray}:hasN M s=true ↔ s ∈ M.map (·.name):=by
 rw [← hasN_in,inL_iff]
theorem levelOf_mem {l:List BindD} {b:BindD} (hn:(l.map (·.name)).Nodup) (hb:b ∈ l):levelOf l b.name=some b.level:=by
 induction l with
 | nil=>cases hb
 | cons c l ih=>
  rw [levelOf]
  rw [List.map_cons,List.nodup_cons] at hn
  rcases List.mem_cons.1 hb with rfl|hb
  ·rw [if_pos (by unfold isB;simp)]
  ·rw [if_neg ?_]
   ·exact ih hn.2 hb
   ·intro e
    have e:c.name=b.name:=Pre.ba_inj (by unfold isB at e;simpa using e)
    exact hn.1 (e ▸ List.mem_map.2 ⟨b,hb,rfl⟩)
theorem level_more {l m:List BindD} (hl:(l.map (·.name)).Nodup) (hm:(m.map (·.name)).Nodup) (hs:∀ b ∈ l,b ∈ m) {s:ByteArray} (h:s ∈ l.map (·.name)):levelOf m s=levelOf l s:=by
 obtain ⟨b,hb,rfl⟩:=List.mem_map.1 h
 rw [levelOf_mem hl hb,levelOf_mem hm (hs b hb)]
theorem levels_more {l m:List BindD}:∀ {ns:List ByteArray},(∀ s ∈ ns,levelOf m s=levelOf l s)→levelsOf m ns=levelsOf l ns
 | [],_=>rfl
 | s :: r,h=>by
  rw [levelsOf,levelsOf,h s (by simp),levels_more fun t ht=>h t (by simp [ht])]
def otC:ByteArray:=⟨#[111,116,104,101,114,95,99,104,97,110,110,101,108]⟩
def otS:ByteArray:=⟨#[111,116,104,101,114,95,115,105,116,101]⟩
theorem tok_otC:tokName otC=true:=by kernel_rfl
theorem tok_otS:tokName otS=true:=by kernel_rfl
def Added (n:Int) (s:ByteArray) (l pre:List BindD):Prop:=pre=[] ∨ (l.length<32∧hasN l s=false∧∃ x,0≤x∧x<n∧pre=[⟨s,x⟩])
theorem more_ok {P:ProgD} {R:PolD} (H:WfP P) (h:GivenQ P R) {pre post:List BindD} (hp:Added R.levels.length otC R.chans pre) (hq:Added R.levels.length otS R.sites post) {c s:List BindD} (hc:c=(pre ++ R.chans).reverse) (hs:s=R.sites ++ post) :
  polErr { R with chans:=c,sites:=s }=0∧(∀ t ∈ P.chans,levelOf c t=levelOf R.chans t)∧(∀ t ∈ sitesAllF P,levelOf s t=levelOf R.sites t):=by
 subst hc hs
 obtain ⟨h1,h2,h3,h4⟩:=h
 have hcn:(R.chans.map (·.name)).Nodup∧∀ s ∈ R.chans.map (·.name),named s=true:=by rw [h1];exact H.chn
 have hsn:(R.sites.map (·.name)).Nodup∧∀ s ∈ R.sites.map (·.name),named s=true:=by rw [h2];exact ⟨sites_nodupF _ _ List.nodup_nil,sites_named H⟩
 have hcl:R.chans.length≤32:=by rw [← List.length_map (·.name),h1];exact H.chl
 have hsl:R.sites.length≤32:=by rw [← List.length_map (·.name),h2];exact H.sites
 have n1:((pre ++ R.chans).map (·.name)).Nodup∧(pre ++ R.chans).length≤32∧∀ b ∈ pre ++ R.chans,tokName b.name=true∧0≤b.level∧b.level<R.levels.length:=by
  rcases hp with rfl|⟨g1,g2,x,g3,g4,rfl⟩
  ·exact ⟨hcn.1,hcl,fun b hb=>⟨named_tokR (hcn.2 _ (List.mem_map.2 ⟨b,hb,rfl⟩)),h3 b (List.mem_append_left _ hb)⟩⟩
  ·refine ⟨?_,by simp;omega,fun b hb=>?_⟩
   ·rw [List.map_append,List.map_singleton,List.singleton_append,List.nodup_cons]
    exact ⟨(fun e=>by rw [hasN_iff.2 e] at g2;cases g2),hcn.1⟩
   ·rcases List.mem_append.1 hb with hb|hb
    ·rw [List.mem_singleton] at hb;subst hb;exact ⟨tok_otC,g3,g4⟩
    ·exact ⟨named_tokR (hcn.2 _ (List.mem_map.2 ⟨b,hb,rfl⟩)),h3 b (List.mem_append_left _ hb)⟩
 have n2:((R.sites ++ post).map (·.name)).Nodup∧(R.sites ++ post).length≤32∧∀ b ∈ R.sites ++ post,tokName b.name=true∧0≤b.level∧b.level<R.levels.length:=by
  rcases hq with rfl|⟨g1,g2,x,g3,g4,rfl⟩
  ·rw [List.append_nil]
   exact ⟨hsn.1,hsl,fun b hb=>⟨named_tokR (hsn.2 _ (List.mem_map.2 ⟨b,hb,rfl⟩)),h3 b (List.mem_append_right _ hb)⟩⟩
  ·refine ⟨?_,by simp;omega,fun b hb=>?_⟩
   ·rw [List.map_append,List.map_singleton,List.nodup_append]
    refine ⟨hsn.1,by simp,fun a ha b hb e=>?_⟩
    rw [List.mem_singleton] at hb
    subst hb
    subst e
    rw [hasN_iff.2 ha] at g2
    cases g2
   ·rcases List.mem_append.1 hb with hb|hb
    ·exact ⟨named_tokR (hsn.2 _ (List.mem_map.2 ⟨b,hb,rfl⟩)),h3 b (List.mem_append_right _ hb)⟩
    ·rw [List.mem_singleton] at hb;subst hb;exact ⟨tok_otS,g3,g4⟩
 have n3:(((pre ++ R.chans).reverse).map (·.name)).Nodup:=by rw [List.map_reverse];exact List.pairwise_reverse.2 (n1.1.imp fun h e=>h e.symm)
 refine ⟨pol_ok h4 ?_ ?_,fun t ht=>level_more hcn.1 n3 (fun b hb=>by rw [List.mem_reverse];exact List.mem_append_right _ hb) (by rw [h1];exact ht),fun t ht=>level_more hsn.1 n2.1 (fun b hb=>List.mem_append_left _ hb) (by rw [h2];exact ht)⟩
 ·show bindsErr R.levels.length (pre ++ R.chans).reverse=0
  unfold bindsErr
  rw [if_neg (by rw [List.length_reverse];omega)]
  exact binds_ok _ [] (fun b hb=>n1.2.2 b (List.mem_reverse.1 hb)) (by rw [List.nil_append];exact n3)
 ·show bindsErr R.levels.length (R.sites ++ post)=0
  unfold bindsErr
  rw [if_neg (by omega)]
  exact binds_ok _ [] n2.2.2 (by rw [List.nil_append];exact n2.1)
theorem more_fits {P:ProgD} {R S:PolD} (hc:checkF P=none) (h:GivenQ P R) (hp:polErr S=0) (h1:∀ t ∈ P.chans,levelOf S.chans t=levelOf R.chans t) (h2:∀ t ∈ sitesAllF P,levelOf S.sites t=levelOf R.sites t):rulesC P S=((0,0),0):=by
 unfold rulesC fitF
 rw [hc,hp]
 have h3:P.chans.find? (noChan S)=none:=by
  rw [List.find?_eq_none]
  intro s hs hn
  have e:levelOf R.chans s=none:=by rw [← h1 s hs];unfold noChan at hn;simpa using hn
  rw [levelOf_none,h.1] at e
  exact e hs
 have h4:(allI P).find? (relB S)=none:=by
  rw [List.find?_eq_none]
  intro x hx hn
  unfold relB at hn
  rw [Bool.and_eq_true,beq_iff_eq] at hn
  have hm:x.name ∈ sitesAllF P:=sites_mem.2 ⟨x,hx,hn.1,rfl⟩
  have e:levelOf R.sites x.name=none:=by rw [← h2 _ hm];simpa using hn.2
  rw [levelOf_none,h.2.1] at e
  exact e hm
 simp only [h3,h4]
 rfl
theorem more_levels {P:ProgD} {R S:PolD} (hc:checkF P=none) (ho:flatOk (flatI P)=true) (h:GivenQ P R) (hp:polErr S=0) (h1:∀ t ∈ P.chans,levelOf S.chans t=levelOf R.chans t) (h2:∀ t ∈ sitesAllF P,levelOf S.sites t=levelOf R.sites t) :
  rulesErr (flatI P) R=0∧rulesErr (flatI P) S=0∧chansL (flatI P) S=chansL (flatI P) R∧sitesL (flatI P) S=sitesL (flatI P) R:=by
 refine ⟨by rw [fit_err hc ho,given_fits hc h],by rw [fit_err hc ho,more_fits hc h hp h1 h2],?_,?_⟩
 ·unfold chansL
  rw [show (flatI P).chans=P.chans from rfl,levels_more h1]
 ·unfold sitesL
  rw [show (flatI P).sites=sitesAllF P from rfl,levels_more h2]
end Go.Proofs.YtgllkgedjplpdaaDoor
