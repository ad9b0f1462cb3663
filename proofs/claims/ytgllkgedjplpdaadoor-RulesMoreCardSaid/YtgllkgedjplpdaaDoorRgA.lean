/- The policy that law29.Given makes, as it grows in memory; the closure that draws its levels. Condition: what comes in reads as the plain data. -/
import Derived.Test.YtgllkgedjplpdaaDoorRuE
import Derived.Test.YtgllkgedjplpdaaDoorRuP
import Derived.Test.YtgllkgedjplpdaaDoorFlG
set_option linter.all false
set_option maxRecDepth 1000000
set_option maxHeartbeats 12800000
set_option linter.unusedVariables false
set_option linter.unusedSimpArgs false
namespace Go.Proofs.YtgllkgedjplpdaaDoor
open Go.ChangeShapes Go.WideShapes Go.ChangeAt Go.RowKit
def modF (n m:Int):Int:=(n.tmod m+m).tmod m
theorem mod29 (n m:Int) (hn:InI64 n) (hm:1≤m∧m≤1000) (w:World):Calls Tryd.prog 21 #[.int .i64 n,.int .i64 m] w fun e w'=>e=.returned (.int .i64 (modF n m))∧Below w.heap.size w w':=by
 obtain ⟨hm1,hm2⟩:=hm
 unfold InI64 at hn
 have h1:¬ m<1:=by omega
 have h0:¬ m=0:=by omega
 have hb1:-m<n.tmod m:=by
  have:=Int.tmod_lt_of_pos (-n) (show 0<m by omega)
  rw [Int.neg_tmod] at this
  omega
 have hb2:n.tmod m<m:=Int.tmod_lt_of_pos n (by omega)
 have hv:modF n m=(n.tmod m+m) % m:=by unfold modF;rw [Int.tmod_eq_emod_of_nonneg (by omega)]
 rw [hv]
 clear hv
 go_enter Tryd.func21,Tryd.ntmps21
 go_wp2_with fail
 go_ret
 exact ⟨rfl,Below.refl _ _⟩
theorem modF_in (n m:Int) (hm:1≤m):0≤modF n m∧modF n m<m:=by
 have hb1:-m<n.tmod m:=by
  have:=Int.tmod_lt_of_pos (-n) (show 0<m by omega)
  rw [Int.neg_tmod] at this
  omega
 unfold modF
 rw [Int.tmod_eq_emod_of_nonneg (by omega)]
 exact ⟨Int.emod_nonneg _ (by omega),Int.emod_lt_of_pos _ (by omega)⟩
def GivenQ (P:ProgD) (R:PolD):Prop:=
 R.chans.map (·.name)=P.chans∧R.sites.map (·.name)=sitesAllF P∧(∀ b ∈ R.chans ++ R.sites,0≤b.level∧b.level<R.levels.length)∧polErr { R with chans:=[],sites:=[] }=0
theorem polErr_levels {q:PolD} (h:polErr q=0):1≤q.levels.length∧q.levels.length≤32:=by
 unfold polErr at h
 split at h
 ·cases h
 ·split at h
  ·cases h
  ·omega
theorem polErr_bare {q:PolD} (h:polErr q=0):polErr { q with chans:=[],sites:=[] }=0:=by
 unfold polErr at h ⊢
 split at h
 ·cases h
 ·rename_i h1
  split at h
  ·cases h
  ·rename_i h2
   split at h
   ·rename_i h3;exact absurd h h3
   ·rename_i h3
    split at h
    ·rename_i h4;exact absurd h h4
    ·rename_i h4
     split at h
     ·rename_i h5;exact absurd h h5
     ·split at h
      ·rename_i h6;exact absurd h h6
      ·rw [if_neg h1,if_neg h2,if_neg h3,if_neg h4]
       have e0:bindsErr (q.levels.length:Int) []=0:=rfl
       show (if bindsErr (q.levels.length:Int) [] ≠ 0 then _ else if bindsErr (q.levels.length:Int) [] ≠ 0 then _ else limErr q)=0
       rw [e0]
       simpa using h
theorem p1_fits:polErr p1P=0:=by kernel_rfl
structure Gv where
 w0:World
 n0:Nat
 P:ProgD
 a1:Option Addr
 k1:Nat
 a2:Option Addr
 k2:Nat
 a3:Option Addr
 k3:Nat
 a4:Option Addr
 k4:Nat
 B:PolD
 la:Option Addr
 lc:Nat
 oa:Option Addr
 oc:Nat
 dl:List Int
 da:Option Addr
 dc:Nat
 kb:Nat
namespace Gv
abbrev pc (g:Gv):Array Value:=#[.int .i64 g.P.width,.slice g.a1 g.P.chans.length g.k1,.slice g.a2 g.P.arrays.length g.k2,.slice g.a3 g.P.funcs.length g.k3,.slice g.a4 g.P.main.length g.k4]
abbrev qc (g:Gv) (cv sv:Value):Array Value:=#[.slice g.la g.B.levels.length g.lc,.slice g.oa g.B.order.length g.oc,cv,sv,.bool g.B.sens,.int .i64 g.B.steps,.int .i64 g.B.paths,.int .i64 g.B.nodes,.int .i64 g.B.confs]
abbrev polZ:Array Value:=#[.slice none 0 0,.slice none 0 0,.slice none 0 0,.slice none 0 0,.bool false,.int .i64 0,.int .i64 0,.int .i64 0,.int .i64 0]
def lo (g:Gv):Nat→Prop:=fun b=>g.n0+4≤b∧b<g.kb
structure At (g:Gv) (n:Nat) (cv sv:Value) (L M:List BindD) (w:World):Prop where
 h0:g.w0.heap.size=g.n0
 below:Below g.n0 g.w0 w
 hp:w.heap[g.n0]?=some (.cells g.pc 43 (0,0))
 hq:w.heap[g.n0+1]?=some (.cells (g.qc cv sv) 30 (0,0))
 hd:w.heap[g.n0+2]?=some (.cells #[.slice g.da g.dl.length g.dc] 23 (0,0))
 hr:w.heap[g.n0+3]?=some (.cells polZ 30 (0,0))
 hk:w.heap[g.kb]?=some (.cells #[.int .i64 n] 3 (0,0))
 hkb:g.n0+4≤g.kb
 rl:RdRow kStr (some g.lo) w (.slice g.la g.B.levels.length g.lc) g.B.levels
 ro:RdRow kPair (some g.lo) w (.slice g.oa g.B.order.length g.oc) g.B.order
 own1:w.ownsRow (g.kb+1) 58 2 cv L.length (L.flatMap cellsBind)
 own2:w.ownsRow (g.kb+1) 58 2 sv M.length (M.flatMap cellsBind)
 c1:g.kb+1≤w.heap.size
 ap:∀ i,cv.ownBlock=some i→sv.ownBlock ≠ some i
 ok:∀ b ∈ L ++ M,b.name.size≤maxLen∧0≤b.level∧b.level<g.B.levels.length
variable {g:Gv} {n:Nat} {cv sv:Value} {L M:List BindD} {x y z:World}
theorem At.go (h:g.At n cv sv L M x) {n':Nat} {cv' sv':Value} {L' M':List BindD} (hs:x.heap.size≤z.heap.size) (hb:Below g.n0 x z) (hT:∀ b,b<g.kb→b ≠ g.n0+1→z.heap[b]?=x.heap[b]?)
  (hk:z.heap[g.kb]?=some (.cells #[.int .i64 n'] 3 (0,0))) (hq:z.heap[g.n0+1]?=some (.cells (g.qc cv' sv') 30 (0,0)))
  (o1:z.ownsRow (g.kb+1) 58 2 cv' L'.length (L'.flatMap cellsBind)) (o2:z.ownsRow (g.kb+1) 58 2 sv' M'.length (M'.flatMap cellsBind))
  (ap:∀ i,cv'.ownBlock=some i→sv'.ownBlock ≠ some i) (ok:∀ b ∈ L' ++ M',b.name.size≤maxLen∧0≤b.level∧b.level<g.B.levels.length):g.At n' cv' sv' L' M' z:=by
 have hkb:=h.hkb
 have hc:=h.c1
 exact ⟨h.h0,h.below.trans hb,(hT _ (by omega) (by omega)).trans h.hp,hq,(hT _ (by omega) (by omega)).trans h.hd,(hT _ (by omega) (by omega)).trans h.hr,hk,hkb,
  h.rl.same (fun b hg _=>hT b hg.2 (by have:=hg.1;omega)) (fun _ _ k=>k),h.ro.same (fun b hg _=>hT b hg.2 (by have:=hg.1;omega)) (fun _ _ k=>k),o1,o2,by omega,ap,ok⟩
theorem At.below0 (h:g.At n cv sv L M x):Below g.w0.heap.size g.w0 x:=by rw [h.h0];exact h.below
theorem At.keep (h:g.At n cv sv L M x) (k:Below x.heap.size x y):g.At n cv sv L M y:=by
 have hkb:=h.hkb
 have hc:=h.c1
 exact h.go k.size ((Turned.of_below (S:=fun _=>False) k).below _ (by omega) (fun _ e=>e.elim)) (fun b hb _=>k.block b (by omega)) ((k.block _ (by omega)).trans h.hk) ((k.block _ (by omega)).trans h.hq) (own_below h.own1 k) (own_below h.own2 k) h.ap h.ok
theorem At.called (h:g.At n cv sv L M x) (k:Turned (fun b=>b=g.kb) x y) {m:Nat} (hk:y.heap[g.kb]?=some (.cells #[.int .i64 m] 3 (0,0))):g.At m cv sv L M y:=by
 have hkb:=h.hkb
 have hc:=h.c1
 refine h.go k.size (k.below _ (by omega) (fun i e=>by have e:i=g.kb:=e;omega)) (fun b hb _=>k.block b (by omega) (fun e=>by have e:b=g.kb:=e;omega)) hk ((k.block _ (by omega) (fun e=>by have e:g.n0+1=g.kb:=e;omega)).trans h.hq) (own_turn h.own1 k fun i hi e=>?_) (own_turn h.own2 k fun i hi e=>?_) h.ap h.ok
 ·have e:i=g.kb:=e
  have:=(own_is h.own1 hi).1
  omega
 ·have e:i=g.kb:=e
  have:=(own_is h.own2 hi).1
  omega
theorem At.push1 {a:Option Addr} {k:Nat} {xa:Option Addr} {xc:Nat} (b:BindD) (hb:b.name.size≤maxLen∧0≤b.level∧b.level<g.B.levels.length) (h:g.At n (.slice a L.length k) sv L M x)
  (hT:Turned (fun j=>(Value.slice a L.length k).ownBlock=some j) x y) (hown:y.ownsRow (g.kb+1) 58 2 (.slice xa (L.length+1) xc) (L.length+1) (L.flatMap cellsBind ++ cellsBind b))
  (hblk:(Value.slice xa (L.length+1) xc).ownBlock=(Value.slice a L.length k).ownBlock ∨ (Value.slice xa (L.length+1) xc).ownBlock=some x.heap.size) :
  g.At n (.slice xa (L.length+1) xc) sv (L ++ [b]) M (y.setCell ⟨g.n0+1,2,none⟩ (.slice xa (L.length+1) xc)):=by
 have hkb:=h.hkb
 have hc:=h.c1
 have hsc:=setCell_turned y ⟨g.n0+1,2,none⟩ (.slice xa (L.length+1) xc)
 have hlow:∀ i,(Value.slice a L.length k).ownBlock=some i→g.kb+1≤i:=fun i hi=>(own_is h.own1 hi).1
 have hq1:y.heap[g.n0+1]?=some (.cells (g.qc (.slice a L.length k) sv) 30 (0,0)):=(hT.block _ (by omega) (fun e=>by have:=hlow _ e;omega)).trans h.hq
 have hoth:∀ j,sv.ownBlock=some j→(Value.slice xa (L.length+1) xc).ownBlock ≠ some j:=by
  intro j hj e
  rcases hblk with e1|e1
  ·rw [e1] at e
   exact h.ap j e hj
  ·rw [e1] at e
   simp only [Option.some.injEq] at e
   obtain ⟨_,cur,hcur⟩:=(own_is h.own2 hj)
   have:=(Array.getElem?_eq_some_iff.1 hcur).1
   omega
 have ho2:(y.setCell ⟨g.n0+1,2,none⟩ (.slice xa (L.length+1) xc)).ownsRow (g.kb+1) 58 2 sv M.length (M.flatMap cellsBind):=by
  refine own_turn (own_turn h.own2 hT fun j hj e=>?_) hsc fun j hj e=>?_
  ·exact h.ap j e hj
  ·have e:j=g.n0+1:=e
   have:=(own_is h.own2 hj).1
   omega
 have ho1:(y.setCell ⟨g.n0+1,2,none⟩ (.slice xa (L.length+1) xc)).ownsRow (g.kb+1) 58 2 (.slice xa (L.length+1) xc) (L ++ [b]).length ((L ++ [b]).flatMap cellsBind):=by
  have h1:=own_turn hown hsc (fun j hj e=>by
   have e:j=g.n0+1:=e
   have:=(own_is hown hj).1
   omega)
  rw [List.flatMap_append,List.length_append,List.length_singleton]
  simpa using h1
 refine h.go (Nat.le_trans hT.size hsc.size) (below_then (hT.below _ (by omega) (fun i e=>by have:=hlow i e;omega)) hsc (by have:=hT.size;omega) (fun i e=>by have e:i=g.n0+1:=e;omega))
  (fun i hi hn=>(hsc.block i (by have:=hT.size;omega) (fun e=>hn e)).trans (hT.block i (by omega) (fun e=>by have:=hlow i e;omega))) ((hsc.block _ (by have:=hT.size;omega) (fun e=>by have e:g.kb=g.n0+1:=e;omega)).trans ((hT.block _ (by omega) (fun e=>by have:=hlow _ e;omega)).trans h.hk))
  ?_ ho1 ho2 (fun i hi e=>hoth i e hi) ?_
 ·rw [heap_setCell_same _ _ _ _ _ _ hq1]
  rfl
 ·intro t ht
  rcases List.mem_append.1 ht with ht|ht
  ·rcases List.mem_append.1 ht with ht|ht
   ·exact h.ok t (List.mem_append_left _ ht)
   ·rw [List.mem_singleton] at ht;subst ht;exact hb
  ·exact h.ok t (List.mem_append_right _ ht)
theorem At.push2 {a:Option Addr} {k:Nat} {xa:Option Addr} {xc:Nat} (b:BindD) (hb:b.name.size≤maxLen∧0≤b.level∧b.level<g.B.levels.length) (h:g.At n cv (.slice a M.length k) L M x)
  (hT:Turned (fun j=>(Value.slice a M.length k).ownBlock=some j) x y) (hown:y.ownsRow (g.kb+1) 58 2 (.slice xa (M.length+1) xc) (M.length+1) (M.flatMap cellsBind ++ cellsBind b))
  (hblk:(Value.slice xa (M.length+1) xc).ownBlock=(Value.slice a M.length k).ownBlock ∨ (Value.slice xa (M.length+1) xc).ownBlock=some x.heap.size) :
  g.At n cv (.slice xa (M.length+1) xc) L (M ++ [b]) (y.setCell ⟨g.n0+1,3,none⟩ (.slice xa (M.length+1) xc)):=by
 have hkb:=h.hkb
 have hc:=h.c1
 have hsc:=setCell_turned y ⟨g.n0+1,3,none⟩ (.slice xa (M.length+1) xc)
 have hlow:∀ i,(Value.slice a M.length k).ownBlock=some i→g.kb+1≤i:=fun i hi=>(own_is h.own2 hi).1
 have hq1:y.heap[g.n0+1]?=some (.cells (g.qc cv (.slice a M.length k)) 30 (0,0)):=(hT.block _ (by omega) (fun e=>by have:=hlow _ e;omega)).trans h.hq
 have hoth:∀ j,cv.ownBlock=some j→(Value.slice xa (M.length+1) xc).ownBlock ≠ some j:=by
  intro j hj e
  rcases hblk with e1|e1
  ·rw [e1] at e
   exact h.ap j hj e
  ·rw [e1] at e
   simp only [Option.some.injEq] at e
   obtain ⟨_,cur,hcur⟩:=(own_is h.own1 hj)
   have:=(Array.getElem?_eq_some_iff.1 hcur).1
   omega
 have ho2:(y.setCell ⟨g.n0+1,3,none⟩ (.slice xa (M.length+1) xc)).ownsRow (g.kb+1) 58 2 cv L.length (L.flatMap cellsBind):=by
  refine own_turn (own_turn h.own1 hT fun j hj e=>?_) hsc fun j hj e=>?_
  ·exact h.ap j hj e
  ·have e:j=g.n0+1:=e
   have:=(own_is h.own1 hj).1
   omega
 have ho1:(y.setCell ⟨g.n0+1,3,none⟩ (.slice xa (M.length+1) xc)).ownsRow (g.kb+1) 58 2 (.slice xa (M.length+1) xc) (M ++ [b]).length ((M ++ [b]).flatMap cellsBind):=by
  have h1:=own_turn hown hsc (fun j hj e=>by
   have e:j=g.n0+1:=e
   have:=(own_is hown hj).1
   omega)
  rw [List.flatMap_append,List.length_append,List.length_singleton]
  simpa using h1
 refine h.go (Nat.le_trans hT.size hsc.size) (below_then (hT.below _ (by omega) (fun i e=>by have:=hlow i e;omega)) hsc (by have:=hT.size;omega) (fun i e=>by have e:i=g.n0+1:=e;omega))
  (fun i hi hn=>(hsc.block i (by have:=hT.size;omega) (fun e=>hn e)).trans (hT.block i (by omega) (fun e=>by have:=hlow i e;omega))) ((hsc.block _ (by have:=hT.size;omega) (fun e=>by have e:g.kb=g.n0+1:=e;omega)).trans ((hT.block _ (by omega) (fun e=>by have:=hlow _ e;omega)).trans h.hk))
  ?_ ho2 ho1 (fun i hi e=>hoth i hi e) ?_
 ·rw [heap_setCell_same _ _ _ _ _ _ hq1]
  rfl
 ·intro t ht
  rcases List.mem_append.1 ht with ht|ht
  ·exact h.ok t (List.mem_append_left _ ht)
  ·rcases List.mem_append.1 ht with ht|ht
   ·exact h.ok t (List.mem_append_right _ ht)
   ·rw [List.mem_singleton] at ht;subst ht;exact hb
def lev (g:Gv) (k:Nat):Int:=if g.dl.length=0 then 0 else modF (g.dl.getD (k % g.dl.length) 0) g.B.levels.length
theorem lev_in (g:Gv) (k:Nat) (h:1≤g.B.levels.length):0≤g.lev k∧g.lev k<g.B.levels.length:=by
 unfold lev
 split
 ·omega
 ·exact modF_in _ _ (by omega)
end Gv
theorem next29 (g:Gv) (n:Nat) (cv sv:Value) (L M:List BindD) (w:World) (h:g.At n cv sv L M w) (hn:n≤1000000000) (hd:RdRow kInt none g.w0 (.slice g.da g.dl.length g.dc) g.dl) (hl:1≤g.B.levels.length∧g.B.levels.length≤32) :
  Calls Tryd.prog 49 #[.pointer (some ⟨g.kb,0,none⟩),.pointer (some ⟨g.n0+2,0,none⟩),.pointer (some ⟨g.n0+1,0,none⟩)] w fun e w'=>e=.returned (.int .i64 (g.lev (n+1)))∧Turned (fun b=>b=g.kb) w w'∧w'.heap[g.kb]?=some (.cells #[.int .i64 (n+1:Nat)] 3 (0,0)):=by
 have hsl:g.dl.length * 8≤140737488351232:=hd.size
 have hk0:=row_of h.hk 0 (.int .i64 n) rfl
 have hkf:=frozen_of_row w g.kb 0 _ _ h.hk
 have hT0:=setCell_turned w ⟨g.kb,0,none⟩ (.int .i64 ((n:Int)+1))
 have hkw:(w.setCell ⟨g.kb,0,none⟩ (.int .i64 ((n:Int)+1))).heap[g.kb]?=some (.cells #[.int .i64 (n+1:Nat)] 3 (0,0)):=by rw [heap_setCell_same _ _ _ _ _ _ h.hk];rfl
 have hA:=h.called (m:=n+1) hT0 hkw
 have HA:=Lib.hid hA
 have HT0:=Lib.hid hT0
 have HD:=Lib.hid hd
 have hin:=g.lev_in (n+1) hl.1
 obtain ⟨V,hV⟩:∃ V,g.lev (n+1)=V:=⟨_,rfl⟩
 rw [hV]
 have HV:=Lib.hid hV
 clear h hd hT0 hkw hA hV hin
 go_enter Tryd.func49,Tryd.ntmps49
 go_upto_region 2 with fail
 generalize w.setCell ⟨g.kb,0,none⟩ (.int .i64 ((n:Int)+1))=W at *
 clear hk0 hkf
 have d0:=row_of HA.out.hd 0 (.slice g.da g.dl.length g.dc) rfl
 by_cases h0:g.dl.length=0
 ·have h00:((g.dl.length:Int) == 0)=true:=by simp [h0]
  have h01:(g.dl.length:Int)=0:=by omega
  obtain rfl:V=0:=by rw [← HV.out];unfold Gv.lev;rw [if_pos h0]
  go_wp2_with fail
  go_ret
  exact ⟨rfl,HT0.out,HA.out.hk⟩
 have h00:((g.dl.length:Int) == 0)=false:=by simp [h0]
 have h01:¬ (g.dl.length:Int)=0:=by omega
 go_upto_region 4 with fail
 clear d0
 obtain ⟨k,hk⟩:∃ k,n+1=k:=⟨_,rfl⟩
 rw [hk] at HA HV
 have hnat:((k:Int)).tmod (g.dl.length:Int)=((k % g.dl.length:Nat):Int):=by rw [Int.tmod_eq_emod_of_nonneg (by omega)];rfl
 have hml:k % g.dl.length<g.dl.length:=Nat.mod_lt _ (by omega)
 obtain ⟨v,hv⟩:∃ v,g.dl[k % g.dl.length]?=some v:=⟨_,List.getElem?_eq_getElem hml⟩
 obtain ⟨b,o,hda,_,cx,hx⟩:=atInt (HD.out.keep HA.out.below0) hv
 have hVV:V=modF v g.B.levels.length:=by
  rw [← HV.out]
  unfold Gv.lev
  rw [if_neg h0,List.getD_eq_getElem?_getD,hv]
  rfl
 have HM:Hid (∀ z,Calls Tryd.prog 21 #[.int .i64 v,.int .i64 (g.B.levels.length:Int)] (ext W z) fun e w'=>e=.returned (.int .i64 V)∧Below (ext W z).heap.size (ext W z) w'):=fun z=>by
  rw [hVV]
  exact mod29 v _ hx (by omega) _
 have e0:=ext_cell (row_of HA.out.hk 0 (.int .i64 k) rfl)
 have e1:=ext_cell (row_of HA.out.hd 0 (.slice g.da g.dl.length g.dc) rfl)
 have e2:=ext_cell (row_of HA.out.hq 0 (.slice g.la g.B.levels.length g.lc) rfl)
 have e3:=ext_cell cx
 rw [hda] at e1
 obtain ⟨I,hI⟩:∃ I:Int,(k:Int).tmod (g.dl.length:Int)=I:=⟨_,rfl⟩
 have hI0:0≤I:=by rw [← hI,hnat];omega
 have hI1:I<(g.dl.length:Int):=by rw [← hI,hnat];omega
 have hI2:I.toNat=k % g.dl.length:=by rw [← hI,hnat];omega
 rw [← hI2] at e3
 clear hnat hml hv hda cx hVV hI2 HV HD
 (refine wp_region_calm (by kernel_rfl) (by kernel_rfl) ?_; (repeat (go_big_quiet_step ((go_at_call 21;exact calls_calm (HM.out _))))); refine wpQuiet_nil ?_; intro wc hwc)
 clear e0 e1 e2 e3 HM
 have HWC:=Lib.hid hwc
 have HA2:=Lib.hid (HA.out.keep hwc)
 clear hwc
 go_wp2_with fail
 go_ret
 exact ⟨rfl,HT0.out.trans (Turned.of_below HWC.out),by first|exact HA2.out.hk|(have h9:=HA2.out.hk;rw [← hk] at h9;exact h9)⟩
theorem row_newR {α:Type} (K:Kind α) {w:World} {g m:Nat} {l:List α} (hm:m≤g) (h:w.heap[g]?=some (.cells (l.flatMap K.cells).toArray K.T (0,0))) (hl:l.length * K.bytes≤140737488351232) (hn:l.length≤1000000) (hs:∀ s ∈ l,K.ok s):RdRow K (some (upFrom m)) w (.slice (some ⟨g,0,none⟩) l.length l.length) l:=
 own_rows (base:=m) (own_whole h (by rw [flat_length K.cells K.sz K.len]) hm (by unfold maxLen;omega)) hl hs
theorem p1_new (w:World):Calls Tryd.prog 34 #[] w (PolNew p1P w):=by
 go_enter Tryd.func34,Tryd.ntmps34
 go_wp2_with fail
 obtain ⟨x1,x2,x3,x4,x5⟩:=heap4_ofU w (.cells #[.slice (some ⟨w.heap.size+1,0,none⟩) 2 2,.slice (some ⟨w.heap.size+1+1,0,none⟩) 1 1,.slice (some ⟨w.heap.size+1+1+1,0,none⟩) 2 2,.slice none 0 0,.bool true,.int .i64 20,.int .i64 16,.int .i64 0,.int .i64 0] 30 (0,0)) (.cells #[.string low29,.string high29] 9 (0,0)) (.cells #[.int .i64 0,.int .i64 1] 132 (0,0)) (.cells #[.string pub29,.int .i64 0,.string sec29,.int .i64 1] 58 (0,0))
 refine bodyPost_ret (v:=polV p1P (.slice (some ⟨w.heap.size+1,0,none⟩) 2 2) (.slice (some ⟨w.heap.size+1+1,0,none⟩) 1 1) (.slice (some ⟨w.heap.size+1+1+1,0,none⟩) 2 2) (.slice none 0 0)) (results_cell_row (P:=Tryd.prog) (fn:=Tryd.f34) rfl _ _ w.heap.size 30 _ (0,0) _ rfl x1 Tryd.underlying30 rfl (by kernel_rfl)) rfl ⟨_,_,_,_,rfl,?_,x5⟩
 refine ⟨row_newR kStr (l:=[low29,high29]) (by omega) x2 (by decide) (by decide) ?_,row_newR kPair (l:=[(0,1)]) (by omega) x3 (by decide) (by decide) ?_,row_newR kBind (l:=[⟨pub29,0⟩,⟨sec29,1⟩]) (by omega) x4 (by decide) (by decide) ?_,nilRow _ _ _,⟨by decide,by decide⟩,⟨by decide,by decide⟩,⟨by decide,by decide⟩,⟨by decide,by decide⟩⟩
 ·intro s hs;simp only [List.mem_cons,List.not_mem_nil,or_false] at hs;rcases hs with rfl|rfl <;> decide
 ·intro s hs;simp only [List.mem_cons,List.not_mem_nil,or_false] at hs;subst hs;exact ⟨⟨by decide,by decide⟩,⟨by decide,by decide⟩⟩
 ·intro s hs;simp only [List.mem_cons,List.not_mem_nil,or_false] at hs;rcases hs with rfl|rfl <;> exact ⟨by decide,⟨by decide,by decide⟩⟩
end Go.Proofs.YtgllkgedjplpdaaDoor
