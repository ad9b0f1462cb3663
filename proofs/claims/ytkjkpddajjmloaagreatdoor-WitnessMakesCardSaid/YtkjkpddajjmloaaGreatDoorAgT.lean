/- Contracts of law34's Brief and fine, law33's Short, law31's Small: whether what comes in is small. Condition: what comes in reads as the plain data; the tables hold what they are laid with. -/
import Derived.Test.YtkjkpddajjmloaaGreatDoorAgY
import Derived.Test.YtkjkpddajjmloaaGreatDoorMRc
set_option linter.all false
set_option maxRecDepth 1000000
set_option maxHeartbeats 6400000
namespace Go.Proofs.YtkjkpddajjmloaaGreatDoor
open Go.ChangeShapes Go.WideShapes Go.ChangeAt Go.RowKit
open Go.Lib (hid)
theorem lgAgT {α:Type} {l:List α} {i:Nat} (h:i<l.length):l[i]?=some l[i]:=List.getElem?_eq_getElem h
def BriefP (q:PolD):Prop:=q.levels.length≤8∧q.order.length≤30∧q.chans.length≤40∧q.sites.length≤40∧(q.steps≤60 ∨ 65536<q.steps)
instance (q:PolD):Decidable (BriefP q):=by unfold BriefP;infer_instance
theorem brief_any (q:PolD) (cP:Array Value) (w:World) (hP:PolC w q cP) :
  Calls Tryz.prog 6 #[.agg cP] w fun e w'=>e=.returned (.bool (decide (BriefP q)))∧Below w.heap.size w w':=by
 obtain⟨lv,ov,cv,sv,rfl,hP⟩:=hP
 obtain⟨la,lc,rfl⟩:=hP.1.is
 obtain⟨oa,oc,rfl⟩:=hP.2.1.is
 obtain⟨ca,cc,rfl⟩:=hP.2.2.1.is
 obtain⟨sa,sc,rfl⟩:=hP.2.2.2.1.is
 obtain⟨V,hV⟩:∃ V,decide (BriefP q)=V:=⟨_,rfl⟩
 rw[hV]
 have HV:=hid hV
 clear hV
 have HB:=hid ((Below.refl w.heap.size w).alloc (Nat.le_refl _) (.cells #[.slice la q.levels.length lc,.slice oa q.order.length oc,.slice ca q.chans.length cc,.slice sa q.sites.length sc,.bool q.sens,.int .i64 q.steps,.int .i64 q.paths,.int .i64 q.nodes,.int .i64 q.confs] 30))
 have hg:=heap_alloc_new w (.cells #[.slice la q.levels.length lc,.slice oa q.order.length oc,.slice ca q.chans.length cc,.slice sa q.sites.length sc,.bool q.sens,.int .i64 q.steps,.int .i64 q.paths,.int .i64 q.nodes,.int .i64 q.confs] 30)
 have c0:=row_of hg 0 (.slice la q.levels.length lc) rfl
 have c1:=row_of hg 1 (.slice oa q.order.length oc) rfl
 have c2:=row_of hg 2 (.slice ca q.chans.length cc) rfl
 have c3:=row_of hg 3 (.slice sa q.sites.length sc) rfl
 have c5:=row_of hg 5 (.int .i64 q.steps) rfl
 clear hg hP
 go_enter Tryz.func6,Tryz.ntmps6
 go_upto_region 1 with fail
 generalize w.alloc (.cells #[.slice la q.levels.length lc,.slice oa q.order.length oc,.slice ca q.chans.length cc,.slice sa q.sites.length sc,.bool q.sens,.int .i64 q.steps,.int .i64 q.paths,.int .i64 q.nodes,.int .i64 q.confs] 30)=W at *
 by_cases r1:(q.levels.length:Int)≤8
 case neg=>
  obtain rfl:V=false:=by rw[← HV.out];exact decide_eq_false (fun hh=>by unfold BriefP at hh;omega)
  go_wp2_with fail
  go_ret
  exact⟨rfl,HB.out⟩
 by_cases r2:(q.order.length:Int)≤30
 case neg=>
  obtain rfl:V=false:=by rw[← HV.out];exact decide_eq_false (fun hh=>by unfold BriefP at hh;omega)
  go_wp2_with fail
  go_ret
  exact⟨rfl,HB.out⟩
 by_cases r3:(q.chans.length:Int)≤40
 case neg=>
  obtain rfl:V=false:=by rw[← HV.out];exact decide_eq_false (fun hh=>by unfold BriefP at hh;omega)
  go_wp2_with fail
  go_ret
  exact⟨rfl,HB.out⟩
 by_cases r4:(q.sites.length:Int)≤40
 case neg=>
  obtain rfl:V=false:=by rw[← HV.out];exact decide_eq_false (fun hh=>by unfold BriefP at hh;omega)
  go_wp2_with fail
  go_ret
  exact⟨rfl,HB.out⟩
 by_cases r5:q.steps≤60
 ·obtain rfl:V=true:=by rw[← HV.out];exact decide_eq_true (by unfold BriefP;omega)
  go_wp2_with fail
  go_ret
  exact⟨rfl,HB.out⟩
 by_cases r6:(65536:Int)<q.steps
 ·obtain rfl:V=true:=by rw[← HV.out];exact decide_eq_true (by unfold BriefP;omega)
  go_wp2_with fail
  go_ret
  exact⟨rfl,HB.out⟩
 ·obtain rfl:V=false:=by rw[← HV.out];exact decide_eq_false (fun hh=>by unfold BriefP at hh;omega)
  go_wp2_with fail
  go_ret
  exact⟨rfl,HB.out⟩
theorem lists_at {w:World} {a:Option Addr} {n c:Nat} {L:List (List Int)} (h:RdLists none w (.slice a n c) L):∀ i l,L[i]?=some l→∃ b o v,a=some ⟨b,o,none⟩∧w.cell? ⟨b,o+i,none⟩=some v∧RdRow kNum none w v l:=by
 obtain⟨a',c',e,_,hi⟩:=h
 simp only[Value.slice.injEq] at e
 obtain⟨rfl,-,rfl⟩:=e
 intro i l hl
 obtain⟨b,o,v,e1,_,e2,e3⟩:=hi i l hl
 exact⟨b,o,v,e1,e2,e3⟩
def shortP (A:List (List Int)):Prop:=A.length≤40∧∀ l∈A,l.length≤20
instance (A:List (List Int)):Decidable (shortP A):=by unfold shortP;infer_instance
theorem short_any (av:Value) (A:List (List Int)) (w:World) (hA:RdLists none w av A) :
  Calls Tryz.prog 8 #[av] w fun e w'=>e=.returned (.bool (decide (shortP A)))∧w=w':=by
 obtain⟨aa,ac,rfl⟩:=hA.is
 have HI:=hid (lists_at hA)
 clear hA
 obtain⟨V,hV⟩:∃ V,decide (shortP A)=V:=⟨_,rfl⟩
 rw[hV]
 have HV:=hid hV
 clear hV
 go_enter Tryz.func8,Tryz.ntmps8
 by_cases h40:(40:Int)<A.length
 ·obtain rfl:V=false:=by rw[← HV.out];exact decide_eq_false (fun hh=>by have:=hh.1;omega)
  go_wp2_with fail
  go_ret
  exact⟨rfl,rfl⟩
 go_wp2_with fail
 go_loopw [3] (fun i wr=>∃ k:Nat,k≤A.length∧i=.int .i64 k∧w=wr∧Hid (∀ l∈A.take k,l.length≤20)) (fun i _=>A.length-(intOf i).toNat)
 case atStart=>exact⟨0,Nat.zero_le _,rfl,rfl,fun l hl=>by simp at hl⟩
 case round=>
  obtain⟨k,hk,rfl,rfl,HQ⟩:=hrel
  by_cases hlt:k<A.length
  ·have hlt1:(k:Int)<A.length:=by omega
   obtain⟨l,hl⟩:∃ l,A[k]?=some l:=⟨_,lgAgT hlt⟩
   obtain⟨b,o,v,rfl,c0,hr⟩:=HI.out k l hl
   obtain⟨xa,xc,rfl⟩:=hr.is
   by_cases h20:(20:Int)<l.length
   ·obtain rfl:V=false:=by rw[← HV.out];exact decide_eq_false (fun hh=>by have:=hh.2 l (List.mem_of_getElem? hl);omega)
    clear hr hl
    go_wp2_with fail
    go_ret
    exact⟨rfl,rfl⟩
   ·have HQ2:Hid (∀ m∈A.take (k+1),m.length≤20):=by
     intro m hm
     rw[List.take_add_one,hl] at hm
     rcases List.mem_append.1 hm with h|h
     ·exact HQ.out m h
     ·simp at h;subst h;omega
    clear hr hl
    go_wp2_with fail
    go_roundw
    case rel=>exact⟨k+1,by omega,by go_num,trivial,HQ2⟩
    case measure=>simp[intOf];omega
  ·obtain rfl:k=A.length:=by omega
   obtain rfl:V=true:=by rw[← HV.out];exact decide_eq_true ⟨by omega,fun l hl=>HQ.out l (by rw[List.take_length];exact hl)⟩
   go_wp2_with fail
   go_ret
   exact⟨rfl,rfl⟩
def SmallP (f:FlatD):Prop:=flatE f=0∧f.width≤3∧f.regs≤8∧1≤f.chans.length∧f.chans.length≤4∧f.arrays.length≤4∧f.code.length≤30∧∀ n∈f.arrays,n≤8
instance (f:FlatD):Decidable (SmallP f):=by unfold SmallP;infer_instance
def RdRuns (w:World) (v:Value) (Ls:List (List (List Int))):Prop:=∃ b o c,v=.slice (some ⟨b,o,none⟩) Ls.length c∧∀ i A,Ls[i]?=some A→∃ iv,w.cell? ⟨b,o+i,none⟩=some iv∧RdLists none w iv A
theorem RdRuns.keep {w w':World} {v:Value} {Ls:List (List (List Int))} (h:RdRuns w v Ls) (k:Below w.heap.size w w'):RdRuns w' v Ls:=by
 obtain⟨b,o,c,e,hi⟩:=h
 exact⟨b,o,c,e,fun i A hA=>by obtain⟨iv,h1,h2⟩:=hi i A hA;exact⟨iv,cell_keep k h1,h2.keep k⟩⟩
theorem runs_two {w:World} {g:Nat} {u v:Value} {A B:List (List Int)} (h:w.heap[g]?=some (.cells #[u,v] 35 (0,0))) (ha:RdLists none w u A) (hb:RdLists none w v B):RdRuns w (.slice (some ⟨g,0,none⟩) 2 2) [A,B]:=by
 refine⟨_,0,2,rfl,fun i X hX=>?_⟩
 match i,hX with
 | 0,hX=>simp only[List.getElem?_cons_zero,Option.some.injEq] at hX;subst hX;exact⟨_,row_of h 0 _ rfl,ha⟩
 | 1,hX=>simp only[List.getElem?_cons_zero,List.getElem?_cons_succ,Option.some.injEq] at hX;subst hX;exact⟨_,row_of h 1 _ rfl,hb⟩
 | i+2,hX=>simp at hX
theorem short_fits {A:List (List Int)} (h:shortP A):∀ l∈A,l.length≤1000000:=fun l hl=>by have:=h.2 l hl;omega
end Go.Proofs.YtkjkpddajjmloaaGreatDoor
