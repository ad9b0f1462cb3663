/- Contracts of op.arities and op.names: called in whatever memory they return the table of arities and the table of names, and write nothing that was there. Conditions: an operator is a number from 0 to 255. -/
import Derived.Test.YtgllkgedjplpdaaGreatDoorSh
import Derived.Test.YtgllkgedjplpdaaGreatDoorProg
import Derived.WalkKit
import Derived.ProofKit
import Derived.OpenShut
import Derived.WalkSpells
import Derived.WalkLawsBesides
import Derived.Lib.Hide
import Derived.Lib.OthersKept
set_option linter.all false
set_option maxRecDepth 1000000
set_option maxHeartbeats 12800000
namespace Go.Proofs.YtgllkgedjplpdaaGreatDoor
open Go.ChangeShapes Go.WideShapes Go.ChangeAt Go.RowKit
theorem row_of' {w:World} {g:Nat} {t:TypeId} {cs:Array Value} (hg:w.heap[g]?=some (.cells cs t (0,0))) (j:Nat) (v:Value) (h:cs[j]?=some v):w.cell? ⟨g,j,none⟩=some v:=by
 rw [cell_of_row w g j cs t (0,0) hg,h]
theorem below_setRow {B:Nat} {a w:World} (h:Below B a w) {g:Nat} (hg:B<=g) (cs:Array Value):Below B a (w.setRow g cs):=
 h.trans ⟨rfl,rfl,rfl,by simp,fun k hk=>setRow_other _ _ _ _ (by omega)⟩
theorem heap3_2 (w:World) (A B C:Obj):(((w.alloc A).alloc B).alloc C).heap[w.heap.size+1+1]?=some C:=by
 have e:((w.alloc A).alloc B).heap.size=w.heap.size+1+1:=by
  show ((w.heap.push A).push B).size=_
  simp
 rw [<- e];exact heap_alloc_new _ _
theorem heap3_1 (w:World) (A B C:Obj):(((w.alloc A).alloc B).alloc C).heap[w.heap.size+1]?=some B:=by
 rw [heap_alloc_old _ _ (by show _<((w.heap.push A).push B).size;simp)];exact heap_alloc2_new _ _ _
theorem heap3_0 (w:World) (A B C:Obj):(((w.alloc A).alloc B).alloc C).heap[w.heap.size]?=some A:=by
 rw [heap_alloc_old _ _ (by show _<((w.heap.push A).push B).size;simp;omega)];exact heap_alloc2_old _ _ _
def arr (k:Nat):Array Value:=(List.replicate k (Value.int .u8 2) ++ List.replicate (22-k) (Value.int .u8 0)).toArray
theorem arr_size (k:Nat) (h:k<=22):(arr k).size=22:=by simp [arr];omega
theorem arr_get (k:Nat) (h:k<22):(arr k)[k]?=some (.int .u8 0):=by
 unfold arr;simp [List.getElem?_append_right,List.getElem?_replicate];omega
theorem arr_succ (k:Nat) (h:k<22):(arr k).setIfInBounds k (.int .u8 2)=arr (k+1):=by
 have:k<22:=h
 unfold arr
 rw [List.setIfInBounds_toArray]
 congr 1
 apply List.ext_getElem?
 intro i
 simp only [List.getElem?_set,List.getElem?_append,List.length_replicate,List.getElem?_replicate,List.length_append]
 grind
def arity:Array Value:=#[0,0,1,1,2,2,2,2,2,2,2,2,2,2,2,2,2,2,2,2,2,3].map (Value.int .u8)
theorem arity_eq:((((((arr 22).setIfInBounds 0 (.int .u8 0)).setIfInBounds 1 (.int .u8 0)).setIfInBounds 2 (.int .u8 1)).setIfInBounds 3 (.int .u8 1)).setIfInBounds 21 (.int .u8 3))=arity:=by kernel_rfl
theorem arities (w:World) :
  Calls Tryz.prog 133 #[] w fun e w'=>e=.returned (.agg arity)/\Below w.heap.size w w':=by
 have hz:(arr 0)=#[Value.int IntKind.u8 0,Value.int IntKind.u8 0,Value.int IntKind.u8 0,Value.int IntKind.u8 0,Value.int IntKind.u8 0,Value.int IntKind.u8 0,Value.int IntKind.u8 0,Value.int IntKind.u8 0,Value.int IntKind.u8 0,Value.int IntKind.u8 0,Value.int IntKind.u8 0,Value.int IntKind.u8 0,Value.int IntKind.u8 0,Value.int IntKind.u8 0,Value.int IntKind.u8 0,Value.int IntKind.u8 0,Value.int IntKind.u8 0,Value.int IntKind.u8 0,Value.int IntKind.u8 0,Value.int IntKind.u8 0,Value.int IntKind.u8 0,Value.int IntKind.u8 0]:=rfl
 have Hz:=Hd hz;clear hz
 go_enter Tryz.func133,Tryz.ntmps133
 go_wp2
 go_loopw [2,3] (fun _ i wr=>∃ k:Nat,k<=22/\i=.int .i64 k/\wr.heap[w.heap.size]?=some (.cells (arr 0) 206 (0,0))/\wr.heap[w.heap.size+1]?=some (.cells (arr k) 206 (0,0))/\Below w.heap.size w wr) (fun _ i _=>22 - (intOf i).toNat)
 case atStart=>exact ⟨0,by omega,rfl,by rw [Hz.out];exact heap_alloc2_old _ _ _,by rw [Hz.out];exact heap_alloc2_new _ _ _,((bR _ _).alloc (nR _) _).alloc (by simp) _⟩
 case round=>
  obtain ⟨k,hk,rfl,h0,h1,hb⟩:=hrel
  have hsz:=arr_size k (by omega)
  by_cases hlt:k<22
  ·have hg:=row_of' h1 k _ (arr_get k hlt)
   have hf:=frozen_of_row wr _ k _ _ h1
   go_wp2
   go_roundw
   case rel=>exact ⟨k+1,by omega,by go_num,by rw [heap_setCell_other _ _ _ _ (by simp)];exact h0,by rw [heap_setCell_same _ _ _ _ _ _ h1,arr_succ k hlt],hb.setCell (by simp) _⟩
   case measure=>simp [intOf];omega
  ·obtain rfl:k=22:=by omega
   have c0:=row_of' h1 0 (.int .u8 2) (by kernel_rfl)
   have c1:=row_of' h1 1 (.int .u8 2) (by kernel_rfl)
   have c2:=row_of' h1 2 (.int .u8 2) (by kernel_rfl)
   have c3:=row_of' h1 3 (.int .u8 2) (by kernel_rfl)
   have c21:=row_of' h1 21 (.int .u8 2) (by kernel_rfl)
   have f0:=frozen_of_row wr _ 0 _ _ h1
   have f1:=frozen_of_row wr _ 1 _ _ h1
   have f2:=frozen_of_row wr _ 2 _ _ h1
   have f3:=frozen_of_row wr _ 3 _ _ h1
   have f21:=frozen_of_row wr _ 21 _ _ h1
   have hrow:(((((wr.setCell { block:=w.heap.size+1,off:=0 } (Value.int IntKind.u8 0)).setCell { block:=w.heap.size+1,off:=1 } (Value.int IntKind.u8 0)).setCell { block:=w.heap.size+1,off:=2 } (Value.int IntKind.u8 1)).setCell { block:=w.heap.size+1,off:=3 } (Value.int IntKind.u8 1)).setCell { block:=w.heap.size+1,off:=21 } (Value.int IntKind.u8 3)).heap[w.heap.size+1]?=some (Obj.cells arity 206):=by
    rw [<- arity_eq]
    exact heap_setCell_same _ _ _ _ _ _ (heap_setCell_same _ _ _ _ _ _ (heap_setCell_same _ _ _ _ _ _ (heap_setCell_same _ _ _ _ _ _ (heap_setCell_same _ _ _ _ _ _ h1))))
   have hold:(((((wr.setCell { block:=w.heap.size+1,off:=0 } (Value.int IntKind.u8 0)).setCell { block:=w.heap.size+1,off:=1 } (Value.int IntKind.u8 0)).setCell { block:=w.heap.size+1,off:=2 } (Value.int IntKind.u8 1)).setCell { block:=w.heap.size+1,off:=3 } (Value.int IntKind.u8 1)).setCell { block:=w.heap.size+1,off:=21 } (Value.int IntKind.u8 3)).heap[w.heap.size]?=some (Obj.cells (arr 0) 206):=by
    repeat rw [heap_setCell_other _ _ _ _ (by simp)]
    exact h0
   have H0:=Hd hold
   have H1:=Hd hrow
   clear h0 h1 hold hrow hsz hlt hk
   go_wp2_with (first|(refine wpList_load_row rfl 206 (.tmp 1) rfl (w.heap.size+1) rfl 206 arity (0,0) _ ?h Tryz.underlying206 rfl (by as_aux_lemma=>kernel_rfl) ?_;exact H1.out)|(refine wpList_store_row rfl 206 (.tmp 0) (.tmp 14) rfl w.heap.size arity rfl rfl 206 (arr 0) ?h2 (by as_aux_lemma=>kernel_rfl) (by as_aux_lemma=>kernel_rfl) (by as_aux_lemma=>kernel_rfl) ?_;exact H0.out))
   refine bodyPost_ret (v:=.agg arity) ?_ rfl ⟨rfl,?_⟩
   ·exact results_cell_row (P:=Tryz.prog) (fn:=Tryz.f133) rfl _ _ w.heap.size 206 arity (0,0) _ rfl (setRow_heap _ _ _ _ _ _ H0.out) Tryz.underlying206 rfl (by as_aux_lemma=>kernel_rfl)
   ·exact below_setRow (((((hb.setCell (by simp) _).setCell (by simp) _).setCell (by simp) _).setCell (by simp) _).setCell (by simp) _) (nR _) _
def allB:ByteArray:=⟨#[32,110,111,116,32,110,101,103,32,97,100,100,32,115,117,98,32,109,117,108,32,100,105,118,32,114,101,109,32,97,110,100,32,111,114,32,120,111,114,32,115,104,108,32,115,104,114,32,115,97,114,32,101,113,32,110,101,32,108,116,32,108,101,32,115,108,116,32,115,108,101,32,105,116,101]⟩
theorem all_size:allB.size=75:=by kernel_rfl
def noNames:Array Value:=Array.replicate 22 (.string ⟨#[]⟩)
def nst:Nat->Nat × Nat × Array Value
 | 0=>(1,0,noNames)
 | k+1=>if allB.data.getD k 0=32 then ((nst k).1+1,k+1,(nst k).2.2) else ((nst k).1,(nst k).2.1,(nst k).2.2.setIfInBounds (nst k).1 (.string (allB.extract (nst k).2.1 (k+1))))
def nok (k:Nat):Bool:=allB.data.getD k 0<128 && (nst k).2.1<=k && (nst k).1<=21 && (nst k).2.2.size == 22 && (allB.data.getD k 0 == 32 || ((nst k).2.2[(nst k).1]? matches some (.string _)))
theorem nok_all:∀ k,k<75->nok k=true:=by
 have h:(List.range 75).all nok=true:=by kernel_rfl
 intro k hk
 exact List.all_eq_true.1 h k (by simpa using hk)
def opNames:Array Value:=#[.string ⟨#[]⟩,.string ⟨#[]⟩,.string ⟨#[110,111,116]⟩,.string ⟨#[110,101,103]⟩,.string ⟨#[97,100,100]⟩,.string ⟨#[115,117,98]⟩,.string ⟨#[109,117,108]⟩,.string ⟨#[100,105,118]⟩,.string ⟨#[114,101,109]⟩,.string ⟨#[97,110,100]⟩,.string ⟨#[111,114]⟩,.string ⟨#[120,111,114]⟩,.string ⟨#[115,104,108]⟩,.string ⟨#[115,104,114]⟩,.string ⟨#[115,97,114]⟩,.string ⟨#[101,113]⟩,.string ⟨#[110,101]⟩,.string ⟨#[108,116]⟩,.string ⟨#[108,101]⟩,.string ⟨#[115,108,116]⟩,.string ⟨#[115,108,101]⟩,.string ⟨#[105,116,101]⟩]
theorem nst_end:(nst 75).2.2=opNames:=by kernel_rfl
theorem nst_sp (k:Nat) (h:allB.data.getD k 0=32):nst (k+1)=((nst k).1+1,k+1,(nst k).2.2):=by simp only [nst];rw [if_pos h]
theorem nst_ch (k:Nat) (h:¬ allB.data.getD k 0=32):nst (k+1)=((nst k).1,(nst k).2.1,(nst k).2.2.setIfInBounds (nst k).1 (.string (allB.extract (nst k).2.1 (k+1)))):=by simp only [nst];rw [if_neg h]
theorem nok_get (k:Nat) (h:k<75):(allB[k]'(by rw [all_size];exact h))=allB.data.getD k 0:=by
 have:k<allB.data.size:=by have e:allB.data.size=75:=all_size;omega
 show allB.data[k]=_
 rw [Array.getD,dif_pos this];rfl
theorem names (w:World) :
  Calls Tryz.prog 136 #[] w fun e w'=>e=.returned (.agg opNames)/\Below w.heap.size w w':=by
 have hz:(nst 0).2.2=#[Value.string ⟨#[]⟩,Value.string ⟨#[]⟩,Value.string ⟨#[]⟩,Value.string ⟨#[]⟩,Value.string ⟨#[]⟩,Value.string ⟨#[]⟩,Value.string ⟨#[]⟩,Value.string ⟨#[]⟩,Value.string ⟨#[]⟩,Value.string ⟨#[]⟩,Value.string ⟨#[]⟩,Value.string ⟨#[]⟩,Value.string ⟨#[]⟩,Value.string ⟨#[]⟩,Value.string ⟨#[]⟩,Value.string ⟨#[]⟩,Value.string ⟨#[]⟩,Value.string ⟨#[]⟩,Value.string ⟨#[]⟩,Value.string ⟨#[]⟩,Value.string ⟨#[]⟩,Value.string ⟨#[]⟩]:=by kernel_rfl
 have hz2:noNames=#[Value.string ⟨#[]⟩,Value.string ⟨#[]⟩,Value.string ⟨#[]⟩,Value.string ⟨#[]⟩,Value.string ⟨#[]⟩,Value.string ⟨#[]⟩,Value.string ⟨#[]⟩,Value.string ⟨#[]⟩,Value.string ⟨#[]⟩,Value.string ⟨#[]⟩,Value.string ⟨#[]⟩,Value.string ⟨#[]⟩,Value.string ⟨#[]⟩,Value.string ⟨#[]⟩,Value.string ⟨#[]⟩,Value.string ⟨#[]⟩,Value.string ⟨#[]⟩,Value.string ⟨#[]⟩,Value.string ⟨#[]⟩,Value.string ⟨#[]⟩,Value.string ⟨#[]⟩,Value.string ⟨#[]⟩]:=by kernel_rfl
 have Hz:=Hd hz
 have Hz2:=Hd hz2
 clear hz hz2
 go_enter Tryz.func136,Tryz.ntmps136
 go_wp2
 go_loopw [2,3,4,5] (fun n f _ _ wr=>∃ k:Nat,k<=75/\n=.int .i64 (nst k).1/\f=.int .i64 (nst k).2.1/\wr.heap[w.heap.size]?=some (.cells noNames 210 (0,0))/\wr.heap[w.heap.size+1]?=some (.cells (nst k).2.2 210 (0,0))/\wr.heap[w.heap.size+1+1]?=some (.stringIter allB k)/\Below w.heap.size w wr) (fun _ _ _ _ wr=>75 - wr.iterPos (w.heap.size+1+1))
 case atStart=>exact ⟨0,by omega,rfl,rfl,by rw [Hz2.out];exact heap3_0 _ _ _ _,by rw [Hz.out];exact heap3_1 _ _ _ _,heap3_2 _ _ _ _,((((bR _ _).alloc (nR _) _).alloc (by simp) _).alloc (by simp;omega) _)⟩
 case round=>
  obtain ⟨k,hk,rfl,rfl,h0,h1,h2,hb⟩:=hrel
  by_cases hlt:k<75
  ·have ok:=nok_all k hlt
   simp only [nok,Bool.and_eq_true,decide_eq_true_eq,Bool.or_eq_true,beq_iff_eq] at ok
   obtain ⟨⟨⟨⟨ok1,ok2⟩,ok3⟩,ok4⟩,ok5⟩:=ok
   have hg:=nok_get k hlt
   have hnx:=fun ty=>Lib.run_next_ascii_at (P:=Tryz.prog) wr (w.heap.size+1+1) allB k ty h2 (by rw [all_size];exact hlt) (by rw [hg];exact ok1)
   rw [hg] at hnx
   have hw:=Lib.iterAt_heap wr (w.heap.size+1+1) allB k (k+1) h2
   have hw0:=Lib.iterAt_other wr (w.heap.size+1+1) w.heap.size allB (k+1) (by omega)
   have hw1:=Lib.iterAt_other wr (w.heap.size+1+1) (w.heap.size+1) allB (k+1) (by omega)
   rw [h0] at hw0;rw [h1] at hw1
   have hb':=Lib.below_iterAt hb (k:=w.heap.size+1+1) (by omega) allB (k+1)
   generalize hW:wr.iterAt (w.heap.size+1+1) allB (k+1)=W at *
   have hpos:wr.iterPos (w.heap.size+1+1)=k:=iterPos_of h2
   clear hW hb h0 h1 h2 hg
   by_cases hc:allB.data.getD k 0=32
   ·have Hs:=Hd (nst_sp k hc)
    have hcb:(((allB.data.getD k 0).toNat:Int) == 32)=true:=by rw [hc];rfl
    have H:=Hd (And.intro hw0 (And.intro hw1 hw))
    have Hp:=Hd hpos
    clear hc hw0 hw1 hw hpos ok1 ok4 ok5
    generalize allB.data.getD k 0=c at *
    go_wp2
    go_roundw
    case rel=>exact ⟨k+1,by omega,by rw [Hs.out];go_num,by rw [Hs.out];go_num,H.out.1,by rw [Hs.out];exact H.out.2.1,H.out.2.2,hb'⟩
    case measure=>rw [Hp.out,iterPos_of H.out.2.2];omega
   ·have Hs:=Hd (nst_ch k hc)
    have hcb:(((allB.data.getD k 0).toNat:Int) == 32)=false:=by
     rw [beq_eq_false_iff_ne];intro h;apply hc;apply UInt8.toNat_inj.1;show _=32;omega
    have hcell:∃ x,(nst k).2.2[(nst k).1]?=some x:=by
     rcases ok5 with h|h
     ·exact absurd h hc
     ·revert h;cases (nst k).2.2[(nst k).1]? <;> simp
    obtain ⟨x,hx⟩:=hcell
    have hcl:=row_of' hw1 (nst k).1 x hx
    have hfz:=frozen_of_row W _ (nst k).1 _ _ hw1
    have hlt2:(nst k).1<22:=by omega
    have hlo:(nst k).2.1<=k+1:=by omega
    have H:=Hd (And.intro hw0 (And.intro hw1 hw))
    have Hp:=Hd hpos
    clear hc hw0 hw1 hw hpos ok1 ok4 ok5 hx
    generalize allB.data.getD k 0=c at *
    go_wp2
    go_roundw
    case rel=>exact ⟨k+1,by omega,by rw [Hs.out],by rw [Hs.out],by rw [heap_setCell_other _ _ _ _ (by simp)];exact H.out.1,by rw [Hs.out];exact heap_setCell_same _ _ _ _ _ _ H.out.2.1,by rw [heap_setCell_other _ _ _ _ (by simp)];exact H.out.2.2,hb'.setCell (by simp) _⟩
    case measure=>rw [Hp.out,iterPos_of (by rw [heap_setCell_other _ _ _ _ (by simp)];exact H.out.2.2)];omega
  ·obtain rfl:k=75:=by omega
   have hnx:=fun ty=>Lib.run_next_end_at (P:=Tryz.prog) wr (w.heap.size+1+1) allB 75 ty h2 (by rw [all_size];omega)
   rw [nst_end] at h1
   have H0:=Hd h0
   have H1:=Hd h1
   clear h0 h1 h2
   go_wp2_with (first|(refine wpList_load_row rfl 210 (.tmp 1) rfl (w.heap.size+1) rfl 210 opNames (0,0) _ ?h Tryz.underlying210 rfl (by as_aux_lemma=>kernel_rfl) ?_;exact H1.out)|(refine wpList_store_row rfl 210 (.tmp 0) (.tmp 23) rfl w.heap.size opNames rfl rfl 210 noNames ?h2 (by as_aux_lemma=>kernel_rfl) (by as_aux_lemma=>kernel_rfl) (by as_aux_lemma=>kernel_rfl) ?_;exact H0.out))
   refine bodyPost_ret (v:=.agg opNames) ?_ rfl ⟨rfl,below_setRow hb (nR _) _⟩
   exact results_cell_row (P:=Tryz.prog) (fn:=Tryz.f136) rfl _ _ w.heap.size 210 opNames (0,0) _ rfl (setRow_heap _ _ _ _ _ _ H0.out) Tryz.underlying210 rfl (by as_aux_lemma=>kernel_rfl)
open Go.ChangeShapes Go.WideShapes Go.ChangeAt Go.RowKit
def names20:Array Value:=(opNames.extract 2 22)
def nm (a:Nat):ByteArray:=match opNames[a]? with|some (.string s)=>s|_=>⟨#[]⟩
theorem nm_row:∀ k,k<22->opNames[k]?=some (.string (nm k)):=by
 intro k hk
 have h:∀ k:Fin 22,opNames[k.1]?=some (.string (nm k.1)):=by
  intro k;revert k;intro ⟨k,hk⟩
  have:k=0 \/ k=1 \/ k=2 \/ k=3 \/ k=4 \/ k=5 \/ k=6 \/ k=7 \/ k=8 \/ k=9 \/ k=10 \/ k=11 \/ k=12 \/ k=13 \/ k=14 \/ k=15 \/ k=16 \/ k=17 \/ k=18 \/ k=19 \/ k=20 \/ k=21:=by omega
  rcases this with rfl|rfl|rfl|rfl|rfl|rfl|rfl|rfl|rfl|rfl|rfl|rfl|rfl|rfl|rfl|rfl|rfl|rfl|rfl|rfl|rfl|rfl <;> rfl
 exact h ⟨k,hk⟩
theorem nm_row20 (k:Nat) (hk:k<20):names20[k]?=some (.string (nm (k+2))):=by
 unfold names20
 rw [Array.getElem?_extract,if_pos (by have:opNames.size=22:=rfl;omega),Nat.add_comm,nm_row _ (by omega)]
theorem refNames (w:World) :
  Calls Tryz.prog 137 #[] w fun e w'=>e=.returned (.slice (some ⟨w.heap.size,0,none⟩) 20 20)/\w'=w.alloc (.cells names20 9):=by
 go_enter Tryz.func137,Tryz.ntmps137
 go_wp2
 go_ret
 exact ⟨rfl,rfl⟩
theorem idxArr {P:Program} (a:Int) (n:Nat) (h0:0<=a) (h1:a<n) (k:IntKind) (cs:Array Value) (v:Value) (hv:cs[a.toNat]?=some v) (t el:TypeId) (d:TypeDesc) (i:TypeInfo)
  (hu:P.underlying t=some (.array n el)) (hd:P.underlying el=some d) (hnd:(match d with|.struct _|.array _ _=>true|_=>false)=false) (hi:P.info? el=some i) (hs:i.size=1) (w:World) :
  (Instr.index t (.agg cs) (.int k a)).run P w=.ok v w:=by
 have hag:(isAgg el).run P w=.ok false w:=by
  unfold isAgg
  rw [Sem.run_bind,run_underlying hd w]
  cases d <;> simp_all
 simp [Instr.index,asIntOf,Sem.run_bind,run_underlying hu,h0,h1,part,hag,sizeOf,typeInfo,hi,hs,hv]
theorem idxNm (k:IntKind) (a:Int) (h0:0<=a) (h1:a<=21) (w:World):(Instr.index 210 (.agg opNames) (.int k a)).run Tryz.prog w=.ok (.string (nm a.toNat)) w:=by
 obtain ⟨i,hi,hz,hs,hb⟩:=info_parts (P:=Tryz.prog) (e:=9) (z:=.string ⟨#[]⟩) (size:=1) (bytes:=16) (by kernel_rfl)
 exact idxArr a 22 h0 (by omega) k _ _ (nm_row _ (by omega)) _ 9 .string i Tryz.underlying210 Tryz.underlying9 rfl hi hs w
def arityZ (a:Int):Int:=if 21<a then 0 else if a<=1 then 0 else if a<=3 then 1 else if a=21 then 3 else 2
def arityErr (a:Int):Int:=if 21<a then 3 else 0
theorem arityZ_le (a:Int):0<=arityZ a/\arityZ a<=3:=by unfold arityZ;split <;> (try split) <;> (try split) <;> (try split) <;> omega
theorem arity_row (a:Int) (h0:0<=a) (h1:a<=21):arity[a.toNat]?=some (.int .u8 (arityZ a)):=by
 obtain ⟨k,rfl⟩:=Int.eq_ofNat_of_zero_le h0
 rw [Int.toNat_natCast]
 have:k=0 \/ k=1 \/ k=2 \/ k=3 \/ k=4 \/ k=5 \/ k=6 \/ k=7 \/ k=8 \/ k=9 \/ k=10 \/ k=11 \/ k=12 \/ k=13 \/ k=14 \/ k=15 \/ k=16 \/ k=17 \/ k=18 \/ k=19 \/ k=20 \/ k=21:=by omega
 rcases this with rfl|rfl|rfl|rfl|rfl|rfl|rfl|rfl|rfl|rfl|rfl|rfl|rfl|rfl|rfl|rfl|rfl|rfl|rfl|rfl|rfl|rfl <;> (show _=_;kernel_rfl)
theorem idxAr (k:IntKind) (a:Int) (h0:0<=a) (h1:a<=21) (w:World):(Instr.index 206 (.agg arity) (.int k a)).run Tryz.prog w=.ok (.int .u8 (arityZ a)) w:=by
 obtain ⟨i,hi,hz,hs,hb⟩:=info_parts (P:=Tryz.prog) (e:=5) (z:=.int .u8 0) (size:=1) (bytes:=1) (by kernel_rfl)
 exact idxArr a 22 h0 (by omega) k _ _ (arity_row _ h0 h1) _ 5 (.int .u8) i Tryz.underlying206 Tryz.underlying5 rfl hi hs w
theorem arity_of (a:Int) (h0:0<=a) (w:World) :
  Calls Tryz.prog 128 #[.int .u8 a] w fun e w'=>e=.returned (.tuple #[.int .i64 (arityZ a),.int .i64 (arityErr a)])/\Below w.heap.size w w':=by
 by_cases h1:21<a
 ·have e1:arityZ a=0:=if_pos h1
  have e2:arityErr a=3:=if_pos h1
  rw [e1,e2];clear e1 e2
  go_enter Tryz.func128,Tryz.ntmps128
  go_wp2
  go_ret2
  exact ⟨rfl,bR _ _⟩
 ·have hc:=fun w=>idxAr .u8 a h0 (by omega) w
  have e2:arityErr a=0:=if_neg h1
  rw [e2];clear e2
  have hz:=arityZ_le a
  obtain ⟨hz1,hz2⟩:=hz
  generalize arityZ a=z at *
  go_enter Tryz.func128,Tryz.ntmps128
  go_wp2_with (go_at_call 133;refine (arities _).mono ?_;rintro e w' ⟨rfl,hb⟩)
  go_ret2
  exact ⟨rfl,hb⟩
theorem refArity (a:Int) (w:World) :
  Calls Tryz.prog 122 #[.int .u8 a] w fun e w'=>e=.returned (.tuple #[.int .i64 (arityZ a),.int .i64 (arityErr a)])/\w=w':=by
 unfold arityZ arityErr
 by_cases h1:21<a
 ·rw [if_pos h1,if_pos h1]
  go_enter Tryz.func122,Tryz.ntmps122
  go_wp2
  go_ret2
  exact ⟨rfl,rfl⟩
 rw [if_neg h1,if_neg h1]
 by_cases h2:a<=1
 ·rw [if_pos h2]
  go_enter Tryz.func122,Tryz.ntmps122
  go_wp2
  go_ret2
  exact ⟨rfl,rfl⟩
 rw [if_neg h2]
 by_cases h3:a<=3
 ·rw [if_pos h3]
  go_enter Tryz.func122,Tryz.ntmps122
  go_wp2
  go_ret2
  exact ⟨rfl,rfl⟩
 rw [if_neg h3]
 by_cases h4:a=21
 ·rw [if_pos h4]
  subst h4
  go_enter Tryz.func122,Tryz.ntmps122
  go_wp2
  go_ret2
  exact ⟨rfl,rfl⟩
 ·rw [if_neg h4]
  have h5:(a == 21)=false:=beq_eq_false_iff_ne.2 h4
  go_enter Tryz.func122,Tryz.ntmps122
  go_wp2
  go_ret2
  exact ⟨rfl,rfl⟩
def ofFind (s:ByteArray):Nat->Nat
 | 0=>0
 | n+1=>if (nm (22 - (n+1))).toList == s.toList then 22 - (n+1) else ofFind s n
def ofN (s:ByteArray):Nat:=ofFind s 20
def ofE (s:ByteArray):Int:=if ofN s=0 then 6 else 0
theorem ofFind_hit (s:ByteArray) (n:Nat) (h:((nm (22 - (n+1))).toList == s.toList)=true):ofFind s (n+1)=22 - (n+1):=by rw [ofFind,if_pos h]
theorem ofFind_miss (s:ByteArray) (n:Nat) (h:((nm (22 - (n+1))).toList == s.toList)=false):ofFind s (n+1)=ofFind s n:=by rw [ofFind,if_neg (by rw [h];simp)]
theorem ofFind_empty:ofN ⟨#[]⟩=0:=by kernel_rfl
theorem toList_inj {a b:ByteArray} (h:a.toList=b.toList):a=b:=by
 rw [ByteArray.toList_eq,ByteArray.toList_eq] at h
 exact WideShapes.bytes_inj h
theorem of_any (s:ByteArray) (w:World) :
  Calls Tryz.prog 131 #[.string s] w fun e w'=>e=.returned (.tuple #[.int .u8 (ofN s:Nat),.int .i64 (ofE s)])/\Below w.heap.size w w':=by
 by_cases he:s.toList.isEmpty=true
 ·have e1:ofN s=0:=by
   have:s=⟨#[]⟩:=toList_inj (by rw [List.isEmpty_iff.1 he,ByteArray.toList_eq])
   rw [this];exact ofFind_empty
  have e2:ofE s=6:=if_pos e1
  rw [e1,e2];clear e1 e2
  have he2:(!s.toList.isEmpty)=false:=by rw [he];rfl
  go_enter Tryz.func131,Tryz.ntmps131
  go_wp2
  go_ret2
  exact ⟨rfl,bR _ _⟩
 ·have he2:(!s.toList.isEmpty)=true:=by simpa using he
  have hn0:((nm 0).toList == s.toList)=false:=by
   have:(nm 0).toList=[]:=by kernel_rfl
   rw [this,beq_eq_false_iff_ne];intro h;exact he (by rw [<- h];rfl)
  have hn1:((nm 1).toList == s.toList)=false:=by
   have:(nm 1).toList=[]:=by kernel_rfl
   rw [this,beq_eq_false_iff_ne];intro h;exact he (by rw [<- h];rfl)
  go_enter Tryz.func131,Tryz.ntmps131
  go_wp2_with (go_at_call 136;refine (names _).mono ?_;rintro e w' ⟨rfl,hb⟩)
  go_loop [4,5,9] (fun _ _ i=>∃ k:Nat,k<=22/\i=.int .i64 k/\(2<=k->ofN s=ofFind s (22 - k))) (fun _ _ i=>22 - (intOf i).toNat)
  case atStart=>exact ⟨0,by omega,rfl,fun h=>by omega⟩
  case round=>
   obtain ⟨k,hk,rfl,hf⟩:=hrel
   by_cases hlt:k<22
   ·have hc:=fun w=>idxNm .i64 (k:Int) (by omega) (by omega) w
    rw [Int.toNat_natCast] at hc
    cases hm:((nm k).toList == s.toList)
    ·have Hn:Hid (2<=k+1->ofN s=ofFind s (22 - (k+1))):=by
      intro h2
      by_cases h3:2<=k
      ·rw [hf h3,show 22 - k=(22 - (k+1))+1 from by omega,ofFind_miss _ _ (by rw [show 22 - (22 - (k+1)+1)=k from by omega];exact hm)]
      ·have:k=1:=by omega
       subst this;rfl
     clear hf
     go_wp2
     go_round
     case rel=>exact ⟨k+1,by omega,by go_num,Hn.out⟩
     case measure=>simp [intOf];omega
    ·have h3:2<=k:=by
      by_cases h0:k=0
      ·subst h0;rw [hn0] at hm;cases hm
      ·by_cases h1:k=1
       ·subst h1;rw [hn1] at hm;cases hm
       ·omega
     have Hn:Hid (ofN s=k):=by
      show ofN s=k
      rw [hf h3,show 22 - k=(22 - (k+1))+1 from by omega,ofFind_hit _ _ (by rw [show 22 - (22 - (k+1)+1)=k from by omega];exact hm)];omega
     clear hf
     go_wp2
     go_ret2
     refine ⟨?_,hb⟩
     rw [ofE,Hn.out,if_neg (by omega)];rfl
   ·obtain rfl:k=22:=by omega
    have Hn:Hid (ofN s=0):=by
     show ofN s=0
     rw [hf (by omega)];rfl
    clear hf
    go_wp2
    go_ret2
    refine ⟨?_,hb⟩
    rw [ofE,Hn.out,if_pos rfl];rfl
theorem refOf (s:ByteArray) (w:World) :
  Calls Tryz.prog 132 #[.string s] w fun e w'=>e=.returned (.tuple #[.int .u8 (ofN s:Nat),.int .i64 (ofE s)])/\Below w.heap.size w w':=by
 go_enter Tryz.func132,Tryz.ntmps132
 go_wp2_with (go_at_call 137;refine (refNames _).mono ?_;rintro e w' ⟨rfl,rfl⟩)
 go_loop [5] (fun i=>∃ k:Nat,k<=20/\i=.int .i64 k/\ofN s=ofFind s (20 - k)) (fun i=>20 - (intOf i).toNat)
 case atStart=>exact ⟨0,by omega,rfl,rfl⟩
 case round=>
  obtain ⟨k,hk,rfl,hf⟩:=hrel
  by_cases hlt:k<20
  ·have hc:=nm_row20 k hlt
   cases hm:((nm (k+2)).toList == s.toList)
   ·have Hn:Hid (ofN s=ofFind s (20 - (k+1))):=by
     show ofN s=_
     rw [hf,show 20 - k=(20 - (k+1))+1 from by omega,ofFind_miss _ _ (by rw [show 22 - (20 - (k+1)+1)=k+2 from by omega];exact hm)]
    clear hf
    go_wp2
    go_round
    case rel=>exact ⟨k+1,by omega,by go_num,Hn.out⟩
    case measure=>simp [intOf];omega
   ·have Hn:Hid (ofN s=k+2):=by
     show ofN s=_
     rw [hf,show 20 - k=(20 - (k+1))+1 from by omega,ofFind_hit _ _ (by rw [show 22 - (20 - (k+1)+1)=k+2 from by omega];exact hm)];omega
    clear hf
    go_wp2
    go_ret2
    refine ⟨?_,(bR _ _).alloc (nR _) _⟩
    rw [ofE,Hn.out,if_neg (by omega),Int.natCast_add,Int.add_comm];rfl
  ·obtain rfl:k=20:=by omega
   have Hn:Hid (ofN s=0):=by
    show ofN s=0
    rw [hf];rfl
   clear hf
   go_wp2
   go_ret2
   refine ⟨?_,(bR _ _).alloc (nR _) _⟩
   rw [ofE,Hn.out,if_pos rfl];rfl
end Go.Proofs.YtgllkgedjplpdaaGreatDoor
