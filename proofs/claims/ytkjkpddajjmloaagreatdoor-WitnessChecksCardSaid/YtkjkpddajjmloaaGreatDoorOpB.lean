/- Contracts of op.arities and op.names: called in whatever memory they return the table of arities and the table of names, and write nothing that was there. No condition. Contracts of Arity, Name, Of and Commutes, of package op and of the reference: for every argument they return the same numbers and names. Conditions: an operator is a number from 0 to 255. -/
import Derived.Test.YtkjkpddajjmloaaGreatDoorProg
import Derived.WalkKit
import Derived.ProofKit
import Derived.OpenShut
import Derived.WalkSpells
import Derived.WalkLawsBesides
import Derived.Lib.Hide
import Derived.Lib.OthersKept
set_option linter.all false
set_option maxRecDepth 1000000
set_option maxHeartbeats 6400000
namespace Go.Proofs.YtkjkpddajjmloaaGreatDoor
open Go.ChangeShapes Go.WideShapes Go.ChangeAt Go.RowKit
theorem row_of' {w:World} {g:Nat} {t:TypeId} {cs:Array Value} (hg:w.heap[g]?=some (.cells cs t (0,0))) (j:Nat) (v:Value) (h:cs[j]?=some v):w.cell? ⟨g,j,none⟩=some v:=by
 rw [cell_of_row w g j cs t (0,0) hg,h]
theorem below_setRow {B:Nat} {a w:World} (h:Below B a w) {g:Nat} (hg:B≤g) (cs:Array Value):Below B a (w.setRow g cs):=
 h.trans ⟨rfl,rfl,rfl,by simp,fun k hk=>setRow_other _ _ _ _ (by omega)⟩
theorem heap3_2 (w:World) (A B C:Obj):(((w.alloc A).alloc B).alloc C).heap[w.heap.size+1+1]?=some C:=by
 have e:((w.alloc A).alloc B).heap.size=w.heap.size+1+1:=by
  show ((w.heap.push A).push B).size=_
  simp
 rw [← e];exact heap_alloc_new _ _
theorem heap3_1 (w:World) (A B C:Obj):(((w.alloc A).alloc B).alloc C).heap[w.heap.size+1]?=some B:=by
 rw [heap_alloc_old _ _ (by show _<((w.heap.push A).push B).size;simp)];exact heap_alloc2_new _ _ _
def arr (k:Nat):Array Value:=(List.replicate k (Value.int .u8 2) ++ List.replicate (22-k) (Value.int .u8 0)).toArray
theorem arr_size (k:Nat) (h:k≤22):(arr k).size=22:=by simp [arr];omega
theorem arr_get (k:Nat) (h:k<22):(arr k)[k]?=some (.int .u8 0):=by
 unfold arr;simp [List.getElem?_append_right,List.getElem?_replicate];omega
theorem arr_succ (k:Nat) (h:k<22):(arr k).setIfInBounds k (.int .u8 2)=arr (k+1):=by
 have:k<22:=h
 unfold arr
 rw [List.setIfInBounds_toArray]
 congr 1
 apply List.ext_getElem?
 intro i
 simp only [List.getElem?_set,List.getElem?_append,List.length_replicate,List.getElem?_replicate,List.length_append]
 grind
def arity:Array Value:=#[0,0,1,1,2,2,2,2,2,2,2,2,2,2,2,2,2,2,2,2,2,3].map (Value.int .u8)
theorem arity_eq:((((((arr 22).setIfInBounds 0 (.int .u8 0)).setIfInBounds 1 (.int .u8 0)).setIfInBounds 2 (.int .u8 1)).setIfInBounds 3 (.int .u8 1)).setIfInBounds 21 (.int .u8 3))=arity:=by kernel_rfl
theorem arities (w:World) :
  Calls Tryz.prog 132 #[] w fun e w'=>e=.returned (.agg arity)∧Below w.heap.size w w':=by
 have hz:(arr 0)=#[Value.int IntKind.u8 0,Value.int IntKind.u8 0,Value.int IntKind.u8 0,Value.int IntKind.u8 0,Value.int IntKind.u8 0,Value.int IntKind.u8 0,Value.int IntKind.u8 0,Value.int IntKind.u8 0,Value.int IntKind.u8 0,Value.int IntKind.u8 0,Value.int IntKind.u8 0,Value.int IntKind.u8 0,Value.int IntKind.u8 0,Value.int IntKind.u8 0,Value.int IntKind.u8 0,Value.int IntKind.u8 0,Value.int IntKind.u8 0,Value.int IntKind.u8 0,Value.int IntKind.u8 0,Value.int IntKind.u8 0,Value.int IntKind.u8 0,Value.int IntKind.u8 0]:=rfl
 have Hz:=Lib.hid hz;clear hz
 go_enter Tryz.func132,Tryz.ntmps132
 go_wp2
 go_loopw [2,3] (fun _ i wr=>∃ k:Nat,k≤22∧i=.int .i64 k∧wr.heap[w.heap.size]?=some (.cells (arr 0) 198 (0,0))∧wr.heap[w.heap.size+1]?=some (.cells (arr k) 198 (0,0))∧Below w.heap.size w wr) (fun _ i _=>22 - (intOf i).toNat)
 case atStart=>exact ⟨0,by omega,rfl,by rw [Hz.out];exact heap_alloc2_old _ _ _,by rw [Hz.out];exact heap_alloc2_new _ _ _,((Below.refl _ _).alloc (Nat.le_refl _) _).alloc (by simp) _⟩
 case round=>
  obtain ⟨k,hk,rfl,h0,h1,hb⟩:=hrel
  have hsz:=arr_size k (by omega)
  by_cases hlt:k<22
  ·have hg:=row_of' h1 k _ (arr_get k hlt)
   have hf:=frozen_of_row wr _ k _ _ h1
   go_wp2
   go_roundw
   case rel=>exact ⟨k+1,by omega,by go_num,by rw [heap_setCell_other _ _ _ _ (by simp)];exact h0,by rw [heap_setCell_same _ _ _ _ _ _ h1,arr_succ k hlt],hb.setCell (by simp) _⟩
   case measure=>simp [intOf];omega
  ·obtain rfl:k=22:=by omega
   have c0:=row_of' h1 0 (.int .u8 2) (by kernel_rfl)
   have c1:=row_of' h1 1 (.int .u8 2) (by kernel_rfl)
   have c2:=row_of' h1 2 (.int .u8 2) (by kernel_rfl)
   have c3:=row_of' h1 3 (.int .u8 2) (by kernel_rfl)
   have c21:=row_of' h1 21 (.int .u8 2) (by kernel_rfl)
   have f0:=frozen_of_row wr _ 0 _ _ h1
   have f1:=frozen_of_row wr _ 1 _ _ h1
   have f2:=frozen_of_row wr _ 2 _ _ h1
   have f3:=frozen_of_row wr _ 3 _ _ h1
   have f21:=frozen_of_row wr _ 21 _ _ h1
   have hrow:(((((wr.setCell { block:=w.heap.size+1,off:=0 } (Value.int IntKind.u8 0)).setCell { block:=w.heap.size+1,off:=1 } (Value.int IntKind.u8 0)).setCell { block:=w.heap.size+1,off:=2 } (Value.int IntKind.u8 1)).setCell { block:=w.heap.size+1,off:=3 } (Value.int IntKind.u8 1)).setCell { block:=w.heap.size+1,off:=21 } (Value.int IntKind.u8 3)).heap[w.heap.size+1]?=some (Obj.cells arity 198):=by
    rw [← arity_eq]
    exact heap_setCell_same _ _ _ _ _ _ (heap_setCell_same _ _ _ _ _ _ (heap_setCell_same _ _ _ _ _ _ (heap_setCell_same _ _ _ _ _ _ (heap_setCell_same _ _ _ _ _ _ h1))))
   have hold:(((((wr.setCell { block:=w.heap.size+1,off:=0 } (Value.int IntKind.u8 0)).setCell { block:=w.heap.size+1,off:=1 } (Value.int IntKind.u8 0)).setCell { block:=w.heap.size+1,off:=2 } (Value.int IntKind.u8 1)).setCell { block:=w.heap.size+1,off:=3 } (Value.int IntKind.u8 1)).setCell { block:=w.heap.size+1,off:=21 } (Value.int IntKind.u8 3)).heap[w.heap.size]?=some (Obj.cells (arr 0) 198):=by
    repeat rw [heap_setCell_other _ _ _ _ (by simp)]
    exact h0
   have H0:=Lib.hid hold
   have H1:=Lib.hid hrow
   clear h0 h1 hold hrow hsz hlt hk
   go_wp2_with (first|(refine wpList_load_row rfl 198 (.tmp 1) rfl (w.heap.size+1) rfl 198 arity (0,0) _ ?h Tryz.underlying198 rfl (by as_aux_lemma=>kernel_rfl) ?_;exact H1.out)|(refine wpList_store_row rfl 198 (.tmp 0) (.tmp 14) rfl w.heap.size arity rfl rfl 198 (arr 0) ?h2 (by as_aux_lemma=>kernel_rfl) (by as_aux_lemma=>kernel_rfl) (by as_aux_lemma=>kernel_rfl) ?_;exact H0.out))
   refine bodyPost_ret (v:=.agg arity) ?_ rfl ⟨rfl,?_⟩
   ·exact results_cell_row (P:=Tryz.prog) (fn:=Tryz.f132) rfl _ _ w.heap.size 198 arity (0,0) _ rfl (setRow_heap _ _ _ _ _ _ H0.out) Tryz.underlying198 rfl (by as_aux_lemma=>kernel_rfl)
   ·exact below_setRow (((((hb.setCell (by simp) _).setCell (by simp) _).setCell (by simp) _).setCell (by simp) _).setCell (by simp) _) (Nat.le_refl _) _
theorem idxArr {P:Program} (a:Int) (n:Nat) (h0:0≤a) (h1:a<n) (k:IntKind) (cs:Array Value) (v:Value) (hv:cs[a.toNat]?=some v) (t el:TypeId) (d:TypeDesc) (i:TypeInfo)
  (hu:P.underlying t=some (.array n el)) (hd:P.underlying el=some d) (hnd:(match d with|.struct _|.array _ _=>true|_=>false)=false) (hi:P.info? el=some i) (hs:i.size=1) (w:World) :
  (Instr.index t (.agg cs) (.int k a)).run P w=.ok v w:=by
 have hag:(isAgg el).run P w=.ok false w:=by
  unfold isAgg
  rw [Sem.run_bind,run_underlying hd w]
  cases d <;> simp_all
 simp [Instr.index,asIntOf,Sem.run_bind,run_underlying hu,h0,h1,part,hag,sizeOf,typeInfo,hi,hs,hv]
def arityZ (a:Int):Int:=if 21<a then 0 else if a≤1 then 0 else if a≤3 then 1 else if a=21 then 3 else 2
def arityErr (a:Int):Int:=if 21<a then 3 else 0
theorem arityZ_le (a:Int):0≤arityZ a∧arityZ a≤3:=by unfold arityZ;split <;> (try split) <;> (try split) <;> (try split) <;> omega
theorem arity_row (a:Int) (h0:0≤a) (h1:a≤21):arity[a.toNat]?=some (.int .u8 (arityZ a)):=by
 obtain ⟨k,rfl⟩:=Int.eq_ofNat_of_zero_le h0
 rw [Int.toNat_natCast]
 have:k=0 ∨ k=1 ∨ k=2 ∨ k=3 ∨ k=4 ∨ k=5 ∨ k=6 ∨ k=7 ∨ k=8 ∨ k=9 ∨ k=10 ∨ k=11 ∨ k=12 ∨ k=13 ∨ k=14 ∨ k=15 ∨ k=16 ∨ k=17 ∨ k=18 ∨ k=19 ∨ k=20 ∨ k=21:=by omega
 rcases this with rfl|rfl|rfl|rfl|rfl|rfl|rfl|rfl|rfl|rfl|rfl|rfl|rfl|rfl|rfl|rfl|rfl|rfl|rfl|rfl|rfl|rfl <;> (show _=_;kernel_rfl)
theorem idxAr (k:IntKind) (a:Int) (h0:0≤a) (h1:a≤21) (w:World):(Instr.index 198 (.agg arity) (.int k a)).run Tryz.prog w=.ok (.int .u8 (arityZ a)) w:=by
 obtain ⟨i,hi,hz,hs,hb⟩:=info_parts (P:=Tryz.prog) (e:=5) (z:=.int .u8 0) (size:=1) (bytes:=1) (by kernel_rfl)
 exact idxArr a 22 h0 (by omega) k _ _ (arity_row _ h0 h1) _ 5 (.int .u8) i Tryz.underlying198 Tryz.underlying5 rfl hi hs w
theorem arity_of (a:Int) (h0:0≤a) (w:World) :
  Calls Tryz.prog 100 #[.int .u8 a] w fun e w'=>e=.returned (.tuple #[.int .i64 (arityZ a),.int .i64 (arityErr a)])∧Below w.heap.size w w':=by
 by_cases h1:21<a
 ·have e1:arityZ a=0:=if_pos h1
  have e2:arityErr a=3:=if_pos h1
  rw [e1,e2];clear e1 e2
  go_enter Tryz.func100,Tryz.ntmps100
  go_wp2
  go_ret2
  exact ⟨rfl,Below.refl _ _⟩
 ·have hc:=fun w=>idxAr .u8 a h0 (by omega) w
  have e2:arityErr a=0:=if_neg h1
  rw [e2];clear e2
  have hz:=arityZ_le a
  obtain ⟨hz1,hz2⟩:=hz
  generalize arityZ a=z at *
  go_enter Tryz.func100,Tryz.ntmps100
  go_wp2_with (go_at_call 132;refine (arities _).mono ?_;rintro e w' ⟨rfl,hb⟩)
  go_ret2
  exact ⟨rfl,hb⟩
theorem refArity (a:Int) (w:World) :
  Calls Tryz.prog 119 #[.int .u8 a] w fun e w'=>e=.returned (.tuple #[.int .i64 (arityZ a),.int .i64 (arityErr a)])∧w=w':=by
 unfold arityZ arityErr
 by_cases h1:21<a
 ·rw [if_pos h1,if_pos h1]
  go_enter Tryz.func119,Tryz.ntmps119
  go_wp2
  go_ret2
  exact ⟨rfl,rfl⟩
 rw [if_neg h1,if_neg h1]
 by_cases h2:a≤1
 ·rw [if_pos h2]
  go_enter Tryz.func119,Tryz.ntmps119
  go_wp2
  go_ret2
  exact ⟨rfl,rfl⟩
 rw [if_neg h2]
 by_cases h3:a≤3
 ·rw [if_pos h3]
  go_enter Tryz.func119,Tryz.ntmps119
  go_wp2
  go_ret2
  exact ⟨rfl,rfl⟩
 rw [if_neg h3]
 by_cases h4:a=21
 ·rw [if_pos h4]
  subst h4
  go_enter Tryz.func119,Tryz.ntmps119
  go_wp2
  go_ret2
  exact ⟨rfl,rfl⟩
 ·rw [if_neg h4]
  have h5:(a == 21)=false:=beq_eq_false_iff_ne.2 h4
  go_enter Tryz.func119,Tryz.ntmps119
  go_wp2
  go_ret2
  exact ⟨rfl,rfl⟩
/-! ### the examples that every statement asks -/
end Go.Proofs.YtkjkpddajjmloaaGreatDoor
