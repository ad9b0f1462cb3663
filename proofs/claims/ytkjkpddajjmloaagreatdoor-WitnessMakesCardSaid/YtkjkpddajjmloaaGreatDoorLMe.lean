/- Plain lemmas on runs: all values are words of the width, events are of channels and sites. -/
import Derived.Test.YtkjkpddajjmloaaGreatDoorMMq
set_option linter.all false
set_option maxRecDepth 1000000
set_option maxHeartbeats 6400000
namespace Go.Proofs.YtkjkpddajjmloaaGreatDoor
open Go.ChangeShapes Go.WideShapes Go.ChangeAt Go.RowKit
def Wd (f:FlatD) (x:Int):Prop:=0≤x∧x<2 ^ f.width.toNat
structure SmallM (f:FlatD) (m:MachD):Prop where
 rg:∀ x∈m.regs,Wd f x
 ar:∀ l∈m.arrs,∀ x∈l,Wd f x
 os:∀ e∈m.t.outs,Wd f e.val∧0≤e.n∧e.n<f.chans.length
 rs:∀ e∈m.t.rels,Wd f e.val∧0≤e.n∧e.n<f.sites.length
theorem inAt_pad (L:List (List Int)) (k n q:Nat):inAt (L++List.replicate k []) n q=inAt L n q:=by
 unfold inAt
 rw[List.getElem?_append]
 split
 ·rfl
 ·rename_i h
  rw[List.getElem?_eq_none (l:=L) (by omega),List.getElem?_replicate]
  split <;> rfl
theorem doM_ins {f:FlatD} {a b:List (List Int)} (h:∀ n q,inAt a n q=inAt b n q) (c:CodeD) (m:MachD) (k:Nat):doM f a c m k=doM f b c m k:=by
 match k with
 | 4=>simp only[doM,h]
 | 0|1|2|3|5|6|7|8|9=>rfl
 | k+10=>rfl
theorem stepM_ins {f:FlatD} {a b:List (List Int)} (h:∀ n q,inAt a n q=inAt b n q) (m:MachD):stepM f a m=stepM f b m:=by
 unfold stepM
 split
 ·split
  ·exact doM_ins h _ _ _
  ·rfl
 ·rfl
theorem iterM_ins {f:FlatD} {a b:List (List Int)} (h:∀ n q,inAt a n q=inAt b n q):∀ (k:Nat) (m:MachD),iterM f a k m=iterM f b k m
 | 0,_=>rfl
 | k+1,m=>by rw[iterM_succ,iterM_succ,iterM_ins h k m,stepM_ins h]
theorem iterM_pad (f:FlatD) (L:List (List Int)) (k:Nat) (m:MachD):iterM f L k m=iterM f (insM f L) k m:=iterM_ins (fun n q=>(inAt_pad L _ n q).symm) k m
def Moves (f:FlatD) (add:List Int):Prop:=0<add.length∧f.width<64
instance (f:FlatD) (add:List Int):Decidable (Moves f add):=by unfold Moves;infer_instance
def midI (A B:List (List Int)) (n:Nat):List (List Int):=A.take n++B.drop n
theorem midI_at {A B:List (List Int)} (h:A.length=B.length) {n:Nat} (hn:n<B.length):(midI A B n)[n]?=B[n]?:=by
 unfold midI
 rw[List.getElem?_append_right (by simp;omega),List.length_take,Nat.min_eq_left (by omega),Nat.sub_self,List.getElem?_drop,Nat.add_zero]
theorem midI_len {A B:List (List Int)} (h:A.length=B.length) {n:Nat} (hn:n≤B.length):(midI A B n).length=B.length:=by
 unfold midI;simp;omega
theorem midI_set {A B:List (List Int)} (h:A.length=B.length) {n:Nat} {l:List Int} (hl:A[n]?=some l):(midI A B n).set n l=midI A B (n+1):=by
 have hn:n<A.length:=(List.getElem?_eq_some_iff.1 hl).1
 have hlA:A[n]=l:=by rw[List.getElem?_eq_getElem hn] at hl;exact Option.some.inj hl
 unfold midI
 rw[List.set_append_right _ _ (by simp;omega),List.length_take,Nat.min_eq_left (by omega),Nat.sub_self,List.take_add_one,hl]
 rw[List.drop_eq_getElem_cons (by omega:n<B.length),List.set_cons_zero,Option.toList_some,List.append_assoc,List.singleton_append]
theorem midI_end {A B:List (List Int)} (h:A.length=B.length):midI A B B.length=A:=by unfold midI;rw[List.take_of_length_le (by omega),List.drop_length,List.append_nil]
def midL (A B:List Int) (k:Nat):List Int:=A.take k++B.drop k
theorem midL_zero (A B:List Int):midL A B 0=B:=by simp[midL]
theorem midL_len {A B:List Int} (h:A.length=B.length) {k:Nat} (hk:k≤B.length):(midL A B k).length=B.length:=by unfold midL;simp;omega
theorem midL_at {A B:List Int} (h:A.length=B.length) {n:Nat} (hn:n<B.length):(midL A B n)[n]?=B[n]?:=by
 unfold midL
 rw[List.getElem?_append_right (by simp;omega),List.length_take,Nat.min_eq_left (by omega),Nat.sub_self,List.getElem?_drop,Nat.add_zero]
theorem midL_set {A B:List Int} (h:A.length=B.length) {n:Nat} {l:Int} (hl:A[n]?=some l):(midL A B n).set n l=midL A B (n+1):=by
 have hn:n<A.length:=(List.getElem?_eq_some_iff.1 hl).1
 unfold midL
 rw[List.set_append_right _ _ (by simp;omega),List.length_take,Nat.min_eq_left (by omega),Nat.sub_self,List.take_add_one,hl]
 rw[List.drop_eq_getElem_cons (by omega:n<B.length),List.set_cons_zero,Option.toList_some,List.append_assoc,List.singleton_append]
theorem midL_end {A B:List Int} (h:A.length=B.length):midL A B B.length=A:=by unfold midL;rw[List.take_of_length_le (by omega),List.drop_length,List.append_nil]
theorem set_twice {α:Type} (l:List α) (n:Nat) (a b:α):(l.set n a).set n b=l.set n b:=by simp
theorem set_same {α:Type} {l:List α} {n:Nat} {a:α} (h:l[n]?=some a):l.set n a=l:=by
 obtain⟨hn,rfl⟩:=List.getElem?_eq_some_iff.1 h
 simp
end Go.Proofs.YtkjkpddajjmloaaGreatDoor
