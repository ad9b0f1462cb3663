/- Maps keyed by strings, as lists: what a look-up and a store do to a map whose entries are known as a list. Conditions: a byte is a number from 0 to 255; a list reads as one of strings. -/
import Derived.Maps.OwnOps
import Derived.Maps.OwnSet
import Derived.OwnWalk
import Derived.WalkKit
import Derived.Test.YtgllkgedjplpdaaGreatDoorLib
import Derived.Test.YtgllkgedjplpdaaGreatDoorKitE
import Derived.Laws.IdiomStrings
import Derived.Test.YtgllkgedjplpdaaGreatDoorOpB
set_option linter.all false
set_option maxRecDepth 1000000
set_option maxHeartbeats 12800000
set_option linter.unusedVariables false
set_option linter.unusedSimpArgs false
namespace Go.Proofs.YtgllkgedjplpdaaGreatDoor
open Go.Maps (Keyed string_keyed)
open Go.WideShapes Go.ChangeMaps Go.MapKept Go.WideMaps Go.ChangeAt Go.RowKit Go.ChangeShapes
instance decBytes:DecidableEq ByteArray:=fun a b=>if h:a.data=b.data then isTrue (by cases a;cases b;simp_all) else isFalse (fun e=>h (by rw [e]))
def MapIs (w:World) (b:Nat) (L:List (ByteArray × Value)):Prop:=
 ∃ es clock,w.heap[b]?=some (.map es clock)/\es.toList.map (fun e=>(e.key,e.val))=L.map (fun p=>(Value.string p.1,p.2))/\∀ p ∈ L,p.1.size<=maxLen
section
variable {P:Program} {k:TypeId} {w:World} {b:Nat} {L:List (ByteArray × Value)}
theorem MapIs.lt (h:MapIs w b L):b<w.heap.size:=by
 obtain ⟨es,clock,hb,_⟩:=h
 exact (aE hb).1
theorem MapIs.at (h:MapIs w b L) {w':World} (e:w'.heap[b]?=w.heap[b]?):MapIs w' b L:=by
 obtain ⟨es,clock,hb,r⟩:=h
 exact ⟨es,clock,e.trans hb,r⟩
theorem MapIs.keep (h:MapIs w b L) {w':World} (k:Below w.heap.size w w'):MapIs w' b L:=h.at (k.block b h.lt)
theorem MapIs.made (w:World):MapIs (w.alloc (.map #[] 0)) w.heap.size []:=
 ⟨#[],0,(MapKept.heap_alloc w _).1,rfl,fun _ h=>nomatch h⟩
theorem MapIs.find (hk:P.underlying k=some .string) (h:MapIs w b L) (s:ByteArray) (hs:s.size<=maxLen) :
  ∃ es clock,w.heap[b]?=some (.map es clock)/\es.size=L.length/\es.toList.map (fun e=>(e.key,e.val))=L.map (fun p=>(Value.string p.1,p.2)) /\
   (((Instr.findKey k (.string s) es.toList).run P w=.ok none w/\∀ p ∈ L,p.1 ≠ s) \/
     ∃ j v,(Instr.findKey k (.string s) es.toList).run P w=.ok (some (j,v)) w/\L[j]?=some (s,v)/\∃ e,es[j]?=some e/\e.key=.string s/\e.val=v):=by
 obtain ⟨es,clock,hb,hm,hz⟩:=h
 have hlen:es.size=L.length:=by have:=congrArg List.length hm;simpa using this
 refine ⟨es,clock,hb,hlen,hm,?_⟩
 have K:=string_keyed hk
 have hkeys:∀ e ∈ es.toList,∃ l,keyOf P k e.key=some l:=by
  intro e he
  have h1:(e.key,e.val) ∈ L.map (fun p=>(Value.string p.1,p.2)):=by rw [<- hm];exact List.mem_map.2 ⟨e,he,rfl⟩
  obtain ⟨p,hp,he2⟩:=List.mem_map.1 h1
  have h2:Value.string p.1=e.key:=congrArg Prod.fst he2
  exact ⟨_,by rw [<- h2];exact keyOf_string_mk hk (hz p hp)⟩
 rcases K.find w (keyOf_string_mk hk hs) es.toList hkeys with ⟨h1,h2⟩|⟨j,e,h1,h2,h3⟩
 ·refine .inl ⟨h1,fun p hp hps=>?_⟩
  have h4:(Value.string p.1,p.2) ∈ es.toList.map (fun e=>(e.key,e.val)):=by rw [hm];exact List.mem_map.2 ⟨p,hp,rfl⟩
  obtain ⟨e,he,h5⟩:=List.mem_map.1 h4
  exact h2 e he (by rw [<- hps];exact congrArg Prod.fst h5)
 ·refine .inr ⟨j,e.val,h1,?_,e,by simpa using h2,h3,rfl⟩
  have h4:(es.toList.map (fun e=>(e.key,e.val)))[j]?=some (e.key,e.val):=by rw [List.getElem?_map,h2];rfl
  rw [hm,List.getElem?_map] at h4
  cases hj:L[j]? with
  | none=>rw [hj] at h4;cases h4
  | some p=>
   rw [hj] at h4
   simp only [Option.map_some,Option.some.injEq,Prod.mk.injEq] at h4
   obtain ⟨h5,h6⟩:=h4
   rw [h3] at h5
   cases h5
   rw [<- h6]
theorem MapIs.lookup {t e:TypeId} (hk:P.underlying k=some .string) (ht:P.underlying t=some (.map k e)) {z:Value} (hz:(zeroValue e).run P w=.ok z w) (h:MapIs w b L) (s:ByteArray) (hs:s.size<=maxLen) (c:Bool) :
  ((Instr.lookup t (.map (some b)) (.string s) c).run P w=.ok (if c then .tuple #[z,.bool false] else z) w/\∀ p ∈ L,p.1 ≠ s) \/
   ∃ v,(Instr.lookup t (.map (some b)) (.string s) c).run P w=.ok (if c then .tuple #[v,.bool true] else v) w/\(s,v) ∈ L:=by
 obtain ⟨es,clock,hb,_,_,hf⟩:=h.find hk s hs
 have K:=string_keyed hk
 rcases hf with ⟨h1,h2⟩|⟨j,v,h1,h2,_⟩
 ·exact .inl ⟨by simp [Instr.lookup,run_underlying ht,MapKept.run_getObj_map hb,K.check w _ (keyOf_string_mk hk hs),h1,hz,Result.andThen],h2⟩
 ·exact .inr ⟨v,by simp [Instr.lookup,run_underlying ht,MapKept.run_getObj_map hb,K.check w _ (keyOf_string_mk hk hs),h1,Result.andThen],List.mem_of_getElem? h2⟩
theorem MapIs.store {t e:TypeId} (hk:P.underlying k=some .string) (ht:P.underlying t=some (.map k e)) (h:MapIs w b L) (s:ByteArray) (hs:s.size<=maxLen) (v:Value) :
  ∃ w' L',(Instr.mapUpdate t (.map (some b)) (.string s) v).run P w=.ok () w'/\MapIs w' b L'/\w.grownBy w' (some b)/\w'.heap.size=w.heap.size /\
   (((∀ p ∈ L,p.1 ≠ s)/\L'=L ++ [(s,v)]) \/ ∃ j u,L[j]?=some (s,u)/\L'=L.set j (s,v)):=by
 have h0:=h
 obtain ⟨es,clock,hb,hlen,hm,hf⟩:=h.find hk s hs
 obtain ⟨_,_,hb',_,hz⟩:=h0
 have K:=string_keyed hk
 have hg:∀ o:Obj,w.grownBy (setBlock w b o) (some b):=fun o=>⟨rfl,rfl,rfl,by simp [setBlock],fun i _ hi=>heap_setBlock_other hb o (fun e=>hi (by rw [e]))⟩
 rcases hf with ⟨h1,h2⟩|⟨j,u,h1,h2,e0,he0,hke,hve⟩
 ·refine ⟨setBlock w b (.map (es.push ⟨.string s,v,clock⟩) (clock+1)),_,by simp [Instr.mapUpdate,run_underlying ht,MapKept.run_getObj_map hb,K.check w false (keyOf_string_mk hk hs),h1,MapKept.run_setObj_map _ hb,Result.andThen,setBlock],⟨_,_,heap_setBlock_same hb _,?_,?_⟩,hg _,by simp [setBlock],.inl ⟨h2,rfl⟩⟩
  ·rw [Array.toList_push,List.map_append,hm,List.map_append];rfl
  ·intro p hp
   rcases List.mem_append.1 hp with hp|hp
   ·exact hz p hp
   ·rw [List.mem_singleton] at hp;subst hp;exact hs
 ·refine ⟨setBlock w b (.map (es.modify j (fun e'=>{ e' with key:=.string s,val:=v })) clock),_,?_,⟨_,_,heap_setBlock_same hb _,?_,?_⟩,hg _,by simp [setBlock],.inr ⟨j,u,h2,rfl⟩⟩
  ·simp [Instr.mapUpdate,run_underlying ht,MapKept.run_getObj_map hb,K.check w false (keyOf_string_mk hk hs),h1,he0,hke,K.stays w (keyOf_string_mk hk hs),MapKept.run_setObj_map _ hb,Result.andThen,setBlock]
  ·apply List.ext_getElem?
   intro i
   have hmi:=congrArg (fun l=>l[i]?) hm
   simp only [List.getElem?_map] at hmi ⊢
   rw [Array.getElem?_toList] at hmi ⊢
   rw [Array.getElem?_modify,List.getElem?_set]
   by_cases hij:j=i
   ·subst hij
    simp [he0,(lE h2).1]
   ·simp [hij,hmi]
  ·intro p hp
   rcases List.mem_or_eq_of_mem_set hp with hp|hp
   ·exact hz p hp
   ·subst hp;exact hs
end
def SetIs (w:World) (b:Nat) (l:List ByteArray):Prop:=MapIs w b (l.map fun s=>(s,.bool true))
def IntsIs (w:World) (b:Nat) (l:List (ByteArray × Int)):Prop:=MapIs w b (l.map fun p=>(p.1,.int .i64 p.2))
theorem SetIs.at {w w':World} {b:Nat} {l:List ByteArray} (h:SetIs w b l) (e:w'.heap[b]?=w.heap[b]?):SetIs w' b l:=MapIs.at h e
theorem SetIs.keep {w w':World} {b:Nat} {l:List ByteArray} (h:SetIs w b l) (k:Below w.heap.size w w'):SetIs w' b l:=MapIs.keep h k
theorem SetIs.lt {w:World} {b:Nat} {l:List ByteArray} (h:SetIs w b l):b<w.heap.size:=MapIs.lt h
theorem SetIs.made (w:World):SetIs (w.alloc (.map #[] 0)) w.heap.size []:=MapIs.made w
theorem IntsIs.at {w w':World} {b:Nat} {l:List (ByteArray × Int)} (h:IntsIs w b l) (e:w'.heap[b]?=w.heap[b]?):IntsIs w' b l:=MapIs.at h e
theorem IntsIs.keep {w w':World} {b:Nat} {l:List (ByteArray × Int)} (h:IntsIs w b l) (k:Below w.heap.size w w'):IntsIs w' b l:=MapIs.keep h k
theorem IntsIs.lt {w:World} {b:Nat} {l:List (ByteArray × Int)} (h:IntsIs w b l):b<w.heap.size:=MapIs.lt h
def inL (s:ByteArray) (l:List ByteArray):Bool:=l.any fun t=>decide (s=t)
theorem inL_iff {s:ByteArray} {l:List ByteArray}:inL s l=true ↔ s ∈ l:=by
 unfold inL
 rw [List.any_eq_true]
 constructor
 ·rintro ⟨x,h1,h2⟩
  rw [of_decide_eq_true h2];exact h1
 ·exact fun h=>⟨s,h,decide_eq_true rfl⟩
theorem inL_not {s:ByteArray} {l:List ByteArray}:inL s l=false ↔ s ∉ l:=by
 rw [<- inL_iff];cases inL s l <;> simp
def atL (s:ByteArray) (l:List (ByteArray × Int)):Option Int:=(l.find? fun p=>decide (p.1=s)).map (·.2)
def putL (s:ByteArray) (l:List ByteArray):List ByteArray:=if inL s l then l else l ++ [s]
section
variable {P:Program} {k e t:TypeId} {w:World} {b:Nat}
theorem SetIs.lookup {l:List ByteArray} (hk:P.underlying k=some .string) (ht:P.underlying t=some (.map k e)) (hz:(zeroValue e).run P w=.ok (.bool false) w) (h:SetIs w b l) (s:ByteArray) (hs:s.size<=maxLen) :
  (Instr.lookup t (.map (some b)) (.string s) false).run P w=.ok (.bool (inL s l)) w:=by
 rcases MapIs.lookup hk ht hz h s hs false with ⟨h1,h2⟩|⟨v,h1,h2⟩
 ·have:inL s l=false:=by
   rw [inL_not]
   exact fun hm=>h2 (s,.bool true) (List.mem_map.2 ⟨s,hm,rfl⟩) rfl
  rw [this];exact h1
 ·obtain ⟨x,hx,he⟩:=List.mem_map.1 h2
  cases he
  have:inL s l=true:=inL_iff.2 hx
  rw [this];exact h1
theorem SetIs.store {l:List ByteArray} (hk:P.underlying k=some .string) (ht:P.underlying t=some (.map k e)) (h:SetIs w b l) (s:ByteArray) (hs:s.size<=maxLen) :
  ∃ w',(Instr.mapUpdate t (.map (some b)) (.string s) (.bool true)).run P w=.ok () w'/\SetIs w' b (putL s l)/\w.grownBy w' (some b)/\w'.heap.size=w.heap.size:=by
 obtain ⟨w',L',h1,h2,h3,h4,h5⟩:=MapIs.store hk ht h s hs (.bool true)
 refine ⟨w',h1,?_,h3,h4⟩
 rcases h5 with ⟨h5,rfl⟩|⟨j,u,h5,rfl⟩
 ·have:inL s l=false:=by
   rw [inL_not]
   exact fun hm=>h5 (s,.bool true) (List.mem_map.2 ⟨s,hm,rfl⟩) rfl
  unfold SetIs putL
  rw [this,if_neg (by simp),List.map_append];exact h2
 ·rw [List.getElem?_map] at h5
  cases hj:l[j]? with
  | none=>rw [hj] at h5;cases h5
  | some x=>
   rw [hj] at h5
   cases h5
   have:inL s l=true:=inL_iff.2 (List.mem_of_getElem? hj)
   unfold SetIs putL
   rw [this,if_pos rfl]
   have e1:(l.map fun s=>(s,Value.bool true)).set j (s,.bool true)=l.map fun s=>(s,Value.bool true):=by
    apply List.ext_getElem?
    intro i
    rw [List.getElem?_set]
    by_cases hij:j=i
    ·subst hij;simp [hj,(lE hj).1,(lE hj).2]
    ·simp [hij]
   rw [<- e1];exact h2
theorem SetIs.len {l:List ByteArray} (ht:P.underlying t=some (.map k e)) (h:SetIs w b l) (ty:TypeId):(Builtin.len_ #[t] ty #[.map (some b)]).run P w=.ok (.int .i64 l.length) w:=by
 obtain ⟨es,clock,hb,hm,_⟩:=h
 have hlen:es.size=l.length:=by have:=congrArg List.length hm;simpa using this
 simp [Builtin.len_,run_underlying ht,MapKept.run_getObj_map hb,Result.andThen,goInt,hlen]
theorem IntsIs.lookup {l:List (ByteArray × Int)} (hk:P.underlying k=some .string) (ht:P.underlying t=some (.map k e)) (hz:(zeroValue e).run P w=.ok (.int .i64 0) w) (h:IntsIs w b l) (hd:l.Pairwise (fun p q=>p.1 ≠ q.1)) (s:ByteArray) (hs:s.size<=maxLen) :
  (Instr.lookup t (.map (some b)) (.string s) true).run P w=.ok (.tuple #[.int .i64 ((atL s l).getD 0),.bool (atL s l).isSome]) w:=by
 rcases MapIs.lookup hk ht hz h s hs true with ⟨h1,h2⟩|⟨v,h1,h2⟩
 ·have:atL s l=none:=by
   unfold atL
   rw [Option.map_eq_none_iff,List.find?_eq_none]
   intro p hp
   simpa using fun e=>h2 (p.1,.int .i64 p.2) (List.mem_map.2 ⟨p,hp,rfl⟩) e
  rw [this];exact h1
 ·obtain ⟨x,hx,he⟩:=List.mem_map.1 h2
  cases he
  have:atL x.1 l=some x.2:=by
   unfold atL
   rw [Option.map_eq_some_iff]
   refine ⟨x,?_,rfl⟩
   rw [List.find?_eq_some_iff_append]
   refine ⟨by simp,?_⟩
   obtain ⟨as1,bs,rfl⟩:=List.append_of_mem hx
   refine ⟨as1,bs,rfl,fun a ha=>?_⟩
   have:=(List.pairwise_append.1 hd).2.2 a ha x (by simp)
   simpa using this
  rw [this];exact h1
theorem IntsIs.store_new {l:List (ByteArray × Int)} (hk:P.underlying k=some .string) (ht:P.underlying t=some (.map k e)) (h:IntsIs w b l) (s:ByteArray) (hs:s.size<=maxLen) (n:Int) (hn:∀ p ∈ l,p.1 ≠ s) :
  ∃ w',(Instr.mapUpdate t (.map (some b)) (.string s) (.int .i64 n)).run P w=.ok () w'/\IntsIs w' b (l ++ [(s,n)])/\w.grownBy w' (some b)/\w'.heap.size=w.heap.size:=by
 obtain ⟨w',L',h1,h2,h3,h4,h5⟩:=MapIs.store hk ht h s hs (.int .i64 n)
 refine ⟨w',h1,?_,h3,h4⟩
 rcases h5 with ⟨h5,rfl⟩|⟨j,u,h5,rfl⟩
 ·unfold IntsIs;rw [List.map_append];exact h2
 ·rw [List.getElem?_map] at h5
  cases hj:l[j]? with
  | none=>rw [hj] at h5;cases h5
  | some x=>
   rw [hj] at h5
   cases h5
   exact absurd rfl (hn x (List.mem_of_getElem? hj))
end
section
variable {P:Program} {w:World} {ops:Array Oper} {rest:List Oper} {o:Oper} {a:Act} {Q:Exit->Act->World->Prop}
theorem wpList_set_lookup (hg:o.guard=none) (m x:Operand) (t:TypeId) (hop:o.op=Op.lookup t m x false) (k e:TypeId) (hk:P.underlying k=some .string) (ht:P.underlying t=some (.map k e)) (hz:(zeroValue e).run P w=.ok (.bool false) w)
  (b:Nat) (l:List ByteArray) (hm:a.eval m=.map (some b)) (s:ByteArray) (hx:a.eval x=.string s) (hs:s.size<=maxLen) (h:SetIs w b l)
  (hK:wpList P ops Q rest (a.put o.dst (.bool (inL s l))) w):wpList P ops Q (o :: rest) a w:=by
 refine wpList_plain hg fun K' hK'=>?_
 unfold Oper.wp
 simp [execOp,hop,hm,hx,h.lookup hk ht hz s hs,Result.andThen]
 exact hK' _ _ hK
theorem wpList_set_store (hg:o.guard=none) (m x v:Operand) (t:TypeId) (hop:o.op=Op.mapUpdate t m x v) (k e:TypeId) (hk:P.underlying k=some .string) (ht:P.underlying t=some (.map k e))
  (b:Nat) (l:List ByteArray) (hm:a.eval m=.map (some b)) (s:ByteArray) (hx:a.eval x=.string s) (hv:a.eval v=.bool true) (hs:s.size<=maxLen) (h:SetIs w b l)
  (hK:∀ w',SetIs w' b (putL s l)->w.grownBy w' (some b)->w'.heap.size=w.heap.size->wpList P ops Q rest (a.put o.dst undef) w'):wpList P ops Q (o :: rest) a w:=by
 refine wpList_plain hg fun K' hK'=>?_
 obtain ⟨w',hrun,r1,r2,r3⟩:=h.store hk ht s hs
 unfold Oper.wp
 simp [execOp,hop,hm,hx,hv,hrun,Result.andThen]
 exact hK' _ _ (hK w' r1 r2 r3)
theorem wpList_ints_store (hg:o.guard=none) (m x v:Operand) (t:TypeId) (hop:o.op=Op.mapUpdate t m x v) (k e:TypeId) (hk:P.underlying k=some .string) (ht:P.underlying t=some (.map k e))
  (b:Nat) (l:List (ByteArray × Int)) (hm:a.eval m=.map (some b)) (s:ByteArray) (hx:a.eval x=.string s) (n:Int) (hv:a.eval v=.int .i64 n) (hs:s.size<=maxLen) (h:IntsIs w b l) (hn:∀ p ∈ l,p.1 ≠ s)
  (hK:∀ w',IntsIs w' b (l ++ [(s,n)])->w.grownBy w' (some b)->w'.heap.size=w.heap.size->wpList P ops Q rest (a.put o.dst undef) w'):wpList P ops Q (o :: rest) a w:=by
 refine wpList_plain hg fun K' hK'=>?_
 obtain ⟨w',hrun,r1,r2,r3⟩:=h.store_new hk ht s hs n hn
 unfold Oper.wp
 simp [execOp,hop,hm,hx,hv,hrun,Result.andThen]
 exact hK' _ _ (hK w' r1 r2 r3)
end
open Go.ChangeShapes Go.WideShapes Go.ChangeAt Go.RowKit
def isDig (c:Int):Bool:=decide (48<=c) && decide (c<=57)
theorem digit (c:Int) (w:World):Calls Tryz.prog 86 #[.int .u8 c] w fun e w'=>e=.returned (.bool (isDig c))/\w=w':=by
 unfold isDig
 by_cases h1:48<=c
 ·by_cases h2:c<=57
  all_goals
   go_enter Tryz.func86,Tryz.ntmps86
   go_wp2
   go_ret
   exact ⟨by simp [h1,h2],rfl⟩
 ·go_enter Tryz.func86,Tryz.ntmps86
  go_wp2
  go_ret
  exact ⟨by simp [h1];omega,rfl⟩
theorem refDigit (c:Int) (w:World):Calls Tryz.prog 97 #[.int .u8 c] w fun e w'=>e=.returned (.bool (isDig c))/\w=w':=by
 unfold isDig
 by_cases h1:48<=c
 ·by_cases h2:c<=57
  all_goals
   go_enter Tryz.func97,Tryz.ntmps97
   go_wp2
   go_ret
   exact ⟨by simp [h1,h2],rfl⟩
 ·go_enter Tryz.func97,Tryz.ntmps97
  go_wp2
  go_ret
  exact ⟨by simp [h1];omega,rfl⟩
def idxS (s:ByteArray):List ByteArray->Nat->Int
 | [],_=>-1
 | t :: r,k=>if s.toList == t.toList then k else idxS s r (k+1)
def hasS (s:ByteArray) (l:List ByteArray):Bool:=l.any fun t=>s.toList == t.toList
theorem idxS_has (s:ByteArray):∀ (l:List ByteArray) (k:Nat),decide (0<=idxS s l k)=hasS s l
 | [],k=>by simp [idxS,hasS]
 | t :: r,k=>by
  rw [idxS,hasS,List.any_cons]
  cases h:(s.toList == t.toList)
  ·simp only [Bool.false_eq_true,if_false,Bool.false_or];exact idxS_has s r (k+1)
  ·simp
theorem idxS_lo (s:ByteArray):∀ (l:List ByteArray) (k:Nat),-1<=idxS s l k/\idxS s l k<=l.length+k
 | [],k=>by simp [idxS]
 | t :: r,k=>by
  rw [idxS]
  have:=idxS_lo s r (k+1)
  split
  ·simp;omega
  ·simp;omega
theorem idxS_step (s t:ByteArray) (l:List ByteArray) (k:Nat) (h:l[k]?=some t):idxS s (l.drop k) k=if s.toList == t.toList then (k:Int) else idxS s (l.drop (k+1)) (k+1):=by
 have:l.drop k=t :: l.drop (k+1):=by
  have hk:=(lE h)
  obtain ⟨hlt,he⟩:=hk
  rw [List.drop_eq_getElem_cons hlt,he]
 rw [this,idxS]
theorem slicesIndex (v:Value) (l:List ByteArray) (s:ByteArray) (w:World) (h:RdStrs none w v l) :
  Calls Tryz.prog 87 #[v,.string s] w fun e w'=>e=.returned (.int .i64 (idxS s l 0))/\w=w':=by
 obtain ⟨a,c,rfl,hl,hr⟩:=h
 have HR:=Hd hr
 clear hr
 go_enter Tryz.func87,Tryz.ntmps87
 go_wp2
 go_loop [5,8] (fun _ i=>∃ k:Nat,k<=l.length/\i=.int .i64 k/\Hid (idxS s l 0=idxS s (l.drop k) k)) (fun _ i=>l.length - (intOf i).toNat)
 case atStart=>exact ⟨0,Nat.zero_le _,rfl,rfl⟩
 case round=>
  obtain ⟨k,hk,rfl,hq⟩:=hrel
  by_cases hlt:k<l.length
  ·obtain ⟨x,hx⟩:∃ x,l[k]?=some x:=⟨_,lG hlt⟩
   obtain ⟨b,o,rfl,_,c0,_⟩:=HR.out k x hx
   have hs:=idxS_step s x l k hx
   have HX:=Hd hx
   clear hx
   cases he:(s.toList == x.toList)
   ·rw [he,if_neg (by simp)] at hs
    have HS:=Hd hs
    clear hs
    go_wp2
    go_round
    case rel=>exact ⟨k+1,by omega,by go_num,hq.out.trans HS.out⟩
    case measure=>simp [intOf];omega
   ·rw [he,if_pos rfl] at hs
    have HS:=Hd hs
    clear hs
    go_wp2
    go_ret
    exact ⟨by rw [hq.out,HS.out];rfl,rfl⟩
  ·obtain rfl:k=l.length:=by omega
   go_wp2
   go_ret
   exact ⟨by rw [hq.out,List.drop_length];rfl,rfl⟩
theorem slicesContains (v:Value) (l:List ByteArray) (s:ByteArray) (w:World) (h:RdStrs none w v l) :
  Calls Tryz.prog 53 #[v,.string s] w fun e w'=>e=.returned (.bool (hasS s l))/\w=w':=by
 have hh:=Hd (idxS_has s l 0)
 have hc:=Hd (slicesIndex v l s w h)
 clear h
 generalize idxS s l 0=z at *
 generalize hasS s l=y at *
 go_enter Tryz.func53,Tryz.ntmps53
 go_wp2_with (go_at_call 87;refine hc.out.mono ?_;rintro e w' ⟨rfl,rfl⟩)
 go_ret
 exact ⟨by rw [<- hh.out];rfl,rfl⟩
def okc (c:Int):Bool:=isDig c || c == 95 || (decide (97<=c) && decide (c<=122)) || (decide (65<=c) && decide (c<=90))
def tokName (s:ByteArray):Bool:=decide (1<=s.size) && decide (s.size<=32) && !isDig ((s.data.toList.headD 0).toNat:Int) && s.data.toList.all fun c=>okc (c.toNat:Int)
theorem bytesOf (w:World) (s:ByteArray):∃ cap W1,(convert 9 144 (.string s)).run Tryz.prog w=.ok (.slice (some ⟨w.heap.size,0,none⟩) s.size cap) W1 /\
  (∀ i (h:i<s.size),W1.cell? ⟨w.heap.size,i,none⟩=some (.int .u8 (s[i].toNat:Int)))/\Below w.heap.size w W1:=by
 have h:=run_bytes_of_string (P:=Tryz.prog) w 9 144 5 s Tryz.underlying9 Tryz.underlying144 Tryz.underlying5
 refine ⟨_,_,h,fun i hi=>?_,((bR _ _).drew).alloc (nR _) _⟩
 have hb:=heap_alloc_new w.drew (.cells (bytesRow s (grownCap w s.size 0 5)) 5 ((bytesRow s (grownCap w s.size 0 5)).size,(bytesRow s (grownCap w s.size 0 5)).size+1))
 have e:w.drew.heap.size=w.heap.size:=rfl
 rw [e] at hb
 rw [cell_of_row _ _ i _ _ _ hb]
 unfold bytesRow
 have hi':i<s.data.size:=hi
 rw [Array.getElem?_append_left (by simpa using hi'),Array.getElem?_map,Array.getElem?_eq_getElem hi']
 rfl
theorem okc_false (c:Int) (h:okc c=false):isDig c=false/\(c == 95)=false/\(c<97 \/ 122<c)/\(c<65 \/ 90<c):=by
 simp only [okc,Bool.or_eq_false_iff,Bool.and_eq_false_iff,decide_eq_false_iff_not] at h
 obtain ⟨⟨⟨h1,h2⟩,h3⟩,h4⟩:=h
 exact ⟨h1,h2,by omega,by omega⟩
theorem okc_true (c:Int) (h:okc c=true):isDig c=true \/ (isDig c=false/\(c == 95)=true) \/ (isDig c=false/\(c == 95)=false/\97<=c/\c<=122) \/ (isDig c=false/\(c == 95)=false/\65<=c/\c<=90):=by
 cases h1:isDig c
 ·cases h2:(c == 95)
  ·simp [okc,h1] at h
   have:¬ c=95:=by simpa using h2
   simp [this] at h
   rcases h with h|h
   ·exact .inr (.inr (.inl ⟨rfl,rfl,h⟩))
   ·exact .inr (.inr (.inr ⟨rfl,rfl,h⟩))
  ·exact .inr (.inl ⟨rfl,rfl⟩)
 ·exact .inl rfl
theorem tokName_any (s:ByteArray) (w:World) (hs:s.size<=maxLen) :
  Calls Tryz.prog 52 #[.string s] w fun e w'=>e=.returned (.bool (tokName s))/\Below w.heap.size w w':=by
 unfold maxLen at hs
 by_cases h0:s.size=0
 ·have ht:Hid (tokName s=false):=by show _=_;simp [tokName,h0]
  have he:s.toList=[]:=by rw [ByteArray.toList_eq,show s.data=#[] from Array.eq_empty_of_size_eq_zero h0]
  go_enter Tryz.func52,Tryz.ntmps52
  go_wp2
  go_ret
  exact ⟨by rw [ht.out];rfl,bR _ _⟩
 have hpos:0<s.size:=by omega
 have he:s.toList.isEmpty=false:=by
  rw [ByteArray.toList_eq];have:0<s.data.size:=hpos
  simp;intro h;simp [h] at this
 by_cases h1:32<s.size
 ·have ht:Hid (tokName s=false):=by show _=_;simp [tokName];omega
  go_enter Tryz.func52,Tryz.ntmps52
  go_wp2
  go_ret
  exact ⟨by rw [ht.out];rfl,bR _ _⟩
 have hhead:s.data.toList.headD 0=s[0]:=by
  have:0<s.data.toList.length:=by simpa using hpos
  cases hl:s.data.toList with
  | nil=>rw [hl] at this;simp at this
  | cons a r=>
   show a=s.data[0]
   rw [<- Array.getElem_toList];simp [hl]
 cases h2:isDig (s[0].toNat:Int)
 ·obtain ⟨cap,W1,hcv,hcell,hbel⟩:=bytesOf w s
  have ht:Hid ((s.data.toList.all fun c=>okc (c.toNat:Int))=tokName s):=by
   show _=_
   unfold tokName;rw [hhead,h2];simp [show 1<=s.size from hpos,show s.size<=32 from by omega]
  have HC:=Hd hcell
  have HB:=Hd hbel
  clear hcell hbel hhead
  go_enter Tryz.func52,Tryz.ntmps52
  go_wp2_with (go_at_call 86;refine (digit _ _).mono ?_;rintro e w' ⟨rfl,rfl⟩)
  go_loop [4,20] (fun _ i=>∃ k:Nat,k<=s.size/\i=.int .i64 k/\Hid (∀ j (h:j<s.size),j<k->okc (s[j].toNat:Int)=true)) (fun _ i=>s.size - (intOf i).toNat)
  case atStart=>exact ⟨0,Nat.zero_le _,rfl,fun j _ h=>by omega⟩
  case round=>
   obtain ⟨k,hk,rfl,hq⟩:=hrel
   by_cases hlt:k<s.size
   ·have hc:=HC.out k hlt
    have hu:(s[k].toNat:Int)<256:=by have:=s[k].toNat_lt;omega
    cases ho:okc (s[k].toNat:Int)
    ·have HO:=Hd ho
     obtain ⟨o1,o2,o3,o4⟩:=okc_false _ ho
     have o5:((s[k].toNat:Int) != 95)=true:=by rw [bne,o2];rfl
     clear ho
     rcases o3 with o3|o3 <;> rcases o4 with o4|o4 <;> first|(exfalso;omega)|skip
     all_goals
      go_wp2_with (go_at_call 86;refine (digit _ _).mono ?_;rintro e w' ⟨rfl,rfl⟩)
      go_ret
      refine ⟨?_,HB.out⟩
      rw [<- ht.out,show (s.data.toList.all fun c=>okc (c.toNat:Int))=false from ?_]
      ·rfl
      ·rw [List.all_eq_false]
       exact ⟨s[k],by show s.data[k] ∈ _;simp,by rw [HO.out];simp⟩
    ·have HO:=Hd ho
     rcases okc_true _ ho with o1|⟨o1,o2⟩|⟨o1,o2,o3,o4⟩|⟨o1,o2,o3,o4⟩
     ·clear ho
      go_wp2_with (go_at_call 86;refine (digit _ _).mono ?_;rintro e w' ⟨rfl,rfl⟩)
      go_round
      case rel=>
       refine ⟨k+1,by omega,by go_num,fun j hj hjk=>?_⟩
       rcases Nat.lt_or_ge j k with h|h
       ·exact hq.out j hj h
       ·obtain rfl:j=k:=by omega
        exact HO.out
      case measure=>simp [intOf];omega
     ·have o5:((s[k].toNat:Int) != 95)=false:=by rw [bne,o2];rfl
      clear ho
      go_wp2_with (go_at_call 86;refine (digit _ _).mono ?_;rintro e w' ⟨rfl,rfl⟩)
      go_round
      case rel=>
       refine ⟨k+1,by omega,by go_num,fun j hj hjk=>?_⟩
       rcases Nat.lt_or_ge j k with h|h
       ·exact hq.out j hj h
       ·obtain rfl:j=k:=by omega
        exact HO.out
      case measure=>simp [intOf];omega
     all_goals
      have o5:((s[k].toNat:Int) != 95)=true:=by rw [bne,o2];rfl
      clear ho
      go_wp2_with (go_at_call 86;refine (digit _ _).mono ?_;rintro e w' ⟨rfl,rfl⟩)
      go_round
      case rel=>
       refine ⟨k+1,by omega,by go_num,fun j hj hjk=>?_⟩
       rcases Nat.lt_or_ge j k with h|h
       ·exact hq.out j hj h
       ·obtain rfl:j=k:=by omega
        exact HO.out
      case measure=>simp [intOf];omega
   ·obtain rfl:k=s.size:=by omega
    go_wp2
    go_ret
    refine ⟨?_,HB.out⟩
    rw [<- ht.out,show (s.data.toList.all fun c=>okc (c.toNat:Int))=true from ?_]
    ·rfl
    ·rw [List.all_eq_true]
     intro c hc
     obtain ⟨j,hj,he⟩:=List.getElem_of_mem hc
     have hj':j<s.size:=by simpa using hj
     have:=hq.out j hj' hj'
     have e2:s[j]'hj'=c:=by rw [<- he];show s.data[j]=_;rw [<- Array.getElem_toList]
     rw [<- e2];exact this
 ·have ht:Hid (tokName s=false):=by show _=_;unfold tokName;rw [hhead,h2];simp
  go_enter Tryz.func52,Tryz.ntmps52
  go_wp2_with (go_at_call 86;refine (digit _ _).mono ?_;rintro e w' ⟨rfl,rfl⟩)
  go_ret
  exact ⟨by rw [ht.out];rfl,bR _ _⟩
open Go.ChangeShapes Go.WideShapes Go.ChangeAt Go.RowKit
theorem head_is (s:ByteArray) (hpos:0<s.size):s.data.toList.headD 0=s[0]:=by
 have:0<s.data.toList.length:=by simpa using hpos
 cases hl:s.data.toList with
 | nil=>rw [hl] at this;simp at this
 | cons a r=>
  show a=s.data[0]
  rw [<- Array.getElem_toList];simp [hl]
theorem tok_miss (s:ByteArray) (k:Nat) (h:k<s.size) (ho:okc (s[k].toNat:Int)=false):tokName s=false:=by
 unfold tokName
 rw [show (s.data.toList.all fun c=>okc (c.toNat:Int))=false from ?_,Bool.and_false]
 rw [List.all_eq_false]
 exact ⟨s[k],by show s.data[k] ∈ _;simp,by rw [ho];simp⟩
theorem tok_all (s:ByteArray) (hq:∀ j (h:j<s.size),okc (s[j].toNat:Int)=true):(s.data.toList.all fun c=>okc (c.toNat:Int))=true:=by
 rw [List.all_eq_true]
 intro c hc
 obtain ⟨j,hj,he⟩:=List.getElem_of_mem hc
 have hj':j<s.size:=by simpa using hj
 have:=hq j hj'
 have e2:s[j]'hj'=c:=by rw [<- he];show s.data[j]=_;rw [<- Array.getElem_toList]
 rw [<- e2];exact this
theorem refTokName (s:ByteArray) (w:World) (hs:s.size<=maxLen) :
  Calls Tryz.prog 63 #[.string s] w fun e w'=>e=.returned (.bool (tokName s))/\w=w':=by
 unfold maxLen at hs
 go_enter Tryz.func63,Tryz.ntmps63
 go_wp2
 go_loop [3,4] (fun i _=>∃ k:Nat,k<=s.size/\i=.int .i64 k/\Hid (∀ j (h:j<s.size),j<k->okc (s[j].toNat:Int)=true)) (fun i _=>s.size - (intOf i).toNat)
 case atStart=>exact ⟨0,Nat.zero_le _,rfl,fun j _ h=>by omega⟩
 case round=>
  obtain ⟨k,hk,rfl,hq⟩:=hrel
  by_cases hlt:k<s.size
  ·have hu:(s[k].toNat:Int)<256:=by have:=s[k].toNat_lt;omega
   cases ho:okc (s[k].toNat:Int)
   ·have HO:=Hd (tok_miss s k hlt ho)
    obtain ⟨o1,o2,o3,o4⟩:=okc_false _ ho
    have o5:((s[k].toNat:Int) != 95)=true:=by rw [bne,o2];rfl
    clear ho
    rcases o3 with o3|o3 <;> rcases o4 with o4|o4 <;> first|(exfalso;omega)|skip
    all_goals
     first|(have p3:decide ((s[k].toNat:Int)<=122)=false:=decide_eq_false (by omega))|skip
     first|(have p4:decide ((s[k].toNat:Int)<=90)=false:=decide_eq_false (by omega))|skip
     go_wp2_with (go_at_call 97;refine (refDigit _ _).mono ?_;rintro e w' ⟨rfl,rfl⟩)
     go_ret
     exact ⟨by rw [HO.out];rfl,rfl⟩
   ·have HN:Hid (∀ j (h:j<s.size),j<k+1->okc (s[j].toNat:Int)=true):=by
     intro j hj hjk
     rcases Nat.lt_or_ge j k with h|h
     ·exact hq.out j hj h
     ·obtain rfl:j=k:=by omega
      exact ho
    rcases okc_true _ ho with o1|⟨o1,o2⟩|⟨o1,o2,o3,o4⟩|⟨o1,o2,o3,o4⟩
    ·clear ho
     cases o5:((s[k].toNat:Int) != 95)
     all_goals
      go_wp2_with (go_at_call 97;refine (refDigit _ _).mono ?_;rintro e w' ⟨rfl,rfl⟩)
      go_round
      case rel=>exact ⟨k+1,by omega,by go_num,HN⟩
      case measure=>simp [intOf];omega
    ·have o5:((s[k].toNat:Int) != 95)=false:=by rw [bne,o2];rfl
     clear ho
     go_wp2_with (go_at_call 97;refine (refDigit _ _).mono ?_;rintro e w' ⟨rfl,rfl⟩)
     go_round
     case rel=>exact ⟨k+1,by omega,by go_num,HN⟩
     case measure=>simp [intOf];omega
    all_goals
     have o5:((s[k].toNat:Int) != 95)=true:=by rw [bne,o2];rfl
     clear ho
     go_wp2_with (go_at_call 97;refine (refDigit _ _).mono ?_;rintro e w' ⟨rfl,rfl⟩)
     go_round
     case rel=>exact ⟨k+1,by omega,by go_num,HN⟩
     case measure=>simp [intOf];omega
  ·obtain rfl:k=s.size:=by omega
   have hall:=Hd (tok_all s (fun j h=>hq.out j h h))
   by_cases h0:s.size=0
   ·have ht:Hid (tokName s=false):=by show _=_;simp [tokName,h0]
    have h0':¬ 1<=s.size:=by omega
    clear h0
    go_wp2
    go_ret
    exact ⟨by rw [ht.out];rfl,rfl⟩
   have hpos:0<s.size:=by omega
   have hpos1:1<=s.size:=by omega
   by_cases h1:32<s.size
   ·have ht:Hid (tokName s=false):=by show _=_;simp [tokName];omega
    go_wp2
    go_ret
    exact ⟨by rw [ht.out];rfl,rfl⟩
   cases h2:isDig (s[0].toNat:Int)
   all_goals
    have ht:Hid (tokName s=!isDig (s[0].toNat:Int)):=by
     show _=_
     unfold tokName
     rw [head_is s hpos,hall.out];simp [hpos1,show s.size<=32 from by omega]
    rw [h2] at ht
    go_wp2_with (go_at_call 97;refine (refDigit _ _).mono ?_;rintro e w' ⟨rfl,rfl⟩)
    go_ret
    exact ⟨by rw [ht.out];rfl,rfl⟩
open Go.ChangeShapes Go.WideShapes Go.ChangeAt Go.RowKit
def kwL:List ByteArray:=[⟨#[119,105,100,116,104]⟩,⟨#[99,104,97,110]⟩,⟨#[97,114,114,97,121]⟩,⟨#[102,117,110,99]⟩,⟨#[109,97,105,110]⟩,⟨#[101,110,100]⟩,⟨#[108,111,97,100]⟩,⟨#[115,116,111,114,101]⟩,⟨#[99,97,108,108]⟩,⟨#[105,110]⟩,⟨#[111,117,116]⟩,⟨#[114,101,108,101,97,115,101]⟩,⟨#[106,117,109,112]⟩,⟨#[105,102]⟩,⟨#[104,97,108,116]⟩,⟨#[114,101,116]⟩]
def kwCells:Array Value:=(kwL.map Value.string).toArray
theorem kw_row (k:Nat) (x:ByteArray) (h:kwL[k]?=some x):kwCells[k]?=some (.string x):=by
 unfold kwCells
 simp [h]
theorem kw_len:kwL.length=16:=rfl
def isKw (s:ByteArray):Bool:=hasS s kwL || decide (ofN s ≠ 0)
theorem hasS_hit (s x:ByteArray) (l:List ByteArray) (k:Nat) (h:l[k]?=some x) (he:(s.toList == x.toList)=true):hasS s l=true:=by
 unfold hasS
 rw [List.any_eq_true]
 exact ⟨x,List.mem_of_getElem? h,he⟩
theorem hasS_none (s:ByteArray) (l:List ByteArray) (h:∀ (k:Nat) x,l[k]?=some x->(s.toList == x.toList)=false):hasS s l=false:=by
 unfold hasS
 rw [List.any_eq_false]
 intro x hx
 obtain ⟨k,hk⟩:=List.getElem?_of_mem hx
 rw [h k x hk];simp
theorem refKeyword (s:ByteArray) (w:World) :
  Calls Tryz.prog 120 #[.string s] w fun e w'=>e=.returned (.bool (isKw s))/\Below w.heap.size w w':=by
 have ek:kwCells=#[Value.string ⟨#[119,105,100,116,104]⟩,Value.string ⟨#[99,104,97,110]⟩,Value.string ⟨#[97,114,114,97,121]⟩,Value.string ⟨#[102,117,110,99]⟩,Value.string ⟨#[109,97,105,110]⟩,Value.string ⟨#[101,110,100]⟩,Value.string ⟨#[108,111,97,100]⟩,Value.string ⟨#[115,116,111,114,101]⟩,Value.string ⟨#[99,97,108,108]⟩,Value.string ⟨#[105,110]⟩,Value.string ⟨#[111,117,116]⟩,Value.string ⟨#[114,101,108,101,97,115,101]⟩,Value.string ⟨#[106,117,109,112]⟩,Value.string ⟨#[105,102]⟩,Value.string ⟨#[104,97,108,116]⟩,Value.string ⟨#[114,101,116]⟩]:=rfl
 have EK:=Hd ek
 clear ek
 go_enter Tryz.func120,Tryz.ntmps120
 go_wp2
 go_loopw [4] (fun i wr=>∃ k:Nat,k<=16/\i=.int .i64 k/\wr.heap[w.heap.size]?=some (.cells kwCells 9 (0,0))/\Hid (∀ (j:Nat) x,j<k->kwL[j]?=some x->(s.toList == x.toList)=false)/\Below w.heap.size w wr) (fun i _=>16 - (intOf i).toNat)
 case atStart=>exact ⟨0,Nat.zero_le _,rfl,by rw [EK.out];exact heap_alloc_new _ _,(fun j x h=>by omega),(bR _ _).alloc (nR _) _⟩
 case round=>
  obtain ⟨k,hk,rfl,hc,hq,hb⟩:=hrel
  clear EK
  by_cases hlt:k<16
  ·obtain ⟨x,hx⟩:∃ x,kwL[k]?=some x:=⟨_,lG (by rw [kw_len];exact hlt)⟩
   have c0:=row_of hc k _ (kw_row k x hx)
   have HC:=Hd hc
   have HX:=Hd hx
   clear hc hx
   cases he:(s.toList == x.toList)
   ·have HN:Hid (∀ (j:Nat) y,j<k+1->kwL[j]?=some y->(s.toList == y.toList)=false):=by
     intro j y hj hy
     rcases Nat.lt_or_ge j k with h|h
     ·exact hq.out j y h hy
     ·obtain rfl:j=k:=by omega
      rw [HX.out] at hy;cases hy;exact he
    go_wp2
    go_roundw
    case rel=>exact ⟨k+1,by omega,by go_num,HC.out,HN,hb⟩
    case measure=>simp [intOf];omega
   ·have HV:Hid (isKw s=true):=by
     show _=_
     rw [isKw,hasS_hit s x kwL k HX.out he,Bool.true_or]
    go_wp2
    go_ret
    exact ⟨by rw [HV.out];rfl,hb⟩
  ·obtain rfl:k=16:=by omega
   have hno:=hasS_none s kwL (fun j x h=>hq.out j x (by have:=(lE h).1;rw [kw_len] at this;exact this) h)
   have HV:Hid (isKw s=decide (ofN s ≠ 0)):=by
    show _=_
    rw [isKw,hno,Bool.false_or]
   clear hno hc
   have hE:(ofE s == 0)=decide (ofN s ≠ 0):=by
    unfold ofE
    by_cases h:ofN s=0
    ·simp [h]
    ·simp [h]
   cases hz:decide (ofN s ≠ 0)
   all_goals
    rw [hz] at hE HV
    clear hz
    go_wp2_with (go_at_call 132;refine (refOf _ _).mono ?_;rintro e w1 ⟨rfl,hb1⟩)
    go_ret
    exact ⟨by rw [HV.out];rfl,bcomp hb hb1⟩
def named (s:ByteArray):Bool:=tokName s && !isKw s
theorem refNamed (s:ByteArray) (w:World) (hs:s.size<=maxLen) :
  Calls Tryz.prog 93 #[.string s] w fun e w'=>e=.returned (.bool (named s))/\Below w.heap.size w w':=by
 have h2:=Hd (fun w=>refKeyword s w)
 have c1:=fun w=>refTokName s w hs
 unfold named
 generalize tokName s=y at *
 have h1:=Hd c1
 clear c1
 cases y
 ·go_enter Tryz.func93,Tryz.ntmps93
  go_wp2_with (go_at_call 63;refine (h1.out _).mono ?_;rintro e w1 ⟨rfl,rfl⟩)
  go_ret
  exact ⟨rfl,bR _ _⟩
 ·go_enter Tryz.func93,Tryz.ntmps93
  go_wp2_with (first|(go_at_call 63;refine (h1.out _).mono ?_;rintro e w1 ⟨rfl,rfl⟩)|(go_at_call 120;refine (h2.out _).mono ?_;rintro e w2 ⟨rfl,hb2⟩))
  go_ret
  exact ⟨rfl,hb2⟩
open Go.ChangeShapes Go.WideShapes Go.ChangeAt Go.RowKit
def formL:List (Bool × Bool × Int):=[(true,false,1),(true,false,0),(true,true,1),(false,true,2),(true,true,-1),(true,true,0),(false,true,1),(true,true,1),(false,true,0),(false,true,1),(false,true,0),(false,false,0),(false,false,1)]
structure Laid (w:World):Prop where
 kw:∃ v,w.cell? ⟨1,0,none⟩=some v/\RdStrs none w v kwL
 forms:∀ k x,formL[k]?=some x->w.cell? ⟨2,k * 3,none⟩=some (.bool x.1)/\w.cell? ⟨2,k * 3+1,none⟩=some (.bool x.2.1)/\w.cell? ⟨2,k * 3+2,none⟩=some (.int .i64 x.2.2)
theorem Laid.keep {w w':World} (h:Laid w) (k:Below w.heap.size w w'):Laid w':=
 ⟨by obtain ⟨v,h1,h2⟩:=h.kw;exact ⟨v,cell_keep k h1,h2.keep k⟩,fun i x hx=>by obtain ⟨h1,h2,h3⟩:=h.forms i x hx;exact ⟨cell_keep k h1,cell_keep k h2,cell_keep k h3⟩⟩
theorem named_is (s:ByteArray):named s=(tokName s && ((ofE s != 0) && !hasS s kwL)):=by
 unfold named isKw ofE
 by_cases h:ofN s=0
 ·simp [h]
 ·simp [h]
theorem named_any (s:ByteArray) (w:World) (hs:s.size<=maxLen) (hL:Laid w) :
  Calls Tryz.prog 114 #[.string s] w fun e w'=>e=.returned (.bool (named s))/\Below w.heap.size w w':=by
 have HT:=Hd (fun w=>tokName_any s w hs)
 have HLd:=Hd hL
 clear hL
 rw [named_is]
 cases ht:tokName s
 ·have c1:=HT.out
  rw [ht] at c1
  have HC:=Hd c1
  clear c1 ht HT
  go_enter Tryz.func114,Tryz.ntmps114
  go_wp2_with (first|(go_at_call 131;refine (of_any _ _).mono ?_;rintro e w1 ⟨rfl,hb1⟩)|(go_at_call 52;refine (HC.out _).mono ?_;rintro e w2 ⟨rfl,hb2⟩))
  go_ret
  exact ⟨rfl,bcomp hb1 hb2⟩
 ·have c1:=HT.out
  rw [ht] at c1
  have HC:=Hd c1
  clear c1 ht HT
  cases he:(ofE s != 0)
  ·go_enter Tryz.func114,Tryz.ntmps114
   go_wp2_with (first|(go_at_call 131;refine (of_any _ _).mono ?_;rintro e w1 ⟨rfl,hb1⟩)|(go_at_call 52;refine (HC.out _).mono ?_;rintro e w2 ⟨rfl,hb2⟩))
   go_ret
   exact ⟨rfl,bcomp hb1 hb2⟩
  ·obtain ⟨kv,hk1,hk2⟩:=HLd.out.kw
   have HK:=Hd (And.intro hk1 hk2)
   clear hk1 hk2
   go_enter Tryz.func114,Tryz.ntmps114
   go_wp2_with (first|(go_at_call 131;refine (of_any _ _).mono ?_;rintro e w1 ⟨rfl,hb1⟩)|(go_at_call 52;refine (HC.out _).mono ?_;rintro e w2 ⟨rfl,hb2⟩;have hg:=cell_keep (bcomp hb1 hb2) HK.out.1)|(go_at_call 53;refine (slicesContains _ kwL s _ (HK.out.2.keep (bcomp hb1 hb2))).mono ?_;rintro e w3 ⟨rfl,rfl⟩))
   go_ret
   exact ⟨rfl,bcomp hb1 hb2⟩
structure FaultD where
 line:Int
 col:Int
 e:Int
deriving DecidableEq
def needF (ok:Bool) (line col e:Int):Option FaultD:=if ok then none else some ⟨line,col,e⟩
def firstF {α:Type} (f:List α->α->Option FaultD):List α->List α->Option FaultD
 | _,[]=>none
 | d,x :: r=>(f d x).or (firstF f (d ++ [x]) r)
theorem firstF_append {α:Type} (f:List α->α->Option FaultD):∀ (l m d:List α),firstF f d (l ++ m)=(firstF f d l).or (firstF f (d ++ l) m)
 | [],m,d=>by simp [firstF]
 | x :: r,m,d=>by
  simp only [List.cons_append,firstF]
  rw [firstF_append f r m (d ++ [x]),Option.or_assoc,List.append_assoc];rfl
theorem firstF_step {α:Type} (f:List α->α->Option FaultD) (l:List α) (k:Nat) (x:α) (h:l[k]?=some x) :
  firstF f (l.take k) (l.drop k)=(f (l.take k) x).or (firstF f (l.take (k+1)) (l.drop (k+1))):=by
 have hk:k<l.length:=(lE h).1
 rw [List.drop_eq_getElem_cons hk,firstF]
 have hx:l[k]=x:=(lE h).2
 rw [hx,List.take_add_one,h];rfl
theorem firstF_congr {α:Type} (f g:List α->α->Option FaultD):∀ (l d:List α),(∀ (p:List α) x r,d ++ l=p ++ x :: r->d.length<=p.length->firstF f d (l.take (p.length - d.length))=none->f p x=g p x)->firstF f d l=firstF g d l
 | [],_,_=>rfl
 | x :: r,d,h=>by
  simp only [firstF]
  have h0:=h d x r rfl (nR _) (by simp [firstF])
  rw [<- h0]
  cases hf:f d x with
  | some y=>rfl
  | none=>
   simp only [Option.none_or]
   refine firstF_congr f g r (d ++ [x]) (fun p y r' e hl hn=>?_)
   refine h p y r' (by rw [<- e];simp) (by simp at hl;omega) ?_
   simp only [List.length_append,List.length_singleton] at hl hn
   rw [show p.length - d.length=(p.length - (d.length+1))+1 from by omega,List.take_succ_cons,firstF,hf]
   exact hn
theorem firstF_none {α:Type} (f:List α->α->Option FaultD):∀ (l d:List α),firstF f d l=none ↔ ∀ (p:List α) x r,l=p ++ x :: r->f (d ++ p) x=none
 | [],d=>by simp [firstF]
 | y :: l,d=>by
  simp only [firstF,Option.or_eq_none_iff,firstF_none f l (d ++ [y])]
  constructor
  ·rintro ⟨h1,h2⟩ p x r e
   cases p with
   | nil=>simp at e;rw [List.append_nil,<- e.1];exact h1
   | cons z p=>
    simp at e
    have:=h2 p x r e.2
    rw [<- e.1]
    simpa using this
  ·intro h
   exact ⟨by simpa using h [] y l rfl,fun p x r e=>by have:=h (y :: p) x r (by simp [e]);simpa using this⟩
def wantZ (x:InstrD) (n:Int):Int:=if x.kind=1 then arityZ x.op else n
def argB (a:ArgD):Bool:=a.name.toList.isEmpty || (named a.name && a.num == 0)
def opB (x:InstrD):Bool:=if x.kind=1 then decide (2<=x.op) && decide (x.op<=20) else x.op == 0
def fieldB (d:Bool) (s:ByteArray):Bool:=if d then named s else s.toList.isEmpty
def countB (x:InstrD) (n:Int):Bool:=(decide (wantZ x n<0) || decide ((x.args.length:Int)=wantZ x n)) && decide (x.args.length<=32)
def formB (x:InstrD):Bool:=
 match formL[x.kind.toNat]? with
 | none=>false
 | some (d,nm,n)=>opB x && fieldB d x.dst && fieldB nm x.name && countB x n && x.args.all argB
theorem named_empty {s:ByteArray} (h:s.toList.isEmpty=true):named s=false:=by
 have:s.size=0:=by
  rw [ByteArray.toList_eq] at h
  simp at h
  show s.data.size=0
  simp [h]
 unfold named tokName
 simp [this]
def labelsOf (l:List InstrD):List ByteArray:=(l.filter fun x=>x.kind == 10).map (·.name)
def sitesOf (s:List ByteArray) (l:List InstrD):List ByteArray:=l.foldl (fun s x=>if x.kind == 7 then putL x.name s else s) s
theorem labelsOf_snoc (l:List InstrD) (x:InstrD):labelsOf (l ++ [x])=if x.kind == 10 then labelsOf l ++ [x.name] else labelsOf l:=by
 unfold labelsOf
 cases h:x.kind == 10 <;> simp [h]
theorem sitesOf_append (s:List ByteArray) (l m:List InstrD):sitesOf s (l ++ m)=sitesOf (sitesOf s l) m:=by unfold sitesOf;rw [List.foldl_append]
theorem sitesOf_snoc (s:List ByteArray) (l:List InstrD) (x:InstrD):sitesOf s (l ++ [x])=if x.kind == 7 then putL x.name (sitesOf s l) else sitesOf s l:=by rw [sitesOf_append];rfl
def restF (chans arrays labels sites:List ByteArray) (x:InstrD):Option FaultD:=
 if x.kind=5 \/ x.kind=6 then needF (inL x.name chans) x.line x.col 6
 else if x.kind=2 \/ x.kind=3 then needF (inL x.name arrays) x.line x.col 6
 else if x.kind=10 then needF (!inL x.name labels) x.line x.col 8
 else if x.kind=7 then needF (inL x.name sites || decide (sites.length<32)) x.line x.col 5
 else none
def instrF (chans arrays:List ByteArray) (main:Bool) (labels sites:List ByteArray) (x:InstrD):Option FaultD:=
 (needF (formB x && !(main && x.kind == 12)) x.line x.col 4).or (restF chans arrays labels sites x)
def codeF (chans arrays:List ByteArray) (main:Bool) (sites:List ByteArray) (code:List InstrD):Option FaultD:=
 firstF (fun d x=>instrF chans arrays main (labelsOf d) (sitesOf sites d) x) [] code
def instrsF (chans arrays:List ByteArray) (main:Bool) (sites:List ByteArray) (code:List InstrD) (line col:Int):Option FaultD:=
 (needF (decide (code.length<=1024)) line col 5).or (codeF chans arrays main sites code)
def targetF (params:List (ByteArray × Int)) (labels:List ByteArray) (x:InstrD):Option FaultD:=
 if x.kind=8 \/ x.kind=9 then needF (inL x.name labels) x.line x.col 6
 else if x.kind=4 then (needF (atL x.name params).isSome x.line x.col 6).or (needF (decide ((atL x.name params).getD 0=x.args.length)) x.line x.col 4)
 else none
def targetsF (params:List (ByteArray × Int)) (labels:List ByteArray) (code:List InstrD):Option FaultD:=firstF (fun _ x=>targetF params labels x) [] code
def declF (acc:List ByteArray) (s:ByteArray) (line col:Int):Option FaultD:=(needF (named s) line col 4).or (needF (!inL s acc) line col 8)
def declsF (l:List ByteArray) (line col:Int):Option FaultD:=firstF (fun d s=>declF d s line col) [] l
def aNames (l:List ArrD):List ByteArray:=l.map (·.name)
def fNames (l:List FuncD):List ByteArray:=l.map (·.name)
def paramsOf (l:List FuncD):List (ByteArray × Int):=l.map fun f=>(f.name,(f.params.length:Int))
def codesOf (l:List FuncD):List InstrD:=l.flatMap (·.code)
def arrF (d:List ArrD) (a:ArrD):Option FaultD:=(declF (aNames d) a.name 0 0).or (needF (decide (1<=a.size) && decide (a.size<=64)) 0 0 3)
def arrsF (l:List ArrD):Option FaultD:=firstF arrF [] l
def funcF (chans arrays:List ByteArray) (d:List FuncD) (f:FuncD):Option FaultD:=
 (declF (fNames d) f.name f.line f.col).or ((needF (decide (f.params.length<=32)) f.line f.col 5).or ((declsF f.params f.line f.col).or (instrsF chans arrays false (sitesOf [] (codesOf d)) f.code f.line f.col)))
def funcsF (chans arrays:List ByteArray) (l:List FuncD):Option FaultD:=firstF (funcF chans arrays) [] l
def callsOf (l:List InstrD):List ByteArray:=(l.filter fun x=>x.kind == 4).map (·.name)
def CallsN (fs:List FuncD) (a b:ByteArray):Prop:=∃ f,fs.find? (fun f=>decide (f.name=a))=some f/\b ∈ callsOf f.code
inductive Reach (fs:List FuncD) (a:ByteArray):ByteArray->Prop
 | one {b:ByteArray}:CallsN fs a b->Reach fs a b
 | more {b c:ByteArray}:Reach fs a b->CallsN fs b c->Reach fs a c
open Classical in
noncomputable def loopB (fs:List FuncD) (a:ByteArray):Bool:=decide (Reach fs a a)
noncomputable def loopsF (fs:List FuncD):Option FaultD:=firstF (fun _ f=>needF (!loopB fs f.name) f.line f.col 9) [] fs
def targsF (fs:List FuncD):Option FaultD:=firstF (fun _ f=>targetsF (paramsOf fs) (labelsOf f.code) f.code) [] fs
noncomputable def checkF (p:ProgD):Option FaultD:=
 (needF (decide (1<=p.width) && decide (p.width<=64)) 0 0 3).or <|
 (needF (decide (p.chans.length<=32)) 0 0 5).or <|
 (declsF p.chans 0 0).or <|
 (needF (decide (p.arrays.length<=32)) 0 0 5).or <|
 (arrsF p.arrays).or <|
 (needF (decide (p.funcs.length<=32)) 0 0 5).or <|
 (funcsF p.chans (aNames p.arrays) p.funcs).or <|
 (instrsF p.chans (aNames p.arrays) true (sitesOf [] (codesOf p.funcs)) p.main 0 0).or <|
 (targsF p.funcs).or <|
 (targetsF (paramsOf p.funcs) (labelsOf p.main) p.main).or <|
 loopsF p.funcs
end Go.Proofs.YtgllkgedjplpdaaGreatDoor
