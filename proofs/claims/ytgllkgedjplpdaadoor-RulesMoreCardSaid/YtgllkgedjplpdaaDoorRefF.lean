/- Contracts of the reference's small functions on programs: Is, Find, Body, ArrayNames. Condition: what comes in reads as the list, the program. Contracts of the reference's Fields and Form. Condition: the instruction reads. Contract of the reference's Form: it says of an instruction what prog.formed says. Condition: the instruction reads. -/
import Derived.Test.YtgllkgedjplpdaaDoorForm
set_option linter.all false
set_option maxRecDepth 1000000
set_option maxHeartbeats 12800000
set_option linter.unusedVariables false
set_option linter.unusedSimpArgs false
namespace Go.Proofs.YtgllkgedjplpdaaDoor
open Go.ChangeShapes Go.WideShapes Go.ChangeAt Go.RowKit
theorem bytes_toList (a:ByteArray):a.toList=a.data.toList:=ByteArray.toList_eq a
theorem beq_is (a b:ByteArray):(a.toList == b.toList)=decide (a=b):=by
 by_cases h:a=b
 ·subst h;simp
 ·rw [decide_eq_false h]
  rw [beq_eq_false_iff_ne]
  exact fun e=>h (toList_inj e)
theorem inL_hit {s x:ByteArray} {l:List ByteArray} {k:Nat} (h:l[k]?=some x) (e:(x.toList == s.toList)=true):inL s l=true:=by
 rw [beq_is] at e
 have:=of_decide_eq_true e
 subst this
 exact inL_iff.2 (List.mem_of_getElem? h)
theorem inL_none {s:ByteArray} {l:List ByteArray} (h:∀ (k:Nat) x,l[k]?=some x→(x.toList == s.toList)=false):inL s l=false:=by
 rw [inL_not]
 intro hm
 obtain ⟨k,hk⟩:=List.getElem?_of_mem hm
 have:=h k s hk
 rw [beq_is] at this
 simp at this
theorem refIs (v:Value) (l:List ByteArray) (s:ByteArray) (w:World) (h:RdStrs none w v l) :
  Calls Tryd.prog 60 #[v,.string s] w fun e w'=>e=.returned (.bool (inL s l))∧w=w':=by
 obtain ⟨a,c,rfl,hl,hr⟩:=h
 have HR:=Lib.hid hr
 clear hr
 go_enter Tryd.func60,Tryd.ntmps60
 go_wp2
 go_loop [5] (fun i=>∃ k:Nat,k≤l.length∧i=.int .i64 k∧Hid (∀ (j:Nat) x,j<k→l[j]?=some x→(x.toList == s.toList)=false)) (fun i=>l.length - (intOf i).toNat)
 case atStart=>exact ⟨0,Nat.zero_le _,rfl,fun j x h=>by omega⟩
 case round=>
  obtain ⟨k,hk,rfl,hq⟩:=hrel
  by_cases hlt:k<l.length
  ·obtain ⟨x,hx⟩:∃ x,l[k]?=some x:=⟨_,List.getElem?_eq_getElem hlt⟩
   obtain ⟨b,o,rfl,_,c0,_⟩:=HR.out k x hx
   have HX:=Lib.hid hx
   have hlt2:(k:Int)<(l.length:Int):=by omega
   clear hx
   cases he:(x.toList == s.toList)
   ·have HE:=Lib.hid he
    go_wp2
    go_round
    case rel=>
     refine ⟨k+1,by omega,by go_num,fun j y hj hy=>?_⟩
     rcases Nat.lt_or_ge j k with h|h
     ·exact hq.out j y h hy
     ·obtain rfl:j=k:=by omega
      rw [HX.out] at hy;cases hy;exact HE.out
    case measure=>simp [intOf];omega
   ·have HV:=Lib.hid (inL_hit HX.out he)
    go_wp2
    go_ret
    exact ⟨by rw [HV.out];rfl,rfl⟩
  ·obtain rfl:k=l.length:=by omega
   have HV:=Lib.hid (inL_none (s:=s) (l:=l) (fun j x h=>hq.out j x (List.getElem?_eq_some_iff.1 h).1 h))
   go_wp2
   go_ret
   exact ⟨by rw [HV.out];rfl,rfl⟩
def findZ (s:ByteArray) (l:List FuncD):Int:=match l.findIdx? (fun f=>decide (f.name=s)) with|some i=>(i:Int)|none=>-1
theorem findZ_hit {s:ByteArray} {l:List FuncD} {k:Nat} {x:FuncD} (h:l[k]?=some x) (e:(x.name.toList == s.toList)=true) (hq:∀ (j:Nat) y,j<k→l[j]?=some y→(y.name.toList == s.toList)=false):findZ s l=k:=by
 unfold findZ
 have:l.findIdx? (fun f=>decide (f.name=s))=some k:=by
  rw [List.findIdx?_eq_some_iff_getElem]
  have hk:=(List.getElem?_eq_some_iff.1 h).1
  refine ⟨hk,?_,fun j hj=>?_⟩
  ·rw [(List.getElem?_eq_some_iff.1 h).2];rw [beq_is] at e;exact e
  ·have:=hq j _ hj (List.getElem?_eq_getElem (by omega))
   rw [beq_is] at this
   simpa using this
 rw [this]
theorem findZ_none {s:ByteArray} {l:List FuncD} (hq:∀ (j:Nat) y,l[j]?=some y→(y.name.toList == s.toList)=false):findZ s l=-1:=by
 unfold findZ
 have:l.findIdx? (fun f=>decide (f.name=s))=none:=by
  rw [List.findIdx?_eq_none_iff]
  intro x hx
  obtain ⟨j,hj⟩:=List.getElem?_of_mem hx
  have:=hq j x hj
  rw [beq_is] at this
  simpa using this
 rw [this]
def codeAt (p:ProgD) (i:Nat):List InstrD:=match p.funcs[i]? with|some f=>f.code|none=>p.main
open Go.ChangeShapes Go.WideShapes Go.ChangeAt Go.RowKit
def formR:List (Bool × Bool × Int):=[(true,false,1),(true,false,-1),(true,true,1),(false,true,2),(true,true,-1),(true,true,0),(false,true,1),(true,true,1),(false,true,0),(false,true,1),(false,true,0),(false,false,0),(false,false,1)]
theorem formR_is (k:Nat) (d nm:Bool) (n:Int) (h:formL[k]?=some (d,nm,n)):∃ m,formR[k]?=some (d,nm,m)∧(k ≠ 1→m=n):=by
 have hk:k<13:=by have:=(List.getElem?_eq_some_iff.1 h).1;rw [formL_len] at this;exact this
 have:k=0 ∨ k=1 ∨ k=2 ∨ k=3 ∨ k=4 ∨ k=5 ∨ k=6 ∨ k=7 ∨ k=8 ∨ k=9 ∨ k=10 ∨ k=11 ∨ k=12:=by omega
 rcases this with rfl|rfl|rfl|rfl|rfl|rfl|rfl|rfl|rfl|rfl|rfl|rfl|rfl <;> (cases h;exact ⟨_,rfl,by simp⟩)
theorem field_casesR (d:Bool) (s:ByteArray):(fieldB d s=false∧d=true∧named s=false) ∨ (fieldB d s=false∧d=false∧s.toList.isEmpty=false) ∨ (fieldB d s=true∧d=true∧named s=true) ∨ (fieldB d s=true∧d=false∧s.toList.isEmpty=true):=by
 cases d
 ·cases h:s.toList.isEmpty <;> simp [fieldB,h]
 ·cases h2:named s <;> simp [fieldB,h2]
open Go.ChangeShapes Go.WideShapes Go.ChangeAt Go.RowKit
def lenB (x:InstrD) (z:Int):Bool:=decide ((x.args.length:Int)=z)
theorem lenB_cases (x:InstrD) (z:Int):(lenB x z=true∧((x.args.length:Int) != z)=false) ∨ (lenB x z=false∧((x.args.length:Int) != z)=true):=by
 unfold lenB
 by_cases h:(x.args.length:Int)=z <;> simp [h]
def rbad (d nm:Bool) (x:InstrD) (z:Int):Bool:=!(fieldB d x.dst && fieldB nm x.name && lenB x z)
theorem rbad_1 (d nm:Bool) (x:InstrD) (z:Int) (h:fieldB d x.dst=false):rbad d nm x z=true:=by unfold rbad;rw [h];rfl
theorem rbad_2 (d nm:Bool) (x:InstrD) (z:Int) (_:fieldB d x.dst=true) (h:fieldB nm x.name=false):rbad d nm x z=true:=by unfold rbad;rw [h];cases fieldB d x.dst <;> rfl
theorem rbad_3 (d nm:Bool) (x:InstrD) (z:Int) (b:Bool) (h0:fieldB d x.dst=true) (h:fieldB nm x.name=true) (h2:lenB x z=b):rbad d nm x z=!b:=by unfold rbad;rw [h0,h,h2];cases b <;> rfl
theorem formB_rbad (x:InstrD) (d nm:Bool) (n z:Int) (hf:formL[x.kind.toNat]?=some (d,nm,n)) (hz:lenB x z=countB x n) (h:rbad d nm x z=true):formB x=false:=by
 unfold rbad at h
 unfold formB
 rw [hf,]
 simp only
 rw [← hz]
 revert h
 cases fieldB d x.dst <;> cases fieldB nm x.name <;> cases lenB x z <;> simp
theorem formB_rgood (x:InstrD) (d nm:Bool) (n z:Int) (hf:formL[x.kind.toNat]?=some (d,nm,n)) (ho:opB x=true) (hz:lenB x z=countB x n) (h:rbad d nm x z=false):formB x=x.args.all argB:=by
 unfold rbad at h
 unfold formB
 rw [hf]
 simp only
 rw [← hz,ho]
 revert h
 cases fieldB d x.dst <;> cases fieldB nm x.name <;> cases lenB x z <;> simp
theorem count_op (x:InstrD) (n:Int) (hw:wantZ x n=arityZ x.op):lenB x (arityZ x.op)=countB x n:=by
 have hz:=arityZ_le x.op
 unfold lenB countB
 rw [hw]
 by_cases h:(x.args.length:Int)=arityZ x.op
 ·have h3:x.args.length≤32:=by omega
  simp [h,h3]
 ·have:¬ arityZ x.op<0:=by omega
  simp [h];omega
theorem count_plain (x:InstrD) (n:Int) (h0:0≤n) (h2:n≤2) (hw:wantZ x n=n):lenB x n=countB x n:=by
 unfold lenB countB
 rw [hw]
 by_cases h:(x.args.length:Int)=n
 ·have h3:x.args.length≤32:=by omega
  simp [h,h3]
 ·simp [h];omega
theorem count_call (x:InstrD) (n:Int) (hn:n=-1) (hw:wantZ x n=n) (m:Int) (hm:m=min (x.args.length:Int) 32):lenB x m=countB x n:=by
 unfold lenB countB
 rw [hw,hn,hm]
 by_cases h:x.args.length≤32
 ·have:min (x.args.length:Int) 32=x.args.length:=by omega
  simp [h,this]
 ·have:¬ (x.args.length:Int)=min (x.args.length:Int) 32:=by omega
  simp [this,h]
theorem run_min2 {P:Program} (ats:Array TypeId) (ty:TypeId) (a b:Int) (w:World):(Builtin.min_ ats ty #[.int .i64 a,.int .i64 b]).run P w=.ok (.int .i64 (min a b)) w:=by
 have:(if b<a then b else a)=min a b:=by split <;> omega
 simp [Builtin.min_,Builtin.min2,this]
end Go.Proofs.YtgllkgedjplpdaaDoor
