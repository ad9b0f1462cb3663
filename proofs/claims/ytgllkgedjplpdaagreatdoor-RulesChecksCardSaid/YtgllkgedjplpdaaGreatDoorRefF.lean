/- Contracts of the reference's small functions on programs: Is, Find, Body, ArrayNames. Condition: what comes in reads as the list, the program. -/
import Derived.Test.YtgllkgedjplpdaaGreatDoorForm
set_option linter.all false
set_option maxRecDepth 1000000
set_option maxHeartbeats 12800000
set_option linter.unusedVariables false
set_option linter.unusedSimpArgs false
namespace Go.Proofs.YtgllkgedjplpdaaGreatDoor
open Go.ChangeShapes Go.WideShapes Go.ChangeAt Go.RowKit
theorem beq_is (a b:ByteArray):(a.toList == b.toList)=decide (a=b):=by
 by_cases h:a=b
 ·subst h;simp
 ·rw [decide_eq_false h]
  rw [beq_eq_false_iff_ne]
  exact fun e=>h (toList_inj e)
theorem inL_hit {s x:ByteArray} {l:List ByteArray} {k:Nat} (h:l[k]?=some x) (e:(x.toList == s.toList)=true):inL s l=true:=by
 rw [beq_is] at e
 have:=of_decide_eq_true e
 subst this
 exact inL_iff.2 (List.mem_of_getElem? h)
theorem inL_none {s:ByteArray} {l:List ByteArray} (h:∀ (k:Nat) x,l[k]?=some x->(x.toList == s.toList)=false):inL s l=false:=by
 rw [inL_not]
 intro hm
 obtain ⟨k,hk⟩:=List.getElem?_of_mem hm
 have:=h k s hk
 rw [beq_is] at this
 simp at this
theorem refIs (v:Value) (l:List ByteArray) (s:ByteArray) (w:World) (h:RdStrs none w v l) :
  Calls Tryz.prog 64 #[v,.string s] w fun e w'=>e=.returned (.bool (inL s l))/\w=w':=by
 obtain ⟨a,c,rfl,hl,hr⟩:=h
 have HR:=Hd hr
 clear hr
 go_enter Tryz.func64,Tryz.ntmps64
 go_wp2
 go_loop [5] (fun i=>∃ k:Nat,k<=l.length/\i=.int .i64 k/\Hid (∀ (j:Nat) x,j<k->l[j]?=some x->(x.toList == s.toList)=false)) (fun i=>l.length - (intOf i).toNat)
 case atStart=>exact ⟨0,Nat.zero_le _,rfl,fun j x h=>by omega⟩
 case round=>
  obtain ⟨k,hk,rfl,hq⟩:=hrel
  by_cases hlt:k<l.length
  ·obtain ⟨x,hx⟩:∃ x,l[k]?=some x:=⟨_,lG hlt⟩
   obtain ⟨b,o,rfl,_,c0,_⟩:=HR.out k x hx
   have HX:=Hd hx
   have hlt2:(k:Int)<(l.length:Int):=by omega
   clear hx
   cases he:(x.toList == s.toList)
   ·have HE:=Hd he
    go_wp2
    go_round
    case rel=>
     refine ⟨k+1,by omega,by go_num,fun j y hj hy=>?_⟩
     rcases Nat.lt_or_ge j k with h|h
     ·exact hq.out j y h hy
     ·obtain rfl:j=k:=by omega
      rw [HX.out] at hy;cases hy;exact HE.out
    case measure=>simp [intOf];omega
   ·have HV:=Hd (inL_hit HX.out he)
    go_wp2
    go_ret
    exact ⟨by rw [HV.out];rfl,rfl⟩
  ·obtain rfl:k=l.length:=by omega
   have HV:=Hd (inL_none (s:=s) (l:=l) (fun j x h=>hq.out j x (lE h).1 h))
   go_wp2
   go_ret
   exact ⟨by rw [HV.out];rfl,rfl⟩
def findZ (s:ByteArray) (l:List FuncD):Int:=match l.findIdx? (fun f=>decide (f.name=s)) with|some i=>(i:Int)|none=>-1
theorem findZ_hit {s:ByteArray} {l:List FuncD} {k:Nat} {x:FuncD} (h:l[k]?=some x) (e:(x.name.toList == s.toList)=true) (hq:∀ (j:Nat) y,j<k->l[j]?=some y->(y.name.toList == s.toList)=false):findZ s l=k:=by
 unfold findZ
 have:l.findIdx? (fun f=>decide (f.name=s))=some k:=by
  rw [List.findIdx?_eq_some_iff_getElem]
  have hk:=(lE h).1
  refine ⟨hk,?_,fun j hj=>?_⟩
  ·rw [(lE h).2];rw [beq_is] at e;exact e
  ·have:=hq j _ hj (lG (by omega))
   rw [beq_is] at this
   simpa using this
 rw [this]
theorem findZ_none {s:ByteArray} {l:List FuncD} (hq:∀ (j:Nat) y,l[j]?=some y->(y.name.toList == s.toList)=false):findZ s l=-1:=by
 unfold findZ
 have:l.findIdx? (fun f=>decide (f.name=s))=none:=by
  rw [List.findIdx?_eq_none_iff]
  intro x hx
  obtain ⟨j,hj⟩:=List.getElem?_of_mem hx
  have:=hq j x hj
  rw [beq_is] at this
  simpa using this
 rw [this]
theorem refFind (p:ProgD) (cv av fv mv:Value) (s:ByteArray) (w:World) (h:RdFuncs none w fv p.funcs) :
  Calls Tryz.prog 123 #[progV p cv av fv mv,.string s] w fun e w'=>e=.returned (.int .i64 (findZ s p.funcs))/\Below w.heap.size w w':=by
 obtain ⟨a,c,rfl,hl,hr⟩:=h
 have HR:=Hd hr
 clear hr
 go_enter Tryz.func123,Tryz.ntmps123
 go_upto_region 1 with fail
 have hb0:Below w.heap.size w (w.alloc (.cells #[.int .i64 p.width,cv,av,.slice a p.funcs.length c,mv] 27)):=(bR _ _).alloc (nR _) _
 have G0:=heap_alloc_new w (.cells #[.int .i64 p.width,cv,av,.slice a p.funcs.length c,mv] 27)
 generalize w.alloc (.cells #[.int .i64 p.width,cv,av,.slice a p.funcs.length c,mv] 27)=W1 at *
 have i3:=row_of G0 3 (.slice a p.funcs.length c) rfl
 have HB:=Hd hb0
 clear G0 hb0
 go_wp2
 go_loop [5] (fun i=>∃ k:Nat,k<=p.funcs.length/\i=.int .i64 k/\Hid (∀ (j:Nat) x,j<k->p.funcs[j]?=some x->(x.name.toList == s.toList)=false)) (fun i=>p.funcs.length - (intOf i).toNat)
 case atStart=>exact ⟨0,Nat.zero_le _,rfl,fun j x h=>by omega⟩
 case round=>
  obtain ⟨k,hk,rfl,hq⟩:=hrel
  by_cases hlt:k<p.funcs.length
  ·obtain ⟨x,hx⟩:∃ x,p.funcs[k]?=some x:=⟨_,lG hlt⟩
   obtain ⟨b,o,pv2,cv2,rfl,_,c0,_⟩:=HR.out k x hx
   have d0:=cell_keep HB.out c0
   have HX:=Hd hx
   have hlt2:(k:Int)<(p.funcs.length:Int):=by omega
   clear hx c0
   cases he:(x.name.toList == s.toList)
   ·have HE:=Hd he
    go_wp2
    go_round
    case rel=>
     refine ⟨k+1,by omega,by go_num,fun j y hj hy=>?_⟩
     rcases Nat.lt_or_ge j k with h|h
     ·exact hq.out j y h hy
     ·obtain rfl:j=k:=by omega
      rw [HX.out] at hy;cases hy;exact HE.out
    case measure=>simp [intOf];omega
   ·have HV:=Hd (findZ_hit HX.out he hq.out)
    go_wp2
    go_ret
    exact ⟨by rw [HV.out];rfl,HB.out⟩
  ·obtain rfl:k=p.funcs.length:=by omega
   have HV:=Hd (findZ_none (s:=s) (l:=p.funcs) (fun j x h=>hq.out j x (lE h).1 h))
   go_wp2
   go_ret
   exact ⟨by rw [HV.out];rfl,HB.out⟩
def codeAt (p:ProgD) (i:Nat):List InstrD:=match p.funcs[i]? with|some f=>f.code|none=>p.main
theorem refBody (p:ProgD) (cv av fv mv:Value) (i:Nat) (w:World) (h:RdProg none w p cv av fv mv) (hi:i<=p.funcs.length) :
  Calls Tryz.prog 67 #[progV p cv av fv mv,.int .i64 i] w fun e w'=>∃ v,e=.returned v/\RdInstrs none w v (codeAt p i)/\Below w.heap.size w w':=by
 obtain ⟨_,_,h3,h4,_⟩:=h
 obtain ⟨a,c,rfl,hl,hr⟩:=h3
 have HR:=Hd hr
 have H4:=Hd h4
 obtain ⟨a4,c4,rfl,_⟩:=id h4
 clear hr h4
 by_cases hlt:i<p.funcs.length
 ·obtain ⟨x,hx⟩:∃ x,p.funcs[i]?=some x:=⟨_,lG hlt⟩
  obtain ⟨b,o,pv2,cv2,rfl,_,c0,c1,c2,_,_,hf⟩:=HR.out i x hx
  have HV:Hid (RdInstrs none w cv2 (codeAt p i)):=by show RdInstrs _ _ _ _;unfold codeAt;rw [hx];exact hf.2.1
  obtain ⟨a5,c5,rfl,_⟩:=id hf.2.1
  have hlt2:(i:Int)<(p.funcs.length:Int):=by omega
  clear hx c0 c1 hf
  go_enter Tryz.func67,Tryz.ntmps67
  go_upto_region 1 with fail
  have hb0:Below w.heap.size w (w.alloc (.cells #[.int .i64 p.width,cv,av,.slice (some ⟨b,o,none⟩) p.funcs.length c,.slice a4 p.main.length c4] 27)):=(bR _ _).alloc (nR _) _
  have G0:=heap_alloc_new w (.cells #[.int .i64 p.width,cv,av,.slice (some ⟨b,o,none⟩) p.funcs.length c,.slice a4 p.main.length c4] 27)
  generalize w.alloc (.cells #[.int .i64 p.width,cv,av,.slice (some ⟨b,o,none⟩) p.funcs.length c,.slice a4 p.main.length c4] 27)=W1 at *
  have i3:=row_of G0 3 (.slice (some ⟨b,o,none⟩) p.funcs.length c) rfl
  have d2:=cell_keep hb0 c2
  have HB:=Hd hb0
  clear G0 hb0 c2
  go_wp2
  go_ret
  exact ⟨_,rfl,HV.out,HB.out⟩
 ·obtain rfl:i=p.funcs.length:=by omega
  have HV:Hid (RdInstrs none w (.slice a4 p.main.length c4) (codeAt p p.funcs.length)):=by show RdInstrs _ _ _ _;unfold codeAt;rw [List.getElem?_eq_none (nR _)];exact H4.out
  go_enter Tryz.func67,Tryz.ntmps67
  go_upto_region 1 with fail
  have hb0:Below w.heap.size w (w.alloc (.cells #[.int .i64 p.width,cv,av,.slice a p.funcs.length c,.slice a4 p.main.length c4] 27)):=(bR _ _).alloc (nR _) _
  have G0:=heap_alloc_new w (.cells #[.int .i64 p.width,cv,av,.slice a p.funcs.length c,.slice a4 p.main.length c4] 27)
  generalize w.alloc (.cells #[.int .i64 p.width,cv,av,.slice a p.funcs.length c,.slice a4 p.main.length c4] 27)=W1 at *
  have i3:=row_of G0 3 (.slice a p.funcs.length c) rfl
  have i4:=row_of G0 4 (.slice a4 p.main.length c4) rfl
  have HB:=Hd hb0
  clear G0 hb0
  go_wp2
  go_ret
  exact ⟨_,rfl,HV.out,HB.out⟩
theorem refArrayNames (p:ProgD) (cv av fv mv:Value) (w:World) (h:RdArrs none w av p.arrays) :
  Calls Tryz.prog 60 #[progV p cv av fv mv] w fun e w'=>∃ v,e=.returned v/\RdStrs (some (upFrom w.heap.size)) w' v (aNames p.arrays)/\Below w.heap.size w w':=by
 obtain ⟨a,c,rfl,hl,hr⟩:=h
 obtain ⟨i0,hi,hz0,hz1,hz2⟩:=info_parts infoStr
 have hok:Hid (∀ s ∈ aNames p.arrays,s.size<=maxLen):=by
  intro s hs
  obtain ⟨x,hx,rfl⟩:=List.mem_map.1 hs
  obtain ⟨i,hi⟩:=List.getElem?_of_mem hx
  obtain ⟨b,o,_,_,_,_,_,h1⟩:=hr i x hi
  exact h1
 have HR:=Hd hr
 clear hr
 go_enter Tryz.func60,Tryz.ntmps60
 go_upto_region 1 with fail
 have hb0:Below w.heap.size w (w.alloc (.cells #[.int .i64 p.width,cv,.slice a p.arrays.length c,fv,mv] 27)):=(bR _ _).alloc (nR _) _
 have G0:=heap_alloc_new w (.cells #[.int .i64 p.width,cv,.slice a p.arrays.length c,fv,mv] 27)
 generalize w.alloc (.cells #[.int .i64 p.width,cv,.slice a p.arrays.length c,fv,mv] 27)=W1 at *
 have i2:=row_of G0 2 (.slice a p.arrays.length c) rfl
 have HB:=Hd hb0
 have hsz0:w.heap.size<W1.heap.size:=(aE G0).1
 clear G0 hb0
 go_wp2
 go_loopw [3,4] (fun v i wr=>∃ k:Nat,k<=p.arrays.length/\i=.int .i64 k/\wr.ownsRow W1.heap.size 9 1 v k ((aNames (p.arrays.take k)).flatMap strCells)/\Below W1.heap.size W1 wr) (fun _ i _=>p.arrays.length - (intOf i).toNat)
 case atStart=>exact ⟨0,Nat.zero_le _,rfl,World.ownsRow_nil _ _ _ _,bR _ _⟩
 case round=>
  obtain ⟨k,hk,rfl,hown,hb⟩:=hrel
  have j2:=cell_keep hb i2
  by_cases hlt:k<p.arrays.length
  ·obtain ⟨x,hx⟩:∃ x,p.arrays[k]?=some x:=⟨_,lG hlt⟩
   obtain ⟨b,o,rfl,_,c0,_⟩:=HR.out k x hx
   have c0':=cell_keep (bcomp HB.out hb) c0
   have HX:Hid ((aNames (p.arrays.take (k+1))).flatMap strCells=(aNames (p.arrays.take k)).flatMap strCells ++ strCells x.name):=by
    show _=_
    rw [List.take_add_one,hx];simp [aNames]
   clear c0 hx
   have hsz:=hb.size
   have hlt2:(k:Int)<(p.arrays.length:Int):=by omega
   go_wp2_with (at_builtin;refine wpList_append_own _ rfl (.tmp 12) (.tmp 19) 22 rfl W1.heap.size 9 i0 (.string ⟨#[]⟩) 1 16 Tryz.underlying22 hi hz0 hz1 hz2 rfl (by decide) _ _ _ rfl (hown.alloc _) ⟨wr.heap.size,0,none⟩ 1 1 (strCells x.name) rfl rfl (many_new _ _ _) ?c2 ?c3 ?c4 ?c5 ?_)
   case c2=>intro u hu;simp [strCells] at hu;subst hu;rfl
   case c3=>unfold maxLen;omega
   case c4=>omega
   case c5=>simp;omega
   ·intro v' w1 hown' hgrow _
    rw [<- HX.out] at hown'
    have hb1:=(hb.alloc hb.size (.cells (strCells x.name).toArray 9)).grown hgrow (by simp;omega) (own_row_le hown)
    clear hown
    go_wp2
    go_roundw
    case rel=>exact ⟨k+1,by omega,by go_num,hown',hb1⟩
    case measure=>simp [intOf];omega
  ·obtain rfl:k=p.arrays.length:=by omega
   rw [List.take_length] at hown
   go_wp2
   go_ret
   have e:(aNames p.arrays).length=p.arrays.length:=by simp [aNames]
   rw [<- e] at hown
   exact ⟨_,rfl,(own_strs hown (by omega) hok.out).up (by omega),bcomp HB.out hb⟩
open Go.ChangeShapes Go.WideShapes Go.ChangeAt Go.RowKit
def formR:List (Bool × Bool × Int):=[(true,false,1),(true,false,-1),(true,true,1),(false,true,2),(true,true,-1),(true,true,0),(false,true,1),(true,true,1),(false,true,0),(false,true,1),(false,true,0),(false,false,0),(false,false,1)]
theorem formR_is (k:Nat) (d nm:Bool) (n:Int) (h:formL[k]?=some (d,nm,n)):∃ m,formR[k]?=some (d,nm,m)/\(k ≠ 1->m=n):=by
 have hk:k<13:=by have:=(lE h).1;rw [formL_len] at this;exact this
 have:k=0 \/ k=1 \/ k=2 \/ k=3 \/ k=4 \/ k=5 \/ k=6 \/ k=7 \/ k=8 \/ k=9 \/ k=10 \/ k=11 \/ k=12:=by omega
 rcases this with rfl|rfl|rfl|rfl|rfl|rfl|rfl|rfl|rfl|rfl|rfl|rfl|rfl <;> (cases h;exact ⟨_,rfl,by simp⟩)
theorem refFields (k:Nat) (f:Bool × Bool × Int) (h:formR[k]?=some f) (w:World) :
  Calls Tryz.prog 121 #[.int .u8 k] w fun e w'=>e=.returned (.tuple #[.agg #[.bool f.1,.bool f.2.1,.int .i64 f.2.2],.bool true])/\Below w.heap.size w w':=by
 have hk:k<13:=by have:=(lE h).1;exact this
 have:k=0 \/ k=1 \/ k=2 \/ k=3 \/ k=4 \/ k=5 \/ k=6 \/ k=7 \/ k=8 \/ k=9 \/ k=10 \/ k=11 \/ k=12:=by omega
 clear hk
 rcases this with rfl|rfl|rfl|rfl|rfl|rfl|rfl|rfl|rfl|rfl|rfl|rfl|rfl <;>
  (cases h
   go_enter Tryz.func121,Tryz.ntmps121
   go_wp2
   first
     | exact bodyPost_ret (v:=.tuple #[.agg #[.bool true,.bool false,.int .i64 1],.bool true]) (by simp [results,Tryz.results121,go_sem]) rfl ⟨rfl,(bR _ _).alloc (nR _) _⟩
     | exact bodyPost_ret (v:=.tuple #[.agg #[.bool true,.bool false,.int .i64 (-1)],.bool true]) (by simp [results,Tryz.results121,go_sem]) rfl ⟨rfl,(bR _ _).alloc (nR _) _⟩
     | exact bodyPost_ret (v:=.tuple #[.agg #[.bool true,.bool true,.int .i64 1],.bool true]) (by simp [results,Tryz.results121,go_sem]) rfl ⟨rfl,(bR _ _).alloc (nR _) _⟩
     | exact bodyPost_ret (v:=.tuple #[.agg #[.bool false,.bool true,.int .i64 2],.bool true]) (by simp [results,Tryz.results121,go_sem]) rfl ⟨rfl,(bR _ _).alloc (nR _) _⟩
     | exact bodyPost_ret (v:=.tuple #[.agg #[.bool true,.bool true,.int .i64 (-1)],.bool true]) (by simp [results,Tryz.results121,go_sem]) rfl ⟨rfl,(bR _ _).alloc (nR _) _⟩
     | exact bodyPost_ret (v:=.tuple #[.agg #[.bool true,.bool true,.int .i64 0],.bool true]) (by simp [results,Tryz.results121,go_sem]) rfl ⟨rfl,(bR _ _).alloc (nR _) _⟩
     | exact bodyPost_ret (v:=.tuple #[.agg #[.bool false,.bool true,.int .i64 1],.bool true]) (by simp [results,Tryz.results121,go_sem]) rfl ⟨rfl,(bR _ _).alloc (nR _) _⟩
     | exact bodyPost_ret (v:=.tuple #[.agg #[.bool false,.bool true,.int .i64 0],.bool true]) (by simp [results,Tryz.results121,go_sem]) rfl ⟨rfl,(bR _ _).alloc (nR _) _⟩
     | exact bodyPost_ret (v:=.tuple #[.agg #[.bool false,.bool false,.int .i64 0],.bool true]) (by simp [results,Tryz.results121,go_sem]) rfl ⟨rfl,(bR _ _).alloc (nR _) _⟩
     | exact bodyPost_ret (v:=.tuple #[.agg #[.bool false,.bool false,.int .i64 1],.bool true]) (by simp [results,Tryz.results121,go_sem]) rfl ⟨rfl,(bR _ _).alloc (nR _) _⟩)
theorem refFields_no (a:Int) (h:13<=a) (w:World) :
  Calls Tryz.prog 121 #[.int .u8 a] w fun e w'=>e=.returned (.tuple #[.agg #[.bool false,.bool false,.int .i64 0],.bool false])/\Below w.heap.size w w':=by
 have e0:(a == 0)=false:=by rw [beq_eq_false_iff_ne];omega
 have e1:(a == 1)=false:=by rw [beq_eq_false_iff_ne];omega
 have e2:(a == 2)=false:=by rw [beq_eq_false_iff_ne];omega
 have e3:(a == 3)=false:=by rw [beq_eq_false_iff_ne];omega
 have e4:(a == 4)=false:=by rw [beq_eq_false_iff_ne];omega
 have e5:(a == 5)=false:=by rw [beq_eq_false_iff_ne];omega
 have e6:(a == 6)=false:=by rw [beq_eq_false_iff_ne];omega
 have e7:(a == 7)=false:=by rw [beq_eq_false_iff_ne];omega
 have e8:(a == 8)=false:=by rw [beq_eq_false_iff_ne];omega
 have e9:(a == 9)=false:=by rw [beq_eq_false_iff_ne];omega
 have e10:(a == 10)=false:=by rw [beq_eq_false_iff_ne];omega
 have e11:(a == 11)=false:=by rw [beq_eq_false_iff_ne];omega
 have e12:(a == 12)=false:=by rw [beq_eq_false_iff_ne];omega
 go_enter Tryz.func121,Tryz.ntmps121
 go_wp2
 exact bodyPost_ret (v:=.tuple #[.agg #[.bool false,.bool false,.int .i64 0],.bool false]) (by simp [results,Tryz.results121,go_sem]) rfl ⟨rfl,(bR _ _).alloc (nR _) _⟩
theorem field_casesR (d:Bool) (s:ByteArray):(fieldB d s=false/\d=true/\named s=false) \/ (fieldB d s=false/\d=false/\s.toList.isEmpty=false) \/ (fieldB d s=true/\d=true/\named s=true) \/ (fieldB d s=true/\d=false/\s.toList.isEmpty=true):=by
 cases d
 ·cases h:s.toList.isEmpty <;> simp [fieldB,h]
 ·cases h2:named s <;> simp [fieldB,h2]
open Go.ChangeShapes Go.WideShapes Go.ChangeAt Go.RowKit
def lenB (x:InstrD) (z:Int):Bool:=decide ((x.args.length:Int)=z)
theorem lenB_cases (x:InstrD) (z:Int):(lenB x z=true/\((x.args.length:Int) != z)=false) \/ (lenB x z=false/\((x.args.length:Int) != z)=true):=by
 unfold lenB
 by_cases h:(x.args.length:Int)=z <;> simp [h]
def rbad (d nm:Bool) (x:InstrD) (z:Int):Bool:=!(fieldB d x.dst && fieldB nm x.name && lenB x z)
theorem rbad_1 (d nm:Bool) (x:InstrD) (z:Int) (h:fieldB d x.dst=false):rbad d nm x z=true:=by unfold rbad;rw [h];rfl
theorem rbad_2 (d nm:Bool) (x:InstrD) (z:Int) (_:fieldB d x.dst=true) (h:fieldB nm x.name=false):rbad d nm x z=true:=by unfold rbad;rw [h];cases fieldB d x.dst <;> rfl
theorem rbad_3 (d nm:Bool) (x:InstrD) (z:Int) (b:Bool) (h0:fieldB d x.dst=true) (h:fieldB nm x.name=true) (h2:lenB x z=b):rbad d nm x z=!b:=by unfold rbad;rw [h0,h,h2];cases b <;> rfl
theorem formB_rbad (x:InstrD) (d nm:Bool) (n z:Int) (hf:formL[x.kind.toNat]?=some (d,nm,n)) (hz:lenB x z=countB x n) (h:rbad d nm x z=true):formB x=false:=by
 unfold rbad at h
 unfold formB
 rw [hf,]
 simp only
 rw [<- hz]
 revert h
 cases fieldB d x.dst <;> cases fieldB nm x.name <;> cases lenB x z <;> simp
theorem formB_rgood (x:InstrD) (d nm:Bool) (n z:Int) (hf:formL[x.kind.toNat]?=some (d,nm,n)) (ho:opB x=true) (hz:lenB x z=countB x n) (h:rbad d nm x z=false):formB x=x.args.all argB:=by
 unfold rbad at h
 unfold formB
 rw [hf]
 simp only
 rw [<- hz,ho]
 revert h
 cases fieldB d x.dst <;> cases fieldB nm x.name <;> cases lenB x z <;> simp
theorem count_op (x:InstrD) (n:Int) (hw:wantZ x n=arityZ x.op):lenB x (arityZ x.op)=countB x n:=by
 have hz:=arityZ_le x.op
 unfold lenB countB
 rw [hw]
 by_cases h:(x.args.length:Int)=arityZ x.op
 ·have h3:x.args.length<=32:=by omega
  simp [h,h3]
 ·have:¬ arityZ x.op<0:=by omega
  simp [h];omega
theorem count_plain (x:InstrD) (n:Int) (h0:0<=n) (h2:n<=2) (hw:wantZ x n=n):lenB x n=countB x n:=by
 unfold lenB countB
 rw [hw]
 by_cases h:(x.args.length:Int)=n
 ·have h3:x.args.length<=32:=by omega
  simp [h,h3]
 ·simp [h];omega
theorem count_call (x:InstrD) (n:Int) (hn:n=-1) (hw:wantZ x n=n) (m:Int) (hm:m=min (x.args.length:Int) 32):lenB x m=countB x n:=by
 unfold lenB countB
 rw [hw,hn,hm]
 by_cases h:x.args.length<=32
 ·have:min (x.args.length:Int) 32=x.args.length:=by omega
  simp [h,this]
 ·have:¬ (x.args.length:Int)=min (x.args.length:Int) 32:=by omega
  simp [this,h]
theorem run_min2 {P:Program} (ats:Array TypeId) (ty:TypeId) (a b:Int) (w:World):(Builtin.min_ ats ty #[.int .i64 a,.int .i64 b]).run P w=.ok (.int .i64 (min a b)) w:=by
 have:(if b<a then b else a)=min a b:=by split <;> omega
 simp [Builtin.min_,Builtin.min2,this]
theorem refForm (x:InstrD) (av:Value) (w:World) (h:RdInstr none w x av) :
  Calls Tryz.prog 94 #[instrV x av] w fun e w'=>e=.returned (.bool (formB x))/\Below w.heap.size w w':=by
 obtain ⟨h1,hk,ho,hli,hco,hds,hns⟩:=h
 obtain ⟨a,c,rfl,hlen,hr⟩:=id h1
 have HR:=Hd hr
 clear h1 hr
 obtain ⟨hk0,hk1⟩:=hk
 obtain ⟨ho0,ho1⟩:=ho
 by_cases hk13:13<=x.kind
 ·have HV:Hid (formB x=false):=by
   show _=_
   unfold formB
   rw [List.getElem?_eq_none (by rw [formL_len];omega)]
  have HF:=Hd (fun w=>refFields_no x.kind hk13 w)
  go_enter Tryz.func94,Tryz.ntmps94
  go_wp2_with (go_at_call 121;refine (HF.out _).mono ?_;rintro e w1 ⟨rfl,hb⟩)
  go_ret
  exact ⟨by rw [HV.out];rfl,((bR _ _).alloc (nR _) _).trans (hb.mono (by simp)) |>.alloc (by have:=hb.size;simp at this;omega) _⟩
 ·obtain ⟨⟨d,nm,n⟩,hf⟩:∃ f,formL[x.kind.toNat]?=some f:=⟨_,lG (by rw [formL_len];omega)⟩
  have HF0:=Hd hf
  generalize hkn:x.kind.toNat=kn at *
  have ekn:x.kind=(kn:Int):=by omega
  obtain ⟨m,hfm,hmn⟩:=formR_is kn d nm n hf
  have HF:=Hd (fun w=>refFields kn _ hfm w)
  have hnl:=formL_n kn _ hf
  obtain ⟨hn1,hn2,hn3⟩:=hnl
  have hop:=op_cases x n kn ekn ho0
  have HMN:=Hd hmn
  have HN3:=Hd hn3
  clear hf hfm hmn hn3
  go_enter Tryz.func94,Tryz.ntmps94
  go_upto_region 1 with fail
  have hb0:Below w.heap.size w (w.alloc (.cells #[.int .u8 x.kind,.int .u8 x.op,.string x.dst,.string x.name,.slice a x.args.length c,.int .i64 x.line,.int .i64 x.col] 50)):=(bR _ _).alloc (nR _) _
  have G0:=heap_alloc_new w (.cells #[.int .u8 x.kind,.int .u8 x.op,.string x.dst,.string x.name,.slice a x.args.length c,.int .i64 x.line,.int .i64 x.col] 50)
  rw [ekn] at hb0 G0
  generalize w.alloc (.cells #[.int .u8 (kn:Int),.int .u8 x.op,.string x.dst,.string x.name,.slice a x.args.length c,.int .i64 x.line,.int .i64 x.col] 50)=W1 at *
  have i0:=row_of G0 0 (.int .u8 kn) rfl
  have i1:=row_of G0 1 (.int .u8 x.op) rfl
  have i2:=row_of G0 2 (.string x.dst) rfl
  have i3:=row_of G0 3 (.string x.name) rfl
  have i4:=row_of G0 4 (.slice a x.args.length c) rfl
  have HB0:=Hd hb0
  clear hb0 G0
  have HD:=Hd ekn
  clear ekn hkn hk0 hk1 hk13
  go_upto_region 2 with (go_at_call 121;refine (HF.out _).mono ?_;rintro e w1 ⟨rfl,hb1⟩;have i0':=cell_keep hb1 i0;have i1':=cell_keep hb1 i1;have i2':=cell_keep hb1 i2;have i3':=cell_keep hb1 i3;have i4':=cell_keep hb1 i4;have HB1:=Hd (bcomp HB0.out hb1);clear i0 i1 i2 i3 i4 hb1 HF)
  have hb1:Below w1.heap.size w1 (w1.alloc (.cells #[.bool d,.bool nm,.int .i64 m] 185)):=(bR _ _).alloc (nR _) _
  have G1:=heap_alloc_new w1 (.cells #[.bool d,.bool nm,.int .i64 m] 185)
  generalize w1.alloc (.cells #[.bool d,.bool nm,.int .i64 m] 185)=W2 at *
  have j0:=cell_keep hb1 i0'
  have j1:=cell_keep hb1 i1'
  have j2:=cell_keep hb1 i2'
  have j3:=cell_keep hb1 i3'
  have j4:=cell_keep hb1 i4'
  have k0:=row_of G1 0 (.bool d) rfl
  have k1:=row_of G1 1 (.bool nm) rfl
  have k2:=row_of G1 2 (.int .i64 m) rfl
  have HB:=Hd (bcomp HB1.out hb1)
  clear i0' i1' i2' i3' i4' hb1 G1
  generalize hN:w1.heap.size=N1 at *
  clear hN
  rcases hop with ⟨hv,rfl,ho2⟩|⟨hv,rfl,ho2⟩|⟨hv,rfl,ho2,ho3,hw⟩|⟨hv,hk1,ho2⟩|⟨hv,hk1,ho2,hw⟩
  ·have HV:=Hd (formB_op x hv)
   clear hv
   go_wp2
   go_ret
   exact ⟨by rw [HV.out];rfl,HB.out⟩
  ·have HV:=Hd (formB_op x hv)
   clear hv
   go_wp2
   go_ret
   exact ⟨by rw [HV.out];rfl,HB.out⟩
  rotate_left
  ·have HV:=Hd (formB_op x hv)
   have hk2:((kn:Int) == 1)=false:=by rw [beq_eq_false_iff_ne];omega
   have ho4:(x.op != 0)=true:=by rw [bne_iff_ne];exact ho2
   clear hv
   go_wp2
   go_ret
   exact ⟨by rw [HV.out];rfl,HB.out⟩
  rotate_left
  ·have c1:=fun w=>refArity x.op w
   have hcnt:=count_op x n hw
   generalize arityZ x.op=z at *
   have HA:=Hd c1
   have HO:=Hd (And.intro hv hcnt)
   clear c1 hv hw hcnt
   go_upto_region 13 with (go_at_call 122;refine (HA.out _).mono ?_;rintro e w2 ⟨rfl,rfl⟩)
   have l2:=j2
   have l3:=j3
   have l4:=j4
   have m0:=k0
   have m1:=k1
   have HC:=HB
   clear j0 j1 j2 j3 j4 k0 k1 k2 HA HB
   generalize W2=w2 at *
   go_cut [89] (fun cc wx=>cc=.bool (rbad d nm x z)/\Below w2.heap.size w2 wx)
   case first=>
    have c1:=fun (w:World)=>refNamed x.dst w hds
    have c2:=fun (w:World)=>refNamed x.name w hns
    rcases field_casesR d x.dst with ⟨f1,rfl,f2⟩|⟨f1,rfl,f2⟩|⟨f1,rfl,f2⟩|⟨f1,rfl,f2⟩
    all_goals try rw [f2] at c1
    all_goals have C1:=Hd c1
    all_goals clear c1
    iterate 2
     ·have HV:=Hd (rbad_1 _ nm x z f1)
      clear f1
      go_wp2_with (go_at_call 93;refine (C1.out _).mono ?_;rintro e w3 ⟨rfl,hb3⟩;have p0:=cell_keep hb3 m0)
      go_meet
      exact ⟨by rw [HV.out],by first|exact hb3|exact bR _ _⟩
    all_goals
     have F1:=Hd f1
     clear f1
     rcases field_casesR nm x.name with ⟨f1,rfl,f3⟩|⟨f1,rfl,f3⟩|⟨f1,rfl,f3⟩|⟨f1,rfl,f3⟩
     all_goals try rw [f3] at c2
     all_goals have C2:=Hd c2
     all_goals clear c2
     iterate 2
      ·have HV:=Hd (rbad_2 _ _ x z F1.out f1)
       clear f1
       go_wp2_with (first
        | (go_at_call_of 93 (Value.string x.dst);refine (C1.out _).mono ?_;rintro e w3 ⟨rfl,hb3⟩;have o2:=cell_keep hb3 l2;have o3:=cell_keep hb3 l3;have o4:=cell_keep hb3 l4;have p0:=cell_keep hb3 m0;have p1:=cell_keep hb3 m1)
        | (go_at_call_of 93 (Value.string x.name);refine (C2.out _).mono ?_;rintro e w4 ⟨rfl,hb4⟩;first|have o6:=cell_keep hb4 p1|have o6:=cell_keep hb4 m1))
       go_meet
       exact ⟨by rw [HV.out],by first|exact bcomp hb3 hb4|exact hb4|exact hb3|exact bR _ _⟩
     all_goals
      have F2:=Hd f1
      clear f1
      rcases lenB_cases x z with ⟨f4,f5⟩|⟨f4,f5⟩
      all_goals
       have HV:=Hd (rbad_3 _ _ x z _ F1.out F2.out f4)
       clear f4
       go_wp2_with (first
        | (go_at_call_of 93 (Value.string x.dst);refine (C1.out _).mono ?_;rintro e w3 ⟨rfl,hb3⟩;have o2:=cell_keep hb3 l2;have o3:=cell_keep hb3 l3;have o4:=cell_keep hb3 l4;have p0:=cell_keep hb3 m0;have p1:=cell_keep hb3 m1)
        | (go_at_call_of 93 (Value.string x.name);refine (C2.out _).mono ?_;rintro e w4 ⟨rfl,hb4⟩;(first|have o5:=cell_keep hb4 o4|have o5:=cell_keep hb4 l4);(first|have o6:=cell_keep hb4 p1|have o6:=cell_keep hb4 m1)))
       go_meet
       exact ⟨by rw [HV.out];rfl,by first|exact bcomp hb3 hb4|exact hb4|exact hb3|exact bR _ _⟩
   case rest=>
    obtain ⟨rfl,hb2⟩:=hcut
    have n4:=cell_keep hb2 l4
    have HE:=Hd (bcomp HC.out hb2)
    have hf:=HF0.out
    have hd:=HD.out
    clear l2 l3 l4 m0 m1 hb2
    cases hfb:rbad d nm x z
    rotate_left
    ·have HV:=Hd (formB_rbad x d nm _ z (by rw [hd];exact hf) HO.out.2 hfb)
     clear hf hd
     go_wp2
     go_ret
     exact ⟨by rw [HV.out];rfl,HE.out⟩
    have HV:=Hd (formB_rgood x d nm _ z (by rw [hd];exact hf) HO.out.1 HO.out.2 hfb)
    clear hf hd
    go_wp2
    go_loopw [6] (fun i wr=>∃ k:Nat,k<=x.args.length/\i=.int .i64 k/\Hid (∀ (j:Nat) y,j<k->x.args[j]?=some y->argB y=true)/\wr.cell? ⟨w.heap.size,4,none⟩=some (.slice a x.args.length c)/\Below w.heap.size w wr) (fun i _=>x.args.length - (intOf i).toNat)
    case atStart=>exact ⟨0,Nat.zero_le _,rfl,(fun j y h=>by omega),n4,HE.out⟩
    case round=>
     obtain ⟨k,hk,rfl,hq,hc4,hb⟩:=hrel
     clear n4
     by_cases hlt:k<x.args.length
     ·obtain ⟨y,hy⟩:∃ y,x.args[k]?=some y:=⟨_,lG hlt⟩
      obtain ⟨b,o,rfl,_,c0,c1,hu,hns2⟩:=HR.out k y hy
      have d0:=cell_keepB hb c0 (block_lt_of_cell c0)
      have d1:=cell_keepB hb c1 (block_lt_of_cell c1)
      have HY:=Hd hy
      have hlt2:(k:Int)<(x.args.length:Int):=by omega
      have HQ:Hid (argB y=true->∀ (j:Nat) y,j<k+1->x.args[j]?=some y->argB y=true):=by
       intro hay j y' hj hy'
       rcases Nat.lt_or_ge j k with h|h
       ·exact hq.out j y' h hy'
       ·obtain rfl:j=k:=by omega
        rw [hy] at hy';cases hy';exact hay
      have H4:=Hd hc4
      have c2:=fun (w:World)=>refNamed y.name w hns2
      clear c0 c1 hy
      rcases arg_cases y with ⟨f1,f2⟩|⟨f1,f2,f3⟩|⟨f1,f2,f3,f4⟩|⟨f1,f2,f3,f4⟩
      all_goals
       have HA:=Hd f1
       clear f1
       first|rw [f3] at c2|skip
       have C2:=Hd c2
       clear c2
       first|clear f3|skip
       go_wp2_with (go_at_call 93;refine (C2.out _).mono ?_;rintro e w1' ⟨rfl,hb1'⟩;have hc':=heap1_of hb1';have gg:=row_of hc'.1 1 (.int .u64 y.num) rfl;have hb3:=hb.trans (hc'.2.mono hb.size);have g4:=cell_keep hc'.2 H4.out;clear hc' hb1')
       first
        | (go_roundw
           case rel=>first|exact ⟨k+1,by omega,by go_num,HQ.out HA.out,g4,hb3⟩|exact ⟨k+1,by omega,by go_num,HQ.out HA.out,cell_keep ((bR _ _).alloc (nR _) _) H4.out,hb.alloc hb.size _⟩
           case measure=>simp [intOf];omega)
        | (go_ret
           exact ⟨by rw [HV.out,all_miss HY.out HA.out];rfl,by first|exact hb3|exact hb.alloc hb.size _⟩)
     ·obtain rfl:k=x.args.length:=by omega
      go_wp2
      go_ret
      exact ⟨by rw [HV.out,all_hit (fun j y hj=>hq.out j y (lE hj).1 hj)];rfl,hb⟩
  ·have hk2:((kn:Int) == 1)=false:=by rw [beq_eq_false_iff_ne];omega
   obtain rfl:=HMN.out hk1
   by_cases hk4:kn=4
   ·subst hk4
    have hn:m=-1:=HN3.out.2 rfl
    obtain ⟨z,hz⟩:∃ z:Int,z=min (x.args.length:Int) 32:=⟨_,rfl⟩
    have hcnt:=count_call x m hn hw z hz
    have HO:=Hd (And.intro hv hcnt)
    have HZ:=Hd hz
    have hmin:∀ w,(Builtin.min_ #[3,3] 3 #[.int .i64 (x.args.length:Int),.int .i64 32]).run Tryz.prog w=.ok (.int .i64 z) w:=by
     intro w
     rw [hz]
     exact run_min2 _ _ _ _ w
    clear hv hw hcnt hn hz
    go_upto_region 13 with fail
    have l2:=j2
    have l3:=j3
    have l4:=j4
    have m0:=k0
    have m1:=k1
    have HC:=HB
    clear j0 j1 j2 j3 j4 k0 k1 k2 HB hmin
    generalize W2=w2 at *
    go_cut [89] (fun cc wx=>cc=.bool (rbad d nm x z)/\Below w2.heap.size w2 wx)
    case first=>
     have c1:=fun (w:World)=>refNamed x.dst w hds
     have c2:=fun (w:World)=>refNamed x.name w hns
     rcases field_casesR d x.dst with ⟨f1,rfl,f2⟩|⟨f1,rfl,f2⟩|⟨f1,rfl,f2⟩|⟨f1,rfl,f2⟩
     all_goals try rw [f2] at c1
     all_goals have C1:=Hd c1
     all_goals clear c1
     iterate 2
      ·have HV:=Hd (rbad_1 _ nm x z f1)
       clear f1
       go_wp2_with (go_at_call 93;refine (C1.out _).mono ?_;rintro e w3 ⟨rfl,hb3⟩;have p0:=cell_keep hb3 m0)
       go_meet
       exact ⟨by rw [HV.out],by first|exact hb3|exact bR _ _⟩
     all_goals
      have F1:=Hd f1
      clear f1
      rcases field_casesR nm x.name with ⟨f1,rfl,f3⟩|⟨f1,rfl,f3⟩|⟨f1,rfl,f3⟩|⟨f1,rfl,f3⟩
      all_goals try rw [f3] at c2
      all_goals have C2:=Hd c2
      all_goals clear c2
      iterate 2
       ·have HV:=Hd (rbad_2 _ _ x z F1.out f1)
        clear f1
        go_wp2_with (first
         | (go_at_call_of 93 (Value.string x.dst);refine (C1.out _).mono ?_;rintro e w3 ⟨rfl,hb3⟩;have o2:=cell_keep hb3 l2;have o3:=cell_keep hb3 l3;have o4:=cell_keep hb3 l4;have p0:=cell_keep hb3 m0;have p1:=cell_keep hb3 m1)
         | (go_at_call_of 93 (Value.string x.name);refine (C2.out _).mono ?_;rintro e w4 ⟨rfl,hb4⟩;first|have o6:=cell_keep hb4 p1|have o6:=cell_keep hb4 m1))
        go_meet
        exact ⟨by rw [HV.out],by first|exact bcomp hb3 hb4|exact hb4|exact hb3|exact bR _ _⟩
      all_goals
       have F2:=Hd f1
       clear f1
       rcases lenB_cases x z with ⟨f4,f5⟩|⟨f4,f5⟩
       all_goals
        have HV:=Hd (rbad_3 _ _ x z _ F1.out F2.out f4)
        clear f4
        go_wp2_with (first
         | (go_at_call_of 93 (Value.string x.dst);refine (C1.out _).mono ?_;rintro e w3 ⟨rfl,hb3⟩;have o2:=cell_keep hb3 l2;have o3:=cell_keep hb3 l3;have o4:=cell_keep hb3 l4;have p0:=cell_keep hb3 m0;have p1:=cell_keep hb3 m1)
         | (go_at_call_of 93 (Value.string x.name);refine (C2.out _).mono ?_;rintro e w4 ⟨rfl,hb4⟩;(first|have o5:=cell_keep hb4 o4|have o5:=cell_keep hb4 l4);(first|have o6:=cell_keep hb4 p1|have o6:=cell_keep hb4 m1)))
        go_meet
        exact ⟨by rw [HV.out];rfl,by first|exact bcomp hb3 hb4|exact hb4|exact hb3|exact bR _ _⟩
    case rest=>
     obtain ⟨rfl,hb2⟩:=hcut
     have n4:=cell_keep hb2 l4
     have HE:=Hd (bcomp HC.out hb2)
     have hf:=HF0.out
     have hd:=HD.out
     clear l2 l3 l4 m0 m1 hb2
     cases hfb:rbad d nm x z
     rotate_left
     ·have HV:=Hd (formB_rbad x d nm _ z (by rw [hd];exact hf) HO.out.2 hfb)
      clear hf hd
      go_wp2
      go_ret
      exact ⟨by rw [HV.out];rfl,HE.out⟩
     have HV:=Hd (formB_rgood x d nm _ z (by rw [hd];exact hf) HO.out.1 HO.out.2 hfb)
     clear hf hd
     go_wp2
     go_loopw [6] (fun i wr=>∃ k:Nat,k<=x.args.length/\i=.int .i64 k/\Hid (∀ (j:Nat) y,j<k->x.args[j]?=some y->argB y=true)/\wr.cell? ⟨w.heap.size,4,none⟩=some (.slice a x.args.length c)/\Below w.heap.size w wr) (fun i _=>x.args.length - (intOf i).toNat)
     case atStart=>exact ⟨0,Nat.zero_le _,rfl,(fun j y h=>by omega),n4,HE.out⟩
     case round=>
      obtain ⟨k,hk,rfl,hq,hc4,hb⟩:=hrel
      clear n4
      by_cases hlt:k<x.args.length
      ·obtain ⟨y,hy⟩:∃ y,x.args[k]?=some y:=⟨_,lG hlt⟩
       obtain ⟨b,o,rfl,_,c0,c1,hu,hns2⟩:=HR.out k y hy
       have d0:=cell_keepB hb c0 (block_lt_of_cell c0)
       have d1:=cell_keepB hb c1 (block_lt_of_cell c1)
       have HY:=Hd hy
       have hlt2:(k:Int)<(x.args.length:Int):=by omega
       have HQ:Hid (argB y=true->∀ (j:Nat) y,j<k+1->x.args[j]?=some y->argB y=true):=by
        intro hay j y' hj hy'
        rcases Nat.lt_or_ge j k with h|h
        ·exact hq.out j y' h hy'
        ·obtain rfl:j=k:=by omega
         rw [hy] at hy';cases hy';exact hay
       have H4:=Hd hc4
       have c2:=fun (w:World)=>refNamed y.name w hns2
       clear c0 c1 hy
       rcases arg_cases y with ⟨f1,f2⟩|⟨f1,f2,f3⟩|⟨f1,f2,f3,f4⟩|⟨f1,f2,f3,f4⟩
       all_goals
        have HA:=Hd f1
        clear f1
        first|rw [f3] at c2|skip
        have C2:=Hd c2
        clear c2
        first|clear f3|skip
        go_wp2_with (go_at_call 93;refine (C2.out _).mono ?_;rintro e w1' ⟨rfl,hb1'⟩;have hc':=heap1_of hb1';have gg:=row_of hc'.1 1 (.int .u64 y.num) rfl;have hb3:=hb.trans (hc'.2.mono hb.size);have g4:=cell_keep hc'.2 H4.out;clear hc' hb1')
        first
         | (go_roundw
            case rel=>first|exact ⟨k+1,by omega,by go_num,HQ.out HA.out,g4,hb3⟩|exact ⟨k+1,by omega,by go_num,HQ.out HA.out,cell_keep ((bR _ _).alloc (nR _) _) H4.out,hb.alloc hb.size _⟩
            case measure=>simp [intOf];omega)
         | (go_ret
            exact ⟨by rw [HV.out,all_miss HY.out HA.out];rfl,by first|exact hb3|exact hb.alloc hb.size _⟩)
      ·obtain rfl:k=x.args.length:=by omega
       go_wp2
       go_ret
       exact ⟨by rw [HV.out,all_hit (fun j y hj=>hq.out j y (lE hj).1 hj)];rfl,hb⟩
   ·have hk5:((kn:Int) == 4)=false:=by rw [beq_eq_false_iff_ne];omega
    have hn:¬ m=-1:=fun e=>hk4 (HN3.out.1 e)
    obtain ⟨z,hz⟩:∃ z,z=m:=⟨_,rfl⟩
    subst hz
    have hcnt:=count_plain x z (by omega) hn2 hw
    have HO:=Hd (And.intro hv hcnt)
    clear hv hw hcnt hn
    go_upto_region 13 with fail
    have l2:=j2
    have l3:=j3
    have l4:=j4
    have m0:=k0
    have m1:=k1
    have HC:=HB
    clear j0 j1 j2 j3 j4 k0 k1 k2 HB
    generalize W2=w2 at *
    go_cut [89] (fun cc wx=>cc=.bool (rbad d nm x z)/\Below w2.heap.size w2 wx)
    case first=>
     have c1:=fun (w:World)=>refNamed x.dst w hds
     have c2:=fun (w:World)=>refNamed x.name w hns
     rcases field_casesR d x.dst with ⟨f1,rfl,f2⟩|⟨f1,rfl,f2⟩|⟨f1,rfl,f2⟩|⟨f1,rfl,f2⟩
     all_goals try rw [f2] at c1
     all_goals have C1:=Hd c1
     all_goals clear c1
     iterate 2
      ·have HV:=Hd (rbad_1 _ nm x z f1)
       clear f1
       go_wp2_with (go_at_call 93;refine (C1.out _).mono ?_;rintro e w3 ⟨rfl,hb3⟩;have p0:=cell_keep hb3 m0)
       go_meet
       exact ⟨by rw [HV.out],by first|exact hb3|exact bR _ _⟩
     all_goals
      have F1:=Hd f1
      clear f1
      rcases field_casesR nm x.name with ⟨f1,rfl,f3⟩|⟨f1,rfl,f3⟩|⟨f1,rfl,f3⟩|⟨f1,rfl,f3⟩
      all_goals try rw [f3] at c2
      all_goals have C2:=Hd c2
      all_goals clear c2
      iterate 2
       ·have HV:=Hd (rbad_2 _ _ x z F1.out f1)
        clear f1
        go_wp2_with (first
         | (go_at_call_of 93 (Value.string x.dst);refine (C1.out _).mono ?_;rintro e w3 ⟨rfl,hb3⟩;have o2:=cell_keep hb3 l2;have o3:=cell_keep hb3 l3;have o4:=cell_keep hb3 l4;have p0:=cell_keep hb3 m0;have p1:=cell_keep hb3 m1)
         | (go_at_call_of 93 (Value.string x.name);refine (C2.out _).mono ?_;rintro e w4 ⟨rfl,hb4⟩;first|have o6:=cell_keep hb4 p1|have o6:=cell_keep hb4 m1))
        go_meet
        exact ⟨by rw [HV.out],by first|exact bcomp hb3 hb4|exact hb4|exact hb3|exact bR _ _⟩
      all_goals
       have F2:=Hd f1
       clear f1
       rcases lenB_cases x z with ⟨f4,f5⟩|⟨f4,f5⟩
       all_goals
        have HV:=Hd (rbad_3 _ _ x z _ F1.out F2.out f4)
        clear f4
        go_wp2_with (first
         | (go_at_call_of 93 (Value.string x.dst);refine (C1.out _).mono ?_;rintro e w3 ⟨rfl,hb3⟩;have o2:=cell_keep hb3 l2;have o3:=cell_keep hb3 l3;have o4:=cell_keep hb3 l4;have p0:=cell_keep hb3 m0;have p1:=cell_keep hb3 m1)
         | (go_at_call_of 93 (Value.string x.name);refine (C2.out _).mono ?_;rintro e w4 ⟨rfl,hb4⟩;(first|have o5:=cell_keep hb4 o4|have o5:=cell_keep hb4 l4);(first|have o6:=cell_keep hb4 p1|have o6:=cell_keep hb4 m1)))
        go_meet
        exact ⟨by rw [HV.out];rfl,by first|exact bcomp hb3 hb4|exact hb4|exact hb3|exact bR _ _⟩
    case rest=>
     obtain ⟨rfl,hb2⟩:=hcut
     have n4:=cell_keep hb2 l4
     have HE:=Hd (bcomp HC.out hb2)
     have hf:=HF0.out
     have hd:=HD.out
     clear l2 l3 l4 m0 m1 hb2
     cases hfb:rbad d nm x z
     rotate_left
     ·have HV:=Hd (formB_rbad x d nm _ z (by rw [hd];exact hf) HO.out.2 hfb)
      clear hf hd
      go_wp2
      go_ret
      exact ⟨by rw [HV.out];rfl,HE.out⟩
     have HV:=Hd (formB_rgood x d nm _ z (by rw [hd];exact hf) HO.out.1 HO.out.2 hfb)
     clear hf hd
     go_wp2
     go_loopw [6] (fun i wr=>∃ k:Nat,k<=x.args.length/\i=.int .i64 k/\Hid (∀ (j:Nat) y,j<k->x.args[j]?=some y->argB y=true)/\wr.cell? ⟨w.heap.size,4,none⟩=some (.slice a x.args.length c)/\Below w.heap.size w wr) (fun i _=>x.args.length - (intOf i).toNat)
     case atStart=>exact ⟨0,Nat.zero_le _,rfl,(fun j y h=>by omega),n4,HE.out⟩
     case round=>
      obtain ⟨k,hk,rfl,hq,hc4,hb⟩:=hrel
      clear n4
      by_cases hlt:k<x.args.length
      ·obtain ⟨y,hy⟩:∃ y,x.args[k]?=some y:=⟨_,lG hlt⟩
       obtain ⟨b,o,rfl,_,c0,c1,hu,hns2⟩:=HR.out k y hy
       have d0:=cell_keepB hb c0 (block_lt_of_cell c0)
       have d1:=cell_keepB hb c1 (block_lt_of_cell c1)
       have HY:=Hd hy
       have hlt2:(k:Int)<(x.args.length:Int):=by omega
       have HQ:Hid (argB y=true->∀ (j:Nat) y,j<k+1->x.args[j]?=some y->argB y=true):=by
        intro hay j y' hj hy'
        rcases Nat.lt_or_ge j k with h|h
        ·exact hq.out j y' h hy'
        ·obtain rfl:j=k:=by omega
         rw [hy] at hy';cases hy';exact hay
       have H4:=Hd hc4
       have c2:=fun (w:World)=>refNamed y.name w hns2
       clear c0 c1 hy
       rcases arg_cases y with ⟨f1,f2⟩|⟨f1,f2,f3⟩|⟨f1,f2,f3,f4⟩|⟨f1,f2,f3,f4⟩
       all_goals
        have HA:=Hd f1
        clear f1
        first|rw [f3] at c2|skip
        have C2:=Hd c2
        clear c2
        first|clear f3|skip
        go_wp2_with (go_at_call 93;refine (C2.out _).mono ?_;rintro e w1' ⟨rfl,hb1'⟩;have hc':=heap1_of hb1';have gg:=row_of hc'.1 1 (.int .u64 y.num) rfl;have hb3:=hb.trans (hc'.2.mono hb.size);have g4:=cell_keep hc'.2 H4.out;clear hc' hb1')
        first
         | (go_roundw
            case rel=>first|exact ⟨k+1,by omega,by go_num,HQ.out HA.out,g4,hb3⟩|exact ⟨k+1,by omega,by go_num,HQ.out HA.out,cell_keep ((bR _ _).alloc (nR _) _) H4.out,hb.alloc hb.size _⟩
            case measure=>simp [intOf];omega)
         | (go_ret
            exact ⟨by rw [HV.out,all_miss HY.out HA.out];rfl,by first|exact hb3|exact hb.alloc hb.size _⟩)
      ·obtain rfl:k=x.args.length:=by omega
       go_wp2
       go_ret
       exact ⟨by rw [HV.out,all_hit (fun j y hj=>hq.out j y (lE hj).1 hj)];rfl,hb⟩
end Go.Proofs.YtgllkgedjplpdaaGreatDoor
