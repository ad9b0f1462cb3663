/- The reference of rules.Check: the first instruction of two kinds with a name, and Check. Condition: what comes in reads as the plain data. -/
import Derived.Test.YtgllkgedjplpdaaGreatDoorRkB
import Derived.Test.YtgllkgedjplpdaaGreatDoorRck
import Derived.Test.YtgllkgedjplpdaaGreatDoorRuC
set_option linter.all false
set_option maxRecDepth 1000000
set_option maxHeartbeats 12800000
namespace Go.Proofs.YtgllkgedjplpdaaGreatDoor
open Go.ChangeShapes Go.WideShapes Go.ChangeAt Go.RowKit
def frB (ka kb:Int) (s:ByteArray) (x:InstrD):Bool:=(x.kind == ka || x.kind == kb) && (x.name.toList == s.toList)
theorem find_snoc {α:Type} {f:α->Bool} {l:List α} {k:Nat} {x:α} (h:l[k]?=some x) (hn:(l.take k).find? f=none):(l.take (k+1)).find? f=if f x then some x else none:=by
 rw [List.take_add_one,h,List.find?_append,hn]
 simp only [Option.toList_some,Option.none_or]
 cases hf:f x <;> simp [hf]
theorem find_pre {α:Type} {f:α->Bool} {l m:List α} {x:α} (h:l.find? f=some x):(l ++ m).find? f=some x:=by rw [List.find?_append,h];rfl
theorem preC_all (p:ProgD):preC p (p.funcs.length+1)=allI p:=by
 unfold preC allI
 rw [List.take_of_length_le (by omega),if_pos (by omega)]
theorem preC_part (p:ProgD) (i:Nat):∃ m,allI p=preC p i ++ m:=by
 unfold preC allI
 by_cases h:p.funcs.length<i
 ·exact ⟨[],by rw [if_pos h,List.take_of_length_le (by omega),List.append_nil]⟩
 ·exact ⟨codesOf (p.funcs.drop i) ++ p.main,by rw [if_neg h,List.append_nil,<- List.append_assoc,<- codesOf_append,List.take_append_drop]⟩
theorem refFirst (p:ProgD) (cv av fv mv:Value) (ka kb:Int) (s:ByteArray) (w:World) (h:RdProg none w p cv av fv mv) :
  Calls Tryz.prog 33 #[progV p cv av fv mv,.int .u8 ka,.int .u8 kb,.string s] w fun e w'=>e=.returned (.agg #[.int .i64 (atI ((allI p).find? (frB ka kb s))).1,.int .i64 (atI ((allI p).find? (frB ka kb s))).2])/\Below w.heap.size w w':=by
 obtain ⟨pa,pc,rfl,-,-⟩:=id h.1
 obtain ⟨aa,ac,rfl,-,-⟩:=id h.2.1
 obtain ⟨fa,fc,rfl,-,-⟩:=id h.2.2.1
 obtain ⟨ma,mc,rfl,-,-⟩:=id h.2.2.2.1
 obtain ⟨hx0,hx1,hb0⟩:=heap2_of (w:=w) (A:=.cells #[.int .i64 p.width,.slice pa p.chans.length pc,.slice aa p.arrays.length ac,.slice fa p.funcs.length fc,.slice ma p.main.length mc] 27) (B:=.cells #[.int .i64 0,.int .i64 0] 35) (bR _ _)
 have H:=Hd (h.keep hb0)
 have HX0:=Hd hx0
 have HX1:=Hd hx1
 have HB0:=Hd hb0
 clear h hx0 hx1 hb0
 obtain ⟨V,hV⟩:∃ V,(allI p).find? (frB ka kb s)=V:=⟨_,rfl⟩
 rw [hV]
 have HV:=Hd hV
 clear hV
 go_enter Tryz.func33,Tryz.ntmps33
 go_upto_region 1 with fail
 generalize (w.alloc (.cells #[.int .i64 p.width,.slice pa p.chans.length pc,.slice aa p.arrays.length ac,.slice fa p.funcs.length fc,.slice ma p.main.length mc] 27)).alloc (.cells #[.int .i64 0,.int .i64 0] 35)=W at *
 obtain ⟨fb,hfb⟩:∃ fb,w.heap.size=fb:=⟨_,rfl⟩
 have HFB:=Hd hfb
 rw [hfb] at HX0 HX1
 try rw [hfb]
 clear hfb
 have hfl:p.funcs.length<=100000000000000:=by obtain ⟨_,_,_,⟨h1,_⟩,_⟩:=H.out.2.2.1;omega
 go_wp2_with fail
 go_loopw [9] (fun i wr=>∃ m:Nat,m<=p.funcs.length+1/\i=.int .i64 m/\Hid ((preC p m).find? (frB ka kb s)=none)/\Below W.heap.size W wr) (fun i _=>p.funcs.length+1 - (intOf i).toNat)
 case atStart=>exact ⟨0,Nat.zero_le _,rfl,by show _=_;simp [preC,codesOf],bR _ _⟩
 case round=>
  obtain ⟨m,hm,rfl,HN,hb⟩:=hrel
  obtain ⟨z0,rfl⟩:∃ x:World,x=wr:=⟨_,rfl⟩
  have HBz:=Hd hb
  clear hb
  have HY0:=Hd ((HBz.out.block _ (aE HX0.out).1).trans HX0.out)
  have HY1:=Hd ((HBz.out.block _ (aE HX1.out).1).trans HX1.out)
  have hfb1:fb+1<W.heap.size:=(aE HX1.out).1
  have q3:=row_of HY0.out 3 (.slice fa p.funcs.length fc) rfl
  have y0:=row_of HY1.out 0 (.int .i64 0) rfl
  have y1:=row_of HY1.out 1 (.int .i64 0) rfl
  have f0:=frozen_of_row z0 (fb+1) 0 _ _ HY1.out
  have f1:=frozen_of_row z0 (fb+1) 1 _ _ HY1.out
  by_cases hm1:m<=p.funcs.length
  rotate_left
  ·obtain rfl:m=p.funcs.length+1:=by omega
   have hm2:¬ ((p.funcs.length+1:Nat):Int)<=(p.funcs.length:Int):=by omega
   obtain rfl:V=none:=by rw [<- HV.out,<- HN.out,preC_all]
   clear hm1 hm
   go_wp2_with fail
   refine bodyPost_ret (v:=.agg #[.int .i64 0,.int .i64 0]) ?_ rfl ⟨rfl,?_⟩
   ·try simp only [Act.put]
    exact results_cell_row (P:=Tryz.prog) (fn:=Tryz.f33) rfl _ _ (fb+1) 35 #[.int .i64 0,.int .i64 0] (0,0) _ rfl (pos_row HY1.out) Tryz.underlying35 rfl (by kernel_rfl)
   ·exact below_then (below_then (bcomp HB0.out HBz.out) (setCell_turned _ ⟨fb+1,0,none⟩ (.int .i64 0)) (by have:=HB0.out.size;have:=HBz.out.size;omega) (fun i e=>by have e:i=fb+1:=e;have:=HFB.out;omega)) (setCell_turned _ ⟨fb+1,1,none⟩ (.int .i64 0)) (by have:=HB0.out.size;have:=HBz.out.size;simp;omega) (fun i e=>by have e:i=fb+1:=e;have:=HFB.out;omega)
  have hm2:(m:Int)<=(p.funcs.length:Int):=by omega
  have HBO:=Hd (refBody p _ _ _ _ m z0 (H.out.keep HBz.out) hm1)
  have c0:=row_of HY0.out 0 (.int .i64 p.width) rfl
  have c1:=row_of HY0.out 1 (.slice pa p.chans.length pc) rfl
  have c2:=row_of HY0.out 2 (.slice aa p.arrays.length ac) rfl
  have c3:=row_of HY0.out 3 (.slice fa p.funcs.length fc) rfl
  have c4:=row_of HY0.out 4 (.slice ma p.main.length mc) rfl
  clear q3 y0 y1 f0 f1
  have q3:=row_of HY0.out 3 (.slice fa p.funcs.length fc) rfl
  go_upto_region 5 with (go_at_call 67;refine HBO.out.mono ?_;rintro e z1 ⟨v1,rfl,hr,hz⟩;obtain ⟨ka2,kk2,rfl,hcl2,_⟩:=id hr;have HRC:=Hd hr;have HZ1:=Hd hz;clear hr hz)
  clear c0 c1 c2 c3 c4 q3 HBO
  obtain ⟨code,hcode⟩:∃ code,codeAt p m=code:=⟨_,rfl⟩
  rw [hcode] at HRC hcl2
  try rw [hcode]
  have HSTEP:Hid (preC p m ++ code=preC p (m+1)):=by show _=_;rw [preC_step hm1,hcode]
  have hcl3:code.length<=100000000000000:=by have:=hcl2.1;omega
  clear hcode hcl2
  go_wp2_with fail
  go_loopw [11] (fun i wr=>∃ j:Nat,j<=code.length/\i=.int .i64 j/\Hid ((code.take j).find? (frB ka kb s)=none)/\Below z1.heap.size z1 wr) (fun i _=>code.length - (intOf i).toNat)
  case atStart=>exact ⟨0,Nat.zero_le _,rfl,rfl,bR _ _⟩
  case round=>
   obtain ⟨j,hj,rfl,HM,hb⟩:=hrel
   obtain ⟨z2,rfl⟩:∃ x:World,x=wr:=⟨_,rfl⟩
   have HB2:=Hd (bcomp HZ1.out hb)
   have HBw:=Hd hb
   clear hb
   by_cases hlt:j<code.length
   rotate_left
   ·obtain rfl:j=code.length:=by omega
    have hlt1:¬ (code.length:Int)<(code.length:Int):=by omega
    have HM2:Hid ((preC p (m+1)).find? (frB ka kb s)=none):=by
     show _=_
     have h1:=HM.out
     rw [List.take_length] at h1
     rw [<- HSTEP.out,List.find?_append,HN.out,h1];rfl
    go_wp2_with fail
    go_roundw
    case rel=>exact ⟨m+1,by omega,by go_num,HM2,bcomp HBz.out HB2.out⟩
    case measure=>simp [intOf];omega
   have hlt1:(j:Int)<(code.length:Int):=by omega
   obtain ⟨x,hx⟩:∃ x,code[j]?=some x:=⟨_,lG hlt⟩
   have HS:=Hd (find_snoc hx HM.out)
   obtain ⟨a',c',e',_,hrr⟩:=HRC.out.keep HB2.out
   simp only [Value.slice.injEq] at e'
   obtain ⟨rfl,_,rfl⟩:=e'
   obtain ⟨bx,ox,xv,rfl,_,i0,i1,i2,i3,i4,i5,i6,hri⟩:=hrr j x hx
   have HW:=Hd (HB2.out)
   have HY2:=Hd ((HB2.out.block _ (aE HY1.out).1).trans HY1.out)
   have y0:=row_of HY2.out 0 (.int .i64 0) rfl
   have y1:=row_of HY2.out 1 (.int .i64 0) rfl
   have f0:=frozen_of_row z2 (fb+1) 0 _ _ HY2.out
   have f1:=frozen_of_row z2 (fb+1) 1 _ _ HY2.out
   have HXX:=Hd hx
   clear hrr hri HM
   clear hx
   cases hf:frB ka kb s x
   ·have HS2:Hid ((code.take (j+1)).find? (frB ka kb s)=none):=by show _=_;rw [HS.out,hf];rfl
    have hff:((x.kind == ka || x.kind == kb) && (x.name.toList == s.toList))=false:=hf
    clear HS hf
    cases hk1:(x.kind == ka) <;> cases hk2:(x.kind == kb) <;> cases hn:(x.name.toList == s.toList)
    all_goals first|(rw [hk1,hk2,hn] at hff;exact absurd hff (by decide))|skip
    all_goals
     clear hff
     go_wp2_with fail
     go_roundw
    all_goals first|(show ∃ _,_;exact ⟨j+1,by omega,by go_num,HS2,HBw.out⟩)|(simp [intOf];omega)
   ·obtain rfl:V=some x:=by
     rw [<- HV.out]
     obtain ⟨mm,hmm⟩:=preC_part p (m+1)
     rw [hmm]
     refine find_pre ?_
     rw [<- HSTEP.out,List.find?_append,HN.out,Option.none_or]
     have h1:=HS.out
     rw [hf,if_pos rfl] at h1
     have h2:code=code.take (j+1) ++ code.drop (j+1):=(List.take_append_drop _ _).symm
     rw [h2]
     exact find_pre h1
    have hff:((x.kind == ka || x.kind == kb) && (x.name.toList == s.toList))=true:=hf
    clear HS hf
    cases hk1:(x.kind == ka) <;> cases hk2:(x.kind == kb) <;> cases hn:(x.name.toList == s.toList)
    all_goals first|(rw [hk1,hk2,hn] at hff;exact absurd hff (by decide))|skip
    all_goals
     clear hff
     go_wp2_with fail
     refine bodyPost_ret (v:=.agg #[.int .i64 x.line,.int .i64 x.col]) ?_ rfl ⟨rfl,?_⟩
    all_goals first
     | (try simp only [Act.put]
        exact results_cell_row (P:=Tryz.prog) (fn:=Tryz.f33) rfl _ _ (fb+1) 35 #[.int .i64 x.line,.int .i64 x.col] (0,0) _ rfl (pos_row HY2.out) Tryz.underlying35 rfl (by kernel_rfl))
     | exact below_then (below_then (bcomp HB0.out (bcomp HBz.out HB2.out)) (setCell_turned _ ⟨fb+1,0,none⟩ (.int .i64 x.line)) (by have:=HB0.out.size;have:=HBz.out.size;have:=HB2.out.size;omega) (fun i e=>by have e:i=fb+1:=e;have:=HFB.out;omega)) (setCell_turned _ ⟨fb+1,1,none⟩ (.int .i64 x.col)) (by have:=HB0.out.size;have:=HBz.out.size;have:=HB2.out.size;simp;omega) (fun i e=>by have e:i=fb+1:=e;have:=HFB.out;omega)
end Go.Proofs.YtgllkgedjplpdaaGreatDoor
