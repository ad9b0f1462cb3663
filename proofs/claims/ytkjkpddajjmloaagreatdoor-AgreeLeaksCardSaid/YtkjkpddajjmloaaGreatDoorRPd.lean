/- Contract of the reference's Holds. Condition: what comes in reads as the plain data. -/
import Derived.Test.YtkjkpddajjmloaaGreatDoorRPc
import Derived.Test.YtkjkpddajjmloaaGreatDoorWHd
set_option linter.all false
set_option maxRecDepth 1000000
set_option maxHeartbeats 6400000
namespace Go.Proofs.YtkjkpddajjmloaaGreatDoor
open Go.ChangeShapes Go.WideShapes Go.ChangeAt Go.RowKit
theorem leaksB_fit {f:FlatD} {q:PolD} (hE:sideErr f q=0) {A B:List (List Int)} {l:Nat} (hl:l<q.levels.length) (ha:A.length≤f.chans.length) (hb:B.length≤f.chans.length) :
  leaksErr f q l A B=0∧leaksB f q l A B=leaks1 f q l A B (runT f A q.steps) (runT f B q.steps):=by
 have h0:leaksErr f q l A B=0:=by
  unfold leaksErr
  rw [if_neg (by rw [hE];simp),if_neg (by unfold rangeBad;omega)]
 exact ⟨h0,by unfold leaksB;rw [if_neg (by rw [h0];simp)]⟩
theorem TrcC.status0 {w:World} {t:TraceD} {c:Array Value} (h:TrcC w t c):c[0]?=some (.int .u8 t.status):=by obtain ⟨a,b,d,e,rfl,_⟩:=h;rfl
theorem refHolds (f:FlatD) (q:PolD) (cF cP:Array Value) (rv:Value) (Ls:List (List (List Int))) (w:World) (hF:FlatC w f cF) (hP:PolC w q cP) (hR:RdRuns w rv Ls) (hn:Ls.length≤1000000) (hz:∀ A ∈ Ls,∀ l ∈ A,l.length≤1000000) :
  Calls Tryz.prog 12 #[.agg cF,.agg cP,rv] w fun e w'=>e=.returned (.tuple #[.bool (holdsB f q Ls),.int .i64 (holdsErr f q Ls)])∧Below w.heap.size w w':=by
 obtain ⟨rb,ro,rc,rfl,hri⟩:=hR
 obtain ⟨V,hV⟩:∃ V,holdsB f q Ls=V:=⟨_,rfl⟩
 obtain ⟨R,hR⟩:∃ R,holdsErr f q Ls=R:=⟨_,rfl⟩
 rw [hV,hR]
 have HV:=Lib.hid hV
 have HR:=Lib.hid hR
 have HF:=Lib.hid hF
 have HP:=Lib.hid hP
 have HRI:=Lib.hid hri
 have HZ:=Lib.hid hz
 have HFI:=Lib.hid hF.info
 have HPI:=Lib.hid hP.info
 obtain ⟨pla,plc,hp0,hq63⟩:=hP.levels0
 have HP0:=Lib.hid hp0
 have HP4:=Lib.hid hP.sens0
 have HP5:=Lib.hid hP.steps0
 have HST:Hid (InI64 q.steps):=(by obtain ⟨_,_,_,_,_,h⟩:=hP;exact h.2.2.2.2.1)
 clear hV hR hF hP hri hz hp0
 have hal:=((Below.refl w.heap.size w).alloc (Nat.le_refl _) (.cells cF 26)).alloc (by simp) (.cells cP 30)
 have hx:=heap2_of (w:=w) (A:=(.cells cF 26)) (B:=(.cells cP 30)) (Below.refl _ _)
 have HB0:=Lib.hid hal
 have HG0:=Lib.hid hx.1
 have HG1:=Lib.hid hx.2.1
 clear hal hx
 go_enter Tryz.func12,Tryz.ntmps12
 go_upto_region 1 with fail
 generalize (w.alloc (.cells cF 26)).alloc (.cells cP 30)=W at *
 have hsz:w.heap.size+1<W.heap.size:=(Array.getElem?_eq_some_iff.1 HG1.out).1
 have HFW:=Lib.hid (HF.out.keep HB0.out)
 have HPW:=Lib.hid (HP.out.keep HB0.out)
 clear HF HP
 have HS:=Lib.hid (refSides f q cF cP W HFW.out HPW.out)
 obtain ⟨E,hE⟩:∃ E,sideErr f q=E:=⟨_,rfl⟩
 rw [hE] at HS
 go_upto_region 2 with (first|(refine wpList_load_row rfl 26 (.tmp 3) rfl w.heap.size rfl 26 cF (0,0) _ ?l1 Tryz.underlying26 rfl ?i1 ?_;exact HG0.out;exact HFI.out)|(refine wpList_load_row rfl 30 (.tmp 4) rfl (w.heap.size+1) rfl 30 cP (0,0) _ ?l2 Tryz.underlying30 rfl ?i2 ?_;exact HG1.out;exact HPI.out)|(go_at_call 31;refine HS.out.mono ?_;rintro e z1 ⟨v,v1,v2,rfl,HSV,hz⟩;have B1:=Lib.hid hz;clear hz))
 clear HS
 have HB1:=Lib.hid (bcomp HB0.out B1.out)
 by_cases n1:E=0
 case neg=>
  obtain rfl:R=E:=by rw [← HR.out,holdsErr,hE,if_pos n1]
  have HVV:Hid (V=false):=by show V=_;rw [← HV.out,holdsB,HR.out,if_pos n1]
  have n1':(R != 0)=true:=by simp [n1]
  clear hE
  go_wp2_with fail
  go_ret2
  exact ⟨by rw [HVV.out];rfl,HB1.out⟩
 subst n1
 have hSP:=sideP hE
 have HSP:=Lib.hid hSP
 have HE:=Lib.hid hE
 obtain ⟨hl1,hc1,hs1⟩:=HSV rfl
 obtain ⟨C,hC⟩:∃ C,chansL f q=C:=⟨_,rfl⟩
 rw [hC] at hc1
 obtain ⟨ca,cc,rfl⟩:=hc1.is
 have HCL:Hid (C.length=f.chans.length):=by show _=_;rw [← hC];exact hSP.cl
 have hch:=(headP hSP.ok).chans
 have hC6:C.length≤1000000:=by have:=HCL.out;omega
 have HG3:Hid (z1.heap[w.heap.size]?=some (.cells cF 26 (0,0))):=(B1.out.block _ (by omega)).trans HG0.out
 have HG4:Hid (z1.heap[w.heap.size+1]?=some (.cells cP 30 (0,0))):=(B1.out.block _ (by omega)).trans HG1.out
 have HF1:=Lib.hid (HFW.out.keep B1.out)
 have HP1:=Lib.hid (HPW.out.keep B1.out)
 have hsz1:w.heap.size+1<z1.heap.size:=(Array.getElem?_eq_some_iff.1 HG4.out).1
 have HRI2:Hid (∀ i A,Ls[i]?=some A→∃ iv,z1.cell? ⟨rb,ro+i,none⟩=some iv∧RdLists none z1 iv A):=fun i A h=>by obtain ⟨iv,h1,h2⟩:=HRI.out i A h;exact ⟨iv,cell_keep HB1.out h1,h2.keep HB1.out⟩
 have HR0:Hid (holdsErr f q Ls=if longI f Ls then 3 else 0):=by show _=_;rw [holdsErr,if_neg (by rw [HE.out];simp)]
 clear HG0 HG1 HFW HPW HB0 HRI hE hSP hl1 hc1 hs1 hC HSV hch B1
 have hb0:((0:Int) != 0)=false:=rfl
 go_upto_region 5 with fail
 go_loopw [12] (fun v wr=>∃ k:Nat,k≤Ls.length∧v=.int .i64 k∧z1=wr∧Hid (∀ A ∈ Ls.take k,A.length≤f.chans.length)) (fun v _=>Ls.length - (intOf v).toNat)
 case atStart=>exact ⟨0,Nat.zero_le _,rfl,by first|trivial|rfl,(by intro A hA;simp at hA)⟩
 case round=>
  obtain ⟨k,hk,rfl,hwz,HFIT⟩:=hrel
  subst hwz
  by_cases hlt:k<Ls.length
  ·have hlt1:(k:Int)<(Ls.length:Int):=by omega
   obtain ⟨A,hA⟩:∃ A,Ls[k]?=some A:=⟨_,List.getElem?_eq_getElem hlt⟩
   obtain ⟨iv,c0,hrd⟩:=HRI2.out k A hA
   obtain ⟨ia,ic,rfl⟩:=hrd.is
   have HTK:Hid (Ls.take (k+1)=Ls.take k ++ [A]):=by show _=_;rw [List.take_add_one,hA];rfl
   have HAM:=Lib.hid (List.mem_of_getElem? hA)
   clear hA hrd
   by_cases hln:C.length<A.length
   ·have hln1:(C.length:Int)<(A.length:Int):=by omega
    have HRV:Hid (R=3∧V=false):=by
     have hl:longI f Ls=true:=by unfold longI;exact List.any_eq_true.2 ⟨A,HAM.out,by have:=HCL.out;simp;omega⟩
     have hr3:R=3:=by rw [← HR.out,HR0.out,hl];rfl
     exact ⟨hr3,by rw [← HV.out,holdsB,HR.out,hr3];rfl⟩
    obtain ⟨rfl,rfl⟩:=HRV.out
    go_wp2_with fail
    go_ret2
    exact ⟨rfl,HB1.out⟩
   ·have hln1:¬ (C.length:Int)<(A.length:Int):=by omega
    have HNF:Hid (∀ A ∈ Ls.take (k+1),A.length≤f.chans.length):=by
     intro A' h
     rw [HTK.out] at h
     rcases List.mem_append.1 h with h|h
     ·exact HFIT.out A' h
     ·simp at h;subst h;have:=HCL.out;omega
    go_wp2_with fail
    go_roundw
    case rel=>exact ⟨k+1,by omega,by go_num,by first|trivial|rfl,HNF.out⟩
    case measure=>simp [intOf];omega
  ·obtain rfl:k=Ls.length:=by omega
   have hlt1:¬ ((Ls.length:Nat):Int)<(Ls.length:Int):=by omega
   have HFA:Hid (∀ A ∈ Ls,A.length≤f.chans.length):=by show ∀ A ∈ Ls,_;have h:=HFIT.out;rw [List.take_length] at h;exact h
   have HLONG:Hid (longI f Ls=false):=by
    show _=_
    unfold longI
    rw [List.any_eq_false]
    intro A hA
    have:=HFA.out A hA
    simp;omega
   obtain rfl:R=0:=by rw [← HR.out,HR0.out,HLONG.out];rfl
   have HVA:Hid (V=allN Ls.length (okAt f q Ls)):=by show V=_;rw [← HV.out,holdsB,HR.out];rfl
   clear HV HR HR0 HLONG HFIT hlt hk
   go_wp2_with fail
   go_loopw [13,14,15,16,17,18,19] (fun v _ _ _ _ _ _ wr=>∃ j:Nat,j≤Ls.length∧v=.int .i64 j∧Hid (∀ i,i<j→okAt f q Ls i=true)∧Below z1.heap.size z1 wr) (fun v _ _ _ _ _ _ _=>Ls.length - (intOf v).toNat)
   case atStart=>exact ⟨0,Nat.zero_le _,rfl,(fun i hi=>absurd hi (Nat.not_lt_zero _)),Below.refl _ _⟩
   case round=>
    obtain ⟨j,hj,rfl,HOJ,hbw⟩:=hrel
    obtain ⟨w5,rfl⟩:∃ x:World,x=wr:=⟨_,rfl⟩
    have HB5:=Lib.hid hbw
    clear hbw
    by_cases hlt:j<Ls.length
    ·have hj1:(j:Int)<(Ls.length:Int):=by omega
     obtain ⟨A,hA⟩:∃ A,Ls[j]?=some A:=⟨_,List.getElem?_eq_getElem hlt⟩
     have HAD:Hid (Ls.getD j []=A):=by show _=_;rw [List.getD_eq_getElem?_getD,hA];rfl
     have HAM:=Lib.hid (List.mem_of_getElem? hA)
     obtain ⟨t,ht⟩:∃ t,runT f A q.steps=t:=⟨_,rfl⟩
     have HTT:Hid (runT f (Ls.getD j []) q.steps=t):=by show _=_;rw [HAD.out];exact ht
     obtain ⟨jv,hjc,hjr⟩:=HRI2.out j A hA
     obtain ⟨ja,jc,rfl⟩:=hjr.is
     have HJC:=Lib.hid hjc
     have HJR:=Lib.hid hjr
     obtain ⟨sn,hsn⟩:∃ sn,q.sens=sn:=⟨_,rfl⟩
     have HF1B:Hid ((sn && t.status == 2)=true→V=false):=by
      intro h
      rw [HVA.out]
      refine allN_false.2 ⟨j,hlt,?_⟩
      unfold okAt
      rw [HTT.out,hsn,h];rfl
     have HF2:Hid (∀ i l:Nat,i<j→l<q.levels.length→leaks1 f q l (Ls.getD i []) A (runT f (Ls.getD i []) q.steps) t=true→V=false):=by
      intro i l hi hl h
      rw [HVA.out]
      refine allN_false.2 ⟨j,hlt,?_⟩
      unfold okAt
      rw [Bool.and_eq_false_iff]
      right
      refine allN_false.2 ⟨i,hi,allN_false.2 ⟨l,hl,?_⟩⟩
      rw [HTT.out,HAD.out,h];rfl
     have HF3:Hid ((sn && t.status == 2)=false→(∀ i,i<j→∀ l,l<q.levels.length→leaks1 f q (l:Nat) (Ls.getD i []) A (runT f (Ls.getD i []) q.steps) t=false)→okAt f q Ls j=true):=by
      intro h0 h
      unfold okAt
      rw [HTT.out,HAD.out,hsn,h0,Bool.and_eq_true]
      refine ⟨rfl,allN_iff.2 fun i hi=>allN_iff.2 fun l hl=>?_⟩
      rw [h i hi l hl];rfl
     have HQS:Hid (q.sens=sn):=hsn
     have HTA:Hid (runT f A q.steps=t):=ht
     clear hA ht hjc hjr hsn
     go_upto_region 12 with fail
     go_cut [14,15] from 51 to 62 (fun c d wx=>∃ g,c=.pointer (some ⟨g,0,none⟩)∧wx.cell? ⟨g,0,none⟩=some (.int .u8 t.status)∧Below w5.heap.size w5 wx)
     case first=>
      have HGF5:=Lib.hid ((HB5.out.block _ (Array.getElem?_eq_some_iff.1 HG3.out).1).trans HG3.out)
      have HGP5:=Lib.hid ((HB5.out.block _ (Array.getElem?_eq_some_iff.1 HG4.out).1).trans HG4.out)
      have HRUN:=Lib.hid (fun (z:World) (hz:Below w5.heap.size w5 z)=>(by
       have h:=refRunC f cF (.slice ja A.length jc) A q.steps z ((HF1.out.keep HB5.out).keep hz) ((HJR.out.keep HB5.out).keep hz) HST.out (by have:=HFA.out A HAM.out;have:=HCL.out;omega) (side_err HSP.out (HFA.out A HAM.out))
       rw [HTA.out] at h
       exact h:Calls Tryz.prog 34 #[.agg cF,.int .i64 q.steps,.slice ja A.length jc] z fun e w'=>∃ cT,e=.returned (.tuple #[.agg cT,.int .i64 0])∧TrcC w' t cT∧Below z.heap.size z w'))
      refine wp_region_mix (.two [0,1,2,3,4,5,6] 7 11 (.one [8,9,10] 11 (.one [] 12 (.one [] 13 (.fin [])))) (.one [] 7 (.one [8,9,10] 12 (.one [] 13 (.fin []))))) (fun _=>false) (by kernel_rfl) (by kernel_rfl) rfl (by kernel_rfl) (fun _ d _ _ _ h=>by cases d <;> exact h) ?_
      have e5:=ext_cell (row_of HGP5.out 5 _ HP5.out)
      have e1:=ext_cell (cell_keep HB5.out HJC.out)
      have HBd:Hid (Below w5.heap.size w5 w5.drew):=(Below.refl _ _).drew
      generalize w5.drew=wn at *
      refine mix_two (by simp only [opsOf,List.filterMap_cons,List.filterMap_nil,List.getElem?_toArray,List.getElem?_cons_succ,List.getElem?_cons_zero];rfl) ⟨_,ext_of HBd.out⟩ ?_
      change wpQuiet _ _ _ _ [_,_,_,_,_,_,_] _
      go_big_quiet_want
      refine quiet_load_row 26 (.tmp 3) rfl w.heap.size rfl 26 cF (0,0) _ (ext_row HGF5.out) Tryz.underlying26 rfl HFI.out ?_
      simp only [Act.put,List.setIfInBounds_toArray,List.set_cons_succ,List.set_cons_zero,List.getElem_toArray,List.getElem_cons_succ,List.getElem_cons_zero]
      go_big_quiet_on
      (repeat (go_big_quiet_step (fail)))
      clear e5 e1
      refine wpQuiet_nil ⟨?_,?_⟩
      ·refine mix_step rfl ?_
       go_wp2_with (go_at_call 34;refine (HRUN.out _ HBd.out).mono ?_;rintro e z ⟨cT,rfl,ht,hzz⟩)
       have HTC:=Lib.hid ht
       have HTI:=Lib.hid ht.info
       have HTS:=Lib.hid ht.size
       have HTO:=Lib.hid ht.one
       have HT0:=Lib.hid ht.status0
       have HB1x:=Lib.hid (bcomp HBd.out hzz)
       clear hzz ht
       (first|refine ⟨fun _=>⟨_,ext_of HB1x.out⟩,?_⟩|refine ⟨⟨_,ext_of HB1x.out⟩,?_⟩)
       refine mix_one (by simp only [opsOf,List.filterMap_cons,List.filterMap_nil,List.getElem?_toArray,List.getElem?_cons_succ,List.getElem?_cons_zero];rfl) ⟨_,ext_of HB1x.out⟩ ?_
       change wpQuiet _ _ _ _ [_,_,_] _
       (repeat (go_big_quiet_step (fail)))
       refine wpQuiet_nil ?_
       refine mix_step rfl ?_
       go_wp2_with fail
       have HN:=Lib.hid (heap_alloc_new z (.cells #[.int .u8 0,.int .i64 0,.slice none 0 0,.slice none 0 0,.slice none 0 0,.slice none 0 0] 52))
       have HB2x:=Lib.hid (HB1x.out.alloc HB1x.out.size (.cells #[.int .u8 0,.int .i64 0,.slice none 0 0,.slice none 0 0,.slice none 0 0,.slice none 0 0] 52))
       have hlg:=HB1x.out.size
       (first|refine ⟨fun _=>⟨_,ext_of HB2x.out⟩,?_⟩|refine ⟨⟨_,ext_of HB2x.out⟩,?_⟩)
       refine mix_now ?_
       refine mix_step rfl ?_
       go_wp2_with (refine wpList_store_row rfl 52 (.tmp 14) (.tmp 60) rfl z.heap.size cT rfl rfl 52 #[.int .u8 0,.int .i64 0,.slice none 0 0,.slice none 0 0,.slice none 0 0,.slice none 0 0] ?hu1 (HTI.out) (by rw [HTS.out];rfl) (HTO.out) ?_;exact HN.out)
       have HB3x:=Lib.hid (below_row HB2x.out hlg cT)
       have HG3x:Hid (((z.alloc (.cells #[.int .u8 0,.int .i64 0,.slice none 0 0,.slice none 0 0,.slice none 0 0,.slice none 0 0] 52)).setRow z.heap.size cT).heap[z.heap.size]?=some (.cells cT 52 (0,0))):=setRow_heap _ _ _ _ _ _ HN.out
       (first|refine ⟨fun _=>⟨_,ext_of HB3x.out⟩,?_⟩|refine ⟨⟨_,ext_of HB3x.out⟩,?_⟩)
       refine mix_now ?_
       refine mix_step rfl ?_
       simp only [Act.put,List.setIfInBounds_toArray,List.set_cons_succ,List.set_cons_zero,List.getElem_toArray,List.getElem_cons_succ,List.getElem_cons_zero]
       go_wp2_with fail
       refine And.intro (by first|exact fun _=>⟨_,ext_of HB3x.out⟩|exact ⟨_,ext_of HB3x.out⟩) ?_
       simp only [mixRun,readRun]
       go_wp2_with fail
       go_meet
       exact ⟨z.heap.size,rfl,row_of HG3x.out 0 _ HT0.out,HB3x.out⟩
      ·refine mix_step rfl ?_
       go_wp2_with fail
       have HN0:=Lib.hid (heap_alloc_new wn (.cells #[.int .u8 0,.int .i64 0,.slice none 0 0,.slice none 0 0,.slice none 0 0,.slice none 0 0] 52))
       have HB1x:=Lib.hid (HBd.out.alloc HBd.out.size (.cells #[.int .u8 0,.int .i64 0,.slice none 0 0,.slice none 0 0,.slice none 0 0,.slice none 0 0] 52))
       have hlg:=HBd.out.size
       (first|refine ⟨fun _=>⟨_,ext_of HB1x.out⟩,?_⟩|refine ⟨⟨_,ext_of HB1x.out⟩,?_⟩)
       generalize wn.heap.size=ug at *
       generalize wn.alloc (.cells #[.int .u8 0,.int .i64 0,.slice none 0 0,.slice none 0 0,.slice none 0 0,.slice none 0 0] 52)=wa at *
       refine mix_now ?_
       refine mix_step rfl ?_
       go_wp2_with (go_at_call 34;refine (HRUN.out _ HB1x.out).mono ?_;rintro e z ⟨cT,rfl,ht,hzz⟩)
       have HTI:=Lib.hid ht.info
       have HTS:=Lib.hid ht.size
       have HTO:=Lib.hid ht.one
       have HT0:=Lib.hid ht.status0
       have HB2x:=Lib.hid (bcomp HB1x.out hzz)
       have HN:=Lib.hid ((hzz.block _ (Array.getElem?_eq_some_iff.1 HN0.out).1).trans HN0.out)
       clear hzz ht
       (first|refine ⟨fun _=>⟨_,ext_of HB2x.out⟩,?_⟩|refine ⟨⟨_,ext_of HB2x.out⟩,?_⟩)
       refine mix_one (by simp only [opsOf,List.filterMap_cons,List.filterMap_nil,List.getElem?_toArray,List.getElem?_cons_succ,List.getElem?_cons_zero];rfl) ⟨_,ext_of HB2x.out⟩ ?_
       change wpQuiet _ _ _ _ [_,_,_] _
       (repeat (go_big_quiet_step (fail)))
       refine wpQuiet_nil ?_
       refine mix_step rfl ?_
       go_wp2_with (refine wpList_store_row rfl 52 (.tmp 14) (.tmp 60) rfl ug cT rfl rfl 52 #[.int .u8 0,.int .i64 0,.slice none 0 0,.slice none 0 0,.slice none 0 0,.slice none 0 0] ?hu2 (HTI.out) (by rw [HTS.out];rfl) (HTO.out) ?_;exact HN.out)
       have HB3x:=Lib.hid (below_row HB2x.out hlg cT)
       have HG3x:Hid ((z.setRow ug cT).heap[ug]?=some (.cells cT 52 (0,0))):=setRow_heap _ _ _ _ _ _ HN.out
       (first|refine ⟨fun _=>⟨_,ext_of HB3x.out⟩,?_⟩|refine ⟨⟨_,ext_of HB3x.out⟩,?_⟩)
       refine mix_now ?_
       refine mix_step rfl ?_
       simp only [Act.put,List.setIfInBounds_toArray,List.set_cons_succ,List.set_cons_zero,List.getElem_toArray,List.getElem_cons_succ,List.getElem_cons_zero]
       go_wp2_with fail
       refine And.intro (by first|exact fun _=>⟨_,ext_of HB3x.out⟩|exact ⟨_,ext_of HB3x.out⟩) ?_
       simp only [mixRun,readRun]
       go_wp2_with fail
       go_meet
       exact ⟨ug,rfl,row_of HG3x.out 0 _ HT0.out,HB3x.out⟩
     case rest=>
      generalize wc=w6 at *
      obtain ⟨g,rfl,hgc,hb6⟩:=hcut
      have HB6:=Lib.hid (HB5.out.trans (hb6.mono HB5.out.size))
      have HQ6:=Lib.hid ((HB6.out.block _ (Array.getElem?_eq_some_iff.1 HG4.out).1).trans HG4.out)
      clear hb6
      have p4:=row_of HQ6.out 4 _ HP4.out
      rw [HQS.out] at p4
      by_cases hfu:(sn && t.status == 2)=true
      ·obtain rfl:V=false:=HF1B.out hfu
       obtain ⟨hs1,hs2⟩:=Bool.and_eq_true _ _ ▸ hfu
       subst hs1
       go_wp2_with fail
       go_ret2
       exact ⟨rfl,bcomp HB1.out HB6.out⟩
      ·have hfu2:(sn && t.status == 2)=false:=by simpa using hfu
       have HFU:=Lib.hid hfu2
       clear hfu
       go_upto_region 13 with fail
       go_cut [68] from 62 to 69 (fun c wx=>c=.bool false∧wx=w6)
       case first=>
        cases sn
        ·go_wp2_with fail
         go_meet
         exact ⟨rfl,rfl⟩
        ·have hst:(t.status == 2)=false:=by simpa using HFU.out
         go_wp2_with fail
         go_meet
         exact ⟨rfl,rfl⟩
       case rest=>
        obtain ⟨rfl,rfl⟩:=hcut
        clear p4 hfu2 hgc
        go_wp2_with fail
        go_loopw [16,17,18,19] (fun v _ _ _ wr=>∃ i:Nat,i≤j∧v=.int .i64 i∧Hid (∀ i',i'<i→∀ l,l<q.levels.length→leaks1 f q (l:Nat) (Ls.getD i' []) A (runT f (Ls.getD i' []) q.steps) t=false)∧Below z1.heap.size z1 wr) (fun v _ _ _ _=>j - (intOf v).toNat)
        case atStart=>exact ⟨0,Nat.zero_le _,rfl,(fun i hi=>absurd hi (Nat.not_lt_zero _)),HB6.out⟩
        case round=>
         obtain ⟨i,hi,rfl,HI,hbw⟩:=hrel
         obtain ⟨w7,rfl⟩:∃ x:World,x=wr:=⟨_,rfl⟩
         have HB7:=Lib.hid hbw
         clear hbw
         by_cases hij:i<j
         ·have hi1:(i:Int)<(j:Int):=by omega
          have hi2:(i:Int)<(Ls.length:Int):=by omega
          obtain ⟨D,hD⟩:∃ D,Ls[i]?=some D:=⟨_,List.getElem?_eq_getElem (by omega)⟩
          have HDD:Hid (Ls.getD i []=D):=by show _=_;rw [List.getD_eq_getElem?_getD,hD];rfl
          have HDM:=Lib.hid (List.mem_of_getElem? hD)
          obtain ⟨u,hu⟩:∃ u,runT f D q.steps=u:=⟨_,rfl⟩
          have HUU:Hid (runT f (Ls.getD i []) q.steps=u):=by show _=_;rw [HDD.out];exact hu
          have HUD:Hid (runT f D q.steps=u):=hu
          obtain ⟨iv,hic,hir⟩:=HRI2.out i D hD
          obtain ⟨ia,ic,rfl⟩:=hir.is
          have HIC:=Lib.hid hic
          have HIR:=Lib.hid hir
          clear hD hu hic hir
          go_upto_region 19 with fail
          go_loopw [17,18,19] (fun v _ _ wr=>∃ l:Nat,l≤q.levels.length∧v=.int .i64 l∧Hid (∀ l',l'<l→leaks1 f q (l':Nat) D A u t=false)∧Below z1.heap.size z1 wr) (fun v _ _ _=>q.levels.length - (intOf v).toNat)
          case atStart=>exact ⟨0,Nat.zero_le _,rfl,(fun i hi=>absurd hi (Nat.not_lt_zero _)),HB7.out⟩
          case round=>
           obtain ⟨l,hl,rfl,HLL,hbw⟩:=hrel
           obtain ⟨w8,rfl⟩:∃ x:World,x=wr:=⟨_,rfl⟩
           have HB8:=Lib.hid hbw
           clear hbw
           have HGF8:=Lib.hid ((HB8.out.block _ (Array.getElem?_eq_some_iff.1 HG3.out).1).trans HG3.out)
           have HGP8:=Lib.hid ((HB8.out.block _ (Array.getElem?_eq_some_iff.1 HG4.out).1).trans HG4.out)
           have p0:=row_of HGP8.out 0 _ HP0.out
           by_cases hll:l<q.levels.length
           ·have hl1:(l:Int)<(q.levels.length:Int):=by omega
            obtain ⟨LV,hLV⟩:∃ LV,leaks1 f q (l:Nat) D A u t=LV:=⟨_,rfl⟩
            have HLV:=Lib.hid hLV
            clear hLV
            go_upto_region 21 with fail
            clear p0
            have e1:=ext_cell (cell_keep HB8.out HIC.out)
            have e2:=ext_cell (cell_keep HB8.out HJC.out)
            refine wp_region_mix (.one [0,1,2,3,4,5,6,7,8,9,10] 11 (.fin [12,13,14,15,16])) (fun _=>false) (by kernel_rfl) (by kernel_rfl) rfl (by kernel_rfl) (fun _ d _ _ _ h=>by cases d <;> exact h) ?_
            have HBd:Hid (Below w8.heap.size w8 w8.drew):=(Below.refl _ _).drew
            generalize w8.drew=wn at *
            have HBX:=Lib.hid (HB8.out.trans (HBd.out.mono (by have:=HB8.out.size;omega)))
            refine mix_one (by simp only [opsOf,List.filterMap_cons,List.filterMap_nil,List.getElem?_toArray,List.getElem?_cons_succ,List.getElem?_cons_zero];rfl) ⟨_,ext_of HBd.out⟩ ?_
            change wpQuiet _ _ _ _ [_,_,_,_,_,_,_,_,_,_,_] _
            go_big_quiet_want
            refine quiet_load_row 26 (.tmp 3) rfl w.heap.size rfl 26 cF (0,0) _ (ext_row HGF8.out) Tryz.underlying26 rfl HFI.out ?_
            simp only [Act.put,List.setIfInBounds_toArray,List.set_cons_succ,List.set_cons_zero,List.getElem_toArray,List.getElem_cons_succ,List.getElem_cons_zero]
            go_big_quiet_on
            go_big_quiet_want
            refine quiet_load_row 30 (.tmp 4) rfl (w.heap.size+1) rfl 30 cP (0,0) _ (ext_row HGP8.out) Tryz.underlying30 rfl HPI.out ?_
            simp only [Act.put,List.setIfInBounds_toArray,List.set_cons_succ,List.set_cons_zero,List.getElem_toArray,List.getElem_cons_succ,List.getElem_cons_zero]
            go_big_quiet_on
            (repeat (go_big_quiet_step (fail)))
            refine wpQuiet_nil ?_
            clear e1 e2
            have hlk:=refLeaks f q cF cP (l:Nat) _ _ D A wn (HF1.out.keep HBX.out) (HP1.out.keep HBX.out) (by unfold InI64;omega) (HIR.out.keep HBX.out) (HJR.out.keep HBX.out) (HZ.out D HDM.out) (HZ.out A HAM.out)
            have hfit:=leaksB_fit HE.out hll (HFA.out D HDM.out) (HFA.out A HAM.out)
            rw [hfit.1,hfit.2,HUD.out,HTA.out,HLV.out] at hlk
            have HLK:=Lib.hid hlk
            clear hlk hfit
            refine mix_step rfl ?_
            go_wp2_with (go_at_call 10;refine HLK.out.mono ?_;rintro e w9 ⟨rfl,hz⟩;have BZ:=Lib.hid hz;clear hz)
            refine ⟨by first|exact ⟨_,ext_of (HBd.out.trans (BZ.out.mono HBd.out.size))⟩|exact fun _=>⟨_,ext_of (HBd.out.trans (BZ.out.mono HBd.out.size))⟩,?_⟩
            refine mix_fin (by simp only [opsOf,List.filterMap_cons,List.filterMap_nil,List.getElem?_toArray,List.getElem?_cons_succ,List.getElem?_cons_zero];rfl) ⟨_,ext_of (HBd.out.trans (BZ.out.mono HBd.out.size))⟩ ?_
            change wpQuiet _ _ _ _ [_,_,_,_,_] _
            (repeat (go_big_quiet_step (fail)))
            refine wpQuiet_nil ?_
            have HB9:=Lib.hid (HBX.out.trans (BZ.out.mono (by have:=HBX.out.size;omega)))
            cases LV
            ·have HLN:Hid (∀ l',l'<l+1→leaks1 f q (l':Nat) D A u t=false):=by
              intro l' h
              rcases Nat.lt_or_ge l' l with h2|h2
              ·exact HLL.out l' h2
              ·obtain rfl:l'=l:=by omega
               exact HLV.out
             go_wp2_with fail
             go_roundw
             case rel=>exact ⟨l+1,by omega,by go_num,HLN.out,HB9.out⟩
             case measure=>simp [intOf];omega
            ·obtain rfl:V=false:=HF2.out i l hij hll (by rw [HUU.out,HDD.out];exact HLV.out)
             go_wp2_with fail
             go_ret2
             exact ⟨rfl,bcomp HB1.out HB9.out⟩
           ·have hl1:¬ (l:Int)<(q.levels.length:Int):=by omega
            have HIN:Hid (∀ i',i'<i+1→∀ l,l<q.levels.length→leaks1 f q (l:Nat) (Ls.getD i' []) A (runT f (Ls.getD i' []) q.steps) t=false):=by
             intro i' h l' h2
             rcases Nat.lt_or_ge i' i with h3|h3
             ·exact HI.out i' h3 l' h2
             ·obtain rfl:i'=i:=by omega
              rw [HUU.out,HDD.out]
              exact HLL.out l' (by omega)
            go_wp2_with fail
            go_roundw
            case rel=>exact ⟨i+1,by omega,by go_num,HIN.out,HB8.out⟩
            case measure=>simp [intOf];omega
         ·have hi1:¬ (i:Int)<(j:Int):=by omega
          have hok:=HF3.out HFU.out (fun i' h l h2=>HI.out i' (by omega) l h2)
          have HOJ2:Hid (∀ i,i<j+1→okAt f q Ls i=true):=by
           intro i' h
           rcases Nat.lt_or_ge i' j with h3|h3
           ·exact HOJ.out i' h3
           ·obtain rfl:i'=j:=by omega
            exact hok
          clear hok
          go_wp2_with fail
          go_roundw
          case rel=>exact ⟨j+1,by omega,by go_num,HOJ2.out,HB7.out⟩
          case measure=>simp [intOf];omega
    ·obtain rfl:j=Ls.length:=by omega
     have hj1:¬ ((Ls.length:Nat):Int)<(Ls.length:Int):=by omega
     obtain rfl:V=true:=by rw [HVA.out];exact allN_iff.2 HOJ.out
     go_wp2_with fail
     go_ret2
     exact ⟨rfl,bcomp HB1.out HB5.out⟩
end Go.Proofs.YtkjkpddajjmloaaGreatDoor
