/- Contracts of the reference's names and Sites. Condition: what comes in reads. -/
import Derived.Test.YtgllkgedjplpdaaGreatDoorFeP
import Derived.Test.YtgllkgedjplpdaaGreatDoorSpec
import Derived.Test.YtgllkgedjplpdaaGreatDoorLoc
import Derived.Test.YtgllkgedjplpdaaGreatDoorMix
set_option linter.all false
set_option maxRecDepth 1000000
set_option maxHeartbeats 12800000
set_option linter.unusedVariables false
set_option linter.unusedSimpArgs false
namespace Go.Proofs.YtgllkgedjplpdaaGreatDoor
open Go.ChangeShapes Go.WideShapes Go.ChangeAt Go.RowKit
theorem firstF_hit {α:Type} {f:List α->α->Option FaultD} {l:List α} {k:Nat} {x:α} {F:FaultD} (h:l[k]?=some x) (hn:firstF f [] (l.take k)=none) (hf:f (l.take k) x=some F):firstF f [] l=some F:=by
 have e:l=l.take k ++ x :: l.drop (k+1):=by
  have hk:k<l.length:=(lE h).1
  rw [<- (lE h).2,List.getElem_cons_drop,List.take_append_drop]
 rw [e,firstF_append,hn,Option.none_or,List.nil_append,firstF,hf]
 rfl
theorem firstF_go {α:Type} {f:List α->α->Option FaultD} {l:List α} {k:Nat} {x:α} (h:l[k]?=some x) (hn:firstF f [] (l.take k)=none) (hf:f (l.take k) x=none):firstF f [] (l.take (k+1))=none:=by
 rw [List.take_add_one,h,firstF_append,hn,Option.none_or,List.nil_append]
 simp [firstF,hf]
def namesE (l:List ByteArray):Int:=if 32<l.length then 5 else errOf (declsF l 0 0)
theorem refDecls (v:Value) (l:List ByteArray) (w:World) (h:RdStrs none w v l) :
  Calls Tryz.prog 59 #[v] w fun e w'=>e=.returned (.int .i64 (namesE l))/\Below w.heap.size w w':=by
 obtain ⟨a,c,rfl,⟨hl,hlc⟩,hr⟩:=id h
 have HR:=Hd hr
 have H:=Hd h
 clear hr h
 go_enter Tryz.func59,Tryz.ntmps59
 by_cases hlong:32<l.length
 ·have hlong':(32:Int)<(l.length:Int):=by omega
  have HE:Hid (namesE l=5):=by unfold Hid namesE;rw [if_pos hlong]
  go_wp2_with fail
  go_ret
  exact ⟨by rw [HE.out];rfl,bR _ _⟩
 ·have hlong':¬ (32:Int)<(l.length:Int):=by omega
  have HE:Hid (namesE l=errOf (declsF l 0 0)):=by unfold Hid namesE;rw [if_neg hlong]
  go_wp2_with fail
  go_loopw [3] (fun i wr=>∃ k:Nat,k<=l.length/\i=.int .i64 k/\firstF (fun d s=>declF d s 0 0) [] (l.take k)=none/\Below w.heap.size w wr) (fun i _=>l.length - (intOf i).toNat)
  case atStart=>exact ⟨0,Nat.zero_le _,rfl,rfl,bR _ _⟩
  case round=>
   obtain ⟨k,hk,rfl,hq,hb⟩:=hrel
   have HQ:=Hd hq
   have HB:=Hd hb
   clear hq hb
   by_cases hlt:k<l.length
   ·have hlt':(k:Int)<(l.length:Int):=by omega
    obtain ⟨x,hx⟩:∃ x,l[k]?=some x:=⟨_,lG hlt⟩
    obtain ⟨b,o,rfl,_,c0,hsz⟩:=HR.out k x hx
    have c0':=cell_keep HB.out c0
    have C1:=Hd (refNamed x wr hsz)
    have HX:=Hd hx
    have HC:=Hd c0
    clear hx c0
    cases hn:named x
    ·have HV:Hid (errOf (declsF l 0 0)=4):=by
      unfold Hid declsF
      rw [firstF_hit HX.out HQ.out (F:=⟨0,0,4⟩) (by unfold declF;rw [hn];rfl)]
      rfl
     rw [hn] at C1
     clear hn
     go_wp2_with (go_at_call 93;refine C1.out.mono ?_;rintro e w1 ⟨rfl,hb1⟩)
     go_ret
     exact ⟨by rw [HE.out,HV.out];rfl,bcomp HB.out hb1⟩
    ·have HN:=Hd hn
     rw [hn] at C1
     clear hn
     go_upto_region 8 with (go_at_call 93;refine C1.out.mono ?_;rintro e w1 ⟨rfl,hb1⟩)
     have HB1:=Hd (bcomp HB.out hb1)
     clear hb1 c0' C1
     have e0:=fun x=>ext_cell (cell_keep HB1.out HC.out) x
     have hcut:=(H.out.keep HB1.out).cut (n:=k) (by omega)
     have c2:=fun y=>refIs (.slice (some ⟨b,o,none⟩) k c) (l.take k) x (ext w1 y) (hcut.keep (ext_below _ _))
     have hkc:k<=c:=by omega
     cases his:inL x (l.take k)
     ·have HV:Hid (firstF (fun d s=>declF d s 0 0) [] (l.take (k+1))=none):=firstF_go HX.out HQ.out (by unfold declF;rw [HN.out,his];rfl)
      rw [his] at c2
      have C2:=Hd c2
      clear c2 his hcut
      (refine wp_region_calm (by kernel_rfl) (by kernel_rfl) ?_; (repeat (go_big_quiet_step ((go_at_call 64;exact calls_calm ((C2.out _).mono (fun _ _ hh=>⟨hh.1,hh.2 ▸ bR _ _⟩)))))); refine wpQuiet_nil ?_; intro wc hwc)
      have HB2:=Hd (bcomp HB1.out hwc)
      clear e0
      go_wp2_with fail
      go_roundw
      case rel=>exact ⟨k+1,by omega,by go_num,HV.out,HB2.out⟩
      case measure=>simp [intOf];omega
     ·have HV:Hid (errOf (declsF l 0 0)=8):=by
       unfold Hid declsF
       rw [firstF_hit HX.out HQ.out (F:=⟨0,0,8⟩) (by unfold declF;rw [HN.out,his];rfl)]
       rfl
      rw [his] at c2
      have C2:=Hd c2
      clear c2 his hcut
      (refine wp_region_calm (by kernel_rfl) (by kernel_rfl) ?_; (repeat (go_big_quiet_step ((go_at_call 64;exact calls_calm ((C2.out _).mono (fun _ _ hh=>⟨hh.1,hh.2 ▸ bR _ _⟩)))))); refine wpQuiet_nil ?_; intro wc hwc)
      have HB2:=Hd (bcomp HB1.out hwc)
      clear e0
      go_wp2_with fail
      go_ret
      exact ⟨by rw [HE.out,HV.out];rfl,HB2.out⟩
   ·obtain rfl:k=l.length:=by omega
    have HV:Hid (errOf (declsF l 0 0)=0):=by
     unfold Hid declsF
     have:=HQ.out
     rw [List.take_length] at this
     rw [this];rfl
    go_wp2_with fail
    go_ret
    exact ⟨by rw [HE.out,HV.out];rfl,HB.out⟩
def preC (p:ProgD) (i:Nat):List InstrD:=codesOf (p.funcs.take i) ++ (if p.funcs.length<i then p.main else [])
theorem codesOf_append (l m:List FuncD):codesOf (l ++ m)=codesOf l ++ codesOf m:=by unfold codesOf;rw [List.flatMap_append]
theorem preC_step {p:ProgD} {i:Nat} (hi:i<=p.funcs.length):preC p (i+1)=preC p i ++ codeAt p i:=by
 unfold preC codeAt
 by_cases h:i<p.funcs.length
 ·obtain ⟨f,hf⟩:∃ f,p.funcs[i]?=some f:=⟨_,lG h⟩
  rw [if_neg (by omega),if_neg (by omega),List.take_add_one,hf,codesOf_append]
  simp [codesOf]
 ·obtain rfl:i=p.funcs.length:=by omega
  rw [if_pos (by omega),if_neg (by omega),List.take_of_length_le (by omega),List.take_length,List.getElem?_eq_none (by omega)]
  simp
theorem preC_len (p:ProgD) (i:Nat):(preC p i).length<=(codesOf p.funcs).length+p.main.length:=by
 unfold preC
 have h:codesOf p.funcs=codesOf (p.funcs.take i) ++ codesOf (p.funcs.drop i):=by rw [<- codesOf_append,List.take_append_drop]
 have:=congrArg List.length h
 rw [List.length_append] at this
 rw [List.length_append]
 split <;> simp <;> omega
theorem sites_len:∀ (l:List InstrD) (s:List ByteArray),(sitesOf s l).length<=s.length+l.length
 | [],s=>by simp [sitesOf]
 | x :: l,s=>by
  have h:sitesOf s (x :: l)=sitesOf (if x.kind == 7 then putL x.name s else s) l:=rfl
  rw [h]
  have:=sites_len l (if x.kind == 7 then putL x.name s else s)
  have h2:(if x.kind == 7 then putL x.name s else s).length<=s.length+1:=by
   split
   ·unfold putL;split <;> simp
   ·omega
  simp only [List.length_cons]
  omega
theorem code_step (l:List InstrD) {k:Nat} {x:InstrD} (h:l[k]?=some x) (s:List ByteArray):sitesOf s (l.take (k+1))=if x.kind == 7 then putL x.name (sitesOf s (l.take k)) else sitesOf s (l.take k):=by
 rw [List.take_add_one,h]
 exact sitesOf_snoc _ _ _
theorem refBody2 (p:ProgD) (cv av fv mv:Value) (i:Nat) (w:World) (h:RdProg none w p cv av fv mv) (hi:i<=p.funcs.length) :
  Calls Tryz.prog 67 #[progV p cv av fv mv,.int .i64 i] w fun e w'=>∃ v,e=.returned v/\(∀ w0,RdProg none w0 p cv av fv mv->Below w0.heap.size w0 w->RdInstrs none w0 v (codeAt p i))/\Below w.heap.size w w':=by
 obtain ⟨_,_,h3,h4,_⟩:=h
 obtain ⟨a,c,rfl,hl,hr⟩:=h3
 have HR:=Hd hr
 have H4:=Hd h4
 obtain ⟨a4,c4,rfl,_⟩:=id h4
 clear hr h4
 by_cases hlt:i<p.funcs.length
 ·obtain ⟨x,hx⟩:∃ x,p.funcs[i]?=some x:=⟨_,lG hlt⟩
  obtain ⟨b,o,pv2,cv2,rfl,_,c0,c1,c2,_,_,hf⟩:=HR.out i x hx
  have HV:Hid (∀ w0,RdProg none w0 p cv av (.slice (some ⟨b,o,none⟩) p.funcs.length c) (.slice a4 p.main.length c4)->Below w0.heap.size w0 w->RdInstrs none w0 cv2 (codeAt p i)):=by
   intro w0 h0 hbw
   obtain ⟨_,_,h3,_,_⟩:=h0
   obtain ⟨a',c',e',_,hr'⟩:=h3
   simp only [Value.slice.injEq] at e'
   obtain ⟨rfl,-,-⟩:=e'
   obtain ⟨b',o',pv',cv',e2,_,_,_,x2,_,_,hf'⟩:=hr' i x hx
   simp only [Option.some.injEq,Addr.mk.injEq,and_true] at e2
   obtain ⟨rfl,rfl⟩:=e2
   rw [cell_keep hbw x2] at c2
   cases c2
   unfold codeAt;rw [hx];exact hf'.2.1
  obtain ⟨a5,c5,rfl,_⟩:=id hf.2.1
  have hlt2:(i:Int)<(p.funcs.length:Int):=by omega
  clear hx c0 c1 hf
  go_enter Tryz.func67,Tryz.ntmps67
  go_upto_region 1 with fail
  have hb0:Below w.heap.size w (w.alloc (.cells #[.int .i64 p.width,cv,av,.slice (some ⟨b,o,none⟩) p.funcs.length c,.slice a4 p.main.length c4] 27)):=(bR _ _).alloc (nR _) _
  have G0:=heap_alloc_new w (.cells #[.int .i64 p.width,cv,av,.slice (some ⟨b,o,none⟩) p.funcs.length c,.slice a4 p.main.length c4] 27)
  generalize w.alloc (.cells #[.int .i64 p.width,cv,av,.slice (some ⟨b,o,none⟩) p.funcs.length c,.slice a4 p.main.length c4] 27)=W1 at *
  have i3:=row_of G0 3 (.slice (some ⟨b,o,none⟩) p.funcs.length c) rfl
  have d2:=cell_keep hb0 c2
  have HB:=Hd hb0
  clear G0 hb0 c2
  go_wp2
  go_ret
  exact ⟨_,rfl,HV.out,HB.out⟩
 ·obtain rfl:i=p.funcs.length:=by omega
  have HV:Hid (∀ w0,RdProg none w0 p cv av (.slice a p.funcs.length c) (.slice a4 p.main.length c4)->Below w0.heap.size w0 w->RdInstrs none w0 (.slice a4 p.main.length c4) (codeAt p p.funcs.length)):=by
   intro w0 h0 _
   unfold codeAt;rw [List.getElem?_eq_none (nR _)];exact h0.2.2.2.1
  go_enter Tryz.func67,Tryz.ntmps67
  go_upto_region 1 with fail
  have hb0:Below w.heap.size w (w.alloc (.cells #[.int .i64 p.width,cv,av,.slice a p.funcs.length c,.slice a4 p.main.length c4] 27)):=(bR _ _).alloc (nR _) _
  have G0:=heap_alloc_new w (.cells #[.int .i64 p.width,cv,av,.slice a p.funcs.length c,.slice a4 p.main.length c4] 27)
  generalize w.alloc (.cells #[.int .i64 p.width,cv,av,.slice a p.funcs.length c,.slice a4 p.main.length c4] 27)=W1 at *
  have i3:=row_of G0 3 (.slice a p.funcs.length c) rfl
  have i4:=row_of G0 4 (.slice a4 p.main.length c4) rfl
  have HB:=Hd hb0
  clear G0 hb0
  go_wp2
  go_ret
  exact ⟨_,rfl,HV.out,HB.out⟩
theorem refSites (p:ProgD) (cv av fv mv:Value) (w:World) (h:RdProg none w p cv av fv mv) (hN:(codesOf p.funcs).length+p.main.length<=1759218604440) :
  Calls Tryz.prog 34 #[progV p cv av fv mv] w fun e w'=>∃ v,e=.returned v/\RdStrs (some (upFrom w.heap.size)) w' v (sitesOf [] (preC p (p.funcs.length+1)))/\Below w.heap.size w w':=by
 obtain ⟨hrc,hra,hrf,hrm,hrw⟩:=id h
 obtain ⟨ac,kc,rfl,-,-⟩:=id hrc
 obtain ⟨aa,ka,rfl,-,-⟩:=id hra
 obtain ⟨af,kf,rfl,⟨hlf,-⟩,-⟩:=id hrf
 obtain ⟨am,km,rfl,-,-⟩:=id hrm
 obtain ⟨i0,hi,hz0,hz1,hz2⟩:=info_parts infoStr
 have H:=Hd h
 have HLN:Hid (∀ i,(preC p i).length<=1759218604440):=fun i=>Nat.le_trans (preC_len p i) hN
 clear h hrc hra hrf hrm hrw hN
 go_enter Tryz.func34,Tryz.ntmps34
 go_wp2_with fail
 have hb0:=(bR w.heap.size w).alloc (nR _) (.cells #[.int .i64 p.width,.slice ac p.chans.length kc,.slice aa p.arrays.length ka,.slice af p.funcs.length kf,.slice am p.main.length km] 27)
 have g0:=heap_alloc_new w (.cells #[.int .i64 p.width,.slice ac p.chans.length kc,.slice aa p.arrays.length ka,.slice af p.funcs.length kf,.slice am p.main.length km] 27)
 generalize w.alloc (.cells #[.int .i64 p.width,.slice ac p.chans.length kc,.slice aa p.arrays.length ka,.slice af p.funcs.length kf,.slice am p.main.length km] 27)=W1 at *
 have G0:=Hd g0
 have HB0:=Hd hb0
 have hs1:w.heap.size<W1.heap.size:=(aE g0).1
 clear g0 hb0
 go_loopw [3,4,5,6] (fun out ii _ _ wr=>∃ (i:Nat) (S:List ByteArray) (a:Option Addr) (c:Nat),i<=p.funcs.length+1/\ii=.int .i64 i/\Hid (S=sitesOf [] (preC p i))/\out=.slice a S.length c/\wr.ownsRow W1.heap.size 9 1 (.slice a S.length c) S.length (S.flatMap strCells)/\(∀ s ∈ S,s.size<=maxLen)/\Below W1.heap.size W1 wr) (fun _ ii _ _ _=>p.funcs.length+1 - (intOf ii).toNat)
 case atStart=>exact ⟨0,[],none,0,by omega,rfl,by unfold Hid preC;simp [codesOf,sitesOf],rfl,World.ownsRow_nil _ _ _ _,(fun s hs=>nomatch hs),bR _ _⟩
 case round=>
  obtain ⟨i,S,a,c,hin,rfl,HS,rfl,hown,hok,hb⟩:=hrel
  have HO:=Hd hown
  have HK:=Hd hok
  have HB:=Hd hb
  have hg:=(hb.block w.heap.size hs1).trans G0.out
  have hsz:=hb.size
  have l0:=row_of hg 0 _ rfl
  have l1:=row_of hg 1 _ rfl
  have l2:=row_of hg 2 _ rfl
  have l3:=row_of hg 3 _ rfl
  have l4:=row_of hg 4 _ rfl
  clear hown hok hb hg
  by_cases hlt:i<=p.funcs.length
  ·have hlt':(i:Int)<=(p.funcs.length:Int):=by omega
   have HBd:=Hd (refBody2 p _ _ _ _ i wr ((H.out.keep HB0.out).keep HB.out) hlt)
   go_upto_region 6 with (go_at_call 67;refine HBd.out.mono ?_;rintro e w5 ⟨bv,rfl,hbr,hb5⟩;obtain ⟨ba,bc,rfl,⟨hlb,-⟩,hbr⟩:=hbr W1 (H.out.keep HB0.out) HB.out)
   clear l0 l1 l2 l3 l4 HBd
   have HR:=Hd hbr
   have HB5:=Hd (HB.out.trans (hb5.mono hsz))
   have HO5:=Hd (own_below HO.out hb5)
   clear hbr hb5 HO HB
   go_wp2_with fail
   go_loopw [3,6] (fun out kk wi=>∃ (k:Nat) (T:List ByteArray) (a:Option Addr) (c:Nat),k<=(codeAt p i).length/\kk=.int .i64 k/\Hid (T=sitesOf S ((codeAt p i).take k))/\out=.slice a T.length c/\wi.ownsRow W1.heap.size 9 1 (.slice a T.length c) T.length (T.flatMap strCells)/\(∀ s ∈ T,s.size<=maxLen)/\Below W1.heap.size W1 wi) (fun _ kk _=>(codeAt p i).length - (intOf kk).toNat)
   case atStart=>exact ⟨0,S,a,c,Nat.zero_le _,rfl,by unfold Hid;simp [sitesOf],rfl,HO5.out,HK.out,HB5.out⟩
   case round=>
    obtain ⟨k,T,a',c',hkn,rfl,HT,rfl,hown,hok,hb⟩:=hrel
    obtain ⟨wi,rfl⟩:∃ x:World,x=wr:=⟨_,rfl⟩
    have HKT:=Hd hok
    have HBI:=Hd hb
    have hszi:=hb.size
    have hTl:T.length<=1759218604440:=by
     rw [HT.out,HS.out]
     have h1:=sites_len ((codeAt p i).take k) (sitesOf [] (preC p i))
     have h2:=sites_len (preC p i) []
     have h3:=HLN.out (i+1)
     rw [preC_step hlt,List.length_append] at h3
     simp only [List.length_nil,List.length_take] at h1 h2
     omega
    by_cases hkl:k<(codeAt p i).length
    ·have hkl':(k:Int)<((codeAt p i).length:Int):=by omega
     obtain ⟨x,hx⟩:∃ x,(codeAt p i)[k]?=some x:=⟨_,lG hkl⟩
     obtain ⟨b,o,av,rfl,-,c0,-,-,c3,-,-,-,hri⟩:=HR.out k x hx
     have d0:=cell_keep hb c0
     have d3:=cell_keep hb c3
     have hns:=hri.2.2.2.2.2.2
     have hrd:RdStrs none wi (.slice a' T.length c') T:=(own_strs hown (by omega) hok).forget
     have HIs:=Hd (fun (w':World) (e:w'=wi)=>e ▸ refIs (.slice a' T.length c') T x.name wi hrd)
     have HST:=Hd (code_step (codeAt p i) hx S)
     clear c0 c3 hri hx hok hb hrd
     by_cases h7:x.kind=7
     ·have h7b:(x.kind == 7)=true:=by simpa using h7
      cases his:inL x.name T
      ·have HN:Hid (T ++ [x.name]=sitesOf S ((codeAt p i).take (k+1))):=by
        unfold Hid
        rw [HST.out,if_pos h7b,<- HT.out]
        unfold putL
        rw [if_neg (by rw [his];simp)]
       have hxk:x.kind=7:=h7
       have C:=HIs.out wi rfl
       rw [his] at C
       have HC:=Hd C
       clear C his HIs HST h7b
       rw [hxk] at d0
       clear h7 hxk
       go_wp2_with (first
        | (go_at_call 64;refine HC.out.mono ?_;rintro e w6 ⟨rfl,rfl⟩)
        | (at_builtin;refine wpList_append_own _ rfl (.tmp 39) (.tmp 45) 22 rfl W1.heap.size 9 i0 (.string ⟨#[]⟩) 1 16 Tryz.underlying22 hi hz0 hz1 hz2 rfl (by decide) _ _ _ rfl (hown.alloc _) ⟨wi.heap.size,0,none⟩ 1 1 (strCells x.name) rfl rfl (many_new _ _ _) ?c2 ?c3 ?c4 ?c5 ?_))
       case c2=>intro u hu;simp [strCells] at hu;subst hu;rfl
       case c3=>unfold maxLen;omega
       case c4=>omega
       case c5=>first|omega|(simp;omega)
       ·intro v' w1 hown' hgrow _
        obtain ⟨a2,c2,rfl,-⟩:=own_read hown'
        have hle:=own_row_le hown
        have hb1:=(HBI.out.alloc hszi (.cells (strCells x.name).toArray 9)).grown hgrow (by simp;omega) hle
        have e:T.flatMap strCells ++ strCells x.name=(T ++ [x.name]).flatMap strCells:=by simp
        rw [e] at hown'
        have HOW:=Hd hown'
        have HBN:=Hd hb1
        have hlen:(T ++ [x.name]).length=T.length+1:=by simp
        clear hown hown' hgrow hle hb1 e
        go_wp2_with fail
        go_roundw
        case rel=>
         refine ⟨k+1,T ++ [x.name],a2,c2,by omega,by go_num,HN,by rw [hlen],by rw [hlen];exact HOW.out,fun s hs=>?_,HBN.out⟩
         rcases List.mem_append.1 hs with h|h
         ·exact HKT.out s h
         ·rw [List.mem_singleton] at h;subst h;exact hns
        case measure=>simp [intOf];omega
      ·have HN:Hid (T=sitesOf S ((codeAt p i).take (k+1))):=by
        unfold Hid
        rw [HST.out,if_pos h7b,<- HT.out]
        unfold putL
        rw [if_pos his]
       have hxk:x.kind=7:=h7
       have C:=HIs.out wi rfl
       rw [his] at C
       have HC:=Hd C
       have HOW:=Hd hown
       clear C his HIs HST h7b hown
       rw [hxk] at d0
       clear h7 hxk
       go_wp2_with (go_at_call 64;refine HC.out.mono ?_;rintro e w6 ⟨rfl,rfl⟩)
       go_roundw
       case rel=>exact ⟨k+1,T,a',c',by omega,by go_num,HN,rfl,HOW.out,HKT.out,HBI.out⟩
       case measure=>simp [intOf];omega
     ·have h7b:(x.kind == 7)=false:=by simpa using h7
      have HN:Hid (T=sitesOf S ((codeAt p i).take (k+1))):=by
       unfold Hid
       rw [HST.out,h7b]
       exact HT.out
      have HOW:=Hd hown
      clear HIs HST hown
      go_wp2_with fail
      go_roundw
      case rel=>exact ⟨k+1,T,a',c',by omega,by go_num,HN,rfl,HOW.out,HKT.out,HBI.out⟩
      case measure=>simp [intOf];omega
    ·obtain rfl:k=(codeAt p i).length:=by omega
     have HN:Hid (T=sitesOf [] (preC p (i+1))):=by
      unfold Hid
      rw [HT.out,List.take_length,HS.out,preC_step hlt,sitesOf_append]
     have HOW:=Hd hown
     clear hown hok hb
     go_wp2_with fail
     go_roundw
     case rel=>exact ⟨i+1,T,a',c',by omega,by go_num,HN,rfl,HOW.out,HKT.out,HBI.out⟩
     case measure=>simp [intOf];omega
  ·obtain rfl:i=p.funcs.length+1:=by omega
   have hlt':¬ ((p.funcs.length:Int)+1<=(p.funcs.length:Int)):=by omega
   have HV:=Hd HS.out
   go_wp2_with fail
   go_ret
   refine ⟨_,rfl,?_,HB0.out.trans (HB.out.mono HB0.out.size)⟩
   rw [<- HV.out]
   have hTl:S.length<=1759218604440:=by
    rw [HV.out]
    have h1:=sites_len (preC p (p.funcs.length+1)) []
    have h2:=HLN.out (p.funcs.length+1)
    simp only [List.length_nil] at h1
    omega
   exact (own_strs HO.out (by omega) HK.out).up (Nat.le_of_lt hs1)
theorem find_atL (s:ByteArray) (l:List FuncD):(∃ (j:Nat) (f:FuncD),findZ s l=j/\l[j]?=some f/\atL s (paramsOf l)=some (f.params.length:Int)) \/ (findZ s l=-1/\atL s (paramsOf l)=none):=by
 unfold findZ atL paramsOf
 rw [List.find?_map]
 cases h:l.findIdx? (fun f=>decide (f.name=s)) with
 | none=>
  refine .inr ⟨rfl,?_⟩
  have:l.find? ((fun p:ByteArray × Int=>decide (p.1=s)) ∘ fun f=>(f.name,(f.params.length:Int)))=none:=by
   rw [List.find?_eq_none]
   intro x hx
   simpa using List.findIdx?_eq_none_iff.1 h x hx
  rw [this];rfl
 | some j=>
  refine .inl ⟨j,?_⟩
  obtain ⟨hj,h1,h2⟩:=List.findIdx?_eq_some_iff_getElem.1 h
  refine ⟨l[j],rfl,lG hj,?_⟩
  have:l.find? ((fun p:ByteArray × Int=>decide (p.1=s)) ∘ fun f=>(f.name,(f.params.length:Int)))=some l[j]:=by
   rw [List.find?_eq_some_iff_getElem]
   exact ⟨h1,j,hj,rfl,fun i hi=>by simpa using h2 i hi⟩
  rw [this];rfl
theorem labR_step (l:List InstrD) {k:Nat} {x:InstrD} (h:l[k]?=some x):labelsOf (l.take (k+1))=if x.kind == 10 then labelsOf (l.take k) ++ [x.name] else labelsOf (l.take k):=by
 rw [List.take_add_one,h]
 exact labelsOf_snoc _ _
theorem inL_snocR (s x:ByteArray) (l:List ByteArray):inL s (l ++ [x])=(inL s l || decide (s=x)):=by
 unfold inL
 rw [List.any_append];simp
theorem target_jump {ps:List (ByteArray × Int)} {ls:List ByteArray} {x:InstrD} (h:x.kind=8 \/ x.kind=9):targetF ps ls x=needF (inL x.name ls) x.line x.col 6:=by unfold targetF;rw [if_pos h]
theorem target_none {ps:List (ByteArray × Int)} {ls:List ByteArray} {x:InstrD} (h:¬ (x.kind=8 \/ x.kind=9)) (h4:x.kind ≠ 4):targetF ps ls x=none:=by unfold targetF;rw [if_neg h,if_neg h4]
theorem target_call {ps:List (ByteArray × Int)} {ls:List ByteArray} {x:InstrD} (h4:x.kind=4):targetF ps ls x=(needF (atL x.name ps).isSome x.line x.col 6).or (needF (decide ((atL x.name ps).getD 0=x.args.length)) x.line x.col 4):=by
 unfold targetF;rw [if_neg (by omega),if_pos h4]
def refV (F:Option FaultD):Value:=.tuple #[.agg #[.int .i64 (posL F),.int .i64 (posC F)],.int .i64 (errOf F)]
theorem res_refers (tmps:Array Value) (W:World) (g:Nat) (l c e:Int) (h4:tmps.getD 4 undef=.pointer (some ⟨g,0,none⟩)) (h5:tmps.getD 5 undef=.int .i64 e) (hg:W.heap[g]?=some (.cells #[.int .i64 l,.int .i64 c] 35 (0,0))) :
  (results Tryz.f95 tmps).run Tryz.prog W=.ok (.tuple #[.agg #[.int .i64 l,.int .i64 c],.int .i64 e]) W:=by
 have r0:=row_of hg 0 _ rfl
 have r1:=row_of hg 1 _ rfl
 rw [Array.getD_eq_getD_getElem?] at h4 h5
 have r0:W.cell? ⟨g,0,none⟩=some (.int .i64 l):=r0
 have r1:W.cell? ⟨g,1,none⟩=some (.int .i64 c):=r1
 simp [results,Tryz.results95,go_sem,h4,h5,r0,r1]
theorem pos_row {w:World} {g:Nat} {l c l' c':Int} (hg:w.heap[g]?=some (.cells #[.int .i64 l,.int .i64 c] 35 (0,0))) :
  ((w.setCell ⟨g,0,none⟩ (.int .i64 l')).setCell ⟨g,1,none⟩ (.int .i64 c')).heap[g]?=some (.cells #[.int .i64 l',.int .i64 c'] 35 (0,0)):=
 heap_setCell_same _ _ 1 _ _ (.int .i64 c') (heap_setCell_same _ _ 0 _ _ (.int .i64 l') hg)
theorem refRefers (p:ProgD) (cv av fv mv:Value) (i:Nat) (w:World) (h:RdProg none w p cv av fv mv) (hi:i<=p.funcs.length) :
  Calls Tryz.prog 95 #[progV p cv av fv mv,.int .i64 i] w fun e w'=>e=.returned (refV (targetsF (paramsOf p.funcs) (labelsOf (codeAt p i)) (codeAt p i)))/\Below w.heap.size w w':=by
 obtain ⟨hrc,hra,hrf,hrm,hrw⟩:=id h
 obtain ⟨ac,kc,rfl,-,-⟩:=id hrc
 obtain ⟨aa,ka,rfl,-,-⟩:=id hra
 obtain ⟨af,kf,rfl,-,hrfs⟩:=id hrf
 obtain ⟨am,km,rfl,-,-⟩:=id hrm
 have H:=Hd h
 clear h hrc hra hrf hrm hrw
 go_enter Tryz.func95,Tryz.ntmps95
 go_upto_region 1 with fail
 have hb0:=((bR w.heap.size w).alloc (nR _) (.cells #[.int .i64 p.width,.slice ac p.chans.length kc,.slice aa p.arrays.length ka,.slice af p.funcs.length kf,.slice am p.main.length km] 27)).alloc (by simp) (.cells #[.int .i64 0,.int .i64 0] 35)
 have g0:=heap_alloc2_old w (.cells #[.int .i64 p.width,.slice ac p.chans.length kc,.slice aa p.arrays.length ka,.slice af p.funcs.length kf,.slice am p.main.length km] 27) (.cells #[.int .i64 0,.int .i64 0] 35)
 have g1:=heap_alloc2_new w (.cells #[.int .i64 p.width,.slice ac p.chans.length kc,.slice aa p.arrays.length ka,.slice af p.funcs.length kf,.slice am p.main.length km] 27) (.cells #[.int .i64 0,.int .i64 0] 35)
 generalize ((w.alloc (.cells #[.int .i64 p.width,.slice ac p.chans.length kc,.slice aa p.arrays.length ka,.slice af p.funcs.length kf,.slice am p.main.length km] 27)).alloc (.cells #[.int .i64 0,.int .i64 0] 35))=W0 at *
 have hs0:w.heap.size+1<W0.heap.size:=(aE g1).1
 have G0:=Hd g0
 have G1:=Hd g1
 have HB0:=Hd hb0
 have l0:=row_of g0 0 _ rfl
 have l1:=row_of g0 1 _ rfl
 have l2:=row_of g0 2 _ rfl
 have l3:=row_of g0 3 _ rfl
 have l4:=row_of g0 4 _ rfl
 clear g0 g1 hb0
 have HBd:=Hd (refBody2 p _ _ _ _ i W0 (H.out.keep HB0.out) hi)
 go_upto_region 2 with (go_at_call 67;refine HBd.out.mono ?_;rintro e w1 ⟨bv,rfl,hbr,hb1⟩;obtain ⟨ba,bc,rfl,⟨hlb,-⟩,hbr⟩:=hbr W0 (H.out.keep HB0.out) (bR _ _))
 have HR:=Hd hbr
 have HB1:=Hd hb1
 obtain ⟨code,hcode⟩:∃ c,codeAt p i=c:=⟨_,rfl⟩
 rw [hcode] at HR hlb ⊢
 clear hbr hb1 l0 l1 l2 l3 l4 HBd hrfs
 go_wp2_with fail
 have HCD:=Hd hcode
 clear hcode hi
 go_loopw [7,8,9,10,11] (fun ii _ _ _ _ wr=>∃ k:Nat,k<=code.length/\ii=.int .i64 k/\firstF (fun _ x=>targetF (paramsOf p.funcs) (labelsOf code) x) [] (code.take k)=none/\Below W0.heap.size W0 wr) (fun ii _ _ _ _ _=>code.length - (intOf ii).toNat)
 case atStart=>exact ⟨0,Nat.zero_le _,rfl,rfl,HB1.out⟩
 case round=>
  obtain ⟨k,hk,rfl,hq,hb⟩:=hrel
  have HQ:=Hd hq
  have HB:=Hd hb
  have hszr:=hb.size
  clear hq hb
  by_cases hlt:k<code.length
  ·have hlt':(k:Int)<(code.length:Int):=by omega
   obtain ⟨x,hx⟩:∃ x,code[k]?=some x:=⟨_,lG hlt⟩
   obtain ⟨b,o,av',rfl,-,c0,c1,c2,c3,c4,c5,c6,hri⟩:=HR.out k x hx
   obtain ⟨axa,axc,rfl,hlx,-⟩:=id hri.1
   have d0:=cell_keep HB.out c0
   have d1:=cell_keep HB.out c1
   have d2:=cell_keep HB.out c2
   have d3:=cell_keep HB.out c3
   have d4:=cell_keep HB.out c4
   have d5:=cell_keep HB.out c5
   have d6:=cell_keep HB.out c6
   have HX:=Hd hx
   clear c0 c1 c2 c3 c4 c5 c6 hx hri
   go_upto_region 6 with fail
   have hbx:Below wr.heap.size wr (wr.alloc (.cells #[.int .u8 x.kind,.int .u8 x.op,.string x.dst,.string x.name,.slice axa x.args.length axc,.int .i64 x.line,.int .i64 x.col] 50)):=(bR _ _).alloc (nR _) _
   have gx:=heap_alloc_new wr (.cells #[.int .u8 x.kind,.int .u8 x.op,.string x.dst,.string x.name,.slice axa x.args.length axc,.int .i64 x.line,.int .i64 x.col] 50)
   have HB6:=Hd (HB.out.trans (hbx.mono hszr))
   clear d0 d1 d2 d3 d4 d5 d6 hbx HB
   generalize wr.alloc (.cells #[.int .u8 x.kind,.int .u8 x.op,.string x.dst,.string x.name,.slice axa x.args.length axc,.int .i64 x.line,.int .i64 x.col] 50)=w6 at *
   generalize wr.heap.size=bx at *
   have x0:=row_of gx 0 _ rfl
   have GX:=Hd gx
   clear gx
   by_cases h89:x.kind=8 \/ x.kind=9
   ·have HT:=Hd (target_jump (ps:=paramsOf p.funcs) (ls:=labelsOf code) h89)
    go_cut [32] from 15 to 85 (fun cc wx=>cc=.bool true/\wx=w6)
    case first=>
     rcases h89 with h|h
     ·have hb:(x.kind == 8)=true:=by simp [h]
      go_wp2_with fail
      go_meet
      exact ⟨rfl,rfl⟩
     ·have hb:(x.kind == 8)=false:=by simp [h]
      have hb9:(x.kind == 9)=true:=by simp [h]
      go_wp2_with fail
      go_meet
      exact ⟨rfl,rfl⟩
    obtain ⟨rfl,rfl⟩:=hcut
    obtain ⟨w6,rfl⟩:∃ y:World,y=wc:=⟨_,rfl⟩
    go_wp2_with fail
    go_loopw [9,10] (fun tt jj wi=>∃ j:Nat,j<=code.length/\jj=.int .i64 j/\tt=.bool (inL x.name (labelsOf (code.take j)))/\Below w6.heap.size w6 wi) (fun _ jj _=>code.length - (intOf jj).toNat)
    case atStart=>exact ⟨0,Nat.zero_le _,rfl,by simp [labelsOf,inL],bR _ _⟩
    case round=>
     obtain ⟨j,hj,rfl,rfl,hbi⟩:=hrel
     obtain ⟨wi,rfl⟩:∃ y:World,y=wr:=⟨_,rfl⟩
     have HBI:=Hd hbi
     clear hbi
     by_cases hjl:j<code.length
     ·have hjl':(j:Int)<(code.length:Int):=by omega
      obtain ⟨y,hy⟩:∃ y,code[j]?=some y:=⟨_,lG hjl⟩
      obtain ⟨b2,o2,av2,e2,-,c0,-,-,c3,-⟩:=HR.out j y hy
      simp only [Option.some.injEq,Addr.mk.injEq,and_true] at e2
      obtain ⟨rfl,rfl⟩:=e2
      have HY0:=Hd (cell_keep HBI.out (cell_keep HB6.out c0))
      have HY3:=Hd (cell_keep HBI.out (cell_keep HB6.out c3))
      have HX3:=Hd (cell_keep HBI.out (row_of GX.out 3 _ rfl))
      have HST:=Hd (labR_step code hy)
      clear c0 c3 hy
      go_upto_region 11 with fail
      have e0:=fun z=>ext_cell HY0.out z
      have e3:=fun z=>ext_cell HY3.out z
      have ex:=fun z=>ext_cell HX3.out z
      cases ht:inL x.name (labelsOf (code.take j))
      ·have HT0:=Hd ht
       clear ht
       by_cases h10:y.kind=10
       ·rw [h10] at e0
        have h10b:(y.kind == 10)=true:=by simp [h10]
        cases hn:(y.name.toList == x.name.toList)
        ·have HV:Hid (inL x.name (labelsOf (code.take (j+1)))=false):=by
          unfold Hid
          rw [HST.out,if_pos h10b,inL_snocR,HT0.out,Bool.false_or]
          rw [beq_is] at hn
          simp only [decide_eq_false_iff_not] at hn ⊢
          exact fun e=>hn e.symm
         clear h10 h10b
         (refine wp_region_calm (by kernel_rfl) (by kernel_rfl) ?_; (repeat (go_big_quiet_step (fail))); refine wpQuiet_nil ?_; intro wc hwc)
         have HBN:=Hd (bcomp HBI.out hwc)
         clear e0 e3 ex hn
         go_wp2_with fail
         go_roundw
         case rel=>exact ⟨j+1,by omega,by go_num,by rw [HV.out],HBN.out⟩
         case measure=>simp [intOf];omega
        ·have HV:Hid (inL x.name (labelsOf (code.take (j+1)))=true):=by
          unfold Hid
          rw [HST.out,if_pos h10b,inL_snocR]
          rw [beq_is] at hn
          simp only [decide_eq_true_eq] at hn
          simp [hn]
         clear h10 h10b
         (refine wp_region_calm (by kernel_rfl) (by kernel_rfl) ?_; (repeat (go_big_quiet_step (fail))); refine wpQuiet_nil ?_; intro wc hwc)
         have HBN:=Hd (bcomp HBI.out hwc)
         clear e0 e3 ex hn
         go_wp2_with fail
         go_roundw
         case rel=>exact ⟨j+1,by omega,by go_num,by rw [HV.out],HBN.out⟩
         case measure=>simp [intOf];omega
       ·have h10b:(y.kind == 10)=false:=by simp [h10]
        have HV:Hid (inL x.name (labelsOf (code.take (j+1)))=false):=by
         unfold Hid
         rw [HST.out,h10b]
         exact HT0.out
        (refine wp_region_calm (by kernel_rfl) (by kernel_rfl) ?_; (repeat (go_big_quiet_step (fail))); refine wpQuiet_nil ?_; intro wc hwc)
        have HBN:=Hd (bcomp HBI.out hwc)
        clear e0 e3 ex
        go_wp2_with fail
        go_roundw
        case rel=>exact ⟨j+1,by omega,by go_num,by rw [HV.out],HBN.out⟩
        case measure=>simp [intOf];omega
      ·have HV:Hid (inL x.name (labelsOf (code.take (j+1)))=true):=by
        unfold Hid
        rw [HST.out]
        split
        ·rw [inL_snocR,ht];rfl
        ·exact ht
       clear ht
       (refine wp_region_calm (by kernel_rfl) (by kernel_rfl) ?_; (repeat (go_big_quiet_step (fail))); refine wpQuiet_nil ?_; intro wc hwc)
       have HBN:=Hd (bcomp HBI.out hwc)
       clear e0 e3 ex
       go_wp2_with fail
       go_roundw
       case rel=>exact ⟨j+1,by omega,by go_num,by rw [HV.out],HBN.out⟩
       case measure=>simp [intOf];omega
     ·obtain rfl:j=code.length:=by omega
      have hW:=HBI.out.size
      have hBN:Below W0.heap.size W0 wi:=bcomp' HBI.out HB6.out
      have gxn:=(HBI.out.block bx (aE GX.out).1).trans GX.out
      have grn:=(hBN.block (w.heap.size+1) hs0).trans G1.out
      have p5:=row_of gxn 5 _ rfl
      have p6:=row_of gxn 6 _ rfl
      have p0:=row_of gxn 0 _ rfl
      have z0:=row_of grn 0 _ rfl
      have z1:=row_of grn 1 _ rfl
      have f0:=frozen_of_row wi _ 0 _ _ grn
      have f1:=frozen_of_row wi _ 1 _ _ grn
      have HGR:=Hd grn
      have HBN:=Hd hBN
      have hb4:(x.kind == 4)=false:=by rcases h89 with h|h <;> simp [h]
      clear gxn grn hBN hW h89
      cases ht:inL x.name (labelsOf code)
      ·have HV:Hid (targetsF (paramsOf p.funcs) (labelsOf code) code=some ⟨x.line,x.col,6⟩):=by
        unfold Hid targetsF
        refine firstF_hit HX.out HQ.out ?_
        rw [HT.out,ht];rfl
       rw [List.take_length] at *
       rw [ht]
       clear ht
       go_wp2_with fail
       refine bodyPost_ret (v:=refV (some ⟨x.line,x.col,6⟩)) (res_refers _ _ (w.heap.size+1) x.line x.col 6 rfl rfl (pos_row HGR.out)) rfl ⟨by rw [HCD.out,HV.out],?_⟩
       exact ((HB0.out.trans (HBN.out.mono HB0.out.size)).setCell (by simp) _).setCell (by simp) _
      ·have HV:Hid (firstF (fun _ x=>targetF (paramsOf p.funcs) (labelsOf code) x) [] (code.take (k+1))=none):=firstF_go HX.out HQ.out (by rw [HT.out,ht];rfl)
       rw [List.take_length]
       rw [ht]
       clear ht
       go_wp2_with fail
       go_roundw
       case rel=>exact ⟨k+1,by omega,by go_num,HV.out,HBN.out⟩
       case measure=>simp [intOf];omega
   ·have hb8:(x.kind == 8)=false:=by simp;exact fun e=>h89 (.inl e)
    have hb9:(x.kind == 9)=false:=by simp;exact fun e=>h89 (.inr e)
    by_cases h4:x.kind=4
    ·have hb4:(x.kind == 4)=true:=by simp [h4]
     have HT:=Hd (target_call (ps:=paramsOf p.funcs) (ls:=labelsOf code) h4)
     have hg0:=(HB6.out.block w.heap.size (by omega)).trans G0.out
     have l0:=row_of hg0 0 _ rfl
     have l1:=row_of hg0 1 _ rfl
     have l2:=row_of hg0 2 _ rfl
     have l3:=row_of hg0 3 _ rfl
     have l4:=row_of hg0 4 _ rfl
     have x3:=row_of GX.out 3 _ rfl
     have C:=refFind p (.slice ac p.chans.length kc) (.slice aa p.arrays.length ka) (.slice af p.funcs.length kf) (.slice am p.main.length km) x.name w6 ((H.out.keep HB0.out).keep HB6.out).2.2.1
     clear h89 h4
     rcases find_atL x.name p.funcs with ⟨j,f,e1,e2,e3⟩|⟨e1,e2⟩
     ·rw [e1] at C
      have HC:=Hd C
      have HE:=Hd e3
      have hjl:j<p.funcs.length:=(lE e2).1
      have hjl':(j:Int)<(p.funcs.length:Int):=by omega
      obtain ⟨a9,c9,e9,-,hr9⟩:=id ((H.out.keep HB0.out).keep HB6.out).2.2.1
      simp only [Value.slice.injEq] at e9
      obtain ⟨rfl,-,-⟩:=e9
      obtain ⟨fb,fo,pv9,cv9,rfl,-,-,y1,-,-,-,hf9⟩:=hr9 j f e2
      obtain ⟨pa,pcap,rfl,-⟩:=id hf9.1
      have HY1:=Hd y1
      have HX4:=Hd (row_of GX.out 4 _ rfl)
      have HL3:=Hd l3
      clear C e1 e2 e3 hr9 hf9 y1
      go_upto_region 18 with (go_at_call 123;refine HC.out.mono ?_;rintro e w7 ⟨rfl,hb7⟩)
      have HB7:=Hd (bcomp' hb7 HB6.out)
      have g3:=fun z=>ext_cell (cell_keep hb7 HL3.out) z
      have g1':=fun z=>ext_cell (cell_keep hb7 HY1.out) z
      have g4:=fun z=>ext_cell (cell_keep hb7 HX4.out) z
      have hbx7:=Hd ((hb7.block bx (aE GX.out).1).trans GX.out)
      clear l0 l1 l2 l3 l4 x3 x0 hb7 hg0
      by_cases hne:(f.params.length:Int)=(x.args.length:Int)
      ·have HV:Hid (firstF (fun _ x=>targetF (paramsOf p.funcs) (labelsOf code) x) [] (code.take (k+1))=none):=firstF_go HX.out HQ.out (by rw [HT.out,HE.out];simp [needF,hne])
       have hneb:((f.params.length:Int) != (x.args.length:Int))=false:=by simp [hne]
       clear hne
       (refine wp_region_calm (by kernel_rfl) (by kernel_rfl) ?_; (repeat (go_big_quiet_step (fail))); refine wpQuiet_nil ?_; intro wc hwc)
       have HB8:=Hd (bcomp HB7.out hwc)
       clear g3 g1' g4
       go_wp2_with fail
       go_roundw
       case rel=>exact ⟨k+1,by omega,by go_num,HV.out,HB8.out⟩
       case measure=>simp [intOf];omega
      ·have HV:Hid (targetsF (paramsOf p.funcs) (labelsOf code) code=some ⟨x.line,x.col,4⟩):=by
        unfold Hid targetsF
        refine firstF_hit HX.out HQ.out ?_
        rw [HT.out,HE.out];simp [needF,hne]
       have hneb:((f.params.length:Int) != (x.args.length:Int))=true:=by simp [hne]
       clear hne
       (refine wp_region_calm (by kernel_rfl) (by kernel_rfl) ?_; (repeat (go_big_quiet_step (fail))); refine wpQuiet_nil ?_; intro wc hwc)
       have HB8:=Hd (bcomp HB7.out hwc)
       have gx8:=(hwc.block bx (aE hbx7.out).1).trans hbx7.out
       have gr8:=(HB8.out.block (w.heap.size+1) hs0).trans G1.out
       have p5:=row_of gx8 5 _ rfl
       have p6:=row_of gx8 6 _ rfl
       have z0:=row_of gr8 0 _ rfl
       have z1:=row_of gr8 1 _ rfl
       have f0:=frozen_of_row wc _ 0 _ _ gr8
       have f1:=frozen_of_row wc _ 1 _ _ gr8
       have HGR:=Hd gr8
       clear g3 g1' g4 gx8 gr8 hwc
       go_wp2_with fail
       refine bodyPost_ret (v:=refV (some ⟨x.line,x.col,4⟩)) (res_refers _ _ (w.heap.size+1) x.line x.col 4 rfl rfl (pos_row HGR.out)) rfl ⟨by rw [HCD.out,HV.out],?_⟩
       exact ((HB0.out.trans (HB8.out.mono HB0.out.size)).setCell (by simp) _).setCell (by simp) _
     ·rw [e1] at C
      have HC:=Hd C
      have HV:Hid (targetsF (paramsOf p.funcs) (labelsOf code) code=some ⟨x.line,x.col,6⟩):=by
       unfold Hid targetsF
       refine firstF_hit HX.out HQ.out ?_
       rw [HT.out,e2];rfl
      clear C e1 e2
      go_upto_region 17 with (go_at_call 123;refine HC.out.mono ?_;rintro e w7 ⟨rfl,hb7⟩)
      have HB8:=Hd (bcomp' hb7 HB6.out)
      have gx8:=(hb7.block bx (aE GX.out).1).trans GX.out
      have gr8:=(HB8.out.block (w.heap.size+1) hs0).trans G1.out
      have p5:=row_of gx8 5 _ rfl
      have p6:=row_of gx8 6 _ rfl
      have z0:=row_of gr8 0 _ rfl
      have z1:=row_of gr8 1 _ rfl
      have f0:=frozen_of_row w7 _ 0 _ _ gr8
      have f1:=frozen_of_row w7 _ 1 _ _ gr8
      have HGR:=Hd gr8
      clear gx8 gr8 hb7 l0 l1 l2 l3 l4 x3 x0 hg0
      go_wp2_with fail
      refine bodyPost_ret (v:=refV (some ⟨x.line,x.col,6⟩)) (res_refers _ _ (w.heap.size+1) x.line x.col 6 rfl rfl (pos_row HGR.out)) rfl ⟨by rw [HCD.out,HV.out],?_⟩
      exact ((HB0.out.trans (HB8.out.mono HB0.out.size)).setCell (by simp) _).setCell (by simp) _
    ·have hb4:(x.kind == 4)=false:=by simp [h4]
     have HV:Hid (firstF (fun _ x=>targetF (paramsOf p.funcs) (labelsOf code) x) [] (code.take (k+1))=none):=firstF_go HX.out HQ.out (target_none h89 h4)
     clear h89 h4
     go_wp2_with fail
     go_roundw
     case rel=>exact ⟨k+1,by omega,by go_num,HV.out,HB6.out⟩
     case measure=>simp [intOf];omega
  ·obtain rfl:k=code.length:=by omega
   have hq:=HQ.out
   rw [List.take_length] at hq
   have HV:Hid (targetsF (paramsOf p.funcs) (labelsOf code) code=none):=hq
   have hr0:=(HB.out.block (w.heap.size+1) hs0).trans G1.out
   have z0:=row_of hr0 0 _ rfl
   have z1:=row_of hr0 1 _ rfl
   have fz0:=frozen_of_row wr _ 0 _ _ hr0
   have fz1:=frozen_of_row wr _ 1 _ _ hr0
   have HR0:=Hd hr0
   clear hq hr0 HR
   go_wp2_with fail
   refine bodyPost_ret (v:=refV none) (res_refers _ _ (w.heap.size+1) 0 0 0 rfl rfl (pos_row HR0.out)) rfl ⟨by rw [HCD.out,HV.out],?_⟩
   exact ((HB0.out.trans (HB.out.mono HB0.out.size)).setCell (by simp) _).setCell (by simp) _
def bodyR (chans arrays:List ByteArray) (main:Bool) (S:List ByteArray) (labels:List ByteArray) (x:InstrD):Option FaultD:=
 if !formB x || (decide (x.kind=12) && main) then some ⟨x.line,x.col,4⟩
 else if (decide (x.kind=5) || decide (x.kind=6)) && !inL x.name chans then some ⟨x.line,x.col,6⟩
 else if (decide (x.kind=2) || decide (x.kind=3)) && !inL x.name arrays then some ⟨x.line,x.col,6⟩
 else if decide (x.kind=10) && inL x.name labels then some ⟨x.line,x.col,8⟩
 else if decide (x.kind=7) && !inL x.name S then some ⟨x.line,x.col,5⟩
 else none
def sitesP (p:ProgD):List ByteArray:=(sitesOf [] (preC p (p.funcs.length+1))).take 32
def codeR (p:ProgD) (i:Nat):Option FaultD:=firstF (fun d x=>bodyR p.chans (aNames p.arrays) (decide (i=p.funcs.length)) (sitesP p) (labelsOf d) x) [] (codeAt p i)
theorem res_body (tmps:Array Value) (W:World) (g:Nat) (l c e:Int) (h4:tmps.getD 4 undef=.pointer (some ⟨g,0,none⟩)) (h5:tmps.getD 5 undef=.int .i64 e) (hg:W.heap[g]?=some (.cells #[.int .i64 l,.int .i64 c] 35 (0,0))) :
  (results Tryz.f61 tmps).run Tryz.prog W=.ok (.tuple #[.agg #[.int .i64 l,.int .i64 c],.int .i64 e]) W:=by
 have r0:=row_of hg 0 _ rfl
 have r1:=row_of hg 1 _ rfl
 rw [Array.getD_eq_getD_getElem?] at h4 h5
 have r0:W.cell? ⟨g,0,none⟩=some (.int .i64 l):=r0
 have r1:W.cell? ⟨g,1,none⟩=some (.int .i64 c):=r1
 simp [results,Tryz.results61,go_sem,h4,h5,r0,r1]
theorem refBodyR (p:ProgD) (cv av fv mv:Value) (i:Nat) (w:World) (h:RdProg none w p cv av fv mv) (hN:(codesOf p.funcs).length+p.main.length<=1759218604440) (hi:i<=p.funcs.length) :
  Calls Tryz.prog 61 #[progV p cv av fv mv,.int .i64 i] w fun e w'=>e=.returned (refV (codeR p i))/\Below w.heap.size w w':=by
 obtain ⟨hrc,hra,hrf,hrm,hrw⟩:=id h
 obtain ⟨ac,kc,rfl,-,-⟩:=id hrc
 obtain ⟨aa,ka,rfl,-,-⟩:=id hra
 obtain ⟨af,kf,rfl,-,hrfs⟩:=id hrf
 obtain ⟨am,km,rfl,-,-⟩:=id hrm
 obtain ⟨i0,hj,hz0,hz1,hz2⟩:=info_parts infoStr
 have H:=Hd h
 clear h hrc hra hrf hrm hrw
 go_enter Tryz.func61,Tryz.ntmps61
 go_upto_region 1 with fail
 have hb0:=((bR w.heap.size w).alloc (nR _) (.cells #[.int .i64 p.width,.slice ac p.chans.length kc,.slice aa p.arrays.length ka,.slice af p.funcs.length kf,.slice am p.main.length km] 27)).alloc (by simp) (.cells #[.int .i64 0,.int .i64 0] 35)
 have g0:=heap_alloc2_old w (.cells #[.int .i64 p.width,.slice ac p.chans.length kc,.slice aa p.arrays.length ka,.slice af p.funcs.length kf,.slice am p.main.length km] 27) (.cells #[.int .i64 0,.int .i64 0] 35)
 have g1:=heap_alloc2_new w (.cells #[.int .i64 p.width,.slice ac p.chans.length kc,.slice aa p.arrays.length ka,.slice af p.funcs.length kf,.slice am p.main.length km] 27) (.cells #[.int .i64 0,.int .i64 0] 35)
 generalize ((w.alloc (.cells #[.int .i64 p.width,.slice ac p.chans.length kc,.slice aa p.arrays.length ka,.slice af p.funcs.length kf,.slice am p.main.length km] 27)).alloc (.cells #[.int .i64 0,.int .i64 0] 35))=W0 at *
 have hs0:w.heap.size+1<W0.heap.size:=(aE g1).1
 have HB0:=Hd hb0
 have G0:=Hd g0
 have G1:=Hd g1
 have l0:=row_of g0 0 _ rfl
 have l1:=row_of g0 1 _ rfl
 have l2:=row_of g0 2 _ rfl
 have l3:=row_of g0 3 _ rfl
 have l4:=row_of g0 4 _ rfl
 clear g0 g1 hb0
 have HS:=Hd (refSites p _ _ _ _ W0 (H.out.keep HB0.out) hN)
 go_upto_region 3 with (go_at_call 34;refine HS.out.mono ?_;rintro e w1 ⟨sv,rfl,hsr,hb1⟩;obtain ⟨sa,sc,rfl,⟨hls,hlsc⟩,-⟩:=id hsr)
 have m0:=cell_keep hb1 l0
 have m1:=cell_keep hb1 l1
 have m2:=cell_keep hb1 l2
 have m3:=cell_keep hb1 l3
 have m4:=cell_keep hb1 l4
 clear l0 l1 l2 l3 l4 HS
 have HBd:=Hd (refBody2 p _ _ _ _ i w1 ((H.out.keep HB0.out).keep hb1) hi)
 go_upto_region 4 with (go_at_call 67;refine HBd.out.mono ?_;rintro e w2 ⟨bv,rfl,hbr,hb2⟩;have hbr:=hbr w1 ((H.out.keep HB0.out).keep hb1) (bR _ _);obtain ⟨ba,bc,rfl,⟨hlb,-⟩,-⟩:=id hbr)
 have hb02:=bcomp hb1 hb2
 have HR:Hid (RdInstrs none w2 (.slice ba (codeAt p i).length bc) (codeAt p i)):=hbr.keep hb2
 have HSR:=Hd (hsr.forget.keep hb2)
 have HP2:=Hd (((H.out.keep HB0.out).keep hb02))
 have K0:=Hd ((hb02.block w.heap.size (by omega)).trans G0.out)
 have K1:=Hd ((hb02.block (w.heap.size+1) hs0).trans G1.out)
 have HB2:=Hd (HB0.out.trans (hb02.mono HB0.out.size))
 have hs2:=hb02.size
 clear m0 m1 m2 m3 m4 hb1 hb2 hb02 hbr hsr HBd hrfs G0 G1
 obtain ⟨S,hS⟩:∃ S,sitesOf [] (preC p (p.funcs.length+1))=S:=⟨_,rfl⟩
 obtain ⟨code,hcode⟩:∃ c,codeAt p i=c:=⟨_,rfl⟩
 rw [hS] at HSR hls hlsc ⊢
 rw [hcode] at HR hlb ⊢
 have HCD:=Hd (And.intro hS hcode)
 clear hS hcode
 go_wp2_with fail
 go_loopw [6,9,10] (fun lv ii _ wr=>∃ (k:Nat) (L:List ByteArray) (a:Option Addr) (c:Nat),k<=code.length/\ii=.int .i64 k/\Hid (L=labelsOf (code.take k))/\lv=.slice a L.length c/\L.length<=k/\wr.ownsRow w2.heap.size 9 1 (.slice a L.length c) L.length (L.flatMap strCells)/\(∀ s ∈ L,s.size<=maxLen)/\firstF (fun d x=>bodyR p.chans (aNames p.arrays) (decide (i=p.funcs.length)) (S.take 32) (labelsOf d) x) [] (code.take k)=none/\Below w2.heap.size w2 wr) (fun _ ii _ _=>code.length - (intOf ii).toNat)
 case atStart=>exact ⟨0,[],none,0,Nat.zero_le _,rfl,by unfold Hid;simp [labelsOf],rfl,nR _,World.ownsRow_nil _ _ _ _,(fun s hs=>nomatch hs),rfl,bR _ _⟩
 case round=>
  obtain ⟨k,L,la,lc,hk,rfl,hLe,rfl,hLk,hown,hok,hq,hb⟩:=hrel
  have HQ:=Hd hq
  have HB:=Hd hb
  have HO:=Hd hown
  have HK:=Hd hok
  have hszr:=hb.size
  clear hq hb hown hok
  by_cases hlt:k<code.length
  ·have hlt':(k:Int)<(code.length:Int):=by omega
   obtain ⟨x,hx⟩:∃ x,code[k]?=some x:=⟨_,lG hlt⟩
   obtain ⟨a2,b2,e2,⟨hl80,-⟩,hr2⟩:=id HR.out
   simp only [Value.slice.injEq] at e2
   obtain ⟨rfl,-,rfl⟩:=e2
   obtain ⟨b,o,av',rfl,-,c0,c1,c2,c3,c4,c5,c6,hri⟩:=hr2 k x hx
   obtain ⟨axa,axc,rfl,hlx,-⟩:=id hri.1
   have d0:=cell_keep HB.out c0
   have d1:=cell_keep HB.out c1
   have d2:=cell_keep HB.out c2
   have d3:=cell_keep HB.out c3
   have d4:=cell_keep HB.out c4
   have d5:=cell_keep HB.out c5
   have d6:=cell_keep HB.out c6
   have HX:=Hd hx
   have HRI:=Hd (hri.keep HB.out)
   clear c0 c1 c2 c3 c4 c5 c6 hx hri hr2
   go_upto_region 8 with fail
   have hbx:Below wr.heap.size wr (wr.alloc (.cells #[.int .u8 x.kind,.int .u8 x.op,.string x.dst,.string x.name,.slice axa x.args.length axc,.int .i64 x.line,.int .i64 x.col] 50)):=(bR _ _).alloc (nR _) _
   have gx:=heap_alloc_new wr (.cells #[.int .u8 x.kind,.int .u8 x.op,.string x.dst,.string x.name,.slice axa x.args.length axc,.int .i64 x.line,.int .i64 x.col] 50)
   have HB6:=Hd (HB.out.trans (hbx.mono hszr))
   have HRI6:=Hd (HRI.out.keep hbx)
   have HO6:=Hd (own_below HO.out hbx)
   clear d0 d1 d2 d3 d4 d5 d6 hbx HB HO HRI
   generalize wr.alloc (.cells #[.int .u8 x.kind,.int .u8 x.op,.string x.dst,.string x.name,.slice axa x.args.length axc,.int .i64 x.line,.int .i64 x.col] 50)=w6 at *
   generalize wr.heap.size=bx at *
   have GX:=Hd gx
   have HP6:=Hd (HP2.out.keep HB6.out)
   have HS6:=Hd (HSR.out.keep HB6.out)
   have Q0:=Hd ((HB6.out.block w.heap.size (by omega)).trans K0.out)
   have Q1:=Hd ((HB6.out.block (w.heap.size+1) (by omega)).trans K1.out)
   have HB60:=Hd (HB2.out.trans (HB6.out.mono HB2.out.size))
   have hin:∀ t:Bool,((i:Int) == (p.funcs.length:Int))=t->decide (i=p.funcs.length)=t:=by
    intro t ht
    rw [<- ht]
    by_cases e:i=p.funcs.length
    ·simp [e]
    ·have:¬ (i:Int)=(p.funcs.length:Int):=by omega
     simp [e,this]
   have HIN:=Hd hin
   clear gx hin
   obtain ⟨b8,hb8⟩:∃ t,(!formB x || (decide (x.kind=12) && decide (i=p.funcs.length)))=t:=⟨_,rfl⟩
   have H8:=Hd hb8
   clear hb8
   go_cut [26] from 16 to 118 (fun cc wx=>cc=.bool b8/\Below w6.heap.size w6 wx)
   case first=>
    have C:=Hd (refForm x _ w6 HRI6.out)
    have x0:=row_of GX.out 0 _ rfl
    have x1:=row_of GX.out 1 _ rfl
    have x2:=row_of GX.out 2 _ rfl
    have x3:=row_of GX.out 3 _ rfl
    have x4:=row_of GX.out 4 _ rfl
    have x5:=row_of GX.out 5 _ rfl
    have x6:=row_of GX.out 6 _ rfl
    have y3:=row_of Q0.out 3 _ rfl
    have HX0:=Hd x0
    have HY3:=Hd y3
    cases hf:formB x
    ·have e8:b8=true:=by rw [<- H8.out,hf];rfl
     rw [hf] at C
     subst e8
     clear hf
     go_wp2_with (go_at_call 94;refine C.out.mono ?_;rintro e w7 ⟨rfl,hb7⟩)
     go_meet
     exact ⟨rfl,hb7⟩
    ·rw [hf] at C
     by_cases h12:x.kind=12
     ·have h12b:(x.kind == 12)=true:=by simp [h12]
      cases hi2:((i:Int) == (p.funcs.length:Int))
      ·have e8:b8=false:=by rw [<- H8.out,hf,HIN.out _ hi2];simp
       subst e8
       clear hf h12
       go_wp2_with (go_at_call 94;refine C.out.mono ?_;rintro e w7 ⟨rfl,hb7⟩;have x0':=cell_keep hb7 HX0.out;have y3':=cell_keep hb7 HY3.out)
       go_meet
       exact ⟨rfl,hb7⟩
      ·have e8:b8=true:=by rw [<- H8.out,hf,HIN.out _ hi2];simp [h12]
       subst e8
       clear hf h12
       go_wp2_with (go_at_call 94;refine C.out.mono ?_;rintro e w7 ⟨rfl,hb7⟩;have x0':=cell_keep hb7 HX0.out;have y3':=cell_keep hb7 HY3.out)
       go_meet
       exact ⟨rfl,hb7⟩
     ·have h12b:(x.kind == 12)=false:=by simp [h12]
      have e8:b8=false:=by rw [<- H8.out,hf];simp [h12]
      subst e8
      clear hf h12
      go_wp2_with (go_at_call 94;refine C.out.mono ?_;rintro e w7 ⟨rfl,hb7⟩;have x0':=cell_keep hb7 HX0.out;have y3':=cell_keep hb7 HY3.out)
      go_meet
      exact ⟨rfl,hb7⟩
   obtain ⟨rfl,hc8⟩:=hcut
   obtain ⟨w8,rfl⟩:∃ y:World,y=wc:=⟨_,rfl⟩
   have HFN:Hid (∀ F,firstF (fun d x=>bodyR p.chans (aNames p.arrays) (decide (i=p.funcs.length)) (S.take 32) (labelsOf d) x) [] code=F->codeR p i=F):=by
    intro F hF
    unfold codeR sitesP
    rw [HCD.out.1,HCD.out.2]
    exact hF
   cases b8
   case true=>
    have gxc:=(hc8.block bx (aE GX.out).1).trans GX.out
    have grc:=(hc8.block (w.heap.size+1) (aE Q1.out).1).trans Q1.out
    have p5:=row_of gxc 5 _ rfl
    have p6:=row_of gxc 6 _ rfl
    have z0:=row_of grc 0 _ rfl
    have z1:=row_of grc 1 _ rfl
    have f0:=frozen_of_row w8 _ 0 _ _ grc
    have f1:=frozen_of_row w8 _ 1 _ _ grc
    have HGR:=Hd grc
    have HBC:=Hd (HB60.out.trans (hc8.mono HB60.out.size))
    clear gxc grc
    have HV:Hid (codeR p i=some ⟨x.line,x.col,4⟩):=HFN.out _ (firstF_hit HX.out HQ.out (by unfold bodyR;rw [H8.out];rfl))
    go_wp2_with fail
    refine bodyPost_ret (v:=refV (some ⟨x.line,x.col,4⟩)) (res_body _ _ (w.heap.size+1) x.line x.col 4 rfl rfl (pos_row HGR.out)) rfl ⟨by rw [HV.out],?_⟩
    exact (HBC.out.setCell (by simp) _).setCell (by simp) _
   case false=>
    go_upto_region 10 with fail
    obtain ⟨b10,hb10⟩:∃ t,((decide (x.kind=5) || decide (x.kind=6)) && !inL x.name p.chans)=t:=⟨_,rfl⟩
    have H10:=Hd hb10
    clear hb10
    go_cut [44] from 16 to 118 (fun cc wx=>cc=.bool b10/\Below w6.heap.size w6 wx)
    case first=>
     have gxc:=(hc8.block bx (aE GX.out).1).trans GX.out
     have gpc:=(hc8.block w.heap.size (aE Q0.out).1).trans Q0.out
     have x0:=row_of gxc 0 _ rfl
     have x3:=row_of gxc 3 _ rfl
     have y1:=row_of gpc 1 _ rfl
     have C:=Hd (refIs _ p.chans x.name w8 (HP6.out.keep hc8).1)
     have HC8:=Hd hc8
     clear gxc gpc hc8
     by_cases h5:x.kind=5
     ·have h5b:(x.kind == 5)=true:=by simp [h5]
      have e10:=Hd (show (!inL x.name p.chans)=b10 by rw [<- H10.out];simp [h5])
      clear h5
      go_wp2_with (go_at_call 64;refine C.out.mono ?_;rintro e w9 ⟨rfl,rfl⟩)
      go_meet
      exact ⟨by rw [e10.out],HC8.out⟩
     ·have h5b:(x.kind == 5)=false:=by simp [h5]
      by_cases h6:x.kind=6
      ·have h6b:(x.kind == 6)=true:=by simp [h6]
       have e10:=Hd (show (!inL x.name p.chans)=b10 by rw [<- H10.out];simp [h6])
       clear h5 h6
       go_wp2_with (go_at_call 64;refine C.out.mono ?_;rintro e w9 ⟨rfl,rfl⟩)
       go_meet
       exact ⟨by rw [e10.out],HC8.out⟩
      ·have h6b:(x.kind == 6)=false:=by simp [h6]
       have e10:=Hd (show false=b10 by rw [<- H10.out];simp [h5,h6])
       clear h5 h6
       go_wp2_with fail
       go_meet
       exact ⟨by rw [e10.out],HC8.out⟩
    obtain ⟨rfl,hc10⟩:=hcut
    obtain ⟨w10,rfl⟩:∃ y:World,y=wc:=⟨_,rfl⟩
    cases b10
    case true=>
     have gxc:=(hc10.block bx (aE GX.out).1).trans GX.out
     have grc:=(hc10.block (w.heap.size+1) (aE Q1.out).1).trans Q1.out
     have p5:=row_of gxc 5 _ rfl
     have p6:=row_of gxc 6 _ rfl
     have z0:=row_of grc 0 _ rfl
     have z1:=row_of grc 1 _ rfl
     have f0:=frozen_of_row w10 _ 0 _ _ grc
     have f1:=frozen_of_row w10 _ 1 _ _ grc
     have HGR:=Hd grc
     have HBC:=Hd (HB60.out.trans (hc10.mono HB60.out.size))
     clear gxc grc
     have HV:Hid (codeR p i=some ⟨x.line,x.col,6⟩):=HFN.out _ (firstF_hit HX.out HQ.out (by unfold bodyR;rw [H8.out,H10.out];rfl))
     go_wp2_with fail
     refine bodyPost_ret (v:=refV (some ⟨x.line,x.col,6⟩)) (res_body _ _ (w.heap.size+1) x.line x.col 6 rfl rfl (pos_row HGR.out)) rfl ⟨by rw [HV.out],?_⟩
     exact (HBC.out.setCell (by simp) _).setCell (by simp) _
    case false=>
     obtain ⟨b12,hb12⟩:∃ t,((decide (x.kind=2) || decide (x.kind=3)) && !inL x.name (aNames p.arrays))=t:=⟨_,rfl⟩
     have H12:=Hd hb12
     clear hb12
     go_upto_region 12 with fail
     go_cut [63] from 16 to 118 (fun cc wx=>cc=.bool b12/\Below w6.heap.size w6 wx)
     case first=>
      have gxc:=(hc10.block bx (aE GX.out).1).trans GX.out
      have gpc:=(hc10.block w.heap.size (aE Q0.out).1).trans Q0.out
      have x0:=ext_cell (row_of gxc 0 _ rfl)
      have x3:=ext_cell (row_of gxc 3 _ rfl)
      have y0:=ext_cell (row_of gpc 0 _ rfl)
      have y1:=ext_cell (row_of gpc 1 _ rfl)
      have y2:=ext_cell (row_of gpc 2 _ rfl)
      have y3:=ext_cell (row_of gpc 3 _ rfl)
      have y4:=ext_cell (row_of gpc 4 _ rfl)
      have HC10:=Hd hc10
      clear gxc gpc hc10
      by_cases h2:x.kind=2
      ·have h2b:(x.kind == 2)=true:=by simp [h2]
       have e12:=Hd (show (!inL x.name (aNames p.arrays))=b12 by rw [<- H12.out];simp [h2])
       clear h2
       refine wp_region_mix (.one [0,1,2,3,4,5,6,7,8,9,11,12] 10 (.one [] 13 (.fin [14,15,16]))) (fun _=>false) (by kernel_rfl) (by kernel_rfl) rfl (by kernel_rfl) (fun _ d _ _ _ h=>by cases d <;> exact h) ?_
       have HBD:Hid (Below w10.heap.size w10 w10.drew):=(bR _ _).drew
       generalize w10.drew=wn at *
       refine mix_one (by simp only [opsOf,List.filterMap_cons,List.filterMap_nil,List.getElem?_toArray,List.getElem?_cons_succ,List.getElem?_cons_zero];rfl) ⟨_,ext_of HBD.out⟩ ?_
       change wpQuiet _ _ _ _ [_,_,_,_,_,_,_,_,_,_,_,_] _
       (repeat (go_big_quiet_step (fail)))
       refine wpQuiet_nil ?_
       clear x0 x3 y0 y1 y2 y3 y4
       refine mix_step rfl ?_
       go_wp2_with (go_at_call 60;refine (refArrayNames p _ _ _ _ _ ((HP6.out.keep HC10.out).keep HBD.out).2.1).mono ?_;rintro e wn ⟨nv,rfl,hnr,hbn⟩;have HNR:=Hd (refIs _ _ x.name _ hnr.forget);obtain ⟨na,nc,rfl,-⟩:=hnr)
       have HBD:=Hd (bcomp HBD.out hbn)
       clear hbn
       refine ⟨fun _=>⟨_,ext_of HBD.out⟩,?_⟩
       refine mix_now ?_
       refine mix_step rfl ?_
       go_wp2_with (go_at_call 64;refine HNR.out.mono ?_;rintro e w9 ⟨rfl,rfl⟩)
       refine ⟨fun _=>⟨_,ext_of HBD.out⟩,?_⟩
       refine mix_fin (by simp only [opsOf,List.filterMap_cons,List.filterMap_nil,List.getElem?_toArray,List.getElem?_cons_succ,List.getElem?_cons_zero];rfl) ⟨_,ext_of HBD.out⟩ ?_
       change wpQuiet _ _ _ _ [_,_,_] _
       (repeat (go_big_quiet_step (fail)))
       refine wpQuiet_nil ?_
       go_wp2_with fail
       go_meet
       exact ⟨by rw [e12.out],bcomp HC10.out HBD.out⟩
      ·have h2b:(x.kind == 2)=false:=by simp [h2]
       by_cases h3:x.kind=3
       ·have h3b:(x.kind == 3)=true:=by simp [h3]
        have e12:=Hd (show (!inL x.name (aNames p.arrays))=b12 by rw [<- H12.out];simp [h3])
        clear h2 h3
        refine wp_region_mix (.one [0,1,2,3,4,5,6,7,8,9,11,12] 10 (.one [] 13 (.fin [14,15,16]))) (fun _=>false) (by kernel_rfl) (by kernel_rfl) rfl (by kernel_rfl) (fun _ d _ _ _ h=>by cases d <;> exact h) ?_
        have HBD:Hid (Below w10.heap.size w10 w10.drew):=(bR _ _).drew
        generalize w10.drew=wn at *
        refine mix_one (by simp only [opsOf,List.filterMap_cons,List.filterMap_nil,List.getElem?_toArray,List.getElem?_cons_succ,List.getElem?_cons_zero];rfl) ⟨_,ext_of HBD.out⟩ ?_
        change wpQuiet _ _ _ _ [_,_,_,_,_,_,_,_,_,_,_,_] _
        (repeat (go_big_quiet_step (fail)))
        refine wpQuiet_nil ?_
        clear x0 x3 y0 y1 y2 y3 y4
        refine mix_step rfl ?_
        go_wp2_with (go_at_call 60;refine (refArrayNames p _ _ _ _ _ ((HP6.out.keep HC10.out).keep HBD.out).2.1).mono ?_;rintro e wn ⟨nv,rfl,hnr,hbn⟩;have HNR:=Hd (refIs _ _ x.name _ hnr.forget);obtain ⟨na,nc,rfl,-⟩:=hnr)
        have HBD:=Hd (bcomp HBD.out hbn)
        clear hbn
        refine ⟨fun _=>⟨_,ext_of HBD.out⟩,?_⟩
        refine mix_now ?_
        refine mix_step rfl ?_
        go_wp2_with (go_at_call 64;refine HNR.out.mono ?_;rintro e w9 ⟨rfl,rfl⟩)
        refine ⟨fun _=>⟨_,ext_of HBD.out⟩,?_⟩
        refine mix_fin (by simp only [opsOf,List.filterMap_cons,List.filterMap_nil,List.getElem?_toArray,List.getElem?_cons_succ,List.getElem?_cons_zero];rfl) ⟨_,ext_of HBD.out⟩ ?_
        change wpQuiet _ _ _ _ [_,_,_] _
        (repeat (go_big_quiet_step (fail)))
        refine wpQuiet_nil ?_
        go_wp2_with fail
        go_meet
        exact ⟨by rw [e12.out],bcomp HC10.out HBD.out⟩
       ·have h3b:(x.kind == 3)=false:=by simp [h3]
        have e12:=Hd (show false=b12 by rw [<- H12.out];simp [h2,h3])
        clear h2 h3
        (refine wp_region_calm (by kernel_rfl) (by kernel_rfl) ?_; (repeat (go_big_quiet_step (fail))); refine wpQuiet_nil ?_; intro wc hwc)
        go_wp2_with fail
        go_meet
        exact ⟨by rw [e12.out],bcomp HC10.out hwc⟩
     obtain ⟨rfl,hc12⟩:=hcut
     obtain ⟨w12,rfl⟩:∃ y:World,y=wc:=⟨_,rfl⟩
     clear hc8 hc10
     cases b12
     case true=>
      have gxc:=(hc12.block bx (aE GX.out).1).trans GX.out
      have grc:=(hc12.block (w.heap.size+1) (aE Q1.out).1).trans Q1.out
      have p5:=row_of gxc 5 _ rfl
      have p6:=row_of gxc 6 _ rfl
      have z0:=row_of grc 0 _ rfl
      have z1:=row_of grc 1 _ rfl
      have f0:=frozen_of_row w12 _ 0 _ _ grc
      have f1:=frozen_of_row w12 _ 1 _ _ grc
      have HGR:=Hd grc
      have HBC:=Hd (HB60.out.trans (hc12.mono HB60.out.size))
      clear gxc grc
      have HV:Hid (codeR p i=some ⟨x.line,x.col,6⟩):=HFN.out _ (firstF_hit HX.out HQ.out (by unfold bodyR;rw [H8.out,H10.out,H12.out];rfl))
      go_wp2_with fail
      refine bodyPost_ret (v:=refV (some ⟨x.line,x.col,6⟩)) (res_body _ _ (w.heap.size+1) x.line x.col 6 rfl rfl (pos_row HGR.out)) rfl ⟨by rw [HV.out],?_⟩
      exact (HBC.out.setCell (by simp) _).setCell (by simp) _
     case false=>
      obtain ⟨b14,hb14⟩:∃ t,(decide (x.kind=10) && inL x.name L)=t:=⟨_,rfl⟩
      have H14:=Hd hb14
      clear hb14
      have hL80:L.length * 16<=140737488351232:=by omega
      go_upto_region 14 with fail
      go_cut [82] from 16 to 118 (fun cc wx=>cc=.bool b14/\Below w6.heap.size w6 wx)
      case first=>
       have gxc:=(hc12.block bx (aE GX.out).1).trans GX.out
       have x0:=row_of gxc 0 _ rfl
       have x3:=row_of gxc 3 _ rfl
       have C:=Hd (refIs (.slice la L.length lc) L x.name w12 (own_strs (own_below HO6.out hc12) hL80 HK.out).forget)
       have HC12:=Hd hc12
       clear gxc hc12
       by_cases h10:x.kind=10
       ·have h10b:(x.kind == 10)=true:=by simp [h10]
        have e14:=Hd (show inL x.name L=b14 by rw [<- H14.out];simp [h10])
        clear h10
        go_wp2_with (go_at_call 64;refine C.out.mono ?_;rintro e w9 ⟨rfl,rfl⟩)
        go_meet
        exact ⟨by rw [e14.out],HC12.out⟩
       ·have h10b:(x.kind == 10)=false:=by simp [h10]
        have e14:=Hd (show false=b14 by rw [<- H14.out];simp [h10])
        clear h10
        go_wp2_with fail
        go_meet
        exact ⟨by rw [e14.out],HC12.out⟩
      obtain ⟨rfl,hc14⟩:=hcut
      obtain ⟨w14,rfl⟩:∃ y:World,y=wc:=⟨_,rfl⟩
      clear hc12
      cases b14
      case true=>
       have gxc:=(hc14.block bx (aE GX.out).1).trans GX.out
       have grc:=(hc14.block (w.heap.size+1) (aE Q1.out).1).trans Q1.out
       have p5:=row_of gxc 5 _ rfl
       have p6:=row_of gxc 6 _ rfl
       have z0:=row_of grc 0 _ rfl
       have z1:=row_of grc 1 _ rfl
       have f0:=frozen_of_row w14 _ 0 _ _ grc
       have f1:=frozen_of_row w14 _ 1 _ _ grc
       have HGR:=Hd grc
       have HBC:=Hd (HB60.out.trans (hc14.mono HB60.out.size))
       clear gxc grc
       have HV:Hid (codeR p i=some ⟨x.line,x.col,8⟩):=HFN.out _ (firstF_hit HX.out HQ.out (by unfold bodyR;rw [<- hLe.out,H8.out,H10.out,H12.out,H14.out];rfl))
       go_wp2_with fail
       refine bodyPost_ret (v:=refV (some ⟨x.line,x.col,8⟩)) (res_body _ _ (w.heap.size+1) x.line x.col 8 rfl rfl (pos_row HGR.out)) rfl ⟨by rw [HV.out],?_⟩
       exact (HBC.out.setCell (by simp) _).setCell (by simp) _
      case false=>
       obtain ⟨b16,hb16⟩:∃ t,(decide (x.kind=7) && !inL x.name (S.take 32))=t:=⟨_,rfl⟩
       have H16:=Hd hb16
       clear hb16
       obtain ⟨ns,hns⟩:∃ n:Nat,min S.length 32=n:=⟨_,rfl⟩
       have hns1:ns<=S.length:=by omega
       have hns2:ns<=sc:=by omega
       have HSc:Hid (RdStrs none w6 (.slice sa ns sc) (S.take 32)):=by
        have:=HS6.out.cut (n:=ns) hns1
        rw [<- hns,take_min] at this
        rw [<- hns];exact this
       go_upto_region 16 with fail
       go_cut [94] from 16 to 118 (fun cc wx=>cc=.bool b16/\Below w6.heap.size w6 wx)
       case first=>
        have min5:∀ w,(Builtin.min_ #[3,3] 3 #[.int .i64 (S.length:Int),.int .i64 32]).run Tryz.prog w=.ok (.int .i64 (ns:Int)) w:=by
         have hz:(ns:Int)=min (S.length:Int) 32:=by omega
         intro w
         rw [hz]
         exact run_min2 _ _ _ _ w
        clear hns
        have gxc:=(hc14.block bx (aE GX.out).1).trans GX.out
        have x0:=ext_cell (row_of gxc 0 _ rfl)
        have x3:=ext_cell (row_of gxc 3 _ rfl)
        have HC14:=Hd hc14
        clear gxc hc14
        by_cases h7:x.kind=7
        ·have h7b:(x.kind == 7)=true:=by simp [h7]
         have e16:=Hd (show (!inL x.name (S.take 32))=b16 by rw [<- H16.out];simp [h7])
         clear h7
         refine wp_region_mix (.one [0,1,2,3,4,5,6,7,8,9,10] 11 (.fin [12,13,14])) (fun _=>false) (by kernel_rfl) (by kernel_rfl) rfl (by kernel_rfl) (fun _ d _ _ _ h=>by cases d <;> exact h) ?_
         have HBD:Hid (Below w14.heap.size w14 w14.drew):=(bR _ _).drew
         generalize w14.drew=wn at *
         refine mix_one (by simp only [opsOf,List.filterMap_cons,List.filterMap_nil,List.getElem?_toArray,List.getElem?_cons_succ,List.getElem?_cons_zero];rfl) ⟨_,ext_of HBD.out⟩ ?_
         change wpQuiet _ _ _ _ [_,_,_,_,_,_,_,_,_,_,_] _
         (repeat (go_big_quiet_step (fail)))
         refine wpQuiet_nil ?_
         clear x0 x3 min5
         refine mix_step rfl ?_
         go_wp2_with (go_at_call 64;refine (refIs _ (S.take 32) x.name _ ((HSc.out.keep HC14.out).keep HBD.out)).mono ?_;rintro e w9 ⟨rfl,rfl⟩)
         refine ⟨fun _=>⟨_,ext_of HBD.out⟩,?_⟩
         refine mix_fin (by simp only [opsOf,List.filterMap_cons,List.filterMap_nil,List.getElem?_toArray,List.getElem?_cons_succ,List.getElem?_cons_zero];rfl) ⟨_,ext_of HBD.out⟩ ?_
         change wpQuiet _ _ _ _ [_,_,_] _
         (repeat (go_big_quiet_step (fail)))
         refine wpQuiet_nil ?_
         go_wp2_with fail
         go_meet
         exact ⟨by rw [e16.out],bcomp HC14.out HBD.out⟩
        ·have h7b:(x.kind == 7)=false:=by simp [h7]
         have e16:=Hd (show false=b16 by rw [<- H16.out];simp [h7])
         clear h7
         (refine wp_region_calm (by kernel_rfl) (by kernel_rfl) ?_; (repeat (go_big_quiet_step (fail))); refine wpQuiet_nil ?_; intro wc hwc)
         go_wp2_with fail
         go_meet
         exact ⟨by rw [e16.out],bcomp HC14.out hwc⟩
       obtain ⟨rfl,hc16⟩:=hcut
       obtain ⟨w16,rfl⟩:∃ y:World,y=wc:=⟨_,rfl⟩
       clear hc14 hns
       cases b16
       case true=>
        have gxc:=(hc16.block bx (aE GX.out).1).trans GX.out
        have grc:=(hc16.block (w.heap.size+1) (aE Q1.out).1).trans Q1.out
        have p5:=row_of gxc 5 _ rfl
        have p6:=row_of gxc 6 _ rfl
        have z0:=row_of grc 0 _ rfl
        have z1:=row_of grc 1 _ rfl
        have f0:=frozen_of_row w16 _ 0 _ _ grc
        have f1:=frozen_of_row w16 _ 1 _ _ grc
        have HGR:=Hd grc
        have HBC:=Hd (HB60.out.trans (hc16.mono HB60.out.size))
        clear gxc grc
        have HV:Hid (codeR p i=some ⟨x.line,x.col,5⟩):=HFN.out _ (firstF_hit HX.out HQ.out (by unfold bodyR;rw [<- hLe.out,H8.out,H10.out,H12.out,H14.out,H16.out];rfl))
        go_wp2_with fail
        refine bodyPost_ret (v:=refV (some ⟨x.line,x.col,5⟩)) (res_body _ _ (w.heap.size+1) x.line x.col 5 rfl rfl (pos_row HGR.out)) rfl ⟨by rw [HV.out],?_⟩
        exact (HBC.out.setCell (by simp) _).setCell (by simp) _
       case false=>
        have HV:Hid (firstF (fun d x=>bodyR p.chans (aNames p.arrays) (decide (i=p.funcs.length)) (S.take 32) (labelsOf d) x) [] (code.take (k+1))=none):=firstF_go HX.out HQ.out (by unfold bodyR;rw [<- hLe.out,H8.out,H10.out,H12.out,H14.out,H16.out];rfl)
        have HST:=Hd (labR_step code HX.out)
        have gxc:=(hc16.block bx (aE GX.out).1).trans GX.out
        have x0:=row_of gxc 0 _ rfl
        have x3:=row_of gxc 3 _ rfl
        have hox:=own_below HO6.out hc16
        have HBW:=Hd (HB6.out.trans (hc16.mono HB6.out.size))
        have hs16:=HBW.out.size
        have hxn:=HRI6.out.2.2.2.2.2.2
        clear gxc hc16
        by_cases h10:x.kind=10
        ·have h10b:(x.kind == 10)=true:=by simp [h10]
         have HLn:Hid (L ++ [x.name]=labelsOf (code.take (k+1))):=by
          unfold Hid
          rw [HST.out,if_pos h10b,<- hLe.out]
         clear h10
         go_wp2_with (at_builtin;refine wpList_append_own _ rfl (.tmp 114) (.tmp 117) 22 rfl w2.heap.size 9 i0 (.string ⟨#[]⟩) 1 16 Tryz.underlying22 hj hz0 hz1 hz2 rfl (by decide) _ _ _ rfl (hox.alloc _) ⟨w16.heap.size,0,none⟩ 1 1 (strCells x.name) rfl rfl (many_new _ _ _) ?c2 ?c3 ?c4 ?c5 ?_)
         case c2=>intro u hu;simp [strCells] at hu;subst hu;rfl
         case c3=>unfold maxLen;omega
         case c4=>omega
         case c5=>first|omega|(simp;omega)
         ·intro v' w1' hown' hgrow _
          obtain ⟨a3,c3,rfl,-⟩:=own_read hown'
          have hle:=own_row_le hox
          have hb1:=(HBW.out.alloc hs16 (.cells (strCells x.name).toArray 9)).grown hgrow (by simp;omega) hle
          have e:L.flatMap strCells ++ strCells x.name=(L ++ [x.name]).flatMap strCells:=by simp
          rw [e] at hown'
          have HOW:=Hd hown'
          have HBN:=Hd hb1
          have hlen:(L ++ [x.name]).length=L.length+1:=by simp
          clear hox hown' hgrow hle hb1 e x0 x3
          go_wp2_with fail
          go_roundw
          case rel=>
           refine ⟨k+1,L ++ [x.name],a3,c3,by omega,by go_num,HLn,by rw [hlen],by rw [hlen];omega,by rw [hlen];exact HOW.out,fun s hs=>?_,HV.out,HBN.out⟩
           rcases List.mem_append.1 hs with h|h
           ·exact HK.out s h
           ·rw [List.mem_singleton] at h;subst h;exact hxn
          case measure=>simp [intOf];omega
        ·have h10b:(x.kind == 10)=false:=by simp [h10]
         have HLn:Hid (L=labelsOf (code.take (k+1))):=by
          unfold Hid
          rw [HST.out,h10b]
          exact hLe.out
         have HOX:=Hd hox
         clear h10 hox
         go_wp2_with fail
         go_roundw
         case rel=>exact ⟨k+1,L,la,lc,by omega,by go_num,HLn,rfl,by omega,HOX.out,HK.out,HV.out,HBW.out⟩
         case measure=>simp [intOf];omega
  ·obtain rfl:k=code.length:=by omega
   have hq:=HQ.out
   rw [List.take_length] at hq
   have HV:Hid (codeR p i=none):=by
    unfold Hid codeR sitesP
    rw [HCD.out.1,HCD.out.2]
    exact hq
   have hr0:=(HB.out.block (w.heap.size+1) (by omega)).trans K1.out
   have z0:=row_of hr0 0 _ rfl
   have z1:=row_of hr0 1 _ rfl
   have fz0:=frozen_of_row wr _ 0 _ _ hr0
   have fz1:=frozen_of_row wr _ 1 _ _ hr0
   have HR0:=Hd hr0
   have HBE:=Hd (HB2.out.trans (HB.out.mono HB2.out.size))
   clear hq hr0 HR HQ
   go_wp2_with fail
   refine bodyPost_ret (v:=refV none) (res_body _ _ (w.heap.size+1) 0 0 0 rfl rfl (pos_row HR0.out)) rfl ⟨by rw [HV.out],?_⟩
   exact (HBE.out.setCell (by simp) _).setCell (by simp) _
end Go.Proofs.YtgllkgedjplpdaaGreatDoor
