/- Contracts of the reference's check of policies and of its rules. Condition: what comes in reads as the plain data. -/
import Derived.Test.YtkjkpddajjmloaaGreatDoorRLb
import Derived.Test.YtkjkpddajjmloaaGreatDoorAgV
import Derived.Test.YtkjkpddajjmloaaGreatDoorMNm
import Derived.Test.YtkjkpddajjmloaaGreatDoorMRc
set_option linter.all false
set_option maxRecDepth 1000000
set_option maxHeartbeats 6400000
namespace Go.Proofs.YtkjkpddajjmloaaGreatDoor
open Go.ChangeShapes Go.WideShapes Go.ChangeAt Go.RowKit
open Go.Lib (hid)
theorem gsRPa {α:Type} {a:Array α} {i:Nat} {v:α} (h:a[i]?=some v):i<a.size:=(Array.getElem?_eq_some_iff.1 h).1
theorem lgRPa {α:Type} {l:List α} {i:Nat} (h:i<l.length):l[i]?=some l[i]:=List.getElem?_eq_getElem h
theorem refBinds (n:Int) (v:Value) (l:List BindD) (w:World) (hn:InI64 n) (h:RdRow kBind none w v l) :
  Calls Tryz.prog 87 #[v,.int .i64 n] w fun e w'=>e=.returned (.int .i64 (bindsErr n l))∧Below w.heap.size w w':=by
 obtain⟨a,cp,rfl⟩:=h.is
 obtain⟨i0,hi,hz0,hz1,hz2⟩:=info_parts infoStr
 have hl:l.length*24≤140737488351232:=h.size
 have HR:=hid h
 clear h
 obtain⟨E,hE⟩:∃ E,bindsErr n l=E:=⟨_,rfl⟩
 rw[hE]
 have HE:=hid hE
 clear hE
 obtain⟨hn1,hn2⟩:=hn
 go_enter Tryz.func87,Tryz.ntmps87
 by_cases g:32<l.length
 ·obtain rfl:E=5:=by rw[← HE.out,bindsErr,if_pos g]
  have g1:(32:Int)<l.length:=by omega
  go_wp2_with fail
  go_ret
  exact⟨rfl,Below.refl _ _⟩
 have g1:¬ (32:Int)<l.length:=by omega
 have HQ0:Hid (E=bindsAt n [] l):=by show E=_;rw[← HE.out,bindsErr,if_neg g]
 clear HE g
 go_wp2_with fail
 go_loopw [5,6] (fun hv i wr=>∃ k:Nat,k≤l.length∧i=.int .i64 k∧Hid (E=bindsAt n ((l.take k).map BindD.name) (l.drop k))∧Hid (∀ s∈(l.take k).map BindD.name,kStr.ok s)∧wr.ownsRow w.heap.size 9 1 hv k (((l.take k).map BindD.name).flatMap cellsStr)∧Below w.heap.size w wr) (fun _ i _=>l.length-(intOf i).toNat)
 case atStart=>exact⟨0,Nat.zero_le _,rfl,HQ0.out,fun s hs=>by simp at hs,World.ownsRow_nil _ _ _ _,Below.refl _ _⟩
 case round=>
  clear HQ0
  obtain⟨k,hk,rfl,HQ,HOK,hown,hb⟩:=hrel
  obtain⟨w1,rfl⟩:∃ x:World,x=wr:=⟨_,rfl⟩
  obtain⟨va,vc,rfl,-⟩:=own_read hown
  have HB:=hid hb
  have HOW:=hid hown
  clear hb hown
  by_cases hlt:k<l.length
  ·have hlt1:(k:Int)<l.length:=by omega
   obtain⟨x,hx⟩:∃ x,l[k]?=some x:=⟨_,lgRPa hlt⟩
   obtain⟨b,o,rfl,_,c0,c1,hxs,hx1,hx2⟩:=atBind (HR.out.keep HB.out) hx
   have HS:=hid (HQ.out.trans (bindsAt_step n l k x hx))
   have HTK:=hid (fun w'=>refTokName x.name w' hxs)
   have HTN:Hid ((l.take (k+1)).map BindD.name=(l.take k).map BindD.name++[x.name]):=by show _=_;rw[List.take_add_one,hx];simp
   have HXS:=hid hxs
   clear hx HQ hxs
   go_upto_region 7 with fail
   cases ht:tokName x.name
   ·obtain rfl:E=4:=by rw[HS.out,ht];rfl
    rw[ht] at HTK
    go_wp2_with (go_at_call 85;refine (HTK.out _).mono ?_;rintro e z1 ⟨rfl,rfl⟩)
    go_ret
    exact⟨rfl,HB.out⟩
   ·rw[ht] at HTK HS
    go_upto_region 9 with (go_at_call 85;refine (HTK.out _).mono ?_;rintro e z1 ⟨rfl,rfl⟩)
    have hI:=refIs (.slice va k vc) ((l.take k).map BindD.name) x.name w1 (by
     have:=own_rows (K:=kStr) (l:=(l.take k).map BindD.name) (by rw[show ((l.take k).map BindD.name).length=k by simp;omega];exact HOW.out) (by show ((l.take k).map BindD.name).length*16≤_;simp;omega) HOK.out
     exact this.forget)
    obtain⟨V,hV⟩:∃ V,hasS x.name ((l.take k).map BindD.name)=V:=⟨_,rfl⟩
    rw[hV] at hI HS
    have HI:=hid hI
    clear hI hV HTK
    cases V
    ·go_upto_region 11 with (go_at_call 86;refine HI.out.mono ?_;rintro e z2 ⟨rfl,rfl⟩)
     clear HI
     by_cases t1:x.level<0
     ·obtain rfl:E=3:=by rw[HS.out,if_neg (by simp),if_neg (by simp),if_pos (.inl t1)]
      go_wp2_with fail
      go_ret
      exact⟨rfl,HB.out⟩
     by_cases t2:n≤x.level
     ·obtain rfl:E=3:=by rw[HS.out,if_neg (by simp),if_neg (by simp),if_pos (.inr t2)]
      go_wp2_with fail
      go_ret
      exact⟨rfl,HB.out⟩
     have HQ2:Hid (E=bindsAt n ((l.take (k+1)).map BindD.name) (l.drop (k+1))):=by
      show E=_
      rw[HS.out,if_neg (by simp),if_neg (by simp),if_neg (by omega)]
     have HOK2:Hid (∀ s∈(l.take (k+1)).map BindD.name,kStr.ok s):=fun s hs=>by
      rw[HTN.out] at hs
      rcases List.mem_append.1 hs with h|h
      ·exact HOK.out s h
      ·simp only[List.mem_singleton] at h;subst h;exact HXS.out
     have hown1:=HOW.out
     go_wp2_with (at_builtin;refine wpList_append_own _ rfl (.tmp 45) (.tmp 51) 22 rfl w.heap.size 9 i0 (.string ⟨#[]⟩) 1 16 Tryz.underlying22 hi hz0 hz1 hz2 rfl (by decide) _ _ _ rfl (hown1.alloc _) ⟨w1.heap.size,0,none⟩ 1 1 (cellsStr x.name) rfl rfl (many_new _ _ _) ?c2 ?c3 ?c4 ?c5 ?_)
     case c2=>intro u hu;simp[cellsStr] at hu;subst hu;rfl
     case c3=>unfold maxLen;omega
     case c4=>omega
     case c5=>have:=HB.out.size;omega
     ·intro v' w4 hown' hgrow _
      have HOW2:Hid (w4.ownsRow w.heap.size 9 1 v' (k+1) (((l.take (k+1)).map BindD.name).flatMap cellsStr)):=by
       show World.ownsRow _ _ _ _ _ _ _
       rw[HTN.out,List.flatMap_append]
       simpa using hown'
      have HB4:=hid ((HB.out.alloc HB.out.size (.cells (cellsStr x.name).toArray 9)).grown hgrow (by simp;have:=HB.out.size;omega) (own_row_le hown1))
      clear hown' hgrow hown1
      go_wp2
      go_roundw
      case rel=>exact⟨k+1,by omega,by go_num,HQ2,HOK2,HOW2.out,HB4.out⟩
      case measure=>simp[intOf];omega
    ·obtain rfl:E=8:=by rw[HS.out,if_neg (by simp),if_pos rfl]
     go_wp2_with (go_at_call 86;refine HI.out.mono ?_;rintro e z2 ⟨rfl,rfl⟩)
     go_ret
     exact⟨rfl,HB.out⟩
  ·obtain rfl:k=l.length:=by omega
   have hlt1:¬ (l.length:Int)<l.length:=by omega
   obtain rfl:E=0:=by rw[HQ.out,List.drop_length];rfl
   go_wp2_with fail
   go_ret
   exact⟨rfl,HB.out⟩
theorem refPolCheck (q:PolD) (lv ov cv sv:Value) (w:World) (h:RdPol none w q lv ov cv sv) :
  Calls Tryz.prog 55 #[polV q lv ov cv sv] w fun e w'=>e=.returned (.int .i64 (polErr q))∧Below w.heap.size w w':=by
 obtain⟨la,lc,rfl⟩:=h.1.is
 obtain⟨oa,oc,rfl⟩:=h.2.1.is
 obtain⟨ca,cc,rfl⟩:=h.2.2.1.is
 obtain⟨sa,sc,rfl⟩:=h.2.2.2.1.is
 obtain⟨hs1,hs2⟩:=h.2.2.2.2.1
 obtain⟨hp1,hp2⟩:=h.2.2.2.2.2.1
 obtain⟨hd1,hd2⟩:=h.2.2.2.2.2.2.1
 obtain⟨hc1,hc2⟩:=h.2.2.2.2.2.2.2
 have hl:q.levels.length*16≤140737488351232:=h.1.size
 have hcap:q.levels.length≤lc:=by obtain⟨a',c',e,hl,_⟩:=h.1;simp only[Value.slice.injEq] at e;obtain⟨_,_,rfl⟩:=e;exact hl.2
 obtain⟨E,hE⟩:∃ E,polErr q=E:=⟨_,rfl⟩
 rw[hE]
 have HE:=hid hE
 have HR:=hid h
 clear hE h
 have HB0:=hid ((Below.refl w.heap.size w).alloc (Nat.le_refl _) (.cells #[.slice la q.levels.length lc,.slice oa q.order.length oc,.slice ca q.chans.length cc,.slice sa q.sites.length sc,.bool q.sens,.int .i64 q.steps,.int .i64 q.paths,.int .i64 q.nodes,.int .i64 q.confs] 30))
 have HP0:=hid (heap_alloc_new w (.cells #[.slice la q.levels.length lc,.slice oa q.order.length oc,.slice ca q.chans.length cc,.slice sa q.sites.length sc,.bool q.sens,.int .i64 q.steps,.int .i64 q.paths,.int .i64 q.nodes,.int .i64 q.confs] 30))
 go_enter Tryz.func55,Tryz.ntmps55
 go_upto_region 1 with fail
 generalize w.alloc (.cells #[.slice la q.levels.length lc,.slice oa q.order.length oc,.slice ca q.chans.length cc,.slice sa q.sites.length sc,.bool q.sens,.int .i64 q.steps,.int .i64 q.paths,.int .i64 q.nodes,.int .i64 q.confs] 30)=W at *
 have HRW:=hid (HR.out.keep HB0.out)
 have hsz:=(gsRPa HP0.out)
 clear HR
 have p0:=row_of HP0.out 0 (.slice la q.levels.length lc) rfl
 by_cases g0:q.levels.length=0
 ·obtain rfl:E=4:=by rw[← HE.out,polErr,if_pos g0]
  have g0':((q.levels.length:Int)==0)=true:=by simp[g0]
  go_wp2_with fail
  go_ret
  exact⟨rfl,HB0.out⟩
 have g0':((q.levels.length:Int)==0)=false:=by simp;exact fun h=>g0 (by rw[h];rfl)
 by_cases g:32<q.levels.length
 ·obtain rfl:E=5:=by rw[← HE.out,polErr,if_neg g0,if_pos g]
  have g1:(32:Int)<q.levels.length:=by omega
  go_wp2_with fail
  go_ret
  exact⟨rfl,HB0.out⟩
 have g1:¬ (32:Int)<q.levels.length:=by omega
 have HE1:Hid (E=if wordsErr [] q.levels≠0 then wordsErr [] q.levels else if latErr q.levels.length q.order≠0 then latErr q.levels.length q.order
  else if bindsErr q.levels.length q.chans≠0 then bindsErr q.levels.length q.chans
  else if bindsErr q.levels.length q.sites≠0 then bindsErr q.levels.length q.sites else limErr q):=by
  show E=_;rw[← HE.out,polErr,if_neg g0,if_neg g]
 clear HE
 go_wp2_with fail
 clear p0
 go_loopw [3] (fun i wr=>∃ k:Nat,k≤q.levels.length∧i=.int .i64 k∧Hid (wordsErr [] q.levels=wordsErr (q.levels.take k) (q.levels.drop k))∧Below W.heap.size W wr) (fun i _=>q.levels.length-(intOf i).toNat)
 case atStart=>exact⟨0,Nat.zero_le _,rfl,rfl,Below.refl _ _⟩
 case round=>
  obtain⟨k,hk,rfl,HQ,hb⟩:=hrel
  obtain⟨w1,rfl⟩:∃ x:World,x=wr:=⟨_,rfl⟩
  have HB:=hid hb
  clear hb
  have HP1:Hid (w1.heap[w.heap.size]?=some (.cells #[.slice la q.levels.length lc,.slice oa q.order.length oc,.slice ca q.chans.length cc,.slice sa q.sites.length sc,.bool q.sens,.int .i64 q.steps,.int .i64 q.paths,.int .i64 q.nodes,.int .i64 q.confs] 30 (0,0))):=(HB.out.block _ hsz).trans HP0.out
  have HB1:=hid (bcomp HB0.out HB.out)
  have HR1:=hid (HRW.out.keep HB.out)
  by_cases hlt:k<q.levels.length
  ·have hlt1:(k:Int)<q.levels.length:=by omega
   obtain⟨x,hx⟩:∃ x,q.levels[k]?=some x:=⟨_,lgRPa hlt⟩
   obtain⟨b,o,rfl,_,c0,hxs⟩:=atStr HR1.out.1 hx
   have HS:=hid (HQ.out.trans (wordsErr_step q.levels k x hx))
   have HTK:=hid (fun w'=>refTokName x w' hxs)
   have HRT:=hid (HR1.out.1.take k (by omega))
   have hkc:k≤lc:=by omega
   clear hx HQ
   obtain⟨V0,hV0⟩:∃ V,wordsErr [] q.levels=V:=⟨_,rfl⟩
   rw[hV0] at HS
   have HV0:=hid hV0
   clear hV0
   have hsz1:=(gsRPa HP1.out)
   have hp2':=HP1.out
   have p0:=row_of hp2' 0 (.slice (some ⟨b,o,none⟩) q.levels.length lc) rfl
   clear hp2'
   cases ht:tokName x
   ·obtain rfl:V0=4:=by rw[HS.out,ht];rfl
    obtain rfl:E=4:=by rw[HE1.out,HV0.out];rfl
    rw[ht] at HTK
    go_wp2_with (go_at_call 85;refine (HTK.out _).mono ?_;rintro e z1 ⟨rfl,rfl⟩)
    go_ret
    exact⟨rfl,HB1.out⟩
   ·rw[ht] at HTK HS
    go_upto_region 10 with (go_at_call 85;refine (HTK.out _).mono ?_;rintro e z1 ⟨rfl,rfl⟩)
    obtain⟨V,hV⟩:∃ V,hasS x (q.levels.take k)=V:=⟨_,rfl⟩
    rw[hV] at HS
    have HVV:=hid hV
    clear hV HTK
    cases V
    ·have HQ2:Hid (wordsErr [] q.levels=wordsErr (q.levels.take (k+1)) (q.levels.drop (k+1))):=by
      show _=_
      rw[HV0.out,HS.out,if_neg (by simp),if_neg (by simp)]
     have C2:Hid (∀ n,Calls Tryz.prog 86 #[.slice (some ⟨b,o,none⟩) k lc,.string x] (w1.drewN n) fun e w''=>e=.returned (.bool false)∧w1.drewN n=w''):=fun n=>by
      have:=refIs _ (q.levels.take k) x (w1.drewN n) (HRT.out.keep (below_drewN (Below.refl _ _) n));rwa [HVV.out] at this
     go_quiet (first|(go_at_call 86;exact quiet_same (C2.out _)))
     have HBN:=hid (below_drewN HB.out nq)
     go_wp2_with fail
     go_roundw
     case rel=>exact⟨k+1,by omega,by go_num,HQ2,HBN.out⟩
     case measure=>simp[intOf];omega
    ·obtain rfl:V0=8:=by rw[HS.out,if_neg (by simp),if_pos rfl]
     obtain rfl:E=8:=by rw[HE1.out,HV0.out];rfl
     have C2:Hid (∀ n,Calls Tryz.prog 86 #[.slice (some ⟨b,o,none⟩) k lc,.string x] (w1.drewN n) fun e w''=>e=.returned (.bool true)∧w1.drewN n=w''):=fun n=>by
      have:=refIs _ (q.levels.take k) x (w1.drewN n) (HRT.out.keep (below_drewN (Below.refl _ _) n));rwa [HVV.out] at this
     go_quiet (first|(go_at_call 86;exact quiet_same (C2.out _)))
     have HBN:=hid (below_drewN HB.out nq)
     go_wp2_with fail
     go_ret
     exact⟨rfl,bcomp HB0.out HBN.out⟩
  ·obtain rfl:k=q.levels.length:=by omega
   have hlt1:¬ (q.levels.length:Int)<q.levels.length:=by omega
   have HE2:Hid (E=if latErr q.levels.length q.order≠0 then latErr q.levels.length q.order
    else if bindsErr q.levels.length q.chans≠0 then bindsErr q.levels.length q.chans
    else if bindsErr q.levels.length q.sites≠0 then bindsErr q.levels.length q.sites else limErr q):=by
    have hz:wordsErr [] q.levels=0:=by rw[HQ.out,List.drop_length];rfl
    show E=_
    rw[HE1.out,if_neg (by simp[hz])]
   clear HE1 HQ
   have HLN:=hid (refLatNew q.levels.length _ q.order w1 ⟨by omega,by omega⟩ HR1.out.2.1)
   obtain⟨eL,heL⟩:∃ e,latErr q.levels.length q.order=e:=⟨_,rfl⟩
   rw[heL] at HLN HE2
   clear heL
   have p0:=row_of HP1.out 0 (.slice la q.levels.length lc) rfl
   have p1:=row_of HP1.out 1 (.slice oa q.order.length oc) rfl
   have p2:=row_of HP1.out 2 (.slice ca q.chans.length cc) rfl
   have p3:=row_of HP1.out 3 (.slice sa q.sites.length sc) rfl
   have p4:=row_of HP1.out 4 (.bool q.sens) rfl
   have p5:=row_of HP1.out 5 (.int .i64 q.steps) rfl
   have p6:=row_of HP1.out 6 (.int .i64 q.paths) rfl
   have p7:=row_of HP1.out 7 (.int .i64 q.nodes) rfl
   have p8:=row_of HP1.out 8 (.int .i64 q.confs) rfl
   go_upto_region 13 with (go_at_call 57;refine HLN.out.mono ?_;rintro e z1 ⟨vl,rfl,-,-,hz⟩;have B1:=hid hz;clear hz)
   have HBz:=hid (bcomp HB1.out B1.out)
   clear p0 p1 p2 p3 p4 p5 p6 p7 p8 HLN
   by_cases n1:eL=0
   case neg=>
    obtain rfl:E=eL:=by rw[HE2.out,if_pos n1]
    have n1':(E != 0)=true:=by simp[n1]
    go_wp2_with fail
    go_ret
    exact⟨rfl,HBz.out⟩
   subst n1
   have hsz1:=(gsRPa HP1.out)
   have HP2:Hid (z1.heap[w.heap.size]?=some (.cells #[.slice la q.levels.length lc,.slice oa q.order.length oc,.slice ca q.chans.length cc,.slice sa q.sites.length sc,.bool q.sens,.int .i64 q.steps,.int .i64 q.paths,.int .i64 q.nodes,.int .i64 q.confs] 30 (0,0))):=(B1.out.block _ hsz1).trans HP1.out
   have HR2:=hid (HR1.out.keep B1.out)
   have HE3:Hid (E=if bindsErr q.levels.length q.chans≠0 then bindsErr q.levels.length q.chans
    else if bindsErr q.levels.length q.sites≠0 then bindsErr q.levels.length q.sites else limErr q):=by
    show E=_;rw[HE2.out,if_neg (by simp)]
   clear HE2 HR1 HP1 HB1
   have HC1:=hid (refBinds q.levels.length _ q.chans z1 ⟨by omega,by omega⟩ HR2.out.2.2.1)
   obtain⟨eC,heC⟩:∃ e,bindsErr q.levels.length q.chans=e:=⟨_,rfl⟩
   rw[heC] at HC1 HE3
   clear heC
   have p0:=row_of HP2.out 0 (.slice la q.levels.length lc) rfl
   have p1:=row_of HP2.out 1 (.slice oa q.order.length oc) rfl
   have p2:=row_of HP2.out 2 (.slice ca q.chans.length cc) rfl
   have p3:=row_of HP2.out 3 (.slice sa q.sites.length sc) rfl
   have p4:=row_of HP2.out 4 (.bool q.sens) rfl
   have p5:=row_of HP2.out 5 (.int .i64 q.steps) rfl
   have p6:=row_of HP2.out 6 (.int .i64 q.paths) rfl
   have p7:=row_of HP2.out 7 (.int .i64 q.nodes) rfl
   have p8:=row_of HP2.out 8 (.int .i64 q.confs) rfl
   go_upto_region 16 with (go_at_call 87;refine HC1.out.mono ?_;rintro e z2 ⟨rfl,hz⟩;have B2:=hid hz;clear hz)
   have HBz2:=hid (bcomp HBz.out B2.out)
   clear p0 p1 p2 p3 p4 p5 p6 p7 p8 HC1 HBz
   by_cases n2:eC=0
   case neg=>
    obtain rfl:E=eC:=by rw[HE3.out,if_pos n2]
    have n1':(E != 0)=true:=by simp[n2]
    go_wp2_with fail
    go_ret
    exact⟨rfl,HBz2.out⟩
   subst n2
   have hsz2:=(gsRPa HP2.out)
   have HP3:Hid (z2.heap[w.heap.size]?=some (.cells #[.slice la q.levels.length lc,.slice oa q.order.length oc,.slice ca q.chans.length cc,.slice sa q.sites.length sc,.bool q.sens,.int .i64 q.steps,.int .i64 q.paths,.int .i64 q.nodes,.int .i64 q.confs] 30 (0,0))):=(B2.out.block _ hsz2).trans HP2.out
   have HR3:=hid (HR2.out.keep B2.out)
   have HE4:Hid (E=if bindsErr q.levels.length q.sites≠0 then bindsErr q.levels.length q.sites else limErr q):=by
    show E=_;rw[HE3.out,if_neg (by simp)]
   clear HE3 HR2 HP2
   have HC2:=hid (refBinds q.levels.length _ q.sites z2 ⟨by omega,by omega⟩ HR3.out.2.2.2.1)
   obtain⟨eS,heS⟩:∃ e,bindsErr q.levels.length q.sites=e:=⟨_,rfl⟩
   rw[heS] at HC2 HE4
   clear heS
   have p0:=row_of HP3.out 0 (.slice la q.levels.length lc) rfl
   have p1:=row_of HP3.out 1 (.slice oa q.order.length oc) rfl
   have p2:=row_of HP3.out 2 (.slice ca q.chans.length cc) rfl
   have p3:=row_of HP3.out 3 (.slice sa q.sites.length sc) rfl
   have p4:=row_of HP3.out 4 (.bool q.sens) rfl
   have p5:=row_of HP3.out 5 (.int .i64 q.steps) rfl
   have p6:=row_of HP3.out 6 (.int .i64 q.paths) rfl
   have p7:=row_of HP3.out 7 (.int .i64 q.nodes) rfl
   have p8:=row_of HP3.out 8 (.int .i64 q.confs) rfl
   go_upto_region 19 with (go_at_call 87;refine HC2.out.mono ?_;rintro e z3 ⟨rfl,hz⟩;have B3:=hid hz;clear hz)
   have HBz3:=hid (bcomp HBz2.out B3.out)
   clear p0 p1 p2 p3 p4 p5 p6 p7 p8 HC2 HBz2
   by_cases n3:eS=0
   case neg=>
    obtain rfl:E=eS:=by rw[HE4.out,if_pos n3]
    have n1':(E != 0)=true:=by simp[n3]
    go_wp2_with fail
    go_ret
    exact⟨rfl,HBz3.out⟩
   subst n3
   have hsz3:=(gsRPa HP3.out)
   have hp4:z3.heap[w.heap.size]?=some (.cells #[.slice la q.levels.length lc,.slice oa q.order.length oc,.slice ca q.chans.length cc,.slice sa q.sites.length sc,.bool q.sens,.int .i64 q.steps,.int .i64 q.paths,.int .i64 q.nodes,.int .i64 q.confs] 30 (0,0)):=(B3.out.block _ hsz3).trans HP3.out
   have HE5:Hid (E=limErr q):=by show E=_;rw[HE4.out,if_neg (by simp)]
   have p0:=row_of hp4 0 (.slice la q.levels.length lc) rfl
   have p1:=row_of hp4 1 (.slice oa q.order.length oc) rfl
   have p2:=row_of hp4 2 (.slice ca q.chans.length cc) rfl
   have p3:=row_of hp4 3 (.slice sa q.sites.length sc) rfl
   have p4:=row_of hp4 4 (.bool q.sens) rfl
   have p5:=row_of hp4 5 (.int .i64 q.steps) rfl
   have p6:=row_of hp4 6 (.int .i64 q.paths) rfl
   have p7:=row_of hp4 7 (.int .i64 q.nodes) rfl
   have p8:=row_of hp4 8 (.int .i64 q.confs) rfl
   clear HE4 HR3 HP3 hp4
   by_cases t0:q.steps<1
   ·obtain rfl:E=3:=by rw[HE5.out,limErr,if_pos (by omega)]
    go_wp2_with fail
    go_ret
    exact⟨rfl,HBz3.out⟩
   by_cases t1:65536<q.steps
   ·obtain rfl:E=3:=by rw[HE5.out,limErr,if_pos (by omega)]
    go_wp2_with fail
    go_ret
    exact⟨rfl,HBz3.out⟩
   by_cases t2:q.paths<1
   ·obtain rfl:E=3:=by rw[HE5.out,limErr,if_pos (by omega)]
    go_wp2_with fail
    go_ret
    exact⟨rfl,HBz3.out⟩
   by_cases t3:4096<q.paths
   ·obtain rfl:E=3:=by rw[HE5.out,limErr,if_pos (by omega)]
    go_wp2_with fail
    go_ret
    exact⟨rfl,HBz3.out⟩
   by_cases t4:q.nodes<0
   ·obtain rfl:E=3:=by rw[HE5.out,limErr,if_pos (by omega)]
    go_wp2_with fail
    go_ret
    exact⟨rfl,HBz3.out⟩
   by_cases t5:1048576<q.nodes
   ·obtain rfl:E=3:=by rw[HE5.out,limErr,if_pos (by omega)]
    go_wp2_with fail
    go_ret
    exact⟨rfl,HBz3.out⟩
   by_cases t6:q.confs<0
   ·obtain rfl:E=3:=by rw[HE5.out,limErr,if_pos (by omega)]
    go_wp2_with fail
    go_ret
    exact⟨rfl,HBz3.out⟩
   by_cases t7:1099511627776<q.confs
   ·obtain rfl:E=3:=by rw[HE5.out,limErr,if_pos (by omega)]
    go_wp2_with fail
    go_ret
    exact⟨rfl,HBz3.out⟩
   obtain rfl:E=0:=by rw[HE5.out,limErr,if_neg (by omega)]
   go_wp2_with fail
   go_ret
   exact⟨rfl,HBz3.out⟩
theorem refLevel (v:Value) (l:List BindD) (s:ByteArray) (w:World) (h:RdRow kBind none w v l) :
  Calls Tryz.prog 122 #[v,.string s] w fun e w'=>e=.returned (.tuple #[.int .i64 ((levelOf l s).getD 0),.bool (levelOf l s).isSome])∧Below w.heap.size w w':=by
 obtain⟨a,cp,rfl⟩:=h.is
 have hl:l.length*24≤140737488351232:=h.size
 have HR:=hid h
 clear h
 obtain⟨V,hV⟩:∃ V,levelOf l s=V:=⟨_,rfl⟩
 rw[hV]
 have HV:=hid hV
 clear hV
 go_enter Tryz.func122,Tryz.ntmps122
 go_wp2_with fail
 go_loopw [6] (fun i wr=>∃ k:Nat,k≤l.length∧i=.int .i64 k∧Hid (levelOf l s=levelOf (l.drop k) s)∧w=wr) (fun i _=>l.length-(intOf i).toNat)
 case atStart=>exact⟨0,Nat.zero_le _,rfl,rfl,rfl⟩
 case round=>
  obtain⟨k,hk,rfl,HQ,rfl⟩:=hrel
  by_cases hlt:k<l.length
  ·have hlt1:(k:Int)<l.length:=by omega
   obtain⟨x,hx⟩:∃ x,l[k]?=some x:=⟨_,lgRPa hlt⟩
   obtain⟨b,o,rfl,_,c0,c1,hxs,hx1,hx2⟩:=atBind HR.out hx
   have HS:Hid (levelOf l s=if isB s x then some x.level else levelOf (l.drop (k+1)) s):=by
    show _=_
    obtain⟨h1,e1⟩:=List.getElem?_eq_some_iff.1 hx
    rw[HQ.out,List.drop_eq_getElem_cons h1,e1,levelOf]
   clear hx HQ
   cases he:(x.name.toList==s.toList)
   ·have HQ2:Hid (levelOf l s=levelOf (l.drop (k+1)) s):=by show _=_;rw[HS.out,isB,he];rfl
    clear HS
    go_wp2_with fail
    go_roundw
    case rel=>exact⟨k+1,by omega,by go_num,HQ2,by first|trivial|rfl⟩
    case measure=>simp[intOf];omega
   ·obtain rfl:V=some x.level:=by rw[← HV.out,HS.out,isB,he];rfl
    clear HS
    go_wp2_with fail
    go_ret2
    exact⟨rfl,Below.refl _ _⟩
  ·obtain rfl:k=l.length:=by omega
   have hlt1:¬ (l.length:Int)<l.length:=by omega
   obtain rfl:V=none:=by rw[← HV.out,HQ.out,List.drop_length];rfl
   go_wp2_with fail
   go_ret2
   exact⟨rfl,Below.refl _ _⟩
theorem refLevels (bv nv:Value) (l:List BindD) (ns:List ByteArray) (w:World) (h:RdRow kBind none w bv l) (hn:RdRow kStr none w nv ns) (hlen:ns.length≤1000000) :
  Calls Tryz.prog 88 #[bv,nv] w fun e w'=>∃ v,e=.returned (.tuple #[v,.int .i64 (namesErr l ns)])∧Hid (RdRow kInt (some (upFrom w.heap.size)) w' v ((levelsOf l ns).getD []))∧Below w.heap.size w w':=by
 obtain⟨na,nc,rfl⟩:=hn.is
 obtain⟨i0,hi,hz0,hz1,hz2⟩:=info_parts infoInt
 have HL:=hid h
 have HN:=hid hn
 have HOK:Hid (∀ b∈l,InI64 b.level):=fun b hb=>(h.ok b hb).2
 clear h hn
 obtain⟨E,hE⟩:∃ E,namesErr l ns=E:=⟨_,rfl⟩
 obtain⟨R,hR⟩:∃ R,(levelsOf l ns).getD []=R:=⟨_,rfl⟩
 rw[hE,hR]
 have HE:=hid hE
 have HR:=hid hR
 clear hE hR
 go_enter Tryz.func88,Tryz.ntmps88
 go_wp2_with fail
 go_loopw [6,7] (fun v i wr=>∃ (k:Nat) (xs:List Int),k≤ns.length∧i=.int .i64 k∧Hid (levelsOf l (ns.take k)=some xs)∧xs.length=k∧Hid (∀ x∈xs,InI64 x)∧wr.ownsRow w.heap.size 3 1 v k (xs.flatMap cellsInt)∧Below w.heap.size w wr) (fun _ i _=>ns.length-(intOf i).toNat)
 case atStart=>exact⟨0,[],Nat.zero_le _,rfl,rfl,rfl,fun x hx=>by simp at hx,World.ownsRow_nil _ _ _ _,Below.refl _ _⟩
 case round=>
  obtain⟨k,xs,hk,rfl,HQ,hxl,HX,hown,hb⟩:=hrel
  obtain⟨w1,rfl⟩:∃ x:World,x=wr:=⟨_,rfl⟩
  obtain⟨va,vc,rfl,-⟩:=own_read hown
  have HB:=hid hb
  have HOW:=hid hown
  have HXL:=hid hxl
  clear hb hown hxl
  by_cases hlt:k<ns.length
  ·have hlt1:(k:Int)<ns.length:=by omega
   obtain⟨s,hs⟩:∃ s,ns[k]?=some s:=⟨_,lgRPa hlt⟩
   obtain⟨b,o,rfl,_,c0,_⟩:=atStr (HN.out.keep HB.out) hs
   obtain⟨hst1,hst2⟩:=levelsOf_step HQ.out hs
   have HLV:=hid (refLevel bv l s w1 (HL.out.keep HB.out))
   clear hs
   cases hv:levelOf l s with
   | none=>
    rw[hv] at HLV
    have hno:=hst2 hv
    obtain rfl:E=6:=by rw[← HE.out,namesErr,hno];rfl
    obtain rfl:R=[]:=by rw[← HR.out,hno];rfl
    clear hst1 hst2 hv hno
    go_wp2_with (go_at_call 122;refine HLV.out.mono ?_;rintro e z1 ⟨rfl,hz⟩;have B1:=hid (bcomp HB.out hz);clear hz)
    go_ret2
    exact⟨_,rfl,nilRow _ _ _,B1.out⟩
   | some x=>
    rw[hv] at HLV
    have HQ2:=hid (hst1 x hv)
    have HX2:Hid (∀ z∈xs++[x],InI64 z):=fun z hz=>by
     rcases List.mem_append.1 hz with h|h
     ·exact HX.out z h
     ·simp only[List.mem_singleton] at h;subst h;exact levelOf_ok HOK.out hv
    clear hst1 hst2 hv
    go_upto_region 8 with (go_at_call 122;refine HLV.out.mono ?_;rintro e z1 ⟨rfl,hz⟩;have B1:=hid hz;clear hz)
    have HB1:=hid (bcomp HB.out B1.out)
    have hown1:=own_below HOW.out B1.out
    clear c0 HLV
    go_wp2_with (at_builtin;refine wpList_append_own _ rfl (.tmp 27) (.tmp 29) 23 rfl w.heap.size 3 i0 (.int .i64 0) 1 8 Tryz.underlying23 hi hz0 hz1 hz2 rfl (by decide) _ _ _ rfl (hown1.alloc _) ⟨z1.heap.size,0,none⟩ 1 1 (cellsInt x) rfl rfl (many_new _ _ _) ?c2 ?c3 ?c4 ?c5 ?_)
    case c2=>intro u hu;simp[cellsInt] at hu;subst hu;rfl
    case c3=>unfold maxLen;omega
    case c4=>omega
    case c5=>simp;have:=HB1.out.size;omega
    ·intro v' w4 hown' hgrow _
     have HOW2:Hid (w4.ownsRow w.heap.size 3 1 v' (k+1) ((xs++[x]).flatMap cellsInt)):=by
      show World.ownsRow _ _ _ _ _ _ _
      rw[List.flatMap_append]
      simpa using hown'
     have HB4:=hid ((HB1.out.alloc HB1.out.size (.cells (cellsInt x).toArray 3)).grown hgrow (by simp;have:=HB1.out.size;omega) (own_row_le hown1))
     have HXL2:Hid ((xs++[x]).length=k+1):=by show _=_;have:=HXL.out;simp;omega
     clear hown' hgrow hown1
     go_wp2
     go_roundw
     case rel=>exact⟨k+1,_,by omega,by go_num,HQ2,HXL2.out,HX2,HOW2.out,HB4.out⟩
     case measure=>simp[intOf];omega
  ·obtain rfl:k=ns.length:=by omega
   have hlt1:¬ (ns.length:Int)<ns.length:=by omega
   have hq:=HQ.out
   rw[List.take_length] at hq
   obtain rfl:E=0:=by rw[← HE.out,namesErr,hq];rfl
   obtain rfl:R=xs:=by rw[← HR.out,hq];rfl
   have HF:Hid (RdRow kInt (some (upFrom w.heap.size)) w1 (.slice va ns.length vc) R):=own_rows (K:=kInt) (by rw[HXL.out];exact HOW.out) (by have:=HXL.out;show R.length*8≤_;omega) HX.out
   clear hq
   go_wp2_with fail
   go_ret2
   exact⟨_,rfl,HF,HB.out⟩
theorem refRules (f:FlatD) (fcv fsv fav fkv:Value) (q:PolD) (lv ov cv sv:Value) (w:World) (hF:RdFlat none w f fcv fsv fav fkv) (hP:RdPol none w q lv ov cv sv) :
  Calls Tryz.prog 56 #[flatV f fcv fsv fav fkv,polV q lv ov cv sv] w fun e w'=>∃ v1 v2,e=.returned (.tuple #[v1,v2,.int .i64 (rulesErr f q)])∧LevSaid (rulesErr f q) f q w.heap.size w' v1 v2∧Below w.heap.size w w':=by
 obtain⟨fca,fcc,rfl⟩:=hF.1.is
 obtain⟨fsa,fsc,rfl⟩:=hF.2.1.is
 obtain⟨faa,fac,rfl⟩:=hF.2.2.1.is
 obtain⟨fka,fkc,rfl⟩:=hF.2.2.2.1.is
 obtain⟨la,lc,rfl⟩:=hP.1.is
 obtain⟨oa,oc,rfl⟩:=hP.2.1.is
 obtain⟨ca,cc,rfl⟩:=hP.2.2.1.is
 obtain⟨sa,sc,rfl⟩:=hP.2.2.2.1.is
 obtain⟨E,hE⟩:∃ E,rulesErr f q=E:=⟨_,rfl⟩
 rw[hE]
 have HE:=hid hE
 have HF:=hid hF
 have HP:=hid hP
 clear hE hF hP
 have hal:=((Below.refl w.heap.size w).alloc (Nat.le_refl _) (.cells #[.int .i64 f.width,.int .i64 f.regs,.slice fca f.chans.length fcc,.slice fsa f.sites.length fsc,.slice faa f.arrays.length fac,.slice fka f.code.length fkc] 26)).alloc (by simp) (.cells #[.slice la q.levels.length lc,.slice oa q.order.length oc,.slice ca q.chans.length cc,.slice sa q.sites.length sc,.bool q.sens,.int .i64 q.steps,.int .i64 q.paths,.int .i64 q.nodes,.int .i64 q.confs] 30)
 have hx:=heap2_of (w:=w) (A:=(.cells #[.int .i64 f.width,.int .i64 f.regs,.slice fca f.chans.length fcc,.slice fsa f.sites.length fsc,.slice faa f.arrays.length fac,.slice fka f.code.length fkc] 26)) (B:=(.cells #[.slice la q.levels.length lc,.slice oa q.order.length oc,.slice ca q.chans.length cc,.slice sa q.sites.length sc,.bool q.sens,.int .i64 q.steps,.int .i64 q.paths,.int .i64 q.nodes,.int .i64 q.confs] 30)) (Below.refl _ _)
 have HB0:=hid hal
 have HG0:=hid hx.1
 have HG1:=hid hx.2.1
 clear hal hx
 go_enter Tryz.func56,Tryz.ntmps56
 go_upto_region 1 with fail
 generalize (w.alloc (.cells #[.int .i64 f.width,.int .i64 f.regs,.slice fca f.chans.length fcc,.slice fsa f.sites.length fsc,.slice faa f.arrays.length fac,.slice fka f.code.length fkc] 26)).alloc (.cells #[.slice la q.levels.length lc,.slice oa q.order.length oc,.slice ca q.chans.length cc,.slice sa q.sites.length sc,.bool q.sens,.int .i64 q.steps,.int .i64 q.paths,.int .i64 q.nodes,.int .i64 q.confs] 30)=W at *
 have hsz:w.heap.size+1<W.heap.size:=(gsRPa HG1.out)
 have HFW:=hid (HF.out.keep HB0.out)
 have HPW:=hid (HP.out.keep HB0.out)
 clear HF HP
 have HC1:=hid (refCheck f _ _ _ _ W HFW.out)
 obtain⟨eF,heF⟩:∃ e,flatE f=e:=⟨_,rfl⟩
 rw[heF] at HC1
 have HEF:=hid heF
 clear heF
 have y0:=row_of HG0.out 0 (.int .i64 f.width) rfl
 have y1:=row_of HG0.out 1 (.int .i64 f.regs) rfl
 have y2:=row_of HG0.out 2 (.slice fca f.chans.length fcc) rfl
 have y3:=row_of HG0.out 3 (.slice fsa f.sites.length fsc) rfl
 have y4:=row_of HG0.out 4 (.slice faa f.arrays.length fac) rfl
 have y5:=row_of HG0.out 5 (.slice fka f.code.length fkc) rfl
 go_upto_region 2 with (go_at_call 54;refine HC1.out.mono ?_;rintro e z1 ⟨rfl,hz⟩;have B1:=hid hz;clear hz)
 have HB1:=hid (bcomp HB0.out B1.out)
 clear y0 y1 y2 y3 y4 y5 HC1
 by_cases n1:eF=0
 case neg=>
  obtain rfl:E=eF:=by rw[← HE.out,rulesErr,HEF.out,if_pos n1]
  have n1':(E != 0)=true:=by simp[n1]
  go_wp2_with fail
  go_ret3
  exact⟨_,_,rfl,LevSaid.bad n1,HB1.out⟩
 subst n1
 have HE1:Hid (E=if polErr q≠0 then polErr q else if (levelsOf q.chans f.chans).isNone then 6 else if (levelsOf q.sites f.sites).isNone then 6 else 0):=by
  show E=_;rw[← HE.out,rulesErr,HEF.out,if_neg (by simp)]
 have hok:flatOk f=true:=by
  have:=HEF.out
  unfold flatE at this
  split at this
  ·assumption
  ·cases this
 have HLENS:Hid (f.chans.length≤1000000∧f.sites.length≤1000000):=by
  have hh:=headP hok
  exact⟨by have:=hh.chans;omega,by have:=hh.sites;omega⟩
 clear HE HEF hok
 have HG2:Hid (z1.heap[w.heap.size]?=some (.cells #[.int .i64 f.width,.int .i64 f.regs,.slice fca f.chans.length fcc,.slice fsa f.sites.length fsc,.slice faa f.arrays.length fac,.slice fka f.code.length fkc] 26 (0,0))):=(B1.out.block _ (by omega)).trans HG0.out
 have HG3:Hid (z1.heap[w.heap.size+1]?=some (.cells #[.slice la q.levels.length lc,.slice oa q.order.length oc,.slice ca q.chans.length cc,.slice sa q.sites.length sc,.bool q.sens,.int .i64 q.steps,.int .i64 q.paths,.int .i64 q.nodes,.int .i64 q.confs] 30 (0,0))):=(B1.out.block _ (by omega)).trans HG1.out
 have HF1:=hid (HFW.out.keep B1.out)
 have HP1:=hid (HPW.out.keep B1.out)
 have hsz1:w.heap.size+1<z1.heap.size:=(gsRPa HG3.out)
 clear HG0 HG1 HFW HPW HB0
 have HC2:=hid (refPolCheck q _ _ _ _ z1 HP1.out)
 obtain⟨eP,heP⟩:∃ e,polErr q=e:=⟨_,rfl⟩
 rw[heP] at HC2 HE1
 clear heP
 have p0:=row_of HG3.out 0 (.slice la q.levels.length lc) rfl
 have p1:=row_of HG3.out 1 (.slice oa q.order.length oc) rfl
 have p2:=row_of HG3.out 2 (.slice ca q.chans.length cc) rfl
 have p3:=row_of HG3.out 3 (.slice sa q.sites.length sc) rfl
 have p4:=row_of HG3.out 4 (.bool q.sens) rfl
 have p5:=row_of HG3.out 5 (.int .i64 q.steps) rfl
 have p6:=row_of HG3.out 6 (.int .i64 q.paths) rfl
 have p7:=row_of HG3.out 7 (.int .i64 q.nodes) rfl
 have p8:=row_of HG3.out 8 (.int .i64 q.confs) rfl
 go_upto_region 5 with (go_at_call 55;refine HC2.out.mono ?_;rintro e z2 ⟨rfl,hz⟩;have B2:=hid hz;clear hz)
 have HB2:=hid (bcomp HB1.out B2.out)
 clear p0 p1 p2 p3 p4 p5 p6 p7 p8 HC2
 by_cases n2:eP=0
 case neg=>
  obtain rfl:E=eP:=by rw[HE1.out,if_pos n2]
  have n1':(E != 0)=true:=by simp[n2]
  go_wp2_with fail
  go_ret3
  exact⟨_,_,rfl,LevSaid.bad n2,HB2.out⟩
 subst n2
 have HE2:Hid (E=if (levelsOf q.chans f.chans).isNone then 6 else if (levelsOf q.sites f.sites).isNone then 6 else 0):=by
  show E=_;rw[HE1.out,if_neg (by simp)]
 have HG4:Hid (z2.heap[w.heap.size]?=some (.cells #[.int .i64 f.width,.int .i64 f.regs,.slice fca f.chans.length fcc,.slice fsa f.sites.length fsc,.slice faa f.arrays.length fac,.slice fka f.code.length fkc] 26 (0,0))):=(B2.out.block _ (by omega)).trans HG2.out
 have HG5:Hid (z2.heap[w.heap.size+1]?=some (.cells #[.slice la q.levels.length lc,.slice oa q.order.length oc,.slice ca q.chans.length cc,.slice sa q.sites.length sc,.bool q.sens,.int .i64 q.steps,.int .i64 q.paths,.int .i64 q.nodes,.int .i64 q.confs] 30 (0,0))):=(B2.out.block _ (by omega)).trans HG3.out
 have HF2:=hid (HF1.out.keep B2.out)
 have HP2:=hid (HP1.out.keep B2.out)
 have hsz2:w.heap.size+1<z2.heap.size:=(gsRPa HG5.out)
 clear HG2 HG3 HF1 HP1 HB1 HE1
 have HBS2:Hid (w.heap.size≤z2.heap.size):=HB2.out.size
 have HC3:=hid (refLevels _ _ q.chans f.chans z2 HP2.out.2.2.1 HF2.out.1 HLENS.out.1)
 obtain⟨eC,heC⟩:∃ e,namesErr q.chans f.chans=e:=⟨_,rfl⟩
 have hC0:eC=0 ∨ eC=6:=by rw[← heC,namesErr];split <;> simp
 have HEC:Hid (eC=if (levelsOf q.chans f.chans).isNone then 6 else 0):=heC.symm
 rw[heC] at HC3
 clear heC
 have p0:=row_of HG5.out 0 (.slice la q.levels.length lc) rfl
 have p1:=row_of HG5.out 1 (.slice oa q.order.length oc) rfl
 have p2:=row_of HG5.out 2 (.slice ca q.chans.length cc) rfl
 have p3:=row_of HG5.out 3 (.slice sa q.sites.length sc) rfl
 have p4:=row_of HG5.out 4 (.bool q.sens) rfl
 have p5:=row_of HG5.out 5 (.int .i64 q.steps) rfl
 have p6:=row_of HG5.out 6 (.int .i64 q.paths) rfl
 have p7:=row_of HG5.out 7 (.int .i64 q.nodes) rfl
 have p8:=row_of HG5.out 8 (.int .i64 q.confs) rfl
 have y2:=row_of HG4.out 2 (.slice fca f.chans.length fcc) rfl
 go_upto_region 8 with (go_at_call 88;refine HC3.out.mono ?_;rintro e z3 ⟨v1,rfl,HV1,hz⟩;have B3:=hid hz;clear hz)
 have HB3:=hid (bcomp HB2.out B3.out)
 clear p0 p1 p2 p3 p4 p5 p6 p7 p8 y2 HC3
 rcases hC0 with rfl|rfl
 case inr=>
  obtain rfl:E=6:=by
   rw[HE2.out]
   cases hc:(levelsOf q.chans f.chans).isNone with
   | true=>rfl
   | false=>
    have h9:=HEC.out
    rw[hc] at h9
    cases h9
  go_wp2_with fail
  go_ret3
  exact⟨_,_,rfl,LevSaid.bad (by decide),HB3.out⟩
 have hcn:(levelsOf q.chans f.chans).isNone=false:=by
  cases hc:(levelsOf q.chans f.chans).isNone with
  | true=>
   have h9:=HEC.out
   rw[hc] at h9
   cases h9
  | false=>rfl
 have HE3:Hid (E=namesErr q.sites f.sites):=by show E=_;rw[HE2.out,hcn];rfl
 have HG6:Hid (z3.heap[w.heap.size]?=some (.cells #[.int .i64 f.width,.int .i64 f.regs,.slice fca f.chans.length fcc,.slice fsa f.sites.length fsc,.slice faa f.arrays.length fac,.slice fka f.code.length fkc] 26 (0,0))):=(B3.out.block _ (by omega)).trans HG4.out
 have HG7:Hid (z3.heap[w.heap.size+1]?=some (.cells #[.slice la q.levels.length lc,.slice oa q.order.length oc,.slice ca q.chans.length cc,.slice sa q.sites.length sc,.bool q.sens,.int .i64 q.steps,.int .i64 q.paths,.int .i64 q.nodes,.int .i64 q.confs] 30 (0,0))):=(B3.out.block _ (by omega)).trans HG5.out
 have HF3:=hid (HF2.out.keep B3.out)
 have HP3:=hid (HP2.out.keep B3.out)
 clear HG4 HG5 HF2 HP2 HB2 HE2 hcn HEC
 have HBS3:Hid (w.heap.size≤z3.heap.size):=HB3.out.size
 have HC4:=hid (refLevels _ _ q.sites f.sites z3 HP3.out.2.2.2.1 HF3.out.2.1 HLENS.out.2)
 have hS0:E=0 ∨ E=6:=by rw[HE3.out,namesErr];split <;> simp
 rw[← HE3.out] at HC4
 clear HE3
 have p0:=row_of HG7.out 0 (.slice la q.levels.length lc) rfl
 have p1:=row_of HG7.out 1 (.slice oa q.order.length oc) rfl
 have p2:=row_of HG7.out 2 (.slice ca q.chans.length cc) rfl
 have p3:=row_of HG7.out 3 (.slice sa q.sites.length sc) rfl
 have p4:=row_of HG7.out 4 (.bool q.sens) rfl
 have p5:=row_of HG7.out 5 (.int .i64 q.steps) rfl
 have p6:=row_of HG7.out 6 (.int .i64 q.paths) rfl
 have p7:=row_of HG7.out 7 (.int .i64 q.nodes) rfl
 have p8:=row_of HG7.out 8 (.int .i64 q.confs) rfl
 have y3:=row_of HG6.out 3 (.slice fsa f.sites.length fsc) rfl
 go_upto_region 11 with (go_at_call 88;refine HC4.out.mono ?_;rintro e z4 ⟨v2,rfl,HV2,hz⟩;have B4:=hid hz;clear hz)
 have HB4:=hid (bcomp HB3.out B4.out)
 clear p0 p1 p2 p3 p4 p5 p6 p7 p8 y3 HC4
 rcases hS0 with rfl|rfl
 case inr=>
  go_wp2_with fail
  go_ret3
  exact⟨_,_,rfl,LevSaid.bad (by decide),HB4.out⟩
 have hbs2:=HBS2.out
 have hbs3:=HBS3.out
 go_wp2_with fail
 go_ret3
 exact⟨v1,v2,rfl,⟨fun _=>⟨(HV1.out.keep B4.out).up hbs2,HV2.out.up hbs3⟩,fun h=>absurd rfl h⟩,HB4.out⟩
end Go.Proofs.YtkjkpddajjmloaaGreatDoor
