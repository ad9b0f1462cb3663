/- Contracts of the reference's Known, Prefix, Events. Condition: what comes in reads as the plain data. -/
import Derived.Test.YtkjkpddajjmloaaGreatDoorRLb
import Derived.Test.YtkjkpddajjmloaaGreatDoorAgQ
set_option linter.all false
set_option maxRecDepth 1000000
set_option maxHeartbeats 6400000
namespace Go.Proofs.YtkjkpddajjmloaaGreatDoor
open Go.ChangeShapes Go.WideShapes Go.ChangeAt Go.RowKit
open Go.Lib (hid)
theorem lgRLc {α:Type} {l:List α} {i:Nat} (h:i<l.length):l[i]?=some l[i]:=List.getElem?_eq_getElem h
theorem refKnown (L:LatD) (v lvs:Value) (level:Int) (levels:List Int) (w:World) (h:RefLat w v L) (hlv:InI64 level) (hr:RdRow kInt none w lvs levels) (hlen:levels.length≤1000000) :
  Calls Tryz.prog 58 #[v,.int .i64 level,lvs] w fun e w'=>e=.returned (.bool (knownL L level levels))∧Below w.heap.size w w':=by
 obtain⟨la,lc,rfl⟩:=hr.is
 obtain⟨lo,p,g,c,B,K,rfl,hM⟩:=h
 have t:=hM.top
 have hn:=hM.small
 have HT:=hid hM.top
 have HR:=hid hr
 clear hM hr
 obtain⟨V,hV⟩:∃ V,knownL L level levels=V:=⟨_,rfl⟩
 rw[hV]
 have HV:=hid hV
 clear hV
 obtain⟨o1,ho1⟩:∃ o,isL L level=o:=⟨_,rfl⟩
 have HO1:=hid ho1
 go_enter Tryz.func58,Tryz.ntmps58
 go_upto_region 1 with fail
 go_cut [7] from 9 to 20 (fun c7 wx=>c7=.bool o1∧w=wx)
 case first=>
  by_cases h0:0≤level
  ·by_cases h1:level<(L.n:Int)
   ·obtain rfl:o1=true:=by rw[← ho1,isL,decide_eq_true h0,decide_eq_true h1];rfl
    clear ho1
    go_wp2_with fail
    go_meet
    exact⟨rfl,rfl⟩
   ·obtain rfl:o1=false:=by rw[← ho1,isL,decide_eq_false h1,Bool.and_false]
    clear ho1
    go_wp2_with fail
    go_meet
    exact⟨rfl,rfl⟩
  ·obtain rfl:o1=false:=by rw[← ho1,isL,decide_eq_false h0,Bool.false_and]
   clear ho1
   go_wp2_with fail
   go_meet
   exact⟨rfl,rfl⟩
 case rest=>
  obtain⟨rfl,rfl⟩:=hcut
  clear ho1
  go_wp2_with fail
  go_loopw [7,8] (fun ov iv wr=>∃ (k:Nat) (o:Bool),k≤levels.length∧iv=.int .i64 k∧ov=.bool o∧Hid (o=(o1&&(levels.take k).all (isL L)))∧Below w.heap.size w wr) (fun _ iv _=>levels.length-(intOf iv).toNat)
  case atStart=>exact⟨0,o1,Nat.zero_le _,rfl,rfl,by show _=_;simp,Below.refl _ _⟩
  case round=>
   obtain⟨k,o,hk,rfl,rfl,HO,hb⟩:=hrel
   obtain⟨w1,rfl⟩:∃ x:World,x=wr:=⟨_,rfl⟩
   have HB:=hid hb
   clear hb
   by_cases hlt:k<levels.length
   ·have hlt1:(k:Int)<(levels.length:Int):=by omega
    obtain⟨x,hx⟩:∃ x,levels[k]?=some x:=⟨_,lgRLc hlt⟩
    obtain⟨b1,b2,rfl,_,c0,hxi⟩:=atInt (HR.out.keep HB.out) hx
    have HTK:Hid ((levels.take (k+1)).all (isL L)=((levels.take k).all (isL L)&&isL L x)):=by show _=_;rw[List.take_add_one,hx];simp
    have t1:=cell_keep HB.out HT.out
    clear hx t
    go_upto_region 5 with fail
    cases o
    ·have HON:Hid (false=(o1&&(levels.take (k+1)).all (isL L))):=by show _=_;rw[HTK.out,← Bool.and_assoc,← HO.out];rfl
     go_quiet (fail)
     have HB2:=hid (below_drewN HB.out nq)
     go_wp2_with fail
     go_roundw
     case rel=>exact⟨k+1,_,by omega,by go_num,rfl,HON.out,HB2.out⟩
     case measure=>simp[intOf];omega
    ·by_cases x0:0≤x
     ·by_cases x1:x<(L.n:Int)
      ·have HON:Hid (true=(o1&&(levels.take (k+1)).all (isL L))):=by show _=_;rw[HTK.out,← Bool.and_assoc,← HO.out,isL,decide_eq_true x0,decide_eq_true x1];rfl
       go_quiet (fail)
       have HB2:=hid (below_drewN HB.out nq)
       go_wp2_with fail
       go_roundw
       case rel=>exact⟨k+1,_,by omega,by go_num,rfl,HON.out,HB2.out⟩
       case measure=>simp[intOf];omega
      ·have HON:Hid (false=(o1&&(levels.take (k+1)).all (isL L))):=by show _=_;rw[HTK.out,← Bool.and_assoc,← HO.out,isL,decide_eq_false x1,Bool.and_false];rfl
       go_quiet (fail)
       have HB2:=hid (below_drewN HB.out nq)
       go_wp2_with fail
       go_roundw
       case rel=>exact⟨k+1,_,by omega,by go_num,rfl,HON.out,HB2.out⟩
       case measure=>simp[intOf];omega
     ·have HON:Hid (false=(o1&&(levels.take (k+1)).all (isL L))):=by show _=_;rw[HTK.out,← Bool.and_assoc,← HO.out,isL,decide_eq_false x0,Bool.false_and];rfl
      go_quiet (fail)
      have HB2:=hid (below_drewN HB.out nq)
      go_wp2_with fail
      go_roundw
      case rel=>exact⟨k+1,_,by omega,by go_num,rfl,HON.out,HB2.out⟩
      case measure=>simp[intOf];omega
   ·have hlt1:¬ (k:Int)<(levels.length:Int):=by omega
    obtain rfl:k=levels.length:=by omega
    obtain rfl:V=o:=by rw[← HV.out,HO.out,List.take_length,knownL,HO1.out]
    go_wp2_with fail
    go_ret
    exact⟨rfl,HB.out⟩
theorem refPrefix (av bv:Value) (a b:List EvD) (w:World) (ha:RdRow kEv none w av a) (hb:RdRow kEv none w bv b) :
  Calls Tryz.prog 130 #[av,bv] w fun e w'=>e=.returned (.bool (prefL a b))∧Below w.heap.size w w':=by
 obtain⟨aa,ac,rfl⟩:=ha.is
 obtain⟨ba,bc,rfl⟩:=hb.is
 have hla:a.length*16≤140737488351232:=ha.size
 have hlb:b.length*16≤140737488351232:=hb.size
 have HA:=hid ha
 have HBb:=hid hb
 clear ha hb
 obtain⟨V,hV⟩:∃ V,prefL a b=V:=⟨_,rfl⟩
 rw[hV]
 have HV:=hid hV
 clear hV
 go_enter Tryz.func130,Tryz.ntmps130
 go_wp2_with fail
 go_loopw [5] (fun i wr=>∃ k:Nat,k≤a.length∧k≤b.length∧i=.int .i64 k∧Hid (prefL a b=prefL (a.drop k) (b.drop k))∧Below w.heap.size w wr) (fun i _=>a.length-(intOf i).toNat)
 case atStart=>exact⟨0,Nat.zero_le _,Nat.zero_le _,rfl,rfl,Below.refl _ _⟩
 case round=>
  obtain⟨k,hk1,hk2,rfl,HQ,hb⟩:=hrel
  obtain⟨w1,rfl⟩:∃ x:World,x=wr:=⟨_,rfl⟩
  have HB:=hid hb
  clear hb
  by_cases hka':k<a.length
  ·have hka:(k:Int)<(a.length:Int):=by omega
   by_cases hkb':k<b.length
   ·have hkb:(k:Int)<(b.length:Int):=by omega
    obtain⟨x,hx⟩:∃ x,a[k]?=some x:=⟨_,lgRLc (by omega)⟩
    obtain⟨y,hy⟩:∃ y,b[k]?=some y:=⟨_,lgRLc (by omega)⟩
    have hs:prefL (a.drop k) (b.drop k)=(eqEv x y&&prefL (a.drop (k+1)) (b.drop (k+1))):=by
     obtain⟨h1,e1⟩:=List.getElem?_eq_some_iff.1 hx
     obtain⟨h2,e2⟩:=List.getElem?_eq_some_iff.1 hy
     rw[List.drop_eq_getElem_cons h1,List.drop_eq_getElem_cons h2,e1,e2,prefL]
    obtain⟨b1,o1,rfl,_,c0,c1,_⟩:=atEv (HA.out.keep HB.out) hx
    obtain⟨b2,o2,rfl,_,d0,d1,_⟩:=atEv (HBb.out.keep HB.out) hy
    have hev:eqEv x y=(x.n==y.n&&x.val==y.val):=rfl
    have HS:=hid hs
    clear hx hy hs
    obtain⟨xn,xv⟩:=x
    obtain⟨yn,yv⟩:=y
    simp only at c0 c1 d0 d1 hev
    by_cases t:xn=yn∧xv=yv
    ·obtain⟨rfl,rfl⟩:=t
     have HQ2:Hid (prefL a b=prefL (a.drop (k+1)) (b.drop (k+1))):=by
      show _=_
      rw[HQ.out,HS.out,hev];simp
     clear hev HS HQ
     go_upto_region 4 with fail
     go_quiet (fail)
     have HB2:=hid (below_drewN HB.out nq)
     go_wp2_with fail
     go_roundw
     case rel=>exact⟨k+1,by omega,by omega,by go_num,HQ2,HB2.out⟩
     case measure=>simp[intOf];omega
    ·have HF:Hid (V=false):=by
      show V=_
      rw[← HV.out,HQ.out,HS.out,hev]
      have:(xn==yn&&xv==yv)=false:=by
       rw[Bool.and_eq_false_iff]
       by_cases t1:xn=yn
       ·right;simp;exact fun h=>t ⟨t1,h⟩
       ·left;simp[t1]
      rw[this];rfl
     obtain rfl:=HF.out
     clear hev HS HQ
     by_cases t1:xn=yn
     ·have t2:¬ xv=yv:=fun h=>t ⟨t1,h⟩
      clear t
      go_upto_region 4 with fail
      go_quiet (fail)
      have HB2:=hid (below_drewN HB.out nq)
      go_wp2_with fail
      go_ret
      exact⟨rfl,HB2.out⟩
     ·clear t
      go_upto_region 4 with fail
      go_quiet (fail)
      have HB2:=hid (below_drewN HB.out nq)
      go_wp2_with fail
      go_ret
      exact⟨rfl,HB2.out⟩
   ·have hkb:¬ (k:Int)<(b.length:Int):=by omega
    obtain rfl:k=b.length:=by omega
    obtain rfl:V=true:=by rw[← HV.out,HQ.out,List.drop_length];cases List.drop b.length a <;> rfl
    go_wp2_with fail
    go_ret
    exact⟨rfl,HB.out⟩
  ·have hka:¬ (k:Int)<(a.length:Int):=by omega
   obtain rfl:k=a.length:=by omega
   obtain rfl:V=true:=by rw[← HV.out,HQ.out,List.drop_length];exact prefL_nil _
   go_wp2_with fail
   go_ret
   exact⟨rfl,HB.out⟩
theorem refEvents (L:LatD) (v lvs ev:Value) (level:Int) (levels:List Int) (evs:List EvD) (w:World) (h:RefLat w v L) (hlv:InI64 level) (hr:RdRow kInt none w lvs levels) (hlen:levels.length≤1000000) (he:RdRow kEv none w ev evs) :
  Calls Tryz.prog 129 #[v,.int .i64 level,lvs,ev] w fun e w'=>∃ r,e=.returned (.tuple #[r,.int .i64 (evsErr L level levels evs)])∧EvSaid (evsErr L level levels evs) w.heap.size w' r (evsSee L level levels evs)∧Below w.heap.size w w':=by
 obtain⟨la,lc,rfl⟩:=hr.is
 obtain⟨ea,ec,rfl⟩:=he.is
 have hel:evs.length*16≤140737488351232:=he.size
 obtain⟨E,hE⟩:∃ E,evsErr L level levels evs=E:=⟨_,rfl⟩
 rw[hE]
 have HE:=hid hE
 have HKN:=hid (refKnown L v _ level levels w h hlv hr hlen)
 have HL:=hid h
 have HR:=hid hr
 have HEV:=hid he
 have HLV:=hid hlv
 obtain⟨i0,hi,hz0,hz1,hz2⟩:=info_parts infoEv
 obtain⟨lo,p,g,c,B,K,rfl,-⟩:=h
 clear hE hr he hlv
 go_enter Tryz.func129,Tryz.ntmps129
 cases hkn:knownL L level levels
 ·obtain rfl:E=3:=by rw[← HE.out,evsErr,if_pos hkn]
  rw[hkn] at HKN
  clear hkn
  go_wp2_with (go_at_call 58;refine HKN.out.mono ?_;rintro e z ⟨rfl,hz⟩;have BZ:=hid hz;clear hz)
  go_ret2
  exact⟨_,rfl,fun h=>absurd h (by decide),BZ.out⟩
 rw[hkn] at HKN
 have HE2:Hid (E=if evs.any (badEv levels) then 3 else 0):=by show E=_;rw[← HE.out,evsErr,if_neg (by rw[hkn];decide)]
 clear HE hkn
 go_upto_region 5 with (go_at_call 58;refine HKN.out.mono ?_;rintro e z ⟨rfl,hz⟩;have BZ:=hid hz;clear hz)
 go_wp2_with fail
 go_loopw [10] (fun iv wr=>∃ k:Nat,k≤evs.length∧iv=.int .i64 k∧Hid (∀ e∈evs.take k,badEv levels e=false)∧z=wr) (fun iv _=>evs.length-(intOf iv).toNat)
 case atStart=>exact⟨0,Nat.zero_le _,rfl,(by intro e he;simp at he),rfl⟩
 case round=>
  obtain⟨k,hk,rfl,HG,rfl⟩:=hrel
  by_cases hlt:k<evs.length
  ·have hlt1:(k:Int)<(evs.length:Int):=by omega
   obtain⟨x,hx⟩:∃ x,evs[k]?=some x:=⟨_,lgRLc hlt⟩
   obtain⟨b1,o1,rfl,_,c0,c1,_⟩:=atEv (HEV.out.keep BZ.out) hx
   have HXM:=hid (List.mem_of_getElem? hx)
   have HTK:Hid (evs.take (k+1)=evs.take k++[x]):=by show _=_;rw[List.take_add_one,hx];rfl
   clear hx c1
   have HBAD:Hid (badEv levels x=true→E=3):=fun h=>by rw[HE2.out,if_pos (List.any_eq_true.2 ⟨x,HXM.out,h⟩)]
   by_cases x0:x.n<0
   ·obtain rfl:E=3:=HBAD.out (by unfold badEv;simp[x0])
    go_wp2_with fail
    go_ret2
    exact⟨_,rfl,fun h=>absurd h (by decide),BZ.out⟩
   by_cases x1:(levels.length:Int)≤x.n
   ·obtain rfl:E=3:=HBAD.out (by unfold badEv;simp[x1])
    go_wp2_with fail
    go_ret2
    exact⟨_,rfl,fun h=>absurd h (by decide),BZ.out⟩
   have HGN:Hid (∀ e∈evs.take (k+1),badEv levels e=false):=by
    intro e he
    rw[HTK.out] at he
    rcases List.mem_append.1 he with h|h
    ·exact HG.out e h
    ·simp at h;subst h;unfold badEv;simp;omega
   clear HBAD
   go_wp2_with fail
   go_roundw
   case rel=>exact⟨k+1,by omega,by go_num,HGN.out,by first|trivial|rfl⟩
   case measure=>simp[intOf];omega
  ·have hlt1:¬ (k:Int)<(evs.length:Int):=by omega
   obtain rfl:k=evs.length:=by omega
   have HGA:Hid (∀ e∈evs,badEv levels e=false):=by show ∀ e∈evs,_;have h:=HG.out;rw[List.take_length] at h;exact h
   obtain rfl:E=0:=by
    rw[HE2.out,if_neg]
    intro h
    obtain⟨e,he,h2⟩:=List.any_eq_true.1 h
    rw[HGA.out e he] at h2;cases h2
   have HOK:Hid (∀ x∈evs,kEv.ok x):=HEV.out.ok
   clear HE2 HG hlt hk
   go_wp2_with fail
   go_loopw [11,12] (fun v i wr=>∃ (k:Nat) (ys:List EvD),k≤evs.length∧i=.int .i64 k∧Hid ((evs.take k).filter (seesEv L level levels)=ys)∧ys.length≤k∧wr.ownsRow w.heap.size 163 2 v ys.length (ys.flatMap cellsEv)∧Below w.heap.size w wr) (fun _ i _=>evs.length-(intOf i).toNat)
   case atStart=>exact⟨0,[],Nat.zero_le _,rfl,rfl,Nat.le_refl _,World.ownsRow_nil _ _ _ _,BZ.out⟩
   case round=>
    obtain⟨k,ys,hk,rfl,HY,hyl,hown,hb⟩:=hrel
    obtain⟨w1,rfl⟩:∃ x:World,x=wr:=⟨_,rfl⟩
    obtain⟨va,vc,rfl,-⟩:=own_read hown
    have HB:=hid hb
    have HOW:=hid hown
    clear hb hown
    by_cases hlt:k<evs.length
    ·have hlt1:(k:Int)<(evs.length:Int):=by omega
     obtain⟨x,hx⟩:∃ x,evs[k]?=some x:=⟨_,lgRLc hlt⟩
     obtain⟨b,o,rfl,_,c0,c1,_⟩:=atEv (HEV.out.keep HB.out) hx
     have hm:=List.mem_of_getElem? hx
     have hfx:(evs.take (k+1)).filter (seesEv L level levels)=ys++[x].filter (seesEv L level levels):=by rw[List.take_add_one,hx,List.filter_append,HY.out];rfl
     have hgx:=HGA.out x hm
     unfold badEv at hgx
     simp only[Bool.or_eq_false_iff,decide_eq_false_iff_not] at hgx
     obtain⟨xn,xv⟩:=x
     simp only at c0 c1 hgx
     obtain⟨q,rfl⟩:∃ q:Nat,xn=q:=⟨xn.toNat,by omega⟩
     have hq:q<levels.length:=by omega
     have hq1:(q:Int)<(levels.length:Int):=by omega
     obtain⟨y,hy⟩:∃ y,levels[q]?=some y:=⟨_,lgRLc hq⟩
     obtain⟨yb,yo,rfl,_,d0,hyi⟩:=atInt (HR.out.keep HB.out) hy
     obtain⟨T,hT⟩:∃ T,leL L y level=T:=⟨_,rfl⟩
     have hle:=refLe L _ y level w1 (HL.out.keep HB.out) hyi HLV.out
     rw[hT] at hle
     have HLE:=hid hle
     have HST:Hid (seesEv L level levels ⟨q,xv⟩=T):=by show _=_;unfold seesEv;rw[List.getD_eq_getElem?_getD];simp only[Int.toNat_natCast];rw[hy];exact hT
     have HFX:=hid hfx
     clear hx hy hT hle hgx hfx hm
     go_upto_region 14 with fail
     cases T
     ·have HY2:Hid ((evs.take (k+1)).filter (seesEv L level levels)=ys):=by
       show _=_
       rw[HFX.out,filter_no (p:=seesEv L level levels) HST.out];simp
      go_wp2_with (go_at_call 59;refine HLE.out.mono ?_;rintro e z1 ⟨rfl,rfl⟩)
      go_roundw
      case rel=>exact⟨k+1,ys,by omega,by go_num,HY2,by omega,HOW.out,HB.out⟩
      case measure=>simp[intOf];omega
     ·have HY2:Hid ((evs.take (k+1)).filter (seesEv L level levels)=ys++[(⟨q,xv⟩:EvD)]):=by
       show _=_
       rw[HFX.out,filter_yes (p:=seesEv L level levels) HST.out]
      go_upto_region 15 with (go_at_call 59;refine HLE.out.mono ?_;rintro e z1 ⟨rfl,rfl⟩)
      have hown2:=HOW.out
      go_wp2_with (at_builtin;refine wpList_append_own _ rfl (.tmp 59) (.tmp 64) 49 rfl w.heap.size 163 i0 (.agg #[.int .i64 0,.int .u64 0]) 2 16 Tryz.underlying49 hi hz0 hz1 hz2 rfl (by decide) _ _ _ rfl (hown2.alloc _) ⟨w1.heap.size,0,none⟩ 1 1 (cellsEv ⟨q,xv⟩) rfl rfl (many_new _ _ _) ?c2 ?c3 ?c4 ?c5 ?_)
      case c2=>intro u hu;simp[cellsEv] at hu;first|(rcases hu with rfl|rfl <;> rfl)|(subst hu;rfl)
      case c3=>unfold maxLen;omega
      case c4=>omega
      case c5=>simp;have:=HB.out.size;omega
      ·intro v' w4 hown' hgrow _
       have HOW2:Hid (w4.ownsRow w.heap.size 163 2 v' (ys++[(⟨q,xv⟩:EvD)]).length ((ys++[(⟨q,xv⟩:EvD)]).flatMap cellsEv)):=by
        show World.ownsRow _ _ _ _ _ _ _
        rw[List.flatMap_append,List.length_append]
        simpa using hown'
       have HB4:=hid ((HB.out.alloc HB.out.size (.cells (cellsEv ⟨q,xv⟩).toArray 163)).grown hgrow (by simp;have:=HB.out.size;omega) (own_row_le hown2))
       have hyl2:(ys++[(⟨q,xv⟩:EvD)]).length≤k+1:=by simp;omega
       clear hown' hgrow hown2
       go_wp2
       go_roundw
       case rel=>exact⟨k+1,_,by omega,by go_num,HY2,hyl2,HOW2.out,HB4.out⟩
       case measure=>simp[intOf];omega
    ·have hlt1:¬ (k:Int)<(evs.length:Int):=by omega
     obtain rfl:k=evs.length:=by omega
     have hq:=HY.out
     rw[List.take_length] at hq
     have HF:Hid (RdRow kEv (some (upFrom w.heap.size)) w1 (.slice va ys.length vc) (evsSee L level levels evs)):=by
      show RdRow _ _ _ _ _
      unfold evsSee
      rw[hq]
      exact own_rows (K:=kEv) HOW.out (by show ys.length*16≤_;omega) (fun s hs=>HOK.out s (by rw[← hq] at hs;exact (List.mem_filter.1 hs).1))
     clear hq
     go_wp2_with fail
     go_ret2
     exact⟨_,rfl,fun _=>HF.out,HB.out⟩
end Go.Proofs.YtkjkpddajjmloaaGreatDoor
