/- The walk of AgreeLeaks. Condition: what comes in reads as the plain data; the tables hold what they are laid with. -/
import Derived.Test.YtkjkpddajjmloaaGreatDoorRPd
import Derived.Test.YtkjkpddajjmloaaGreatDoorARn
set_option linter.all false
set_option maxRecDepth 1000000
set_option maxHeartbeats 6400000
namespace Go.Proofs.YtkjkpddajjmloaaGreatDoor
open Go.ChangeShapes Go.WideShapes Go.ChangeAt Go.RowKit
theorem FlatC.cells0 {w:World} {f:FlatD} {c:Array Value} (h:FlatC w f c):∃ a1 k1 a2 k2 a3 k3 a4 k4,c[1]?=some (.int .i64 f.regs)∧c[2]?=some (.slice a1 f.chans.length k1)∧c[3]?=some (.slice a2 f.sites.length k2)∧c[4]?=some (.slice a3 f.arrays.length k3)∧c[5]?=some (.slice a4 f.code.length k4):=by
 obtain ⟨a,b,d,e,rfl,h⟩:=h
 obtain ⟨a1,k1,rfl⟩:=h.1.is
 obtain ⟨a2,k2,rfl⟩:=h.2.1.is
 obtain ⟨a3,k3,rfl⟩:=h.2.2.1.is
 obtain ⟨a4,k4,rfl⟩:=h.2.2.2.1.is
 exact ⟨a1,k1,a2,k2,a3,k3,a4,k4,rfl,rfl,rfl,rfl,rfl⟩
theorem lk_walk (f:FlatD) (cF:Array Value) (q:PolD) (cP:Array Value) (level:Int) (rv:Value) (Ls:List (List (List Int))) (w:World) (hF:FlatC w f cF) (hP:PolC w q cP) (hlv:InI64 level) (hR:Runs0 w rv Ls) (hL:Laid w) (hT:BitsAt w) :
  Calls Tryz.prog 3 #[.agg cF,.agg cP,.int .i64 level,rv] w fun e w'=>e=.returned (.bool true)∧Below w.heap.size w w':=by
 obtain ⟨plv,pov,pcv,psv,rfl,hp⟩:=hP
 obtain ⟨la,lc,rfl⟩:=hp.1.is
 obtain ⟨oa,oc,rfl⟩:=hp.2.1.is
 obtain ⟨ca,cc,rfl⟩:=hp.2.2.1.is
 obtain ⟨sa,sc,rfl⟩:=hp.2.2.2.1.is
 have hP:PolC w q #[.slice la q.levels.length lc,.slice oa q.order.length oc,.slice ca q.chans.length cc,.slice sa q.sites.length sc,.bool q.sens,.int .i64 q.steps,.int .i64 q.paths,.int .i64 q.nodes,.int .i64 q.confs]:=⟨_,_,_,_,rfl,hp⟩
 clear hp
 have hR0:=hR
 obtain ⟨ra,rc,rfl,hrs,hri⟩:=hR
 obtain ⟨a1,k1,a2,k2,a3,k3,a4,k4,c1,c2,c3,c4,c5⟩:=hF.cells0
 have HFI:=Lib.hid hF.info
 have HPI:=Lib.hid hP.info
 have HF:=Lib.hid hF
 have HP:=Lib.hid hP
 have HL:=Lib.hid hL
 have HT:=Lib.hid hT
 have HLV:=Lib.hid hlv
 have HR:=Lib.hid hR0
 clear hF hP hL hT hlv hR0 hri
 have hrl:Ls.length * 24≤140737488351232:=hrs.1
 clear hrs
 have hal:=((Below.refl w.heap.size w).alloc (Nat.le_refl _) (.cells cF 26)).alloc (by simp) (.cells #[.slice la q.levels.length lc,.slice oa q.order.length oc,.slice ca q.chans.length cc,.slice sa q.sites.length sc,.bool q.sens,.int .i64 q.steps,.int .i64 q.paths,.int .i64 q.nodes,.int .i64 q.confs] 30)
 have hx:=heap2_of (w:=w) (A:=.cells cF 26 (0,0)) (B:=.cells #[.slice la q.levels.length lc,.slice oa q.order.length oc,.slice ca q.chans.length cc,.slice sa q.sites.length sc,.bool q.sens,.int .i64 q.steps,.int .i64 q.paths,.int .i64 q.nodes,.int .i64 q.confs] 30 (0,0)) (Below.refl _ _)
 have HB0:=Lib.hid hal
 have HG0:=Lib.hid hx.1
 have HG1:=Lib.hid hx.2.1
 clear hal hx
 have HC1:=Lib.hid c1
 have HC2:=Lib.hid c2
 have HC3:=Lib.hid c3
 have HC4:=Lib.hid c4
 have HC5:=Lib.hid c5
 clear c1 c2 c3 c4 c5
 go_enter Tryz.func3,Tryz.ntmps3
 go_upto_region 1 with fail
 generalize (w.alloc (.cells cF 26)).alloc (.cells #[.slice la q.levels.length lc,.slice oa q.order.length oc,.slice ca q.chans.length cc,.slice sa q.sites.length sc,.bool q.sens,.int .i64 q.steps,.int .i64 q.paths,.int .i64 q.nodes,.int .i64 q.confs] 30)=W at *
 have hsz:w.heap.size+1<W.heap.size:=(Array.getElem?_eq_some_iff.1 HG1.out).1
 have p0:=row_of HG1.out 0 (.slice la q.levels.length lc) rfl
 have p1:=row_of HG1.out 1 (.slice oa q.order.length oc) rfl
 have p2:=row_of HG1.out 2 (.slice ca q.chans.length cc) rfl
 have p3:=row_of HG1.out 3 (.slice sa q.sites.length sc) rfl
 have p4:=row_of HG1.out 4 (.bool q.sens) rfl
 have p5:=row_of HG1.out 5 (.int .i64 q.steps) rfl
 have p6:=row_of HG1.out 6 (.int .i64 q.paths) rfl
 have p7:=row_of HG1.out 7 (.int .i64 q.nodes) rfl
 have p8:=row_of HG1.out 8 (.int .i64 q.confs) rfl
 have f1:=row_of HG0.out 1 _ HC1.out
 have f2:=row_of HG0.out 2 _ HC2.out
 have f3:=row_of HG0.out 3 _ HC3.out
 have f4:=row_of HG0.out 4 _ HC4.out
 have f5:=row_of HG0.out 5 _ HC5.out
 have HBR:=Lib.hid (brief_any q _ W (HP.out.keep HB0.out))
 have HAW:=Lib.hid (fun (z:World) (hz:Below W.heap.size W z)=>awake_any z (HL.out.keep (bcomp HB0.out hz)) (HT.out.keep (bcomp HB0.out hz)))
 by_cases r1:(30:Int)<f.code.length
 ·go_wp2_with (go_at_call 7;refine (HAW.out _ (Below.refl _ _)).mono ?_;rintro e x9 ⟨rfl,hz⟩;have B9:=Lib.hid (bcomp HB0.out (bcomp (Below.refl _ _) hz));clear hz)
  go_ret
  exact ⟨rfl,B9.out⟩
 by_cases r2:(40:Int)<f.regs
 ·go_wp2_with (go_at_call 7;refine (HAW.out _ (Below.refl _ _)).mono ?_;rintro e x9 ⟨rfl,hz⟩;have B9:=Lib.hid (bcomp HB0.out (bcomp (Below.refl _ _) hz));clear hz)
  go_ret
  exact ⟨rfl,B9.out⟩
 by_cases r3:(40:Int)<f.chans.length
 ·go_wp2_with (go_at_call 7;refine (HAW.out _ (Below.refl _ _)).mono ?_;rintro e x9 ⟨rfl,hz⟩;have B9:=Lib.hid (bcomp HB0.out (bcomp (Below.refl _ _) hz));clear hz)
  go_ret
  exact ⟨rfl,B9.out⟩
 by_cases r4:(40:Int)<f.sites.length
 ·go_wp2_with (go_at_call 7;refine (HAW.out _ (Below.refl _ _)).mono ?_;rintro e x9 ⟨rfl,hz⟩;have B9:=Lib.hid (bcomp HB0.out (bcomp (Below.refl _ _) hz));clear hz)
  go_ret
  exact ⟨rfl,B9.out⟩
 by_cases r5:(40:Int)<f.arrays.length
 ·go_wp2_with (go_at_call 7;refine (HAW.out _ (Below.refl _ _)).mono ?_;rintro e x9 ⟨rfl,hz⟩;have B9:=Lib.hid (bcomp HB0.out (bcomp (Below.refl _ _) hz));clear hz)
  go_ret
  exact ⟨rfl,B9.out⟩
 by_cases hb:BriefP q
 case neg=>
  rw [decide_eq_false hb] at HBR
  go_wp2_with (first|(go_at_call 6;refine HBR.out.mono ?_;rintro e z2 ⟨rfl,hz⟩;have B2:=Lib.hid hz;clear hz)|(go_at_call 7;refine (HAW.out _ B2.out).mono ?_;rintro e x9 ⟨rfl,hz⟩;have B9:=Lib.hid (bcomp HB0.out (bcomp B2.out hz));clear hz))
  go_ret
  exact ⟨rfl,B9.out⟩
 rw [decide_eq_true hb] at HBR
 by_cases r7:(Ls.length:Int)<2
 ·go_wp2_with (first|(go_at_call 6;refine HBR.out.mono ?_;rintro e z2 ⟨rfl,hz⟩;have B2:=Lib.hid hz;clear hz)|(go_at_call 7;refine (HAW.out _ B2.out).mono ?_;rintro e x9 ⟨rfl,hz⟩;have B9:=Lib.hid (bcomp HB0.out (bcomp B2.out hz));clear hz))
  go_ret
  exact ⟨rfl,B9.out⟩
 by_cases r8:(4:Int)<Ls.length
 ·go_wp2_with (first|(go_at_call 6;refine HBR.out.mono ?_;rintro e z2 ⟨rfl,hz⟩;have B2:=Lib.hid hz;clear hz)|(go_at_call 7;refine (HAW.out _ B2.out).mono ?_;rintro e x9 ⟨rfl,hz⟩;have B9:=Lib.hid (bcomp HB0.out (bcomp B2.out hz));clear hz))
  go_ret
  exact ⟨rfl,B9.out⟩
 obtain ⟨rb,ro,rcx,hre,hri⟩:=HR.out.runs (by omega)
 simp only [Value.slice.injEq] at hre
 obtain ⟨rfl,-,rfl⟩:=hre
 have HRI:=Lib.hid hri
 have HRR:Hid (RdRuns w (.slice (some ⟨rb,ro,none⟩) Ls.length rc) Ls):=⟨rb,ro,rc,rfl,hri⟩
 clear hri
 go_upto_region 4 with (go_at_call 6;refine HBR.out.mono ?_;rintro e z2 ⟨rfl,hz⟩;have B2:=Lib.hid hz;clear hz)
 clear hb HBR r1 r2 r3 r4 r5 p0 p1 p2 p3 p4 p5 p6 p7 p8 f1 f2 f3 f4 f5
 have B02:=Lib.hid (bcomp HB0.out B2.out)
 have HAW2:Hid (∀ z:World,Below z2.heap.size z2 z→Calls Tryz.prog 7 #[] z fun e w'=>e=.returned (.bool true)∧Below z.heap.size z w'):=fun z hz=>HAW.out z (bcomp B2.out hz)
 go_loopw [9] (fun i wr=>∃ k:Nat,k≤Ls.length∧i=.int .i64 k∧z2=wr∧Hid (∀ A ∈ Ls.take k,shortP A)) (fun i _=>Ls.length - (intOf i).toNat)
 case atStart=>exact ⟨0,Nat.zero_le _,rfl,by first|trivial|rfl,fun l hl=>by simp at hl⟩
 case round=>
  obtain ⟨k,hk,rfl,hwz,HQ⟩:=hrel
  subst hwz
  by_cases hlt:k<Ls.length
  ·have hlt1:(k:Int)<Ls.length:=by omega
   obtain ⟨A,hA⟩:∃ A,Ls[k]?=some A:=⟨_,List.getElem?_eq_getElem hlt⟩
   obtain ⟨iv,c0,hr⟩:=HRI.out k A hA
   have d0:=cell_keep B02.out c0
   have hsv:=short_any iv A z2 (hr.keep B02.out)
   clear hr c0
   by_cases hsp:shortP A
   ·have HQ2:Hid (∀ m ∈ Ls.take (k+1),shortP m):=by
     intro m hm
     rw [List.take_add_one,hA] at hm
     rcases List.mem_append.1 hm with h|h
     ·exact HQ.out m h
     ·simp at h;subst h;exact hsp
    rw [decide_eq_true hsp] at hsv
    have HSV:=Lib.hid hsv
    clear hA hsv hsp
    go_wp2_with (go_at_call 8;refine HSV.out.mono ?_;rintro e z4 ⟨rfl,rfl⟩)
    go_roundw
    case rel=>exact ⟨k+1,by omega,by go_num,by first|trivial|rfl,HQ2⟩
    case measure=>simp [intOf];omega
   ·rw [decide_eq_false hsp] at hsv
    have HSV:=Lib.hid hsv
    clear hA hsv hsp
    go_wp2_with (first|(go_at_call 8;refine HSV.out.mono ?_;rintro e z4 ⟨rfl,rfl⟩)|(go_at_call 7;refine (HAW2.out _ (Below.refl _ _)).mono ?_;rintro e x9 ⟨rfl,hz⟩;have B9:=Lib.hid (bcomp B02.out hz);clear hz))
    go_ret
    exact ⟨rfl,B9.out⟩
  ·obtain rfl:k=Ls.length:=by omega
   have hlt1:¬ ((Ls.length:Nat):Int)<(Ls.length:Int):=by omega
   have HS:Hid (∀ A ∈ Ls,∀ l ∈ A,l.length≤1000000):=fun A hA=>short_fits (HQ.out A (by rw [List.take_length];exact hA))
   obtain ⟨A,hA⟩:∃ A,Ls[0]?=some A:=⟨_,List.getElem?_eq_getElem (by omega)⟩
   obtain ⟨B,hB⟩:∃ B,Ls[1]?=some B:=⟨_,List.getElem?_eq_getElem (by omega)⟩
   obtain ⟨iv,ci,hi⟩:=HRI.out 0 A hA
   obtain ⟨jv,cj,hj⟩:=HRI.out 1 B hB
   have HAM:=Lib.hid (List.mem_of_getElem? hA)
   have HBM:=Lib.hid (List.mem_of_getElem? hB)
   obtain ⟨ia,ic,rfl⟩:=hi.is
   obtain ⟨ja,jc,rfl⟩:=hj.is
   rw [Nat.add_zero] at ci
   have HCI:=Lib.hid ci
   have HCJ:=Lib.hid cj
   have HI:=Lib.hid hi
   have HJ:=Lib.hid hj
   clear hA hB ci cj hi hj HQ hk hlt
   have hi0:(0:Int)<(Ls.length:Int):=by omega
   have hi1:(1:Int)<(Ls.length:Int):=by omega
   go_upto_region 8 with fail
   obtain ⟨LV,hLV⟩:∃ LV,leaksB f q level A B=LV:=⟨_,rfl⟩
   obtain ⟨LE,hLE⟩:∃ LE,leaksErr f q level A B=LE:=⟨_,rfl⟩
   have HK1:Hid (∀ z:World,Below w.heap.size w z→Calls Tryz.prog 9 #[.agg cF,.agg #[.slice la q.levels.length lc,.slice oa q.order.length oc,.slice ca q.chans.length cc,.slice sa q.sites.length sc,.bool q.sens,.int .i64 q.steps,.int .i64 q.paths,.int .i64 q.nodes,.int .i64 q.confs],.int .i64 level,.slice ia A.length ic,.slice ja B.length jc] z fun e w'=>e=.returned (.tuple #[.bool LV,.int .i64 LE])∧Below z.heap.size z w'):=by
    intro z hz
    have h:=leaks_any f q cF _ level _ _ A B z (HF.out.keep hz) (HP.out.keep hz) (HL.out.keep hz) (HT.out.keep hz) HLV.out (HI.out.keep hz) (HJ.out.keep hz) (HS.out A HAM.out) (HS.out B HBM.out)
    rw [hLV,hLE] at h
    exact h
   have HK2:Hid (∀ z:World,Below w.heap.size w z→Calls Tryz.prog 10 #[.agg cF,.agg #[.slice la q.levels.length lc,.slice oa q.order.length oc,.slice ca q.chans.length cc,.slice sa q.sites.length sc,.bool q.sens,.int .i64 q.steps,.int .i64 q.paths,.int .i64 q.nodes,.int .i64 q.confs],.int .i64 level,.slice ia A.length ic,.slice ja B.length jc] z fun e w'=>e=.returned (.tuple #[.bool LV,.int .i64 LE])∧Below z.heap.size z w'):=by
    intro z hz
    have h:=refLeaks f q cF _ level _ _ A B z (HF.out.keep hz) (HP.out.keep hz) HLV.out (HI.out.keep hz) (HJ.out.keep hz) (HS.out A HAM.out) (HS.out B HBM.out)
    rw [hLV,hLE] at h
    exact h
   obtain ⟨HV,hHV⟩:∃ LV,holdsB f q Ls=LV:=⟨_,rfl⟩
   obtain ⟨HE,hHE⟩:∃ LE,holdsErr f q Ls=LE:=⟨_,rfl⟩
   have HK3:Hid (∀ z:World,Below w.heap.size w z→Calls Tryz.prog 11 #[.agg cF,.agg #[.slice la q.levels.length lc,.slice oa q.order.length oc,.slice ca q.chans.length cc,.slice sa q.sites.length sc,.bool q.sens,.int .i64 q.steps,.int .i64 q.paths,.int .i64 q.nodes,.int .i64 q.confs],.slice (some ⟨rb,ro,none⟩) Ls.length rc] z fun e w'=>e=.returned (.tuple #[.bool HV,.int .i64 HE])∧Below z.heap.size z w'):=by
    intro z hz
    have h:=holds_any f q cF _ _ Ls z (HF.out.keep hz) (HP.out.keep hz) (HL.out.keep hz) (HT.out.keep hz) (HRR.out.keep hz) (by omega) HS.out
    rw [hHV,hHE] at h
    exact h
   have HK4:Hid (∀ z:World,Below w.heap.size w z→Calls Tryz.prog 12 #[.agg cF,.agg #[.slice la q.levels.length lc,.slice oa q.order.length oc,.slice ca q.chans.length cc,.slice sa q.sites.length sc,.bool q.sens,.int .i64 q.steps,.int .i64 q.paths,.int .i64 q.nodes,.int .i64 q.confs],.slice (some ⟨rb,ro,none⟩) Ls.length rc] z fun e w'=>e=.returned (.tuple #[.bool HV,.int .i64 HE])∧Below z.heap.size z w'):=by
    intro z hz
    have h:=refHolds f q cF _ _ Ls z (HF.out.keep hz) (HP.out.keep hz) (HRR.out.keep hz) (by omega) HS.out
    rw [hHV,hHE] at h
    exact h
   clear hLV hLE hHV hHE HRI
   have BWz2:Hid (Below W.heap.size W z2):=B2.out
   have e0:=ext_cell (cell_keep (bcomp HB0.out BWz2.out) HCI.out)
   have e1:=ext_cell (cell_keep (bcomp HB0.out BWz2.out) HCJ.out)
   have HGFz2:=Lib.hid ((BWz2.out.block _ (by omega)).trans HG0.out)
   have HGPz2:=Lib.hid ((BWz2.out.block _ hsz).trans HG1.out)
   refine wp_region_mix (.one [0,1,2,3,4,5,6,7,8] 9 (.fin [10,11,12,13,14])) (fun _=>false) (by kernel_rfl) (by kernel_rfl) rfl (by kernel_rfl) (fun _ d _ _ _ h=>by cases d <;> exact h) ?_
   have HBd:Hid (Below z2.heap.size z2 z2.drew):=(Below.refl _ _).drew
   generalize z2.drew=wnz3 at *
   refine mix_one (by simp only [opsOf,List.filterMap_cons,List.filterMap_nil,List.getElem?_toArray,List.getElem?_cons_succ,List.getElem?_cons_zero];rfl) ⟨_,ext_of HBd.out⟩ ?_
   change wpQuiet _ _ _ _ [_,_,_,_,_,_,_,_,_] _
   go_big_quiet_want
   refine quiet_load_row 26 (.tmp 4) rfl w.heap.size rfl 26 cF (0,0) _ (ext_row HGFz2.out) Tryz.underlying26 rfl HFI.out ?_
   simp only [Act.put,List.setIfInBounds_toArray,List.set_cons_succ,List.set_cons_zero,List.getElem_toArray,List.getElem_cons_succ,List.getElem_cons_zero]
   go_big_quiet_on
   go_big_quiet_want
   refine quiet_load_row 30 (.tmp 5) rfl (w.heap.size+1) rfl 30 #[.slice la q.levels.length lc,.slice oa q.order.length oc,.slice ca q.chans.length cc,.slice sa q.sites.length sc,.bool q.sens,.int .i64 q.steps,.int .i64 q.paths,.int .i64 q.nodes,.int .i64 q.confs] (0,0) _ (ext_row HGPz2.out) Tryz.underlying30 rfl HPI.out ?_
   simp only [Act.put,List.setIfInBounds_toArray,List.set_cons_succ,List.set_cons_zero,List.getElem_toArray,List.getElem_cons_succ,List.getElem_cons_zero]
   go_big_quiet_on
   (repeat (go_big_quiet_step (fail)))
   refine wpQuiet_nil ?_
   clear e0 e1
   have BWnz3:=Lib.hid (bcomp BWz2.out HBd.out)
   refine mix_step rfl ?_
   go_wp2_with (go_at_call 9;refine (HK1.out _ (bcomp HB0.out BWnz3.out)).mono ?_;rintro e z3 ⟨rfl,hz⟩;have BZz3:=Lib.hid hz;clear hz)
   refine ⟨by first|exact ⟨_,ext_of (bcomp HBd.out BZz3.out)⟩|exact fun _=>⟨_,ext_of (bcomp HBd.out BZz3.out)⟩,?_⟩
   refine mix_fin (by simp only [opsOf,List.filterMap_cons,List.filterMap_nil,List.getElem?_toArray,List.getElem?_cons_succ,List.getElem?_cons_zero];rfl) ⟨_,ext_of (bcomp HBd.out BZz3.out)⟩ ?_
   change wpQuiet _ _ _ _ [_,_,_,_,_] _
   (repeat (go_big_quiet_step (fail)))
   refine wpQuiet_nil ?_
   have BWz3:=Lib.hid (bcomp BWnz3.out BZz3.out)
   clear HBd BZz3 HGFz2 HGPz2
   go_upto_region 9 with fail
   have e0:=ext_cell (cell_keep (bcomp HB0.out BWz3.out) HCI.out)
   have e1:=ext_cell (cell_keep (bcomp HB0.out BWz3.out) HCJ.out)
   have HGFz3:=Lib.hid ((BWz3.out.block _ (by omega)).trans HG0.out)
   have HGPz3:=Lib.hid ((BWz3.out.block _ hsz).trans HG1.out)
   refine wp_region_mix (.one [0,1,2,3,4,5,6,7,8] 9 (.fin [10,11,12,13,14])) (fun _=>false) (by kernel_rfl) (by kernel_rfl) rfl (by kernel_rfl) (fun _ d _ _ _ h=>by cases d <;> exact h) ?_
   have HBd:Hid (Below z3.heap.size z3 z3.drew):=(Below.refl _ _).drew
   generalize z3.drew=wnz4 at *
   refine mix_one (by simp only [opsOf,List.filterMap_cons,List.filterMap_nil,List.getElem?_toArray,List.getElem?_cons_succ,List.getElem?_cons_zero];rfl) ⟨_,ext_of HBd.out⟩ ?_
   change wpQuiet _ _ _ _ [_,_,_,_,_,_,_,_,_] _
   go_big_quiet_want
   refine quiet_load_row 26 (.tmp 4) rfl w.heap.size rfl 26 cF (0,0) _ (ext_row HGFz3.out) Tryz.underlying26 rfl HFI.out ?_
   simp only [Act.put,List.setIfInBounds_toArray,List.set_cons_succ,List.set_cons_zero,List.getElem_toArray,List.getElem_cons_succ,List.getElem_cons_zero]
   go_big_quiet_on
   go_big_quiet_want
   refine quiet_load_row 30 (.tmp 5) rfl (w.heap.size+1) rfl 30 #[.slice la q.levels.length lc,.slice oa q.order.length oc,.slice ca q.chans.length cc,.slice sa q.sites.length sc,.bool q.sens,.int .i64 q.steps,.int .i64 q.paths,.int .i64 q.nodes,.int .i64 q.confs] (0,0) _ (ext_row HGPz3.out) Tryz.underlying30 rfl HPI.out ?_
   simp only [Act.put,List.setIfInBounds_toArray,List.set_cons_succ,List.set_cons_zero,List.getElem_toArray,List.getElem_cons_succ,List.getElem_cons_zero]
   go_big_quiet_on
   (repeat (go_big_quiet_step (fail)))
   refine wpQuiet_nil ?_
   clear e0 e1
   have BWnz4:=Lib.hid (bcomp BWz3.out HBd.out)
   refine mix_step rfl ?_
   go_wp2_with (go_at_call 10;refine (HK2.out _ (bcomp HB0.out BWnz4.out)).mono ?_;rintro e z4 ⟨rfl,hz⟩;have BZz4:=Lib.hid hz;clear hz)
   refine ⟨by first|exact ⟨_,ext_of (bcomp HBd.out BZz4.out)⟩|exact fun _=>⟨_,ext_of (bcomp HBd.out BZz4.out)⟩,?_⟩
   refine mix_fin (by simp only [opsOf,List.filterMap_cons,List.filterMap_nil,List.getElem?_toArray,List.getElem?_cons_succ,List.getElem?_cons_zero];rfl) ⟨_,ext_of (bcomp HBd.out BZz4.out)⟩ ?_
   change wpQuiet _ _ _ _ [_,_,_,_,_] _
   (repeat (go_big_quiet_step (fail)))
   refine wpQuiet_nil ?_
   have BWz4:=Lib.hid (bcomp BWnz4.out BZz4.out)
   clear HBd BZz4 HGFz3 HGPz3
   have hn1:(LV != LV)=false:=by simp
   have hn2:(LE != LE)=false:=by simp
   have hn3:(LV == LV)=true:=by simp
   have hn4:(LE == LE)=true:=by simp
   go_upto_region 12 with fail
   have HF4:=Lib.hid ((BWz4.out.block _ (by omega)).trans HG0.out)
   have HP4:=Lib.hid ((BWz4.out.block _ hsz).trans HG1.out)
   go_upto_region 13 with (first|(refine wpList_load_row rfl 26 (.tmp 4) rfl w.heap.size rfl 26 cF (0,0) _ ?l1 Tryz.underlying26 rfl ?i1 ?_;exact HF4.out;exact HFI.out)|(refine wpList_load_row rfl 30 (.tmp 5) rfl (w.heap.size+1) rfl 30 #[.slice la q.levels.length lc,.slice oa q.order.length oc,.slice ca q.chans.length cc,.slice sa q.sites.length sc,.bool q.sens,.int .i64 q.steps,.int .i64 q.paths,.int .i64 q.nodes,.int .i64 q.confs] (0,0) _ ?l2 Tryz.underlying30 rfl ?i2 ?_;exact HP4.out;exact HPI.out)|(go_at_call 11;refine (HK3.out _ (bcomp HB0.out BWz4.out)).mono ?_;rintro e z5 ⟨rfl,hz⟩;have BW5:=Lib.hid (bcomp BWz4.out hz);clear hz))
   have HF5:=Lib.hid ((BW5.out.block _ (by omega)).trans HG0.out)
   have HP5:=Lib.hid ((BW5.out.block _ hsz).trans HG1.out)
   go_upto_region 14 with (first|(refine wpList_load_row rfl 26 (.tmp 4) rfl w.heap.size rfl 26 cF (0,0) _ ?l3 Tryz.underlying26 rfl ?i3 ?_;exact HF5.out;exact HFI.out)|(refine wpList_load_row rfl 30 (.tmp 5) rfl (w.heap.size+1) rfl 30 #[.slice la q.levels.length lc,.slice oa q.order.length oc,.slice ca q.chans.length cc,.slice sa q.sites.length sc,.bool q.sens,.int .i64 q.steps,.int .i64 q.paths,.int .i64 q.nodes,.int .i64 q.confs] (0,0) _ ?l4 Tryz.underlying30 rfl ?i4 ?_;exact HP5.out;exact HPI.out)|(go_at_call 12;refine (HK4.out _ (bcomp HB0.out BW5.out)).mono ?_;rintro e z6 ⟨rfl,hz⟩;have BW6:=Lib.hid (bcomp BW5.out hz);clear hz))
   have hm3:(HV == HV)=true:=by simp
   have hm4:(HE == HE)=true:=by simp
   go_wp2_with (go_at_call 7;refine (HAW.out _ BW6.out).mono ?_;rintro e x9 ⟨rfl,hz⟩;have B9:=Lib.hid (bcomp HB0.out (bcomp BW6.out hz));clear hz)
   go_ret
   exact ⟨rfl,B9.out⟩
end Go.Proofs.YtkjkpddajjmloaaGreatDoor
