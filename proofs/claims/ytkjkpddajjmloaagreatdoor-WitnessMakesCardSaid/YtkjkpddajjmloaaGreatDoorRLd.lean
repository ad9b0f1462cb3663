/- Contracts of the reference's Premise and Same. Condition: what comes in reads as the plain data. -/
import Derived.Test.YtkjkpddajjmloaaGreatDoorRLc
set_option linter.all false
set_option maxRecDepth 1000000
set_option maxHeartbeats 6400000
namespace Go.Proofs.YtkjkpddajjmloaaGreatDoor
open Go.ChangeShapes Go.WideShapes Go.ChangeAt Go.RowKit
open Go.Lib (hid)
theorem gsRLd {α:Type} {a:Array α} {i:Nat} {v:α} (h:a[i]?=some v):i<a.size:=(Array.getElem?_eq_some_iff.1 h).1
theorem refFuel (x y:TraceD) (xa1:Option Addr) (xa2:Nat) (xa3:Option Addr) (xa4:Nat) (xa5:Option Addr) (xa6:Nat) (xa7:Option Addr) (xa8:Nat) (ya1:Option Addr) (ya2:Nat) (ya3:Option Addr) (ya4:Nat) (ya5:Option Addr) (ya6:Nat) (ya7:Option Addr) (ya8:Nat) (w:World) :
  Calls Tryz.prog 98 #[.agg #[.int .u8 x.status,.int .i64 x.steps,.slice xa1 x.outs.length xa2,.slice xa3 x.rels.length xa4,.slice xa5 x.brs.length xa6,.slice xa7 x.reads.length xa8],.agg #[.int .u8 y.status,.int .i64 y.steps,.slice ya1 y.outs.length ya2,.slice ya3 y.rels.length ya4,.slice ya5 y.brs.length ya6,.slice ya7 y.reads.length ya8]] w fun e w'=>e=.returned (.bool (fuelT x y))∧Below w.heap.size w w':=by
 have hal:=((Below.refl w.heap.size w).alloc (Nat.le_refl _) (.cells #[.int .u8 x.status,.int .i64 x.steps,.slice xa1 x.outs.length xa2,.slice xa3 x.rels.length xa4,.slice xa5 x.brs.length xa6,.slice xa7 x.reads.length xa8] 52)).alloc (by simp) (.cells #[.int .u8 y.status,.int .i64 y.steps,.slice ya1 y.outs.length ya2,.slice ya3 y.rels.length ya4,.slice ya5 y.brs.length ya6,.slice ya7 y.reads.length ya8] 52)
 have HB:=hid hal
 clear hal
 obtain⟨V,hV⟩:∃ V,fuelT x y=V:=⟨_,rfl⟩
 rw[hV]
 have HV:=hid hV
 clear hV
 go_enter Tryz.func98,Tryz.ntmps98
 by_cases h1:x.status=2
 ·have e1:(x.status==2)=true:=by simp[h1]
  obtain rfl:V=true:=by rw[← HV.out,fuelT,e1,Bool.true_or]
  clear h1
  go_wp2_with fail
  go_ret
  exact⟨rfl,HB.out⟩
 ·have e1:(x.status==2)=false:=by simp[h1]
  clear h1
  by_cases h2:y.status=2
  ·have e2:(y.status==2)=true:=by simp[h2]
   obtain rfl:V=true:=by rw[← HV.out,fuelT,e1,e2];rfl
   clear h2
   go_wp2_with fail
   go_ret
   exact⟨rfl,HB.out⟩
  ·have e2:(y.status==2)=false:=by simp[h2]
   obtain rfl:V=false:=by rw[← HV.out,fuelT,e1,e2];rfl
   clear h2
   go_wp2_with fail
   go_ret
   exact⟨rfl,HB.out⟩
theorem refAlike (part:Bool) (av bv:Value) (a b:List EvD) (w:World) (ha:RdRow kEv none w av a) (hb:RdRow kEv none w bv b) :
  Calls Tryz.prog 97 #[.bool part,av,bv] w fun e w'=>e=.returned (.bool (alikeE part a b))∧Below w.heap.size w w':=by
 have H1:=hid (refPrefix av bv a b w ha hb)
 have H2:=hid (equalEv av bv a b w ha hb)
 clear ha hb
 go_enter Tryz.func97,Tryz.ntmps97
 cases part
 ·go_wp2_with (go_at_call 131;refine H2.out.mono ?_;rintro e z ⟨rfl,hz⟩;have BZ:=hid hz;clear hz)
  go_ret
  exact⟨rfl,BZ.out⟩
 ·go_wp2_with (go_at_call 130;refine H1.out.mono ?_;rintro e z ⟨rfl,hz⟩;have BZ:=hid hz;clear hz)
  go_ret
  exact⟨rfl,BZ.out⟩
def ViewsSaid (E:Int) (w:World) (a b:List EvD) (e:Ending) (w':World):Prop:=∃ r s,e=.returned (.tuple #[r,s,.int .i64 E])∧(E=0→RdRow kEv none w' r a∧RdRow kEv none w' s b)∧Below w.heap.size w w'
theorem refViews (L:LatD) (v lvs av bv:Value) (level:Int) (levels:List Int) (a b:List EvD) (w:World) (h:RefLat w v L) (hlv:InI64 level) (hr:RdRow kInt none w lvs levels) (hlen:levels.length≤1000000) (ha:RdRow kEv none w av a) (hb:RdRow kEv none w bv b) :
  Calls Tryz.prog 96 #[v,.int .i64 level,lvs,av,bv] w (ViewsSaid (viewsErr L level levels a b) w (evsSee L level levels a) (evsSee L level levels b)):=by
 obtain⟨E,hE⟩:∃ E,viewsErr L level levels a b=E:=⟨_,rfl⟩
 rw[hE]
 have HE:=hid hE
 obtain⟨E1,hE1⟩:∃ E,evsErr L level levels a=E:=⟨_,rfl⟩
 have k1:=refEvents L v lvs av level levels a w h hlv hr hlen ha
 rw[hE1] at k1
 have HK1:=hid k1
 have HK2:=hid (fun (z:World) (hz:Below w.heap.size w z)=>refEvents L v lvs bv level levels b z (h.keep hz) hlv (hr.keep hz) hlen (hb.keep hz))
 clear hE k1 h hr ha hb
 obtain⟨E2,hE2⟩:∃ E,evsErr L level levels b=E:=⟨_,rfl⟩
 rw[hE2] at HK2
 go_enter Tryz.func96,Tryz.ntmps96
 by_cases h0:E1=0
 ·obtain rfl:E=E2:=by rw[← HE.out,viewsErr,hE1,if_neg (by rw[h0];simp),hE2]
  subst h0
  have hb0:((0:Int) != 0)=false:=rfl
  clear hE1 hE2 HE
  go_wp2_with (go_at_call 129;first|(have hbb:=BZ.out;refine (HK2.out _ hbb).mono ?_;rintro e z2 ⟨s,rfl,hs2,hz⟩;have BZ2:=hid hz;have HS2:=hid hs2;clear hz hs2)|(refine HK1.out.mono ?_;rintro e z ⟨r,rfl,hs1,hz⟩;have BZ:=hid hz;have HS1:=hid hs1;clear hz hs1))
  go_ret3
  exact⟨r,s,rfl,fun h=>⟨(((HS1.out rfl).forget).keep BZ2.out),(HS2.out h).forget⟩,bcomp BZ.out BZ2.out⟩
 ·obtain rfl:E=E1:=by rw[← HE.out,viewsErr,hE1,if_pos h0]
  have h1:(E != 0)=true:=by simpa using h0
  clear hE1 hE2 HE
  go_wp2_with (go_at_call 129;refine HK1.out.mono ?_;rintro e z ⟨r,rfl,hs1,hz⟩;have BZ:=hid hz;clear hz hs1)
  go_ret3
  exact⟨_,_,rfl,fun h=>absurd h h0,BZ.out⟩
theorem refPremise (L:LatD) (v lvs:Value) (level:Int) (levels:List Int) (sens:Bool) (x y:TraceD) (xa1:Option Addr) (xa2:Nat) (xa3:Option Addr) (xa4:Nat) (xa5:Option Addr) (xa6:Nat) (xa7:Option Addr) (xa8:Nat) (ya1:Option Addr) (ya2:Nat) (ya3:Option Addr) (ya4:Nat) (ya5:Option Addr) (ya6:Nat) (ya7:Option Addr) (ya8:Nat) (w:World) (h:RefLat w v L) (hlv:InI64 level) (hr:RdRow kInt none w lvs levels) (hlen:levels.length≤1000000) (hx:RdTrace none w x (.slice xa1 x.outs.length xa2) (.slice xa3 x.rels.length xa4) (.slice xa5 x.brs.length xa6) (.slice xa7 x.reads.length xa8)) (hy:RdTrace none w y (.slice ya1 y.outs.length ya2) (.slice ya3 y.rels.length ya4) (.slice ya5 y.brs.length ya6) (.slice ya7 y.reads.length ya8)) :
  Calls Tryz.prog 63 #[v,.int .i64 level,lvs,.bool sens,.agg #[.int .u8 x.status,.int .i64 x.steps,.slice xa1 x.outs.length xa2,.slice xa3 x.rels.length xa4,.slice xa5 x.brs.length xa6,.slice xa7 x.reads.length xa8],.agg #[.int .u8 y.status,.int .i64 y.steps,.slice ya1 y.outs.length ya2,.slice ya3 y.rels.length ya4,.slice ya5 y.brs.length ya6,.slice ya7 y.reads.length ya8]] w fun e w'=>e=.returned (.tuple #[.bool (premB L level levels sens x y),.int .i64 (viewsErr L level levels x.rels y.rels)])∧Below w.heap.size w w':=by
 have hal:=((Below.refl w.heap.size w).alloc (Nat.le_refl _) (.cells #[.int .u8 x.status,.int .i64 x.steps,.slice xa1 x.outs.length xa2,.slice xa3 x.rels.length xa4,.slice xa5 x.brs.length xa6,.slice xa7 x.reads.length xa8] 52)).alloc (by simp) (.cells #[.int .u8 y.status,.int .i64 y.steps,.slice ya1 y.outs.length ya2,.slice ya3 y.rels.length ya4,.slice ya5 y.brs.length ya6,.slice ya7 y.reads.length ya8] 52)
 have hbb:=heap2_of (w:=w) (A:=.cells #[.int .u8 x.status,.int .i64 x.steps,.slice xa1 x.outs.length xa2,.slice xa3 x.rels.length xa4,.slice xa5 x.brs.length xa6,.slice xa7 x.reads.length xa8] 52 (0,0)) (B:=.cells #[.int .u8 y.status,.int .i64 y.steps,.slice ya1 y.outs.length ya2,.slice ya3 y.rels.length ya4,.slice ya5 y.brs.length ya6,.slice ya7 y.reads.length ya8] 52 (0,0)) (Below.refl _ _)
 have HX0:=hid hbb.1
 have HY0:=hid hbb.2.1
 have HB:=hid hal
 obtain⟨V,hV⟩:∃ V,premB L level levels sens x y=V:=⟨_,rfl⟩
 obtain⟨E,hE⟩:∃ E,viewsErr L level levels x.rels y.rels=E:=⟨_,rfl⟩
 rw[hV,hE]
 have k1:=refViews L v lvs _ _ level levels x.rels y.rels _ (h.keep hal) hlv (hr.keep hal) hlen (hx.keep hal).2.1 (hy.keep hal).2.1
 rw[hE] at k1
 have HK1:=hid k1
 have HV:=hid hV
 have HE:=hid hE
 clear hal hbb k1 hV hE h hr hx hy
 go_enter Tryz.func63,Tryz.ntmps63
 go_upto_region 1 with fail
 generalize (w.alloc (.cells #[.int .u8 x.status,.int .i64 x.steps,.slice xa1 x.outs.length xa2,.slice xa3 x.rels.length xa4,.slice xa5 x.brs.length xa6,.slice xa7 x.reads.length xa8] 52)).alloc (.cells #[.int .u8 y.status,.int .i64 y.steps,.slice ya1 y.outs.length ya2,.slice ya3 y.rels.length ya4,.slice ya5 y.brs.length ya6,.slice ya7 y.reads.length ya8] 52)=W at *
 have x0:=row_of HX0.out 0 (.int .u8 x.status) rfl
 have x1:=row_of HX0.out 1 (.int .i64 x.steps) rfl
 have x2:=row_of HX0.out 2 (.slice xa1 x.outs.length xa2) rfl
 have x3:=row_of HX0.out 3 (.slice xa3 x.rels.length xa4) rfl
 have x4:=row_of HX0.out 4 (.slice xa5 x.brs.length xa6) rfl
 have x5:=row_of HX0.out 5 (.slice xa7 x.reads.length xa8) rfl
 have y0:=row_of HY0.out 0 (.int .u8 y.status) rfl
 have y1:=row_of HY0.out 1 (.int .i64 y.steps) rfl
 have y2:=row_of HY0.out 2 (.slice ya1 y.outs.length ya2) rfl
 have y3:=row_of HY0.out 3 (.slice ya3 y.rels.length ya4) rfl
 have y4:=row_of HY0.out 4 (.slice ya5 y.brs.length ya6) rfl
 have y5:=row_of HY0.out 5 (.slice ya7 y.reads.length ya8) rfl
 by_cases h0:E=0
 rotate_left
 ·have h1:(E != 0)=true:=by simpa using h0
  obtain rfl:V=false:=by rw[← HV.out,premB,if_pos (by rw[HE.out];exact h0)]
  go_wp2_with (go_at_call 96;refine HK1.out.mono ?_;rintro e z ⟨r,s,rfl,hs,hz⟩;have BZ:=hid hz;clear hz hs x0 y0 x1 y1 x2 y2 x3 y3 x4 y4 x5 y5)
  go_ret2
  exact⟨rfl,bcomp HB.out BZ.out⟩
 subst h0
 have hb0:((0:Int) != 0)=false:=rfl
 go_upto_region 4 with (go_at_call 96;refine HK1.out.mono ?_;rintro e z ⟨r,s,rfl,hs,hz⟩;have BZ:=hid hz;obtain⟨hr1,hs1⟩:=hs rfl;have HR1:=hid hr1;have HS1:=hid hs1;have HX1:=hid ((hz.block _ (gsRLd HX0.out)).trans HX0.out);have HY1:=hid ((hz.block _ (gsRLd HY0.out)).trans HY0.out);clear hz hs hr1 hs1 x0 y0 x1 y1 x2 y2 x3 y3 x4 y4 x5 y5)
 obtain⟨P,hP⟩:∃ P,partT sens x y=P:=⟨_,rfl⟩
 have HP:=hid hP
 clear hP
 obtain⟨F,hF⟩:∃ P,fuelT x y=P:=⟨_,rfl⟩
 have HF:=hid hF
 clear hF
 have HPF:Hid (P=(!sens&&F)):=by show P=_;rw[← HP.out,partT,HF.out]
 have hfu:=refFuel x y xa1 xa2 xa3 xa4 xa5 xa6 xa7 xa8 ya1 ya2 ya3 ya4 ya5 ya6 ya7 ya8 z
 rw[HF.out] at hfu
 have HFU:=hid hfu
 have HAL:=hid (fun (z2:World) (hz:Below z.heap.size z z2)=>refAlike P r s _ _ z2 (HR1.out.keep hz) (HS1.out.keep hz))
 have HVV:Hid (V=alikeE P (evsSee L level levels x.rels) (evsSee L level levels y.rels)):=by show V=_;rw[← HV.out,premB,if_neg (by rw[HE.out];simp),HP.out]
 have HAZ:=hid (HAL.out z (Below.refl _ _))
 have hvv:=HVV.out
 subst hvv
 clear hfu
 have x0:=row_of HX1.out 0 (.int .u8 x.status) rfl
 have x1:=row_of HX1.out 1 (.int .i64 x.steps) rfl
 have x2:=row_of HX1.out 2 (.slice xa1 x.outs.length xa2) rfl
 have x3:=row_of HX1.out 3 (.slice xa3 x.rels.length xa4) rfl
 have x4:=row_of HX1.out 4 (.slice xa5 x.brs.length xa6) rfl
 have x5:=row_of HX1.out 5 (.slice xa7 x.reads.length xa8) rfl
 have y0:=row_of HY1.out 0 (.int .u8 y.status) rfl
 have y1:=row_of HY1.out 1 (.int .i64 y.steps) rfl
 have y2:=row_of HY1.out 2 (.slice ya1 y.outs.length ya2) rfl
 have y3:=row_of HY1.out 3 (.slice ya3 y.rels.length ya4) rfl
 have y4:=row_of HY1.out 4 (.slice ya5 y.brs.length ya6) rfl
 have y5:=row_of HY1.out 5 (.slice ya7 y.reads.length ya8) rfl
 cases sens
 ·obtain rfl:P=F:=by rw[HPF.out];rfl
  go_wp2_with (first|(go_at_call 98;refine HFU.out.mono ?_;rintro e z2 ⟨rfl,hz⟩;have BZ2:=hid hz;have HA2:=hid (HAL.out z2 hz);clear hz)|(go_at_call 97;refine HA2.out.mono ?_;rintro e z3 ⟨rfl,hz⟩;have BZ3:=hid hz;clear hz))
  go_ret2
  exact⟨rfl,bcomp HB.out (bcomp BZ.out (bcomp BZ2.out BZ3.out))⟩
 ·obtain rfl:P=false:=by rw[HPF.out];rfl
  go_wp2_with (go_at_call 97;refine HAZ.out.mono ?_;rintro e z3 ⟨rfl,hz⟩;have BZ3:=hid hz;clear hz)
  go_ret2
  exact⟨rfl,bcomp HB.out (bcomp BZ.out BZ3.out)⟩
theorem refSame (L:LatD) (v lvs:Value) (level:Int) (levels:List Int) (sens:Bool) (x y:TraceD) (xa1:Option Addr) (xa2:Nat) (xa3:Option Addr) (xa4:Nat) (xa5:Option Addr) (xa6:Nat) (xa7:Option Addr) (xa8:Nat) (ya1:Option Addr) (ya2:Nat) (ya3:Option Addr) (ya4:Nat) (ya5:Option Addr) (ya6:Nat) (ya7:Option Addr) (ya8:Nat) (w:World) (h:RefLat w v L) (hlv:InI64 level) (hr:RdRow kInt none w lvs levels) (hlen:levels.length≤1000000) (hx:RdTrace none w x (.slice xa1 x.outs.length xa2) (.slice xa3 x.rels.length xa4) (.slice xa5 x.brs.length xa6) (.slice xa7 x.reads.length xa8)) (hy:RdTrace none w y (.slice ya1 y.outs.length ya2) (.slice ya3 y.rels.length ya4) (.slice ya5 y.brs.length ya6) (.slice ya7 y.reads.length ya8)) :
  Calls Tryz.prog 64 #[v,.int .i64 level,lvs,.bool sens,.agg #[.int .u8 x.status,.int .i64 x.steps,.slice xa1 x.outs.length xa2,.slice xa3 x.rels.length xa4,.slice xa5 x.brs.length xa6,.slice xa7 x.reads.length xa8],.agg #[.int .u8 y.status,.int .i64 y.steps,.slice ya1 y.outs.length ya2,.slice ya3 y.rels.length ya4,.slice ya5 y.brs.length ya6,.slice ya7 y.reads.length ya8]] w fun e w'=>e=.returned (.tuple #[.bool (sameB L level levels sens x y),.int .i64 (viewsErr L level levels x.outs y.outs)])∧Below w.heap.size w w':=by
 have hal:=((Below.refl w.heap.size w).alloc (Nat.le_refl _) (.cells #[.int .u8 x.status,.int .i64 x.steps,.slice xa1 x.outs.length xa2,.slice xa3 x.rels.length xa4,.slice xa5 x.brs.length xa6,.slice xa7 x.reads.length xa8] 52)).alloc (by simp) (.cells #[.int .u8 y.status,.int .i64 y.steps,.slice ya1 y.outs.length ya2,.slice ya3 y.rels.length ya4,.slice ya5 y.brs.length ya6,.slice ya7 y.reads.length ya8] 52)
 have hbb:=heap2_of (w:=w) (A:=.cells #[.int .u8 x.status,.int .i64 x.steps,.slice xa1 x.outs.length xa2,.slice xa3 x.rels.length xa4,.slice xa5 x.brs.length xa6,.slice xa7 x.reads.length xa8] 52 (0,0)) (B:=.cells #[.int .u8 y.status,.int .i64 y.steps,.slice ya1 y.outs.length ya2,.slice ya3 y.rels.length ya4,.slice ya5 y.brs.length ya6,.slice ya7 y.reads.length ya8] 52 (0,0)) (Below.refl _ _)
 have HX0:=hid hbb.1
 have HY0:=hid hbb.2.1
 have HB:=hid hal
 obtain⟨V,hV⟩:∃ V,sameB L level levels sens x y=V:=⟨_,rfl⟩
 obtain⟨E,hE⟩:∃ E,viewsErr L level levels x.outs y.outs=E:=⟨_,rfl⟩
 rw[hV,hE]
 have k1:=refViews L v lvs _ _ level levels x.outs y.outs _ (h.keep hal) hlv (hr.keep hal) hlen (hx.keep hal).1 (hy.keep hal).1
 rw[hE] at k1
 have HK1:=hid k1
 have HV:=hid hV
 have HE:=hid hE
 clear hal hbb k1 hV hE h hr hx hy
 go_enter Tryz.func64,Tryz.ntmps64
 go_upto_region 1 with fail
 generalize (w.alloc (.cells #[.int .u8 x.status,.int .i64 x.steps,.slice xa1 x.outs.length xa2,.slice xa3 x.rels.length xa4,.slice xa5 x.brs.length xa6,.slice xa7 x.reads.length xa8] 52)).alloc (.cells #[.int .u8 y.status,.int .i64 y.steps,.slice ya1 y.outs.length ya2,.slice ya3 y.rels.length ya4,.slice ya5 y.brs.length ya6,.slice ya7 y.reads.length ya8] 52)=W at *
 have x0:=row_of HX0.out 0 (.int .u8 x.status) rfl
 have x1:=row_of HX0.out 1 (.int .i64 x.steps) rfl
 have x2:=row_of HX0.out 2 (.slice xa1 x.outs.length xa2) rfl
 have x3:=row_of HX0.out 3 (.slice xa3 x.rels.length xa4) rfl
 have x4:=row_of HX0.out 4 (.slice xa5 x.brs.length xa6) rfl
 have x5:=row_of HX0.out 5 (.slice xa7 x.reads.length xa8) rfl
 have y0:=row_of HY0.out 0 (.int .u8 y.status) rfl
 have y1:=row_of HY0.out 1 (.int .i64 y.steps) rfl
 have y2:=row_of HY0.out 2 (.slice ya1 y.outs.length ya2) rfl
 have y3:=row_of HY0.out 3 (.slice ya3 y.rels.length ya4) rfl
 have y4:=row_of HY0.out 4 (.slice ya5 y.brs.length ya6) rfl
 have y5:=row_of HY0.out 5 (.slice ya7 y.reads.length ya8) rfl
 by_cases h0:E=0
 rotate_left
 ·have h1:(E != 0)=true:=by simpa using h0
  obtain rfl:V=false:=by rw[← HV.out,sameB,if_pos (by rw[HE.out];exact h0)]
  go_wp2_with (go_at_call 96;refine HK1.out.mono ?_;rintro e z ⟨r,s,rfl,hs,hz⟩;have BZ:=hid hz;clear hz hs x0 y0 x1 y1 x2 y2 x3 y3 x4 y4 x5 y5)
  go_ret2
  exact⟨rfl,bcomp HB.out BZ.out⟩
 subst h0
 have hb0:((0:Int) != 0)=false:=rfl
 go_upto_region 4 with (go_at_call 96;refine HK1.out.mono ?_;rintro e z ⟨r,s,rfl,hs,hz⟩;have BZ:=hid hz;obtain⟨hr1,hs1⟩:=hs rfl;have HR1:=hid hr1;have HS1:=hid hs1;have HX1:=hid ((hz.block _ (gsRLd HX0.out)).trans HX0.out);have HY1:=hid ((hz.block _ (gsRLd HY0.out)).trans HY0.out);clear hz hs hr1 hs1 x0 y0 x1 y1 x2 y2 x3 y3 x4 y4 x5 y5)
 obtain⟨P,hP⟩:∃ P,partT sens x y=P:=⟨_,rfl⟩
 have HP:=hid hP
 clear hP
 obtain⟨F,hF⟩:∃ P,fuelT x y=P:=⟨_,rfl⟩
 have HF:=hid hF
 clear hF
 have HPF:Hid (P=(!sens&&F)):=by show P=_;rw[← HP.out,partT,HF.out]
 have hfu:=refFuel x y xa1 xa2 xa3 xa4 xa5 xa6 xa7 xa8 ya1 ya2 ya3 ya4 ya5 ya6 ya7 ya8 z
 rw[HF.out] at hfu
 have HFU:=hid hfu
 have HAL:=hid (fun (z2:World) (hz:Below z.heap.size z z2)=>refAlike P r s _ _ z2 (HR1.out.keep hz) (HS1.out.keep hz))
 obtain⟨A,hA⟩:∃ A,alikeE P (evsSee L level levels x.outs) (evsSee L level levels y.outs)=A:=⟨_,rfl⟩
 have HVV:Hid (V=(A&&(P||x.status==y.status))):=by show V=_;rw[← HV.out,sameB,if_neg (by rw[HE.out];simp),HP.out,hA]
 rw[hA] at HAL
 clear hfu hA
 obtain⟨Q,hQ⟩:∃ Q,(x.status==y.status)=Q:=⟨_,rfl⟩
 rw[hQ] at HVV
 have x0:=row_of HX1.out 0 (.int .u8 x.status) rfl
 have x1:=row_of HX1.out 1 (.int .i64 x.steps) rfl
 have x2:=row_of HX1.out 2 (.slice xa1 x.outs.length xa2) rfl
 have x3:=row_of HX1.out 3 (.slice xa3 x.rels.length xa4) rfl
 have x4:=row_of HX1.out 4 (.slice xa5 x.brs.length xa6) rfl
 have x5:=row_of HX1.out 5 (.slice xa7 x.reads.length xa8) rfl
 have y0:=row_of HY1.out 0 (.int .u8 y.status) rfl
 have y1:=row_of HY1.out 1 (.int .i64 y.steps) rfl
 have y2:=row_of HY1.out 2 (.slice ya1 y.outs.length ya2) rfl
 have y3:=row_of HY1.out 3 (.slice ya3 y.rels.length ya4) rfl
 have y4:=row_of HY1.out 4 (.slice ya5 y.brs.length ya6) rfl
 have y5:=row_of HY1.out 5 (.slice ya7 y.reads.length ya8) rfl
 go_cut [17] from 33 to 40 (fun c17 wx=>c17=.bool P∧Below z.heap.size z wx)
 case first=>
  cases sens
  ·obtain rfl:P=F:=by rw[HPF.out];rfl
   go_wp2_with (go_at_call 98;refine HFU.out.mono ?_;rintro e z2 ⟨rfl,hz⟩;have BZ2:=hid hz;clear hz)
   go_meet
   exact⟨rfl,BZ2.out⟩
  ·obtain rfl:P=false:=by rw[HPF.out];rfl
   go_wp2_with fail
   go_meet
   exact⟨rfl,Below.refl _ _⟩
 case rest=>
  obtain⟨rfl,hbz⟩:=hcut
  obtain⟨z2,rfl⟩:∃ x:World,x=wc:=⟨_,rfl⟩
  have HA2:=hid (HAL.out z2 hbz)
  have HBZ:=hid (bcomp BZ.out hbz)
  have HXZ:=hid ((hbz.block _ (gsRLd HX1.out)).trans HX1.out)
  have HYZ:=hid ((hbz.block _ (gsRLd HY1.out)).trans HY1.out)
  clear hbz x0 y0 x1 y1 x2 y2 x3 y3 x4 y4 x5 y5 HX1 HY1
  have HST:=hid (fun (z3:World) (hz:Below z2.heap.size z2 z3)=>And.intro (row_of ((hz.block _ (gsRLd HXZ.out)).trans HXZ.out) 0 (.int .u8 x.status) rfl) (row_of ((hz.block _ (gsRLd HYZ.out)).trans HYZ.out) 0 (.int .u8 y.status) rfl))
  cases A
  ·obtain rfl:V=false:=by rw[HVV.out];rfl
   go_wp2_with (go_at_call 97;refine HA2.out.mono ?_;rintro e z3 ⟨rfl,hz⟩;have BZ3:=hid hz;clear hz)
   go_ret2
   exact⟨rfl,bcomp HB.out (bcomp HBZ.out BZ3.out)⟩
  ·cases P
   ·obtain rfl:V=Q:=by rw[HVV.out];rfl
    go_wp2_with (go_at_call 97;refine HA2.out.mono ?_;rintro e z3 ⟨rfl,hz⟩;have BZ3:=hid hz;obtain⟨s1,s2⟩:=HST.out z3 hz;clear hz)
    go_ret2
    exact⟨by first|rfl|(rw[← hQ]),bcomp HB.out (bcomp HBZ.out BZ3.out)⟩
   ·obtain rfl:V=true:=by rw[HVV.out];rfl
    go_wp2_with (go_at_call 97;refine HA2.out.mono ?_;rintro e z3 ⟨rfl,hz⟩;have BZ3:=hid hz;clear hz)
    go_ret2
    exact⟨rfl,bcomp HB.out (bcomp HBZ.out BZ3.out)⟩
end Go.Proofs.YtkjkpddajjmloaaGreatDoor
