/- The walk of WitnessMakes. Condition: what comes in reads as the plain data; the tables hold what they are laid with. -/
import Derived.Test.YtkjkpddajjmloaaGreatDoorWRf
set_option linter.all false
set_option maxRecDepth 1000000
set_option maxHeartbeats 6400000
namespace Go.Proofs.YtkjkpddajjmloaaGreatDoor
open Go.ChangeShapes Go.WideShapes Go.ChangeAt Go.RowKit
open Go.Lib (hid)
theorem gsWMk {α:Type} {a:Array α} {i:Nat} {v:α} (h:a[i]?=some v):i<a.size:=(Array.getElem?_eq_some_iff.1 h).1
def makeW (f:FlatD) (q:PolD) (level:Int) (A B:List (List Int)):Int × List (List Int) × List (List Int) × Bool:=
 if makeE f q level A B=0 then (level,A,B,implB (runT f A q.steps) (runT f B q.steps)) else (0,[],[],false)
def Made (D:Int × List (List Int) × List (List Int) × Bool) (E:Int) (w:World) (e:Ending) (w':World):Prop:=
 ∃ va vb,e=.returned (.tuple #[.agg #[.int .i64 D.1,va,vb,.bool D.2.2.2],.int .i64 E])∧RdLists none w' va D.2.1∧RdLists none w' vb D.2.2.1∧Below w.heap.size w w'
theorem nil_lists (w:World):RdLists none w (.slice none 0 0) []:=((OwnL.nil 0 w).rd (by decide) (by simp)).forget
theorem make_both (f:FlatD) (q:PolD) (cF cP:Array Value) (level:Int) (av bv:Value) (A B:List (List Int)) (w:World) (hF:FlatC w f cF) (hP:PolC w q cP) (hL:Laid w) (hT:BitsAt w) (hlv:InI64 level) (ha:RdLists none w av A) (hb:RdLists none w bv B) (hsA:shortP A) (hsB:shortP B) :
  Calls Tryz.prog 19 #[.agg cF,.agg cP,.int .i64 level,av,bv] w (Made (makeW f q level A B) (makeE f q level A B) w):=by
 by_cases h0:makeE f q level A B=0
 ·have hw:makeW f q level A B=(level,A,B,implB (runT f A q.steps) (runT f B q.steps)):=by unfold makeW;rw[if_pos h0]
  rw[hw,h0]
  refine (make_good f q cF cP level av bv A B w hF hP hL hT hlv ha hb (short_fits hsA) (short_fits hsB) h0).mono ?_
  rintro e w' ⟨va,vsa,vb,vsb,rfl,h1,h2,hz⟩
  exact⟨va,vb,rfl,(h1.rd (by have:=hsA.1;omega) (short_fits hsA)).forget,(h2.rd (by have:=hsB.1;omega) (short_fits hsB)).forget,hz⟩
 ·have hw:makeW f q level A B=(0,[],[],false):=by unfold makeW;rw[if_neg h0]
  rw[hw]
  refine (make_bad f q cF cP level av bv A B w hF hP hL hT hlv ha hb (short_fits hsA) (short_fits hsB) rfl h0).mono ?_
  rintro e w' ⟨rfl,hz⟩
  exact⟨_,_,rfl,nil_lists w',nil_lists w',hz⟩
theorem make_bothR (f:FlatD) (q:PolD) (cF cP:Array Value) (level:Int) (av bv:Value) (A B:List (List Int)) (w:World) (hF:FlatC w f cF) (hP:PolC w q cP) (hlv:InI64 level) (ha:RdLists none w av A) (hb:RdLists none w bv B) (hsA:shortP A) (hsB:shortP B) :
  Calls Tryz.prog 20 #[.agg cF,.agg cP,.int .i64 level,av,bv] w (Made (makeW f q level A B) (makeE f q level A B) w):=by
 refine (refMake37 f q cF cP level av bv A B w hF hP hlv ha hb (short_fits hsA) (short_fits hsB)).mono ?_
 rintro e w' ⟨c,rfl,h1,h2,hz⟩
 by_cases h0:makeE f q level A B=0
 ·have hw:makeW f q level A B=(level,A,B,implB (runT f A q.steps) (runT f B q.steps)):=by unfold makeW;rw[if_pos h0]
  obtain⟨va,vb,rfl,r1,r2⟩:=h2 h0
  rw[hw]
  exact⟨va,vb,rfl,r1,r2,hz⟩
 ·have hw:makeW f q level A B=(0,[],[],false):=by unfold makeW;rw[if_neg h0]
  obtain rfl:=h1 h0
  rw[hw]
  exact⟨_,_,rfl,nil_lists w',nil_lists w',hz⟩
theorem makes_walk (f:FlatD) (cF:Array Value) (q:PolD) (cP:Array Value) (level:Int) (av:Value) (A:List (List Int)) (bv:Value) (B:List (List Int)) (s:TraceD) (cs:Array Value) (t:TraceD) (ct:Array Value) (w:World) (hF:FlatC w f cF) (hP:PolC w q cP) (hlv:InI64 level) (ha:RdLists none w av A) (hb:RdLists none w bv B) (hS:TrcC w s cs) (hTt:TrcC w t ct) (hL:Laid w) (hT:BitsAt w) :
  Calls Tryz.prog 5 #[.agg cF,.agg cP,.int .i64 level,av,bv,.agg cs,.agg ct] w fun e w'=>e=.returned (.bool true)∧Below w.heap.size w w':=by
 obtain⟨aa,ac,rfl⟩:=ha.is
 obtain⟨ba,bc,rfl⟩:=hb.is
 have hS0:=hS
 have hT0:=hTt
 obtain⟨x1,x2,x3,x4,rfl,hs⟩:=hS
 obtain⟨y1,y2,y3,y4,rfl,ht⟩:=hTt
 obtain⟨sa1,sa2,rfl⟩:=hs.1.is
 obtain⟨sa3,sa4,rfl⟩:=hs.2.1.is
 obtain⟨sa5,sa6,rfl⟩:=hs.2.2.1.is
 obtain⟨sa7,sa8,rfl⟩:=hs.2.2.2.1.is
 obtain⟨ta1,ta2,rfl⟩:=ht.1.is
 obtain⟨ta3,ta4,rfl⟩:=ht.2.1.is
 obtain⟨ta5,ta6,rfl⟩:=ht.2.2.1.is
 obtain⟨ta7,ta8,rfl⟩:=ht.2.2.2.1.is
 clear hs ht
 have HFI:=hid hF.info
 have HPI:=hid hP.info
 have HF:=hid hF
 have HP:=hid hP
 have HA:=hid ha
 have HBB:=hid hb
 have HS:=hid hS0
 have HTT:=hid hT0
 have HL:=hid hL
 have HT:=hid hT
 have HLV:=hid hlv
 clear hF hP ha hb hL hT hlv hS0 hT0
 obtain⟨g0,g1,g2,g3,hal⟩:=heap4_of w (.cells cF 26 (0,0)) (.cells cP 30 (0,0)) (.cells #[.int .u8 s.status,.int .i64 s.steps,.slice sa1 s.outs.length sa2,.slice sa3 s.rels.length sa4,.slice sa5 s.brs.length sa6,.slice sa7 s.reads.length sa8] 52 (0,0)) (.cells #[.int .u8 t.status,.int .i64 t.steps,.slice ta1 t.outs.length ta2,.slice ta3 t.rels.length ta4,.slice ta5 t.brs.length ta6,.slice ta7 t.reads.length ta8] 52 (0,0))
 have B0:=hid hal
 have HG0:=hid g0
 have HG1:=hid g1
 have HG2:=hid g2
 have HG3:=hid g3
 clear hal g0 g1 g2 g3
 go_enter Tryz.func5,Tryz.ntmps5
 go_upto_region 1 with fail
 generalize (((w.alloc (.cells cF 26)).alloc (.cells cP 30)).alloc (.cells #[.int .u8 s.status,.int .i64 s.steps,.slice sa1 s.outs.length sa2,.slice sa3 s.rels.length sa4,.slice sa5 s.brs.length sa6,.slice sa7 s.reads.length sa8] 52)).alloc (.cells #[.int .u8 t.status,.int .i64 t.steps,.slice ta1 t.outs.length ta2,.slice ta3 t.rels.length ta4,.slice ta5 t.brs.length ta6,.slice ta7 t.reads.length ta8] 52)=W at *
 have hsz:w.heap.size+1+1+1<W.heap.size:=(gsWMk HG3.out)
 have hal2:=(Below.refl W.heap.size W).alloc (Nat.le_refl _) (.cells #[.slice aa A.length ac,.slice ba B.length bc] 35)
 have hb2:=bcomp B0.out hal2
 have HFN:=hid (fine7_any f q cF cP _ [A,B] _ (HF.out.keep hb2) (HP.out.keep hb2) (runs_two (heap_alloc_new W (.cells #[.slice aa A.length ac,.slice ba B.length bc] 35)) (HA.out.keep hb2) (HBB.out.keep hb2)) (by simp))
 have BX:=hid hal2
 have HAW:=hid (fun (z:World) (hz:Below W.heap.size W z)=>awake7_any z (HL.out.keep (bcomp B0.out hz)) (HT.out.keep (bcomp B0.out hz)))
 clear hal2 hb2
 by_cases hfi:fine7 f q [A,B]=true
 case neg=>
  rw[Bool.eq_false_iff.2 hfi] at HFN
  go_wp2_with (first|(refine wpList_load_row rfl 26 (.tmp 7) rfl w.heap.size rfl 26 cF (0,0) _ ?l1 Tryz.underlying26 rfl ?i1 ?_;exact HG0.out;exact HFI.out)|(refine wpList_load_row rfl 30 (.tmp 8) rfl (w.heap.size+1) rfl 30 cP (0,0) _ ?l2 Tryz.underlying30 rfl ?i2 ?_;exact HG1.out;exact HPI.out)|(go_at_call 13;refine HFN.out.mono ?_;rintro e z1 ⟨rfl,hz⟩;have B1:=hid (bcomp BX.out hz);have s4:=row_of ((B1.out.block _ (by omega)).trans HG2.out) 4 (.slice sa5 s.brs.length sa6) rfl;have t4:=row_of ((B1.out.block _ hsz).trans HG3.out) 4 (.slice ta5 t.brs.length ta6) rfl;clear hz)|(go_at_call 14;refine (HAW.out _ B1.out).mono ?_;rintro e x9 ⟨rfl,hz⟩;have B9:=hid (bcomp B0.out (bcomp B1.out hz));clear hz))
  go_ret
  exact⟨rfl,B9.out⟩
 rw[hfi] at HFN
 have HSA:=hid (fine7_short hfi (A:=A) (by simp))
 have HSB:=hid (fine7_short hfi (A:=B) (by simp))
 clear hfi
 by_cases r1:(40:Int)<s.brs.length
 ·go_wp2_with (first|(refine wpList_load_row rfl 26 (.tmp 7) rfl w.heap.size rfl 26 cF (0,0) _ ?l3 Tryz.underlying26 rfl ?i3 ?_;exact HG0.out;exact HFI.out)|(refine wpList_load_row rfl 30 (.tmp 8) rfl (w.heap.size+1) rfl 30 cP (0,0) _ ?l4 Tryz.underlying30 rfl ?i4 ?_;exact HG1.out;exact HPI.out)|(go_at_call 13;refine HFN.out.mono ?_;rintro e z1 ⟨rfl,hz⟩;have B1:=hid (bcomp BX.out hz);have s4:=row_of ((B1.out.block _ (by omega)).trans HG2.out) 4 (.slice sa5 s.brs.length sa6) rfl;have t4:=row_of ((B1.out.block _ hsz).trans HG3.out) 4 (.slice ta5 t.brs.length ta6) rfl;clear hz)|(go_at_call 14;refine (HAW.out _ B1.out).mono ?_;rintro e x9 ⟨rfl,hz⟩;have B9:=hid (bcomp B0.out (bcomp B1.out hz));clear hz))
  go_ret
  exact⟨rfl,B9.out⟩
 by_cases r2:(40:Int)<t.brs.length
 ·go_wp2_with (first|(refine wpList_load_row rfl 26 (.tmp 7) rfl w.heap.size rfl 26 cF (0,0) _ ?l5 Tryz.underlying26 rfl ?i5 ?_;exact HG0.out;exact HFI.out)|(refine wpList_load_row rfl 30 (.tmp 8) rfl (w.heap.size+1) rfl 30 cP (0,0) _ ?l6 Tryz.underlying30 rfl ?i6 ?_;exact HG1.out;exact HPI.out)|(go_at_call 13;refine HFN.out.mono ?_;rintro e z1 ⟨rfl,hz⟩;have B1:=hid (bcomp BX.out hz);have s4:=row_of ((B1.out.block _ (by omega)).trans HG2.out) 4 (.slice sa5 s.brs.length sa6) rfl;have t4:=row_of ((B1.out.block _ hsz).trans HG3.out) 4 (.slice ta5 t.brs.length ta6) rfl;clear hz)|(go_at_call 14;refine (HAW.out _ B1.out).mono ?_;rintro e x9 ⟨rfl,hz⟩;have B9:=hid (bcomp B0.out (bcomp B1.out hz));clear hz))
  go_ret
  exact⟨rfl,B9.out⟩
 go_upto_region 3 with (first|(refine wpList_load_row rfl 26 (.tmp 7) rfl w.heap.size rfl 26 cF (0,0) _ ?l7 Tryz.underlying26 rfl ?i7 ?_;exact HG0.out;exact HFI.out)|(refine wpList_load_row rfl 30 (.tmp 8) rfl (w.heap.size+1) rfl 30 cP (0,0) _ ?l8 Tryz.underlying30 rfl ?i8 ?_;exact HG1.out;exact HPI.out)|(go_at_call 13;refine HFN.out.mono ?_;rintro e z1 ⟨rfl,hz⟩;have B1:=hid (bcomp BX.out hz);have s4:=row_of ((B1.out.block _ (by omega)).trans HG2.out) 4 (.slice sa5 s.brs.length sa6) rfl;have t4:=row_of ((B1.out.block _ hsz).trans HG3.out) 4 (.slice ta5 t.brs.length ta6) rfl;clear hz))
 clear s4 t4 r1 r2 HFN BX
 have HGF:=hid ((B1.out.block _ (by omega)).trans HG0.out)
 have HGP:=hid ((B1.out.block _ (by omega)).trans HG1.out)
 obtain⟨⟨lv',A',B',i'⟩,hD⟩:∃ D,makeW f q level A B=D:=⟨_,rfl⟩
 obtain⟨E,hE⟩:∃ E,makeE f q level A B=E:=⟨_,rfl⟩
 have HM1:Hid (∀ z:World,Below W.heap.size W z→Calls Tryz.prog 19 #[.agg cF,.agg cP,.int .i64 level,.slice aa A.length ac,.slice ba B.length bc] z fun e w'=>∃ va vb,e=.returned (.tuple #[.agg #[.int .i64 lv',va,vb,.bool i'],.int .i64 E])∧RdLists none w' va A'∧RdLists none w' vb B'∧Below z.heap.size z w'):=by
  intro z hz
  have h:=make_both f q cF cP level _ _ A B z (HF.out.keep (bcomp B0.out hz)) (HP.out.keep (bcomp B0.out hz)) (HL.out.keep (bcomp B0.out hz)) (HT.out.keep (bcomp B0.out hz)) HLV.out (HA.out.keep (bcomp B0.out hz)) (HBB.out.keep (bcomp B0.out hz)) HSA.out HSB.out
  rw[hD,hE] at h
  exact h
 have HM2:Hid (∀ z:World,Below W.heap.size W z→Calls Tryz.prog 20 #[.agg cF,.agg cP,.int .i64 level,.slice aa A.length ac,.slice ba B.length bc] z fun e w'=>∃ va vb,e=.returned (.tuple #[.agg #[.int .i64 lv',va,vb,.bool i'],.int .i64 E])∧RdLists none w' va A'∧RdLists none w' vb B'∧Below z.heap.size z w'):=by
  intro z hz
  have h:=make_bothR f q cF cP level _ _ A B z (HF.out.keep (bcomp B0.out hz)) (HP.out.keep (bcomp B0.out hz)) HLV.out (HA.out.keep (bcomp B0.out hz)) (HBB.out.keep (bcomp B0.out hz)) HSA.out HSB.out
  rw[hD,hE] at h
  exact h
 clear hD hE
 go_upto_region 4 with (first|(refine wpList_load_row rfl 26 (.tmp 7) rfl w.heap.size rfl 26 cF (0,0) _ ?l9 Tryz.underlying26 rfl ?i9 ?_;exact HGF.out;exact HFI.out)|(refine wpList_load_row rfl 30 (.tmp 8) rfl (w.heap.size+1) rfl 30 cP (0,0) _ ?l10 Tryz.underlying30 rfl ?i10 ?_;exact HGP.out;exact HPI.out)|(go_at_call 19;refine (HM1.out _ B1.out).mono ?_;rintro e z2 ⟨v1,v2,rfl,hra,hrb,hz⟩;obtain⟨xa,xc,rfl⟩:=hra.is;obtain⟨ya,yc,rfl⟩:=hrb.is;have HXA:=hid hra;have HXB:=hid hrb;have B2:=hid hz;have HZN:=hid (heap_alloc_new z2 (.cells #[.int .i64 0,.slice none 0 0,.slice none 0 0,.bool false] 43));clear hz hra hrb)|(refine wpList_store_row rfl 43 (.tmp 15) (.tmp 46) rfl z2.heap.size #[.int .i64 lv',.slice xa A'.length xc,.slice ya B'.length yc,.bool i'] rfl rfl 43 #[.int .i64 0,.slice none 0 0,.slice none 0 0,.bool false] ?hs1 (by as_aux_lemma=>kernel_rfl) (by as_aux_lemma=>kernel_rfl) (by as_aux_lemma=>kernel_rfl) ?_;exact HZN.out))
 have hbn:Below z2.heap.size z2 ((z2.alloc (.cells #[.int .i64 0,.slice none 0 0,.slice none 0 0,.bool false] 43)).setRow z2.heap.size #[.int .i64 lv',.slice xa A'.length xc,.slice ya B'.length yc,.bool i']):=below_row ((Below.refl z2.heap.size z2).alloc (Nat.le_refl _) (.cells #[.int .i64 0,.slice none 0 0,.slice none 0 0,.bool false] 43)) (Nat.le_refl _) #[.int .i64 lv',.slice xa A'.length xc,.slice ya B'.length yc,.bool i']
 have HGX:Hid (((z2.alloc (.cells #[.int .i64 0,.slice none 0 0,.slice none 0 0,.bool false] 43)).setRow z2.heap.size #[.int .i64 lv',.slice xa A'.length xc,.slice ya B'.length yc,.bool i']).heap[z2.heap.size]?=some (.cells #[.int .i64 lv',.slice xa A'.length xc,.slice ya B'.length yc,.bool i'] 43 (0,0))):=setRow_heap _ _ _ _ _ _ HZN.out
 have B12:=hid (bcomp B1.out (bcomp B2.out hbn))
 have HXA2:=hid (HXA.out.keep hbn)
 have HXB2:=hid (HXB.out.keep hbn)
 try simp only[Act.put]
 clear hbn HZN HXA HXB B2 HGF HGP HM1
 generalize (z2.alloc (.cells #[.int .i64 0,.slice none 0 0,.slice none 0 0,.bool false] 43)).setRow z2.heap.size #[.int .i64 lv',.slice xa A'.length xc,.slice ya B'.length yc,.bool i']=W3 at *
 generalize z2.heap.size=gx at *
 have HGF3:=hid ((B12.out.block _ (by omega)).trans HG0.out)
 have HGP3:=hid ((B12.out.block _ (by omega)).trans HG1.out)
 go_upto_region 5 with (first|(refine wpList_load_row rfl 26 (.tmp 7) rfl w.heap.size rfl 26 cF (0,0) _ ?l11 Tryz.underlying26 rfl ?i11 ?_;exact HGF3.out;exact HFI.out)|(refine wpList_load_row rfl 30 (.tmp 8) rfl (w.heap.size+1) rfl 30 cP (0,0) _ ?l12 Tryz.underlying30 rfl ?i12 ?_;exact HGP3.out;exact HPI.out)|(go_at_call 20;refine (HM2.out _ B12.out).mono ?_;rintro e z4 ⟨v1,v2,rfl,hra,hrb,hz⟩;obtain⟨ua,uc,rfl⟩:=hra.is;obtain⟨va,vc,rfl⟩:=hrb.is;have HYA:=hid hra;have HYB:=hid hrb;have B4:=hid hz;have HZN:=hid (heap_alloc_new z4 (.cells #[.int .i64 0,.slice none 0 0,.slice none 0 0,.bool false] 43));clear hz hra hrb)|(refine wpList_store_row rfl 43 (.tmp 17) (.tmp 55) rfl z4.heap.size #[.int .i64 lv',.slice ua A'.length uc,.slice va B'.length vc,.bool i'] rfl rfl 43 #[.int .i64 0,.slice none 0 0,.slice none 0 0,.bool false] ?hs2 (by as_aux_lemma=>kernel_rfl) (by as_aux_lemma=>kernel_rfl) (by as_aux_lemma=>kernel_rfl) ?_;exact HZN.out))
 have hbn:Below z4.heap.size z4 ((z4.alloc (.cells #[.int .i64 0,.slice none 0 0,.slice none 0 0,.bool false] 43)).setRow z4.heap.size #[.int .i64 lv',.slice ua A'.length uc,.slice va B'.length vc,.bool i']):=below_row ((Below.refl z4.heap.size z4).alloc (Nat.le_refl _) (.cells #[.int .i64 0,.slice none 0 0,.slice none 0 0,.bool false] 43)) (Nat.le_refl _) #[.int .i64 lv',.slice ua A'.length uc,.slice va B'.length vc,.bool i']
 have HGY:Hid (((z4.alloc (.cells #[.int .i64 0,.slice none 0 0,.slice none 0 0,.bool false] 43)).setRow z4.heap.size #[.int .i64 lv',.slice ua A'.length uc,.slice va B'.length vc,.bool i']).heap[z4.heap.size]?=some (.cells #[.int .i64 lv',.slice ua A'.length uc,.slice va B'.length vc,.bool i'] 43 (0,0))):=setRow_heap _ _ _ _ _ _ HZN.out
 have B34:=hid (bcomp B4.out hbn)
 have HYA2:=hid (HYA.out.keep hbn)
 have HYB2:=hid (HYB.out.keep hbn)
 try simp only[Act.put]
 clear hbn HZN HYA HYB B4 HGF3 HGP3 HM2
 generalize (z4.alloc (.cells #[.int .i64 0,.slice none 0 0,.slice none 0 0,.bool false] 43)).setRow z4.heap.size #[.int .i64 lv',.slice ua A'.length uc,.slice va B'.length vc,.bool i']=W5 at *
 generalize z4.heap.size=gy at *
 have B14:=hid (bcomp B12.out B34.out)
 have B04:=hid (bcomp B0.out B14.out)
 have HX5:=hid ((B34.out.block _ (gsWMk HGX.out)).trans HGX.out)
 have HS5:=hid ((B14.out.block _ (by omega)).trans HG2.out)
 have HT5:=hid ((B14.out.block _ hsz).trans HG3.out)
 have HXA5:=hid (HXA2.out.keep B34.out)
 have HXB5:=hid (HXB2.out.keep B34.out)
 have x0:=ext_cell (row_of HX5.out 0 (.int .i64 lv') rfl)
 have x1:=ext_cell (row_of HX5.out 1 (.slice xa A'.length xc) rfl)
 have x2:=ext_cell (row_of HX5.out 2 (.slice ya B'.length yc) rfl)
 have x3:=ext_cell (row_of HX5.out 3 (.bool i') rfl)
 have y0:=ext_cell (row_of HGY.out 0 (.int .i64 lv') rfl)
 have y1:=ext_cell (row_of HGY.out 1 (.slice ua A'.length uc) rfl)
 have y2:=ext_cell (row_of HGY.out 2 (.slice va B'.length vc) rfl)
 have y3:=ext_cell (row_of HGY.out 3 (.bool i') rfl)
 have u0:=ext_cell (row_of HS5.out 0 (.int .u8 s.status) rfl)
 have u1:=ext_cell (row_of HS5.out 1 (.int .i64 s.steps) rfl)
 have u2:=ext_cell (row_of HS5.out 2 (.slice sa1 s.outs.length sa2) rfl)
 have u3:=ext_cell (row_of HS5.out 3 (.slice sa3 s.rels.length sa4) rfl)
 have u4:=ext_cell (row_of HS5.out 4 (.slice sa5 s.brs.length sa6) rfl)
 have u5:=ext_cell (row_of HS5.out 5 (.slice sa7 s.reads.length sa8) rfl)
 have v0:=ext_cell (row_of HT5.out 0 (.int .u8 t.status) rfl)
 have v1:=ext_cell (row_of HT5.out 1 (.int .i64 t.steps) rfl)
 have v2:=ext_cell (row_of HT5.out 2 (.slice ta1 t.outs.length ta2) rfl)
 have v3:=ext_cell (row_of HT5.out 3 (.slice ta3 t.rels.length ta4) rfl)
 have v4:=ext_cell (row_of HT5.out 4 (.slice ta5 t.brs.length ta6) rfl)
 have v5:=ext_cell (row_of HT5.out 5 (.slice ta7 t.reads.length ta8) rfl)
 have HK1:=hid (fun (x:World)=>witSelf lv' A' B' i' #[.int .i64 lv',.slice xa A'.length xc,.slice ya B'.length yc,.bool i'] #[.int .i64 lv',.slice ua A'.length uc,.slice va B'.length vc,.bool i'] (ext W5 x) ⟨_,_,rfl,HXA5.out.keep (ext_below W5 x),HXB5.out.keep (ext_below W5 x)⟩ ⟨_,_,rfl,HYA2.out.keep (ext_below W5 x),HYB2.out.keep (ext_below W5 x)⟩)
 have HK2:=(fun (x:World)=>implicit_any s t #[.int .u8 s.status,.int .i64 s.steps,.slice sa1 s.outs.length sa2,.slice sa3 s.rels.length sa4,.slice sa5 s.brs.length sa6,.slice sa7 s.reads.length sa8] #[.int .u8 t.status,.int .i64 t.steps,.slice ta1 t.outs.length ta2,.slice ta3 t.rels.length ta4,.slice ta5 t.brs.length ta6,.slice ta7 t.reads.length ta8] (ext W5 x) (HS.out.keep (bcomp B04.out (ext_below W5 x))) (HTT.out.keep (bcomp B04.out (ext_below W5 x))))
 have HK3:=(fun (x:World)=>refImplicit s t #[.int .u8 s.status,.int .i64 s.steps,.slice sa1 s.outs.length sa2,.slice sa3 s.rels.length sa4,.slice sa5 s.brs.length sa6,.slice sa7 s.reads.length sa8] #[.int .u8 t.status,.int .i64 t.steps,.slice ta1 t.outs.length ta2,.slice ta3 t.rels.length ta4,.slice ta5 t.brs.length ta6,.slice ta7 t.reads.length ta8] (ext W5 x) (HS.out.keep (bcomp B04.out (ext_below W5 x))) (HTT.out.keep (bcomp B04.out (ext_below W5 x))))
 obtain⟨I,hI⟩:∃ I,implB s t=I:=⟨_,rfl⟩
 rw[hI] at HK2 HK3
 have HK2:=hid HK2
 have HK3:=hid HK3
 have HK4:=hid (fun (x:World)=>awake7_any (ext W5 x) (HL.out.keep (bcomp B04.out (ext_below W5 x))) (HT.out.keep (bcomp B04.out (ext_below W5 x))))
 clear hI HF HP HA HBB HL HT HLV HSA HSB HAW HXA2 HXB2 HXA5 HXB5 HYA2 HYB2 HG0 HG1 HG2 HG3 HX5 HS5 HT5 HGY HGX HS HTT
 have hee:(E==E)=true:=by simp
 have hii:(I==I)=true:=by simp
 (refine wp_region_calm (by kernel_rfl) (by kernel_rfl) ?_;(repeat (go_big_quiet_step ((first|(go_at_call 18;with_reducible exact calls_calm (HK1.out _))|(go_at_call 21;with_reducible exact calls_calm (HK2.out _))|(go_at_call 22;with_reducible exact calls_calm (HK3.out _))|(go_at_call 14;with_reducible exact calls_calm (HK4.out _))))));refine wpQuiet_nil ?_;intro wc hwc)
 go_wp2_with fail
 go_ret
 exact⟨rfl,bcomp B04.out hwc⟩
end Go.Proofs.YtkjkpddajjmloaaGreatDoor
