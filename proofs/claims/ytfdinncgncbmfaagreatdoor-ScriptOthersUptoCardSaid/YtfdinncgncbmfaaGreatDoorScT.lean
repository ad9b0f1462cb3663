/- Contract of script.Policy where the program is well formed (under way). Conditions: the program reads as one; prog.Check finds no fault. -/
import Derived.Test.YtfdinncgncbmfaaGreatDoorScZ
import Derived.Test.YtfdinncgncbmfaaGreatDoorScG
import Derived.Test.YtfdinncgncbmfaaGreatDoorScQ
set_option linter.all false
set_option maxRecDepth 1000000
set_option maxHeartbeats 12800000
set_option linter.unusedVariables false
set_option linter.unusedSimpArgs false
namespace Go.Proofs.YtfdinncgncbmfaaGreatDoor
open Go.ChangeShapes Go.WideShapes Go.ChangeAt Go.RowKit
theorem policy_good (l:List UInt8) (p:ProgD) (cv av fv mv:Value) (w:World) (h:RdProg none w p cv av fv mv) (hl:(allCode p).length≤100000000) (hcl:p.chans.length≤100000000)
  (hck:∀ z,Below w.heap.size w z→Calls Tryz.prog 20 #[progV p cv av fv mv] z fun e w'=>e=.returned (.tuple #[.agg #[.int .i64 0,.int .i64 0],.int .i64 0])∧Below z.heap.size z w') :
  Calls Tryz.prog 8 #[.string ⟨l.toArray⟩,progV p cv av fv mv] w fun e w'=>∃ lv ov cu su,e=.returned (polZV (polS p.chans (sitesAll p) l).1 lv ov cu su)∧RdPolZ w' (polS p.chans (sitesAll p) l).1 lv ov cu su∧Below w.heap.size w w':=by
 obtain ⟨hrc,hra,hrf,hrm,hrw⟩:=id h
 obtain ⟨ac,kc,rfl,-,-⟩:=id hrc
 obtain ⟨aa,ka,rfl,-,-⟩:=id hra
 obtain ⟨af,kf,rfl,-,-⟩:=id hrf
 obtain ⟨am,km,rfl,-,-⟩:=id hrm
 have H:=Lib.hid h
 have HCK:=Lib.hid hck
 have HCL:=Lib.hid hcl
 have HLN:=Lib.hid hl
 have k1:=(Below.refl w.heap.size w).alloc (Nat.le_refl _) (.cells #[.int .i64 p.width,.slice ac p.chans.length kc,.slice aa p.arrays.length ka,.slice af p.funcs.length kf,.slice am p.main.length km] 28)
 have k2:=k1.alloc (by simp) (.cells #[.slice none 0 0,.slice none 0 0,.slice none 0 0,.slice none 0 0,.bool false,.int .i64 0,.int .i64 0,.int .i64 0,.int .i64 0] 34)
 have g2:=heap2_of (w:=w) (A:=.cells #[.int .i64 p.width,.slice ac p.chans.length kc,.slice aa p.arrays.length ka,.slice af p.funcs.length kf,.slice am p.main.length km] 28 (0,0)) (B:=.cells #[.slice none 0 0,.slice none 0 0,.slice none 0 0,.slice none 0 0,.bool false,.int .i64 0,.int .i64 0,.int .i64 0,.int .i64 0] 34 (0,0)) (Below.refl _ _)
 have HB2:=Lib.hid k2
 have HP2:=Lib.hid g2.1
 have HR2:=Lib.hid g2.2.1
 clear h hrc hra hrf hrm hrw k1 k2 g2 hck hl hcl
 go_enter Tryz.func8,Tryz.ntmps8
 go_upto_region 1 with fail
 generalize (w.alloc (.cells #[.int .i64 p.width,.slice ac p.chans.length kc,.slice aa p.arrays.length ka,.slice af p.funcs.length kf,.slice am p.main.length km] 28)).alloc (.cells #[.slice none 0 0,.slice none 0 0,.slice none 0 0,.slice none 0 0,.bool false,.int .i64 0,.int .i64 0,.int .i64 0,.int .i64 0] 34)=W at *
 obtain ⟨r,hr⟩:∃ r,w.heap.size=r:=⟨_,rfl⟩
 rw [hr] at HP2 HR2
 try rw [hr]
 have HRR:=Lib.hid hr
 clear hr
 have HC1:=Lib.hid (HCK.out W HB2.out)
 have p0:=row_of HP2.out 0 _ rfl
 have p1:=row_of HP2.out 1 _ rfl
 have p2:=row_of HP2.out 2 _ rfl
 have p3:=row_of HP2.out 3 _ rfl
 have p4:=row_of HP2.out 4 _ rfl
 go_upto_region 4 with (go_at_call 20;refine HC1.out.mono ?_;rintro e z ⟨rfl,hz⟩;have HBZ:=Lib.hid hz;clear hz)
 clear p0 p1 p2 p3 p4 HC1
 have j0:=(Below.refl z.heap.size z).alloc (Nat.le_refl _) (.cells #[.int .i64 0,.int .i64 0] 42)
 have HB3:=Lib.hid (bcomp HBZ.out j0)
 clear j0 HBZ
 go_upto_region 6 with fail
 have e3:(z.alloc (.cells #[.int .i64 0,.int .i64 0] 42)).heap.size=z.heap.size+1:=by simp
 obtain ⟨sb,hsb⟩:∃ x,z.heap.size+1=x:=⟨_,rfl⟩
 rw [hsb] at e3
 rw [hsb]
 clear hsb
 generalize z.alloc (.cells #[.int .i64 0,.int .i64 0] 42)=w3 at *
 have j1:=(Below.refl w3.heap.size w3).alloc (Nat.le_refl _) (.cells #[.string ⟨l.toArray⟩] 72)
 have j2:=j1.alloc (by simp) (.cells #[.slice none 0 0,.slice none 0 0,.slice none 0 0,.slice none 0 0,.bool false,.int .i64 0,.int .i64 0,.int .i64 0,.int .i64 0] 34)
 have g2:=heap2_of (w:=w3) (A:=.cells #[.string ⟨l.toArray⟩] 72 (0,0)) (B:=.cells #[.slice none 0 0,.slice none 0 0,.slice none 0 0,.slice none 0 0,.bool false,.int .i64 0,.int .i64 0,.int .i64 0,.int .i64 0] 34 (0,0)) (Below.refl _ _)
 have HB4:=Lib.hid (bcomp HB3.out j2)
 have HS4:Hid (SrcAt ((w3.alloc (.cells #[.string ⟨l.toArray⟩] 72)).alloc (.cells #[.slice none 0 0,.slice none 0 0,.slice none 0 0,.slice none 0 0,.bool false,.int .i64 0,.int .i64 0,.int .i64 0,.int .i64 0] 34)) w3.heap.size l):=g2.1
 have HQ4:=Lib.hid g2.2.1
 clear j1 j2 g2
 generalize (w3.alloc (.cells #[.string ⟨l.toArray⟩] 72)).alloc (.cells #[.slice none 0 0,.slice none 0 0,.slice none 0 0,.slice none 0 0,.bool false,.int .i64 0,.int .i64 0,.int .i64 0,.int .i64 0] 34)=w4 at *
 have hr3:r+1<w3.heap.size:=by have:=HB3.out.size;have:=(Array.getElem?_eq_some_iff.1 HR2.out).1;omega
 rw [e3] at HS4 HQ4 hr3
 clear e3
 obtain ⟨k,hv⟩:∃ x,(takeS 4 l).1=x:=⟨_,rfl⟩
 obtain ⟨l1,hl1⟩:∃ x,(takeS 4 l).2=x:=⟨_,rfl⟩
 have hk4:k<4:=by rw [← hv];exact take_small 4 l (by omega)
 have ht:=take_any sb l 4 w4 HS4.out (by omega) (by omega)
 rw [hv,hl1] at ht
 have HT:=Lib.hid ht
 have HX1:Hid (takeS 4 l=(k,l1)):=(by show _=_;rw [← hv,← hl1])
 clear ht hv hl1
 go_upto_region 8 with (go_at_call 21;refine HT.out.mono ?_;rintro e w5 ⟨rfl,hs1,ht1⟩;have HS5:=Lib.hid hs1;have HT5:=Lib.hid ht1;clear hs1 ht1)
 clear HT HS4
 have HQ5:=Lib.hid (HT5.out.heap HQ4.out (by omega))
 have HL0:=Lib.hid (QL.start HQ5.out HS5.out (by omega) 9 1)
 obtain ⟨iS,hiS,hzS0,hzS1,hzS2⟩:=info_parts infoStrY
 go_loopw [10,31] (fun _ v wr=>∃ (i:Nat) (lv:Value),i≤k+1∧v=.int .i64 i∧QL w5 (sb+1) sb wr #[lv,.slice none 0 0,.slice none 0 0,.slice none 0 0,.bool false,.int .i64 0,.int .i64 0,.int .i64 0,.int .i64 0] 9 1 lv i (((List.range i).map (nmS 108)).flatMap strCells) l1) (fun _ v _=>k+1 - (intOf v).toNat)
 case atStart=>exact ⟨0,_,Nat.zero_le _,rfl,HL0.out⟩
 case round=>
  obtain ⟨i,lv,hi,rfl,hq⟩:=hrel
  obtain ⟨w6,rfl⟩:∃ x:World,x=wr:=⟨_,rfl⟩
  have HL:=Lib.hid hq
  clear hq
  by_cases hlt:i<k+1
  ·have hlt1:(i:Int)<(k:Int)+1:=by omega
   go_upto_region 10 with fail
   have q1:=keepS_cell (S:=[sb+1]) (by simp) (row_of HL.out.box 0 lv rfl)
   refine wp_region_mixS [sb+1] (.one [0,1,2] 3 (.one [] 4 (.one [] 5 (.one [] 6 (tailOf [7,8]))))) (fun j=>decide (7≤j)) (by kernel_rfl) (by kernel_rfl) rfl (by kernel_rfl) (fun _ d _ _ _ h=>by cases d <;> exact h) ?_
   have HBd:Hid (Below w6.heap.size w6 w6.drew):=(Below.refl _ _).drew
   generalize w6.drew=y0 at *
   have hpx:=(Array.getElem?_eq_some_iff.1 HL.out.box).1
   have ONE:Hid (∀ z:World,z.heap[sb+1]?=w6.heap[sb+1]?→∀ b ∈ [sb+1],z.heap[b]?=w6.heap[b]?):=fun z hz b hb=>by
    simp only [List.mem_cons,List.not_mem_nil,or_false] at hb
    subst hb
    exact hz
   have HKn:=Lib.hid (ONE.out y0 (HBd.out.block _ hpx))
   refine mix_one (by simp only [opsOf,List.filterMap_cons,List.filterMap_nil,List.getElem?_toArray,List.getElem?_cons_succ,List.getElem?_cons_zero];rfl) ⟨_,keepS_of HKn.out⟩ ?_
   change wpQuiet _ _ _ _ [_,_,_] _
   (repeat (go_big_quiet_step (fail)))
   clear q1
   refine wpQuiet_nil ?_
   refine mix_step rfl ?_
   go_wp2_with fail
   obtain ⟨ns,hns⟩:∃ y,nmS 108 i=y:=⟨_,rfl⟩
   have hal:=(Below.refl y0.heap.size y0).alloc (Nat.le_refl _) (.cells #[.int .i64 (i:Nat)] 3)
   have hN:=name_any 108 i (by omega) y0.heap.size _ (heap_alloc_new y0 (.cells #[.int .i64 (i:Nat)] 3))
   rw [hns] at hN
   have HN:=Lib.hid hN
   have HB1:=Lib.hid (bcomp HBd.out hal)
   have HK1:=Lib.hid (ONE.out (y0.alloc (.cells #[.int .i64 (i:Nat)] 3)) (HB1.out.block _ hpx))
   have HNS:=Lib.hid hns
   clear hal hN hns
   (first|refine ⟨fun _=>⟨_,keepS_of HK1.out⟩,?_⟩|refine ⟨⟨_,keepS_of HK1.out⟩,?_⟩)
   refine mix_now ?_
   refine mix_step rfl ?_
   go_wp2_with (go_at_call 22;refine HN.out.mono ?_;rintro e z ⟨rfl,rfl⟩)
   (first|refine ⟨fun _=>⟨_,keepS_of HK1.out⟩,?_⟩|refine ⟨⟨_,keepS_of HK1.out⟩,?_⟩)
   generalize y0.alloc (.cells #[.int .i64 (i:Nat)] 3)=y1 at *
   refine mix_now ?_
   refine mix_step rfl ?_
   go_wp2_with fail
   have hal:=(Below.refl y1.heap.size y1).alloc (Nat.le_refl _) (.cells #[.string ns] 9)
   have hnw:=heap_alloc_new y1 (.cells #[.string ns] 9)
   have HB2:=Lib.hid (bcomp HB1.out hal)
   have HK2:=Lib.hid (ONE.out (y1.alloc (.cells #[.string ns] 9)) (HB2.out.block _ hpx))
   obtain ⟨g2,hg2⟩:∃ x,y1.heap.size=x:=⟨_,rfl⟩
   rw [hg2] at hnw
   try rw [hg2]
   have HF2:=Lib.hid hnw
   clear hal hnw hg2
   generalize y1.alloc (.cells #[.string ns] 9)=y2 at *
   (first|refine ⟨fun _=>⟨_,keepS_of HK2.out⟩,?_⟩|refine ⟨⟨_,keepS_of HK2.out⟩,?_⟩)
   have HL5:=Lib.hid (HL.out.later HB2.out)
   have hfy2:w5.heap.size≤y2.heap.size:=HL5.out.tr.size
   refine mix_now ?_
   refine mix_step rfl ?_
   try (simp only [Act.put,List.setIfInBounds_toArray,List.set_cons_succ,List.set_cons_zero,List.getElem_toArray,List.getElem_cons_succ,List.getElem_cons_zero])
   refine wpList_append_own_at _ rfl (.tmp 35) (.tmp 39) 23 rfl w5.heap.size 9 iS (.string ⟨#[]⟩) 1 16 Tryz.underlying23 hiS hzS0 hzS1 hzS2 rfl (by decide) _ _ _ rfl HL5.out.own ⟨g2,0,none⟩ 1 1 [.string ns] rfl rfl ?qa1 ?qb1 ?qc1 ?qd1 hfy2 ?_
   case qa1=>
    intro j u hu
    match j,hu with
    | 0,hu=>simp only [List.getElem?_cons_zero,Option.some.injEq] at hu;subst hu;exact row_of HF2.out 0 _ rfl
    | j+1,hu=>simp at hu
   case qb1=>intro u hu;simp only [List.mem_cons,List.not_mem_nil,or_false] at hu;subst hu;rfl
   case qc1=>unfold maxLen;omega
   case qd1=>omega
   intro v' y3 hown' hgrow _ hblk
   obtain ⟨xa,xc,rfl,_⟩:=own_read hown'
   have hbx3:=(Trn.of_grown (S:=fun b=>lv.ownBlock=some b) hgrow (fun b e=>e)).heap HL5.out.box (not_ownY HL5.out.own HL5.out.box (by decide))
   have HBX:=Lib.hid hbx3
   have HL6:=Lib.hid (HL5.out.grow (i:=0) hgrow hown')
   clear hown' hgrow hblk hbx3
   try (simp only [Act.put,List.setIfInBounds_toArray,List.set_cons_succ,List.set_cons_zero,List.getElem_toArray,List.getElem_cons_succ,List.getElem_cons_zero])
   go_wp2_with fail
   have HK3:=Lib.hid (ONE.out y3 (HBX.out.trans HL.out.box.symm))
   (first|refine ⟨fun _=>⟨_,keepS_of HK3.out⟩,?_⟩|refine ⟨⟨_,keepS_of HK3.out⟩,?_⟩)
   have c1:=row_of HBX.out 0 lv rfl
   have f1:=frozen_of_row y3 (sb+1) 0 _ _ HBX.out
   refine mix_tail [7,8] [_,_] _ _ rfl rfl ?_
   simp only [Act.put,List.setIfInBounds_toArray,List.set_cons_succ,List.set_cons_zero,List.getElem_toArray,List.getElem_cons_succ,List.getElem_cons_zero]
   go_wp2_with fail
   clear c1 f1
   go_roundw
   case rel=>exact ⟨i+1,_,by omega,by go_num,by
    have h:=HL6.out
    rw [← HNS.out] at h
    rw [List.range_succ,List.map_append,List.flatMap_append]
    simpa [strCells] using h⟩
   case measure=>simp [intOf];omega
  ·have hlt1:¬ (i:Int)<(k:Int)+1:=by omega
   obtain rfl:i=k+1:=by omega
   obtain ⟨la,lc,rfl,-⟩:=own_read HL.out.own
   have hsb:sb+1<w6.heap.size:=(Array.getElem?_eq_some_iff.1 HL.out.box).1
   have hk16:k=0 ∨ k=1 ∨ k=2 ∨ k=3:=by omega
   go_upto_block 2 with fail
   go_cut [] from 44 to 62 (fun wx=>∃ ov,SetZ pairZ 2 (sb+1) wx ov (orderS k)∧wx.heap[sb+1]?=some (.cells #[.slice la (k+1) lc,ov,.slice none 0 0,.slice none 0 0,.bool false,.int .i64 0,.int .i64 0,.int .i64 0,.int .i64 0] 34 (0,0))∧Trn (fun x=>x=sb+1) w6 wx)
   case first=>
    rcases hk16 with rfl|rfl|rfl|rfl
    ·go_wp2_with fail
     go_meet
     exact ⟨.slice none 0 0,⟨⟨none,0,rfl,⟨by simp [orderS],by simp [orderS]⟩,fun i x hi=>by simp [orderS] at hi⟩,fun a n c hv=>by cases hv⟩,HL.out.box,Trn.refl _ _⟩
    ·skip
     have hsc:=setCell_trn w6 ⟨sb+1,1,none⟩ (.slice (some ⟨w6.heap.size,0,none⟩) 1 1)
     have hb:=heap_setCell_same w6 (sb+1) 1 _ _ (.slice (some ⟨w6.heap.size,0,none⟩) 1 1) HL.out.box
     have hal:=(Below.refl _ (w6.setCell ⟨sb+1,1,none⟩ (.slice (some ⟨w6.heap.size,0,none⟩) 1 1))).alloc (Nat.le_refl _) (.cells #[.int .i64 0,.int .i64 1] 74)
     have hn:=heap_alloc_new (w6.setCell ⟨sb+1,1,none⟩ (.slice (some ⟨w6.heap.size,0,none⟩) 1 1)) (.cells #[.int .i64 0,.int .i64 1] 74)
     rw [show (w6.setCell ⟨sb+1,1,none⟩ (.slice (some ⟨w6.heap.size,0,none⟩) 1 1)).heap.size=w6.heap.size by simp] at hn
     have c1:=row_of HL.out.box 1 _ rfl
     have f1:=frozen_of_row w6 (sb+1) 1 _ _ HL.out.box
     have HB1:=Lib.hid ((hal.block (sb+1) (by simpa using hsb)).trans hb)
     have HN1:=Lib.hid hn
     have HT1:=Lib.hid (hsc.trans (Trn.of_below hal))
     clear hal hn hb hsc
     go_wp2_with fail
     go_meet
     exact ⟨.slice (some ⟨w6.heap.size,0,none⟩) 1 1,⟨rdZ_row (f:=pairZ) (fun _=>rfl) (l:=orderS 1) HN1.out (by simp [orderS]),fun a n c hv=>by cases hv;exact hsb⟩,HB1.out,HT1.out⟩
    ·skip
     have hsc:=setCell_trn w6 ⟨sb+1,1,none⟩ (.slice (some ⟨w6.heap.size,0,none⟩) 2 2)
     have hb:=heap_setCell_same w6 (sb+1) 1 _ _ (.slice (some ⟨w6.heap.size,0,none⟩) 2 2) HL.out.box
     have hal:=(Below.refl _ (w6.setCell ⟨sb+1,1,none⟩ (.slice (some ⟨w6.heap.size,0,none⟩) 2 2))).alloc (Nat.le_refl _) (.cells #[.int .i64 0,.int .i64 1,.int .i64 1,.int .i64 2] 74)
     have hn:=heap_alloc_new (w6.setCell ⟨sb+1,1,none⟩ (.slice (some ⟨w6.heap.size,0,none⟩) 2 2)) (.cells #[.int .i64 0,.int .i64 1,.int .i64 1,.int .i64 2] 74)
     rw [show (w6.setCell ⟨sb+1,1,none⟩ (.slice (some ⟨w6.heap.size,0,none⟩) 2 2)).heap.size=w6.heap.size by simp] at hn
     have c1:=row_of HL.out.box 1 _ rfl
     have f1:=frozen_of_row w6 (sb+1) 1 _ _ HL.out.box
     have HB1:=Lib.hid ((hal.block (sb+1) (by simpa using hsb)).trans hb)
     have HN1:=Lib.hid hn
     have HT1:=Lib.hid (hsc.trans (Trn.of_below hal))
     clear hal hn hb hsc
     go_wp2_with fail
     go_meet
     exact ⟨.slice (some ⟨w6.heap.size,0,none⟩) 2 2,⟨rdZ_row (f:=pairZ) (fun _=>rfl) (l:=orderS 2) HN1.out (by simp [orderS]),fun a n c hv=>by cases hv;exact hsb⟩,HB1.out,HT1.out⟩
    ·skip
     have hsc:=setCell_trn w6 ⟨sb+1,1,none⟩ (.slice (some ⟨w6.heap.size,0,none⟩) 4 4)
     have hb:=heap_setCell_same w6 (sb+1) 1 _ _ (.slice (some ⟨w6.heap.size,0,none⟩) 4 4) HL.out.box
     have hal:=(Below.refl _ (w6.setCell ⟨sb+1,1,none⟩ (.slice (some ⟨w6.heap.size,0,none⟩) 4 4))).alloc (Nat.le_refl _) (.cells #[.int .i64 0,.int .i64 1,.int .i64 0,.int .i64 2,.int .i64 1,.int .i64 3,.int .i64 2,.int .i64 3] 74)
     have hn:=heap_alloc_new (w6.setCell ⟨sb+1,1,none⟩ (.slice (some ⟨w6.heap.size,0,none⟩) 4 4)) (.cells #[.int .i64 0,.int .i64 1,.int .i64 0,.int .i64 2,.int .i64 1,.int .i64 3,.int .i64 2,.int .i64 3] 74)
     rw [show (w6.setCell ⟨sb+1,1,none⟩ (.slice (some ⟨w6.heap.size,0,none⟩) 4 4)).heap.size=w6.heap.size by simp] at hn
     have c1:=row_of HL.out.box 1 _ rfl
     have f1:=frozen_of_row w6 (sb+1) 1 _ _ HL.out.box
     have HB1:=Lib.hid ((hal.block (sb+1) (by simpa using hsb)).trans hb)
     have HN1:=Lib.hid hn
     have HT1:=Lib.hid (hsc.trans (Trn.of_below hal))
     clear hal hn hb hsc
     go_wp2_with fail
     go_meet
     exact ⟨.slice (some ⟨w6.heap.size,0,none⟩) 4 4,⟨rdZ_row (f:=pairZ) (fun _=>rfl) (l:=orderS 3) HN1.out (by simp [orderS]),fun a n c hv=>by cases hv;exact hsb⟩,HB1.out,HT1.out⟩
   case rest=>
    obtain ⟨ov,hov,hbx,htr⟩:=hcut
    obtain ⟨w7,rfl⟩:∃ x:World,x=wc:=⟨_,rfl⟩
    have hw56:sb+1<w5.heap.size:=HL.out.hq
    have HT57:=Lib.hid (HL.out.tr.trans (htr.mono (T:=fun x=>x=sb+1 ∨ x=sb) (fun i e=>.inl e)))
    have hlv:=own_trn HL.out.own htr (fun b hb e=>by have:=own_ge HL.out.own hb;have e':b=sb+1:=e;omega)
    have hll:((List.range (k+1)).map (nmS 108)).length=k+1:=by simp
    have HLV:=Lib.hid (SetZ.own (f:=strCells) (l:=(List.range (k+1)).map (nmS 108)) (fun _=>rfl) (by rw [hll];exact hlv) (by rw [hll];omega) Nat.one_pos hw56)
    have HOV:=Lib.hid hov
    have hp4:=(HB4.out.block r (Array.getElem?_eq_some_iff.1 HP2.out).1).trans HP2.out
    have hp5:=HT5.out.heap hp4 (by show ¬ r=sb;omega)
    have HP7:=Lib.hid (HT57.out.heap hp5 (by show ¬ (r=sb+1 ∨ r=sb);omega))
    have hr4:=(HB4.out.block (r+1) (Array.getElem?_eq_some_iff.1 HR2.out).1).trans HR2.out
    have hr5:=HT5.out.heap hr4 (by show ¬ r+1=sb;omega)
    have HR7:=Lib.hid (HT57.out.heap hr5 (by show ¬ (r+1=sb+1 ∨ r+1=sb);omega))
    have hrs:w.heap.size=r:=HRR.out
    have hb4:=HB2.out.trans (HB4.out.mono HB2.out.size)
    have hb5:=HT5.out.below w.heap.size hb4.size (fun i hi e=>by have e':i=sb:=e;omega)
    have hb7:=HT57.out.below w.heap.size (Nat.le_trans hb4.size hb5.size) (fun i hi e=>by have e':i=sb+1 ∨ i=sb:=e;omega)
    have HBW7:=Lib.hid ((hb4.trans hb5).trans hb7)
    have HLT:Hid (∀ {a b:World},w.heap.size≤a.heap.size→Trn (fun x=>x=sb+1 ∨ x=sb) a b→Below w.heap.size a b):=fun hs t=>t.below w.heap.size hs (fun i hi e=>by have e':i=sb+1 ∨ i=sb:=e;omega)
    have HQ0:=Lib.hid (QL.start hbx (htr.heap HL.out.src (by show ¬ sb=sb+1;omega)) (by omega) 76 2)
    obtain ⟨oa,oc,rfl,-⟩:=id hov.1
    obtain ⟨iB,hiB,hzB0,hzB1,hzB2⟩:=info_parts infoBindZ
    have hsr:r+1<sb:=hr3
    have hkc:((k+1:Nat):Int)=(k:Int)+1:=by omega
    have HKC:=Lib.hid hkc
    clear hll hlv hov hbx htr hp4 hp5 hr4 hr5 hb4 hb5 hb7 HT57 HL HL0 HT5 HB4 HB3 HB2 HP2 HR2 HQ5 HS5 HQ4 hiS hzS0 hzS1 hzS2 hsb hlt1 hrs hkc
    have p1:=row_of HP7.out 1 _ rfl
    have hcl:p.chans.length≤100000000:=HCL.out
    go_upto_region 20 with fail
    clear p1
    go_loopw [12,66] (fun _ v wr=>∃ (i:Nat) (cu:Value),i≤p.chans.length∧v=.int .i64 i∧QL w7 (sb+1) sb wr #[.slice la (k+1) lc,.slice oa (orderS k).length oc,cu,.slice none 0 0,.bool false,.int .i64 0,.int .i64 0,.int .i64 0,.int .i64 0] 76 2 cu i ((bindsZ k (p.chans.take i) l1).1.flatMap bindC) (bindsZ k (p.chans.take i) l1).2) (fun _ v _=>p.chans.length - (intOf v).toNat)
    case atStart=>exact ⟨0,_,Nat.zero_le _,rfl,HQ0.out⟩
    case round=>
     obtain ⟨i,cu,hi,rfl,hq⟩:=hrel
     obtain ⟨w8,rfl⟩:∃ x:World,x=wr:=⟨_,rfl⟩
     have HQ:=Lib.hid hq
     clear hq
     by_cases hlt:i<p.chans.length
     ·have hlt1:(i:Int)<(p.chans.length:Int):=by omega
      obtain ⟨c,hc⟩:∃ c,p.chans[i]?=some c:=⟨_,List.getElem?_eq_getElem hlt⟩
      obtain ⟨_,_,he,-,hr⟩:=(H.out.keep (HBW7.out.trans (HLT.out HBW7.out.size HQ.out.tr))).1
      simp only [Value.slice.injEq,true_and] at he
      obtain ⟨rfl,rfl⟩:=he
      obtain ⟨b,o,rfl,-,q0,-⟩:=hr i c hc
      have HST:Hid (bindsZ k (p.chans.take (i+1)) l1=((bindsZ k (p.chans.take i) l1).1 ++ [⟨c,(takeS (k+1) (bindsZ k (p.chans.take i) l1).2).1⟩],(takeS (k+1) (bindsZ k (p.chans.take i) l1).2).2)):=by show _=_;rw [two_step hc,binds_snoc]
      obtain ⟨BS,hBS⟩:∃ x,(bindsZ k (p.chans.take i) l1).1=x:=⟨_,rfl⟩
      obtain ⟨lb,hlb⟩:∃ x,(bindsZ k (p.chans.take i) l1).2=x:=⟨_,rfl⟩
      rw [hBS,hlb] at HST HQ
      clear hc hr hBS hlb
      go_upto_region 22 with fail
      clear q0
      have q1:=keepS_cell (S:=[sb+1]) (by simp) (row_of HQ.out.box 2 cu rfl)
      refine wp_region_mixS [sb+1] (.one [0,1,2,3,4,5] 6 (.one [7] 8 (.one [] 9 (tailOf [10,11])))) (fun j=>decide (10≤j)) (by kernel_rfl) (by kernel_rfl) rfl (by kernel_rfl) (fun _ d _ _ _ h=>by cases d <;> exact h) ?_
      have HBd:Hid (Below w8.heap.size w8 w8.drew):=(Below.refl _ _).drew
      generalize w8.drew=y0 at *
      have hpx:=(Array.getElem?_eq_some_iff.1 HQ.out.box).1
      have ONE:Hid (∀ z:World,z.heap[sb+1]?=w8.heap[sb+1]?→∀ b ∈ [sb+1],z.heap[b]?=w8.heap[b]?):=fun z hz b hb=>by
       simp only [List.mem_cons,List.not_mem_nil,or_false] at hb
       subst hb
       exact hz
      have HKn:=Lib.hid (ONE.out y0 (HBd.out.block _ hpx))
      refine mix_one (by simp only [opsOf,List.filterMap_cons,List.filterMap_nil,List.getElem?_toArray,List.getElem?_cons_succ,List.getElem?_cons_zero];rfl) ⟨_,keepS_of HKn.out⟩ ?_
      change wpQuiet _ _ _ _ [_,_,_,_,_,_] _
      (repeat (go_big_quiet_step (fail)))
      clear q1
      refine wpQuiet_nil ?_
      have HQ1:=Lib.hid (HQ.out.later HBd.out)
      have ht:=take_any sb lb (k+1) y0 HQ1.out.src (by omega) (by omega)
      rw [HKC.out] at ht
      obtain ⟨t,htv⟩:∃ x,(takeS (k+1) lb).1=x:=⟨_,rfl⟩
      obtain ⟨l2,htl⟩:∃ x,(takeS (k+1) lb).2=x:=⟨_,rfl⟩
      rw [htv,htl] at ht HST
      have HT:=Lib.hid ht
      have ht4:t<4:=by rw [← htv];exact Nat.lt_of_lt_of_le (take_small (k+1) lb (by omega)) (by omega)
      clear ht htv htl
      refine mix_step rfl ?_
      go_wp2_with (go_at_call 21;refine HT.out.mono ?_;rintro e z ⟨rfl,hs1,ht1⟩)
      have hk1:=(ht1.block (sb+1) (by have:=HQ1.out.box;exact (Array.getElem?_eq_some_iff.1 this).1) (by show ¬ sb+1=sb;omega)).trans (HBd.out.block _ hpx)
      have HK1:=Lib.hid (ONE.out z hk1)
      have HQ2:=Lib.hid (HQ1.out.bytes ht1 hs1)
      clear hs1 ht1 hk1 HT
      (first|refine ⟨fun _=>⟨_,keepS_of HK1.out⟩,?_⟩|refine ⟨⟨_,keepS_of HK1.out⟩,?_⟩)
      refine mix_one (by simp only [opsOf,List.filterMap_cons,List.filterMap_nil,List.getElem?_toArray,List.getElem?_cons_succ,List.getElem?_cons_zero];rfl) ⟨_,keepS_of HK1.out⟩ ?_
      change wpQuiet _ _ _ _ [_] _
      (repeat (go_big_quiet_step (fail)))
      refine wpQuiet_nil ?_
      refine mix_step rfl ?_
      go_wp2_with fail
      have hal:=(Below.refl z.heap.size z).alloc (Nat.le_refl _) (.cells #[.string c,.int .i64 (t:Nat)] 76)
      have hnw:=heap_alloc_new z (.cells #[.string c,.int .i64 (t:Nat)] 76)
      have HQ3:=Lib.hid (HQ2.out.later hal)
      have HK2:=Lib.hid (ONE.out (z.alloc (.cells #[.string c,.int .i64 (t:Nat)] 76)) (HQ3.out.box.trans HQ.out.box.symm))
      obtain ⟨g2,hg2⟩:∃ x,z.heap.size=x:=⟨_,rfl⟩
      rw [hg2] at hnw
      try rw [hg2]
      have HF2:=Lib.hid hnw
      clear hal hnw hg2
      generalize z.alloc (.cells #[.string c,.int .i64 (t:Nat)] 76)=y2 at *
      (first|refine ⟨fun _=>⟨_,keepS_of HK2.out⟩,?_⟩|refine ⟨⟨_,keepS_of HK2.out⟩,?_⟩)
      have hfy2:w7.heap.size≤y2.heap.size:=HQ3.out.tr.size
      refine mix_now ?_
      refine mix_step rfl ?_
      try (simp only [Act.put,List.setIfInBounds_toArray,List.set_cons_succ,List.set_cons_zero,List.getElem_toArray,List.getElem_cons_succ,List.getElem_cons_zero])
      refine wpList_append_own_at _ rfl (.tmp 71) (.tmp 78) 32 rfl w7.heap.size 76 iB (.agg #[.string ⟨#[]⟩,.int .i64 0]) 2 24 Tryz.underlying32 hiB hzB0 hzB1 hzB2 rfl (by decide) _ _ _ rfl HQ3.out.own ⟨g2,0,none⟩ 1 1 [.string c,.int .i64 (t:Nat)] rfl rfl ?qa2 ?qb2 ?qc2 ?qd2 hfy2 ?_
      case qa2=>
       intro j u hu
       match j,hu with
       | 0,hu=>simp only [List.getElem?_cons_zero,Option.some.injEq] at hu;subst hu;exact row_of HF2.out 0 _ rfl
       | 1,hu=>simp only [List.getElem?_cons_succ,List.getElem?_cons_zero,Option.some.injEq] at hu;subst hu;exact row_of HF2.out 1 _ rfl
       | j+2,hu=>simp at hu
      case qb2=>intro u hu;simp only [List.mem_cons,List.not_mem_nil,or_false] at hu;rcases hu with rfl|rfl <;> rfl
      case qc2=>unfold maxLen;omega
      case qd2=>omega
      intro v' y3 hown' hgrow _ hblk
      obtain ⟨xa,xc,rfl,_⟩:=own_read hown'
      have hbx3:=(Trn.of_grown (S:=fun b=>cu.ownBlock=some b) hgrow (fun b e=>e)).heap HQ3.out.box (not_ownY HQ3.out.own HQ3.out.box (by decide))
      have HBX:=Lib.hid hbx3
      have HQ6:=Lib.hid (HQ3.out.grow (i:=2) hgrow hown')
      clear hown' hgrow hblk hbx3
      try (simp only [Act.put,List.setIfInBounds_toArray,List.set_cons_succ,List.set_cons_zero,List.getElem_toArray,List.getElem_cons_succ,List.getElem_cons_zero])
      go_wp2_with fail
      have HK3:=Lib.hid (ONE.out y3 (HBX.out.trans HQ.out.box.symm))
      (first|refine ⟨fun _=>⟨_,keepS_of HK3.out⟩,?_⟩|refine ⟨⟨_,keepS_of HK3.out⟩,?_⟩)
      have c1:=row_of HBX.out 2 cu rfl
      have f1:=frozen_of_row y3 (sb+1) 2 _ _ HBX.out
      refine mix_tail [10,11] [_,_] _ _ rfl rfl ?_
      simp only [Act.put,List.setIfInBounds_toArray,List.set_cons_succ,List.set_cons_zero,List.getElem_toArray,List.getElem_cons_succ,List.getElem_cons_zero]
      go_wp2_with fail
      clear c1 f1
      go_roundw
      ·exact ⟨i+1,_,by omega,by go_num,by
        have h:=HQ6.out
        rw [HST.out]
        rw [List.flatMap_append]
        simpa [bindC] using h⟩
      ·simp [intOf];omega
     ·have hlt1:¬ (i:Int)<(p.chans.length:Int):=by omega
      obtain rfl:i=p.chans.length:=by omega
      obtain ⟨ca,cc,rfl,-⟩:=own_read HQ.out.own
      rw [List.take_length] at HQ
      have hcsl:(bindsZ k p.chans l1).1.length=p.chans.length:=by have h:=congrArg List.length (binds_names k p.chans l1);rwa [List.length_map] at h
      obtain ⟨CS,hCS⟩:∃ x,(bindsZ k p.chans l1).1=x:=⟨_,rfl⟩
      obtain ⟨l2,hl2⟩:∃ x,(bindsZ k p.chans l1).2=x:=⟨_,rfl⟩
      have HX2:Hid (bindsZ k p.chans l1=(CS,l2)):=by show _=_;rw [← hCS,← hl2]
      rw [hCS] at hcsl
      rw [hCS,hl2] at HQ
      have hs7:sb+1<w7.heap.size:=HQ.out.hq
      have hs78:w7.heap.size≤w8.heap.size:=HQ.out.tr.size
      have HCU:=Lib.hid (SetZ.own (f:=bindC) (k:=2) (l:=CS) (fun _=>rfl) (by rw [hcsl];exact HQ.out.own) (by rw [hcsl];omega) (Nat.succ_pos 1) hs7)
      have HCSL:=Lib.hid hcsl
      have HSS:Hid (∀ i,(fun x=>x=sb+1 ∨ x=sb) i→i≤sb+1):=fun i e=>by have e':i=sb+1 ∨ i=sb:=e;omega
      have HLV8:=Lib.hid (HLV.out.trn HQ.out.tr HSS.out)
      have HOV8:=Lib.hid (HOV.out.trn HQ.out.tr HSS.out)
      have HP8:=Lib.hid (HQ.out.tr.heap HP7.out (by show ¬ (r=sb+1 ∨ r=sb);omega))
      have HR8:=Lib.hid (HQ.out.tr.heap HR7.out (by show ¬ (r+1=sb+1 ∨ r+1=sb);omega))
      have HBW8:=Lib.hid (HBW7.out.trans (HLT.out HBW7.out.size HQ.out.tr))
      have hsi:=sites_any p _ _ _ _ w8 (H.out.keep HBW8.out) HLN.out
      have hsl:(sitesAll p).length≤100000000:=by have h1:=sitesY_len [] (allCode p);have h2:=HLN.out;unfold sitesAll;simp only [List.length_nil] at h1;omega
      obtain ⟨SS,hSS⟩:∃ x,sitesAll p=x:=⟨_,rfl⟩
      rw [hSS] at hsi hsl
      have HSI:=Lib.hid hsi
      have HSE:=Lib.hid hSS
      clear hsi hSS hCS hl2 hcsl HP7 HR7 HLV HOV hlt1 hlt hi
      have p0:=row_of HP8.out 0 _ rfl
      have p1:=row_of HP8.out 1 _ rfl
      have p2:=row_of HP8.out 2 _ rfl
      have p3:=row_of HP8.out 3 _ rfl
      have p4:=row_of HP8.out 4 _ rfl
      go_upto_region 25 with (go_at_call 23;refine HSI.out.mono ?_;rintro e w9 ⟨sv,rfl,hso,hsb9⟩;obtain ⟨sa,sc,rfl,-⟩:=own_read hso;have HSO:=Lib.hid hso;have HB9:=Lib.hid hsb9;clear hso hsb9)
      clear p0 p1 p2 p3 p4 HSI HP8
      have ht89:=Trn.of_below (S:=fun x=>x=sb+1 ∨ x=sb) HB9.out
      have HSV:=Lib.hid (SetZ.own (f:=strCells) (l:=SS) (fun _=>rfl) HSO.out (by omega) Nat.one_pos (Nat.lt_of_lt_of_le hs7 hs78))
      have HLV9:=Lib.hid (HLV8.out.trn ht89 HSS.out)
      have HOV9:=Lib.hid (HOV8.out.trn ht89 HSS.out)
      have HCU9:=Lib.hid ((HCU.out).trn ht89 HSS.out)
      have HR9:=Lib.hid (ht89.heap HR8.out (by show ¬ (r+1=sb+1 ∨ r+1=sb);omega))
      have HBW9:=Lib.hid (HBW8.out.trans (HLT.out HBW8.out.size ht89))
      have hq9:=HQ.out.later HB9.out
      have HQ9:=Lib.hid (QL.start hq9.box hq9.src (by omega) 76 2)
      clear ht89 HLV8 HOV8 HCU HR8 HBW8 hq9 HQ HQ0 HSO HB9 HBW7 hs7 hs78
      go_loopw [14,85] (fun _ v wr=>∃ (i:Nat) (su:Value),i≤SS.length∧v=.int .i64 i∧QL w9 (sb+1) sb wr #[.slice la (k+1) lc,.slice oa (orderS k).length oc,.slice ca p.chans.length cc,su,.bool false,.int .i64 0,.int .i64 0,.int .i64 0,.int .i64 0] 76 2 su i ((bindsZ k (SS.take i) l2).1.flatMap bindC) (bindsZ k (SS.take i) l2).2) (fun _ v _=>SS.length - (intOf v).toNat)
      case atStart=>exact ⟨0,_,Nat.zero_le _,rfl,HQ9.out⟩
      case round=>
       obtain ⟨i,cu,hi,rfl,hq⟩:=hrel
       obtain ⟨w10,rfl⟩:∃ x:World,x=wr:=⟨_,rfl⟩
       have HQ:=Lib.hid hq
       clear hq
       by_cases hlt:i<SS.length
       ·have hlt1:(i:Int)<(SS.length:Int):=by omega
        obtain ⟨c,hc⟩:∃ c,SS[i]?=some c:=⟨_,List.getElem?_eq_getElem hlt⟩
        obtain ⟨_,_,he,-,hr⟩:=(HSV.out.trn HQ.out.tr HSS.out).1
        simp only [Value.slice.injEq,true_and] at he
        obtain ⟨rfl,rfl⟩:=he
        obtain ⟨b,o,rfl,hq0⟩:=hr i c hc
        have q0:=hq0 0 (.string c) rfl
        simp only [Nat.mul_one,Nat.add_zero] at q0
        have HST:Hid (bindsZ k (SS.take (i+1)) l2=((bindsZ k (SS.take i) l2).1 ++ [⟨c,(takeS (k+1) (bindsZ k (SS.take i) l2).2).1⟩],(takeS (k+1) (bindsZ k (SS.take i) l2).2).2)):=by show _=_;rw [two_step hc,binds_snoc]
        obtain ⟨BS,hBS⟩:∃ x,(bindsZ k (SS.take i) l2).1=x:=⟨_,rfl⟩
        obtain ⟨lb,hlb⟩:∃ x,(bindsZ k (SS.take i) l2).2=x:=⟨_,rfl⟩
        rw [hBS,hlb] at HST HQ
        clear hc hr hq0 hBS hlb
        go_upto_region 27 with fail
        clear q0
        have q1:=keepS_cell (S:=[sb+1]) (by simp) (row_of HQ.out.box 3 cu rfl)
        refine wp_region_mixS [sb+1] (.one [0,1,2,3,4,5] 6 (.one [7] 8 (.one [] 9 (tailOf [10,11])))) (fun j=>decide (10≤j)) (by kernel_rfl) (by kernel_rfl) rfl (by kernel_rfl) (fun _ d _ _ _ h=>by cases d <;> exact h) ?_
        have HBd:Hid (Below w10.heap.size w10 w10.drew):=(Below.refl _ _).drew
        generalize w10.drew=y0 at *
        have hpx:=(Array.getElem?_eq_some_iff.1 HQ.out.box).1
        have ONE:Hid (∀ z:World,z.heap[sb+1]?=w10.heap[sb+1]?→∀ b ∈ [sb+1],z.heap[b]?=w10.heap[b]?):=fun z hz b hb=>by
         simp only [List.mem_cons,List.not_mem_nil,or_false] at hb
         subst hb
         exact hz
        have HKn:=Lib.hid (ONE.out y0 (HBd.out.block _ hpx))
        refine mix_one (by simp only [opsOf,List.filterMap_cons,List.filterMap_nil,List.getElem?_toArray,List.getElem?_cons_succ,List.getElem?_cons_zero];rfl) ⟨_,keepS_of HKn.out⟩ ?_
        change wpQuiet _ _ _ _ [_,_,_,_,_,_] _
        (repeat (go_big_quiet_step (fail)))
        clear q1
        refine wpQuiet_nil ?_
        have HQ1:=Lib.hid (HQ.out.later HBd.out)
        have ht:=take_any sb lb (k+1) y0 HQ1.out.src (by omega) (by omega)
        rw [HKC.out] at ht
        obtain ⟨t,htv⟩:∃ x,(takeS (k+1) lb).1=x:=⟨_,rfl⟩
        obtain ⟨l2,htl⟩:∃ x,(takeS (k+1) lb).2=x:=⟨_,rfl⟩
        rw [htv,htl] at ht HST
        have HT:=Lib.hid ht
        have ht4:t<4:=by rw [← htv];exact Nat.lt_of_lt_of_le (take_small (k+1) lb (by omega)) (by omega)
        clear ht htv htl
        refine mix_step rfl ?_
        go_wp2_with (go_at_call 21;refine HT.out.mono ?_;rintro e z ⟨rfl,hs1,ht1⟩)
        have hk1:=(ht1.block (sb+1) (by have:=HQ1.out.box;exact (Array.getElem?_eq_some_iff.1 this).1) (by show ¬ sb+1=sb;omega)).trans (HBd.out.block _ hpx)
        have HK1:=Lib.hid (ONE.out z hk1)
        have HQ2:=Lib.hid (HQ1.out.bytes ht1 hs1)
        clear hs1 ht1 hk1 HT
        (first|refine ⟨fun _=>⟨_,keepS_of HK1.out⟩,?_⟩|refine ⟨⟨_,keepS_of HK1.out⟩,?_⟩)
        refine mix_one (by simp only [opsOf,List.filterMap_cons,List.filterMap_nil,List.getElem?_toArray,List.getElem?_cons_succ,List.getElem?_cons_zero];rfl) ⟨_,keepS_of HK1.out⟩ ?_
        change wpQuiet _ _ _ _ [_] _
        (repeat (go_big_quiet_step (fail)))
        refine wpQuiet_nil ?_
        refine mix_step rfl ?_
        go_wp2_with fail
        have hal:=(Below.refl z.heap.size z).alloc (Nat.le_refl _) (.cells #[.string c,.int .i64 (t:Nat)] 76)
        have hnw:=heap_alloc_new z (.cells #[.string c,.int .i64 (t:Nat)] 76)
        have HQ3:=Lib.hid (HQ2.out.later hal)
        have HK2:=Lib.hid (ONE.out (z.alloc (.cells #[.string c,.int .i64 (t:Nat)] 76)) (HQ3.out.box.trans HQ.out.box.symm))
        obtain ⟨g2,hg2⟩:∃ x,z.heap.size=x:=⟨_,rfl⟩
        rw [hg2] at hnw
        try rw [hg2]
        have HF2:=Lib.hid hnw
        clear hal hnw hg2
        generalize z.alloc (.cells #[.string c,.int .i64 (t:Nat)] 76)=y2 at *
        (first|refine ⟨fun _=>⟨_,keepS_of HK2.out⟩,?_⟩|refine ⟨⟨_,keepS_of HK2.out⟩,?_⟩)
        have hfy2:w9.heap.size≤y2.heap.size:=HQ3.out.tr.size
        refine mix_now ?_
        refine mix_step rfl ?_
        try (simp only [Act.put,List.setIfInBounds_toArray,List.set_cons_succ,List.set_cons_zero,List.getElem_toArray,List.getElem_cons_succ,List.getElem_cons_zero])
        refine wpList_append_own_at _ rfl (.tmp 90) (.tmp 97) 32 rfl w9.heap.size 76 iB (.agg #[.string ⟨#[]⟩,.int .i64 0]) 2 24 Tryz.underlying32 hiB hzB0 hzB1 hzB2 rfl (by decide) _ _ _ rfl HQ3.out.own ⟨g2,0,none⟩ 1 1 [.string c,.int .i64 (t:Nat)] rfl rfl ?qa3 ?qb3 ?qc3 ?qd3 hfy2 ?_
        case qa3=>
         intro j u hu
         match j,hu with
         | 0,hu=>simp only [List.getElem?_cons_zero,Option.some.injEq] at hu;subst hu;exact row_of HF2.out 0 _ rfl
         | 1,hu=>simp only [List.getElem?_cons_succ,List.getElem?_cons_zero,Option.some.injEq] at hu;subst hu;exact row_of HF2.out 1 _ rfl
         | j+2,hu=>simp at hu
        case qb3=>intro u hu;simp only [List.mem_cons,List.not_mem_nil,or_false] at hu;rcases hu with rfl|rfl <;> rfl
        case qc3=>unfold maxLen;omega
        case qd3=>omega
        intro v' y3 hown' hgrow _ hblk
        obtain ⟨xa,xc,rfl,_⟩:=own_read hown'
        have hbx3:=(Trn.of_grown (S:=fun b=>cu.ownBlock=some b) hgrow (fun b e=>e)).heap HQ3.out.box (not_ownY HQ3.out.own HQ3.out.box (by decide))
        have HBX:=Lib.hid hbx3
        have HQ6:=Lib.hid (HQ3.out.grow (i:=3) hgrow hown')
        clear hown' hgrow hblk hbx3
        try (simp only [Act.put,List.setIfInBounds_toArray,List.set_cons_succ,List.set_cons_zero,List.getElem_toArray,List.getElem_cons_succ,List.getElem_cons_zero])
        go_wp2_with fail
        have HK3:=Lib.hid (ONE.out y3 (HBX.out.trans HQ.out.box.symm))
        (first|refine ⟨fun _=>⟨_,keepS_of HK3.out⟩,?_⟩|refine ⟨⟨_,keepS_of HK3.out⟩,?_⟩)
        have c1:=row_of HBX.out 3 cu rfl
        have f1:=frozen_of_row y3 (sb+1) 3 _ _ HBX.out
        refine mix_tail [10,11] [_,_] _ _ rfl rfl ?_
        simp only [Act.put,List.setIfInBounds_toArray,List.set_cons_succ,List.set_cons_zero,List.getElem_toArray,List.getElem_cons_succ,List.getElem_cons_zero]
        go_wp2_with fail
        clear c1 f1
        go_roundw
        ·exact ⟨i+1,_,by omega,by go_num,by
          have h:=HQ6.out
          rw [HST.out]
          rw [List.flatMap_append]
          simpa [bindC] using h⟩
        ·simp [intOf];omega
       ·have hlt1:¬ (i:Int)<(SS.length:Int):=by omega
        obtain rfl:i=SS.length:=by omega
        obtain ⟨da,dc,rfl,-⟩:=own_read HQ.out.own
        rw [List.take_length] at HQ
        have hdl:(bindsZ k SS l2).1.length=SS.length:=by have h:=congrArg List.length (binds_names k SS l2);rwa [List.length_map] at h
        obtain ⟨DS,hDS⟩:∃ x,(bindsZ k SS l2).1=x:=⟨_,rfl⟩
        obtain ⟨l3,hl3⟩:∃ x,(bindsZ k SS l2).2=x:=⟨_,rfl⟩
        have HX3:Hid (bindsZ k SS l2=(DS,l3)):=by show _=_;rw [← hDS,← hl3]
        rw [hDS] at hdl
        rw [hDS,hl3] at HQ
        have hs9:sb+1<w9.heap.size:=HQ.out.hq
        have HDL:=Lib.hid hdl
        obtain ⟨m,hv⟩:∃ x,(takeS 2 l3).1=x:=⟨_,rfl⟩
        obtain ⟨l4,hl⟩:∃ x,(takeS 2 l3).2=x:=⟨_,rfl⟩
        have ht:=take_any sb l3 2 w10 HQ.out.src (by omega) (by omega)
        rw [hv,hl] at ht
        have HT:=Lib.hid ht
        have HX4:Hid (takeS 2 l3=(m,l4)):=by show _=_;rw [← hv,← hl]
        obtain ⟨mb,hmb⟩:∃ x,(m == 1)=x:=⟨_,rfl⟩
        have hmi:((m:Int) == 1)=mb:=by
         rw [← hmb,Bool.eq_iff_iff,beq_iff_eq,beq_iff_eq]
         omega
        have HMB:=Lib.hid hmb
        clear ht hv hl hdl hDS hl3 hlt1 hlt hi hmb
        go_upto_region 30 with (go_at_call 21;refine HT.out.mono ?_;rintro e w11 ⟨rfl,hs1,ht1⟩;have HQ11:=Lib.hid (HQ.out.bytes ht1 hs1);have c4:=row_of HQ11.out.box 4 _ rfl;have f4:=frozen_of_row w11 (sb+1) 4 _ _ HQ11.out.box;clear hs1 ht1)
        have HQ12:=Lib.hid (HQ11.out.put (i:=4) (u:=.bool mb))
        simp only [List.setIfInBounds_toArray,List.set_cons_succ,List.set_cons_zero] at HQ12
        clear c4 f4 HQ11 HT hmi
        generalize w11.setCell ⟨sb+1,4,none⟩ (.bool mb)=w12 at *
        obtain ⟨st,hv⟩:∃ x,(takeS 60 l4).1=x:=⟨_,rfl⟩
        obtain ⟨l5,hl⟩:∃ x,(takeS 60 l4).2=x:=⟨_,rfl⟩
        have ht:=take_any sb l4 60 w12 HQ12.out.src (by omega) (by omega)
        rw [hv,hl] at ht
        have HT:=Lib.hid ht
        have HX5:Hid (takeS 60 l4=(st,l5)):=by show _=_;rw [← hv,← hl]
        have hst:st<60:=by rw [← hv];exact take_small 60 l4 (by omega)
        clear ht hv hl
        go_upto_region 31 with (go_at_call 21;refine HT.out.mono ?_;rintro e w13 ⟨rfl,hs1,ht1⟩;have HQ13:=Lib.hid (HQ12.out.bytes ht1 hs1);have c5:=row_of HQ13.out.box 5 _ rfl;have f5:=frozen_of_row w13 (sb+1) 5 _ _ HQ13.out.box;clear hs1 ht1)
        have HQ14:=Lib.hid (HQ13.out.put (i:=5) (u:=.int .i64 (1+(st:Int))))
        simp only [List.setIfInBounds_toArray,List.set_cons_succ,List.set_cons_zero] at HQ14
        clear c5 f5 HQ13 HT
        generalize w13.setCell ⟨sb+1,5,none⟩ (.int .i64 (1+(st:Int)))=w14 at *
        obtain ⟨pa,hv⟩:∃ x,(takeS 128 l5).1=x:=⟨_,rfl⟩
        obtain ⟨l6,hl⟩:∃ x,(takeS 128 l5).2=x:=⟨_,rfl⟩
        have ht:=take_any sb l5 128 w14 HQ14.out.src (by omega) (by omega)
        rw [hv,hl] at ht
        have HT:=Lib.hid ht
        have HX6:Hid (takeS 128 l5=(pa,l6)):=by show _=_;rw [← hv,← hl]
        have hpa:pa<128:=by rw [← hv];exact take_small 128 l5 (by omega)
        clear ht hv hl
        go_upto_region 32 with (go_at_call 21;refine HT.out.mono ?_;rintro e w15 ⟨rfl,hs1,ht1⟩;have HQ15:=Lib.hid (HQ14.out.bytes ht1 hs1);have c6:=row_of HQ15.out.box 6 _ rfl;have f6:=frozen_of_row w15 (sb+1) 6 _ _ HQ15.out.box;clear hs1 ht1)
        have HQ16:=Lib.hid (HQ15.out.put (i:=6) (u:=.int .i64 (1+(pa:Int))))
        simp only [List.setIfInBounds_toArray,List.set_cons_succ,List.set_cons_zero] at HQ16
        clear c6 f6 HQ15 HT
        generalize w15.setCell ⟨sb+1,6,none⟩ (.int .i64 (1+(pa:Int)))=w16 at *
        have HPE:Hid ((polS p.chans SS l).1=⟨(List.range (k+1)).map (nmS 108),orderS k,CS,DS,mb,1+(st:Int),1+(pa:Int),0,0⟩):=by
         show _=_
         simp only [polS,bindS,pureS,HX1.out,HX2.out,HX3.out,HX4.out,HX5.out,HX6.out,HMB.out]
        have HDU:=Lib.hid (SetZ.own (f:=bindC) (k:=2) (l:=DS) (fun _=>rfl) (by rw [HDL.out];exact HQ16.out.own) (by rw [HDL.out];omega) (Nat.succ_pos 1) hs9)
        have HR16:=Lib.hid (HQ16.out.tr.heap HR9.out (by show ¬ (r+1=sb+1 ∨ r+1=sb);omega))
        have HLV16:=Lib.hid (HLV9.out.trn HQ16.out.tr HSS.out)
        have HOV16:=Lib.hid (HOV9.out.trn HQ16.out.tr HSS.out)
        have HCU16:=Lib.hid (HCU9.out.trn HQ16.out.tr HSS.out)
        have HBW16:=Lib.hid (HBW9.out.trans (HLT.out HBW9.out.size HQ16.out.tr))
        have p0:=row_of HQ16.out.box 0 _ rfl
        have p1:=row_of HQ16.out.box 1 _ rfl
        have p2:=row_of HQ16.out.box 2 _ rfl
        have p3:=row_of HQ16.out.box 3 _ rfl
        have p4:=row_of HQ16.out.box 4 _ rfl
        have p5:=row_of HQ16.out.box 5 _ rfl
        have p6:=row_of HQ16.out.box 6 _ rfl
        have p7:=row_of HQ16.out.box 7 _ rfl
        have p8:=row_of HQ16.out.box 8 _ rfl
        clear HLV9 HOV9 HCU9 HR9 HBW9 HQ HQ9 HQ12 HQ14
        go_wp2_with (refine wpList_store_row rfl 34 (.tmp 4) (.tmp 113) rfl (r+1) #[.slice la (k+1) lc,.slice oa (orderS k).length oc,.slice ca p.chans.length cc,.slice da SS.length dc,.bool mb,.int .i64 (1+(st:Int)),.int .i64 (1+(pa:Int)),.int .i64 0,.int .i64 0] rfl rfl 34 #[.slice none 0 0,.slice none 0 0,.slice none 0 0,.slice none 0 0,.bool false,.int .i64 0,.int .i64 0,.int .i64 0,.int .i64 0] HR16.out (by as_aux_lemma=>kernel_rfl) (by as_aux_lemma=>kernel_rfl) (by as_aux_lemma=>kernel_rfl) ?_)
        have hrt:=setRow_trn (cs:=#[.slice la (k+1) lc,.slice oa (orderS k).length oc,.slice ca p.chans.length cc,.slice da SS.length dc,.bool mb,.int .i64 (1+(st:Int)),.int .i64 (1+(pa:Int)),.int .i64 0,.int .i64 0]) HR16.out
        have hrs:∀ i,(fun x=>x=r+1) i→i≤sb+1:=fun i e=>by have e':i=r+1:=e;omega
        have hlv:=(HLV16.out.trn hrt hrs).strs (fun s hs=>by
         obtain ⟨y,hy,rfl⟩:=List.mem_map.1 hs
         have hy2:y<k+1:=by simpa using hy
         have h:=nm_ok 108 (n:=y) (by omega)
         unfold NmOk at h
         unfold maxLen
         omega)
        have hll:((List.range (k+1)).map (nmS 108)).length=k+1:=by simp
        try simp only [Act.put]
        refine bodyPost_ret (v:=.agg #[.slice la (k+1) lc,.slice oa (orderS k).length oc,.slice ca p.chans.length cc,.slice da SS.length dc,.bool mb,.int .i64 (1+(st:Int)),.int .i64 (1+(pa:Int)),.int .i64 0,.int .i64 0]) (results_cell_row (P:=Tryz.prog) (fn:=Tryz.f8) rfl _ _ (r+1) 34 _ (0,0) _ rfl (setRow_heap _ _ _ _ _ _ HR16.out) Tryz.underlying34 rfl (by kernel_rfl)) rfl ⟨.slice la (k+1) lc,.slice oa (orderS k).length oc,.slice ca p.chans.length cc,.slice da SS.length dc,by rw [HSE.out,HPE.out],by rw [HSE.out,HPE.out];exact ⟨hlv,(HOV16.out.trn hrt hrs).1,(HCU16.out.trn hrt hrs).1,(HDU.out.trn hrt hrs).1⟩,HBW16.out.trans (hrt.below w.heap.size HBW16.out.size (fun i hi e=>by have e':i=r+1:=e;have:=HRR.out;omega))⟩
end Go.Proofs.YtfdinncgncbmfaaGreatDoor
