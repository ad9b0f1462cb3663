/- Contract of the reference's Policy. Conditions: the program reads as one; it has not too many instructions; the string is not too long. -/
import Derived.Test.YtfdinncgncbmfaaGreatDoorScS
import Derived.Test.YtfdinncgncbmfaaGreatDoorSrB
import Derived.Test.YtfdinncgncbmfaaGreatDoorRefD
set_option linter.all false
set_option maxRecDepth 1000000
set_option maxHeartbeats 12800000
set_option linter.unusedVariables false
set_option linter.unusedSimpArgs false
namespace Go.Proofs.YtfdinncgncbmfaaGreatDoor
open Go.ChangeShapes Go.WideShapes Go.ChangeAt Go.RowKit
theorem keepL_step {S:List Nat} {P:Nat→Prop} {w a b:World} (h:∀ x ∈ S,a.heap[x]?=w.heap[x]?) (t:Trn P a b) (hl:∀ x ∈ S,x<a.heap.size∧¬ P x):∀ x ∈ S,b.heap[x]?=w.heap[x]?:=
 fun x hx=>(t.block x (hl x hx).1 (hl x hx).2).trans (h x hx)
theorem preC_all (p:ProgD):preC p (p.funcs.length+1)=allCode p:=by
 unfold preC allCode codesOf
 rw [List.take_of_length_le (by omega),if_pos (by omega)]
structure QR (w6:World) (qb sb:Nat) (s:ByteArray) (w:World) (cells:Array Value) (T:TypeId) (k:Nat) (v:Value) (n:Nat) (rows:List Value) (l:List UInt8):Prop where
 box:w.heap[qb]?=some (.cells cells 34 (0,0))
 src:TkL w sb s l
 own:w.ownsRow w6.heap.size T k v n rows
 tr:Trn (fun x=>x=qb ∨ x=sb) w6 w
 hq:qb<w6.heap.size
 hs:sb<w6.heap.size
 hne:qb ≠ sb
section
variable {w6 w w':World} {qb sb:Nat} {s:ByteArray} {cells:Array Value} {T:TypeId} {k:Nat} {v:Value} {n:Nat} {rows:List Value} {l l':List UInt8}
theorem QR.start (hb:w.heap[qb]?=some (.cells cells 34 (0,0))) (hs:TkL w sb s l) (hne:qb ≠ sb) (T:TypeId) (k:Nat):QR w qb sb s w cells T k (.slice none 0 0) 0 [] l:=
 ⟨hb,hs,World.ownsRow_nil _ _ _ _,Trn.refl _ _,(Array.getElem?_eq_some_iff.1 hb).1,hs.lt,hne⟩
theorem QR.later (h:QR w6 qb sb s w cells T k v n rows l) (b:Below w.heap.size w w'):QR w6 qb sb s w' cells T k v n rows l:=
 ⟨(b.block qb (Array.getElem?_eq_some_iff.1 h.box).1).trans h.box,h.src.keep b,own_below h.own b,h.tr.trans (Trn.of_below b),h.hq,h.hs,h.hne⟩
theorem QR.bytes (h:QR w6 qb sb s w cells T k v n rows l) (t:Trn (fun x=>x=sb) w w') (hs:TkL w' sb s l'):QR w6 qb sb s w' cells T k v n rows l':=by
 have h1:=h.hs
 exact ⟨t.heap h.box h.hne,hs,own_trn h.own t (fun b hb e=>by have:=own_ge h.own hb;have e':b=sb:=e;omega),h.tr.trans (t.mono fun i e=>.inr e),h.hq,h.hs,h.hne⟩
theorem QR.grow {v':Value} {more:List Value} {i:Nat} (h:QR w6 qb sb s w cells T k v n rows l) (hg:w.grownBy w' v.ownBlock) (ho:w'.ownsRow w6.heap.size T k v' (n+1) (rows ++ more)) :
  QR w6 qb sb s (w'.setCell ⟨qb,i,none⟩ v') (cells.setIfInBounds i v') T k v' (n+1) (rows ++ more) l:=by
 have h1:=h.hq
 have h2:=h.hs
 have t:=Trn.of_grown (S:=fun b=>v.ownBlock=some b) hg (fun b e=>e)
 have hsc:=setCell_trn w' ⟨qb,i,none⟩ v'
 have hbx:=t.heap h.box (fun e=>by have:=own_ge h.own e;omega)
 have hsr:TkL w' sb s l:=h.src.at (t.block sb h.src.lt (fun e=>by have:=own_ge h.own e;omega))
 have hb1:=heap_setCell_same w' qb i _ _ v' hbx
 exact ⟨by simpa using hb1,hsr.at (hsc.block sb hsr.lt (fun e=>h.hne (show sb=qb from e).symm)),own_trn ho hsc (fun b hb e=>by have:=own_ge ho hb;have e':b=qb:=e;omega),(h.tr.step t (fun j hj e=>by have:=own_ge h.own e;omega)).step hsc (fun j hj e=>.inl e),h.hq,h.hs,h.hne⟩
theorem QR.put {u:Value} {i:Nat} (h:QR w6 qb sb s w cells T k v n rows l):QR w6 qb sb s (w.setCell ⟨qb,i,none⟩ u) (cells.setIfInBounds i u) T k v n rows l:=by
 have h1:=h.hq
 have hsc:=setCell_trn w ⟨qb,i,none⟩ u
 have hb1:=heap_setCell_same w qb i _ _ u h.box
 exact ⟨by simpa using hb1,h.src.at (hsc.block sb h.src.lt (fun e=>h.hne (show sb=qb from e).symm)),own_trn h.own hsc (fun b hb e=>by have:=own_ge h.own hb;have e':b=qb:=e;omega),h.tr.step hsc (fun j hj e=>.inl e),h.hq,h.hs,h.hne⟩
end
theorem policyR_good (s:ByteArray) (p:ProgD) (cv av fv mv:Value) (w:World) (h:RdProg none w p cv av fv mv) (hsz:s.size≤5000) (hl:(allCode p).length≤100000000) (hcl:p.chans.length≤100000000)
  (hck:∀ z,Below w.heap.size w z→Calls Tryz.prog 24 #[progV p cv av fv mv] z fun e w'=>e=.returned (.tuple #[.agg #[.int .i64 0,.int .i64 0],.int .i64 0])∧Below z.heap.size z w') :
  Calls Tryz.prog 9 #[.string s,progV p cv av fv mv] w fun e w'=>∃ lv ov cu su,e=.returned (polZV (polS p.chans (sitesAll p) s.data.toList).1 lv ov cu su)∧RdPolZ w' (polS p.chans (sitesAll p) s.data.toList).1 lv ov cu su∧Below w.heap.size w w':=by
 obtain ⟨hrc,hra,hrf,hrm,hrw⟩:=id h
 obtain ⟨ac,kc,rfl,-,-⟩:=id hrc
 obtain ⟨aa,ka,rfl,-,-⟩:=id hra
 obtain ⟨af,kf,rfl,-,-⟩:=id hrf
 obtain ⟨am,km,rfl,-,-⟩:=id hrm
 have H:=Lib.hid h
 have HCK:=Lib.hid hck
 have HCL:=Lib.hid hcl
 have HLN:=Lib.hid hl
 have HSZ:=Lib.hid hsz
 obtain ⟨l,hsl⟩:∃ x,s.data.toList=x:=⟨_,rfl⟩
 rw [hsl]
 have HSL:=Lib.hid hsl
 have k1:=(Below.refl w.heap.size w).alloc (Nat.le_refl _) (.cells #[.int .i64 p.width,.slice ac p.chans.length kc,.slice aa p.arrays.length ka,.slice af p.funcs.length kf,.slice am p.main.length km] 28)
 have k2:=k1.alloc (by simp) (.cells #[.slice none 0 0,.slice none 0 0,.slice none 0 0,.slice none 0 0,.bool false,.int .i64 0,.int .i64 0,.int .i64 0,.int .i64 0] 34)
 have g2:=heap2_of (w:=w) (A:=.cells #[.int .i64 p.width,.slice ac p.chans.length kc,.slice aa p.arrays.length ka,.slice af p.funcs.length kf,.slice am p.main.length km] 28 (0,0)) (B:=.cells #[.slice none 0 0,.slice none 0 0,.slice none 0 0,.slice none 0 0,.bool false,.int .i64 0,.int .i64 0,.int .i64 0,.int .i64 0] 34 (0,0)) (Below.refl _ _)
 have HB2:=Lib.hid k2
 have HP2:=Lib.hid g2.1
 have HR2:=Lib.hid g2.2.1
 clear h hrc hra hrf hrm hrw k1 k2 g2 hck hl hcl hsz hsl
 go_enter Tryz.func9,Tryz.ntmps9
 go_upto_region 1 with fail
 generalize (w.alloc (.cells #[.int .i64 p.width,.slice ac p.chans.length kc,.slice aa p.arrays.length ka,.slice af p.funcs.length kf,.slice am p.main.length km] 28)).alloc (.cells #[.slice none 0 0,.slice none 0 0,.slice none 0 0,.slice none 0 0,.bool false,.int .i64 0,.int .i64 0,.int .i64 0,.int .i64 0] 34)=W at *
 obtain ⟨r,hr⟩:∃ r,w.heap.size=r:=⟨_,rfl⟩
 rw [hr] at HP2 HR2
 try rw [hr]
 have HRR:=Lib.hid hr
 clear hr
 have HC1:=Lib.hid (HCK.out W HB2.out)
 have p0:=row_of HP2.out 0 _ rfl
 have p1:=row_of HP2.out 1 _ rfl
 have p2:=row_of HP2.out 2 _ rfl
 have p3:=row_of HP2.out 3 _ rfl
 have p4:=row_of HP2.out 4 _ rfl
 go_upto_region 4 with (go_at_call 24;refine HC1.out.mono ?_;rintro e z ⟨rfl,hz⟩;have HBZ:=Lib.hid hz;clear hz)
 clear p0 p1 p2 p3 p4 HC1
 have j0:=(Below.refl z.heap.size z).alloc (Nat.le_refl _) (.cells #[.int .i64 0,.int .i64 0] 42)
 have HB3:=Lib.hid (bcomp HBZ.out j0)
 clear j0 HBZ
 go_upto_region 6 with fail
 have e3:(z.alloc (.cells #[.int .i64 0,.int .i64 0] 42)).heap.size=z.heap.size+1:=by simp
 obtain ⟨sb,hsb⟩:∃ x,z.heap.size+1=x:=⟨_,rfl⟩
 rw [hsb] at e3
 rw [hsb]
 clear hsb
 generalize z.alloc (.cells #[.int .i64 0,.int .i64 0] 42)=w3 at *
 have j1:=(Below.refl w3.heap.size w3).alloc (Nat.le_refl _) (.cells #[.string s,.int .i64 0] 50)
 have j2:=j1.alloc (by simp) (.cells #[.slice none 0 0,.slice none 0 0,.slice none 0 0,.slice none 0 0,.bool false,.int .i64 0,.int .i64 0,.int .i64 0,.int .i64 0] 34)
 have g2:=heap2_of (w:=w3) (A:=.cells #[.string s,.int .i64 0] 50 (0,0)) (B:=.cells #[.slice none 0 0,.slice none 0 0,.slice none 0 0,.slice none 0 0,.bool false,.int .i64 0,.int .i64 0,.int .i64 0,.int .i64 0] 34 (0,0)) (Below.refl _ _)
 have HB4:=Lib.hid (bcomp HB3.out j2)
 have HS4:Hid (TkL ((w3.alloc (.cells #[.string s,.int .i64 0] 50)).alloc (.cells #[.slice none 0 0,.slice none 0 0,.slice none 0 0,.slice none 0 0,.bool false,.int .i64 0,.int .i64 0,.int .i64 0,.int .i64 0] 34)) w3.heap.size s l):=⟨0,g2.1,Nat.zero_le _,HSL.out⟩
 have HQ4:=Lib.hid g2.2.1
 clear j1 j2 g2
 generalize (w3.alloc (.cells #[.string s,.int .i64 0] 50)).alloc (.cells #[.slice none 0 0,.slice none 0 0,.slice none 0 0,.slice none 0 0,.bool false,.int .i64 0,.int .i64 0,.int .i64 0,.int .i64 0] 34)=w4 at *
 have hr3:r+1<w3.heap.size:=by have:=HB3.out.size;have:=(Array.getElem?_eq_some_iff.1 HR2.out).1;omega
 rw [e3] at HS4 HQ4 hr3
 clear e3
 obtain ⟨k,hv⟩:∃ x,(takeS 4 l).1=x:=⟨_,rfl⟩
 obtain ⟨l1,hl1⟩:∃ x,(takeS 4 l).2=x:=⟨_,rfl⟩
 have hk4:k<4:=by rw [← hv];exact take_small 4 l (by omega)
 have ht:=takeR_any sb s l 4 w4 HS4.out HSZ.out (by omega) (by omega)
 rw [hv,hl1] at ht
 have HT:=Lib.hid ht
 have HX1:Hid (takeS 4 l=(k,l1)):=(by show _=_;rw [← hv,← hl1])
 clear ht hv hl1
 go_upto_region 8 with (go_at_call 13;refine HT.out.mono ?_;rintro e w5 ⟨rfl,hs1,ht1⟩;have HS5:=Lib.hid hs1;have HT5:=Lib.hid ht1;clear hs1 ht1)
 clear HT HS4
 have HQ5:=Lib.hid (HT5.out.heap HQ4.out (by omega))
 have HL0:=Lib.hid (QR.start HQ5.out HS5.out (by omega) 9 1)
 obtain ⟨iS,hiS,hzS0,hzS1,hzS2⟩:=info_parts infoStrY
 go_loopw [10] (fun v wr=>∃ (i:Nat) (lv:Value),i≤k+1∧v=.int .i64 i∧QR w5 (sb+1) sb s wr #[lv,.slice none 0 0,.slice none 0 0,.slice none 0 0,.bool false,.int .i64 0,.int .i64 0,.int .i64 0,.int .i64 0] 9 1 lv i (((List.range i).map (nmS 108)).flatMap strCells) l1) (fun v _=>k+1 - (intOf v).toNat)
 case atStart=>exact ⟨0,_,Nat.zero_le _,rfl,HL0.out⟩
 case round=>
  obtain ⟨i,lv,hi,rfl,hq⟩:=hrel
  obtain ⟨w6,rfl⟩:∃ x:World,x=wr:=⟨_,rfl⟩
  have HL:=Lib.hid hq
  clear hq
  by_cases hlt:i≤k
  ·have hlt1:(i:Int)≤(k:Int):=by omega
   go_upto_region 10 with fail
   have q1:=keepS_cell (S:=[sb+1]) (by simp) (row_of HL.out.box 0 lv rfl)
   refine wp_region_mixS [sb+1] (.one [0,1,2] 3 (.one [] 4 (.one [] 5 (tailOf [6,7])))) (fun j=>decide (6≤j)) (by kernel_rfl) (by kernel_rfl) rfl (by kernel_rfl) (fun _ d _ _ _ h=>by cases d <;> exact h) ?_
   have HBd:Hid (Below w6.heap.size w6 w6.drew):=(Below.refl _ _).drew
   generalize w6.drew=y0 at *
   have hpx:=(Array.getElem?_eq_some_iff.1 HL.out.box).1
   have ONE:Hid (∀ z:World,z.heap[sb+1]?=w6.heap[sb+1]?→∀ b ∈ [sb+1],z.heap[b]?=w6.heap[b]?):=fun z hz b hb=>by
    simp only [List.mem_cons,List.not_mem_nil,or_false] at hb
    subst hb
    exact hz
   have HKn:=Lib.hid (ONE.out y0 (HBd.out.block _ hpx))
   refine mix_one (by simp only [opsOf,List.filterMap_cons,List.filterMap_nil,List.getElem?_toArray,List.getElem?_cons_succ,List.getElem?_cons_zero];rfl) ⟨_,keepS_of HKn.out⟩ ?_
   change wpQuiet _ _ _ _ [_,_,_] _
   (repeat (go_big_quiet_step (fail)))
   clear q1
   refine wpQuiet_nil ?_
   obtain ⟨ns,hns⟩:∃ y,nmS 108 i=y:=⟨_,rfl⟩
   have hN:=nameR_any 108 i (by omega) y0
   rw [hns] at hN
   have HN:=Lib.hid hN
   have HNS:=Lib.hid hns
   clear hN hns
   refine mix_step rfl ?_
   go_wp2_with (go_at_call 14;refine HN.out.mono ?_;rintro e z ⟨rfl,rfl⟩)
   (first|refine ⟨fun _=>⟨_,keepS_of HKn.out⟩,?_⟩|refine ⟨⟨_,keepS_of HKn.out⟩,?_⟩)
   refine mix_now ?_
   refine mix_step rfl ?_
   go_wp2_with fail
   have hal:=(Below.refl z.heap.size z).alloc (Nat.le_refl _) (.cells #[.string ns] 9)
   have hnw:=heap_alloc_new z (.cells #[.string ns] 9)
   have HB2:=Lib.hid (bcomp HBd.out hal)
   have HK2:=Lib.hid (ONE.out (z.alloc (.cells #[.string ns] 9)) (HB2.out.block _ hpx))
   obtain ⟨g2,hg2⟩:∃ x,z.heap.size=x:=⟨_,rfl⟩
   rw [hg2] at hnw
   try rw [hg2]
   have HF2:=Lib.hid hnw
   clear hal hnw hg2
   generalize z.alloc (.cells #[.string ns] 9)=y2 at *
   (first|refine ⟨fun _=>⟨_,keepS_of HK2.out⟩,?_⟩|refine ⟨⟨_,keepS_of HK2.out⟩,?_⟩)
   have HL5:=Lib.hid (HL.out.later HB2.out)
   have hfy2:w5.heap.size≤y2.heap.size:=HL5.out.tr.size
   refine mix_now ?_
   refine mix_step rfl ?_
   try (simp only [Act.put,List.setIfInBounds_toArray,List.set_cons_succ,List.set_cons_zero,List.getElem_toArray,List.getElem_cons_succ,List.getElem_cons_zero])
   refine wpList_append_own_at _ rfl (.tmp 34) (.tmp 37) 23 rfl w5.heap.size 9 iS (.string ⟨#[]⟩) 1 16 Tryz.underlying23 hiS hzS0 hzS1 hzS2 rfl (by decide) _ _ _ rfl HL5.out.own ⟨g2,0,none⟩ 1 1 [.string ns] rfl rfl ?qa1 ?qb1 ?qc1 ?qd1 hfy2 ?_
   case qa1=>
    intro j u hu
    match j,hu with
    | 0,hu=>simp only [List.getElem?_cons_zero,Option.some.injEq] at hu;subst hu;exact row_of HF2.out 0 _ rfl
    | j+1,hu=>simp at hu
   case qb1=>intro u hu;simp only [List.mem_cons,List.not_mem_nil,or_false] at hu;subst hu;rfl
   case qc1=>unfold maxLen;omega
   case qd1=>omega
   intro v' y3 hown' hgrow _ hblk
   obtain ⟨xa,xc,rfl,_⟩:=own_read hown'
   have hbx3:=(Trn.of_grown (S:=fun b=>lv.ownBlock=some b) hgrow (fun b e=>e)).heap HL5.out.box (not_ownY HL5.out.own HL5.out.box (by decide))
   have HBX:=Lib.hid hbx3
   have HL6:=Lib.hid (HL5.out.grow (i:=0) hgrow hown')
   clear hown' hgrow hblk hbx3
   try (simp only [Act.put,List.setIfInBounds_toArray,List.set_cons_succ,List.set_cons_zero,List.getElem_toArray,List.getElem_cons_succ,List.getElem_cons_zero])
   go_wp2_with fail
   have HK3:=Lib.hid (ONE.out y3 (HBX.out.trans HL.out.box.symm))
   (first|refine ⟨fun _=>⟨_,keepS_of HK3.out⟩,?_⟩|refine ⟨⟨_,keepS_of HK3.out⟩,?_⟩)
   have c1:=row_of HBX.out 0 lv rfl
   have f1:=frozen_of_row y3 (sb+1) 0 _ _ HBX.out
   refine mix_tail [6,7] [_,_] _ _ rfl rfl ?_
   simp only [Act.put,List.setIfInBounds_toArray,List.set_cons_succ,List.set_cons_zero,List.getElem_toArray,List.getElem_cons_succ,List.getElem_cons_zero]
   go_wp2_with fail
   clear c1 f1
   go_roundw
   case rel=>exact ⟨i+1,_,by omega,by go_num,by
    have h:=HL6.out
    rw [← HNS.out] at h
    rw [List.range_succ,List.map_append,List.flatMap_append]
    simpa [strCells] using h⟩
   case measure=>simp [intOf];omega
  ·have hlt1:¬ (i:Int)≤(k:Int):=by omega
   obtain rfl:i=k+1:=by omega
   obtain ⟨la,lc,rfl,-⟩:=own_read HL.out.own
   have hsb:sb+1<w6.heap.size:=(Array.getElem?_eq_some_iff.1 HL.out.box).1
   have hk16:k=0 ∨ k=1 ∨ k=2 ∨ k=3:=by omega
   have hkc:((k+1:Nat):Int)=(k:Int)+1:=by omega
   have HKC:=Lib.hid hkc
   clear hkc
   go_upto_block 2 with fail
   go_cut [] from 41 to 59 (fun wx=>∃ ov,SetZ pairZ 2 (sb+1) wx ov (orderS k)∧wx.heap[sb+1]?=some (.cells #[.slice la (k+1) lc,ov,.slice none 0 0,.slice none 0 0,.bool false,.int .i64 0,.int .i64 0,.int .i64 0,.int .i64 0] 34 (0,0))∧Trn (fun x=>x=sb+1) w6 wx)
   case first=>
    rcases hk16 with rfl|rfl|rfl|rfl
    ·go_wp2_with fail
     go_meet
     exact ⟨.slice none 0 0,⟨⟨none,0,rfl,⟨by simp [orderS],by simp [orderS]⟩,fun i x hi=>by simp [orderS] at hi⟩,fun a n c hv=>by cases hv⟩,HL.out.box,Trn.refl _ _⟩
    ·skip
     have hsc:=setCell_trn w6 ⟨sb+1,1,none⟩ (.slice (some ⟨w6.heap.size,0,none⟩) 1 1)
     have hb:=heap_setCell_same w6 (sb+1) 1 _ _ (.slice (some ⟨w6.heap.size,0,none⟩) 1 1) HL.out.box
     have hal:=(Below.refl _ (w6.setCell ⟨sb+1,1,none⟩ (.slice (some ⟨w6.heap.size,0,none⟩) 1 1))).alloc (Nat.le_refl _) (.cells #[.int .i64 0,.int .i64 1] 74)
     have hn:=heap_alloc_new (w6.setCell ⟨sb+1,1,none⟩ (.slice (some ⟨w6.heap.size,0,none⟩) 1 1)) (.cells #[.int .i64 0,.int .i64 1] 74)
     rw [show (w6.setCell ⟨sb+1,1,none⟩ (.slice (some ⟨w6.heap.size,0,none⟩) 1 1)).heap.size=w6.heap.size by simp] at hn
     have c1:=row_of HL.out.box 1 _ rfl
     have f1:=frozen_of_row w6 (sb+1) 1 _ _ HL.out.box
     have HB1:=Lib.hid ((hal.block (sb+1) (by simpa using hsb)).trans hb)
     have HN1:=Lib.hid hn
     have HT1:=Lib.hid (hsc.trans (Trn.of_below hal))
     clear hal hn hb hsc
     go_wp2_with fail
     go_meet
     exact ⟨.slice (some ⟨w6.heap.size,0,none⟩) 1 1,⟨rdZ_row (f:=pairZ) (fun _=>rfl) (l:=orderS 1) HN1.out (by simp [orderS]),fun a n c hv=>by cases hv;exact hsb⟩,HB1.out,HT1.out⟩
    ·skip
     have hsc:=setCell_trn w6 ⟨sb+1,1,none⟩ (.slice (some ⟨w6.heap.size,0,none⟩) 2 2)
     have hb:=heap_setCell_same w6 (sb+1) 1 _ _ (.slice (some ⟨w6.heap.size,0,none⟩) 2 2) HL.out.box
     have hal:=(Below.refl _ (w6.setCell ⟨sb+1,1,none⟩ (.slice (some ⟨w6.heap.size,0,none⟩) 2 2))).alloc (Nat.le_refl _) (.cells #[.int .i64 0,.int .i64 1,.int .i64 1,.int .i64 2] 74)
     have hn:=heap_alloc_new (w6.setCell ⟨sb+1,1,none⟩ (.slice (some ⟨w6.heap.size,0,none⟩) 2 2)) (.cells #[.int .i64 0,.int .i64 1,.int .i64 1,.int .i64 2] 74)
     rw [show (w6.setCell ⟨sb+1,1,none⟩ (.slice (some ⟨w6.heap.size,0,none⟩) 2 2)).heap.size=w6.heap.size by simp] at hn
     have c1:=row_of HL.out.box 1 _ rfl
     have f1:=frozen_of_row w6 (sb+1) 1 _ _ HL.out.box
     have HB1:=Lib.hid ((hal.block (sb+1) (by simpa using hsb)).trans hb)
     have HN1:=Lib.hid hn
     have HT1:=Lib.hid (hsc.trans (Trn.of_below hal))
     clear hal hn hb hsc
     go_wp2_with fail
     go_meet
     exact ⟨.slice (some ⟨w6.heap.size,0,none⟩) 2 2,⟨rdZ_row (f:=pairZ) (fun _=>rfl) (l:=orderS 2) HN1.out (by simp [orderS]),fun a n c hv=>by cases hv;exact hsb⟩,HB1.out,HT1.out⟩
    ·skip
     have hsc:=setCell_trn w6 ⟨sb+1,1,none⟩ (.slice (some ⟨w6.heap.size,0,none⟩) 4 4)
     have hb:=heap_setCell_same w6 (sb+1) 1 _ _ (.slice (some ⟨w6.heap.size,0,none⟩) 4 4) HL.out.box
     have hal:=(Below.refl _ (w6.setCell ⟨sb+1,1,none⟩ (.slice (some ⟨w6.heap.size,0,none⟩) 4 4))).alloc (Nat.le_refl _) (.cells #[.int .i64 0,.int .i64 1,.int .i64 0,.int .i64 2,.int .i64 1,.int .i64 3,.int .i64 2,.int .i64 3] 74)
     have hn:=heap_alloc_new (w6.setCell ⟨sb+1,1,none⟩ (.slice (some ⟨w6.heap.size,0,none⟩) 4 4)) (.cells #[.int .i64 0,.int .i64 1,.int .i64 0,.int .i64 2,.int .i64 1,.int .i64 3,.int .i64 2,.int .i64 3] 74)
     rw [show (w6.setCell ⟨sb+1,1,none⟩ (.slice (some ⟨w6.heap.size,0,none⟩) 4 4)).heap.size=w6.heap.size by simp] at hn
     have c1:=row_of HL.out.box 1 _ rfl
     have f1:=frozen_of_row w6 (sb+1) 1 _ _ HL.out.box
     have HB1:=Lib.hid ((hal.block (sb+1) (by simpa using hsb)).trans hb)
     have HN1:=Lib.hid hn
     have HT1:=Lib.hid (hsc.trans (Trn.of_below hal))
     clear hal hn hb hsc
     go_wp2_with fail
     go_meet
     exact ⟨.slice (some ⟨w6.heap.size,0,none⟩) 4 4,⟨rdZ_row (f:=pairZ) (fun _=>rfl) (l:=orderS 3) HN1.out (by simp [orderS]),fun a n c hv=>by cases hv;exact hsb⟩,HB1.out,HT1.out⟩
   case rest=>
    obtain ⟨ov,hov,hbx,htr⟩:=hcut
    obtain ⟨w7,rfl⟩:∃ x:World,x=wc:=⟨_,rfl⟩
    have hw56:sb+1<w5.heap.size:=HL.out.hq
    have HT57:=Lib.hid (HL.out.tr.trans (htr.mono (T:=fun x=>x=sb+1 ∨ x=sb) (fun i e=>.inl e)))
    have hlv:=own_trn HL.out.own htr (fun b hb e=>by have:=own_ge HL.out.own hb;have e':b=sb+1:=e;omega)
    have hll:((List.range (k+1)).map (nmS 108)).length=k+1:=by simp
    have HLV:=Lib.hid (SetZ.own (f:=strCells) (l:=(List.range (k+1)).map (nmS 108)) (fun _=>rfl) (by rw [hll];exact hlv) (by rw [hll];omega) Nat.one_pos hw56)
    have HOV:=Lib.hid hov
    have hp4:=(HB4.out.block r (Array.getElem?_eq_some_iff.1 HP2.out).1).trans HP2.out
    have hp5:=HT5.out.heap hp4 (by show ¬ r=sb;omega)
    have HP7:=Lib.hid (HT57.out.heap hp5 (by show ¬ (r=sb+1 ∨ r=sb);omega))
    have hr4:=(HB4.out.block (r+1) (Array.getElem?_eq_some_iff.1 HR2.out).1).trans HR2.out
    have hr5:=HT5.out.heap hr4 (by show ¬ r+1=sb;omega)
    have HR7:=Lib.hid (HT57.out.heap hr5 (by show ¬ (r+1=sb+1 ∨ r+1=sb);omega))
    have hrs:w.heap.size=r:=HRR.out
    have hb4:=HB2.out.trans (HB4.out.mono HB2.out.size)
    have hb5:=HT5.out.below w.heap.size hb4.size (fun i hi e=>by have e':i=sb:=e;omega)
    have hb7:=HT57.out.below w.heap.size (Nat.le_trans hb4.size hb5.size) (fun i hi e=>by have e':i=sb+1 ∨ i=sb:=e;omega)
    have HBW7:=Lib.hid ((hb4.trans hb5).trans hb7)
    have HLT:Hid (∀ {a b:World},w.heap.size≤a.heap.size→Trn (fun x=>x=sb+1 ∨ x=sb) a b→Below w.heap.size a b):=fun hs t=>t.below w.heap.size hs (fun i hi e=>by have e':i=sb+1 ∨ i=sb:=e;omega)
    have HQ0:=Lib.hid (QR.start hbx (HL.out.src.at (htr.block sb HL.out.src.lt (by show ¬ sb=sb+1;omega))) (by omega) 76 2)
    obtain ⟨oa,oc,rfl,-⟩:=id hov.1
    obtain ⟨iB,hiB,hzB0,hzB1,hzB2⟩:=info_parts infoBindZ
    have hsr:r+1<sb:=hr3
    clear hll hlv hov hbx htr hp4 hp5 hr4 hr5 hb4 hb5 hb7 HT57 HL HL0 HT5 HB4 HB3 HB2 HP2 HR2 HQ5 HS5 HQ4 hiS hzS0 hzS1 hzS2 hsb hlt1 hrs
    have hcl:p.chans.length≤100000000:=HCL.out
    go_upto_region 19 with fail
    go_loopw [11] (fun v wr=>∃ (i:Nat) (cu:Value),i≤p.chans.length∧v=.int .i64 i∧QR w7 (sb+1) sb s wr #[.slice la (k+1) lc,.slice oa (orderS k).length oc,cu,.slice none 0 0,.bool false,.int .i64 0,.int .i64 0,.int .i64 0,.int .i64 0] 76 2 cu i ((bindsZ k (p.chans.take i) l1).1.flatMap bindC) (bindsZ k (p.chans.take i) l1).2) (fun v _=>p.chans.length - (intOf v).toNat)
    case atStart=>exact ⟨0,_,Nat.zero_le _,rfl,HQ0.out⟩
    case round=>
     obtain ⟨i,cu,hi,rfl,hq⟩:=hrel
     obtain ⟨w8,rfl⟩:∃ x:World,x=wr:=⟨_,rfl⟩
     have HQ:=Lib.hid hq
     clear hq
     have HP8:=Lib.hid (HQ.out.tr.heap HP7.out (by show ¬ (r=sb+1 ∨ r=sb);omega))
     have p1:=row_of HP8.out 1 _ rfl
     by_cases hlt:i<p.chans.length
     ·have hlt1:(i:Int)<(p.chans.length:Int):=by omega
      obtain ⟨c,hc⟩:∃ c,p.chans[i]?=some c:=⟨_,List.getElem?_eq_getElem hlt⟩
      have hbw:=HBW7.out.trans (HLT.out HBW7.out.size HQ.out.tr)
      obtain ⟨_,_,he,-,hr⟩:=H.out.1
      simp only [Value.slice.injEq,true_and] at he
      obtain ⟨rfl,rfl⟩:=he
      obtain ⟨b,o,rfl,-,qw,-⟩:=hr i c hc
      have hbr:b<r:=by have h1:b<w.heap.size:=block_lt_of_cell qw;have h2:=HRR.out;omega
      have q0:=cell_keep hbw qw
      have hs7:sb+1<w7.heap.size:=HQ.out.hq
      have hs78:w7.heap.size≤w8.heap.size:=HQ.out.tr.size
      have HSX:Hid (∀ x ∈ [sb+1,r,b],x<w8.heap.size∧¬ x=sb∧x<w7.heap.size):=fun x hx=>by
       simp only [List.mem_cons,List.not_mem_nil,or_false] at hx
       rcases hx with rfl|rfl|rfl <;> omega
      have HST:Hid (bindsZ k (p.chans.take (i+1)) l1=((bindsZ k (p.chans.take i) l1).1 ++ [⟨c,(takeS (k+1) (bindsZ k (p.chans.take i) l1).2).1⟩],(takeS (k+1) (bindsZ k (p.chans.take i) l1).2).2)):=by show _=_;rw [two_step hc,binds_snoc]
      obtain ⟨BS,hBS⟩:∃ x,(bindsZ k (p.chans.take i) l1).1=x:=⟨_,rfl⟩
      obtain ⟨lb,hlb⟩:∃ x,(bindsZ k (p.chans.take i) l1).2=x:=⟨_,rfl⟩
      rw [hBS,hlb] at HST HQ
      clear hc hr hBS hlb hbw qw
      go_upto_region 21 with fail
      clear p1
      have q2:=keepS_cell (S:=[sb+1,r,b]) (by simp) (row_of HP8.out 1 _ rfl)
      have q3:=keepS_cell (S:=[sb+1,r,b]) (by simp) q0
      clear q0
      have q1:=keepS_cell (S:=[sb+1,r,b]) (by simp) (row_of HQ.out.box 2 cu rfl)
      refine wp_region_mixS [sb+1,r,b] (.one [0,1,2,3,4,5,6,7,8,9] 10 (.one [11] 12 (.one [] 13 (tailOf [14,15])))) (fun j=>decide (14≤j)) (by kernel_rfl) (by kernel_rfl) rfl (by kernel_rfl) (fun _ d _ _ _ h=>by cases d <;> exact h) ?_
      have HBd:Hid (Below w8.heap.size w8 w8.drew):=(Below.refl _ _).drew
      generalize w8.drew=y0 at *
      have HK0:Hid (∀ x ∈ [sb+1,r,b],y0.heap[x]?=w8.heap[x]?):=fun x hx=>HBd.out.block x (HSX.out x hx).1
      refine mix_one (by simp only [opsOf,List.filterMap_cons,List.filterMap_nil,List.getElem?_toArray,List.getElem?_cons_succ,List.getElem?_cons_zero];rfl) ⟨_,keepS_of HK0.out⟩ ?_
      change wpQuiet _ _ _ _ [_,_,_,_,_,_,_,_,_,_] _
      (repeat (go_big_quiet_step (fail)))
      clear q1 q2 q3
      refine wpQuiet_nil ?_
      have HQ1:=Lib.hid (HQ.out.later HBd.out)
      have ht:=takeR_any sb s lb (k+1) y0 HQ1.out.src HSZ.out (by omega) (by omega)
      rw [HKC.out] at ht
      obtain ⟨t,htv⟩:∃ x,(takeS (k+1) lb).1=x:=⟨_,rfl⟩
      obtain ⟨l2',htl⟩:∃ x,(takeS (k+1) lb).2=x:=⟨_,rfl⟩
      rw [htv,htl] at ht HST
      have HT:=Lib.hid ht
      have ht4:t<4:=by rw [← htv];exact Nat.lt_of_lt_of_le (take_small (k+1) lb (by omega)) (by omega)
      clear ht htv htl
      refine mix_step rfl ?_
      go_wp2_with (go_at_call 13;refine HT.out.mono ?_;rintro e z ⟨rfl,hs1,ht1⟩)
      have HK1:=Lib.hid (keepL_step HK0.out ht1 (fun x hx=>⟨Nat.lt_of_lt_of_le (HSX.out x hx).2.2 HQ1.out.tr.size,(HSX.out x hx).2.1⟩))
      have HQ2:=Lib.hid (HQ1.out.bytes ht1 hs1)
      clear hs1 ht1 HT
      (first|refine ⟨fun _=>⟨_,keepS_of HK1.out⟩,?_⟩|refine ⟨⟨_,keepS_of HK1.out⟩,?_⟩)
      refine mix_one (by simp only [opsOf,List.filterMap_cons,List.filterMap_nil,List.getElem?_toArray,List.getElem?_cons_succ,List.getElem?_cons_zero];rfl) ⟨_,keepS_of HK1.out⟩ ?_
      change wpQuiet _ _ _ _ [_] _
      (repeat (go_big_quiet_step (fail)))
      refine wpQuiet_nil ?_
      refine mix_step rfl ?_
      go_wp2_with fail
      have hal:=(Below.refl z.heap.size z).alloc (Nat.le_refl _) (.cells #[.string c,.int .i64 (t:Nat)] 76)
      have hnw:=heap_alloc_new z (.cells #[.string c,.int .i64 (t:Nat)] 76)
      have HQ3:=Lib.hid (HQ2.out.later hal)
      have HK2:=Lib.hid (keepL_step HK1.out (Trn.of_below (S:=fun _=>False) hal) (fun x hx=>⟨Nat.lt_of_lt_of_le (HSX.out x hx).2.2 HQ2.out.tr.size,id⟩))
      obtain ⟨g2,hg2⟩:∃ x,z.heap.size=x:=⟨_,rfl⟩
      rw [hg2] at hnw
      try rw [hg2]
      have HF2:=Lib.hid hnw
      clear hal hnw hg2
      generalize z.alloc (.cells #[.string c,.int .i64 (t:Nat)] 76)=y2 at *
      (first|refine ⟨fun _=>⟨_,keepS_of HK2.out⟩,?_⟩|refine ⟨⟨_,keepS_of HK2.out⟩,?_⟩)
      have hfy2:w7.heap.size≤y2.heap.size:=HQ3.out.tr.size
      refine mix_now ?_
      refine mix_step rfl ?_
      try (simp only [Act.put,List.setIfInBounds_toArray,List.set_cons_succ,List.set_cons_zero,List.getElem_toArray,List.getElem_cons_succ,List.getElem_cons_zero])
      refine wpList_append_own_at _ rfl (.tmp 68) (.tmp 79) 32 rfl w7.heap.size 76 iB (.agg #[.string ⟨#[]⟩,.int .i64 0]) 2 24 Tryz.underlying32 hiB hzB0 hzB1 hzB2 rfl (by decide) _ _ _ rfl HQ3.out.own ⟨g2,0,none⟩ 1 1 [.string c,.int .i64 (t:Nat)] rfl rfl ?qa2 ?qb2 ?qc2 ?qd2 hfy2 ?_
      case qa2=>
       intro j u hu
       match j,hu with
       | 0,hu=>simp only [List.getElem?_cons_zero,Option.some.injEq] at hu;subst hu;exact row_of HF2.out 0 _ rfl
       | 1,hu=>simp only [List.getElem?_cons_succ,List.getElem?_cons_zero,Option.some.injEq] at hu;subst hu;exact row_of HF2.out 1 _ rfl
       | j+2,hu=>simp at hu
      case qb2=>intro u hu;simp only [List.mem_cons,List.not_mem_nil,or_false] at hu;rcases hu with rfl|rfl <;> rfl
      case qc2=>unfold maxLen;omega
      case qd2=>omega
      intro v' y3 hown' hgrow _ hblk
      obtain ⟨xa,xc,rfl,_⟩:=own_read hown'
      have hbx3:=(Trn.of_grown (S:=fun b=>cu.ownBlock=some b) hgrow (fun b e=>e)).heap HQ3.out.box (not_ownY HQ3.out.own HQ3.out.box (by decide))
      have HBX:=Lib.hid hbx3
      have HK3:=Lib.hid (keepL_step HK2.out (Trn.of_grown (S:=fun b=>cu.ownBlock=some b) hgrow (fun b e=>e)) (fun x hx=>⟨Nat.lt_of_lt_of_le (HSX.out x hx).2.2 HQ3.out.tr.size,fun e=>by have h1:=own_ge HQ3.out.own e;have h2:=(HSX.out x hx).2.2;omega⟩))
      have HQ6:=Lib.hid (HQ3.out.grow (i:=2) hgrow hown')
      clear hown' hgrow hblk hbx3
      try (simp only [Act.put,List.setIfInBounds_toArray,List.set_cons_succ,List.set_cons_zero,List.getElem_toArray,List.getElem_cons_succ,List.getElem_cons_zero])
      go_wp2_with fail
      (first|refine ⟨fun _=>⟨_,keepS_of HK3.out⟩,?_⟩|refine ⟨⟨_,keepS_of HK3.out⟩,?_⟩)
      have c1:=row_of HBX.out 2 cu rfl
      have f1:=frozen_of_row y3 (sb+1) 2 _ _ HBX.out
      refine mix_tail [14,15] [_,_] _ _ rfl rfl ?_
      simp only [Act.put,List.setIfInBounds_toArray,List.set_cons_succ,List.set_cons_zero,List.getElem_toArray,List.getElem_cons_succ,List.getElem_cons_zero]
      go_wp2_with fail
      clear c1 f1
      go_roundw
      ·exact ⟨i+1,_,by omega,by go_num,by
        have h:=HQ6.out
        rw [HST.out]
        rw [List.flatMap_append]
        simpa [bindC] using h⟩
      ·simp [intOf];omega
     ·have hlt1:¬ (i:Int)<(p.chans.length:Int):=by omega
      obtain rfl:i=p.chans.length:=by omega
      obtain ⟨ca,cc,rfl,-⟩:=own_read HQ.out.own
      rw [List.take_length] at HQ
      have hcsl:(bindsZ k p.chans l1).1.length=p.chans.length:=by have h:=congrArg List.length (binds_names k p.chans l1);rwa [List.length_map] at h
      obtain ⟨CS,hCS⟩:∃ x,(bindsZ k p.chans l1).1=x:=⟨_,rfl⟩
      obtain ⟨l2,hl2⟩:∃ x,(bindsZ k p.chans l1).2=x:=⟨_,rfl⟩
      have HX2:Hid (bindsZ k p.chans l1=(CS,l2)):=by show _=_;rw [← hCS,← hl2]
      rw [hCS] at hcsl
      rw [hCS,hl2] at HQ
      have hs7:sb+1<w7.heap.size:=HQ.out.hq
      have hs78:w7.heap.size≤w8.heap.size:=HQ.out.tr.size
      have HCU:=Lib.hid (SetZ.own (f:=bindC) (k:=2) (l:=CS) (fun _=>rfl) (by rw [hcsl];exact HQ.out.own) (by rw [hcsl];omega) (Nat.succ_pos 1) hs7)
      have HCSL:=Lib.hid hcsl
      have HSS:Hid (∀ i,(fun x=>x=sb+1 ∨ x=sb) i→i≤sb+1):=fun i e=>by have e':i=sb+1 ∨ i=sb:=e;omega
      have HLV8:=Lib.hid (HLV.out.trn HQ.out.tr HSS.out)
      have HOV8:=Lib.hid (HOV.out.trn HQ.out.tr HSS.out)
      have HR8:=Lib.hid (HQ.out.tr.heap HR7.out (by show ¬ (r+1=sb+1 ∨ r+1=sb);omega))
      have HBW8:=Lib.hid (HBW7.out.trans (HLT.out HBW7.out.size HQ.out.tr))
      have hsi:=refSites p _ _ _ _ w8 (H.out.keep HBW8.out) (by have h1:=HLN.out;unfold allCode at h1;rw [List.length_append] at h1;unfold codesOf;omega)
      rw [preC_all] at hsi
      have hsl:(sitesAll p).length≤100000000:=by have h1:=sitesY_len [] (allCode p);have h2:=HLN.out;unfold sitesAll;simp only [List.length_nil] at h1;omega
      have hsi2:Calls Tryz.prog 25 #[progV p (.slice ac p.chans.length kc) (.slice aa p.arrays.length ka) (.slice af p.funcs.length kf) (.slice am p.main.length km)] w8 fun e w'=>∃ v,e=.returned v∧RdStrs (some (upFrom w8.heap.size)) w' v (sitesAll p)∧Below w8.heap.size w8 w':=hsi
      obtain ⟨SS,hSS⟩:∃ x,sitesAll p=x:=⟨_,rfl⟩
      rw [hSS] at hsi2 hsl
      have HSI:=Lib.hid hsi2
      have HSE:=Lib.hid hSS
      clear hsi hsi2 hSS hCS hl2 hcsl HP7 HR7 HLV HOV hlt1 hlt hi
      have p0:=row_of HP8.out 0 _ rfl
      have p2:=row_of HP8.out 2 _ rfl
      have p3:=row_of HP8.out 3 _ rfl
      have p4:=row_of HP8.out 4 _ rfl
      go_upto_region 24 with (go_at_call 25;refine HSI.out.mono ?_;rintro e w9 ⟨sv,rfl,hso,hsb9⟩;obtain ⟨sa,sc,rfl,-,-⟩:=id hso;have HSV:=Lib.hid hso;have HB9:=Lib.hid hsb9;clear hso hsb9)
      clear p0 p1 p2 p3 p4 HSI HP8
      have ht89:=Trn.of_below (S:=fun x=>x=sb+1 ∨ x=sb) HB9.out
      have HS8:Hid (sb+1<w8.heap.size):=Nat.lt_of_lt_of_le hs7 hs78
      have HLV9:=Lib.hid (HLV8.out.trn ht89 HSS.out)
      have HOV9:=Lib.hid (HOV8.out.trn ht89 HSS.out)
      have HCU9:=Lib.hid ((HCU.out).trn ht89 HSS.out)
      have HR9:=Lib.hid (ht89.heap HR8.out (by show ¬ (r+1=sb+1 ∨ r+1=sb);omega))
      have HBW9:=Lib.hid (HBW8.out.trans (HLT.out HBW8.out.size ht89))
      have hq9:=HQ.out.later HB9.out
      have HQ9:=Lib.hid (QR.start hq9.box hq9.src (by omega) 76 2)
      clear ht89 HLV8 HOV8 HCU HR8 HBW8 hq9 HQ HQ0 HB9 HBW7 hs7 hs78
      go_loopw [13] (fun v wr=>∃ (i:Nat) (su:Value),i≤SS.length∧v=.int .i64 i∧QR w9 (sb+1) sb s wr #[.slice la (k+1) lc,.slice oa (orderS k).length oc,.slice ca p.chans.length cc,su,.bool false,.int .i64 0,.int .i64 0,.int .i64 0,.int .i64 0] 76 2 su i ((bindsZ k (SS.take i) l2).1.flatMap bindC) (bindsZ k (SS.take i) l2).2) (fun v _=>SS.length - (intOf v).toNat)
      case atStart=>exact ⟨0,_,Nat.zero_le _,rfl,HQ9.out⟩
      case round=>
       obtain ⟨i,cu,hi,rfl,hq⟩:=hrel
       obtain ⟨w10,rfl⟩:∃ x:World,x=wr:=⟨_,rfl⟩
       have HQ:=Lib.hid hq
       clear hq
       by_cases hlt:i<SS.length
       ·have hlt1:(i:Int)<(SS.length:Int):=by omega
        obtain ⟨c,hc⟩:∃ c,SS[i]?=some c:=⟨_,List.getElem?_eq_getElem hlt⟩
        obtain ⟨_,_,he,-,hr⟩:=HSV.out
        simp only [Value.slice.injEq,true_and] at he
        obtain ⟨rfl,rfl⟩:=he
        obtain ⟨b,o,rfl,hfree,qw,-⟩:=hr i c hc
        have hb8:w8.heap.size≤b:=(hfree _ rfl).1
        have hb9:b<w9.heap.size:=block_lt_of_cell qw
        have hs8:=HS8.out
        have hq2:=HQ.out.tr.block b hb9 (fun e=>by have e':b=sb+1 ∨ b=sb:=e;omega)
        have q0:w10.cell? ⟨b,o+i,none⟩=some (.string c):=by simpa [World.cell?,hq2] using qw
        have hs9:sb+1<w9.heap.size:=HQ.out.hq
        have hs910:w9.heap.size≤w10.heap.size:=HQ.out.tr.size
        have HSX:Hid (∀ x ∈ [sb+1,b],x<w10.heap.size∧¬ x=sb∧x<w9.heap.size):=fun x hx=>by
         simp only [List.mem_cons,List.not_mem_nil,or_false] at hx
         rcases hx with rfl|rfl <;> omega
        have HST:Hid (bindsZ k (SS.take (i+1)) l2=((bindsZ k (SS.take i) l2).1 ++ [⟨c,(takeS (k+1) (bindsZ k (SS.take i) l2).2).1⟩],(takeS (k+1) (bindsZ k (SS.take i) l2).2).2)):=by show _=_;rw [two_step hc,binds_snoc]
        obtain ⟨BS,hBS⟩:∃ x,(bindsZ k (SS.take i) l2).1=x:=⟨_,rfl⟩
        obtain ⟨lb,hlb⟩:∃ x,(bindsZ k (SS.take i) l2).2=x:=⟨_,rfl⟩
        rw [hBS,hlb] at HST HQ
        clear hc hr hBS hlb hfree qw hq2
        go_upto_region 26 with fail
        have q2:=keepS_cell (S:=[sb+1,b]) (by simp) q0
        have q3:=q2
        clear q0
        have q1:=keepS_cell (S:=[sb+1,b]) (by simp) (row_of HQ.out.box 3 cu rfl)
        refine wp_region_mixS [sb+1,b] (.one [0,1,2,3,4,5,6,7,8] 9 (.one [10] 11 (.one [] 12 (tailOf [13,14])))) (fun j=>decide (13≤j)) (by kernel_rfl) (by kernel_rfl) rfl (by kernel_rfl) (fun _ d _ _ _ h=>by cases d <;> exact h) ?_
        have HBd:Hid (Below w10.heap.size w10 w10.drew):=(Below.refl _ _).drew
        generalize w10.drew=y0 at *
        have HK0:Hid (∀ x ∈ [sb+1,b],y0.heap[x]?=w10.heap[x]?):=fun x hx=>HBd.out.block x (HSX.out x hx).1
        refine mix_one (by simp only [opsOf,List.filterMap_cons,List.filterMap_nil,List.getElem?_toArray,List.getElem?_cons_succ,List.getElem?_cons_zero];rfl) ⟨_,keepS_of HK0.out⟩ ?_
        change wpQuiet _ _ _ _ [_,_,_,_,_,_,_,_,_] _
        (repeat (go_big_quiet_step (fail)))
        clear q1 q2 q3
        refine wpQuiet_nil ?_
        have HQ1:=Lib.hid (HQ.out.later HBd.out)
        have ht:=takeR_any sb s lb (k+1) y0 HQ1.out.src HSZ.out (by omega) (by omega)
        rw [HKC.out] at ht
        obtain ⟨t,htv⟩:∃ x,(takeS (k+1) lb).1=x:=⟨_,rfl⟩
        obtain ⟨l2',htl⟩:∃ x,(takeS (k+1) lb).2=x:=⟨_,rfl⟩
        rw [htv,htl] at ht HST
        have HT:=Lib.hid ht
        have ht4:t<4:=by rw [← htv];exact Nat.lt_of_lt_of_le (take_small (k+1) lb (by omega)) (by omega)
        clear ht htv htl
        refine mix_step rfl ?_
        go_wp2_with (go_at_call 13;refine HT.out.mono ?_;rintro e z ⟨rfl,hs1,ht1⟩)
        have HK1:=Lib.hid (keepL_step HK0.out ht1 (fun x hx=>⟨Nat.lt_of_lt_of_le (HSX.out x hx).2.2 HQ1.out.tr.size,(HSX.out x hx).2.1⟩))
        have HQ2:=Lib.hid (HQ1.out.bytes ht1 hs1)
        clear hs1 ht1 HT
        (first|refine ⟨fun _=>⟨_,keepS_of HK1.out⟩,?_⟩|refine ⟨⟨_,keepS_of HK1.out⟩,?_⟩)
        refine mix_one (by simp only [opsOf,List.filterMap_cons,List.filterMap_nil,List.getElem?_toArray,List.getElem?_cons_succ,List.getElem?_cons_zero];rfl) ⟨_,keepS_of HK1.out⟩ ?_
        change wpQuiet _ _ _ _ [_] _
        (repeat (go_big_quiet_step (fail)))
        refine wpQuiet_nil ?_
        refine mix_step rfl ?_
        go_wp2_with fail
        have hal:=(Below.refl z.heap.size z).alloc (Nat.le_refl _) (.cells #[.string c,.int .i64 (t:Nat)] 76)
        have hnw:=heap_alloc_new z (.cells #[.string c,.int .i64 (t:Nat)] 76)
        have HQ3:=Lib.hid (HQ2.out.later hal)
        have HK2:=Lib.hid (keepL_step HK1.out (Trn.of_below (S:=fun _=>False) hal) (fun x hx=>⟨Nat.lt_of_lt_of_le (HSX.out x hx).2.2 HQ2.out.tr.size,id⟩))
        obtain ⟨g2,hg2⟩:∃ x,z.heap.size=x:=⟨_,rfl⟩
        rw [hg2] at hnw
        try rw [hg2]
        have HF2:=Lib.hid hnw
        clear hal hnw hg2
        generalize z.alloc (.cells #[.string c,.int .i64 (t:Nat)] 76)=y2 at *
        (first|refine ⟨fun _=>⟨_,keepS_of HK2.out⟩,?_⟩|refine ⟨⟨_,keepS_of HK2.out⟩,?_⟩)
        have hfy2:w9.heap.size≤y2.heap.size:=HQ3.out.tr.size
        refine mix_now ?_
        refine mix_step rfl ?_
        try (simp only [Act.put,List.setIfInBounds_toArray,List.set_cons_succ,List.set_cons_zero,List.getElem_toArray,List.getElem_cons_succ,List.getElem_cons_zero])
        refine wpList_append_own_at _ rfl (.tmp 91) (.tmp 101) 32 rfl w9.heap.size 76 iB (.agg #[.string ⟨#[]⟩,.int .i64 0]) 2 24 Tryz.underlying32 hiB hzB0 hzB1 hzB2 rfl (by decide) _ _ _ rfl HQ3.out.own ⟨g2,0,none⟩ 1 1 [.string c,.int .i64 (t:Nat)] rfl rfl ?qa3 ?qb3 ?qc3 ?qd3 hfy2 ?_
        case qa3=>
         intro j u hu
         match j,hu with
         | 0,hu=>simp only [List.getElem?_cons_zero,Option.some.injEq] at hu;subst hu;exact row_of HF2.out 0 _ rfl
         | 1,hu=>simp only [List.getElem?_cons_succ,List.getElem?_cons_zero,Option.some.injEq] at hu;subst hu;exact row_of HF2.out 1 _ rfl
         | j+2,hu=>simp at hu
        case qb3=>intro u hu;simp only [List.mem_cons,List.not_mem_nil,or_false] at hu;rcases hu with rfl|rfl <;> rfl
        case qc3=>unfold maxLen;omega
        case qd3=>omega
        intro v' y3 hown' hgrow _ hblk
        obtain ⟨xa,xc,rfl,_⟩:=own_read hown'
        have hbx3:=(Trn.of_grown (S:=fun b=>cu.ownBlock=some b) hgrow (fun b e=>e)).heap HQ3.out.box (not_ownY HQ3.out.own HQ3.out.box (by decide))
        have HBX:=Lib.hid hbx3
        have HK3:=Lib.hid (keepL_step HK2.out (Trn.of_grown (S:=fun b=>cu.ownBlock=some b) hgrow (fun b e=>e)) (fun x hx=>⟨Nat.lt_of_lt_of_le (HSX.out x hx).2.2 HQ3.out.tr.size,fun e=>by have h1:=own_ge HQ3.out.own e;have h2:=(HSX.out x hx).2.2;omega⟩))
        have HQ6:=Lib.hid (HQ3.out.grow (i:=3) hgrow hown')
        clear hown' hgrow hblk hbx3
        try (simp only [Act.put,List.setIfInBounds_toArray,List.set_cons_succ,List.set_cons_zero,List.getElem_toArray,List.getElem_cons_succ,List.getElem_cons_zero])
        go_wp2_with fail
        (first|refine ⟨fun _=>⟨_,keepS_of HK3.out⟩,?_⟩|refine ⟨⟨_,keepS_of HK3.out⟩,?_⟩)
        have c1:=row_of HBX.out 3 cu rfl
        have f1:=frozen_of_row y3 (sb+1) 3 _ _ HBX.out
        refine mix_tail [13,14] [_,_] _ _ rfl rfl ?_
        simp only [Act.put,List.setIfInBounds_toArray,List.set_cons_succ,List.set_cons_zero,List.getElem_toArray,List.getElem_cons_succ,List.getElem_cons_zero]
        go_wp2_with fail
        clear c1 f1
        go_roundw
        ·exact ⟨i+1,_,by omega,by go_num,by
          have h:=HQ6.out
          rw [HST.out]
          rw [List.flatMap_append]
          simpa [bindC] using h⟩
        ·simp [intOf];omega
       ·have hlt1:¬ (i:Int)<(SS.length:Int):=by omega
        obtain rfl:i=SS.length:=by omega
        obtain ⟨da,dc,rfl,-⟩:=own_read HQ.out.own
        rw [List.take_length] at HQ
        have hdl:(bindsZ k SS l2).1.length=SS.length:=by have h:=congrArg List.length (binds_names k SS l2);rwa [List.length_map] at h
        obtain ⟨DS,hDS⟩:∃ x,(bindsZ k SS l2).1=x:=⟨_,rfl⟩
        obtain ⟨l3,hl3⟩:∃ x,(bindsZ k SS l2).2=x:=⟨_,rfl⟩
        have HX3:Hid (bindsZ k SS l2=(DS,l3)):=by show _=_;rw [← hDS,← hl3]
        rw [hDS] at hdl
        rw [hDS,hl3] at HQ
        have hs9:sb+1<w9.heap.size:=HQ.out.hq
        have HDL:=Lib.hid hdl
        obtain ⟨m,hv⟩:∃ x,(takeS 2 l3).1=x:=⟨_,rfl⟩
        obtain ⟨l4,hl⟩:∃ x,(takeS 2 l3).2=x:=⟨_,rfl⟩
        have ht:=takeR_any sb s l3 2 w10 HQ.out.src HSZ.out (by omega) (by omega)
        rw [hv,hl] at ht
        have HT:=Lib.hid ht
        have HX4:Hid (takeS 2 l3=(m,l4)):=by show _=_;rw [← hv,← hl]
        obtain ⟨mb,hmb⟩:∃ x,(m == 1)=x:=⟨_,rfl⟩
        have hmi:((m:Int) == 1)=mb:=by
         rw [← hmb,Bool.eq_iff_iff,beq_iff_eq,beq_iff_eq]
         omega
        have HMB:=Lib.hid hmb
        clear ht hv hl hdl hDS hl3 hlt1 hlt hi hmb
        go_upto_region 28 with (go_at_call 13;refine HT.out.mono ?_;rintro e w11 ⟨rfl,hs1,ht1⟩;have HQ11:=Lib.hid (HQ.out.bytes ht1 hs1);have c4:=row_of HQ11.out.box 4 _ rfl;have f4:=frozen_of_row w11 (sb+1) 4 _ _ HQ11.out.box;clear hs1 ht1)
        have HQ12:=Lib.hid (HQ11.out.put (i:=4) (u:=.bool mb))
        simp only [List.setIfInBounds_toArray,List.set_cons_succ,List.set_cons_zero] at HQ12
        clear c4 f4 HQ11 HT hmi
        generalize w11.setCell ⟨sb+1,4,none⟩ (.bool mb)=w12 at *
        obtain ⟨st,hv⟩:∃ x,(takeS 60 l4).1=x:=⟨_,rfl⟩
        obtain ⟨l5,hl⟩:∃ x,(takeS 60 l4).2=x:=⟨_,rfl⟩
        have ht:=takeR_any sb s l4 60 w12 HQ12.out.src HSZ.out (by omega) (by omega)
        rw [hv,hl] at ht
        have HT:=Lib.hid ht
        have HX5:Hid (takeS 60 l4=(st,l5)):=by show _=_;rw [← hv,← hl]
        have hst:st<60:=by rw [← hv];exact take_small 60 l4 (by omega)
        clear ht hv hl
        go_upto_region 29 with (go_at_call 13;refine HT.out.mono ?_;rintro e w13 ⟨rfl,hs1,ht1⟩;have HQ13:=Lib.hid (HQ12.out.bytes ht1 hs1);have c5:=row_of HQ13.out.box 5 _ rfl;have f5:=frozen_of_row w13 (sb+1) 5 _ _ HQ13.out.box;clear hs1 ht1)
        have HQ14:=Lib.hid (HQ13.out.put (i:=5) (u:=.int .i64 (1+(st:Int))))
        simp only [List.setIfInBounds_toArray,List.set_cons_succ,List.set_cons_zero] at HQ14
        clear c5 f5 HQ13 HT
        generalize w13.setCell ⟨sb+1,5,none⟩ (.int .i64 (1+(st:Int)))=w14 at *
        obtain ⟨pa,hv⟩:∃ x,(takeS 128 l5).1=x:=⟨_,rfl⟩
        obtain ⟨l6,hl⟩:∃ x,(takeS 128 l5).2=x:=⟨_,rfl⟩
        have ht:=takeR_any sb s l5 128 w14 HQ14.out.src HSZ.out (by omega) (by omega)
        rw [hv,hl] at ht
        have HT:=Lib.hid ht
        have HX6:Hid (takeS 128 l5=(pa,l6)):=by show _=_;rw [← hv,← hl]
        have hpa:pa<128:=by rw [← hv];exact take_small 128 l5 (by omega)
        clear ht hv hl
        go_upto_region 30 with (go_at_call 13;refine HT.out.mono ?_;rintro e w15 ⟨rfl,hs1,ht1⟩;have HQ15:=Lib.hid (HQ14.out.bytes ht1 hs1);have c6:=row_of HQ15.out.box 6 _ rfl;have f6:=frozen_of_row w15 (sb+1) 6 _ _ HQ15.out.box;clear hs1 ht1)
        have HQ16:=Lib.hid (HQ15.out.put (i:=6) (u:=.int .i64 (1+(pa:Int))))
        simp only [List.setIfInBounds_toArray,List.set_cons_succ,List.set_cons_zero] at HQ16
        clear c6 f6 HQ15 HT
        generalize w15.setCell ⟨sb+1,6,none⟩ (.int .i64 (1+(pa:Int)))=w16 at *
        have HPE:Hid ((polS p.chans SS l).1=⟨(List.range (k+1)).map (nmS 108),orderS k,CS,DS,mb,1+(st:Int),1+(pa:Int),0,0⟩):=by
         show _=_
         simp only [polS,bindS,pureS,HX1.out,HX2.out,HX3.out,HX4.out,HX5.out,HX6.out,HMB.out]
        have HDU:=Lib.hid (SetZ.own (f:=bindC) (k:=2) (l:=DS) (fun _=>rfl) (by rw [HDL.out];exact HQ16.out.own) (by rw [HDL.out];omega) (Nat.succ_pos 1) hs9)
        have HR16:=Lib.hid (HQ16.out.tr.heap HR9.out (by show ¬ (r+1=sb+1 ∨ r+1=sb);omega))
        have HLV16:=Lib.hid (HLV9.out.trn HQ16.out.tr HSS.out)
        have HOV16:=Lib.hid (HOV9.out.trn HQ16.out.tr HSS.out)
        have HCU16:=Lib.hid (HCU9.out.trn HQ16.out.tr HSS.out)
        have HBW16:=Lib.hid (HBW9.out.trans (HLT.out HBW9.out.size HQ16.out.tr))
        have p0:=row_of HQ16.out.box 0 _ rfl
        have p1:=row_of HQ16.out.box 1 _ rfl
        have p2:=row_of HQ16.out.box 2 _ rfl
        have p3:=row_of HQ16.out.box 3 _ rfl
        have p4:=row_of HQ16.out.box 4 _ rfl
        have p5:=row_of HQ16.out.box 5 _ rfl
        have p6:=row_of HQ16.out.box 6 _ rfl
        have p7:=row_of HQ16.out.box 7 _ rfl
        have p8:=row_of HQ16.out.box 8 _ rfl
        clear HLV9 HOV9 HCU9 HR9 HBW9 HQ HQ9 HQ12 HQ14
        go_wp2_with (refine wpList_store_row rfl 34 (.tmp 4) (.tmp 116) rfl (r+1) #[.slice la (k+1) lc,.slice oa (orderS k).length oc,.slice ca p.chans.length cc,.slice da SS.length dc,.bool mb,.int .i64 (1+(st:Int)),.int .i64 (1+(pa:Int)),.int .i64 0,.int .i64 0] rfl rfl 34 #[.slice none 0 0,.slice none 0 0,.slice none 0 0,.slice none 0 0,.bool false,.int .i64 0,.int .i64 0,.int .i64 0,.int .i64 0] HR16.out (by as_aux_lemma=>kernel_rfl) (by as_aux_lemma=>kernel_rfl) (by as_aux_lemma=>kernel_rfl) ?_)
        have hrt:=setRow_trn (cs:=#[.slice la (k+1) lc,.slice oa (orderS k).length oc,.slice ca p.chans.length cc,.slice da SS.length dc,.bool mb,.int .i64 (1+(st:Int)),.int .i64 (1+(pa:Int)),.int .i64 0,.int .i64 0]) HR16.out
        have hrs:∀ i,(fun x=>x=r+1) i→i≤sb+1:=fun i e=>by have e':i=r+1:=e;omega
        have hlv:=(HLV16.out.trn hrt hrs).strs (fun s hs=>by
         obtain ⟨y,hy,rfl⟩:=List.mem_map.1 hs
         have hy2:y<k+1:=by simpa using hy
         have h:=nm_ok 108 (n:=y) (by omega)
         unfold NmOk at h
         unfold maxLen
         omega)
        have hll:((List.range (k+1)).map (nmS 108)).length=k+1:=by simp
        try simp only [Act.put]
        refine bodyPost_ret (v:=.agg #[.slice la (k+1) lc,.slice oa (orderS k).length oc,.slice ca p.chans.length cc,.slice da SS.length dc,.bool mb,.int .i64 (1+(st:Int)),.int .i64 (1+(pa:Int)),.int .i64 0,.int .i64 0]) (results_cell_row (P:=Tryz.prog) (fn:=Tryz.f9) rfl _ _ (r+1) 34 _ (0,0) _ rfl (setRow_heap _ _ _ _ _ _ HR16.out) Tryz.underlying34 rfl (by kernel_rfl)) rfl ⟨.slice la (k+1) lc,.slice oa (orderS k).length oc,.slice ca p.chans.length cc,.slice da SS.length dc,by rw [HSE.out,HPE.out],by rw [HSE.out,HPE.out];exact ⟨hlv,(HOV16.out.trn hrt hrs).1,(HCU16.out.trn hrt hrs).1,(HDU.out.trn hrt hrs).1⟩,HBW16.out.trans (hrt.below w.heap.size HBW16.out.size (fun i hi e=>by have e':i=r+1:=e;have:=HRR.out;omega))⟩
end Go.Proofs.YtfdinncgncbmfaaGreatDoor
