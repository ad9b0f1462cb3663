/- The reference of layer 41: its taker, names, operands. Conditions: the taker's block holds the string and a number; the string is not too long. The reference of layer 41: operands, dst, array, channel. Conditions: the body's block and the taker's hold what is said. -/
import Derived.Test.YtfdinncgncbmfaaGreatDoorScX
import Derived.Deep.RegionWith
set_option linter.all false
set_option maxRecDepth 1000000
set_option maxHeartbeats 12800000
set_option linter.unusedVariables false
set_option linter.unusedSimpArgs false
namespace Go.Proofs.YtfdinncgncbmfaaGreatDoor
open Go.Maps (Keyed int_keyed)
open Go.WideShapes Go.ChangeMaps Go.MapKept Go.WideMaps Go.ChangeAt Go.RowKit Go.ChangeShapes
theorem mix_endR {P:Program} {ops:Array Oper} {Q:Exit→Act→World→Prop} {C:World→Prop} {E:Nat→Bool} {a:Act} {w:World} (h:Q .normal a w):mixRun P ops Q C E (.fin []) a w:=h
def TkL (w:World) (g:Nat) (s:ByteArray) (l:List UInt8):Prop:=∃ n:Nat,w.heap[g]?=some (.cells #[.string s,.int .i64 n] 50 (0,0))∧n≤s.size∧s.data.toList.drop n=l
theorem TkL.lt {w:World} {g:Nat} {s:ByteArray} {l:List UInt8} (h:TkL w g s l):g<w.heap.size:=by
 obtain ⟨n,h,-⟩:=h
 exact (Array.getElem?_eq_some_iff.1 h).1
theorem TkL.at {w w':World} {g:Nat} {s:ByteArray} {l:List UInt8} (h:TkL w g s l) (e:w'.heap[g]?=w.heap[g]?):TkL w' g s l:=by
 obtain ⟨n,h,h2⟩:=h
 exact ⟨n,e.trans h,h2⟩
theorem TkL.keep {w w':World} {g:Nat} {s:ByteArray} {l:List UInt8} (h:TkL w g s l) (k:Below w.heap.size w w'):TkL w' g s l:=h.at (k.block g h.lt)
theorem takeR_any (g:Nat) (s:ByteArray) (l:List UInt8) (m:Nat) (w:World) (h:TkL w g s l) (hs:s.size≤5000) (hm:1≤m) (hm2:m≤1000) :
  Calls Tryz.prog 13 #[.pointer (some ⟨g,0,none⟩),.int .i64 m] w fun e w'=>e=.returned (.int .i64 ((takeS m l).1:Nat))∧TkL w' g s (takeS m l).2∧Trn (fun k=>k=g) w w':=by
 obtain ⟨n,hb,hn,hl⟩:=h
 have hsz:s.data.toList.length=s.size:=rfl
 have H:=Lib.hid hb
 have e0:=ext_cell (row_of hb 0 _ rfl)
 have e1:=ext_cell (row_of hb 1 _ rfl)
 have hgl:g<w.heap.size:=(Array.getElem?_eq_some_iff.1 hb).1
 clear hb
 cases l with
 | nil=>
  have hns:n=s.size:=by
   have:=congrArg List.length hl
   simp only [List.length_drop,List.length_nil,hsz] at this
   omega
  have hq:((n:Int) == (s.size:Int))=true:=by simp [hns]
  have HL:=Lib.hid hl
  clear hl hsz hns
  go_enter Tryz.func13,Tryz.ntmps13
  go_upto_region 1 with fail
  (refine wp_region_calm (by kernel_rfl) (by kernel_rfl) ?_; (repeat (go_big_quiet_step (fail))); refine wpQuiet_nil ?_; intro wc hwc)
  go_wp2_with fail
  go_ret
  exact ⟨rfl,⟨n,(hwc.block g hgl).trans H.out,hn,HL.out⟩,Trn.of_below hwc⟩
 | cons b r=>
  have hns:n<s.size:=by
   have:=congrArg List.length hl
   simp only [List.length_drop,List.length_cons,hsz] at this
   omega
  have hq:((n:Int) == (s.size:Int))=false:=by simp;omega
  have hdr:s.data.toList.drop (n+1)=r:=by
   rw [← List.tail_drop,hl];rfl
  have hbn0:s.data.toList[n]?=some b:=by
   have:=congrArg (·[0]?) hl
   simpa using this
  have hix:∀ z:World,(Instr.index 9 (.string s) (.int .i64 n)).run Tryz.prog z=.ok (.int .u8 (b.toNat:Nat)) z:=fun z=>by
   rw [run_index_string z 9 s .i64 n Tryz.underlying9,dif_pos ⟨by omega,by omega⟩]
   congr 2
   have h1:s.data[n]?=some b:=by rw [← Array.getElem?_toList];exact hbn0
   obtain ⟨h2,h3⟩:=Array.getElem?_eq_some_iff.1 h1
   have h4:(s[n]'hns)=b:=h3
   simp [h4]
  have hn0:(m:Int) ≠ 0:=by omega
  have htm:=tmod_nat b.toNat m
  have hbn:b.toNat<256:=b.toNat_lt
  have HD:=Lib.hid hdr
  clear hl hsz hdr hbn0
  go_enter Tryz.func13,Tryz.ntmps13
  go_upto_region 1 with fail
  (refine wp_region_calm (by kernel_rfl) (by kernel_rfl) ?_; (repeat (go_big_quiet_step (fail))); refine wpQuiet_nil ?_; intro wc hwc)
  clear e0 e1
  have HB:=Lib.hid hwc
  have hb1:=(hwc.block g hgl).trans H.out
  have c1:=row_of hb1 1 _ rfl
  have f1:=frozen_of_row wc g 1 _ _ hb1
  have HB1:=Lib.hid hb1
  clear hwc hb1
  go_upto_region 4 with fail
  clear c1 f1
  have hb2:=heap_setCell_same wc g 1 _ _ (.int .i64 ((n:Int)+1)) HB1.out
  simp only [List.setIfInBounds_toArray,List.set_cons_succ,List.set_cons_zero] at hb2
  have HT:=Lib.hid ((Trn.of_below (S:=fun k=>k=g) HB.out).trans (setCell_trn wc ⟨g,1,none⟩ (.int .i64 ((n:Int)+1))))
  have HB2:=Lib.hid hb2
  generalize wc.setCell ⟨g,1,none⟩ (.int .i64 ((n:Int)+1))=W at *
  have e0:=ext_cell (row_of hb2 0 _ rfl)
  have e1:=ext_cell (row_of hb2 1 _ rfl)
  clear hb2
  (refine wp_region_calm_tail 13 (by kernel_rfl) (by kernel_rfl) ?_; simp only [List.take_succ_cons, List.take_zero, List.drop_succ_cons, List.drop_zero]; (repeat (go_big_quiet_step (fail))); refine wpQuiet_nil ?_; intro wc hwc)
  go_wp2_with fail
  go_ret
  exact ⟨by first|rfl|(rw [← htm];rfl)|(simp [takeS,← htm]),⟨n+1,by rw [hwc.block g (Array.getElem?_eq_some_iff.1 HB2.out).1,HB2.out];rfl,by omega,HD.out⟩,HT.out.trans (Trn.of_below hwc)⟩
theorem nameR_any (c:UInt8) (k:Nat) (hk:k<100) (w:World) :
  Calls Tryz.prog 14 #[.string ⟨#[c]⟩,.int .i64 k] w fun e w'=>e=.returned (.string (nmS c k))∧w'=w:=by
 have HI:=Lib.hid (itoa_any k hk w)
 have HE:=Lib.hid (nm_eq c k)
 obtain ⟨s,hs⟩:∃ s,nmS c k=s:=⟨_,rfl⟩
 obtain ⟨t,ht⟩:∃ t:ByteArray,⟨#[c]⟩=t:=⟨_,rfl⟩
 rw [ht] at HE ⊢
 rw [hs] at HE ⊢
 have hlt:¬ 9223372036854775807<t.size+(Lib.decDigits k).length:=by
  have:=dec_len hk
  have:t.size=1:=by rw [← ht];rfl
  omega
 clear hs ht
 go_enter Tryz.func14,Tryz.ntmps14
 go_wp2_with (go_at_call 35;refine HI.out.mono ?_;rintro e z ⟨rfl,rfl⟩)
 go_ret
 exact ⟨by show Ending.returned (Value.string (t ++ (⟨(Lib.decDigits k).toArray⟩:ByteArray)))=_;rw [HE.out],rfl⟩
def BdAt (w:World) (bb g:Nat) (wd:Int) (cv av fv mv:Value) (par calls:Nat) (mn:Bool):Prop:=w.heap[bb]?=some (.cells #[.pointer (some ⟨g,0,none⟩),.int .i64 wd,cv,av,fv,mv,.int .i64 (par:Nat),.int .i64 (calls:Nat),.bool mn] 59 (0,0))
def TookR (g:Nat) (s:ByteArray) (w:World) (v:Value) (l:List UInt8) (e:Ending) (w':World):Prop:=e=.returned v∧TkL w' g s l∧Trn (fun k=>k=g) w w'
theorem operandR_any (bb g:Nat) (wd:Int) (cv av fv mv:Value) (par calls:Nat) (mn:Bool) (s:ByteArray) (l:List UInt8) (w:World) (hB:BdAt w bb g wd cv av fv mv par calls mn) (hT:TkL w g s l) (hne:bb ≠ g) (hsz:s.size≤5000) (hpar:par≤90) :
  Calls Tryz.prog 56 #[.pointer (some ⟨bb,0,none⟩)] w (TookR g s w (.agg #[.string (opdS par l).1.name,.int .u64 (opdS par l).1.num]) (opdS par l).2):=by
 unfold BdAt at hB
 have hal:=(Below.refl w.heap.size w).alloc (Nat.le_refl _) (.cells #[.string ⟨#[]⟩,.int .u64 0] 47)
 have HAL:=Lib.hid hal
 have HR_w0:=Lib.hid (heap_alloc_new w (.cells #[.string ⟨#[]⟩,.int .u64 0] 47))
 have HBd_w0:=Lib.hid ((hal.block bb (Array.getElem?_eq_some_iff.1 hB).1).trans hB)
 have HS_w0:=Lib.hid (hT.keep hal)
 have hbl:bb<w.heap.size:=(Array.getElem?_eq_some_iff.1 hB).1
 have hgl:g<w.heap.size:=hT.lt
 clear hB hT hal
 go_enter Tryz.func56,Tryz.ntmps56
 go_upto_region 1 with fail
 generalize w.alloc (.cells #[.string ⟨#[]⟩,.int .u64 0] 47)=w0 at *
 obtain ⟨rb,hrb⟩:∃ x,w.heap.size=x:=⟨_,rfl⟩
 rw [hrb] at HR_w0 hbl hgl
 try rw [hrb]
 have HRB:=Lib.hid hrb
 clear hrb
 obtain ⟨j,hv⟩:∃ x,(takeS 8 l).1=x:=⟨_,rfl⟩
 obtain ⟨l1,hr⟩:∃ x,(takeS 8 l).2=x:=⟨_,rfl⟩
 have hvlj:j<8:=by rw [← hv];exact take_small 8 l (by omega)
 have ht:=takeR_any g s l 8 w0 HS_w0.out hsz (by omega) (by omega)
 rw [hv,hr] at ht
 have HTj:=Lib.hid ht
 have HXj:Hid (takeS 8 l=(j,l1)):=(by show _=_;rw [← hv,← hr])
 clear ht hv hr
 have b0:=row_of HBd_w0.out 0 _ rfl
 have HOP:Hid (opdS par l=(if j<4 then pureS ⟨nmS 120 j,0⟩ else if j<7 then bindS (takeS 8) fun v=>pureS ⟨.empty,v⟩ else if 0<par then bindS (takeS par) fun v=>pureS ⟨nmS 112 v,0⟩ else bindS (takeS 256) fun v=>pureS (⟨.empty,v⟩:ArgD)) l1):=by
  show _=_
  unfold opdS
  rw [bindS,HXj.out]
 go_upto_region 2 with (go_at_call 13;refine HTj.out.mono ?_;rintro e w1 ⟨rfl,hs1,ht1⟩;have HS_w1:=Lib.hid hs1;have HT_w1:=Lib.hid ht1;have HR_w1:=Lib.hid (ht1.heap HR_w0.out (by omega));have HBd_w1:=Lib.hid (ht1.heap HBd_w0.out (by omega));clear hs1 ht1)
 clear b0 HTj HS_w0 HR_w0 HBd_w0
 have HTW:Hid (Trn (fun k=>k=g) w w1):=(Trn.of_below HAL.out).trans HT_w1.out
 by_cases k4:j<4
 ·have k4':(j:Int)<4:=by omega
  obtain ⟨ns,hns⟩:∃ x,nmS 120 j=x:=⟨_,rfl⟩
  have hN:=nameR_any 120 j (by omega) w1
  rw [hns] at hN
  have HN:=Lib.hid hN
  have HRES:Hid (opdS par l=(⟨ns,0⟩,l1)):=by show _=_;rw [HOP.out,if_pos k4,← hns];rfl
  clear hN hns
  go_wp2_with (first|(go_at_call 14;refine HN.out.mono ?_;rintro e z ⟨rfl,hz⟩;subst hz)|(refine wpList_store_row rfl 47 (.tmp 2) (.tmp 13) rfl rb #[.string ns,.int .u64 0] rfl rfl 47 #[.string ⟨#[]⟩,.int .u64 0] HR_w1.out (by as_aux_lemma=>kernel_rfl) (by as_aux_lemma=>kernel_rfl) (by as_aux_lemma=>kernel_rfl) ?_))
  try simp only [Act.put]
  refine bodyPost_ret (v:=.agg #[.string ns,.int .u64 0]) (results_cell_row (P:=Tryz.prog) (fn:=Tryz.f56) rfl _ _ rb 47 _ (0,0) _ rfl (setRow_heap _ _ _ _ _ _ HR_w1.out) Tryz.underlying47 rfl (by kernel_rfl)) rfl ?_
  rw [HRES.out]
  exact ⟨rfl,HS_w1.out.at (setRow_other _ _ _ _ (by omega)),HTW.out.step (setRow_trn HR_w1.out) (fun i hi e=>by have h:=HRB.out;have e':i=rb:=e;omega)⟩
 have k4':¬ (j:Int)<4:=by omega
 by_cases k7:j<7
 ·have k7':(j:Int)<7:=by omega
  obtain ⟨v,hv⟩:∃ x,(takeS 8 l1).1=x:=⟨_,rfl⟩
  obtain ⟨l2,hr⟩:∃ x,(takeS 8 l1).2=x:=⟨_,rfl⟩
  have hvlv:v<8:=by rw [← hv];exact take_small 8 l1 (by omega)
  have ht:=takeR_any g s l1 8 w1 HS_w1.out hsz (by omega) (by omega)
  rw [hv,hr] at ht
  have HTv:=Lib.hid ht
  have HXv:Hid (takeS 8 l1=(v,l2)):=(by show _=_;rw [← hv,← hr])
  clear ht hv hr
  have b0:=row_of HBd_w1.out 0 _ rfl
  have hwr:IntKind.u64.wrap (v:Int)=v:=by rw [IntKind.wrap_u64];exact Int.emod_eq_of_lt (by omega) (by omega)
  have HRES:Hid (opdS par l=(⟨.empty,(v:Nat)⟩,l2)):=by show _=_;rw [HOP.out,if_neg k4,if_pos k7,bindS,HXv.out];rfl
  go_wp2_with (first|(go_at_call 13;refine HTv.out.mono ?_;rintro e w2 ⟨rfl,hs1,ht1⟩;have HS_w2:=Lib.hid hs1;have HT_w2:=Lib.hid ht1;have HR_w2:=Lib.hid (ht1.heap HR_w1.out (by omega));have HBd_w2:=Lib.hid (ht1.heap HBd_w1.out (by omega));clear hs1 ht1)|(refine wpList_store_row rfl 47 (.tmp 2) (.tmp 22) rfl rb #[.string ⟨#[]⟩,.int .u64 (v:Nat)] rfl rfl 47 #[.string ⟨#[]⟩,.int .u64 0] HR_w2.out (by as_aux_lemma=>kernel_rfl) (by as_aux_lemma=>kernel_rfl) (by as_aux_lemma=>kernel_rfl) ?_))
  try simp only [Act.put]
  refine bodyPost_ret (v:=.agg #[.string ⟨#[]⟩,.int .u64 (v:Nat)]) (results_cell_row (P:=Tryz.prog) (fn:=Tryz.f56) rfl _ _ rb 47 _ (0,0) _ rfl (setRow_heap _ _ _ _ _ _ HR_w2.out) Tryz.underlying47 rfl (by kernel_rfl)) rfl ?_
  rw [HRES.out]
  exact ⟨rfl,HS_w2.out.at (setRow_other _ _ _ _ (by omega)),(HTW.out.trans HT_w2.out).step (setRow_trn HR_w2.out) (fun i hi e=>by have h:=HRB.out;have e':i=rb:=e;omega)⟩
 have k7':¬ (j:Int)<7:=by omega
 by_cases kp:0<par
 ·have kp':(0:Int)<(par:Int):=by omega
  obtain ⟨v,hv⟩:∃ x,(takeS par l1).1=x:=⟨_,rfl⟩
  obtain ⟨l2,hr⟩:∃ x,(takeS par l1).2=x:=⟨_,rfl⟩
  have hvl:v<par:=by rw [← hv];exact take_small par l1 (by omega)
  have HXv:Hid (takeS par l1=(v,l2)):=(by show _=_;rw [← hv,← hr])
  obtain ⟨ns,hns⟩:∃ x,nmS 112 v=x:=⟨_,rfl⟩
  have HNS:=Lib.hid hns
  have HRES:Hid (opdS par l=(⟨ns,0⟩,l2)):=by show _=_;rw [HOP.out,if_neg k4,if_neg k7,if_pos kp,bindS,HXv.out,← hns];rfl
  have HTA:Hid (∀ z,TkL z g s l1→Calls Tryz.prog 13 #[.pointer (some ⟨g,0,none⟩),.int .i64 par] z fun e w'=>e=.returned (.int .i64 (v:Nat))∧TkL w' g s l2∧Trn (fun k=>k=g) z w'):=fun z hz=>by
   have h:=takeR_any g s l1 par z hz hsz (by omega) (by omega)
   rw [hv,hr] at h
   exact h
  clear hv hr hns
  have b0:=row_of HBd_w1.out 0 _ rfl
  have b6:=row_of HBd_w1.out 6 _ rfl
  go_upto_region 7 with fail
  clear b0 b6
  have q0:=keepS_cell (S:=[bb]) (by simp) (row_of HBd_w1.out 0 _ rfl)
  have q6:=keepS_cell (S:=[bb]) (by simp) (row_of HBd_w1.out 6 _ rfl)
  refine wp_region_mixS [bb] (.one [0,1,2,3,4,5,6,7] 8 (.one [] 9 (.one [10] 11 (.fin [])))) (fun _=>false) (by kernel_rfl) (by kernel_rfl) rfl (by kernel_rfl) (fun _ d _ _ _ h=>by cases d <;> exact h) ?_
  have HD:Hid (Below w1.heap.size w1 w1.drew):=(Below.refl _ _).drew
  generalize w1.drew=y0 at *
  have hbx:=(Array.getElem?_eq_some_iff.1 HBd_w1.out).1
  have ONE:Hid (∀ z:World,z.heap[bb]?=w1.heap[bb]?→∀ b ∈ [bb],z.heap[b]?=w1.heap[b]?):=fun z hz b hb=>by
   simp only [List.mem_cons,List.not_mem_nil,or_false] at hb
   subst hb
   exact hz
  have HK0:=Lib.hid (ONE.out y0 (HD.out.block _ hbx))
  have HR_y0:=Lib.hid ((HD.out.block rb (Array.getElem?_eq_some_iff.1 HR_w1.out).1).trans HR_w1.out)
  have HC:=Lib.hid (HTA.out y0 (HS_w1.out.keep HD.out))
  refine mix_one (by simp only [opsOf,List.filterMap_cons,List.filterMap_nil,List.getElem?_toArray,List.getElem?_cons_succ,List.getElem?_cons_zero];rfl) ⟨_,keepS_of HK0.out⟩ ?_
  change wpQuiet _ _ _ _ [_,_,_,_,_,_,_,_] _
  (repeat (go_big_quiet_step (fail)))
  clear q0 q6
  refine wpQuiet_nil ?_
  refine mix_step rfl ?_
  go_wp2_with (go_at_call 13;refine HC.out.mono ?_;rintro e y1 ⟨rfl,hs1,ht1⟩;have HS_y1:=Lib.hid hs1;have HT_y1:=Lib.hid ht1;have HR_y1:=Lib.hid (ht1.heap HR_y0.out (by omega));clear hs1 ht1)
  have HK1:=Lib.hid (ONE.out y1 ((HT_y1.out.block bb (by have:=HD.out.size;omega) (by omega)).trans (HD.out.block _ hbx)))
  (first|refine ⟨fun _=>⟨_,keepS_of HK1.out⟩,?_⟩|refine ⟨⟨_,keepS_of HK1.out⟩,?_⟩)
  have hN:=nameR_any 112 v (by omega) y1
  rw [HNS.out] at hN
  have HN:=Lib.hid hN
  clear hN
  refine mix_now ?_
  refine mix_step rfl ?_
  go_wp2_with (go_at_call 14;refine HN.out.mono ?_;rintro e z ⟨rfl,hz⟩;subst hz)
  (first|refine ⟨fun _=>⟨_,keepS_of HK1.out⟩,?_⟩|refine ⟨⟨_,keepS_of HK1.out⟩,?_⟩)
  refine mix_one (by simp only [opsOf,List.filterMap_cons,List.filterMap_nil,List.getElem?_toArray,List.getElem?_cons_succ,List.getElem?_cons_zero];rfl) ⟨_,keepS_of HK1.out⟩ ?_
  change wpQuiet _ _ _ _ [_] _
  (repeat (go_big_quiet_step (fail)))
  refine wpQuiet_nil ?_
  refine mix_step rfl ?_
  try (simp only [Act.put,List.setIfInBounds_toArray,List.set_cons_succ,List.set_cons_zero,List.getElem_toArray,List.getElem_cons_succ,List.getElem_cons_zero])
  go_wp2_with (refine wpList_store_row rfl 47 (.tmp 2) (.tmp 38) rfl rb #[.string ns,.int .u64 0] rfl rfl 47 #[.string ⟨#[]⟩,.int .u64 0] HR_y1.out (by as_aux_lemma=>kernel_rfl) (by as_aux_lemma=>kernel_rfl) (by as_aux_lemma=>kernel_rfl) ?_)
  try simp only [Act.put]
  have HK2:=Lib.hid (ONE.out (z.setRow rb #[.string ns,.int .u64 0]) ((setRow_other _ _ _ _ (by omega)).trans (HK1.out bb (by simp))))
  (first|refine ⟨fun _=>⟨_,keepS_of HK2.out⟩,?_⟩|refine ⟨⟨_,keepS_of HK2.out⟩,?_⟩)
  refine mix_endR ?_
  go_wp2_with fail
  try simp only [Act.put]
  refine bodyPost_ret (v:=.agg #[.string ns,.int .u64 0]) (results_cell_row (P:=Tryz.prog) (fn:=Tryz.f56) rfl _ _ rb 47 _ (0,0) _ rfl (setRow_heap _ _ _ _ _ _ HR_y1.out) Tryz.underlying47 rfl (by kernel_rfl)) rfl ?_
  rw [HRES.out]
  exact ⟨rfl,HS_y1.out.at (setRow_other _ _ _ _ (by omega)),((HTW.out.trans (Trn.of_below HD.out)).trans HT_y1.out).step (setRow_trn HR_y1.out) (fun i hi e=>by have h:=HRB.out;have e':i=rb:=e;omega)⟩
 ·have kp':¬ (0:Int)<(par:Int):=by omega
  obtain ⟨v,hv⟩:∃ x,(takeS 256 l1).1=x:=⟨_,rfl⟩
  obtain ⟨l2,hr⟩:∃ x,(takeS 256 l1).2=x:=⟨_,rfl⟩
  have hvlv:v<256:=by rw [← hv];exact take_small 256 l1 (by omega)
  have ht:=takeR_any g s l1 256 w1 HS_w1.out hsz (by omega) (by omega)
  rw [hv,hr] at ht
  have HTv:=Lib.hid ht
  have HXv:Hid (takeS 256 l1=(v,l2)):=(by show _=_;rw [← hv,← hr])
  clear ht hv hr
  have b0:=row_of HBd_w1.out 0 _ rfl
  have b6:=row_of HBd_w1.out 6 _ rfl
  have hwr:IntKind.u64.wrap (v:Int)=v:=by rw [IntKind.wrap_u64];exact Int.emod_eq_of_lt (by omega) (by omega)
  have HRES:Hid (opdS par l=(⟨.empty,(v:Nat)⟩,l2)):=by show _=_;rw [HOP.out,if_neg k4,if_neg k7,if_neg kp,bindS,HXv.out];rfl
  go_wp2_with (first|(go_at_call 13;refine HTv.out.mono ?_;rintro e w2 ⟨rfl,hs1,ht1⟩;have HS_w2:=Lib.hid hs1;have HT_w2:=Lib.hid ht1;have HR_w2:=Lib.hid (ht1.heap HR_w1.out (by omega));have HBd_w2:=Lib.hid (ht1.heap HBd_w1.out (by omega));clear hs1 ht1)|(refine wpList_store_row rfl 47 (.tmp 2) (.tmp 45) rfl rb #[.string ⟨#[]⟩,.int .u64 (v:Nat)] rfl rfl 47 #[.string ⟨#[]⟩,.int .u64 0] HR_w2.out (by as_aux_lemma=>kernel_rfl) (by as_aux_lemma=>kernel_rfl) (by as_aux_lemma=>kernel_rfl) ?_))
  try simp only [Act.put]
  refine bodyPost_ret (v:=.agg #[.string ⟨#[]⟩,.int .u64 (v:Nat)]) (results_cell_row (P:=Tryz.prog) (fn:=Tryz.f56) rfl _ _ rb 47 _ (0,0) _ rfl (setRow_heap _ _ _ _ _ _ HR_w2.out) Tryz.underlying47 rfl (by kernel_rfl)) rfl ?_
  rw [HRES.out]
  exact ⟨rfl,HS_w2.out.at (setRow_other _ _ _ _ (by omega)),(HTW.out.trans HT_w2.out).step (setRow_trn HR_w2.out) (fun i hi e=>by have h:=HRB.out;have e':i=rb:=e;omega)⟩
open Go.Maps (Keyed int_keyed)
open Go.WideShapes Go.ChangeMaps Go.MapKept Go.WideMaps Go.ChangeAt Go.RowKit Go.ChangeShapes
theorem opds_snoc (par:Nat):∀ n l,opdsS par (n+1) l=((opdsS par n l).1 ++ [(opdS par (opdsS par n l).2).1],(opdS par (opdsS par n l).2).2)
 | 0,l=>rfl
 | n+1,l=>by
  have ih:=opds_snoc par n (opdS par l).2
  have e1:opdsS par (n+1+1) l=((opdS par l).1 :: (opdsS par (n+1) (opdS par l).2).1,(opdsS par (n+1) (opdS par l).2).2):=rfl
  have e2:opdsS par (n+1) l=((opdS par l).1 :: (opdsS par n (opdS par l).2).1,(opdsS par n (opdS par l).2).2):=rfl
  rw [e1,ih,e2]
  rfl
structure BdE (w:World) (bb g:Nat) (E:EnvS):Prop where
 box:∃ wd ca cc aa ac fa fc mv,BdAt w bb g wd (.slice ca E.chans cc) (.slice aa E.arrs ac) (.slice fa E.calls.length fc) mv E.par E.calls.length E.main ∧
  ∀ i n,E.calls[i]?=some n→∃ b q pa pc,fa=some ⟨b,q,none⟩∧w.cell? ⟨b,q+i * 5+1,none⟩=some (.slice pa n pc)∧b ≠ g
 hne:bb ≠ g
 hc:1≤E.chans
 hc2:E.chans≤90
 ha2:E.arrs≤90
 hp:E.par≤90
 hf2:E.calls.length≤90
 ho:∀ n ∈ E.calls,n≤90
theorem BdE.trn {w w':World} {bb g:Nat} {E:EnvS} (h:BdE w bb g E) (t:Trn (fun k=>k=g) w w'):BdE w' bb g E:=by
 obtain ⟨wd,ca,cc,aa,ac,fa,fc,mv,h1,h2⟩:=h.box
 refine ⟨⟨wd,ca,cc,aa,ac,fa,fc,mv,t.heap h1 h.hne,fun i n hi=>?_⟩,h.hne,h.hc,h.hc2,h.ha2,h.hp,h.hf2,h.ho⟩
 obtain ⟨b,q,pa,pc,e,hx,hb⟩:=h2 i n hi
 exact ⟨b,q,pa,pc,e,by rw [World.cell?_of_block (w:=w) (t.block b (block_lt_of_cell hx) hb)];exact hx,hb⟩
theorem BdE.lt {w:World} {bb g:Nat} {E:EnvS} (h:BdE w bb g E):bb<w.heap.size:=by
 obtain ⟨wd,ca,cc,aa,ac,fa,fc,mv,h1,h2⟩:=h.box
 exact (Array.getElem?_eq_some_iff.1 h1).1
theorem opdR (bb g:Nat) (s:ByteArray) (E:EnvS) (l:List UInt8) (w:World) (hB:BdE w bb g E) (hT:TkL w g s l) (hsz:s.size≤5000) :
  Calls Tryz.prog 56 #[.pointer (some ⟨bb,0,none⟩)] w (TookR g s w (.agg #[.string (opdS E.par l).1.name,.int .u64 (opdS E.par l).1.num]) (opdS E.par l).2):=by
 obtain ⟨wd,ca,cc,aa,ac,fa,fc,mv,h1,h2⟩:=hB.box
 exact operandR_any bb g wd _ _ _ mv E.par _ _ s l w h1 hT hB.hne hsz hB.hp
theorem operandsR_any (bb g:Nat) (s:ByteArray) (E:EnvS) (n:Nat) (l:List UInt8) (w:World) (hB:BdE w bb g E) (hT:TkL w g s l) (hsz:s.size≤5000) (hn:n≤90) :
  Calls Tryz.prog 37 #[.pointer (some ⟨bb,0,none⟩),.int .i64 n] w fun e w'=>∃ v,e=.returned v∧w'.ownsRow w.heap.size 47 2 v n ((opdsS E.par n l).1.flatMap argCells)∧TkL w' g s (opdsS E.par n l).2∧Trn (fun k=>k=g) w w':=by
 obtain ⟨i0,hi,hz0,hz1,hz2⟩:=info_parts infoArg
 have HB:=Lib.hid hB
 have HT:=Lib.hid hT
 have hgl:g<w.heap.size:=hT.lt
 clear hB hT
 go_enter Tryz.func37,Tryz.ntmps37
 go_wp2_with fail
 go_loopw [5,6] (fun v i wr=>∃ (k:Nat) (A:List ArgD) (lq:List UInt8),k≤n∧i=.int .i64 k∧Hid (opdsS E.par k l=(A,lq))∧A.length=k∧wr.ownsRow w.heap.size 47 2 v A.length (A.flatMap argCells)∧TkL wr g s lq∧Trn (fun k=>k=g) w wr) (fun _ i _=>n - (intOf i).toNat)
 case atStart=>exact ⟨0,[],l,Nat.zero_le _,rfl,rfl,rfl,World.ownsRow_nil _ _ _ _,HT.out,Trn.refl _ _⟩
 case round=>
  obtain ⟨k,A,lq,hk,rfl,HA,hAl,ho,ht,htr⟩:=hrel
  obtain ⟨w1,rfl⟩:∃ x:World,x=wr:=⟨_,rfl⟩
  have HO:=Lib.hid ho
  have HS:=Lib.hid ht
  have HTR:=Lib.hid htr
  have HAL:=Lib.hid hAl
  have hA90:A.length≤90:=by omega
  clear ho ht htr hAl
  by_cases hlt:k<n
  ·have hlt1:(k:Int)<(n:Int):=by omega
   obtain ⟨x,hx⟩:∃ x,(opdS E.par lq).1=x:=⟨_,rfl⟩
   obtain ⟨l2,hl2⟩:∃ x,(opdS E.par lq).2=x:=⟨_,rfl⟩
   have hc:=opdR bb g s E lq w1 (HB.out.trn HTR.out) HS.out hsz
   rw [hx,hl2] at hc
   have HC:=Lib.hid hc
   have HA2:Hid (opdsS E.par (k+1) l=(A ++ [x],l2)):=by
    show _=_
    rw [opds_snoc,HA.out,hx,hl2]
   clear hc hx hl2
   go_wp2_with (first|(go_at_call 56;refine HC.out.mono ?_;rintro e z ⟨rfl,hs1,ht1⟩;have HS1:=Lib.hid hs1;have HT1:=Lib.hid ht1;have HO1:=Lib.hid (own_trn HO.out ht1 (fun b hb e=>by have:=own_ge HO.out hb;have e':b=g:=e;omega));have hsz1:w1.heap.size≤z.heap.size:=ht1.size;clear hs1 ht1)|(at_builtin;refine wpList_append_own _ rfl (.tmp 12) (.tmp 15) 40 rfl w.heap.size 47 i0 (.agg #[.string ⟨#[]⟩,.int .u64 0]) 2 24 Tryz.underlying40 hi hz0 hz1 hz2 rfl (by decide) _ _ _ rfl (HO1.out.alloc _) ⟨z.heap.size,0,none⟩ 1 1 (argCells x) rfl rfl (many_new _ _ _) ?pa2 ?pb2 ?pc2 ?pd2 ?_))
   case pa2=>intro u hu;simp [argCells] at hu;rcases hu with rfl|rfl <;> rfl
   case pb2=>unfold maxLen;omega
   case pc2=>omega
   case pd2=>have:=HTR.out.size;first|omega|(simp;omega)
   ·intro v' w6 hown' hgrow _
    have hb6:=(Below.refl z.heap.size z).alloc (Nat.le_refl _) (.cells (argCells x).toArray 47)
    have HT6:Hid (Trn (fun k=>k=g) w w6):=((HTR.out.trans HT1.out).trans (Trn.of_below hb6)).step (Trn.of_grown (S:=fun b=>w.heap.size≤b) hgrow (fun b hb=>own_ge HO.out hb)) (fun i hi e=>by have e':w.heap.size≤i:=e;omega)
    have HS6:=Lib.hid ((HS1.out.keep hb6).at (hgrow.block g (by have:=HS1.out.lt;simp;omega) (fun e=>by have:=own_ge HO.out e.symm;omega)))
    have HO6:=Lib.hid hown'
    clear hown' hgrow hb6
    go_wp2_with fail
    go_roundw
    case rel=>exact ⟨k+1,A ++ [x],l2,by omega,by go_num,HA2.out,by simp [HAL.out],(by have h:=HO6.out;simpa using h),HS6.out,HT6.out⟩
    case measure=>simp [intOf];omega
  ·obtain rfl:k=n:=by omega
   have hlt1:¬ (k:Int)<(k:Int):=by omega
   go_wp2_with fail
   go_ret
   refine ⟨_,rfl,?_,?_,HTR.out⟩
   ·rw [HA.out];have h:=HO.out;rw [HAL.out] at h;exact h
   ·rw [HA.out];exact HS.out
theorem dstR_any (bb g:Nat) (s:ByteArray) (E:EnvS) (l:List UInt8) (w:World) (hB:BdE w bb g E) (hT:TkL w g s l) (hsz:s.size≤5000) :
  Calls Tryz.prog 36 #[.pointer (some ⟨bb,0,none⟩)] w (TookR g s w (.string (dstS l).1) (dstS l).2):=by
 obtain ⟨wd,ca,cc,aa,ac,fa,fc,mv,h1,-⟩:=hB.box
 have b0:=row_of h1 0 (.pointer (some ⟨g,0,none⟩)) rfl
 obtain ⟨v,hv⟩:∃ x,(takeS 4 l).1=x:=⟨_,rfl⟩
 obtain ⟨l2,hr⟩:∃ x,(takeS 4 l).2=x:=⟨_,rfl⟩
 have hvl:v<4:=by rw [← hv];exact take_small 4 l (by omega)
 have hc:=takeR_any g s l 4 w hT hsz (by omega) (by omega)
 rw [hv,hr] at hc
 have HC:=Lib.hid hc
 have HRES:Hid (dstS l=(nmS 120 v,l2)):=by show _=_;unfold dstS;rw [bindS,hv,hr];rfl
 have HN:∀ z,Hid (Calls Tryz.prog 14 #[.string ⟨#[120]⟩,.int .i64 v] z fun e w'=>e=.returned (.string (nmS 120 v))∧w'=z):=fun z=>nameR_any 120 v (by omega) z
 clear hc hv hr h1 hT hB
 go_enter Tryz.func36,Tryz.ntmps36
 go_wp2_with (first|(go_at_call 13;refine HC.out.mono ?_;rintro e z ⟨rfl,hs1,ht1⟩;have HS1:=Lib.hid hs1;have HT1:=Lib.hid ht1;clear hs1 ht1)|(go_at_call 14;refine (HN _).out.mono ?_;rintro e z2 ⟨rfl,hz⟩;subst hz))
 go_ret
 rw [HRES.out]
 exact ⟨rfl,HS1.out,HT1.out⟩
theorem arrayR_any (bb g:Nat) (s:ByteArray) (E:EnvS) (l:List UInt8) (w:World) (hB:BdE w bb g E) (hT:TkL w g s l) (hsz:s.size≤5000) (hm:1≤E.arrs) (hm2:E.arrs≤90) :
  Calls Tryz.prog 39 #[.pointer (some ⟨bb,0,none⟩)] w (TookR g s w (.string (nmS 97 (takeS E.arrs l).1)) (takeS E.arrs l).2):=by
 obtain ⟨wd,ca,cc,aa,ac,fa,fc,mv,h1,-⟩:=hB.box
 have hne:=hB.hne
 obtain ⟨m,hmm⟩:∃ m,E.arrs=m:=⟨_,rfl⟩
 unfold BdAt at h1
 rw [hmm] at h1 hm hm2 ⊢
 obtain ⟨v,hv⟩:∃ x,(takeS m l).1=x:=⟨_,rfl⟩
 obtain ⟨l2,hr⟩:∃ x,(takeS m l).2=x:=⟨_,rfl⟩
 have hvl:v<m:=by rw [← hv];exact take_small m l (by omega)
 have HTA:Hid (∀ z,TkL z g s l→Calls Tryz.prog 13 #[.pointer (some ⟨g,0,none⟩),.int .i64 m] z fun e w'=>e=.returned (.int .i64 (v:Nat))∧TkL w' g s l2∧Trn (fun k=>k=g) z w'):=fun z hz=>by
  have h:=takeR_any g s l m z hz hsz (by omega) (by omega)
  rw [hv,hr] at h
  exact h
 rw [hv,hr]
 have HBD:=Lib.hid h1
 have HS:=Lib.hid hT
 have hbx:=(Array.getElem?_eq_some_iff.1 h1).1
 have hgl:g<w.heap.size:=hT.lt
 clear hv hr hmm h1 hT hB
 go_enter Tryz.func39,Tryz.ntmps39
 go_upto_region 1 with fail
 have q0:=keepS_cell (S:=[bb]) (by simp) (row_of HBD.out 0 _ rfl)
 have q1:=keepS_cell (S:=[bb]) (by simp) (row_of HBD.out 3 _ rfl)
 refine wp_region_mixS [bb] (.one [0,1,2,3,4,5,6,7,8,9] 10 (.one [] 11 (tailOf [12]))) (fun j=>decide (12≤j)) (by kernel_rfl) (by kernel_rfl) rfl (by kernel_rfl) (fun _ d _ _ _ h=>by cases d <;> exact h) ?_
 have HD:Hid (Below w.heap.size w w.drew):=(Below.refl _ _).drew
 generalize w.drew=y0 at *
 have ONE:Hid (∀ z:World,z.heap[bb]?=w.heap[bb]?→∀ b ∈ [bb],z.heap[b]?=w.heap[b]?):=fun z hz b hb=>by
  simp only [List.mem_cons,List.not_mem_nil,or_false] at hb
  subst hb
  exact hz
 have HK0:=Lib.hid (ONE.out y0 (HD.out.block _ hbx))
 have HC:=Lib.hid (HTA.out y0 (HS.out.keep HD.out))
 refine mix_one (by simp only [opsOf,List.filterMap_cons,List.filterMap_nil,List.getElem?_toArray,List.getElem?_cons_succ,List.getElem?_cons_zero];rfl) ⟨_,keepS_of HK0.out⟩ ?_
 change wpQuiet _ _ _ _ [_,_,_,_,_,_,_,_,_,_] _
 (repeat (go_big_quiet_step (fail)))
 clear q0 q1
 refine wpQuiet_nil ?_
 refine mix_step rfl ?_
 go_wp2_with (go_at_call 13;refine HC.out.mono ?_;rintro e y1 ⟨rfl,hs1,ht1⟩;have HS1:=Lib.hid hs1;have HT1:=Lib.hid ht1;clear hs1 ht1)
 have HK1:=Lib.hid (ONE.out y1 ((HT1.out.block bb (by have:=HD.out.size;omega) hne).trans (HD.out.block _ hbx)))
 (first|refine ⟨fun _=>⟨_,keepS_of HK1.out⟩,?_⟩|refine ⟨⟨_,keepS_of HK1.out⟩,?_⟩)
 have HN:=Lib.hid (nameR_any 97 v (by omega) y1)
 refine mix_now ?_
 refine mix_step rfl ?_
 go_wp2_with (go_at_call 14;refine HN.out.mono ?_;rintro e z ⟨rfl,hz⟩;subst hz)
 (first|refine ⟨fun _=>⟨_,keepS_of HK1.out⟩,?_⟩|refine ⟨⟨_,keepS_of HK1.out⟩,?_⟩)
 refine mix_tail [12] [_] _ _ rfl rfl ?_
 go_wp2_with fail
 go_ret
 exact ⟨rfl,HS1.out,(Trn.of_below HD.out).trans HT1.out⟩
theorem channelR_any (bb g:Nat) (s:ByteArray) (E:EnvS) (l:List UInt8) (w:World) (hB:BdE w bb g E) (hT:TkL w g s l) (hsz:s.size≤5000) (hm:1≤E.chans) (hm2:E.chans≤90) :
  Calls Tryz.prog 40 #[.pointer (some ⟨bb,0,none⟩)] w (TookR g s w (.string (nmS 99 (takeS E.chans l).1)) (takeS E.chans l).2):=by
 obtain ⟨wd,ca,cc,aa,ac,fa,fc,mv,h1,-⟩:=hB.box
 have hne:=hB.hne
 obtain ⟨m,hmm⟩:∃ m,E.chans=m:=⟨_,rfl⟩
 unfold BdAt at h1
 rw [hmm] at h1 hm hm2 ⊢
 obtain ⟨v,hv⟩:∃ x,(takeS m l).1=x:=⟨_,rfl⟩
 obtain ⟨l2,hr⟩:∃ x,(takeS m l).2=x:=⟨_,rfl⟩
 have hvl:v<m:=by rw [← hv];exact take_small m l (by omega)
 have HTA:Hid (∀ z,TkL z g s l→Calls Tryz.prog 13 #[.pointer (some ⟨g,0,none⟩),.int .i64 m] z fun e w'=>e=.returned (.int .i64 (v:Nat))∧TkL w' g s l2∧Trn (fun k=>k=g) z w'):=fun z hz=>by
  have h:=takeR_any g s l m z hz hsz (by omega) (by omega)
  rw [hv,hr] at h
  exact h
 rw [hv,hr]
 have HBD:=Lib.hid h1
 have HS:=Lib.hid hT
 have hbx:=(Array.getElem?_eq_some_iff.1 h1).1
 have hgl:g<w.heap.size:=hT.lt
 clear hv hr hmm h1 hT hB
 go_enter Tryz.func40,Tryz.ntmps40
 go_upto_region 1 with fail
 have q0:=keepS_cell (S:=[bb]) (by simp) (row_of HBD.out 0 _ rfl)
 have q1:=keepS_cell (S:=[bb]) (by simp) (row_of HBD.out 2 _ rfl)
 refine wp_region_mixS [bb] (.one [0,1,2,3,4,5,6,7,8,9] 10 (.one [] 11 (tailOf [12]))) (fun j=>decide (12≤j)) (by kernel_rfl) (by kernel_rfl) rfl (by kernel_rfl) (fun _ d _ _ _ h=>by cases d <;> exact h) ?_
 have HD:Hid (Below w.heap.size w w.drew):=(Below.refl _ _).drew
 generalize w.drew=y0 at *
 have ONE:Hid (∀ z:World,z.heap[bb]?=w.heap[bb]?→∀ b ∈ [bb],z.heap[b]?=w.heap[b]?):=fun z hz b hb=>by
  simp only [List.mem_cons,List.not_mem_nil,or_false] at hb
  subst hb
  exact hz
 have HK0:=Lib.hid (ONE.out y0 (HD.out.block _ hbx))
 have HC:=Lib.hid (HTA.out y0 (HS.out.keep HD.out))
 refine mix_one (by simp only [opsOf,List.filterMap_cons,List.filterMap_nil,List.getElem?_toArray,List.getElem?_cons_succ,List.getElem?_cons_zero];rfl) ⟨_,keepS_of HK0.out⟩ ?_
 change wpQuiet _ _ _ _ [_,_,_,_,_,_,_,_,_,_] _
 (repeat (go_big_quiet_step (fail)))
 clear q0 q1
 refine wpQuiet_nil ?_
 refine mix_step rfl ?_
 go_wp2_with (go_at_call 13;refine HC.out.mono ?_;rintro e y1 ⟨rfl,hs1,ht1⟩;have HS1:=Lib.hid hs1;have HT1:=Lib.hid ht1;clear hs1 ht1)
 have HK1:=Lib.hid (ONE.out y1 ((HT1.out.block bb (by have:=HD.out.size;omega) hne).trans (HD.out.block _ hbx)))
 (first|refine ⟨fun _=>⟨_,keepS_of HK1.out⟩,?_⟩|refine ⟨⟨_,keepS_of HK1.out⟩,?_⟩)
 have HN:=Lib.hid (nameR_any 99 v (by omega) y1)
 refine mix_now ?_
 refine mix_step rfl ?_
 go_wp2_with (go_at_call 14;refine HN.out.mono ?_;rintro e z ⟨rfl,hz⟩;subst hz)
 (first|refine ⟨fun _=>⟨_,keepS_of HK1.out⟩,?_⟩|refine ⟨⟨_,keepS_of HK1.out⟩,?_⟩)
 refine mix_tail [12] [_] _ _ rfl rfl ?_
 go_wp2_with fail
 go_ret
 exact ⟨rfl,HS1.out,(Trn.of_below HD.out).trans HT1.out⟩
end Go.Proofs.YtfdinncgncbmfaaGreatDoor
