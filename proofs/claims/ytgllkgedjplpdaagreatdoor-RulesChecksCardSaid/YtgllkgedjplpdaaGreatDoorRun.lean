/- Contract of (*checker).targets: the first fault of what instructions name. Conditions: the checker's map of parameters and the labels are what they are named; the instructions read. -/
import Derived.Test.YtgllkgedjplpdaaGreatDoorForm
import Derived.Deep.CutRange
import Derived.Test.YtgllkgedjplpdaaGreatDoorRefF
import Derived.Deep.LoopGhost
import Derived.Maps.AppendAt
set_option linter.all false
set_option maxRecDepth 1000000
set_option maxHeartbeats 12800000
set_option linter.unusedVariables false
set_option linter.unusedSimpArgs false
namespace Go.Proofs.YtgllkgedjplpdaaGreatDoor
open Go.ChangeShapes Go.WideShapes Go.ChangeAt Go.RowKit
theorem int_zero (w:World):(zeroValue 3).run Tryz.prog w=.ok (.int .i64 0) w:=by kernel_rfl
theorem tkind_cases (z:Int):((z == 8)=true) \/ ((z == 8)=false/\(z == 9)=true) \/ ((z == 8)=false/\(z == 9)=false/\(z == 4)=true) \/ ((z == 8)=false/\(z == 9)=false/\(z == 4)=false):=by
 cases z == 8 <;> cases z == 9 <;> cases z == 4 <;> simp
section
variable (params:List (ByteArray × Int)) (labels:List ByteArray) (x:InstrD)
theorem targetF_lab (h:(x.kind == 8)=true \/ (x.kind == 9)=true):targetF params labels x=needF (inL x.name labels) x.line x.col 6:=by unfold targetF;rw [if_pos (by simpa using h)]
theorem targetF_call (h:(x.kind == 4)=true):targetF params labels x=(needF (atL x.name params).isSome x.line x.col 6).or (needF (decide ((atL x.name params).getD 0=x.args.length)) x.line x.col 4):=by
 unfold targetF;simp at h;rw [if_neg (by omega),if_pos h]
theorem targetF_no (h8:(x.kind == 8)=false) (h9:(x.kind == 9)=false) (h4:(x.kind == 4)=false):targetF params labels x=none:=by
 unfold targetF;simp at h8 h9 h4;rw [if_neg (by omega),if_neg (by omega)]
end
theorem targets_any (cb bp lb:Nat) (cv:Value) (params:List (ByteArray × Int)) (labels:List ByteArray) (code:List InstrD) (w:World)
  (h8:w.cell? ⟨cb,8,none⟩=some (.map (some bp))) (hp:IntsIs w bp params) (hd:params.Pairwise (fun p q=>p.1 ≠ q.1)) (hl:SetIs w lb labels) (hcode:RdInstrs none w cv code) :
  Calls Tryz.prog 84 #[.pointer (some ⟨cb,0,none⟩),cv,.map (some lb)] w fun e w'=>e=endF (targetsF params labels code)/\Below w.heap.size w w':=by
 obtain ⟨a,c,rfl,hlen,hr⟩:=hcode
 have HR:=Hd hr
 have HP:=Hd hp
 have HD:=Hd hd
 have HL:=Hd hl
 have H8:=Hd h8
 clear hr hp hd hl h8
 go_enter Tryz.func84,Tryz.ntmps84
 go_wp2
 go_loopw [12] (fun i wr=>∃ k:Nat,k<=code.length/\i=.int .i64 k/\Hid (targetsF params labels code=firstF (fun _ x=>targetF params labels x) (code.take k) (code.drop k))/\Below w.heap.size w wr) (fun i _=>code.length - (intOf i).toNat)
 case atStart=>exact ⟨0,Nat.zero_le _,rfl,rfl,bR _ _⟩
 case round=>
  obtain ⟨k,hk,rfl,hq,hb⟩:=hrel
  by_cases hlt:k<code.length
  rotate_left
  ·obtain rfl:k=code.length:=by omega
   have HN:Hid (targetsF params labels code=none):=firstF_end hq.out
   go_wp2
   go_end0
   exact ⟨by rw [HN.out];rfl,hb⟩
  obtain ⟨x,hx⟩:∃ x,code[k]?=some x:=⟨_,lG hlt⟩
  obtain ⟨b,o,av2,rfl,_,c0,c1,c2,c3,c4,c5,c6,hri⟩:=HR.out k x hx
  obtain ⟨aa,ca,rfl,_⟩:=id hri.1
  have d0:=cell_keep hb c0
  have d1:=cell_keep hb c1
  have d2:=cell_keep hb c2
  have d3:=cell_keep hb c3
  have d4:=cell_keep hb c4
  have d5:=cell_keep hb c5
  have d6:=cell_keep hb c6
  have hns:x.name.size<=maxLen:=hri.2.2.2.2.2.2
  have HX:=Hd hx
  have hlt2:(k:Int)<(code.length:Int):=by omega
  clear c0 c1 c2 c3 c4 c5 c6 hri hx
  go_upto_region 3 with fail
  have hb4:Below wr.heap.size wr (wr.alloc (.cells #[.int .u8 x.kind,.int .u8 x.op,.string x.dst,.string x.name,.slice aa x.args.length ca,.int .i64 x.line,.int .i64 x.col] 50)):=(bR _ _).alloc (nR _) _
  have G4:=heap_alloc_new wr (.cells #[.int .u8 x.kind,.int .u8 x.op,.string x.dst,.string x.name,.slice aa x.args.length ca,.int .i64 x.line,.int .i64 x.col] 50)
  generalize wr.alloc (.cells #[.int .u8 x.kind,.int .u8 x.op,.string x.dst,.string x.name,.slice aa x.args.length ca,.int .i64 x.line,.int .i64 x.col] 50)=W4 at *
  have i0':=row_of G4 0 (.int .u8 x.kind) rfl
  have i3':=row_of G4 3 (.string x.name) rfl
  have i4':=row_of G4 4 (.slice aa x.args.length ca) rfl
  have i5':=row_of G4 5 (.int .i64 x.line) rfl
  have i6':=row_of G4 6 (.int .i64 x.col) rfl
  have hb5:Below w.heap.size w W4:=bcomp hb hb4
  have HB5:=Hd hb5
  have HL4:=Hd (HL.out.keep hb5)
  have HP4:=Hd (HP.out.keep hb5)
  have c8:=cell_keep hb5 H8.out
  generalize wr.heap.size=wn at *
  clear d0 d1 d2 d3 d4 d5 d6 hb4 G4 hb5 hb
  rcases tkind_cases x.kind with h8|⟨h8,h9⟩|⟨h8,h9,h4⟩|⟨h8,h9,h4⟩
  iterate 2
   ·have HKF:Hid (targetF params labels x=needF (inL x.name labels) x.line x.col 6):=by show _=_;first|exact targetF_lab params labels x (.inl h8)|exact targetF_lab params labels x (.inr h9)
    cases hin:inL x.name labels
    ·have HIN:=Hd hin
     clear hin
     go_wp2_with (at_lookup;refine wpList_set_lookup rfl _ _ _ rfl _ _ Tryz.underlying9 Tryz.underlying103 (names_zero _) lb labels rfl x.name rfl hns HL4.out ?_;rw [HIN.out])
     refine (need_bad x.line x.col 6 _).mono ?_
     rintro e w6 ⟨rfl,hb6⟩
     have hF2:=firstF_fault hq.out HX.out (by rw [HKF.out,HIN.out];rfl)
     refine ⟨rfl,?_,bcomp HB5.out hb6⟩
     unfold targetsF;rw [hF2];rfl
    ·have HIN:=Hd hin
     clear hin
     go_wp2_with (at_lookup;refine wpList_set_lookup rfl _ _ _ rfl _ _ Tryz.underlying9 Tryz.underlying103 (names_zero _) lb labels rfl x.name rfl hns HL4.out ?_;rw [HIN.out])
     refine (need_ok x.line x.col 6 _).mono ?_
     rintro e w6 ⟨rfl,hb6⟩
     have hQ:Hid (targetsF params labels code=firstF (fun _ x=>targetF params labels x) (code.take (k+1)) (code.drop (k+1))):=firstF_ok hq.out HX.out (by rw [HKF.out,HIN.out];rfl)
     have HB6:=Hd (bcomp HB5.out hb6)
     clear hb6
     go_wp2_with fail
     go_roundw
     case rel=>exact ⟨k+1,by omega,by go_num,hQ,HB6.out⟩
     case measure=>simp [intOf];omega
  ·have HKF:=Hd (targetF_call params labels x h4)
   obtain ⟨n,hn⟩:∃ n,(atL x.name params).getD 0=n:=⟨_,rfl⟩
   have HN:=Hd hn
   cases his:(atL x.name params).isSome
   ·have HIS:=Hd his
    have e0:=ext_cell c8
    have e3:=ext_cell i3'
    have hlook:=ints_look Tryz.underlying9 Tryz.underlying104 int_zero HP4.out HD.out x.name hns n _ hn his
    have I:=Hd (And.intro i5' i6')
    clear his hn i5' i6' i3' c8
    go_upto_region 8 with fail
    clear i0' i4'
    (refine wp_region_calm (by kernel_rfl) (by kernel_rfl) ?_; (repeat (go_big_quiet_step (fail))); refine wpQuiet_nil ?_; intro wc hwc)
    clear e0 e3 hlook
    have j5:=cell_keep hwc I.out.1
    have j6:=cell_keep hwc I.out.2
    go_wp2_with fail
    refine (need_bad x.line x.col 6 _).mono ?_
    rintro e w6 ⟨rfl,hb6⟩
    have hF2:=firstF_fault hq.out HX.out (by rw [HKF.out,HIS.out];rfl)
    refine ⟨rfl,?_,bcomp (bcomp HB5.out hwc) hb6⟩
    unfold targetsF;rw [hF2];rfl
   ·have HIS:=Hd his
    have e0:=ext_cell c8
    have e3:=ext_cell i3'
    have hlook:=ints_look Tryz.underlying9 Tryz.underlying104 int_zero HP4.out HD.out x.name hns n _ hn his
    have I:=Hd (And.intro i4' (And.intro i5' i6'))
    clear his hn i5' i6' i3' i4' c8
    go_upto_region 8 with fail
    clear i0'
    (refine wp_region_calm (by kernel_rfl) (by kernel_rfl) ?_; (repeat (go_big_quiet_step (fail))); refine wpQuiet_nil ?_; intro wc hwc)
    clear e0 e3 hlook
    have j4:=cell_keep hwc I.out.1
    have j5:=cell_keep hwc I.out.2.1
    have j6:=cell_keep hwc I.out.2.2
    have J:=Hd (And.intro j4 (And.intro j5 j6))
    clear I j4
    go_wp2_with fail
    refine (need_ok x.line x.col 6 _).mono ?_
    rintro e w6 ⟨rfl,hb6⟩
    have k4:=cell_keep hb6 J.out.1
    have k5:=cell_keep hb6 J.out.2.1
    have k6:=cell_keep hb6 J.out.2.2
    clear j5 j6
    by_cases hnl:n=(x.args.length:Int)
    ·have hE:(n == (x.args.length:Int))=true:=by rw [beq_iff_eq];exact hnl
     have HNL:=Hd hnl
     clear hnl
     go_wp2_with fail
     refine (need_ok x.line x.col 4 _).mono ?_
     rintro e w7 ⟨rfl,hb7⟩
     have hQ:Hid (targetsF params labels code=firstF (fun _ x=>targetF params labels x) (code.take (k+1)) (code.drop (k+1))):=firstF_ok hq.out HX.out (by rw [HKF.out,HIS.out,HN.out,decide_eq_true HNL.out];rfl)
     have HB7:=Hd (bcomp (bcomp (bcomp HB5.out hwc) hb6) hb7)
     clear k4 k5 k6 hE
     go_wp2_with fail
     go_roundw
     case rel=>exact ⟨k+1,by omega,by go_num,hQ,HB7.out⟩
     case measure=>simp [intOf];omega
    ·have hE:(n == (x.args.length:Int))=false:=by rw [beq_eq_false_iff_ne];exact hnl
     have HNL:=Hd hnl
     clear hnl
     go_wp2_with fail
     refine (need_bad x.line x.col 4 _).mono ?_
     rintro e w7 ⟨rfl,hb7⟩
     have hF2:=firstF_fault hq.out HX.out (by rw [HKF.out,HIS.out,HN.out,decide_eq_false HNL.out];rfl)
     refine ⟨rfl,?_,bcomp (bcomp (bcomp HB5.out hwc) hb6) hb7⟩
     unfold targetsF;rw [hF2];rfl
  ·have HKF:=Hd (targetF_no params labels x h8 h9 h4)
   have hQ:Hid (targetsF params labels code=firstF (fun _ x=>targetF params labels x) (code.take (k+1)) (code.drop (k+1))):=firstF_ok hq.out HX.out HKF.out
   go_wp2_with fail
   go_roundw
   case rel=>exact ⟨k+1,by omega,by go_num,hQ,HB5.out⟩
   case measure=>simp [intOf];omega
open Go.ChangeShapes Go.WideShapes Go.ChangeAt Go.RowKit
theorem callsOf_step (l:List InstrD) (x:InstrD) (k:Nat) (h:l[k]?=some x):callsOf (l.take (k+1))=if x.kind == 4 then callsOf (l.take k) ++ [x.name] else callsOf (l.take k):=by
 rw [List.take_add_one,h]
 unfold callsOf
 cases h:x.kind == 4 <;> simp [h]
theorem callsOf_le (l:List InstrD):(callsOf l).length<=l.length:=by
 unfold callsOf;rw [List.length_map];exact List.length_filter_le _ _
theorem many_new' (w:World) (A:Obj) (xs:List Value) (t:TypeId):∀ j u,xs[j]?=some u->((w.alloc A).alloc (.cells xs.toArray t)).cell? ((⟨w.heap.size+1,0,none⟩:Addr).add j)=some u:=by
 have:=many_new (w.alloc A) xs t
 have e:(w.alloc A).heap.size=w.heap.size+1:=by
  show (w.heap.push _).size=_
  simp
 rw [e] at this
 exact this
theorem calls_any (cv:Value) (code:List InstrD) (w:World) (h:RdInstrs none w cv code) :
  Calls Tryz.prog 118 #[cv] w fun e w'=>∃ v,e=.returned v/\RdStrs (some (upFrom w.heap.size)) w' v (callsOf code)/\Below w.heap.size w w':=by
 obtain ⟨a,c,rfl,hl,hr⟩:=h
 obtain ⟨i0,hi,hz0,hz1,hz2⟩:=info_parts infoStr
 have hok:Hid (∀ s ∈ callsOf code,s.size<=maxLen):=by
  intro s hs
  obtain ⟨x,hx,rfl⟩:=List.mem_map.1 hs
  obtain ⟨i,hi⟩:=List.getElem?_of_mem (List.mem_filter.1 hx).1
  obtain ⟨b,o,av,_,_,_,_,_,_,_,_,_,hri⟩:=hr i x hi
  exact hri.2.2.2.2.2.2
 have HR:=Hd hr
 clear hr
 go_enter Tryz.func118,Tryz.ntmps118
 go_wp2
 go_loopw [3,8] (fun v i wr=>∃ k:Nat,k<=code.length/\i=.int .i64 k/\wr.ownsRow w.heap.size 9 1 v (callsOf (code.take k)).length ((callsOf (code.take k)).flatMap strCells)/\Below w.heap.size w wr) (fun _ i _=>code.length - (intOf i).toNat)
 case atStart=>exact ⟨0,Nat.zero_le _,rfl,World.ownsRow_nil _ _ _ _,bR _ _⟩
 case round=>
  obtain ⟨k,hk,rfl,hown,hb⟩:=hrel
  by_cases hlt:k<code.length
  rotate_left
  ·obtain rfl:k=code.length:=by omega
   rw [List.take_length] at hown
   go_wp2
   go_ret
   exact ⟨_,rfl,own_strs hown (by have:=callsOf_le code;omega) hok.out,hb⟩
  obtain ⟨x,hx⟩:∃ x,code[k]?=some x:=⟨_,lG hlt⟩
  obtain ⟨b,o,av2,rfl,_,c0,c1,c2,c3,c4,c5,c6,hri⟩:=HR.out k x hx
  obtain ⟨aa,ca,rfl,_⟩:=id hri.1
  have d0:=cell_keepB hb c0 (block_lt_of_cell c0)
  have d1:=cell_keepB hb c1 (block_lt_of_cell c1)
  have d2:=cell_keepB hb c2 (block_lt_of_cell c2)
  have d3:=cell_keepB hb c3 (block_lt_of_cell c3)
  have d4:=cell_keepB hb c4 (block_lt_of_cell c4)
  have d5:=cell_keepB hb c5 (block_lt_of_cell c5)
  have d6:=cell_keepB hb c6 (block_lt_of_cell c6)
  have hst:=callsOf_step code x k hx
  have hlt2:(k:Int)<(code.length:Int):=by omega
  have hsz:=hb.size
  have hle:(callsOf (code.take k)).length<=k:=by have:=callsOf_le (code.take k);rw [List.length_take] at this;omega
  clear c0 c1 c2 c3 c4 c5 c6 hri hx
  cases h4:(x.kind == 4)
  ·rw [h4,if_neg (by simp)] at hst
   have HS:=Hd hst
   clear hst
   go_wp2
   go_roundw
   case rel=>exact ⟨k+1,by omega,by go_num,by rw [HS.out];exact hown.alloc _,hb.alloc hsz _⟩
   case measure=>simp [intOf];omega
  ·rw [h4,if_pos rfl] at hst
   have HX:Hid ((callsOf (code.take (k+1))).flatMap strCells=(callsOf (code.take k)).flatMap strCells ++ strCells x.name/\(callsOf (code.take (k+1))).length=(callsOf (code.take k)).length+1):=by
    rw [hst];exact ⟨by simp,by simp⟩
   clear hst
   go_wp2_with (at_builtin;refine wpList_append_own _ rfl (.tmp 15) (.tmp 18) 22 rfl w.heap.size 9 i0 (.string ⟨#[]⟩) 1 16 Tryz.underlying22 hi hz0 hz1 hz2 rfl (by decide) _ _ _ rfl ((hown.alloc _).alloc _) ⟨wr.heap.size+1,0,none⟩ 1 1 (strCells x.name) rfl rfl (many_new' _ _ _ _) ?c2 ?c3 ?c4 ?c5 ?_)
   case c2=>intro u hu;simp [strCells] at hu;subst hu;rfl
   case c3=>unfold maxLen;omega
   case c4=>omega
   case c5=>simp;omega
   ·intro v' w1 hown' hgrow _
    rw [<- HX.out.1,<- HX.out.2] at hown'
    have hb1:=((hb.alloc hsz (.cells #[.int .u8 x.kind,.int .u8 x.op,.string x.dst,.string x.name,.slice aa x.args.length ca,.int .i64 x.line,.int .i64 x.col] 50)).alloc (by simp;omega) (.cells (strCells x.name).toArray 9)).grown hgrow (by simp;omega) (own_row_le hown)
    clear hown
    go_wp2
    go_roundw
    case rel=>exact ⟨k+1,by omega,by go_num,hown',hb1⟩
    case measure=>simp [intOf];omega
theorem isNamed (x:FuncD) (pv cv:Value) (fb:Nat) (s:ByteArray) (w:World) (hc:w.cell? ⟨fb,0,none⟩=some (.string s)) (hpv:∃ a n c,pv=.slice a n c) (hcv:∃ a n c,cv=.slice a n c) :
  Calls Tryz.prog 117 #[funcV x pv cv,.pointer (some ⟨fb,0,none⟩)] w fun e w'=>e=.returned (.bool (x.name.toList == s.toList))/\Below w.heap.size w w':=by
 obtain ⟨a1,n1,c1,rfl⟩:=hpv
 obtain ⟨a2,n2,c2,rfl⟩:=hcv
 go_enter Tryz.func117,Tryz.ntmps117
 go_upto_region 1 with fail
 have hb0:Below w.heap.size w (w.alloc (.cells #[.string x.name,.slice a1 n1 c1,.slice a2 n2 c2,.int .i64 x.line,.int .i64 x.col] 52)):=(bR _ _).alloc (nR _) _
 have G0:=heap_alloc_new w (.cells #[.string x.name,.slice a1 n1 c1,.slice a2 n2 c2,.int .i64 x.line,.int .i64 x.col] 52)
 generalize w.alloc (.cells #[.string x.name,.slice a1 n1 c1,.slice a2 n2 c2,.int .i64 x.line,.int .i64 x.col] 52)=W1 at *
 have i0:=row_of G0 0 (.string x.name) rfl
 have hc1:=cell_keep hb0 hc
 have HB:=Hd hb0
 clear G0 hb0 hc
 go_wp2
 go_ret
 exact ⟨rfl,HB.out⟩
theorem indexFunc (fv:Value) (fs:List FuncD) (fb:Nat) (s:ByteArray) (w:World) (h:RdFuncs none w fv fs) (hc:w.cell? ⟨fb,0,none⟩=some (.string s)) :
  Calls Tryz.prog 116 #[fv,.func (.func 117) #[] #[.pointer (some ⟨fb,0,none⟩)]] w fun e w'=>e=.returned (.int .i64 (findZ s fs))/\Below w.heap.size w w':=by
 obtain ⟨a,c,rfl,hl,hr⟩:=h
 have HR:=Hd hr
 have HC:=Hd hc
 clear hr hc
 go_enter Tryz.func116,Tryz.ntmps116
 go_wp2
 go_loopw [8] (fun i wr=>∃ k:Nat,k<=fs.length/\i=.int .i64 k/\Hid (∀ (j:Nat) x,j<k->fs[j]?=some x->(x.name.toList == s.toList)=false)/\Below w.heap.size w wr) (fun i _=>fs.length - (intOf i).toNat)
 case atStart=>exact ⟨0,Nat.zero_le _,rfl,(fun j x h=>by omega),bR _ _⟩
 case round=>
  obtain ⟨k,hk,rfl,hq,hb⟩:=hrel
  by_cases hlt:k<fs.length
  rotate_left
  ·obtain rfl:k=fs.length:=by omega
   have HV:=Hd (findZ_none (s:=s) (l:=fs) (fun j x h=>hq.out j x (lE h).1 h))
   go_wp2
   go_ret
   exact ⟨by rw [HV.out];rfl,hb⟩
  obtain ⟨x,hx⟩:∃ x,fs[k]?=some x:=⟨_,lG hlt⟩
  obtain ⟨b,o,pv2,cv2,rfl,_,c0,c1,c2,c3,c4,hf⟩:=HR.out k x hx
  obtain ⟨ap,kp,rfl,_⟩:=id hf.1
  obtain ⟨ac,kc,rfl,_⟩:=id hf.2.1
  have d0:=cell_keepB hb c0 (block_lt_of_cell c0)
  have d1:=cell_keepB hb c1 (block_lt_of_cell c1)
  have d2:=cell_keepB hb c2 (block_lt_of_cell c2)
  have d3:=cell_keepB hb c3 (block_lt_of_cell c3)
  have d4:=cell_keepB hb c4 (block_lt_of_cell c4)
  have HX:=Hd hx
  have hlt2:(k:Int)<(fs.length:Int):=by omega
  have cl:=isNamed x (.slice ap x.params.length kp) (.slice ac x.code.length kc) fb s wr (cell_keep hb HC.out) ⟨_,_,_,rfl⟩ ⟨_,_,_,rfl⟩
  clear hx c0 c1 c2 c3 c4 hf
  cases he:(x.name.toList == s.toList)
  ·rw [he] at cl
   have HE:=Hd he
   have HCl:=Hd cl
   clear he cl
   go_wp2_with (go_at_call 117;refine HCl.out.mono ?_;rintro e w1 ⟨rfl,hb1⟩)
   have hb2:=bcomp hb hb1
   go_roundw
   case rel=>
    refine ⟨k+1,by omega,by go_num,?_,hb2⟩
    intro j y hj hy
    rcases Nat.lt_or_ge j k with h|h
    ·exact hq.out j y h hy
    ·obtain rfl:j=k:=by omega
     rw [HX.out] at hy;cases hy;exact HE.out
   case measure=>simp [intOf];omega
  ·have HV:=Hd (findZ_hit HX.out he hq.out)
   rw [he] at cl
   have HCl:=Hd cl
   clear he cl
   go_wp2_with (go_at_call 117;refine HCl.out.mono ?_;rintro e w1 ⟨rfl,hb1⟩)
   go_ret
   exact ⟨by rw [HV.out];rfl,bcomp hb hb1⟩
open Go.ChangeShapes Go.WideShapes Go.ChangeAt Go.RowKit
theorem nodup_le:∀ (S l:List ByteArray),S.Nodup->(∀ x ∈ S,x ∈ l)->S.length<=l.length
 | [],_,_,_=>Nat.zero_le _
 | a :: r,l,hn,hs=>by
  obtain ⟨p,q,rfl⟩:=List.append_of_mem (hs a (by simp))
  have hn':=List.nodup_cons.1 hn
  have:=nodup_le r (p ++ q) hn'.2 (fun x hx=>by
   have h1:=hs x (by simp [hx])
   have h2:x ≠ a:=fun e=>hn'.1 (e ▸ hx)
   simp at h1 ⊢
   rcases h1 with h|h|h
   ·exact .inl h
   ·exact absurd h h2
   ·exact .inr h)
  simp at this ⊢
  omega
structure Dfs (fs:List FuncD) (a:ByteArray) (S T:List ByteArray):Prop where
 reach:∀ x ∈ S,Reach fs a x
 todo:∀ x ∈ T,x=a \/ x ∈ S
 done:∀ x,(x=a \/ x ∈ S)->x ∉ T->∀ b,CallsN fs x b->b ≠ a/\b ∈ S
 nodup:S.Nodup
 sub:∀ x ∈ S,x ∈ fNames fs
structure DfsIn (fs:List FuncD) (a f:ByteArray) (gs:List ByteArray) (j:Nat) (S T:List ByteArray):Prop where
 reach:∀ x ∈ S,Reach fs a x
 todo:∀ x ∈ T,x=a \/ x ∈ S
 fin:f=a \/ f ∈ S
 done:∀ x,(x=a \/ x ∈ S)->x ∉ T->x ≠ f->∀ b,CallsN fs x b->b ≠ a/\b ∈ S
 got:∀ (i:Nat) b,i<j->gs[i]?=some b->b ≠ a/\b ∈ S
 nodup:S.Nodup
 sub:∀ x ∈ S,x ∈ fNames fs
theorem Dfs.start (fs:List FuncD) (a:ByteArray):Dfs fs a [] [a]:=
 ⟨(fun _ h=>nomatch h),(fun x h=>.inl (by simpa using h)),(fun x h hn=>by
  simp at hn
  rcases h with h|h
  ·exact absurd h hn
  ·exact (nomatch h)),List.nodup_nil,(fun _ h=>nomatch h)⟩
open Classical in
theorem Dfs.stop {fs:List FuncD} {a:ByteArray} {S:List ByteArray} (h:Dfs fs a S []):loopB fs a=false:=by
 unfold loopB
 rw [decide_eq_false_iff_not]
 have hall:∀ x,Reach fs a x->x ≠ a/\x ∈ S:=by
  intro x hx
  induction hx with
  | one hc=>exact h.done a (.inl rfl) (by simp) _ hc
  | more _ hc ih=>exact h.done _ (.inr ih.2) (by simp) _ hc
 exact fun hr=>(hall a hr).1 rfl
open Classical in
theorem DfsIn.found {fs:List FuncD} {a f:ByteArray} {gs:List ByteArray} {j:Nat} {S T:List ByteArray} (h:DfsIn fs a f gs j S T) (hc:CallsN fs f a):loopB fs a=true:=by
 unfold loopB
 rw [decide_eq_true_iff]
 rcases h.fin with e|e
 ·subst e;exact .one hc
 ·exact .more (h.reach f e) hc
theorem Dfs.enter {fs:List FuncD} {a f:ByteArray} {S T:List ByteArray} (h:Dfs fs a S (T ++ [f])) (gs:List ByteArray):DfsIn fs a f gs 0 S T:=
 ⟨h.reach,fun x hx=>h.todo x (by simp [hx]),h.todo f (by simp),fun x hx hn hf=>h.done x hx (by simp [hn,hf]),fun i b hi=>by omega,h.nodup,h.sub⟩
theorem DfsIn.leave {fs:List FuncD} {a f:ByteArray} {gs:List ByteArray} {S T:List ByteArray} (h:DfsIn fs a f gs gs.length S T) (hg:∀ b,CallsN fs f b->b ∈ gs):Dfs fs a S T:=
 ⟨h.reach,h.todo,fun x hx hn b hb=>by
  by_cases e:x=f
  ·subst e
   obtain ⟨i,hi⟩:=List.getElem?_of_mem (hg b hb)
   exact h.got i b (lE hi).1 hi
  ·exact h.done x hx hn e b hb,h.nodup,h.sub⟩
theorem DfsIn.old {fs:List FuncD} {a f:ByteArray} {gs:List ByteArray} {j:Nat} {S T:List ByteArray} (h:DfsIn fs a f gs j S T) {g:ByteArray} (hg:gs[j]?=some g) (hne:g ≠ a) (hs:g ∈ S):DfsIn fs a f gs (j+1) S T:=
 ⟨h.reach,h.todo,h.fin,h.done,fun i b hi hb=>by
  rcases Nat.lt_or_ge i j with hij|hij
  ·exact h.got i b hij hb
  ·obtain rfl:i=j:=by omega
   rw [hg] at hb;cases hb;exact ⟨hne,hs⟩,h.nodup,h.sub⟩
theorem DfsIn.new {fs:List FuncD} {a f:ByteArray} {gs:List ByteArray} {j:Nat} {S T:List ByteArray} (h:DfsIn fs a f gs j S T) {g:ByteArray} (hg:gs[j]?=some g) (hne:g ≠ a) (hs:g ∉ S) (hc:CallsN fs f g) (hm:g ∈ fNames fs):DfsIn fs a f gs (j+1) (S ++ [g]) (T ++ [g]):=
 ⟨fun x hx=>by
  rcases List.mem_append.1 hx with hx|hx
  ·exact h.reach x hx
  ·rw [List.mem_singleton] at hx;subst hx
   rcases h.fin with e|e
   ·subst e;exact .one hc
   ·exact .more (h.reach f e) hc,
 fun x hx=>by
  rcases List.mem_append.1 hx with hx|hx
  ·rcases h.todo x hx with e|e
   ·exact .inl e
   ·exact .inr (by simp [e])
  ·rw [List.mem_singleton] at hx;subst hx;exact .inr (by simp),
 by rcases h.fin with e|e;exact .inl e;exact .inr (by simp [e]),
 fun x hx hn hf b hb=>by
  simp only [List.mem_append,List.mem_singleton,not_or] at hn hx
  have:x=a \/ x ∈ S:=by
   rcases hx with e|e|e
   ·exact .inl e
   ·exact .inr e
   ·exact absurd e hn.2
  have:=h.done x this hn.1 hf b hb
  exact ⟨this.1,by simp [this.2]⟩,
 fun i b hi hb=>by
  rcases Nat.lt_or_ge i j with hij|hij
  ·have:=h.got i b hij hb;exact ⟨this.1,by simp [this.2]⟩
  ·obtain rfl:i=j:=by omega
   rw [hg] at hb;cases hb;exact ⟨hne,by simp⟩,
 by rw [List.nodup_append];exact ⟨h.nodup,by simp,fun x hx y hy e=>by simp at hy;subst hy;subst e;exact hs hx⟩,
 fun x hx=>by
  rcases List.mem_append.1 hx with hx|hx
  ·exact h.sub x hx
  ·rw [List.mem_singleton] at hx;subst hx;exact hm⟩
theorem findZ_there {s:ByteArray} {l:List FuncD} (h:s ∈ fNames l):∃ (i:Nat) (f:FuncD),findZ s l=i/\l[i]?=some f/\l.find? (fun f=>decide (f.name=s))=some f:=by
 obtain ⟨f0,hf0,hn0⟩:=List.mem_map.1 h
 cases hfi:l.findIdx? (fun f=>decide (f.name=s)) with
 | none=>
  rw [List.findIdx?_eq_none_iff] at hfi
  have:=hfi f0 hf0
  simp [hn0] at this
 | some i=>
  obtain ⟨hi,h1,h2⟩:=List.findIdx?_eq_some_iff_getElem.1 hfi
  refine ⟨i,l[i],by unfold findZ;rw [hfi],lG hi,?_⟩
  rw [List.find?_eq_some_iff_getElem]
  exact ⟨h1,i,hi,rfl,fun j hj=>by simpa using h2 j hj⟩
theorem own_one (w:World) (base:Nat) (v:Value) (t:TypeId) (hb:base<=w.heap.size):(w.alloc (.cells #[v] t)).ownsRow base t 1 (.slice (some ⟨w.heap.size,0,none⟩) 1 1) 1 [v]:=
 ⟨rfl,.inr ⟨w.heap.size,1,#[v],rfl,hb,heap_alloc_new _ _,nR _,by unfold maxLen;omega,rfl,rfl⟩⟩
theorem own_shrink {w:World} {base:Nat} {e:TypeId} {a:Option Addr} {c n m:Nat} {xs ys:List Value} (h:w.ownsRow base e 1 (.slice a (n+m) c) (n+m) (xs ++ ys)) (hx:xs.length=n) (hp:0<n+m):w.ownsRow base e 1 (.slice a n c) n xs:=by
 obtain ⟨hl,⟨h1,h2⟩|⟨g,cap,cur,h1,hg,hb,hn,hc,hs,ht⟩⟩:=h
 ·omega
 ·simp only [Value.slice.injEq] at h1
  obtain ⟨rfl,_,rfl⟩:=h1
  refine ⟨by omega,.inr ⟨g,c,cur,rfl,hg,hb,by omega,hc,hs,?_⟩⟩
  have:(cur.toList.take ((n+m) * 1)).take n=(xs ++ ys).take n:=by rw [ht]
  rw [List.take_take,Nat.mul_one,Nat.min_eq_left (by omega)] at this
  rw [Nat.mul_one,this,<- hx]
  simp
theorem loops_any (cb:Nat) (fv:Value) (fs:List FuncD) (s:ByteArray) (w:World) (h3:w.cell? ⟨cb,3,none⟩=some fv) (hf:RdFuncs none w fv fs) (hres:∀ f ∈ fs,∀ g ∈ callsOf f.code,g ∈ fNames fs) (hs:s ∈ fNames fs) :
  Calls Tryz.prog 85 #[.pointer (some ⟨cb,0,none⟩),.string s] w fun e w'=>e=.returned (.bool (loopB fs s))/\Below w.heap.size w w':=by
 obtain ⟨a,c,rfl,hlen,hr⟩:=id hf
 obtain ⟨i0,hi,hz0,hz1,hz2⟩:=info_parts infoStr
 have hnm:Hid (∀ x ∈ fNames fs,x.size<=maxLen):=by
  intro x hx
  obtain ⟨f,hf,rfl⟩:=List.mem_map.1 hx
  obtain ⟨i,hi⟩:=List.getElem?_of_mem hf
  obtain ⟨b,o,pv,cv,_,_,_,_,_,_,_,hri⟩:=hr i f hi
  exact hri.2.2.2.2
 have HR:=Hd hr
 have HF:=Hd hf
 have HRES:=Hd hres
 have HS:=Hd hs
 have H3:=Hd h3
 have hmm:=@run_makeMap Tryz.prog
 have hmf:∀ (fn:Fn) (first cap:Array Value) (w:World),(Instr.makeFunc fn first cap).run Tryz.prog w=.ok (.func fn first cap) w:=fun _ _ _ _=>rfl
 clear hr hf hres hs h3
 go_enter Tryz.func85,Tryz.ntmps85
 go_wp2
 go_loopg [6] (fs.length+1) (fun gk todo wr=>∃ (S T:List ByteArray),Dfs fs s S T/\SetIs wr w.heap.size S/\wr.ownsRow w.heap.size 9 1 todo T.length (T.flatMap strCells)/\Below w.heap.size w wr/\w.heap.size<wr.heap.size/\T.length+(fs.length - S.length)<=gk/\gk<=fs.length+1)
 case atStart=>
  have hb1:Below w.heap.size w (w.alloc (.map #[] 0)):=(bR _ _).alloc (nR _) _
  have e1:(w.alloc (.map #[] 0)).heap.size=w.heap.size+1:=by
   show (w.heap.push _).size=_
   simp
  have hb2:Below (w.alloc (.map #[] 0)).heap.size (w.alloc (.map #[] 0)) ((w.alloc (.map #[] 0)).alloc (.cells #[.string s] 9)):=(bR _ _).alloc (nR _) _
  refine ⟨[],[s],Dfs.start _ _,(SetIs.made w).keep hb2,?_,bcomp hb1 hb2,by simp;omega,by simp;omega,nR _⟩
  have:=own_one (w.alloc (.map #[] 0)) w.heap.size (.string s) 9 (by omega)
  rw [e1] at this
  exact this
 case round=>
  obtain ⟨wo,rfl⟩:∃ x:World,x=wr:=⟨_,rfl⟩
  obtain ⟨go,rfl⟩:∃ x:Nat,x=gk:=⟨_,rfl⟩
  obtain ⟨S,T,hdfs,hset,hown,hb,hsz,hms,hgk⟩:=hrel
  clear hmm
  have HSET:=Hd hset
  have HB:=Hd hb
  rcases List.eq_nil_or_concat T with rfl|⟨T',f,rfl⟩
  ·have HV:=Hd hdfs.stop
   obtain ⟨a6,c6,rfl,_⟩:=own_read hown
   clear hdfs hset hown hb
   go_wp2
   go_ret
   exact ⟨by rw [HV.out];rfl,HB.out⟩
  rw [List.concat_eq_append] at *
  have hfm:f ∈ fNames fs:=by
   rcases hdfs.todo f (by simp) with e|e
   ·rw [e];exact HS.out
   ·exact hdfs.sub f e
  obtain ⟨i,fd,hidx,hfi,hfind⟩:=findZ_there hfm
  obtain ⟨b,o,pv2,cv2,rfl,_,q0,q1,q2,q3,q4,hfd⟩:=HR.out i fd hfi
  have HCV:=Hd hfd.2.1
  obtain ⟨ac,kc,rfl,_⟩:=id hfd.2.1
  have hilt:(i:Int)<(fs.length:Int):=by have:=(lE hfi).1;omega
  have hcalls:Hid ((∀ g,CallsN fs f g->g ∈ callsOf fd.code)/\∀ g,g ∈ callsOf fd.code->CallsN fs f g/\g ∈ fNames fs):=by
   refine ⟨fun g hg=>?_,fun g hg=>⟨⟨fd,hfind,hg⟩,HRES.out fd (List.mem_of_getElem? hfi) g hg⟩⟩
   obtain ⟨f',h1,h2⟩:=hg
   rw [hfind] at h1;cases h1;exact h2
  have hlenT:(T' ++ [f]).length=T'.length+1:=by simp
  rw [hlenT] at hown hms
  rw [show (T' ++ [f]).flatMap strCells=T'.flatMap strCells ++ [.string f] from by simp [strCells]] at hown
  have hT'l:(T'.flatMap strCells).length=T'.length:=by rw [flat_length strCells 1 (fun _=>rfl)];omega
  obtain ⟨g6,c6,rfl,_,hcell⟩:=own_at hown (by simp)
  have hcf:=hcell T'.length (.string f) (by rw [List.getElem?_append_right (by omega),hT'l];simp)
  rw [Nat.zero_add] at hcf
  have hshr:=own_shrink hown hT'l (by omega)
  have hSl:=nodup_le S (fNames fs) hdfs.nodup hdfs.sub
  have hSl2:S.length<=fs.length:=by simpa [fNames] using hSl
  have HSH:=Hd hshr
  have HIN:=Hd (hdfs.enter (callsOf fd.code))
  have c3:=cell_keep hb H3.out
  have c1:=fun (w:World) (h:RdFuncs none w (.slice (some ⟨b,o,none⟩) fs.length c) fs) (hc:w.cell? ⟨wo.heap.size,0,none⟩=some (.string f))=>indexFunc _ fs wo.heap.size f w h hc
  rw [hidx] at c1
  have C1:=Hd c1
  have Q2:=Hd q2
  have hcap:T'.length+1<=c6:=by
   obtain ⟨_,⟨h1,h2⟩|⟨g',cap,cur,h1,_,_,hn,_⟩⟩:=hown
   ·omega
   ·simp only [Value.slice.injEq] at h1;omega
  clear hdfs hset hown hcell hidx hfi hfind hshr hSl c1 q0 q1 q2 q3 q4 hfd hlenT hT'l hfm
  have hb4:Below wo.heap.size wo (wo.alloc (.cells #[.string f] 9)):=(bR _ _).alloc (nR _) _
  have HB4:=Hd hb4
  have c3':=cell_keep hb4 c3
  clear hb4 hb
  go_wp2_with (first
   | (go_at_call 116;refine (C1.out _ (HF.out.keep (bcomp HB.out HB4.out)) (row_of (heap_alloc_new _ _) 0 _ rfl)).mono ?_;rintro e w1 ⟨rfl,hb1⟩;have HB1:=Hd (bcomp HB4.out hb1);have c3'':=cell_keep hb1 c3';have r2:=cell_keep (bcomp HB.out HB1.out) Q2.out;clear hb1 c3' c3 hcf)
   | (go_at_call 118;refine (calls_any _ fd.code _ (HCV.out.keep (bcomp HB.out HB1.out))).mono ?_;rintro e w2 ⟨gv,rfl,hgs,hb2⟩;obtain ⟨ag,kg,rfl,hgl,_⟩:=id hgs;have HGS:=Hd hgs;have hs12:=hb2.size;clear hgs;have HB2:=Hd (bcomp HB1.out hb2);clear hb2 c3'' r2))
  have hg6:g6<wo.heap.size:=by
   obtain ⟨_,cur,hgb⟩:=own_is HSH.out (k:=g6) (by simp [Value.ownBlock])
   exact (aE hgb).1
  have hs1:=HB1.out.size
  have hs2:=HB2.out.size
  have HSET2:=Hd (HSET.out.keep HB2.out)
  have HSH2:=Hd (own_below HSH.out HB2.out)
  have HBW2:=Hd (bcomp HB.out HB2.out)
  generalize hgsd:callsOf fd.code=gs at *
  clear hgsd
  go_loopg [6,46] gs.length (fun gk2 todo ii wi=>∃ (j:Nat) (S2 T2:List ByteArray),j<=gs.length/\ii=.int .i64 j/\gk2=gs.length - j/\DfsIn fs s f gs j S2 T2/\SetIs wi w.heap.size S2/\wi.ownsRow w.heap.size 9 1 todo T2.length (T2.flatMap strCells)/\(∀ k,todo.ownBlock=some k->k<w1.heap.size \/ w2.heap.size<=k)/\Below w.heap.size w wi/\w2.heap.size<=wi.heap.size/\(∀ b,w1.heap.size<=b->b<w2.heap.size->wi.heap[b]?=w2.heap[b]?)/\T2.length+1+(fs.length - S2.length)<=go)
  case atStart=>exact ⟨0,S,T',Nat.zero_le _,rfl,rfl,HIN.out,HSET2.out,HSH2.out,(fun k hk=>by simp [Value.ownBlock] at hk;omega),HBW2.out,nR _,(fun _ _ _=>rfl),hms⟩
  case round=>
   obtain ⟨wi,rfl⟩:∃ x:World,x=wr:=⟨_,rfl⟩
   obtain ⟨j,S2,T2,hj,rfl,rfl,hd2,hset2,hown2,hob,hbw,hszi,hrg,hms2⟩:=hrel
   have HD2:=Hd hd2
   have HSI:=Hd hset2
   have HOI:=Hd hown2
   have HOB:=Hd hob
   have HRG:=Hd hrg
   have HBW:=Hd hbw
   clear hd2 hset2 hown2 hob hrg hbw
   by_cases hjl:j<gs.length
   rotate_left
   ·obtain rfl:j=gs.length:=by omega
    have HQ:=Hd (HD2.out.leave hcalls.out.1)
    go_wp2
    go_roundg (go - 1)
    case measure=>omega
    case rel=>exact ⟨S2,T2,HQ.out,HSI.out,HOI.out,HBW.out,by omega,by omega,by omega⟩
   obtain ⟨g,hg⟩:∃ g,gs[j]?=some g:=⟨_,lG hjl⟩
   have HGJ:=Hd hg
   have HGM:=Hd (hcalls.out.2 g (List.mem_of_getElem? hg))
   have hgz:=hnm.out g HGM.out.2
   have hrd:RdStrs (some (upFrom w1.heap.size)) wi (.slice ag gs.length kg) gs:=RdStrs.same HGS.out (fun b hb hb2=>HRG.out b hb hb2) (fun _ _ h=>h)
   obtain ⟨ag',kg',hage,_,hrr⟩:=hrd
   simp only [Value.slice.injEq] at hage
   obtain ⟨rfl,_,rfl⟩:=hage
   obtain ⟨bg,og,rfl,_,cg,_⟩:=hrr j g hg
   have hjl2:(j:Int)<(gs.length:Int):=by omega
   clear hrr hg
   cases he:(g.toList == s.toList)
   rotate_left
   ·have hgs2:g=s:=toList_inj (by simpa using he)
    have HV:=Hd (HD2.out.found (hgs2 ▸ HGM.out.1))
    clear hgs2
    go_wp2
    go_ret
    exact ⟨by rw [HV.out];rfl,HBW.out⟩
   have hne:Hid (g ≠ s):=fun e=>by rw [e] at he;simp at he
   cases hin:inL g S2
   rotate_left
   ·have HN:=Hd hin
    have HQ:=Hd (HD2.out.old HGJ.out hne.out (inL_iff.1 hin))
    clear hin
    go_wp2_with (at_lookup;refine wpList_set_lookup rfl _ _ _ rfl _ _ Tryz.underlying9 Tryz.underlying103 (names_zero _) w.heap.size S2 rfl g rfl hgz HSI.out ?_;rw [HN.out])
    go_roundg (gs.length - (j+1))
    case measure=>omega
    case rel=>exact ⟨j+1,S2,T2,by omega,by go_num,rfl,HQ.out,HSI.out,HOI.out,HOB.out,HBW.out,hszi,HRG.out,hms2⟩
   have HN:=Hd hin
   have HQ:=Hd (HD2.out.new HGJ.out hne.out (inL_not.1 hin) HGM.out.1 HGM.out.2)
   have hS3:(S2 ++ [g]).length<=fs.length:=by have:=nodup_le _ (fNames fs) HQ.out.nodup HQ.out.sub;simpa [fNames] using this
   rw [List.length_append,List.length_singleton] at hS3
   have hput:Hid (putL g S2=S2 ++ [g]):=by show _=_;unfold putL;rw [hin];rfl
   clear hin
   obtain ⟨a7,c7,rfl,_⟩:=own_read HOI.out
   go_wp2_with (first
    | (at_lookup;refine wpList_set_lookup rfl _ _ _ rfl _ _ Tryz.underlying9 Tryz.underlying103 (names_zero _) w.heap.size S2 rfl g rfl hgz HSI.out ?_;rw [HN.out])
    | (at_mapUpdate;refine wpList_set_store rfl _ _ _ _ rfl _ _ Tryz.underlying9 Tryz.underlying103 w.heap.size S2 rfl g rfl rfl hgz HSI.out ?_;intro w5 hs5 hg5 hz5;have HS5:=Hd hs5;have HG5:=Hd hg5;have HO5:=Hd (own_turn HOI.out (Turned.of_grown (S:=fun k=>k=w.heap.size) hg5 (fun b e=>by cases e;rfl)) (fun k hk e=>own_ne_map HOI.out HSI.out (by rw [hk,e])));have hz7:=Nat.le_of_eq hz5.symm;clear hs5 hg5 hz5)
    | (at_builtin;refine wpList_append_own_at _ rfl (.tmp 59) (.tmp 61) 22 rfl w.heap.size 9 i0 (.string ⟨#[]⟩) 1 16 Tryz.underlying22 hi hz0 hz1 hz2 rfl (by decide) _ _ _ rfl (HO5.out.alloc _) ⟨w5.heap.size,0,none⟩ 1 1 (strCells g) rfl rfl (many_new _ _ _) ?c2 ?c3 ?c4 ?c5 ?_))
   case c2=>intro u hu;simp [strCells] at hu;subst hu;rfl
   case c3=>unfold maxLen;omega
   case c4=>omega
   case c5=>simp;omega
   ·intro v' w6 hown' hgrow _ hat
    have hal:Below w5.heap.size w5 (w5.alloc (.cells (strCells g).toArray 9)):=(bR _ _).alloc (nR _) _
    have e5:(w5.alloc (.cells (strCells g).toArray 9)).heap.size=w5.heap.size+1:=by
     show (w5.heap.push _).size=_
     simp
    have ht5:Turned (fun k=>k=w.heap.size) wi w5:=Turned.of_grown HG5.out (fun b e=>by cases e;rfl)
    have ht6:Turned (fun k=>(Value.slice a7 T2.length c7).ownBlock=some k) w5 w6:=(Turned.of_below hal).trans (Turned.of_grown hgrow (fun b e=>e))
    have hob6:∀ k,(Value.slice a7 T2.length c7).ownBlock=some k->w.heap.size<=k:=fun k hk=>(own_is HOI.out hk).1
    have HSN:Hid (SetIs w6 w.heap.size (S2 ++ [g])):=by
     have h:=HS5.out
     rw [hput.out] at h
     exact h.turn ht6 (own_ne_map HO5.out h)
    have HBN:Hid (Below w.heap.size w w6):=below_then (below_then HBW.out ht5 (by omega) (fun i e=>by omega)) ht6 (by omega) hob6
    have HRN:Hid (∀ b,w1.heap.size<=b->b<w2.heap.size->w6.heap[b]?=w2.heap[b]?):=by
     intro b h1 h2
     rw [ht6.block b (by omega) (fun e=>by rcases HOB.out b e with h|h <;> omega),ht5.block b (by omega) (by omega)]
     exact HRG.out b h1 h2
    have HON:Hid (∀ k,v'.ownBlock=some k->k<w1.heap.size \/ w2.heap.size<=k):=by
     intro k hk
     rcases hat with h|h
     ·exact HOB.out k (by rw [<- h];exact hk)
     ·rw [hk] at h;simp only [Option.some.injEq] at h;right;(try rw [e5] at h);omega
    have hz6:=ht6.size
    have HWN:Hid (w6.ownsRow w.heap.size 9 1 v' (T2 ++ [g]).length ((T2 ++ [g]).flatMap strCells)):=by
     have:(T2 ++ [g]).flatMap strCells=T2.flatMap strCells ++ strCells g:=by simp
     rw [this,List.length_append,List.length_singleton]
     exact hown'
    clear hown' hgrow hat hal e5 ht5 ht6 hob6
    go_wp2
    go_roundg (gs.length - (j+1))
    case measure=>omega
    case rel=>exact ⟨j+1,S2 ++ [g],T2 ++ [g],by omega,by go_num,rfl,HQ.out,HSN.out,HWN.out,HON.out,HBN.out,by omega,HRN.out,by simp;omega⟩
open Go.ChangeShapes Go.WideShapes Go.ChangeAt Go.RowKit
theorem infoNames:(Tryz.prog.info? 103).map (fun i=>(i.zero,i.size,i.bytes))=some (some (.map none),1,8):=by kernel_rfl
theorem ok_cases (b main e:Bool):(b=false) \/ (b=true/\main=false) \/ (b=true/\main=true/\e=true) \/ (b=true/\main=true/\e=false):=by cases b <;> cases main <;> cases e <;> simp
def okB (x:InstrD) (main:Bool):Bool:=formB x && !(main && x.kind == 12)
theorem kind_cases (z:Int):((z == 5)=true) \/ ((z == 5)=false/\(z == 6)=true) \/ ((z == 5)=false/\(z == 6)=false/\(z == 2)=true) \/ ((z == 5)=false/\(z == 6)=false/\(z == 2)=false/\(z == 3)=true) \/
  ((z == 5)=false/\(z == 6)=false/\(z == 2)=false/\(z == 3)=false/\(z == 10)=true) \/ ((z == 5)=false/\(z == 6)=false/\(z == 2)=false/\(z == 3)=false/\(z == 10)=false/\(z == 7)=true) \/
  ((z == 5)=false/\(z == 6)=false/\(z == 2)=false/\(z == 3)=false/\(z == 10)=false/\(z == 7)=false):=by
 cases z == 5 <;> cases z == 6 <;> cases z == 2 <;> cases z == 3 <;> cases z == 10 <;> cases z == 7 <;> simp
section
variable (chans arrays labels sites:List ByteArray) (main:Bool) (x:InstrD)
theorem instrF_bad (h:okB x main=false):instrF chans arrays main labels sites x=some ⟨x.line,x.col,4⟩:=by unfold instrF;unfold okB at h;rw [h];rfl
theorem instrF_good (h:okB x main=true):instrF chans arrays main labels sites x=restF chans arrays labels sites x:=by unfold instrF;unfold okB at h;rw [h];rfl
theorem restF_chan (h:(x.kind == 5)=true \/ (x.kind == 6)=true):restF chans arrays labels sites x=needF (inL x.name chans) x.line x.col 6:=by
 unfold restF;rw [if_pos (by simpa using h)]
theorem restF_arr (h5:(x.kind == 5)=false) (h6:(x.kind == 6)=false) (h:(x.kind == 2)=true \/ (x.kind == 3)=true):restF chans arrays labels sites x=needF (inL x.name arrays) x.line x.col 6:=by
 unfold restF;rw [if_neg (by simp at h5 h6;omega),if_pos (by simpa using h)]
theorem restF_lab (h:(x.kind == 10)=true):restF chans arrays labels sites x=needF (!inL x.name labels) x.line x.col 8:=by
 unfold restF;simp at h;rw [if_neg (by omega),if_neg (by omega),if_pos h]
theorem restF_rel (h:(x.kind == 7)=true):restF chans arrays labels sites x=needF (inL x.name sites || decide (sites.length<32)) x.line x.col 5:=by
 unfold restF;simp at h;rw [if_neg (by omega),if_neg (by omega),if_neg (by omega),if_pos h]
theorem restF_no (h5:(x.kind == 5)=false) (h6:(x.kind == 6)=false) (h2:(x.kind == 2)=false) (h3:(x.kind == 3)=false) (h10:(x.kind == 10)=false) (h7:(x.kind == 7)=false):restF chans arrays labels sites x=none:=by
 unfold restF;simp at h5 h6 h2 h3 h10 h7;rw [if_neg (by omega),if_neg (by omega),if_neg (by omega),if_neg (by omega)]
end
theorem labels_step (l:List InstrD) (x:InstrD) (k:Nat) (h:l[k]?=some x):labelsOf (l.take (k+1))=if x.kind == 10 then labelsOf (l.take k) ++ [x.name] else labelsOf (l.take k):=by
 rw [List.take_add_one,h];exact labelsOf_snoc _ _
theorem sites_step (s:List ByteArray) (l:List InstrD) (x:InstrD) (k:Nat) (h:l[k]?=some x):sitesOf s (l.take (k+1))=if x.kind == 7 then putL x.name (sitesOf s (l.take k)) else sitesOf s (l.take k):=by
 rw [List.take_add_one,h];exact sitesOf_snoc _ _ _
structure InsAt (w:World) (chans arrays sites:List ByteArray) (bc ba bs lb:Nat) (code:List InstrD) (k:Nat) (wr:World):Prop where
 turned:Turned (fun i=>i=bs) w wr
 kept:Kept w wr
 hc:SetIs wr bc chans
 ha:SetIs wr ba arrays
 hs:SetIs wr bs (sitesOf sites (code.take k))
 hl:SetIs wr lb (labelsOf (code.take k))
theorem InsAt.keep {w:World} {chans arrays sites:List ByteArray} {bc ba bs lb:Nat} {code:List InstrD} {k:Nat} {wr wr':World} (h:InsAt w chans arrays sites bc ba bs lb code k wr) (b:Below wr.heap.size wr wr'):InsAt w chans arrays sites bc ba bs lb code k wr':=
 ⟨h.turned.trans (Turned.of_below b),h.kept.trans (Kept.of_below b),h.hc.keep b,h.ha.keep b,h.hs.keep b,h.hl.keep b⟩
theorem InsAt.next {w:World} {chans arrays sites:List ByteArray} {bc ba bs lb:Nat} {code:List InstrD} {k:Nat} {wr:World} (h:InsAt w chans arrays sites bc ba bs lb code k wr) {x:InstrD} (hx:code[k]?=some x) (h10:(x.kind == 10)=false) (h7:(x.kind == 7)=false):InsAt w chans arrays sites bc ba bs lb code (k+1) wr:=
 ⟨h.turned,h.kept,h.hc,h.ha,by rw [sites_step _ _ _ _ hx,h7];exact h.hs,by rw [labels_step _ _ _ hx,h10];exact h.hl⟩
theorem InsAt.label {w:World} {chans arrays sites:List ByteArray} {bc ba bs lb:Nat} {code:List InstrD} {k:Nat} {wr wr':World} (h:InsAt w chans arrays sites bc ba bs lb code k wr) {x:InstrD} (hx:code[k]?=some x) (h10:(x.kind == 10)=true) (hn:inL x.name (labelsOf (code.take k))=false)
  (hlb:w.heap.size<=lb) (h1:lb ≠ bc) (h2:lb ≠ ba) (h3:lb ≠ bs) (hs:SetIs wr' lb (putL x.name (labelsOf (code.take k)))) (hg:wr.grownBy wr' (some lb)):InsAt w chans arrays sites bc ba bs lb code (k+1) wr':=by
 have ht:Turned (fun i=>i=lb) wr wr':=Turned.of_grown hg (fun b e=>by cases e;rfl)
 have h7:(x.kind == 7)=false:=by simp at h10 ⊢;omega
 refine ⟨h.turned.step ht (fun i hi e=>by omega),h.kept.trans (Kept.of_map hg h.hl),h.hc.turn ht (fun e=>h1 e.symm),h.ha.turn ht (fun e=>h2 e.symm),?_,?_⟩
 ·rw [sites_step _ _ _ _ hx,h7];exact h.hs.turn ht (fun e=>h3 e.symm)
 ·rw [labels_step _ _ _ hx,h10];unfold putL at hs;rw [hn] at hs;exact hs
theorem InsAt.site {w:World} {chans arrays sites:List ByteArray} {bc ba bs lb:Nat} {code:List InstrD} {k:Nat} {wr wr':World} (h:InsAt w chans arrays sites bc ba bs lb code k wr) {x:InstrD} (hx:code[k]?=some x) (h7:(x.kind == 7)=true)
  (h1:bc ≠ bs) (h2:ba ≠ bs) (h3:lb ≠ bs) (hs:SetIs wr' bs (putL x.name (sitesOf sites (code.take k)))) (hg:wr.grownBy wr' (some bs)):InsAt w chans arrays sites bc ba bs lb code (k+1) wr':=by
 have ht:Turned (fun i=>i=bs) wr wr':=Turned.of_grown hg (fun b e=>by cases e;rfl)
 have h10:(x.kind == 10)=false:=by simp at h7 ⊢;omega
 refine ⟨h.turned.trans ht,h.kept.trans (Kept.of_map hg h.hs),h.hc.turn ht h1,h.ha.turn ht h2,?_,?_⟩
 ·rw [sites_step _ _ _ _ hx,h7];exact hs
 ·rw [labels_step _ _ _ hx,h10];exact h.hl.turn ht h3
theorem instrs_any (cb bc ba bs n base:Nat) (pw line col:Int) (pc pa pf pm mp lv cv:Value) (chans arrays sites:List ByteArray) (ls:List Value) (code:List InstrD) (main:Bool) (w:World)
  (hck:w.heap[cb]?=some (.cells #[.int .i64 pw,pc,pa,pf,pm,.map (some bc),.map (some ba),.map (some bs),mp,lv] 107 (0,0)))
  (hc:SetIs w bc chans) (ha:SetIs w ba arrays) (hs:SetIs w bs sites) (hd1:bc ≠ bs) (hd2:ba ≠ bs) (hl:w.ownsRow base 103 1 lv n ls) (hbase:base<=w.heap.size) (hn:n<=1000)
  (hcode:RdInstrs none w cv code) (hL:Laid w) :
  Calls Tryz.prog 83 #[.pointer (some ⟨cb,0,none⟩),cv,.agg #[.int .i64 line,.int .i64 col],.bool main] w fun e w'=>
   e=endF (instrsF chans arrays main sites code line col)/\Turned (fun k=>k=bs \/ k=cb \/ lv.ownBlock=some k) w w' /\
   (instrsF chans arrays main sites code line col=none->∃ lb lv',w.heap.size<=lb/\SetIs w' lb (labelsOf code)/\SetIs w' bs (sitesOf sites code)/\w'.heap[cb]?=some (.cells #[.int .i64 pw,pc,pa,pf,pm,.map (some bc),.map (some ba),.map (some bs),mp,lv'] 107 (0,0))/\w'.ownsRow base 103 1 lv' (n+1) (ls ++ [.map (some lb)])):=by
 obtain ⟨a,c,rfl,hlen,hr⟩:=hcode
 obtain ⟨i0,hi,hz0,hz1,hz2⟩:=info_parts infoNames
 have HR:=Hd hr
 have HLd:=Hd hL
 have HCK:=Hd hck
 have HOW:=Hd hl
 have HST:=Hd (And.intro hc (And.intro ha hs))
 have hmm:=@run_makeMap Tryz.prog
 clear hr hL hck hl hc ha hs
 have hcbl:Hid (cb<w.heap.size):=(aE HCK.out).1
 have hbsl:Hid (bc<w.heap.size/\ba<w.heap.size/\bs<w.heap.size):=⟨HST.out.1.lt,HST.out.2.1.lt,HST.out.2.2.lt⟩
 by_cases h1k:code.length<=1024
 rotate_left
 ·have hF:Hid (instrsF chans arrays main sites code line col=some ⟨line,col,5⟩):=by show _=_;unfold instrsF;rw [decide_eq_false h1k];rfl
  have h1k2:decide ((code.length:Int)<=1024)=false:=decide_eq_false (by omega)
  clear h1k
  go_enter Tryz.func83,Tryz.ntmps83
  go_wp2_with fail
  refine (need_bad line col 5 _).mono ?_
  rintro e w2 ⟨rfl,hb2⟩
  refine ⟨rfl,by rw [hF.out];rfl,Turned.of_below (bcomp ((bR _ _).alloc (nR _) _) hb2),fun h=>?_⟩
  rw [hF.out] at h;cases h
 have hF:Hid (instrsF chans arrays main sites code line col=codeF chans arrays main sites code):=by show _=_;unfold instrsF;rw [decide_eq_true h1k];rfl
 have h1k2:(code.length:Int)<=1024:=by omega
 go_enter Tryz.func83,Tryz.ntmps83
 go_wp2_with fail
 refine (need_ok line col 5 _).mono ?_
 rintro e w2 ⟨rfl,hb2⟩
 have HB2:=Hd (bcomp ((bR _ _).alloc (nR _) (.cells #[.int .i64 line,.int .i64 col] 35)) hb2)
 have hsz2:w.heap.size<w2.heap.size:=by have:=hb2.size;simp at this;omega
 clear hb2
 go_upto_region 3 with fail
 have HI0:Hid (InsAt w chans arrays sites bc ba bs w2.heap.size code 0 (w2.alloc (.map #[] 0))):=by
  have hb3:Below w.heap.size w (w2.alloc (.map #[] 0)):=bcomp HB2.out ((bR _ _).alloc (nR _) _)
  exact ⟨Turned.of_below hb3,Kept.of_below hb3,HST.out.1.keep hb3,HST.out.2.1.keep hb3,HST.out.2.2.keep hb3,SetIs.made w2⟩
 generalize w2.alloc (.map #[] 0)=W3 at *
 obtain ⟨lb,hlb⟩:∃ lb,lb=w2.heap.size:=⟨_,rfl⟩
 rw [<- hlb] at HI0 hsz2 ⊢
 clear hlb
 have hlbne:Hid (lb ≠ bc/\lb ≠ ba/\lb ≠ bs/\lb ≠ cb):=by have h1:=hcbl.out;have h2:=hbsl.out;refine ⟨?_,?_,?_,?_⟩ <;> omega
 go_wp2
 go_loopw [19] (fun i wr=>∃ k:Nat,k<=code.length/\i=.int .i64 k/\InsAt w chans arrays sites bc ba bs lb code k wr/\Hid (codeF chans arrays main sites code=firstF (fun d x=>instrF chans arrays main (labelsOf d) (sitesOf sites d) x) (code.take k) (code.drop k))) (fun i _=>code.length - (intOf i).toNat)
 case atStart=>exact ⟨0,Nat.zero_le _,rfl,HI0.out,rfl⟩
 case round=>
  obtain ⟨k,hk,rfl,hI,hq⟩:=hrel
  have HI:=Hd hI
  clear hI HI0 hmm
  by_cases hlt:k<code.length
  rotate_left
  ·obtain rfl:k=code.length:=by omega
   have HN:Hid (instrsF chans arrays main sites code line col=none):=by show _=_;rw [hF.out];exact firstF_end hq.out
   have hck:wr.heap[cb]?=_:=(HI.out.turned.block cb hcbl.out (fun e=>map_ne_cells HST.out.2.2 HCK.out e.symm)).trans HCK.out
   have c9:=row_of hck 9 lv rfl
   have hown:wr.ownsRow base 103 1 lv n ls:=own_turn HOW.out HI.out.turned (fun g hg e=>own_ne_map HOW.out HST.out.2.2 (by rw [hg,e]))
   have hws:=HI.out.turned.size
   have HCW:=Hd hck
   clear hck
   have hcw:cb<wr.heap.size:=Nat.lt_of_lt_of_le hcbl.out hws
   go_wp2_with (at_builtin;refine wpList_append_own _ rfl (.tmp 109) (.tmp 111) 105 rfl base 103 i0 (.map none) 1 8 Tryz.underlying105 hi hz0 hz1 hz2 rfl (by decide) _ _ _ rfl (hown.alloc _) ⟨wr.heap.size,0,none⟩ 1 1 [.map (some lb)] rfl rfl (many_new _ _ _) ?c2 ?c3 ?c4 ?c5 ?_)
   case c2=>intro u hu;simp at hu;subst hu;rfl
   case c3=>unfold maxLen;omega
   case c4=>omega
   case c5=>simp;omega
   ·intro v' w1 hown' hgrow _
    obtain ⟨av',kv',rfl,_⟩:=own_read hown'
    have hal:Below wr.heap.size wr (wr.alloc (.cells #[.map (some lb)] 103)):=(bR _ _).alloc (nR _) _
    have hne:some cb ≠ lv.ownBlock:=fun e=>own_ne_cells hown HCW.out (by decide) e.symm
    have hck1:=(hgrow.block cb (by simp;omega) hne).trans ((hal.block cb hcw).trans HCW.out)
    have c9':=row_of hck1 9 lv rfl
    have f9:=frozen_of_row w1 cb 9 _ _ hck1
    have ht1:Turned (fun k=>lv.ownBlock=some k) wr w1:=(Turned.of_below hal).trans (Turned.of_grown hgrow (fun b e=>e))
    have K1:=Hd hck1
    have HO:=Hd hown'
    have HH:=Hd hown
    clear hown' hown hgrow hck1 hal c9
    go_wp2
    go_end0
    have hsc:=setCell_turned w1 ⟨cb,9,none⟩ (.slice av' (n+1) kv')
    have ht2:Turned (fun k=>k=bs \/ k=cb \/ lv.ownBlock=some k) wr (w1.setCell ⟨cb,9,none⟩ (.slice av' (n+1) kv')):=(ht1.mono (fun i h=>.inr (.inr h))).trans (hsc.mono (fun i h=>.inr (.inl h)))
    have hbcb:bs ≠ cb:=map_ne_cells HI.out.hs HCW.out
    refine ⟨by rw [HN.out];rfl,(HI.out.turned.mono (fun i h=>.inl h)).step ht2 (fun i _ h=>h),fun _=>⟨lb,.slice av' (n+1) kv',by omega,?_,?_,?_,?_⟩⟩
    ·have h:=HI.out.hl
     rw [List.take_length] at h
     exact (h.turn ht1 (own_ne_map HH.out h)).turn hsc hlbne.out.2.2.2
    ·have h:=HI.out.hs
     rw [List.take_length] at h
     exact (h.turn ht1 (own_ne_map HH.out h)).turn hsc hbcb
    ·exact heap_setCell_same _ _ 9 _ _ _ K1.out
    ·refine own_turn HO.out hsc (fun g hg e=>?_)
     exact own_ne_cells HO.out K1.out (by decide) (by rw [hg];simp only at e;rw [e])
  obtain ⟨x,hx⟩:∃ x,code[k]?=some x:=⟨_,lG hlt⟩
  obtain ⟨b,o,av2,rfl,_,c0,c1,c2,c3,c4,c5,c6,hri⟩:=HR.out k x hx
  obtain ⟨aa,ca,rfl,_⟩:=id hri.1
  have d0:=HI.out.kept _ _ _ c0
  have d1:=HI.out.kept _ _ _ c1
  have d2:=HI.out.kept _ _ _ c2
  have d3:=HI.out.kept _ _ _ c3
  have d4:=HI.out.kept _ _ _ c4
  have d5:=HI.out.kept _ _ _ c5
  have d6:=HI.out.kept _ _ _ c6
  have HRI:=Hd (hri.kept HI.out.kept)
  have hns:x.name.size<=maxLen:=hri.2.2.2.2.2.2
  have HX:=Hd hx
  have hlt2:(k:Int)<(code.length:Int):=by omega
  have hwsz:=HI.out.turned.size
  clear c0 c1 c2 c3 c4 c5 c6 hri hx
  go_upto_region 6 with fail
  have hb4:Below wr.heap.size wr (wr.alloc (.cells #[.int .u8 x.kind,.int .u8 x.op,.string x.dst,   .string x.name,.slice aa x.args.length ca,.int .i64 x.line,.int .i64 x.col] 50)):=(bR _ _).alloc (nR _) _
  have G4:=heap_alloc_new wr (.cells #[.int .u8 x.kind,.int .u8 x.op,.string x.dst,   .string x.name,.slice aa x.args.length ca,.int .i64 x.line,.int .i64 x.col] 50)
  generalize wr.alloc (.cells #[.int .u8 x.kind,.int .u8 x.op,.string x.dst,   .string x.name,.slice aa x.args.length ca,.int .i64 x.line,.int .i64 x.col] 50)=W4 at *
  have i0':=row_of G4 0 (.int .u8 x.kind) rfl
  have i1':=row_of G4 1 (.int .u8 x.op) rfl
  have i2':=row_of G4 2 (.string x.dst) rfl
  have i3':=row_of G4 3 (.string x.name) rfl
  have i4':=row_of G4 4 (.slice aa x.args.length ca) rfl
  have i5':=row_of G4 5 (.int .i64 x.line) rfl
  have i6':=row_of G4 6 (.int .i64 x.col) rfl
  have HI4:=Hd (HI.out.keep hb4)
  have HRI4:=Hd (HRI.out.keep hb4)
  have HLd4:=Hd ((HLd.out.kept HI.out.kept).keep hb4)
  have HIS:=Hd (And.intro i0' (And.intro i3' (And.intro i5' i6')))
  generalize wr.heap.size=wn at *
  clear d0 d1 d2 d3 d4 d5 d6 hb4 G4 HI HRI
  go_cut [33] (fun cc wx=>okB x main=true/\Below W4.heap.size W4 wx)
  case first=>
   have e0:=ext_cell i0'
   have e1:=ext_cell i1'
   have e2:=ext_cell i2'
   have e3:=ext_cell i3'
   have e4:=ext_cell i4'
   have e5:=ext_cell i5'
   have e6:=ext_cell i6'
   clear i0' i1' i2' i3' i4' i5' i6'
   have c1:=fun (w:World) (h:RdInstr none w x (.slice aa x.args.length ca)) (hL:Laid w)=>formed_any x (.slice aa x.args.length ca) w h hL
   have hok:okB x main=(formB x && !(main && x.kind == 12)):=rfl
   rcases ok_cases (formB x) main (x.kind == 12) with h1|⟨h1,rfl⟩|⟨h1,rfl,h2⟩|⟨h1,rfl,h2⟩
   all_goals rw [h1] at c1 hok
   all_goals try rw [h2] at hok
   all_goals simp only [Bool.false_and,Bool.true_and,Bool.not_true,Bool.not_false] at hok
   all_goals have C1:=Hd c1
   all_goals have HK:=Hd hok
   all_goals clear c1 hok h1
   ·(refine wp_region_calm_tail 13 (by kernel_rfl) (by kernel_rfl) ?_; simp only [List.take_succ_cons, List.take_zero, List.drop_succ_cons, List.drop_zero]; (repeat (go_big_quiet_step ((go_at_call 115;exact calls_calm (C1.out _ (HRI4.out.keep (ext_below _ _)) (HLd4.out.ext _)))))); refine wpQuiet_nil ?_; intro wc hwc)
    go_wp2_with fail
    refine (need_bad x.line x.col 4 _).mono ?_
    rintro e w6 ⟨rfl,hb6⟩
    have hF2:=hF.out.trans (firstF_fault hq.out HX.out (instrF_bad _ _ _ _ _ _ HK.out))
    refine ⟨rfl,by rw [hF2];rfl,((HI4.out.keep hwc).keep hb6).turned.mono (fun i h=>.inl h),fun h=>?_⟩
    rw [hF2] at h;cases h
   ·(refine wp_region_calm_tail 13 (by kernel_rfl) (by kernel_rfl) ?_; simp only [List.take_succ_cons, List.take_zero, List.drop_succ_cons, List.drop_zero]; (repeat (go_big_quiet_step ((go_at_call 115;exact calls_calm (C1.out _ (HRI4.out.keep (ext_below _ _)) (HLd4.out.ext _)))))); refine wpQuiet_nil ?_; intro wc hwc)
    go_wp2_with fail
    refine (need_ok x.line x.col 4 _).mono ?_
    rintro e w6 ⟨rfl,hb6⟩
    go_wp2_with fail
    go_meet
    exact ⟨HK.out,bcomp hwc hb6⟩
   ·(refine wp_region_calm_tail 13 (by kernel_rfl) (by kernel_rfl) ?_; simp only [List.take_succ_cons, List.take_zero, List.drop_succ_cons, List.drop_zero]; (repeat (go_big_quiet_step ((go_at_call 115;exact calls_calm (C1.out _ (HRI4.out.keep (ext_below _ _)) (HLd4.out.ext _)))))); refine wpQuiet_nil ?_; intro wc hwc)
    go_wp2_with fail
    refine (need_bad x.line x.col 4 _).mono ?_
    rintro e w6 ⟨rfl,hb6⟩
    have hF2:=hF.out.trans (firstF_fault hq.out HX.out (instrF_bad _ _ _ _ _ _ HK.out))
    refine ⟨rfl,by rw [hF2];rfl,((HI4.out.keep hwc).keep hb6).turned.mono (fun i h=>.inl h),fun h=>?_⟩
    rw [hF2] at h;cases h
   ·(refine wp_region_calm_tail 13 (by kernel_rfl) (by kernel_rfl) ?_; simp only [List.take_succ_cons, List.take_zero, List.drop_succ_cons, List.drop_zero]; (repeat (go_big_quiet_step ((go_at_call 115;exact calls_calm (C1.out _ (HRI4.out.keep (ext_below _ _)) (HLd4.out.ext _)))))); refine wpQuiet_nil ?_; intro wc hwc)
    go_wp2_with fail
    refine (need_ok x.line x.col 4 _).mono ?_
    rintro e w6 ⟨rfl,hb6⟩
    go_wp2_with fail
    go_meet
    exact ⟨HK.out,bcomp hwc hb6⟩
  case rest=>
   obtain ⟨hok,hb5⟩:=hcut
   have HF5:Hid (instrF chans arrays main (labelsOf (code.take k)) (sitesOf sites (code.take k)) x=restF chans arrays (labelsOf (code.take k)) (sitesOf sites (code.take k)) x):=instrF_good _ _ _ _ _ _ hok
   clear i0' i1' i2' i3' i4' i5' i6' hok
   have i0':=cell_keep hb5 HIS.out.1
   have i3':=cell_keep hb5 HIS.out.2.1
   have i5':=cell_keep hb5 HIS.out.2.2.1
   have i6':=cell_keep hb5 HIS.out.2.2.2
   have HI5:=Hd (HI4.out.keep hb5)
   clear hb5 HI4 HRI4 HLd4 HIS
   generalize wc=W5 at *
   rcases kind_cases x.kind with h5|⟨h5,h6⟩|⟨h5,h6,h2⟩|⟨h5,h6,h2,h3⟩|⟨h5,h6,h2,h3,h10⟩|⟨h5,h6,h2,h3,h10,h7⟩|⟨h5,h6,h2,h3,h10,h7⟩
   ·have HK5:=Hd (HI5.out.kept)
    have c5:W5.cell? ⟨cb,5,none⟩=some (.map (some bc)):=HI5.out.turned.cell (row_of HCK.out 5 (.map (some bc)) rfl) (fun e=>map_ne_cells HST.out.2.2 HCK.out e.symm)
    have HKF:=Hd (restF_chan chans arrays (labelsOf (code.take k)) (sitesOf sites (code.take k)) x (.inl h5))
    cases hin:inL x.name chans
    ·have HIN:=Hd hin
     have e0:=ext_cell c5
     have e3:=ext_cell i3'
     have e5:=ext_cell i5'
     have e6:=ext_cell i6'
     have hlook:=set_look Tryz.underlying9 Tryz.underlying103 names_zero HI5.out.hc x.name hns _ hin
     go_upto_region 10 with fail
     clear hin i3' i5' i6' c5
     (refine wp_region_calm_tail 9 (by kernel_rfl) (by kernel_rfl) ?_; simp only [List.take_succ_cons, List.take_zero, List.drop_succ_cons, List.drop_zero]; (repeat (go_big_quiet_step (fail))); refine wpQuiet_nil ?_; intro wc hwc)
     clear e0 e3 e5 e6 hlook
     go_wp2_with fail
     refine (need_bad x.line x.col 6 _).mono ?_
     rintro e w6 ⟨rfl,hb6⟩
     have hF2:instrsF chans arrays main sites code line col=some ⟨x.line,x.col,6⟩:=by rw [hF.out];exact firstF_fault hq.out HX.out (by rw [HF5.out,HKF.out,HIN.out];rfl)
     refine ⟨rfl,by rw [hF2];rfl,((HI5.out.keep hwc).keep hb6).turned.mono (fun i h=>.inl h),fun h=>?_⟩
     rw [hF2] at h;cases h
    ·have HIN:=Hd hin
     have e0:=ext_cell c5
     have e3:=ext_cell i3'
     have e5:=ext_cell i5'
     have e6:=ext_cell i6'
     have hlook:=set_look Tryz.underlying9 Tryz.underlying103 names_zero HI5.out.hc x.name hns _ hin
     go_upto_region 10 with fail
     clear hin i3' i5' i6' c5
     (refine wp_region_calm_tail 9 (by kernel_rfl) (by kernel_rfl) ?_; simp only [List.take_succ_cons, List.take_zero, List.drop_succ_cons, List.drop_zero]; (repeat (go_big_quiet_step (fail))); refine wpQuiet_nil ?_; intro wc hwc)
     clear e0 e3 e5 e6 hlook
     go_wp2_with fail
     refine (need_ok x.line x.col 6 _).mono ?_
     rintro e w6 ⟨rfl,hb6⟩
     have hQ:Hid (codeF chans arrays main sites code=firstF (fun d x=>instrF chans arrays main (labelsOf d) (sitesOf sites d) x) (code.take (k+1)) (code.drop (k+1))):=by
      exact firstF_ok hq.out HX.out (by rw [HF5.out,HKF.out,HIN.out];rfl)
     have HJ:=Hd (((HI5.out.keep hwc).keep hb6).next HX.out (by have:=h5;simp at this ⊢;omega) (by have:=h5;simp at this ⊢;omega))
     go_wp2_with fail
     go_roundw
     case rel=>exact ⟨k+1,by omega,by go_num,HJ.out,hQ⟩
     case measure=>simp [intOf];omega
   ·have HK5:=Hd (HI5.out.kept)
    have c5:W5.cell? ⟨cb,5,none⟩=some (.map (some bc)):=HI5.out.turned.cell (row_of HCK.out 5 (.map (some bc)) rfl) (fun e=>map_ne_cells HST.out.2.2 HCK.out e.symm)
    have HKF:=Hd (restF_chan chans arrays (labelsOf (code.take k)) (sitesOf sites (code.take k)) x (.inr h6))
    cases hin:inL x.name chans
    ·have HIN:=Hd hin
     have e0:=ext_cell c5
     have e3:=ext_cell i3'
     have e5:=ext_cell i5'
     have e6:=ext_cell i6'
     have hlook:=set_look Tryz.underlying9 Tryz.underlying103 names_zero HI5.out.hc x.name hns _ hin
     go_upto_region 10 with fail
     clear hin i3' i5' i6' c5
     (refine wp_region_calm_tail 9 (by kernel_rfl) (by kernel_rfl) ?_; simp only [List.take_succ_cons, List.take_zero, List.drop_succ_cons, List.drop_zero]; (repeat (go_big_quiet_step (fail))); refine wpQuiet_nil ?_; intro wc hwc)
     clear e0 e3 e5 e6 hlook
     go_wp2_with fail
     refine (need_bad x.line x.col 6 _).mono ?_
     rintro e w6 ⟨rfl,hb6⟩
     have hF2:instrsF chans arrays main sites code line col=some ⟨x.line,x.col,6⟩:=by rw [hF.out];exact firstF_fault hq.out HX.out (by rw [HF5.out,HKF.out,HIN.out];rfl)
     refine ⟨rfl,by rw [hF2];rfl,((HI5.out.keep hwc).keep hb6).turned.mono (fun i h=>.inl h),fun h=>?_⟩
     rw [hF2] at h;cases h
    ·have HIN:=Hd hin
     have e0:=ext_cell c5
     have e3:=ext_cell i3'
     have e5:=ext_cell i5'
     have e6:=ext_cell i6'
     have hlook:=set_look Tryz.underlying9 Tryz.underlying103 names_zero HI5.out.hc x.name hns _ hin
     go_upto_region 10 with fail
     clear hin i3' i5' i6' c5
     (refine wp_region_calm_tail 9 (by kernel_rfl) (by kernel_rfl) ?_; simp only [List.take_succ_cons, List.take_zero, List.drop_succ_cons, List.drop_zero]; (repeat (go_big_quiet_step (fail))); refine wpQuiet_nil ?_; intro wc hwc)
     clear e0 e3 e5 e6 hlook
     go_wp2_with fail
     refine (need_ok x.line x.col 6 _).mono ?_
     rintro e w6 ⟨rfl,hb6⟩
     have hQ:Hid (codeF chans arrays main sites code=firstF (fun d x=>instrF chans arrays main (labelsOf d) (sitesOf sites d) x) (code.take (k+1)) (code.drop (k+1))):=by
      exact firstF_ok hq.out HX.out (by rw [HF5.out,HKF.out,HIN.out];rfl)
     have HJ:=Hd (((HI5.out.keep hwc).keep hb6).next HX.out (by have:=h6;simp at this ⊢;omega) (by have:=h6;simp at this ⊢;omega))
     go_wp2_with fail
     go_roundw
     case rel=>exact ⟨k+1,by omega,by go_num,HJ.out,hQ⟩
     case measure=>simp [intOf];omega
   ·have HK5:=Hd (HI5.out.kept)
    have c5:W5.cell? ⟨cb,6,none⟩=some (.map (some ba)):=HI5.out.turned.cell (row_of HCK.out 6 (.map (some ba)) rfl) (fun e=>map_ne_cells HST.out.2.2 HCK.out e.symm)
    have HKF:=Hd (restF_arr chans arrays (labelsOf (code.take k)) (sitesOf sites (code.take k)) x h5 h6 (.inl h2))
    cases hin:inL x.name arrays
    ·have HIN:=Hd hin
     have e0:=ext_cell c5
     have e3:=ext_cell i3'
     have e5:=ext_cell i5'
     have e6:=ext_cell i6'
     have hlook:=set_look Tryz.underlying9 Tryz.underlying103 names_zero HI5.out.ha x.name hns _ hin
     go_upto_region 13 with fail
     clear hin i3' i5' i6' c5
     (refine wp_region_calm_tail 9 (by kernel_rfl) (by kernel_rfl) ?_; simp only [List.take_succ_cons, List.take_zero, List.drop_succ_cons, List.drop_zero]; (repeat (go_big_quiet_step (fail))); refine wpQuiet_nil ?_; intro wc hwc)
     clear e0 e3 e5 e6 hlook
     go_wp2_with fail
     refine (need_bad x.line x.col 6 _).mono ?_
     rintro e w6 ⟨rfl,hb6⟩
     have hF2:instrsF chans arrays main sites code line col=some ⟨x.line,x.col,6⟩:=by rw [hF.out];exact firstF_fault hq.out HX.out (by rw [HF5.out,HKF.out,HIN.out];rfl)
     refine ⟨rfl,by rw [hF2];rfl,((HI5.out.keep hwc).keep hb6).turned.mono (fun i h=>.inl h),fun h=>?_⟩
     rw [hF2] at h;cases h
    ·have HIN:=Hd hin
     have e0:=ext_cell c5
     have e3:=ext_cell i3'
     have e5:=ext_cell i5'
     have e6:=ext_cell i6'
     have hlook:=set_look Tryz.underlying9 Tryz.underlying103 names_zero HI5.out.ha x.name hns _ hin
     go_upto_region 13 with fail
     clear hin i3' i5' i6' c5
     (refine wp_region_calm_tail 9 (by kernel_rfl) (by kernel_rfl) ?_; simp only [List.take_succ_cons, List.take_zero, List.drop_succ_cons, List.drop_zero]; (repeat (go_big_quiet_step (fail))); refine wpQuiet_nil ?_; intro wc hwc)
     clear e0 e3 e5 e6 hlook
     go_wp2_with fail
     refine (need_ok x.line x.col 6 _).mono ?_
     rintro e w6 ⟨rfl,hb6⟩
     have hQ:Hid (codeF chans arrays main sites code=firstF (fun d x=>instrF chans arrays main (labelsOf d) (sitesOf sites d) x) (code.take (k+1)) (code.drop (k+1))):=by
      exact firstF_ok hq.out HX.out (by rw [HF5.out,HKF.out,HIN.out];rfl)
     have HJ:=Hd (((HI5.out.keep hwc).keep hb6).next HX.out (by have:=h2;simp at this ⊢;omega) (by have:=h2;simp at this ⊢;omega))
     go_wp2_with fail
     go_roundw
     case rel=>exact ⟨k+1,by omega,by go_num,HJ.out,hQ⟩
     case measure=>simp [intOf];omega
   ·have HK5:=Hd (HI5.out.kept)
    have c5:W5.cell? ⟨cb,6,none⟩=some (.map (some ba)):=HI5.out.turned.cell (row_of HCK.out 6 (.map (some ba)) rfl) (fun e=>map_ne_cells HST.out.2.2 HCK.out e.symm)
    have HKF:=Hd (restF_arr chans arrays (labelsOf (code.take k)) (sitesOf sites (code.take k)) x h5 h6 (.inr h3))
    cases hin:inL x.name arrays
    ·have HIN:=Hd hin
     have e0:=ext_cell c5
     have e3:=ext_cell i3'
     have e5:=ext_cell i5'
     have e6:=ext_cell i6'
     have hlook:=set_look Tryz.underlying9 Tryz.underlying103 names_zero HI5.out.ha x.name hns _ hin
     go_upto_region 13 with fail
     clear hin i3' i5' i6' c5
     (refine wp_region_calm_tail 9 (by kernel_rfl) (by kernel_rfl) ?_; simp only [List.take_succ_cons, List.take_zero, List.drop_succ_cons, List.drop_zero]; (repeat (go_big_quiet_step (fail))); refine wpQuiet_nil ?_; intro wc hwc)
     clear e0 e3 e5 e6 hlook
     go_wp2_with fail
     refine (need_bad x.line x.col 6 _).mono ?_
     rintro e w6 ⟨rfl,hb6⟩
     have hF2:instrsF chans arrays main sites code line col=some ⟨x.line,x.col,6⟩:=by rw [hF.out];exact firstF_fault hq.out HX.out (by rw [HF5.out,HKF.out,HIN.out];rfl)
     refine ⟨rfl,by rw [hF2];rfl,((HI5.out.keep hwc).keep hb6).turned.mono (fun i h=>.inl h),fun h=>?_⟩
     rw [hF2] at h;cases h
    ·have HIN:=Hd hin
     have e0:=ext_cell c5
     have e3:=ext_cell i3'
     have e5:=ext_cell i5'
     have e6:=ext_cell i6'
     have hlook:=set_look Tryz.underlying9 Tryz.underlying103 names_zero HI5.out.ha x.name hns _ hin
     go_upto_region 13 with fail
     clear hin i3' i5' i6' c5
     (refine wp_region_calm_tail 9 (by kernel_rfl) (by kernel_rfl) ?_; simp only [List.take_succ_cons, List.take_zero, List.drop_succ_cons, List.drop_zero]; (repeat (go_big_quiet_step (fail))); refine wpQuiet_nil ?_; intro wc hwc)
     clear e0 e3 e5 e6 hlook
     go_wp2_with fail
     refine (need_ok x.line x.col 6 _).mono ?_
     rintro e w6 ⟨rfl,hb6⟩
     have hQ:Hid (codeF chans arrays main sites code=firstF (fun d x=>instrF chans arrays main (labelsOf d) (sitesOf sites d) x) (code.take (k+1)) (code.drop (k+1))):=by
      exact firstF_ok hq.out HX.out (by rw [HF5.out,HKF.out,HIN.out];rfl)
     have HJ:=Hd (((HI5.out.keep hwc).keep hb6).next HX.out (by have:=h3;simp at this ⊢;omega) (by have:=h3;simp at this ⊢;omega))
     go_wp2_with fail
     go_roundw
     case rel=>exact ⟨k+1,by omega,by go_num,HJ.out,hQ⟩
     case measure=>simp [intOf];omega
   ·have HKF:=Hd (restF_lab chans arrays (labelsOf (code.take k)) (sitesOf sites (code.take k)) x h10)
    cases hin:inL x.name (labelsOf (code.take k))
    ·have HIN:=Hd hin
     clear hin
     go_wp2_with (at_lookup;refine wpList_set_lookup rfl _ _ _ rfl _ _ Tryz.underlying9 Tryz.underlying103 (names_zero _) lb (labelsOf (code.take k)) rfl x.name rfl hns HI5.out.hl ?_;rw [HIN.out])
     refine (need_ok x.line x.col 8 _).mono ?_
     rintro e w6 ⟨rfl,hb6⟩
     have j3:=cell_keep hb6 i3'
     have HI6:=Hd (HI5.out.keep hb6)
     clear hb6
     go_wp2_with (at_mapUpdate;refine wpList_set_store rfl _ _ _ _ rfl _ _ Tryz.underlying9 Tryz.underlying103 lb (labelsOf (code.take k)) rfl x.name rfl rfl hns HI6.out.hl ?_;intro w7 hs7 hg7 hz7)
     have hQ:Hid (codeF chans arrays main sites code=firstF (fun d x=>instrF chans arrays main (labelsOf d) (sitesOf sites d) x) (code.take (k+1)) (code.drop (k+1))):=by
      exact firstF_ok hq.out HX.out (by rw [HF5.out,HKF.out,HIN.out];rfl)
     have HJ:=Hd (HI6.out.label HX.out h10 HIN.out (by omega) hlbne.out.1 hlbne.out.2.1 hlbne.out.2.2.1 hs7 hg7)
     go_roundw
     case rel=>exact ⟨k+1,by omega,by go_num,HJ.out,hQ⟩
     case measure=>simp [intOf];omega
    ·have HIN:=Hd hin
     clear hin
     go_wp2_with (at_lookup;refine wpList_set_lookup rfl _ _ _ rfl _ _ Tryz.underlying9 Tryz.underlying103 (names_zero _) lb (labelsOf (code.take k)) rfl x.name rfl hns HI5.out.hl ?_;rw [HIN.out])
     refine (need_bad x.line x.col 8 _).mono ?_
     rintro e w6 ⟨rfl,hb6⟩
     have hF2:instrsF chans arrays main sites code line col=some ⟨x.line,x.col,8⟩:=by rw [hF.out];exact firstF_fault hq.out HX.out (by rw [HF5.out,HKF.out,HIN.out];rfl)
     refine ⟨rfl,by rw [hF2];rfl,(HI5.out.keep hb6).turned.mono (fun i h=>.inl h),fun h=>?_⟩
     rw [hF2] at h;cases h
   ·have c5:W5.cell? ⟨cb,7,none⟩=some (.map (some bs)):=HI5.out.turned.cell (row_of HCK.out 7 (.map (some bs)) rfl) (fun e=>map_ne_cells HST.out.2.2 HCK.out e.symm)
    have I3:=Hd i3'
    have HKF:=Hd (restF_rel chans arrays (labelsOf (code.take k)) (sitesOf sites (code.take k)) x h7)
    cases hin:inL x.name (sitesOf sites (code.take k))
    rotate_left
    ·have HIN:=Hd hin
     have e0:=ext_cell c5
     have e3:=ext_cell i3'
     have e5:=ext_cell i5'
     have e6:=ext_cell i6'
     have hlook:=set_look Tryz.underlying9 Tryz.underlying103 names_zero HI5.out.hs x.name hns _ hin
     go_upto_region 18 with fail
     clear hin i3' i5' i6'
     (refine wp_region_calm_tail 17 (by kernel_rfl) (by kernel_rfl) ?_; simp only [List.take_succ_cons, List.take_zero, List.drop_succ_cons, List.drop_zero]; (repeat (go_big_quiet_step (fail))); refine wpQuiet_nil ?_; intro wc hwc)
     clear e0 e3 e5 e6 hlook
     go_wp2_with fail
     refine (need_ok x.line x.col 5 _).mono ?_
     rintro e w6 ⟨rfl,hb6⟩
     have HI6:=Hd ((HI5.out.keep hwc).keep hb6)
     have f5:=ext_cell (cell_keep (bcomp hwc hb6) c5)
     have f3:=ext_cell (cell_keep (bcomp hwc hb6) I3.out)
     clear c5
     go_upto_region 19 with fail
     (refine wp_region_calm_tail 6 (by kernel_rfl) (by kernel_rfl) ?_; simp only [List.take_succ_cons, List.take_zero, List.drop_succ_cons, List.drop_zero]; (repeat (go_big_quiet_step (fail))); refine wpQuiet_nil ?_; intro wc hwc)
     have HI7:=Hd (HI6.out.keep hwc)
     clear f5 f3
     go_wp2_with (at_mapUpdate;refine wpList_set_store rfl _ _ _ _ rfl _ _ Tryz.underlying9 Tryz.underlying103 bs (sitesOf sites (code.take k)) rfl x.name rfl rfl hns HI7.out.hs ?_;intro w7 hs7 hg7 hz7)
     have hQ:Hid (codeF chans arrays main sites code=firstF (fun d x=>instrF chans arrays main (labelsOf d) (sitesOf sites d) x) (code.take (k+1)) (code.drop (k+1))):=by
      exact firstF_ok hq.out HX.out (by rw [HF5.out,HKF.out,HIN.out];rfl)
     have HJ:=Hd (HI7.out.site HX.out h7 hd1 hd2 hlbne.out.2.2.1 hs7 hg7)
     go_roundw
     case rel=>exact ⟨k+1,by omega,by go_num,HJ.out,hQ⟩
     case measure=>simp [intOf];omega
    by_cases h32:(sitesOf sites (code.take k)).length<32
    ·have HIN:=Hd hin
     have e0:=ext_cell c5
     have e3:=ext_cell i3'
     have e5:=ext_cell i5'
     have e6:=ext_cell i6'
     have hlook:=set_look Tryz.underlying9 Tryz.underlying103 names_zero HI5.out.hs x.name hns _ hin
     have h33:((sitesOf sites (code.take k)).length:Int)<32:=by omega
     have hlen2:=set_len (P:=Tryz.prog) Tryz.underlying103 HI5.out.hs 3
     have HW:=Hd h32
     clear h32
     go_upto_region 18 with fail
     clear hin i3' i5' i6'
     (refine wp_region_calm_tail 17 (by kernel_rfl) (by kernel_rfl) ?_; simp only [List.take_succ_cons, List.take_zero, List.drop_succ_cons, List.drop_zero]; (repeat (go_big_quiet_step (fail))); refine wpQuiet_nil ?_; intro wc hwc)
     clear e0 e3 e5 e6 hlook
     go_wp2_with fail
     refine (need_ok x.line x.col 5 _).mono ?_
     rintro e w6 ⟨rfl,hb6⟩
     clear hlen2 h33
     have HI6:=Hd ((HI5.out.keep hwc).keep hb6)
     have f5:=ext_cell (cell_keep (bcomp hwc hb6) c5)
     have f3:=ext_cell (cell_keep (bcomp hwc hb6) I3.out)
     clear c5
     go_upto_region 19 with fail
     (refine wp_region_calm_tail 6 (by kernel_rfl) (by kernel_rfl) ?_; simp only [List.take_succ_cons, List.take_zero, List.drop_succ_cons, List.drop_zero]; (repeat (go_big_quiet_step (fail))); refine wpQuiet_nil ?_; intro wc hwc)
     have HI7:=Hd (HI6.out.keep hwc)
     clear f5 f3
     go_wp2_with (at_mapUpdate;refine wpList_set_store rfl _ _ _ _ rfl _ _ Tryz.underlying9 Tryz.underlying103 bs (sitesOf sites (code.take k)) rfl x.name rfl rfl hns HI7.out.hs ?_;intro w7 hs7 hg7 hz7)
     have hQ:Hid (codeF chans arrays main sites code=firstF (fun d x=>instrF chans arrays main (labelsOf d) (sitesOf sites d) x) (code.take (k+1)) (code.drop (k+1))):=by
      exact firstF_ok hq.out HX.out (by rw [HF5.out,HKF.out,HIN.out,decide_eq_true HW.out];rfl)
     have HJ:=Hd (HI7.out.site HX.out h7 hd1 hd2 hlbne.out.2.2.1 hs7 hg7)
     go_roundw
     case rel=>exact ⟨k+1,by omega,by go_num,HJ.out,hQ⟩
     case measure=>simp [intOf];omega
    ·have HIN:=Hd hin
     have e0:=ext_cell c5
     have e3:=ext_cell i3'
     have e5:=ext_cell i5'
     have e6:=ext_cell i6'
     have hlook:=set_look Tryz.underlying9 Tryz.underlying103 names_zero HI5.out.hs x.name hns _ hin
     have h33:decide (((sitesOf sites (code.take k)).length:Int)<32)=false:=decide_eq_false (by omega)
     have hlen2:=set_len (P:=Tryz.prog) Tryz.underlying103 HI5.out.hs 3
     have HW:=Hd h32
     clear h32
     go_upto_region 18 with fail
     clear hin i3' i5' i6'
     (refine wp_region_calm_tail 17 (by kernel_rfl) (by kernel_rfl) ?_; simp only [List.take_succ_cons, List.take_zero, List.drop_succ_cons, List.drop_zero]; (repeat (go_big_quiet_step (fail))); refine wpQuiet_nil ?_; intro wc hwc)
     clear e0 e3 e5 e6 hlook
     go_wp2_with fail
     refine (need_bad x.line x.col 5 _).mono ?_
     rintro e w6 ⟨rfl,hb6⟩
     have hF2:instrsF chans arrays main sites code line col=some ⟨x.line,x.col,5⟩:=by rw [hF.out];exact firstF_fault hq.out HX.out (by rw [HF5.out,HKF.out,HIN.out,decide_eq_false HW.out];rfl)
     refine ⟨rfl,by rw [hF2];rfl,((HI5.out.keep hwc).keep hb6).turned.mono (fun i h=>.inl h),fun h=>?_⟩
     rw [hF2] at h;cases h
   ·have HKF:=Hd (restF_no chans arrays (labelsOf (code.take k)) (sitesOf sites (code.take k)) x h5 h6 h2 h3 h10 h7)
    have hQ:Hid (codeF chans arrays main sites code=firstF (fun d x=>instrF chans arrays main (labelsOf d) (sitesOf sites d) x) (code.take (k+1)) (code.drop (k+1))):=by
     exact firstF_ok hq.out HX.out (by rw [HF5.out,HKF.out])
    have HJ:=Hd (HI5.out.next HX.out h10 h7)
    go_wp2_with fail
    go_roundw
    case rel=>exact ⟨k+1,by omega,by go_num,HJ.out,hQ⟩
    case measure=>simp [intOf];omega
open Go.ChangeShapes Go.WideShapes Go.ChangeAt Go.RowKit
section
variable (p:ProgD)
noncomputable def r10:Option FaultD:=loopsF p.funcs
noncomputable def r9:Option FaultD:=(targetsF (paramsOf p.funcs) (labelsOf p.main) p.main).or (r10 p)
noncomputable def r8:Option FaultD:=(targsF p.funcs).or (r9 p)
noncomputable def r7:Option FaultD:=(instrsF p.chans (aNames p.arrays) true (sitesOf [] (codesOf p.funcs)) p.main 0 0).or (r8 p)
noncomputable def r6:Option FaultD:=(funcsF p.chans (aNames p.arrays) p.funcs).or (r7 p)
noncomputable def r5:Option FaultD:=(needF (decide (p.funcs.length<=32)) 0 0 5).or (r6 p)
noncomputable def r4:Option FaultD:=(arrsF p.arrays).or (r5 p)
noncomputable def r3:Option FaultD:=(needF (decide (p.arrays.length<=32)) 0 0 5).or (r4 p)
noncomputable def r2:Option FaultD:=(declsF p.chans 0 0).or (r3 p)
noncomputable def r1:Option FaultD:=(needF (decide (p.chans.length<=32)) 0 0 5).or (r2 p)
theorem check_r:checkF p=(needF (decide (1<=p.width) && decide (p.width<=64)) 0 0 3).or (r1 p):=rfl
end
theorem or_some {a b c:Option FaultD} {F:FaultD} (h:a=b.or c) (hb:b=some F):a=some F:=by rw [h,hb];rfl
theorem or_none {a b c:Option FaultD} (h:a=b.or c) (hb:b=none):a=c:=by rw [h,hb];rfl
structure RunAt (w0:World) (p:ProgD) (cv av fv mv:Value) (cb bc ba bs bp q:Nat) (ch ar si:List ByteArray) (pa:List (ByteArray × Int)) (lv:Value) (labs:List (Nat × List ByteArray)) (w:World):Prop where
 below:Below w0.heap.size w0 w
 rd0:RdProg none w0 p cv av fv mv
 laid0:Laid w0
 ck:w.heap[cb]?=some (.cells #[.int .i64 p.width,cv,av,fv,mv,.map (some bc),.map (some ba),.map (some bs),.map (some bp),lv] 107 (0,0))
 hc:SetIs w bc ch
 ha:SetIs w ba ar
 hs:SetIs w bs si
 hp:IntsIs w bp pa
 own:w.ownsRow w0.heap.size 103 1 lv labs.length (labs.map fun x=>.map (some x.1))
 hl:∀ x ∈ labs,SetIs w x.1 x.2/\x.1 ≠ bs/\x.1 ≠ bp
 b2:w.heap[q]?=some (.cells #[.int .i64 0,.int .i64 0] 35 (0,0))
 b3:w.heap[q+1]?=some (.cells #[.int .i64 p.width,cv,av,fv,mv] 27 (0,0))
structure RunB (w0:World) (cb bc ba bs bp q:Nat):Prop where
 gcb:w0.heap.size<=cb
 gbc:w0.heap.size<=bc
 gba:w0.heap.size<=ba
 gbs:w0.heap.size<=bs
 gbp:w0.heap.size<=bp
 nca:bc ≠ ba
 ncs:bc ≠ bs
 ncp:bc ≠ bp
 nas:ba ≠ bs
 nap:ba ≠ bp
 nsp:bs ≠ bp
theorem inL_false_paramsOf {l:List FuncD} {s:ByteArray} (h:inL s (fNames l)=false):∀ x ∈ paramsOf l,x.1 ≠ s:=by
 intro x hx e
 obtain ⟨f,hf,rfl⟩:=List.mem_map.1 hx
 exact inL_not.1 h (List.mem_map.2 ⟨f,hf,e⟩)
theorem declF_none {acc:List ByteArray} {s:ByteArray} {l c:Int} (h:declF acc s l c=none):named s=true/\inL s acc=false:=by
 unfold declF at h
 rw [Option.or_eq_none_iff] at h
 obtain ⟨h1,h2⟩:=h
 unfold needF at h1 h2
 constructor
 ·cases hn:named s
  ·rw [hn] at h1;cases h1
  ·rfl
 ·cases hn:inL s acc
  ·rfl
  ·rw [hn] at h2;cases h2
theorem apart_of_prefix:∀ (l:List FuncD),(∀ (p:List FuncD) x r,l=p ++ x :: r->x.name ∉ fNames p)->(paramsOf l).Pairwise (fun a b=>a.1 ≠ b.1)
 | [],_=>List.Pairwise.nil
 | a :: t,h=>by
  refine List.pairwise_cons.2 ⟨fun b hb e=>?_,apart_of_prefix t (fun p x r e hm=>?_)⟩
  ·obtain ⟨f,hf,rfl⟩:=List.mem_map.1 hb
   obtain ⟨p,r,rfl⟩:=List.append_of_mem hf
   exact h (a :: p) f r rfl (by simp only [fNames,List.map_cons,List.mem_cons];left;exact e.symm)
  ·exact h (a :: p) x r (by rw [e];rfl) (by simp only [fNames,List.map_cons,List.mem_cons];right;exact hm)
theorem funcs_apart {chans arrays:List ByteArray} {l:List FuncD} (h:funcsF chans arrays l=none):(paramsOf l).Pairwise (fun a b=>a.1 ≠ b.1):=by
 refine apart_of_prefix l (fun p x r e hm=>?_)
 have:=(firstF_none _ l []).1 h p x r e
 unfold funcF at this
 rw [Option.or_eq_none_iff] at this
 exact inL_not.1 (declF_none this.1).2 hm
theorem targs_there {fs:List FuncD} (h:targsF fs=none):∀ f ∈ fs,∀ g ∈ callsOf f.code,g ∈ fNames fs:=by
 intro f hf g hg
 obtain ⟨p,r,e⟩:=List.append_of_mem hf
 have h1:=(firstF_none _ fs []).1 h p f r e
 obtain ⟨x,hx,rfl⟩:=List.mem_map.1 hg
 obtain ⟨hx1,hx2⟩:=List.mem_filter.1 hx
 obtain ⟨p',r',e'⟩:=List.append_of_mem hx1
 have h2:=(firstF_none _ f.code []).1 h1 p' x r' e'
 rw [targetF_call _ _ x hx2,Option.or_eq_none_iff] at h2
 have h3:=h2.1
 cases ha:atL x.name (paramsOf fs) with
 | none=>rw [ha] at h3;cases h3
 | some n=>
  unfold atL at ha
  rw [Option.map_eq_some_iff] at ha
  obtain ⟨y,hy,_⟩:=ha
  have hm:=List.mem_of_find?_eq_some hy
  have he:=List.find?_some hy
  obtain ⟨f',hf',rfl⟩:=List.mem_map.1 hm
  exact List.mem_map.2 ⟨f',hf',by simpa using he⟩
section
variable {w0:World} {p:ProgD} {cv av fv mv:Value} {cb bc ba bs bp q:Nat} {ch ar si:List ByteArray} {pa:List (ByteArray × Int)} {lv:Value} {labs:List (Nat × List ByteArray)} {w w':World}
theorem RunAt.rd (h:RunAt w0 p cv av fv mv cb bc ba bs bp q ch ar si pa lv labs w):RdProg none w p cv av fv mv:=h.rd0.keep h.below
theorem RunAt.laid (h:RunAt w0 p cv av fv mv cb bc ba bs bp q ch ar si pa lv labs w):Laid w:=h.laid0.keep h.below
theorem RunAt.keep (h:RunAt w0 p cv av fv mv cb bc ba bs bp q ch ar si pa lv labs w) (b:Below w.heap.size w w'):RunAt w0 p cv av fv mv cb bc ba bs bp q ch ar si pa lv labs w':=
 ⟨h.below.trans (b.mono h.below.size),h.rd0,h.laid0,(b.block _ (aE h.ck).1).trans h.ck,h.hc.keep b,h.ha.keep b,h.hs.keep b,h.hp.keep b,own_below h.own b,fun x hx=>⟨(h.hl x hx).1.keep b,(h.hl x hx).2⟩,(b.block _ (aE h.b2).1).trans h.b2,(b.block _ (aE h.b3).1).trans h.b3⟩
theorem RunAt.turn (h:RunAt w0 p cv av fv mv cb bc ba bs bp q ch ar si pa lv labs w) {b:Nat} {L:List (ByteArray × Value)} (hm:MapIs w b L) (hg:w.grownBy w' (some b)) (hb:w0.heap.size<=b) :
  Below w0.heap.size w0 w'/\w'.heap[cb]?=some (.cells #[.int .i64 p.width,cv,av,fv,mv,.map (some bc),.map (some ba),.map (some bs),.map (some bp),lv] 107 (0,0)) /\
   w'.ownsRow w0.heap.size 103 1 lv labs.length (labs.map fun x=>.map (some x.1))/\w'.heap[q]?=some (.cells #[.int .i64 0,.int .i64 0] 35 (0,0))/\w'.heap[q+1]?=some (.cells #[.int .i64 p.width,cv,av,fv,mv] 27 (0,0)) /\
   Turned (fun k=>k=b) w w':=by
 have ht:Turned (fun k=>k=b) w w':=Turned.of_grown hg (fun b e=>by cases e;rfl)
 have hbl:∀ {g:Nat} {cs:Array Value} {T:TypeId},w.heap[g]?=some (.cells cs T (0,0))->w'.heap[g]?=some (.cells cs T (0,0)):=fun hc=>(ht.block _ (aE hc).1 (fun e=>map_ne_cells hm hc e.symm)).trans hc
 exact ⟨below_then h.below ht h.below.size (fun i e=>by omega),hbl h.ck,own_turn h.own ht (fun k hk' e=>own_ne_map h.own hm (by rw [hk',e])),hbl h.b2,hbl h.b3,ht⟩
theorem RunAt.setC (h:RunAt w0 p cv av fv mv cb bc ba bs bp q ch ar si pa lv [] w) (B:RunB w0 cb bc ba bs bp q) {ch':List ByteArray} (hg:w.grownBy w' (some bc)) (hs:SetIs w' bc ch'):RunAt w0 p cv av fv mv cb bc ba bs bp q ch' ar si pa lv [] w':=by
 obtain ⟨h1,h4,h5,h6,h7,ht⟩:=h.turn h.hc hg B.gbc
 exact ⟨h1,h.rd0,h.laid0,h4,hs,h.ha.turn ht (fun e=>B.nca e.symm),h.hs.turn ht (fun e=>B.ncs e.symm),h.hp.turn ht (fun e=>B.ncp e.symm),h5,(fun x hx=>nomatch hx),h6,h7⟩
theorem RunAt.setA (h:RunAt w0 p cv av fv mv cb bc ba bs bp q ch ar si pa lv [] w) (B:RunB w0 cb bc ba bs bp q) {ar':List ByteArray} (hg:w.grownBy w' (some ba)) (hs:SetIs w' ba ar'):RunAt w0 p cv av fv mv cb bc ba bs bp q ch ar' si pa lv [] w':=by
 obtain ⟨h1,h4,h5,h6,h7,ht⟩:=h.turn h.ha hg B.gba
 exact ⟨h1,h.rd0,h.laid0,h4,h.hc.turn ht B.nca,hs,h.hs.turn ht (fun e=>B.nas e.symm),h.hp.turn ht (fun e=>B.nap e.symm),h5,(fun x hx=>nomatch hx),h6,h7⟩
theorem RunAt.setP (h:RunAt w0 p cv av fv mv cb bc ba bs bp q ch ar si pa lv labs w) (B:RunB w0 cb bc ba bs bp q) {pa':List (ByteArray × Int)} (hg:w.grownBy w' (some bp)) (hs:IntsIs w' bp pa'):RunAt w0 p cv av fv mv cb bc ba bs bp q ch ar si pa' lv labs w':=by
 obtain ⟨h1,h4,h5,h6,h7,ht⟩:=h.turn h.hp hg B.gbp
 exact ⟨h1,h.rd0,h.laid0,h4,h.hc.turn ht B.ncp,h.ha.turn ht B.nap,h.hs.turn ht B.nsp,hs,h5,fun x hx=>⟨(h.hl x hx).1.turn ht (h.hl x hx).2.2,(h.hl x hx).2⟩,h6,h7⟩
theorem RunAt.setF (h:RunAt w0 p cv av fv mv cb bc ba bs bp q ch ar si pa lv labs w) {b:Nat} {L:List (ByteArray × Value)} (hm:MapIs w b L) (hb:w0.heap.size<=b) (h1:b ≠ bc) (h2:b ≠ ba) (h3:b ≠ bs) (h4:b ≠ bp) (h5:∀ x ∈ labs,x.1 ≠ b) (hg:w.grownBy w' (some b)):RunAt w0 p cv av fv mv cb bc ba bs bp q ch ar si pa lv labs w':=by
 obtain ⟨k1,k4,k5,k6,k7,ht⟩:=h.turn hm hg hb
 exact ⟨k1,h.rd0,h.laid0,k4,h.hc.turn ht (fun e=>h1 e.symm),h.ha.turn ht (fun e=>h2 e.symm),h.hs.turn ht (fun e=>h3 e.symm),h.hp.turn ht (fun e=>h4 e.symm),k5,fun x hx=>⟨(h.hl x hx).1.turn ht (h5 x hx),(h.hl x hx).2⟩,k6,k7⟩
theorem RunAt.ins (h:RunAt w0 p cv av fv mv cb bc ba bs bp q ch ar si pa lv labs w) (B:RunB w0 cb bc ba bs bp q) {si':List ByteArray} {lv':Value} {lb:Nat} {lab:List ByteArray}
  (ht:Turned (fun k=>k=bs \/ k=cb \/ lv.ownBlock=some k) w w') (hlb:w.heap.size<=lb) (hlab:SetIs w' lb lab) (hsi:SetIs w' bs si')
  (hck:w'.heap[cb]?=some (.cells #[.int .i64 p.width,cv,av,fv,mv,.map (some bc),.map (some ba),.map (some bs),.map (some bp),lv'] 107 (0,0))) (hown:w'.ownsRow w0.heap.size 103 1 lv' (labs.length+1) ((labs.map fun x=>.map (some x.1)) ++ [.map (some lb)])) :
  RunAt w0 p cv av fv mv cb bc ba bs bp q ch ar si' pa lv' (labs ++ [(lb,lab)]) w':=by
 have hbel:Below w0.heap.size w0 w':=below_then h.below ht h.below.size (fun i e=>by
  rcases e with e|e|e
  ·have:=B.gbs;omega
  ·have:=B.gcb;omega
  ·exact (own_is h.own e).1)
 have hmap:∀ {b:Nat} {L:List (ByteArray × Value)},MapIs w b L->b ≠ bs->¬ (b=bs \/ b=cb \/ lv.ownBlock=some b):=fun hm hne e=>by
  rcases e with e|e|e
  ·exact hne e
  ·exact map_ne_cells hm h.ck e
  ·exact own_ne_map h.own hm e
 have hbox:∀ {g:Nat} {cs:Array Value} {T:TypeId},w.heap[g]?=some (.cells cs T (0,0))->T ≠ 103->T ≠ 107->w'.heap[g]?=some (.cells cs T (0,0)):=fun {g cs T} hc h1 h2=>by
  refine (ht.block _ (aE hc).1 (fun e=>?_)).trans hc
  rcases e with e|e|e
  ·exact map_ne_cells h.hs hc e.symm
  ·rw [e,h.ck] at hc;simp at hc;exact h2 hc.2.symm
  ·exact own_ne_cells h.own hc h1 e
 refine ⟨hbel,h.rd0,h.laid0,hck,h.hc.turn ht (hmap h.hc B.ncs),h.ha.turn ht (hmap h.ha B.nas),hsi,h.hp.turn ht (hmap h.hp (fun e=>B.nsp e.symm)),?_,?_,hbox h.b2 (by decide) (by decide),hbox h.b3 (by decide) (by decide)⟩
 ·rw [List.length_append,List.map_append];exact hown
 ·intro x hx
  rcases List.mem_append.1 hx with hx|hx
  ·exact ⟨(h.hl x hx).1.turn ht (hmap (h.hl x hx).1 (h.hl x hx).2.1),(h.hl x hx).2⟩
  ·rw [List.mem_singleton] at hx;subst hx
   exact ⟨hlab,by have:=h.hs.lt;simp only;omega,by have:=h.hp.lt;simp only;omega⟩
end
open Go.ChangeShapes Go.WideShapes Go.ChangeAt Go.RowKit
theorem width_cases (z:Int):(z<1) \/ (1<=z/\64<z) \/ (1<=z/\z<=64):=by omega
theorem run_any (w0 w:World) (p:ProgD) (cv av fv mv:Value) (cb bc ba bs bp:Nat) (h0:RdProg none w0 p cv av fv mv) (hL:Laid w0) (hb:Below w0.heap.size w0 w)
  (hck:w.heap[cb]?=some (.cells #[.int .i64 p.width,cv,av,fv,mv,.map (some bc),.map (some ba),.map (some bs),.map (some bp),.slice none 0 0] 107 (0,0)))
  (hc:SetIs w bc []) (ha:SetIs w ba []) (hs:SetIs w bs []) (hp:IntsIs w bp []) (B:RunB w0 cb bc ba bs bp w.heap.size) :
  Calls Tryz.prog 51 #[.pointer (some ⟨cb,0,none⟩)] w fun e w'=>e=endF (checkF p)/\Below w0.heap.size w0 w':=by
 obtain ⟨hrc,hra,hrf,hrm,hrw⟩:=id h0
 obtain ⟨ac,kc,rfl,hcl,-⟩:=id hrc
 obtain ⟨aa,ka,rfl,hal,-⟩:=id hra
 obtain ⟨af,kf,rfl,hfl,-⟩:=id hrf
 obtain ⟨am,km,rfl,hml,-⟩:=id hrm
 obtain ⟨hw1,hw2⟩:=hrw
 have h2:Hid (RunAt w0 p (.slice ac p.chans.length kc) (.slice aa p.arrays.length ka) (.slice af p.funcs.length kf) (.slice am p.main.length km) cb bc ba bs bp w.heap.size [] [] [] [] (.slice none 0 0) [] ((w.alloc (.cells #[.int .i64 0,.int .i64 0] 35)).alloc (.cells #[.int .i64 p.width,.slice ac p.chans.length kc,.slice aa p.arrays.length ka,.slice af p.funcs.length kf,.slice am p.main.length km] 27))):=by
  have hb1:Below w.heap.size w (w.alloc (.cells #[.int .i64 0,.int .i64 0] 35)):=(bR _ _).alloc (nR _) _
  have hb2:Below (w.alloc (.cells #[.int .i64 0,.int .i64 0] 35)).heap.size (w.alloc (.cells #[.int .i64 0,.int .i64 0] 35)) ((w.alloc (.cells #[.int .i64 0,.int .i64 0] 35)).alloc (.cells #[.int .i64 p.width,.slice ac p.chans.length kc,.slice aa p.arrays.length ka,.slice af p.funcs.length kf,.slice am p.main.length km] 27)):=(bR _ _).alloc (nR _) _
  have hbb:=bcomp hb1 hb2
  exact ⟨hb.trans (hbb.mono hb.size),h0,hL,(hbb.block _ (aE hck).1).trans hck,hc.keep hbb,ha.keep hbb,hs.keep hbb,hp.keep hbb,World.ownsRow_nil _ _ _ _,(fun x hx=>nomatch hx),heap_alloc2_old _ _ _,heap_alloc2_new _ _ _⟩
 have k0:=row_of hck 0 (.int .i64 p.width) rfl
 have k1:=row_of hck 1 (.slice ac p.chans.length kc) rfl
 have k2:=row_of hck 2 (.slice aa p.arrays.length ka) rfl
 have k3:=row_of hck 3 (.slice af p.funcs.length kf) rfl
 have k4:=row_of hck 4 (.slice am p.main.length km) rfl
 have HC0:=Hd (check_r p)
 have hmm:=@run_makeMap Tryz.prog
 have HBB:=Hd B
 have hltc:cb<w.heap.size:=(aE hck).1
 clear h0 hL hb hc ha hs hp B hrc hra hrf hrm hck
 go_enter Tryz.func51,Tryz.ntmps51
 go_upto_region 2 with fail
 generalize hW:((w.alloc (.cells #[.int .i64 0,.int .i64 0] 35)).alloc (.cells #[.int .i64 p.width,.slice ac p.chans.length kc,.slice aa p.arrays.length ka,.slice af p.funcs.length kf,.slice am p.main.length km] 27))=W1 at *
 clear hW k0 k1 k2 k3 k4
 generalize w.heap.size=q at *
 have b0:=row_of h2.out.b3 0 (.int .i64 p.width) rfl
 have b1:=row_of h2.out.b3 1 (.slice ac p.chans.length kc) rfl
 have b2:=row_of h2.out.b3 2 (.slice aa p.arrays.length ka) rfl
 have b3:=row_of h2.out.b3 3 (.slice af p.funcs.length kf) rfl
 have b4:=row_of h2.out.b3 4 (.slice am p.main.length km) rfl
 have z0:=row_of h2.out.b2 0 (.int .i64 0) rfl
 have z1:=row_of h2.out.b2 1 (.int .i64 0) rfl
 rcases width_cases p.width with hw|⟨hw,hw'⟩|⟨hw,hw'⟩
 ·have hA:Hid (checkF p=some ⟨0,0,3⟩):=or_some HC0.out (by rw [decide_eq_false (by omega)];rfl)
  go_wp2_with fail
  refine (need_bad 0 0 3 _).mono ?_
  rintro e w3 ⟨rfl,hb3⟩
  exact ⟨rfl,by rw [hA.out];rfl,(h2.out.keep hb3).below⟩
 ·have hA:Hid (checkF p=some ⟨0,0,3⟩):=or_some HC0.out (by rw [decide_eq_false (p:=p.width<=64) (by omega),Bool.and_false];rfl)
  have hw2':decide (p.width<=64)=false:=decide_eq_false (by omega)
  go_wp2_with fail
  refine (need_bad 0 0 3 _).mono ?_
  rintro e w3 ⟨rfl,hb3⟩
  exact ⟨rfl,by rw [hA.out];rfl,(h2.out.keep hb3).below⟩
 have HC1:Hid (checkF p=r1 p):=or_none HC0.out (by rw [decide_eq_true hw,decide_eq_true hw'];rfl)
 go_wp2_with fail
 refine (need_ok 0 0 3 _).mono ?_
 rintro e w3 ⟨rfl,hb3⟩
 have h3:=Hd (h2.out.keep hb3)
 clear b0 b1 b2 b3 b4 z0 z1 hw hw' HC0 h2 hb3
 have b1:=row_of h3.out.b3 1 (.slice ac p.chans.length kc) rfl
 have b2:=row_of h3.out.b3 2 (.slice aa p.arrays.length ka) rfl
 have b3:=row_of h3.out.b3 3 (.slice af p.funcs.length kf) rfl
 have b4:=row_of h3.out.b3 4 (.slice am p.main.length km) rfl
 have z0:=row_of h3.out.b2 0 (.int .i64 0) rfl
 have z1:=row_of h3.out.b2 1 (.int .i64 0) rfl
 by_cases hlc:p.chans.length<=32
 rotate_left
 ·have hA:Hid (checkF p=some ⟨0,0,5⟩):=or_some HC1.out (by rw [decide_eq_false hlc];rfl)
  have hlc':decide ((p.chans.length:Int)<=32)=false:=decide_eq_false (by omega)
  go_wp2_with fail
  refine (need_bad 0 0 5 _).mono ?_
  rintro e w4 ⟨rfl,hbx⟩
  exact ⟨rfl,by rw [hA.out];rfl,(h3.out.keep hbx).below⟩
 have HC2:Hid (checkF p=r2 p):=or_none HC1.out (by rw [decide_eq_true hlc];rfl)
 have hlc':(p.chans.length:Int)<=32:=by omega
 go_wp2_with fail
 refine (need_ok 0 0 5 _).mono ?_
 rintro e w4 ⟨rfl,hbx⟩
 have h4:=Hd (h3.out.keep hbx)
 clear b1 b2 b3 b4 z0 z1 hbx HC1 h3 hlc'
 have b1:=row_of h4.out.b3 1 (.slice ac p.chans.length kc) rfl
 have b2:=row_of h4.out.b3 2 (.slice aa p.arrays.length ka) rfl
 have b3:=row_of h4.out.b3 3 (.slice af p.funcs.length kf) rfl
 have b4:=row_of h4.out.b3 4 (.slice am p.main.length km) rfl
 have z0:=row_of h4.out.b2 0 (.int .i64 0) rfl
 have z1:=row_of h4.out.b2 1 (.int .i64 0) rfl
 go_wp2
 go_loopw [42] (fun i wr=>∃ k:Nat,k<=p.chans.length/\i=.int .i64 k/\Hid (RunAt w0 p (.slice ac p.chans.length kc) (.slice aa p.arrays.length ka) (.slice af p.funcs.length kf) (.slice am p.main.length km) cb bc ba bs bp q (p.chans.take k) [] [] [] (.slice none 0 0) [] wr)/\Hid (declsF p.chans 0 0=firstF (fun d s=>declF d s 0 0) (p.chans.take k) (p.chans.drop k))) (fun i _=>p.chans.length - (intOf i).toNat)
 case atStart=>exact ⟨0,Nat.zero_le _,rfl,h4,rfl⟩
 case round=>
  obtain ⟨k,hk,rfl,hR,hq⟩:=hrel
  clear b1 b2 b3 b4 z0 z1 h4
  by_cases hlt:k<p.chans.length
  ·obtain ⟨x,hx⟩:∃ x,p.chans[k]?=some x:=⟨_,lG hlt⟩
   obtain ⟨ac',kc',hce,_,hrr⟩:=hR.out.rd.1
   simp only [Value.slice.injEq] at hce
   obtain ⟨rfl,_,rfl⟩:=hce
   obtain ⟨b,o,rfl,_,c0,hxs⟩:=hrr k x hx
   have HX:=Hd hx
   have hlt2:(k:Int)<(p.chans.length:Int):=by omega
   clear hrr hx
   go_upto_region 7 with fail
   have e5:=ext_cell (row_of hR.out.ck 5 (.map (some bc)) rfl)
   have e0:=ext_cell (row_of hR.out.b2 0 (.int .i64 0) rfl)
   have e1:=ext_cell (row_of hR.out.b2 1 (.int .i64 0) rfl)
   clear c0
   (refine wp_region_calm_tail 6 (by kernel_rfl) (by kernel_rfl) ?_; simp only [List.take_succ_cons, List.take_zero, List.drop_succ_cons, List.drop_zero]; (repeat (go_big_quiet_step (fail))); refine wpQuiet_nil ?_; intro wc hwc)
   have hR2:=Hd (hR.out.keep hwc)
   clear e5 e0 e1 hR
   go_wp2_with fail
   refine (declare_any bc (p.chans.take k) x 0 0 _ hxs hR2.out.laid hR2.out.hc).mono ?_
   rintro e w5 ⟨he,hS,hg⟩
   cases hd:declF (p.chans.take k) x 0 0 with
   | some F=>
    rw [hd] at he
    subst he
    have hA:Hid (checkF p=some F):=or_some HC2.out (firstF_fault hq.out HX.out hd)
    exact ⟨rfl,by rw [hA.out];rfl,(hR2.out.turn hR2.out.hc hg HBB.out.gbc).1⟩
   | none=>
    rw [hd] at he
    subst he
    have hQ:Hid (declsF p.chans 0 0=firstF (fun d s=>declF d s 0 0) (p.chans.take (k+1)) (p.chans.drop (k+1))):=firstF_ok hq.out HX.out hd
    have hJ:Hid (RunAt w0 p (.slice (some ⟨b,o,none⟩) p.chans.length kc) (.slice aa p.arrays.length ka) (.slice af p.funcs.length kf) (.slice am p.main.length km) cb bc ba bs bp q (p.chans.take (k+1)) [] [] [] (.slice none 0 0) [] w5):=by
     have h1:=hR2.out.setC HBB.out hg (hS hd)
     rw [List.take_add_one,HX.out];exact h1
    clear hS hg hd hR2 hwc
    go_wp2_with fail
    go_roundw
    case rel=>exact ⟨k+1,by omega,by go_num,hJ,hQ⟩
    case measure=>simp [intOf];omega
  obtain rfl:k=p.chans.length:=by omega
  have HC3:Hid (checkF p=r3 p):=or_none HC2.out (firstF_end hq.out)
  have h5:Hid (RunAt w0 p (.slice ac p.chans.length kc) (.slice aa p.arrays.length ka) (.slice af p.funcs.length kf) (.slice am p.main.length km) cb bc ba bs bp q p.chans [] [] [] (.slice none 0 0) [] wr):=by have:=hR.out;rw [List.take_length] at this;exact this
  clear hR hq HC2
  have b1:=row_of h5.out.b3 1 (.slice ac p.chans.length kc) rfl
  have b2:=row_of h5.out.b3 2 (.slice aa p.arrays.length ka) rfl
  have b3:=row_of h5.out.b3 3 (.slice af p.funcs.length kf) rfl
  have b4:=row_of h5.out.b3 4 (.slice am p.main.length km) rfl
  have z0:=row_of h5.out.b2 0 (.int .i64 0) rfl
  have z1:=row_of h5.out.b2 1 (.int .i64 0) rfl
  by_cases hlc:p.arrays.length<=32
  rotate_left
  ·have hA:Hid (checkF p=some ⟨0,0,5⟩):=or_some HC3.out (by rw [decide_eq_false hlc];rfl)
   have hlc':decide ((p.arrays.length:Int)<=32)=false:=decide_eq_false (by omega)
   go_wp2_with fail
   refine (need_bad 0 0 5 _).mono ?_
   rintro e w4 ⟨rfl,hbx⟩
   exact ⟨rfl,by rw [hA.out];rfl,(h5.out.keep hbx).below⟩
  have HC4:Hid (checkF p=r4 p):=or_none HC3.out (by rw [decide_eq_true hlc];rfl)
  have hlc':(p.arrays.length:Int)<=32:=by omega
  go_wp2_with fail
  refine (need_ok 0 0 5 _).mono ?_
  rintro e w4 ⟨rfl,hbx⟩
  have h6:=Hd (h5.out.keep hbx)
  clear b1 b2 b3 b4 z0 z1 hbx HC3 h5 hlc'
  have b1:=row_of h6.out.b3 1 (.slice ac p.chans.length kc) rfl
  have b2:=row_of h6.out.b3 2 (.slice aa p.arrays.length ka) rfl
  have b3:=row_of h6.out.b3 3 (.slice af p.funcs.length kf) rfl
  have b4:=row_of h6.out.b3 4 (.slice am p.main.length km) rfl
  have z0:=row_of h6.out.b2 0 (.int .i64 0) rfl
  have z1:=row_of h6.out.b2 1 (.int .i64 0) rfl
  go_wp2
  go_loopw [63] (fun i wr=>∃ k:Nat,k<=p.arrays.length/\i=.int .i64 k/\Hid (RunAt w0 p (.slice ac p.chans.length kc) (.slice aa p.arrays.length ka) (.slice af p.funcs.length kf) (.slice am p.main.length km) cb bc ba bs bp q p.chans (aNames (p.arrays.take k)) [] [] (.slice none 0 0) [] wr)/\Hid (arrsF p.arrays=firstF arrF (p.arrays.take k) (p.arrays.drop k))) (fun i _=>p.arrays.length - (intOf i).toNat)
  case atStart=>exact ⟨0,Nat.zero_le _,rfl,h6,rfl⟩
  case round=>
   obtain ⟨k,hk,rfl,hR,hq⟩:=hrel
   clear b1 b2 b3 b4 z0 z1 h6
   by_cases hlt:k<p.arrays.length
   ·obtain ⟨x,hx⟩:∃ x,p.arrays[k]?=some x:=⟨_,lG hlt⟩
    obtain ⟨ac',kc',hce,_,hrr⟩:=hR.out.rd.2.1
    simp only [Value.slice.injEq] at hce
    obtain ⟨rfl,_,rfl⟩:=hce
    obtain ⟨b,o,rfl,_,c0,c1,hi64,hxs⟩:=hrr k x hx
    obtain ⟨hi1,hi2⟩:=hi64
    have HX:=Hd hx
    have hlt2:(k:Int)<(p.arrays.length:Int):=by omega
    clear hrr hx
    go_upto_region 13 with fail
    have hb4:Below wr.heap.size wr (wr.alloc (.cells #[.string x.name,.int .i64 x.size] 96)):=(bR _ _).alloc (nR _) _
    have G4:=heap_alloc_new wr (.cells #[.string x.name,.int .i64 x.size] 96)
    generalize wr.alloc (.cells #[.string x.name,.int .i64 x.size] 96)=W4 at *
    have hR1:=Hd (hR.out.keep hb4)
    have g0:=row_of G4 0 (.string x.name) rfl
    have g1:=row_of G4 1 (.int .i64 x.size) rfl
    have HG1:=Hd g1
    generalize wr.heap.size=wn at *
    have e6:=ext_cell (row_of hR1.out.ck 6 (.map (some ba)) rfl)
    have e0:=ext_cell (row_of hR1.out.b2 0 (.int .i64 0) rfl)
    have e1:=ext_cell (row_of hR1.out.b2 1 (.int .i64 0) rfl)
    have e2:=ext_cell g0
    clear c0 c1 hb4 G4 g0 g1 hR
    (refine wp_region_calm_tail 7 (by kernel_rfl) (by kernel_rfl) ?_; simp only [List.take_succ_cons, List.take_zero, List.drop_succ_cons, List.drop_zero]; (repeat (go_big_quiet_step (fail))); refine wpQuiet_nil ?_; intro wc hwc)
    have hR2:=Hd (hR1.out.keep hwc)
    have HG2:=Hd (cell_keep hwc HG1.out)
    clear e6 e0 e1 e2 hR1 HG1
    go_wp2_with fail
    refine (declare_any ba (aNames (p.arrays.take k)) x.name 0 0 _ hxs hR2.out.laid hR2.out.ha).mono ?_
    rintro e w5 ⟨he,hS,hg⟩
    cases hd:declF (aNames (p.arrays.take k)) x.name 0 0 with
    | some F=>
     rw [hd] at he
     subst he
     have hA:Hid (checkF p=some F):=or_some HC4.out (firstF_fault hq.out HX.out (by unfold arrF;rw [hd];rfl))
     exact ⟨rfl,by rw [hA.out];rfl,(hR2.out.turn hR2.out.ha hg HBB.out.gba).1⟩
    | none=>
     rw [hd] at he
     subst he
     have HD:=Hd hd
     have hJ:Hid (RunAt w0 p (.slice ac p.chans.length kc) (.slice (some ⟨b,o,none⟩) p.arrays.length ka) (.slice af p.funcs.length kf) (.slice am p.main.length km) cb bc ba bs bp q p.chans (aNames (p.arrays.take (k+1))) [] [] (.slice none 0 0) [] w5):=by
      have h1:=hR2.out.setA HBB.out hg (hS hd)
      rw [List.take_add_one,HX.out];unfold aNames at *;rw [List.map_append];exact h1
     have g1:=(Kept.of_map hg hR2.out.ha) _ _ _ HG2.out
     have z0:=row_of hJ.out.b2 0 (.int .i64 0) rfl
     have z1:=row_of hJ.out.b2 1 (.int .i64 0) rfl
     clear hS hg hd hR2 hwc HG2
     rcases width_cases x.size with hw|⟨hw,hw'⟩|⟨hw,hw'⟩
     ·have hA:Hid (checkF p=some ⟨0,0,3⟩):=or_some HC4.out (firstF_fault hq.out HX.out (by unfold arrF;rw [HD.out,decide_eq_false (by omega)];rfl))
      go_wp2_with fail
      refine (need_bad 0 0 3 _).mono ?_
      rintro e w6 ⟨rfl,hbx⟩
      exact ⟨rfl,by rw [hA.out];rfl,(hJ.out.keep hbx).below⟩
     ·have hA:Hid (checkF p=some ⟨0,0,3⟩):=or_some HC4.out (firstF_fault hq.out HX.out (by unfold arrF;rw [HD.out,decide_eq_false (p:=x.size<=64) (by omega),Bool.and_false];rfl))
      have hw2':decide (x.size<=64)=false:=decide_eq_false (by omega)
      go_wp2_with fail
      refine (need_bad 0 0 3 _).mono ?_
      rintro e w6 ⟨rfl,hbx⟩
      exact ⟨rfl,by rw [hA.out];rfl,(hJ.out.keep hbx).below⟩
     have hQ:Hid (arrsF p.arrays=firstF arrF (p.arrays.take (k+1)) (p.arrays.drop (k+1))):=firstF_ok hq.out HX.out (by unfold arrF;rw [HD.out,decide_eq_true hw,decide_eq_true hw'];rfl)
     go_wp2_with fail
     refine (need_ok 0 0 3 _).mono ?_
     rintro e w6 ⟨rfl,hbx⟩
     have hJ2:=Hd (hJ.out.keep hbx)
     clear hJ g1 z0 z1 hw hw' hbx
     go_wp2_with fail
     go_roundw
     case rel=>exact ⟨k+1,by omega,by go_num,hJ2,hQ⟩
     case measure=>simp [intOf];omega
   obtain rfl:k=p.arrays.length:=by omega
   have HC5:Hid (checkF p=r5 p):=or_none HC4.out (firstF_end hq.out)
   have h7:Hid (RunAt w0 p (.slice ac p.chans.length kc) (.slice aa p.arrays.length ka) (.slice af p.funcs.length kf) (.slice am p.main.length km) cb bc ba bs bp q p.chans (aNames p.arrays) [] [] (.slice none 0 0) [] wr):=by have:=hR.out;rw [List.take_length] at this;exact this
   clear hR hq HC4
   have b1:=row_of h7.out.b3 1 (.slice ac p.chans.length kc) rfl
   have b2:=row_of h7.out.b3 2 (.slice aa p.arrays.length ka) rfl
   have b3:=row_of h7.out.b3 3 (.slice af p.funcs.length kf) rfl
   have b4:=row_of h7.out.b3 4 (.slice am p.main.length km) rfl
   have z0:=row_of h7.out.b2 0 (.int .i64 0) rfl
   have z1:=row_of h7.out.b2 1 (.int .i64 0) rfl
   by_cases hlc:p.funcs.length<=32
   rotate_left
   ·have hA:Hid (checkF p=some ⟨0,0,5⟩):=or_some HC5.out (by rw [decide_eq_false hlc];rfl)
    have hlc':decide ((p.funcs.length:Int)<=32)=false:=decide_eq_false (by omega)
    go_wp2_with fail
    refine (need_bad 0 0 5 _).mono ?_
    rintro e w4 ⟨rfl,hbx⟩
    exact ⟨rfl,by rw [hA.out];rfl,(h7.out.keep hbx).below⟩
   have HC6:Hid (checkF p=r6 p):=or_none HC5.out (by rw [decide_eq_true hlc];rfl)
   have hlc':(p.funcs.length:Int)<=32:=by omega
   go_wp2_with fail
   refine (need_ok 0 0 5 _).mono ?_
   rintro e w4 ⟨rfl,hbx⟩
   have h8:=Hd (h7.out.keep hbx)
   clear b1 b2 b3 b4 z0 z1 hbx HC5 h7 hlc'
   have b1:=row_of h8.out.b3 1 (.slice ac p.chans.length kc) rfl
   have b2:=row_of h8.out.b3 2 (.slice aa p.arrays.length ka) rfl
   have b3:=row_of h8.out.b3 3 (.slice af p.funcs.length kf) rfl
   have b4:=row_of h8.out.b3 4 (.slice am p.main.length km) rfl
   have z0:=row_of h8.out.b2 0 (.int .i64 0) rfl
   have z1:=row_of h8.out.b2 1 (.int .i64 0) rfl
   go_upto_region 18 with fail
   have hb9:Below w4.heap.size w4 (w4.alloc (.map #[] 0)):=(bR _ _).alloc (nR _) _
   have h9:=Hd (h8.out.keep hb9)
   have hF0:=Hd (SetIs.made w4)
   obtain ⟨bf,hbf⟩:∃ bf,bf=w4.heap.size:=⟨_,rfl⟩
   have HBF:Hid (w0.heap.size<=bf/\bf ≠ bc/\bf ≠ ba/\bf ≠ bs/\bf ≠ bp):=by
    have h1:=h8.out.hc.lt;have h2:=h8.out.ha.lt;have h3:=h8.out.hs.lt;have h4:=h8.out.hp.lt;have h5:=h8.out.below.size
    refine ⟨by omega,by omega,by omega,by omega,by omega⟩
   generalize w4.alloc (.map #[] 0)=W9 at *
   rw [<- hbf] at hF0 ⊢
   clear b1 b2 b3 b4 z0 z1 hb9 hbf h8
   have b1:=row_of h9.out.b3 1 (.slice ac p.chans.length kc) rfl
   have b2:=row_of h9.out.b3 2 (.slice aa p.arrays.length ka) rfl
   have b3:=row_of h9.out.b3 3 (.slice af p.funcs.length kf) rfl
   have b4:=row_of h9.out.b3 4 (.slice am p.main.length km) rfl
   have z0:=row_of h9.out.b2 0 (.int .i64 0) rfl
   have z1:=row_of h9.out.b2 1 (.int .i64 0) rfl
   go_wp2
   go_loopw [96] (fun i wr=>∃ (k:Nat) (labs:List (Nat × List ByteArray)) (lv:Value),k<=p.funcs.length/\i=.int .i64 k/\Hid (RunAt w0 p (.slice ac p.chans.length kc) (.slice aa p.arrays.length ka) (.slice af p.funcs.length kf) (.slice am p.main.length km) cb bc ba bs bp q p.chans (aNames p.arrays) (sitesOf [] (codesOf (p.funcs.take k))) (paramsOf (p.funcs.take k)) lv labs wr/\SetIs wr bf (fNames (p.funcs.take k))/\labs.map (·.2)=(p.funcs.take k).map (fun f=>labelsOf f.code)/\(∀ x ∈ labs,x.1 ≠ bf))/\Hid (funcsF p.chans (aNames p.arrays) p.funcs=firstF (funcF p.chans (aNames p.arrays)) (p.funcs.take k) (p.funcs.drop k))) (fun i _=>p.funcs.length - (intOf i).toNat)
   case atStart=>exact ⟨0,[],.slice none 0 0,Nat.zero_le _,rfl,⟨h9.out,hF0.out,rfl,(fun x hx=>nomatch hx)⟩,rfl⟩
   case round=>
    obtain ⟨wo,rfl⟩:∃ x:World,x=wr:=⟨_,rfl⟩
    obtain ⟨k,labs,lv,hk,rfl,hR,hq⟩:=hrel
    clear b1 b2 b3 b4 z0 z1 h9 hF0
    by_cases hlt:k<p.funcs.length
    ·obtain ⟨x,hx⟩:∃ x,p.funcs[k]?=some x:=⟨_,lG hlt⟩
     obtain ⟨ac',kc',hce,_,hrr⟩:=hR.out.1.rd.2.2.1
     simp only [Value.slice.injEq] at hce
     obtain ⟨rfl,_,rfl⟩:=hce
     obtain ⟨b,o,pv,cv,rfl,_,c0,c1,c2,c3,c4,hfd⟩:=hrr k x hx
     obtain ⟨ap,kp,rfl,hpl,_⟩:=id hfd.1
     obtain ⟨acd,kcd,rfl,hcdl,_⟩:=id hfd.2.1
     have hxs:x.name.size<=maxLen:=hfd.2.2.2.2
     have HX:=Hd hx
     have hlt2:(k:Int)<(p.funcs.length:Int):=by omega
     go_upto_region 21 with fail
     have hb4:Below wo.heap.size wo (wo.alloc (.cells #[.string x.name,.slice ap x.params.length kp,.slice acd x.code.length kcd,.int .i64 x.line,.int .i64 x.col] 52)):=(bR _ _).alloc (nR _) _
     have G4:=heap_alloc_new wo (.cells #[.string x.name,.slice ap x.params.length kp,.slice acd x.code.length kcd,.int .i64 x.line,.int .i64 x.col] 52)
     generalize wo.alloc (.cells #[.string x.name,.slice ap x.params.length kp,.slice acd x.code.length kcd,.int .i64 x.line,.int .i64 x.col] 52)=W4 at *
     have hR1:=Hd (And.intro (hR.out.1.keep hb4) (And.intro (hR.out.2.1.keep hb4) hR.out.2.2))
     have HFD:=Hd (hfd.keep hb4)
     have HG4:=Hd G4
     generalize wo.heap.size=bx at *
     have g0:=row_of G4 0 (.string x.name) rfl
     have g1:=row_of G4 1 (.slice ap x.params.length kp) rfl
     have g3:=row_of G4 3 (.int .i64 x.line) rfl
     have g4:=row_of G4 4 (.int .i64 x.col) rfl
     clear hrr hx c0 c1 c2 c3 c4 hfd hb4 G4 hR
     go_wp2_with fail
     refine (declare_any bf (fNames (p.funcs.take k)) x.name x.line x.col _ hxs hR1.out.1.laid hR1.out.2.1).mono ?_
     rintro e w5 ⟨he,hS,hg⟩
     cases hd:declF (fNames (p.funcs.take k)) x.name x.line x.col with
     | some F=>
      rw [hd] at he
      subst he
      have hA:Hid (checkF p=some F):=or_some HC6.out (firstF_fault hq.out HX.out (by unfold funcF;rw [hd];rfl))
      exact ⟨rfl,by rw [hA.out];rfl,(hR1.out.1.turn hR1.out.2.1 hg HBF.out.1).1⟩
     | none=>
      rw [hd] at he
      subst he
      have HD:=Hd hd
      have hS':=hS hd
      have hR2:Hid (RunAt w0 p (.slice ac p.chans.length kc) (.slice aa p.arrays.length ka) (.slice (some ⟨b,o,none⟩) p.funcs.length kf) (.slice am p.main.length km) cb bc ba bs bp q p.chans (aNames p.arrays) (sitesOf [] (codesOf (p.funcs.take k))) (paramsOf (p.funcs.take k)) lv labs w5/\SetIs w5 bf (fNames (p.funcs.take k) ++ [x.name])/\labs.map (·.2)=(p.funcs.take k).map (fun f=>labelsOf f.code)/\(∀ x ∈ labs,x.1 ≠ bf)):=
       ⟨hR1.out.1.setF hR1.out.2.1 HBF.out.1 HBF.out.2.1 HBF.out.2.2.1 HBF.out.2.2.2.1 HBF.out.2.2.2.2 hR1.out.2.2.2 hg,hS',hR1.out.2.2⟩
      have hK5:=Kept.of_map hg hR1.out.2.1
      have hG5:w5.heap[bx]?=_:=(hg.block bx (aE HG4.out).1 (fun e=>map_ne_cells hR1.out.2.1 HG4.out (by cases e;rfl))).trans HG4.out
      have HG5:=Hd hG5
      have HFD5:=Hd (HFD.out.kept hK5)
      clear hS hg hd hS' hK5 hG5 hR1 HFD HG4 g0 g1 g3 g4
      have g1:=row_of HG5.out 1 (.slice ap x.params.length kp) rfl
      have g3:=row_of HG5.out 3 (.int .i64 x.line) rfl
      have g4:=row_of HG5.out 4 (.int .i64 x.col) rfl
      by_cases hlp:x.params.length<=32
      rotate_left
      ·have hA:Hid (checkF p=some ⟨x.line,x.col,5⟩):=or_some HC6.out (firstF_fault hq.out HX.out (by unfold funcF;rw [HD.out,decide_eq_false hlp];rfl))
       have hlp':decide ((x.params.length:Int)<=32)=false:=decide_eq_false (by omega)
       go_wp2_with fail
       refine (need_bad x.line x.col 5 _).mono ?_
       rintro e w6 ⟨rfl,hbx⟩
       exact ⟨rfl,by rw [hA.out];rfl,(hR2.out.1.keep hbx).below⟩
      have hlp':(x.params.length:Int)<=32:=by omega
      go_wp2_with fail
      refine (need_ok x.line x.col 5 _).mono ?_
      rintro e w6 ⟨rfl,hb6⟩
      clear g1 g3 g4 hlp'
      go_upto_region 24 with fail
      have hb7:=bcomp hb6 ((bR w6.heap.size w6).alloc (nR _) (.map #[] 0))
      have hR7:=Hd (And.intro (hR2.out.1.keep hb7) (And.intro (hR2.out.2.1.keep hb7) hR2.out.2.2))
      have HG7:=Hd ((hb7.block bx (aE HG5.out).1).trans HG5.out)
      have HFD7:=Hd (HFD5.out.keep hb7)
      have hP0:=Hd (SetIs.made w6)
      obtain ⟨bm,hbm⟩:∃ bm,bm=w6.heap.size:=⟨_,rfl⟩
      have HBM:Hid (w0.heap.size<=bm/\bm ≠ bc/\bm ≠ ba/\bm ≠ bs/\bm ≠ bp/\bm ≠ bf/\∀ x ∈ labs,x.1 ≠ bm):=by
       have h0:=hR2.out.1.keep hb6
       have h1:=h0.hc.lt;have h2:=h0.ha.lt;have h3:=h0.hs.lt;have h4:=h0.hp.lt;have h5:=h0.below.size;have h6:=(hR2.out.2.1.keep hb6).lt
       refine ⟨by omega,by omega,by omega,by omega,by omega,by omega,fun x hx=>?_⟩
       have:=((h0.hl x hx).1).lt
       omega
      generalize w6.alloc (.map #[] 0)=W7 at *
      rw [<- hbm] at hP0 ⊢
      clear hb6 hb7 hbm hR2 HG5 HFD5
      have g1:=row_of HG7.out 1 (.slice ap x.params.length kp) rfl
      go_wp2
      go_loopw [117] (fun i wi=>∃ j:Nat,j<=x.params.length/\i=.int .i64 j/\Hid ((RunAt w0 p (.slice ac p.chans.length kc) (.slice aa p.arrays.length ka) (.slice (some ⟨b,o,none⟩) p.funcs.length kf) (.slice am p.main.length km) cb bc ba bs bp q p.chans (aNames p.arrays) (sitesOf [] (codesOf (p.funcs.take k))) (paramsOf (p.funcs.take k)) lv labs wi/\SetIs wi bf (fNames (p.funcs.take k) ++ [x.name])/\labs.map (·.2)=(p.funcs.take k).map (fun f=>labelsOf f.code)/\(∀ x ∈ labs,x.1 ≠ bf))/\wi.heap[bx]?=some (.cells #[.string x.name,.slice ap x.params.length kp,.slice acd x.code.length kcd,.int .i64 x.line,.int .i64 x.col] 52 (0,0))/\RdFunc none wi x (.slice ap x.params.length kp) (.slice acd x.code.length kcd)/\SetIs wi bm (x.params.take j))/\Hid (declsF x.params x.line x.col=firstF (fun d s=>declF d s x.line x.col) (x.params.take j) (x.params.drop j))) (fun i _=>x.params.length - (intOf i).toNat)
      case atStart=>exact ⟨0,Nat.zero_le _,rfl,⟨hR7.out,HG7.out,HFD7.out,hP0.out⟩,rfl⟩
      case round=>
       obtain ⟨wi,rfl⟩:∃ x:World,x=wr:=⟨_,rfl⟩
       obtain ⟨j,hj,rfl,hI,hq2⟩:=hrel
       clear g1 hR7 HG7 HFD7 hP0
       by_cases hjl:j<x.params.length
       ·obtain ⟨s,hs⟩:∃ s,x.params[j]?=some s:=⟨_,lG hjl⟩
        obtain ⟨ap',kp',hpe,_,hpr⟩:=hI.out.2.2.1.1
        simp only [Value.slice.injEq] at hpe
        obtain ⟨rfl,_,rfl⟩:=hpe
        obtain ⟨b3',o3,rfl,_,cs,hss⟩:=hpr j s hs
        have HS:=Hd hs
        have hjl2:(j:Int)<(x.params.length:Int):=by omega
        have g3:=row_of hI.out.2.1 3 (.int .i64 x.line) rfl
        have g4:=row_of hI.out.2.1 4 (.int .i64 x.col) rfl
        clear hpr hs
        go_wp2_with fail
        refine (declare_any bm (x.params.take j) s x.line x.col _ hss hI.out.1.1.laid hI.out.2.2.2).mono ?_
        rintro e w8 ⟨he,hS,hg⟩
        cases hd:declF (x.params.take j) s x.line x.col with
        | some F=>
         rw [hd] at he
         subst he
         have hA:Hid (checkF p=some F):=or_some HC6.out (firstF_fault hq.out HX.out (by unfold funcF;rw [HD.out,decide_eq_true hlp,show declsF x.params x.line x.col=some F from firstF_fault hq2.out HS.out hd];rfl))
         exact ⟨rfl,by rw [hA.out];rfl,(hI.out.1.1.turn hI.out.2.2.2 hg HBM.out.1).1⟩
        | none=>
         rw [hd] at he
         subst he
         have hQ2:Hid (declsF x.params x.line x.col=firstF (fun d s=>declF d s x.line x.col) (x.params.take (j+1)) (x.params.drop (j+1))):=firstF_ok hq2.out HS.out hd
         have hK8:=Kept.of_map hg hI.out.2.2.2
         have hT8:Turned (fun i=>i=bm) wi w8:=Turned.of_grown hg (fun b e=>by cases e;rfl)
         have hI8:Hid ((RunAt w0 p (.slice ac p.chans.length kc) (.slice aa p.arrays.length ka) (.slice (some ⟨b,o,none⟩) p.funcs.length kf) (.slice am p.main.length km) cb bc ba bs bp q p.chans (aNames p.arrays) (sitesOf [] (codesOf (p.funcs.take k))) (paramsOf (p.funcs.take k)) lv labs w8/\SetIs w8 bf (fNames (p.funcs.take k) ++ [x.name])/\labs.map (·.2)=(p.funcs.take k).map (fun f=>labelsOf f.code)/\(∀ x ∈ labs,x.1 ≠ bf))/\w8.heap[bx]?=some (.cells #[.string x.name,.slice (some ⟨b3',o3,none⟩) x.params.length kp,.slice acd x.code.length kcd,.int .i64 x.line,.int .i64 x.col] 52 (0,0))/\RdFunc none w8 x (.slice (some ⟨b3',o3,none⟩) x.params.length kp) (.slice acd x.code.length kcd)/\SetIs w8 bm (x.params.take (j+1))):=by
          refine ⟨⟨hI.out.1.1.setF hI.out.2.2.2 HBM.out.1 HBM.out.2.1 HBM.out.2.2.1 HBM.out.2.2.2.1 HBM.out.2.2.2.2.1 HBM.out.2.2.2.2.2.2 hg,hI.out.1.2.1.turn hT8 (fun e=>HBM.out.2.2.2.2.2.1 e.symm),hI.out.1.2.2⟩,(hT8.block bx (aE hI.out.2.1).1 (fun e=>map_ne_cells hI.out.2.2.2 hI.out.2.1 e.symm)).trans hI.out.2.1,hI.out.2.2.1.kept hK8,?_⟩
          rw [List.take_add_one,HS.out];exact hS hd
         clear hS hg hd hK8 hT8 hI g3 g4 cs
         go_wp2_with fail
         go_roundw
         case rel=>exact ⟨j+1,by omega,by go_num,hI8,hQ2⟩
         case measure=>simp [intOf];omega
       obtain rfl:j=x.params.length:=by omega
       have HDP:Hid (declsF x.params x.line x.col=none):=firstF_end hq2.out
       clear hq2
       have f8:=ext_cell (row_of hI.out.1.1.ck 8 (.map (some bp)) rfl)
       have f0:=ext_cell (row_of hI.out.2.1 0 (.string x.name) rfl)
       have f1:=ext_cell (row_of hI.out.2.1 1 (.slice ap x.params.length kp) rfl)
       go_upto_region 29 with fail
       (refine wp_region_calm_tail 9 (by kernel_rfl) (by kernel_rfl) ?_; simp only [List.take_succ_cons, List.take_zero, List.drop_succ_cons, List.drop_zero]; (repeat (go_big_quiet_step (fail))); refine wpQuiet_nil ?_; intro wc hwc)
       have hI2:Hid ((RunAt w0 p (.slice ac p.chans.length kc) (.slice aa p.arrays.length ka) (.slice (some ⟨b,o,none⟩) p.funcs.length kf) (.slice am p.main.length km) cb bc ba bs bp q p.chans (aNames p.arrays) (sitesOf [] (codesOf (p.funcs.take k))) (paramsOf (p.funcs.take k)) lv labs wc/\SetIs wc bf (fNames (p.funcs.take k) ++ [x.name])/\labs.map (·.2)=(p.funcs.take k).map (fun f=>labelsOf f.code)/\(∀ x ∈ labs,x.1 ≠ bf))/\wc.heap[bx]?=some (.cells #[.string x.name,.slice ap x.params.length kp,.slice acd x.code.length kcd,.int .i64 x.line,.int .i64 x.col] 52 (0,0))/\RdFunc none wc x (.slice ap x.params.length kp) (.slice acd x.code.length kcd)):=
        ⟨⟨hI.out.1.1.keep hwc,hI.out.1.2.1.keep hwc,hI.out.1.2.2⟩,(hwc.block bx (aE hI.out.2.1).1).trans hI.out.2.1,hI.out.2.2.1.keep hwc⟩
       clear f8 f0 f1 hI hwc
       go_wp2_with (at_mapUpdate;refine wpList_ints_store rfl _ _ _ _ rfl _ _ Tryz.underlying9 Tryz.underlying104 bp (paramsOf (p.funcs.take k)) rfl x.name rfl (x.params.length:Int) rfl hxs hI2.out.1.1.hp (inL_false_paramsOf (declF_none HD.out).2) ?_;intro w9 hs9 hg9 hz9;have hI3:Hid ((RunAt w0 p (.slice ac p.chans.length kc) (.slice aa p.arrays.length ka) (.slice (some ⟨b,o,none⟩) p.funcs.length kf) (.slice am p.main.length km) cb bc ba bs bp q p.chans (aNames p.arrays) (sitesOf [] (codesOf (p.funcs.take k))) (paramsOf (p.funcs.take k) ++ [(x.name,(x.params.length:Int))]) lv labs w9/\SetIs w9 bf (fNames (p.funcs.take k) ++ [x.name])/\labs.map (·.2)=(p.funcs.take k).map (fun f=>labelsOf f.code)/\(∀ x ∈ labs,x.1 ≠ bf))/\w9.heap[bx]?=some (.cells #[.string x.name,.slice ap x.params.length kp,.slice acd x.code.length kcd,.int .i64 x.line,.int .i64 x.col] 52 (0,0))/\RdFunc none w9 x (.slice ap x.params.length kp) (.slice acd x.code.length kcd)):=(by exact ⟨⟨hI2.out.1.1.setP HBB.out hg9 hs9,hI2.out.1.2.1.turn (Turned.of_grown (S:=fun i=>i=bp) hg9 (fun b e=>by cases e;rfl)) HBF.out.2.2.2.2,hI2.out.1.2.2⟩,(hg9.block bx (aE hI2.out.2.1).1 (fun e=>map_ne_cells hI2.out.1.1.hp hI2.out.2.1 (by cases e;rfl))).trans hI2.out.2.1,hI2.out.2.2.kept (Kept.of_map hg9 hI2.out.1.1.hp)⟩);have f2:=row_of hI3.out.2.1 2 (.slice acd x.code.length kcd) rfl;have f3:=row_of hI3.out.2.1 3 (.int .i64 x.line) rfl;have f4:=row_of hI3.out.2.1 4 (.int .i64 x.col) rfl;clear hs9 hg9 hz9 hI2)
       have hll:labs.length=k:=by have:=congrArg List.length hI3.out.1.2.2.1;simp at this;omega
       refine (instrs_any cb bc ba bs labs.length w0.heap.size p.width x.line x.col _ _ _ _ (.map (some bp)) lv _ p.chans (aNames p.arrays) (sitesOf [] (codesOf (p.funcs.take k))) _ x.code false _ hI3.out.1.1.ck hI3.out.1.1.hc hI3.out.1.1.ha hI3.out.1.1.hs HBB.out.ncs HBB.out.nas hI3.out.1.1.own hI3.out.1.1.below.size (by omega) hI3.out.2.2.2.1 hI3.out.1.1.laid).mono ?_
       rintro e w10 ⟨he,ht,hrest⟩
       cases hins:instrsF p.chans (aNames p.arrays) false (sitesOf [] (codesOf (p.funcs.take k))) x.code x.line x.col with
       | some F=>
        rw [hins] at he
        subst he
        have hA:Hid (checkF p=some F):=or_some HC6.out (firstF_fault hq.out HX.out (by unfold funcF;rw [HD.out,decide_eq_true hlp,HDP.out,hins];rfl))
        refine ⟨rfl,by rw [hA.out];rfl,below_then hI3.out.1.1.below ht hI3.out.1.1.below.size (fun i e=>?_)⟩
        rcases e with e|e|e
        ·rw [e];exact HBB.out.gbs
        ·rw [e];exact HBB.out.gcb
        ·exact (own_is hI3.out.1.1.own e).1
       | none=>
        rw [hins] at he
        subst he
        obtain ⟨lb,lv',hlb,hlab,hsi,hck,hown⟩:=hrest hins
        have hQ:Hid (funcsF p.chans (aNames p.arrays) p.funcs=firstF (funcF p.chans (aNames p.arrays)) (p.funcs.take (k+1)) (p.funcs.drop (k+1))):=firstF_ok hq.out HX.out (by unfold funcF;rw [HD.out,decide_eq_true hlp,HDP.out,hins];rfl)
        have hJ:Hid (RunAt w0 p (.slice ac p.chans.length kc) (.slice aa p.arrays.length ka) (.slice (some ⟨b,o,none⟩) p.funcs.length kf) (.slice am p.main.length km) cb bc ba bs bp q p.chans (aNames p.arrays) (sitesOf [] (codesOf (p.funcs.take (k+1)))) (paramsOf (p.funcs.take (k+1))) lv' (labs ++ [(lb,labelsOf x.code)]) w10/\SetIs w10 bf (fNames (p.funcs.take (k+1)))/\(labs ++ [(lb,labelsOf x.code)]).map (·.2)=(p.funcs.take (k+1)).map (fun f=>labelsOf f.code)/\(∀ y ∈ labs ++ [(lb,labelsOf x.code)],y.1 ≠ bf)):=by
         have hr:=hI3.out.1.1.ins HBB.out ht hlb hlab hsi hck hown
         have hbfl:=hI3.out.1.2.1.lt
         have htk:p.funcs.take (k+1)=p.funcs.take k ++ [x]:=by rw [List.take_add_one,HX.out];rfl
         refine ⟨?_,?_,?_,?_⟩
         ·rw [htk]
          have e1:sitesOf [] (codesOf (p.funcs.take k ++ [x]))=sitesOf (sitesOf [] (codesOf (p.funcs.take k))) x.code:=by
           unfold codesOf;rw [List.flatMap_append,sitesOf_append];simp
          have e2:paramsOf (p.funcs.take k ++ [x])=paramsOf (p.funcs.take k) ++ [(x.name,(x.params.length:Int))]:=by unfold paramsOf;rw [List.map_append];rfl
          rw [e1,e2];exact hr
         ·rw [htk]
          have e3:fNames (p.funcs.take k ++ [x])=fNames (p.funcs.take k) ++ [x.name]:=by unfold fNames;rw [List.map_append];rfl
          rw [e3]
          refine hI3.out.1.2.1.turn ht (fun e=>?_)
          rcases e with e|e|e
          ·exact HBF.out.2.2.2.1 e
          ·exact map_ne_cells hI3.out.1.2.1 hI3.out.1.1.ck e
          ·exact own_ne_map hI3.out.1.1.own hI3.out.1.2.1 e
         ·rw [htk,List.map_append,List.map_append,hI3.out.1.2.2.1];rfl
         ·intro y hy
          rcases List.mem_append.1 hy with hy|hy
          ·exact hI3.out.1.2.2.2 y hy
          ·rw [List.mem_singleton] at hy;subst hy;simp only;omega
        clear hrest hins hlb hlab hsi hck hown ht hI3 f2 f3 f4 hll
        go_wp2_with fail
        go_roundw
        case rel=>exact ⟨k+1,labs ++ [(lb,labelsOf x.code)],lv',by omega,by go_num,hJ,hQ⟩
        case measure=>simp [intOf];omega
    obtain rfl:k=p.funcs.length:=by omega
    have HAP:=Hd (funcs_apart (firstF_end hq.out))
    have HC7:Hid (checkF p=r7 p):=or_none HC6.out (firstF_end hq.out)
    have hR0:Hid (RunAt w0 p (.slice ac p.chans.length kc) (.slice aa p.arrays.length ka) (.slice af p.funcs.length kf) (.slice am p.main.length km) cb bc ba bs bp q p.chans (aNames p.arrays) (sitesOf [] (codesOf p.funcs)) (paramsOf p.funcs) lv labs wo/\labs.map (·.2)=p.funcs.map (fun f=>labelsOf f.code)):=by
     have h:=hR.out;rw [List.take_length] at h;exact ⟨h.1,h.2.2.1⟩
    clear hR hq HC6 hmm HBF
    have b4:=row_of hR0.out.1.b3 4 (.slice am p.main.length km) rfl
    have z0:=row_of hR0.out.1.b2 0 (.int .i64 0) rfl
    have z1:=row_of hR0.out.1.b2 1 (.int .i64 0) rfl
    go_wp2_with fail
    clear b4 z0 z1
    have hll:labs.length=p.funcs.length:=by have:=congrArg List.length hR0.out.2;simpa using this
    refine (instrs_any cb bc ba bs labs.length w0.heap.size p.width 0 0 _ _ _ _ (.map (some bp)) lv _ p.chans (aNames p.arrays) (sitesOf [] (codesOf p.funcs)) _ p.main true _ hR0.out.1.ck hR0.out.1.hc hR0.out.1.ha hR0.out.1.hs HBB.out.ncs HBB.out.nas hR0.out.1.own hR0.out.1.below.size (by omega) hR0.out.1.rd.2.2.2.1 hR0.out.1.laid).mono ?_
    rintro e w10 ⟨he,ht,hrest⟩
    cases hins:instrsF p.chans (aNames p.arrays) true (sitesOf [] (codesOf p.funcs)) p.main 0 0 with
    | some F=>
     rw [hins] at he
     subst he
     have hA:Hid (checkF p=some F):=or_some HC7.out hins
     refine ⟨rfl,by rw [hA.out];rfl,below_then hR0.out.1.below ht hR0.out.1.below.size (fun i e=>?_)⟩
     rcases e with e|e|e
     ·rw [e];exact HBB.out.gbs
     ·rw [e];exact HBB.out.gcb
     ·exact (own_is hR0.out.1.own e).1
    | none=>
     rw [hins] at he
     subst he
     obtain ⟨lb,lv',hlb,hlab,hsi,hck,hown⟩:=hrest hins
     have HC8:Hid (checkF p=r8 p):=or_none HC7.out hins
     have hJ:Hid (RunAt w0 p (.slice ac p.chans.length kc) (.slice aa p.arrays.length ka) (.slice af p.funcs.length kf) (.slice am p.main.length km) cb bc ba bs bp q p.chans (aNames p.arrays) (sitesOf (sitesOf [] (codesOf p.funcs)) p.main) (paramsOf p.funcs) lv' (labs ++ [(lb,labelsOf p.main)]) w10/\(labs ++ [(lb,labelsOf p.main)]).map (·.2)=p.funcs.map (fun f=>labelsOf f.code) ++ [labelsOf p.main]/\(labs ++ [(lb,labelsOf p.main)]).length=p.funcs.length+1):=
      ⟨hR0.out.1.ins HBB.out ht hlb hlab hsi hck hown,by rw [List.map_append,hR0.out.2];rfl,by rw [List.length_append,hll];rfl⟩
     generalize labs ++ [(lb,labelsOf p.main)]=labs2 at *
     generalize sitesOf (sitesOf [] (codesOf p.funcs)) p.main=si2 at *
     clear hrest hins hlb hlab hsi hck hown ht hR0 HC7 hll
     have b3:=row_of hJ.out.1.b3 3 (.slice af p.funcs.length kf) rfl
     go_wp2
     go_loopw [151] (fun i wr=>∃ k:Nat,k<=p.funcs.length/\i=.int .i64 k/\Hid (RunAt w0 p (.slice ac p.chans.length kc) (.slice aa p.arrays.length ka) (.slice af p.funcs.length kf) (.slice am p.main.length km) cb bc ba bs bp q p.chans (aNames p.arrays) si2 (paramsOf p.funcs) lv' labs2 wr)/\Hid (targsF p.funcs=firstF (fun _ f=>targetsF (paramsOf p.funcs) (labelsOf f.code) f.code) (p.funcs.take k) (p.funcs.drop k))) (fun i _=>p.funcs.length - (intOf i).toNat)
     case atStart=>exact ⟨0,Nat.zero_le _,rfl,hJ.out.1,rfl⟩
     case round=>
      obtain ⟨wo,rfl⟩:∃ x:World,x=wr:=⟨_,rfl⟩
      obtain ⟨k,hk,rfl,hR,hq⟩:=hrel
      have HJ2:=Hd hJ.out.2
      clear b3 hJ
      by_cases hlt:k<p.funcs.length
      ·obtain ⟨x,hx⟩:∃ x,p.funcs[k]?=some x:=⟨_,lG hlt⟩
       obtain ⟨ac',kc',hce,_,hrr⟩:=hR.out.rd.2.2.1
       simp only [Value.slice.injEq] at hce
       obtain ⟨rfl,_,rfl⟩:=hce
       obtain ⟨b,o,pv,cv,rfl,_,c0,c1,c2,c3,c4,hfd⟩:=hrr k x hx
       obtain ⟨ap,kp,rfl,hpl,_⟩:=id hfd.1
       obtain ⟨acd,kcd,rfl,hcdl,_⟩:=id hfd.2.1
       have hxs:x.name.size<=maxLen:=hfd.2.2.2.2
       have HX:=Hd hx
       have hlt2:(k:Int)<(p.funcs.length:Int):=by omega
       obtain ⟨l,hl1⟩:∃ l,labs2[k]?=some l:=⟨_,lG (by have:=HJ2.out.2;omega)⟩
       have hl2:l.2=labelsOf x.code:=by
        have h:=congrArg (fun z=>z[k]?) HJ2.out.1
        try simp only at h
        rw [List.getElem?_map,hl1,List.getElem?_append_left (by simpa using hlt),List.getElem?_map,hx] at h
        simpa using h
       have HLM:Hid (SetIs wo l.1 (labelsOf x.code)):=by have:=(hR.out.hl l (List.mem_of_getElem? hl1)).1;rw [hl2] at this;exact this
       obtain ⟨gl,cl,rfl,_,hlc⟩:=own_at hR.out.own (by have:=HJ2.out.2;simp;omega)
       have hcl:=hlc k (.map (some l.1)) (by rw [List.getElem?_map,hl1];rfl)
       rw [Nat.zero_add] at hcl
       have hkl:(k:Int)<(labs2.length:Int):=by have:=HJ2.out.2;omega
       generalize l.1=lb at *
       go_upto_region 36 with fail
       have hb4:Below wo.heap.size wo (wo.alloc (.cells #[.string x.name,.slice ap x.params.length kp,.slice acd x.code.length kcd,.int .i64 x.line,.int .i64 x.col] 52)):=(bR _ _).alloc (nR _) _
       have G4:=heap_alloc_new wo (.cells #[.string x.name,.slice ap x.params.length kp,.slice acd x.code.length kcd,.int .i64 x.line,.int .i64 x.col] 52)
       generalize wo.alloc (.cells #[.string x.name,.slice ap x.params.length kp,.slice acd x.code.length kcd,.int .i64 x.line,.int .i64 x.col] 52)=W4 at *
       have hR1:=Hd (hR.out.keep hb4)
       have HFD:=Hd (hfd.keep hb4)
       have HLM1:=Hd (HLM.out.keep hb4)
       have e9:=ext_cell (cell_keep hb4 (row_of hR.out.ck 9 _ rfl))
       have el:=ext_cell (cell_keep hb4 hcl)
       have e2:=ext_cell (row_of G4 2 (.slice acd x.code.length kcd) rfl)
       generalize wo.heap.size=bx at *
       clear hrr hx c0 c1 c2 c3 c4 hfd hb4 G4 hR HLM hl1 hl2 hlc hcl
       (refine wp_region_calm_tail 10 (by kernel_rfl) (by kernel_rfl) ?_; simp only [List.take_succ_cons, List.take_zero, List.drop_succ_cons, List.drop_zero]; (repeat (go_big_quiet_step (fail))); refine wpQuiet_nil ?_; intro wc hwc)
       have hR2:=Hd (hR1.out.keep hwc)
       have HFD2:=Hd (HFD.out.keep hwc)
       have HLM2:=Hd (HLM1.out.keep hwc)
       clear e9 el e2 hR1 HFD HLM1 hwc
       go_wp2_with fail
       refine (targets_any cb bp lb _ (paramsOf p.funcs) (labelsOf x.code) x.code _ (row_of hR2.out.ck 8 _ rfl) hR2.out.hp HAP.out HLM2.out HFD2.out.2.1).mono ?_
       rintro e w5 ⟨he,hb5⟩
       cases ht:targetsF (paramsOf p.funcs) (labelsOf x.code) x.code with
       | some F=>
        rw [ht] at he
        subst he
        have hA:Hid (checkF p=some F):=or_some HC8.out (firstF_fault hq.out HX.out ht)
        exact ⟨rfl,by rw [hA.out];rfl,(hR2.out.keep hb5).below⟩
       | none=>
        rw [ht] at he
        subst he
        have hQ:Hid (targsF p.funcs=firstF (fun _ f=>targetsF (paramsOf p.funcs) (labelsOf f.code) f.code) (p.funcs.take (k+1)) (p.funcs.drop (k+1))):=firstF_ok hq.out HX.out ht
        have hJ3:=Hd (hR2.out.keep hb5)
        have HJ4:=HJ2
        clear ht hR2 HFD2 HLM2 hb5 HJ2
        go_wp2_with fail
        go_roundw
        case rel=>exact ⟨k+1,by omega,by go_num,hJ3,hQ⟩
        case measure=>simp [intOf];omega
      obtain rfl:k=p.funcs.length:=by omega
      have HTT:=Hd (targs_there (firstF_end hq.out))
      have HC9:Hid (checkF p=r9 p):=or_none HC8.out (firstF_end hq.out)
      obtain ⟨l,hl1⟩:∃ l,labs2[p.funcs.length]?=some l:=⟨_,lG (by have:=HJ2.out.2;omega)⟩
      have hl2:l.2=labelsOf p.main:=by
       have h:=congrArg (fun z=>z[p.funcs.length]?) HJ2.out.1
       try simp only at h
       rw [List.getElem?_map,hl1,List.getElem?_append_right (by simp)] at h
       simpa using h
      have HLM:Hid (SetIs wo l.1 (labelsOf p.main)):=by have:=(hR.out.hl l (List.mem_of_getElem? hl1)).1;rw [hl2] at this;exact this
      obtain ⟨gl,cl,rfl,_,hlc⟩:=own_at hR.out.own (by have:=HJ2.out.2;simp;omega)
      have hcl:=hlc p.funcs.length (.map (some l.1)) (by rw [List.getElem?_map,hl1];rfl)
      rw [Nat.zero_add] at hcl
      have hkl:(p.funcs.length:Int)<(labs2.length:Int):=by have:=HJ2.out.2;omega
      generalize l.1=lb at *
      have e9:=ext_cell (row_of hR.out.ck 9 _ rfl)
      have el:=ext_cell hcl
      have e4:=ext_cell (row_of hR.out.b3 4 (.slice am p.main.length km) rfl)
      have e3:=ext_cell (row_of hR.out.b3 3 (.slice af p.funcs.length kf) rfl)
      clear hl1 hl2 hlc hcl hq HC8 HJ2
      go_upto_region 38 with fail
      (refine wp_region_calm_tail 12 (by kernel_rfl) (by kernel_rfl) ?_; simp only [List.take_succ_cons, List.take_zero, List.drop_succ_cons, List.drop_zero]; (repeat (go_big_quiet_step (fail))); refine wpQuiet_nil ?_; intro wc hwc)
      have hR2:=Hd (hR.out.keep hwc)
      have HLM2:=Hd (HLM.out.keep hwc)
      clear e9 el e4 e3 hR HLM hwc
      go_wp2_with fail
      refine (targets_any cb bp lb _ (paramsOf p.funcs) (labelsOf p.main) p.main _ (row_of hR2.out.ck 8 _ rfl) hR2.out.hp HAP.out HLM2.out hR2.out.rd.2.2.2.1).mono ?_
      rintro e w5 ⟨he,hb5⟩
      cases ht:targetsF (paramsOf p.funcs) (labelsOf p.main) p.main with
      | some F=>
       rw [ht] at he
       subst he
       have hA:Hid (checkF p=some F):=or_some HC9.out ht
       exact ⟨rfl,by rw [hA.out];rfl,(hR2.out.keep hb5).below⟩
      | none=>
       rw [ht] at he
       subst he
       have HC10:Hid (checkF p=r10 p):=or_none HC9.out ht
       have hR3:=Hd (hR2.out.keep hb5)
       clear ht hR2 HLM2 hb5 HC9
       have b3:=row_of hR3.out.b3 3 (.slice af p.funcs.length kf) rfl
       go_wp2
       go_loopw [184] (fun i wr=>∃ k:Nat,k<=p.funcs.length/\i=.int .i64 k/\Hid (RunAt w0 p (.slice ac p.chans.length kc) (.slice aa p.arrays.length ka) (.slice af p.funcs.length kf) (.slice am p.main.length km) cb bc ba bs bp q p.chans (aNames p.arrays) si2 (paramsOf p.funcs) (.slice (some ⟨gl,0,none⟩) labs2.length cl) labs2 wr)/\Hid (loopsF p.funcs=firstF (fun _ f=>needF (!loopB p.funcs f.name) f.line f.col 9) (p.funcs.take k) (p.funcs.drop k))) (fun i _=>p.funcs.length - (intOf i).toNat)
       case atStart=>exact ⟨0,Nat.zero_le _,rfl,hR3,rfl⟩
       case round=>
        obtain ⟨wo2,rfl⟩:∃ x:World,x=wr:=⟨_,rfl⟩
        obtain ⟨k,hk,rfl,hR,hq⟩:=hrel
        clear b3 hR3
        by_cases hlt:k<p.funcs.length
        ·obtain ⟨x,hx⟩:∃ x,p.funcs[k]?=some x:=⟨_,lG hlt⟩
         obtain ⟨ac',kc',hce,_,hrr⟩:=hR.out.rd.2.2.1
         simp only [Value.slice.injEq] at hce
         obtain ⟨rfl,_,rfl⟩:=hce
         obtain ⟨b,o,pv,cv,rfl,_,c0,c1,c2,c3,c4,hfd⟩:=hrr k x hx
         obtain ⟨ap,kp,rfl,hpl,_⟩:=id hfd.1
         obtain ⟨acd,kcd,rfl,hcdl,_⟩:=id hfd.2.1
         have hxs:x.name.size<=maxLen:=hfd.2.2.2.2
         have HX:=Hd hx
         have hlt2:(k:Int)<(p.funcs.length:Int):=by omega
         go_upto_region 42 with fail
         have hb4:Below wo2.heap.size wo2 (wo2.alloc (.cells #[.string x.name,.slice ap x.params.length kp,.slice acd x.code.length kcd,.int .i64 x.line,.int .i64 x.col] 52)):=(bR _ _).alloc (nR _) _
         have G4:=heap_alloc_new wo2 (.cells #[.string x.name,.slice ap x.params.length kp,.slice acd x.code.length kcd,.int .i64 x.line,.int .i64 x.col] 52)
         generalize wo2.alloc (.cells #[.string x.name,.slice ap x.params.length kp,.slice acd x.code.length kcd,.int .i64 x.line,.int .i64 x.col] 52)=W4 at *
         have hR1:=Hd (hR.out.keep hb4)
         have e0:=ext_cell (row_of G4 0 (.string x.name) rfl)
         have e3:=ext_cell (row_of G4 3 (.int .i64 x.line) rfl)
         have e4:=ext_cell (row_of G4 4 (.int .i64 x.col) rfl)
         generalize wo2.heap.size=bx at *
         have hnm:x.name ∈ fNames p.funcs:=List.mem_map.2 ⟨x,List.mem_of_getElem? hx,rfl⟩
         have cl2:=fun (y:World)=>loops_any cb _ p.funcs x.name (ext W4 y) (cell_keep (ext_below W4 y) (row_of hR1.out.ck 3 _ rfl)) (hR1.out.rd.2.2.1.keep (ext_below W4 y)) HTT.out hnm
         clear hrr hx c0 c1 c2 c3 c4 hfd hb4 G4 hR hnm
         cases hlp:loopB p.funcs x.name
         ·rw [hlp] at cl2
          have HLP:=Hd hlp
          have CL:=Hd cl2
          clear hlp cl2
          (refine wp_region_calm_tail 7 (by kernel_rfl) (by kernel_rfl) ?_; simp only [List.take_succ_cons, List.take_zero, List.drop_succ_cons, List.drop_zero]; (repeat (go_big_quiet_step ((go_at_call 85;exact calls_calm (CL.out _))))); refine wpQuiet_nil ?_; intro wc hwc)
          have hR2:=Hd (hR1.out.keep hwc)
          clear e0 e3 e4 hR1 hwc CL
          go_wp2_with fail
          refine (need_ok x.line x.col 9 _).mono ?_
          rintro e w6 ⟨rfl,hb6⟩
          have hQ:Hid (loopsF p.funcs=firstF (fun _ f=>needF (!loopB p.funcs f.name) f.line f.col 9) (p.funcs.take (k+1)) (p.funcs.drop (k+1))):=firstF_ok hq.out HX.out (by rw [HLP.out];rfl)
          have hJ3:=Hd (hR2.out.keep hb6)
          clear hR2 hb6
          go_wp2_with fail
          go_roundw
          case rel=>exact ⟨k+1,by omega,by go_num,hJ3,hQ⟩
          case measure=>simp [intOf];omega
         ·rw [hlp] at cl2
          have HLP:=Hd hlp
          have CL:=Hd cl2
          clear hlp cl2
          (refine wp_region_calm_tail 7 (by kernel_rfl) (by kernel_rfl) ?_; simp only [List.take_succ_cons, List.take_zero, List.drop_succ_cons, List.drop_zero]; (repeat (go_big_quiet_step ((go_at_call 85;exact calls_calm (CL.out _))))); refine wpQuiet_nil ?_; intro wc hwc)
          have hR2:=Hd (hR1.out.keep hwc)
          clear e0 e3 e4 hR1 hwc CL
          go_wp2_with fail
          refine (need_bad x.line x.col 9 _).mono ?_
          rintro e w6 ⟨rfl,hb6⟩
          have hA:Hid (checkF p=some ⟨x.line,x.col,9⟩):=HC10.out.trans (firstF_fault hq.out HX.out (by rw [HLP.out];rfl))
          exact ⟨rfl,by rw [hA.out];rfl,(hR2.out.keep hb6).below⟩
        obtain rfl:k=p.funcs.length:=by omega
        have hA:Hid (checkF p=none):=HC10.out.trans (firstF_end hq.out)
        go_wp2
        go_end0
        exact ⟨by rw [hA.out];rfl,hR.out.below⟩
end Go.Proofs.YtgllkgedjplpdaaGreatDoor
