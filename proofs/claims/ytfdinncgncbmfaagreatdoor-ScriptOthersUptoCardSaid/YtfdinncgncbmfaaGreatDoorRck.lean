/- Contract of the reference's Later: targets and loops. Conditions: the program reads; its functions have different names, and are at most 32. What the reference's check says of names; where all is right the functions have different names. Plain. Contract of the reference's Check: the check in order. Conditions: the program reads, and has at most 100000 instructions. -/
import Derived.Test.YtfdinncgncbmfaaGreatDoorRea
import Derived.Test.YtfdinncgncbmfaaGreatDoorLoc
import Derived.Test.YtfdinncgncbmfaaGreatDoorFew
set_option linter.all false
set_option maxRecDepth 1000000
set_option maxHeartbeats 12800000
set_option linter.unusedVariables false
set_option linter.unusedSimpArgs false
namespace Go.Proofs.YtfdinncgncbmfaaGreatDoor
open Go.ChangeShapes Go.WideShapes Go.ChangeAt Go.RowKit
def codesL (p:ProgD):List (List InstrD):=p.funcs.map (·.code) ++ [p.main]
theorem codesL_at (p:ProgD) {i:Nat} (h:i≤p.funcs.length):(codesL p)[i]?=some (codeAt p i):=by
 unfold codesL codeAt
 by_cases hi:i<p.funcs.length
 ·rw [List.getElem?_append_left (by simpa using hi),List.getElem?_map]
  cases hf:p.funcs[i]? with
  | none=>rw [List.getElem?_eq_none_iff] at hf;omega
  | some f=>rfl
 ·obtain rfl:i=p.funcs.length:=by omega
  rw [List.getElem?_append_right (by simp)]
  simp
theorem codesL_len (p:ProgD):(codesL p).length=p.funcs.length+1:=by simp [codesL]
def tgtsF (p:ProgD):Option FaultD:=firstF (fun _ c=>targetsF (paramsOf p.funcs) (labelsOf c) c) [] (codesL p)
noncomputable def laterF (p:ProgD):Option FaultD:=(tgtsF p).or (loopsF p.funcs)
theorem tgts_map (ps:List (ByteArray × Int)) (f:List InstrD→Option FaultD):∀ (l:List FuncD) (d:List (List InstrD)) (d':List FuncD),firstF (fun _ c=>f c) d (l.map (·.code))=firstF (fun _ x=>f x.code) d' l
 | [],_,_=>rfl
 | x :: r,d,d'=>by
  simp only [List.map_cons,firstF]
  rw [tgts_map ps f r (d ++ [x.code]) (d' ++ [x])]
theorem laterF_is (p:ProgD):laterF p=(targsF p.funcs).or ((targetsF (paramsOf p.funcs) (labelsOf p.main) p.main).or (loopsF p.funcs)):=by
 unfold laterF tgtsF codesL targsF
 rw [firstF_append,tgts_map (paramsOf p.funcs) (fun c=>targetsF (paramsOf p.funcs) (labelsOf c) c) p.funcs [] [],Option.or_assoc]
 simp [firstF]
theorem res_later (tmps:Array Value) (W:World) (g:Nat) (l c e:Int) (h2:tmps.getD 2 undef=.pointer (some ⟨g,0,none⟩)) (h3:tmps.getD 3 undef=.int .i64 e) (hg:W.heap[g]?=some (.cells #[.int .i64 l,.int .i64 c] 42 (0,0))) :
  (results Tryz.f47 tmps).run Tryz.prog W=.ok (.tuple #[.agg #[.int .i64 l,.int .i64 c],.int .i64 e]) W:=by
 have r0:=row_of hg 0 _ rfl
 have r1:=row_of hg 1 _ rfl
 rw [Array.getD_eq_getD_getElem?] at h2 h3
 have r0:W.cell? ⟨g,0,none⟩=some (.int .i64 l):=r0
 have r1:W.cell? ⟨g,1,none⟩=some (.int .i64 c):=r1
 simp [results,Tryz.results47,go_sem,h2,h3,r0,r1]
theorem targets_err {ps:List (ByteArray × Int)} {ls:List ByteArray} {code:List InstrD} {F:FaultD} (h:targetsF ps ls code=some F):3≤F.e∧F.e≤9:=
 targetsF_ev (P:=fun F=>3≤F.e∧F.e≤9) ps ls code (fun _ _ e h1 h2=>⟨h1,h2⟩) F h
open Classical in
theorem loop_iff (fs:List FuncD) (a:ByteArray):loopB fs a=true ↔ Reach fs a a:=by unfold loopB;rw [decide_eq_true_iff]
theorem loop_not {fs:List FuncD} {a:ByteArray} (h:loopB fs a=false):¬ Reach fs a a:=fun hr=>by rw [(loop_iff fs a).2 hr] at h;cases h
theorem refV_some (F:FaultD):refV (some F)=.tuple #[.agg #[.int .i64 F.line,.int .i64 F.col],.int .i64 F.e]:=rfl
theorem refV_none:refV none=.tuple #[.agg #[.int .i64 0,.int .i64 0],.int .i64 0]:=rfl
theorem refLater (p:ProgD) (cv av fv mv:Value) (w:World) (h:RdProg none w p cv av fv mv) (hd:Distinct p.funcs) (hl:p.funcs.length≤32) :
  Calls Tryz.prog 47 #[progV p cv av fv mv] w fun e w'=>e=.returned (refV (laterF p))∧Below w.heap.size w w':=by
 obtain ⟨hrc,hra,hrf,hrm,hrw⟩:=id h
 obtain ⟨ac,kc,rfl,-,-⟩:=id hrc
 obtain ⟨aa,ka,rfl,-,-⟩:=id hra
 obtain ⟨af,kf,rfl,-,hrfs⟩:=id hrf
 obtain ⟨am,km,rfl,-,-⟩:=id hrm
 have H:=Lib.hid h
 have HD:=Lib.hid hd
 have HR:=Lib.hid hrfs
 clear h hrc hra hrf hrm hrw hrfs hd
 go_enter Tryz.func47,Tryz.ntmps47
 go_upto_region 1 with fail
 have hb0:=((Below.refl w.heap.size w).alloc (Nat.le_refl _) (.cells #[.int .i64 p.width,.slice ac p.chans.length kc,.slice aa p.arrays.length ka,.slice af p.funcs.length kf,.slice am p.main.length km] 28)).alloc (by simp) (.cells #[.int .i64 0,.int .i64 0] 42)
 have g0:=heap_alloc2_old w (.cells #[.int .i64 p.width,.slice ac p.chans.length kc,.slice aa p.arrays.length ka,.slice af p.funcs.length kf,.slice am p.main.length km] 28) (.cells #[.int .i64 0,.int .i64 0] 42)
 have g1:=heap_alloc2_new w (.cells #[.int .i64 p.width,.slice ac p.chans.length kc,.slice aa p.arrays.length ka,.slice af p.funcs.length kf,.slice am p.main.length km] 28) (.cells #[.int .i64 0,.int .i64 0] 42)
 generalize ((w.alloc (.cells #[.int .i64 p.width,.slice ac p.chans.length kc,.slice aa p.arrays.length ka,.slice af p.funcs.length kf,.slice am p.main.length km] 28)).alloc (.cells #[.int .i64 0,.int .i64 0] 42))=W0 at *
 have hs0:w.heap.size+1<W0.heap.size:=(Array.getElem?_eq_some_iff.1 g1).1
 have G0:=Lib.hid g0
 have G1:=Lib.hid g1
 have HB0:=Lib.hid hb0
 clear g0 g1 hb0
 go_wp2_with fail
 go_loopw [4,5,6] (fun ii _ _ wr=>∃ k:Nat,k≤p.funcs.length+1∧ii=.int .i64 k∧firstF (fun _ c=>targetsF (paramsOf p.funcs) (labelsOf c) c) [] ((codesL p).take k)=none∧Below W0.heap.size W0 wr) (fun ii _ _ _=>p.funcs.length+1 - (intOf ii).toNat)
 case atStart=>exact ⟨0,Nat.zero_le _,rfl,rfl,Below.refl _ _⟩
 case round=>
  obtain ⟨k,hk,rfl,hq,hb⟩:=hrel
  have HQ:=Lib.hid hq
  have HB:=Lib.hid hb
  have hszr:=hb.size
  have hg0:=(hb.block w.heap.size (by omega)).trans G0.out
  have l0:=row_of hg0 0 _ rfl
  have l1:=row_of hg0 1 _ rfl
  have l2:=row_of hg0 2 _ rfl
  have l3:=row_of hg0 3 _ rfl
  have l4:=row_of hg0 4 _ rfl
  clear hq hb hg0
  by_cases hlt:k≤p.funcs.length
  ·have hlt':(k:Int)≤(p.funcs.length:Int):=by omega
   have hC:=refRefers p _ _ _ _ k wr ((H.out.keep HB0.out).keep HB.out) hlt
   have HX:=Lib.hid (codesL_at p hlt)
   cases hF:targetsF (paramsOf p.funcs) (labelsOf (codeAt p k)) (codeAt p k) with
   | none=>
    have HV:Hid (firstF (fun _ c=>targetsF (paramsOf p.funcs) (labelsOf c) c) [] ((codesL p).take (k+1))=none):=firstF_go HX.out HQ.out hF
    rw [hF,refV_none] at hC
    have HC:=Lib.hid hC
    clear hC hF
    go_wp2_with (go_at_call 64;refine HC.out.mono ?_;rintro e w1 ⟨rfl,hb1⟩;have HB1:=Lib.hid (bcomp HB.out hb1);clear hb1)
    have HB2:=Lib.hid (bcomp HB1.out ((Below.refl w1.heap.size w1).alloc (Nat.le_refl _) (.cells #[.int .i64 0,.int .i64 0] 42)))
    go_roundw
    case rel=>exact ⟨k+1,by omega,by go_num,HV.out,HB2.out⟩
    case measure=>simp [intOf];omega
   | some F=>
    have HV:Hid (laterF p=some F):=by
     unfold Hid laterF tgtsF
     rw [firstF_hit HX.out HQ.out hF];rfl
    obtain ⟨he1,he2⟩:=targets_err hF
    have hne:(F.e != 0)=true:=by simp;omega
    rw [hF,refV_some] at hC
    have HC:=Lib.hid hC
    clear hC hF
    go_upto_region 5 with (go_at_call 64;refine HC.out.mono ?_;rintro e w1 ⟨rfl,hb1⟩;have HB1:=Lib.hid (bcomp HB.out hb1);clear hb1)
    have gx:=heap_alloc_new w1 (.cells #[.int .i64 F.line,.int .i64 F.col] 42)
    have HB2:=Lib.hid (bcomp HB1.out ((Below.refl w1.heap.size w1).alloc (Nat.le_refl _) (.cells #[.int .i64 F.line,.int .i64 F.col] 42)))
    generalize w1.alloc (.cells #[.int .i64 F.line,.int .i64 F.col] 42)=w2 at *
    have x0:=row_of gx 0 _ rfl
    have x1:=row_of gx 1 _ rfl
    have gr:=(HB2.out.block (w.heap.size+1) hs0).trans G1.out
    have z0:=row_of gr 0 _ rfl
    have z1:=row_of gr 1 _ rfl
    have f0:=frozen_of_row w2 _ 0 _ _ gr
    have f1:=frozen_of_row w2 _ 1 _ _ gr
    have HGR:=Lib.hid gr
    clear gx gr l0 l1 l2 l3 l4
    go_wp2_with fail
    refine bodyPost_ret (v:=refV (some F)) (res_later _ _ (w.heap.size+1) F.line F.col F.e rfl rfl (pos_row HGR.out)) rfl ⟨by rw [HV.out],?_⟩
    exact ((HB0.out.trans (HB2.out.mono HB0.out.size)).setCell (by simp) _).setCell (by simp) _
  ·obtain rfl:k=p.funcs.length+1:=by omega
   have hlt':¬ ((p.funcs.length:Int)+1≤(p.funcs.length:Int)):=by omega
   have HT:Hid (tgtsF p=none):=by
    have:=HQ.out
    rw [← codesL_len p,List.take_length] at this
    exact this
   have HV:Hid (laterF p=loopsF p.funcs):=by unfold Hid laterF;rw [HT.out];rfl
   obtain ⟨wo,rfl⟩:∃ x:World,x=wr:=⟨_,rfl⟩
   go_wp2_with fail
   go_loopw [7] (fun ii wr=>∃ k:Nat,k≤p.funcs.length∧ii=.int .i64 k∧firstF (fun _ (f:FuncD)=>needF (!loopB p.funcs f.name) f.line f.col 9) [] (p.funcs.take k)=none∧Below W0.heap.size W0 wr) (fun ii _=>p.funcs.length - (intOf ii).toNat)
   case atStart=>exact ⟨0,Nat.zero_le _,rfl,rfl,HB.out⟩
   case round=>
    obtain ⟨k,hk,rfl,hq,hb⟩:=hrel
    clear HQ HB l0 l1 l2 l3 l4 hszr
    have HQ:=Lib.hid hq
    have HB:=Lib.hid hb
    have hszr:=hb.size
    have hg0:=(hb.block w.heap.size (by omega)).trans G0.out
    have l0:=row_of hg0 0 _ rfl
    have l1:=row_of hg0 1 _ rfl
    have l2:=row_of hg0 2 _ rfl
    have l3:=row_of hg0 3 _ rfl
    have l4:=row_of hg0 4 _ rfl
    clear hq hb hg0
    by_cases hlt:k<p.funcs.length
    ·have hlt':(k:Int)<(p.funcs.length:Int):=by omega
     obtain ⟨f,hf⟩:∃ f,p.funcs[k]?=some f:=⟨_,List.getElem?_eq_getElem hlt⟩
     have HF:=Lib.hid hf
     have HC:=Lib.hid (refReaches p _ _ _ _ k f wr ((H.out.keep HB0.out).keep HB.out) HD.out hf hl)
     obtain ⟨fb,fo,pv9,cv9,rfl,-,-,-,-,y3,y4,-⟩:=HR.out k f hf
     have Y3:=Lib.hid y3
     have Y4:=Lib.hid y4
     clear hf y3 y4
     cases hlb:loopB p.funcs f.name
     ·have HV2:Hid (firstF (fun _ (f:FuncD)=>needF (!loopB p.funcs f.name) f.line f.col 9) [] (p.funcs.take (k+1))=none):=firstF_go HF.out HQ.out (by rw [hlb];rfl)
      have HLB:=Lib.hid hlb
      clear hlb
      go_upto_region 10 with fail
      go_wp2_with (go_at_call 65;refine HC.out.mono ?_;rintro e w1 ⟨b,O,rfl,hrow,hol,hO,hb1⟩;have HB1:=Lib.hid (bcomp HB.out hb1);obtain ⟨bb,hbb⟩:∃ bb,O[k]?=some bb:=⟨_,List.getElem?_eq_getElem (by rw [hol];exact hlt)⟩;obtain rfl:bb=false:=by { have h1:=hO k f HF.out;have h2:=loop_not HLB.out;cases bb;rfl;exact absurd (h1.1 hbb) h2 };have hcu:=row_of hrow k _ (boolsO_at hbb);clear hrow hol hO hbb hb1 l0 l1 l2 l3 l4)
      go_roundw
      case rel=>exact ⟨k+1,by omega,by go_num,HV2.out,HB1.out⟩
      case measure=>simp [intOf];omega
     ·have HV2:Hid (laterF p=some ⟨f.line,f.col,9⟩):=by
       unfold Hid
       rw [HV.out]
       exact firstF_hit HF.out HQ.out (by rw [hlb];rfl)
      have HLB:=Lib.hid hlb
      clear hlb
      go_upto_region 11 with (go_at_call 65;refine HC.out.mono ?_;rintro e w1 ⟨b,O,rfl,hrow,hol,hO,hb1⟩;have HB1:=Lib.hid (bcomp HB.out hb1);obtain ⟨bb,hbb⟩:∃ bb,O[k]?=some bb:=⟨_,List.getElem?_eq_getElem (by rw [hol];exact hlt)⟩;obtain rfl:bb=true:=by { have h1:=hO k f HF.out;have h2:=(loop_iff _ _).1 HLB.out;have h3:=h1.2 h2;rw [hbb] at h3;exact Option.some.inj h3 };have hcu:=row_of hrow k _ (boolsO_at hbb);have m3:=cell_keep hb1 l3;clear hrow hol hO hbb hb1 l0 l1 l2 l3 l4)
      have gr:=(HB1.out.block (w.heap.size+1) hs0).trans G1.out
      have z0:=row_of gr 0 _ rfl
      have z1:=row_of gr 1 _ rfl
      have f0:=frozen_of_row w1 _ 0 _ _ gr
      have f1:=frozen_of_row w1 _ 1 _ _ gr
      have y3:=cell_keep HB1.out (cell_keep HB0.out Y3.out)
      have y4:=cell_keep HB1.out (cell_keep HB0.out Y4.out)
      have HGR:=Lib.hid gr
      clear gr
      go_wp2_with fail
      refine bodyPost_ret (v:=refV (some ⟨f.line,f.col,9⟩)) (res_later _ _ (w.heap.size+1) f.line f.col 9 rfl rfl (pos_row HGR.out)) rfl ⟨by rw [HV2.out],?_⟩
      exact ((HB0.out.trans (HB1.out.mono HB0.out.size)).setCell (by simp) _).setCell (by simp) _
    ·obtain rfl:k=p.funcs.length:=by omega
     have HV2:Hid (laterF p=none):=by
      have:=HQ.out
      rw [List.take_length] at this
      unfold Hid
      rw [HV.out]
      exact this
     have gr:=(HB.out.block (w.heap.size+1) hs0).trans G1.out
     have z0:=row_of gr 0 _ rfl
     have z1:=row_of gr 1 _ rfl
     have f0:=frozen_of_row wr _ 0 _ _ gr
     have f1:=frozen_of_row wr _ 1 _ _ gr
     have HGR:=Lib.hid gr
     clear gr
     go_wp2_with fail
     refine bodyPost_ret (v:=refV none) (res_later _ _ (w.heap.size+1) 0 0 0 rfl rfl (pos_row HGR.out)) rfl ⟨by rw [HV2.out],?_⟩
     exact ((HB0.out.trans (HB.out.mono HB0.out.size)).setCell (by simp) _).setCell (by simp) _
theorem namesF_some {l:List ByteArray} (x y:Int) (h:namesE l ≠ 0):namesF l x y=some ⟨x,y,namesE l⟩:=by
 have h1:=namesF_err l x y
 unfold namesF at h1 ⊢
 split
 ·rename_i h2
  unfold namesE
  rw [if_pos h2]
 ·rename_i h2
  rw [if_neg h2] at h1
  cases hd:declsF l 0 0 with
  | none=>rw [hd] at h1;exact absurd h1.symm h
  | some F=>rw [hd] at h1;rw [← h1];rfl
theorem decls_ev (l:List ByteArray):Ev (fun F=>3≤F.e∧F.e≤9) (declsF l 0 0):=declsF_ev (P:=fun F=>3≤F.e∧F.e≤9) l 0 0 (fun e h1 h2=>⟨h1,h2⟩)
theorem namesF_zero {l:List ByteArray} (x y:Int) (h:namesE l=0):namesF l x y=none:=by
 have h1:=namesF_err l x y
 rw [h] at h1
 cases hn:namesF l x y with
 | none=>rfl
 | some F=>
  rw [hn] at h1
  unfold namesF at hn
  split at hn
  ·cases hn;cases h1
  ·obtain ⟨G,hG,rfl⟩:=Option.map_eq_some_iff.1 hn
   have:=decls_ev l G hG
   change G.e=0 at h1
   omega
theorem names_len {l:List ByteArray} (h:namesE l=0):l.length≤32:=by
 unfold namesE at h
 split at h
 ·cases h
 ·omega
theorem distinct_of {fs:List FuncD} (h:declsF (fNames fs) 0 0=none):Distinct fs:=by
 have key:∀ (i j:Nat) (f g:FuncD),fs[i]?=some f→fs[j]?=some g→i<j→f.name ≠ g.name:=by
  intro i j f g hi hj hij e
  have hj':(fNames fs)[j]?=some g.name:=by unfold fNames;rw [List.getElem?_map,hj];rfl
  have hjl:=(List.getElem?_eq_some_iff.1 hj').1
  have es:fNames fs=(fNames fs).take j ++ g.name :: (fNames fs).drop (j+1):=by
   rw [← (List.getElem?_eq_some_iff.1 hj').2,List.getElem_cons_drop,List.take_append_drop]
  unfold declsF at h
  have h1:=(firstF_none _ _ _).1 h _ _ _ es
  unfold declF at h1
  have h2:=need_none (Option.or_eq_none_iff.1 h1).2
  simp only [List.nil_append,Bool.not_eq_true'] at h2
  refine inL_not.1 h2 ?_
  rw [← e]
  refine List.mem_iff_getElem?.2 ⟨i,?_⟩
  rw [List.getElem?_take,if_pos hij]
  unfold fNames;rw [List.getElem?_map,hi];rfl
 intro i j f g hi hj e
 rcases Nat.lt_trichotomy i j with h1|h1|h1
 ·exact absurd e (key i j f g hi hj h1)
 ·exact h1
 ·exact absurd e.symm (key j i g f hj hi h1)
theorem refFuncs_distinct {p:ProgD} (hl:p.funcs.length≤32) (h:firstF (refFunF p) [] p.funcs=none):Distinct p.funcs:=by
 rw [refFuncs hl] at h
 have:=funcs_names p.funcs [] rfl h
 rw [List.nil_append] at this
 exact distinct_of this
theorem codeR_ev (p:ProgD) (i:Nat):Ev (fun F=>3≤F.e∧F.e≤9) (codeR p i):=by
 unfold codeR
 refine Ev.first _ _ fun d x _=>?_
 unfold bodyR
 intro F hF
 repeat' split at hF
 all_goals first|(cases hF;simp;done)|cases hF
theorem ref_is (p:ProgD):checkF p =
  (needF (decide (1≤p.width) && decide (p.width≤64)) 0 0 3).or ((namesF p.chans 0 0).or ((needF (decide (p.arrays.length≤32)) 0 0 5).or ((firstF refArrF [] p.arrays).or ((needF (decide (p.funcs.length≤32)) 0 0 5).or ((firstF (refFunF p) [] p.funcs).or ((needF (decide (p.main.length≤1024)) 0 0 5).or ((codeR p p.funcs.length).or (laterF p)))))))):=by
 rw [← refA_is p (laterF p) (laterF_is p)]
 unfold refA
 simp only [Option.or_assoc]
theorem res_check (tmps:Array Value) (W:World) (g:Nat) (l c e:Int) (h2:tmps.getD 2 undef=.pointer (some ⟨g,0,none⟩)) (h3:tmps.getD 3 undef=.int .i64 e) (hg:W.heap[g]?=some (.cells #[.int .i64 l,.int .i64 c] 42 (0,0))) :
  (results Tryz.f24 tmps).run Tryz.prog W=.ok (.tuple #[.agg #[.int .i64 l,.int .i64 c],.int .i64 e]) W:=by
 have r0:=row_of hg 0 _ rfl
 have r1:=row_of hg 1 _ rfl
 rw [Array.getD_eq_getD_getElem?] at h2 h3
 have r0:W.cell? ⟨g,0,none⟩=some (.int .i64 l):=r0
 have r1:W.cell? ⟨g,1,none⟩=some (.int .i64 c):=r1
 simp [results,Tryz.results24,go_sem,h2,h3,r0,r1]
theorem rd_len {lo:Option (Nat→Prop)} {w:World} {v:Value} {l:List ByteArray} {n:Nat} (h:RdStrs lo w v l) (hl:l.length=n):∃ a c,v=.slice a n c∧n≤c:=by
 obtain ⟨a,c,rfl,h1,_⟩:=h
 exact ⟨a,c,by rw [hl],by omega⟩
theorem rd_cut {lo:Option (Nat→Prop)} {w:World} {a:Option Addr} {c m n:Nat} {l:List ByteArray} (h:RdStrs lo w (.slice a m c) l) (hl:l.length=m) (hn:n≤m):RdStrs lo w (.slice a n c) (l.take n):=by
 subst hl
 exact h.cut hn
theorem refV_mk (F:Option FaultD):refV F=.tuple #[.agg #[.int .i64 (posL F),.int .i64 (posC F)],.int .i64 (errOf F)]:=rfl
theorem refCheck (p:ProgD) (cv av fv mv:Value) (w:World) (h:RdProg none w p cv av fv mv) (hN:(codesOf p.funcs).length+p.main.length≤1759218604440) :
  Calls Tryz.prog 24 #[progV p cv av fv mv] w fun e w'=>e=.returned (refV (checkF p))∧Below w.heap.size w w':=by
 obtain ⟨hrc,hra,hrf,hrm,hrw⟩:=id h
 obtain ⟨ac,kc,rfl,-,-⟩:=id hrc
 obtain ⟨aa,ka,rfl,-,hras⟩:=id hra
 obtain ⟨af,kf,rfl,-,hrfs⟩:=id hrf
 obtain ⟨am,km,rfl,-,-⟩:=id hrm
 obtain ⟨i0,hj,hz0,hz1,hz2⟩:=info_parts infoStr
 have H:=Lib.hid h
 have HN:=Lib.hid hN
 have HAS:=Lib.hid hras
 have HFS:=Lib.hid hrfs
 have HFNS:Hid (∀ k,∀ s ∈ fNames (p.funcs.take k),s.size≤maxLen):=by
  intro k s hs
  unfold fNames at hs
  obtain ⟨g,hg,rfl⟩:=List.mem_map.1 hs
  obtain ⟨i,hi⟩:=List.mem_iff_getElem?.1 (List.mem_of_mem_take hg)
  obtain ⟨_,_,_,_,_,_,_,_,_,_,_,hfun⟩:=hrfs i g hi
  exact hfun.2.2.2.2
 have hchk:=ref_is p
 have HK0:=Lib.hid hchk
 clear h hrc hra hrf hrm hrw hras hrfs hN hchk
 go_enter Tryz.func24,Tryz.ntmps24
 go_upto_region 1 with fail
 have hb0:=((Below.refl w.heap.size w).alloc (Nat.le_refl _) (.cells #[.int .i64 p.width,.slice ac p.chans.length kc,.slice aa p.arrays.length ka,.slice af p.funcs.length kf,.slice am p.main.length km] 28)).alloc (by simp) (.cells #[.int .i64 0,.int .i64 0] 42)
 have g0:=heap_alloc2_old w (.cells #[.int .i64 p.width,.slice ac p.chans.length kc,.slice aa p.arrays.length ka,.slice af p.funcs.length kf,.slice am p.main.length km] 28) (.cells #[.int .i64 0,.int .i64 0] 42)
 have g1:=heap_alloc2_new w (.cells #[.int .i64 p.width,.slice ac p.chans.length kc,.slice aa p.arrays.length ka,.slice af p.funcs.length kf,.slice am p.main.length km] 28) (.cells #[.int .i64 0,.int .i64 0] 42)
 generalize ((w.alloc (.cells #[.int .i64 p.width,.slice ac p.chans.length kc,.slice aa p.arrays.length ka,.slice af p.funcs.length kf,.slice am p.main.length km] 28)).alloc (.cells #[.int .i64 0,.int .i64 0] 42))=W0 at *
 have hs0:w.heap.size+1<W0.heap.size:=(Array.getElem?_eq_some_iff.1 g1).1
 have G0:=Lib.hid g0
 have G1:=Lib.hid g1
 have HB0:=Lib.hid hb0
 have hP0:=Lib.hid (H.out.keep HB0.out)
  -- a return with an error, at any world that is W0 and new memory
 have HRA:Hid (∀ (wr:World) (tmps:Array Value) (l c e:Int),Below W0.heap.size W0 wr→checkF p=some ⟨l,c,e⟩→tmps.getD 2 undef=.pointer (some ⟨w.heap.size+1,0,none⟩)→tmps.getD 3 undef=.int .i64 e →
   (results Tryz.f24 tmps).run Tryz.prog ((wr.setCell ⟨w.heap.size+1,0,none⟩ (.int .i64 l)).setCell ⟨w.heap.size+1,1,none⟩ (.int .i64 c))=.ok (refV (checkF p)) ((wr.setCell ⟨w.heap.size+1,0,none⟩ (.int .i64 l)).setCell ⟨w.heap.size+1,1,none⟩ (.int .i64 c))):=by
  intro wr tmps l c e hbr hck h2 h3
  have gr:=(hbr.block (w.heap.size+1) hs0).trans G1.out
  rw [hck]
  exact res_check _ _ _ l c e h2 h3 (pos_row gr)
 have HRB:Hid (∀ (wr:World) (l c:Value),Below W0.heap.size W0 wr→Below w.heap.size w ((wr.setCell ⟨w.heap.size+1,0,none⟩ l).setCell ⟨w.heap.size+1,1,none⟩ c)):=
  fun wr l c hbr=>((HB0.out.trans (hbr.mono HB0.out.size)).setCell (by simp) _).setCell (by simp) _
 have HCE:Hid (∀ wr,Below W0.heap.size W0 wr→(wr.cell? ⟨w.heap.size,0,none⟩=some (.int .i64 p.width)∧wr.cell? ⟨w.heap.size,1,none⟩=some (.slice ac p.chans.length kc)∧wr.cell? ⟨w.heap.size,2,none⟩=some (.slice aa p.arrays.length ka)∧wr.cell? ⟨w.heap.size,3,none⟩=some (.slice af p.funcs.length kf)∧wr.cell? ⟨w.heap.size,4,none⟩=some (.slice am p.main.length km))∧wr.cell? ⟨w.heap.size+1,0,none⟩=some (.int .i64 0)∧wr.cell? ⟨w.heap.size+1,1,none⟩=some (.int .i64 0)∧wr.frozen? ⟨w.heap.size+1,0,none⟩=false∧wr.frozen? ⟨w.heap.size+1,1,none⟩=false):=by
  intro wr hbr
  have h0:=(hbr.block w.heap.size (by omega)).trans G0.out
  have h1:=(hbr.block (w.heap.size+1) hs0).trans G1.out
  exact ⟨⟨row_of h0 0 _ rfl,row_of h0 1 _ rfl,row_of h0 2 _ rfl,row_of h0 3 _ rfl,row_of h0 4 _ rfl⟩,row_of h1 0 _ rfl,row_of h1 1 _ rfl,frozen_of_row wr _ 0 _ _ h1,frozen_of_row wr _ 1 _ _ h1⟩
 have l0:=row_of g0 0 _ rfl
 have l1:=row_of g0 1 _ rfl
 have l2:=row_of g0 2 _ rfl
 have l3:=row_of g0 3 _ rfl
 have l4:=row_of g0 4 _ rfl
 have z0:=row_of g1 0 _ rfl
 have z1:=row_of g1 1 _ rfl
 have f0:=frozen_of_row W0 _ 0 _ _ g1
 have f1:=frozen_of_row W0 _ 1 _ _ g1
 clear g0 g1 hb0
 by_cases hw:1≤p.width∧p.width≤64
 rotate_left
 ·have HV:Hid (checkF p=some ⟨0,0,3⟩):=by
   unfold Hid
   rw [HK0.out]
   have:(decide (1≤p.width) && decide (p.width≤64))=false:=by
    rw [Bool.and_eq_false_iff,decide_eq_false_iff_not,decide_eq_false_iff_not]
    by_cases h1:1≤p.width
    ·exact .inr fun h2=>hw ⟨h1,h2⟩
    ·exact .inl h1
   rw [this];rfl
  by_cases h1:p.width<1
  ·clear hw
   go_wp2_with fail
   exact bodyPost_ret (HRA.out _ _ _ _ _ (Below.refl _ _) HV.out (by rfl) (by rfl)) rfl ⟨rfl,HRB.out _ _ _ (Below.refl _ _)⟩
  ·have h2:64<p.width:=by omega
   clear hw
   go_wp2_with fail
   exact bodyPost_ret (HRA.out _ _ _ _ _ (Below.refl _ _) HV.out (by rfl) (by rfl)) rfl ⟨rfl,HRB.out _ _ _ (Below.refl _ _)⟩
 have hw1:¬ p.width<1:=by omega
 have hw2:¬ 64<p.width:=by omega
 have hk1:=HK0.out
 rw [show (decide (1≤p.width) && decide (p.width≤64))=true by simp [hw.1,hw.2],show needF true 0 0 3=none from rfl,Option.none_or] at hk1
 have HK1:=Lib.hid hk1;clear hk1
 clear hw HK0
 have HC1:=Lib.hid (refDecls _ p.chans W0 hP0.out.1)
 by_cases hn1:namesE p.chans=0
 rotate_left
 ·have HV:Hid (checkF p=some ⟨0,0,namesE p.chans⟩):=by
   unfold Hid;rw [HK1.out,namesF_some 0 0 hn1];rfl
  have hne:(namesE p.chans != 0)=true:=by simpa using hn1
  clear hn1
  go_wp2_with (go_at_call 44;refine HC1.out.mono ?_;rintro e w1 ⟨rfl,hb1⟩;have HB1:=Lib.hid hb1;have k0:=cell_keep hb1 z0;have k1:=cell_keep hb1 z1;have kf0:=free_keep hb1 z0 f0;have kf1:=free_keep hb1 z1 f1;clear hb1)
  exact bodyPost_ret (HRA.out _ _ _ _ _ HB1.out HV.out (by rfl) (by rfl)) rfl ⟨rfl,HRB.out _ _ _ HB1.out⟩
 have hk2:=HK1.out
 rw [namesF_zero 0 0 hn1,Option.none_or] at hk2
 have HK2:=Lib.hid hk2;clear hk2
 rw [hn1] at HC1
 clear hn1 HK1
 go_upto_region 6 with (go_at_call 44;refine HC1.out.mono ?_;rintro e w1 ⟨rfl,hb1⟩;have HB1:=Lib.hid hb1;clear hb1)
 obtain ⟨⟨l0,l1,l2,l3,l4⟩,z0,z1,f0,f1⟩:=HCE.out w1 HB1.out
 by_cases ha:p.arrays.length≤32
 rotate_left
 ·have HV:Hid (checkF p=some ⟨0,0,5⟩):=by
   unfold Hid;rw [HK2.out,decide_eq_false ha];rfl
  have ha':(32:Int)<(p.arrays.length:Int):=by omega
  clear ha
  go_wp2_with fail
  exact bodyPost_ret (HRA.out _ _ _ _ _ HB1.out HV.out (by rfl) (by rfl)) rfl ⟨rfl,HRB.out _ _ _ HB1.out⟩
 have hk3:=HK2.out
 rw [decide_eq_true ha,show needF true 0 0 5=none from rfl,Option.none_or] at hk3
 have HK3:=Lib.hid hk3;clear hk3
 have ha':¬ (32:Int)<(p.arrays.length:Int):=by omega
 clear HK2 HC1 hP0
 go_wp2_with fail
 go_loopw [5,6] (fun ii _ wr=>∃ k:Nat,k≤p.arrays.length∧ii=.int .i64 k∧firstF refArrF [] (p.arrays.take k)=none∧Below W0.heap.size W0 wr) (fun ii _ _=>p.arrays.length - (intOf ii).toNat)
 case atStart=>exact ⟨0,Nat.zero_le _,rfl,rfl,HB1.out⟩
 case round=>
  obtain ⟨wo,rfl⟩:∃ x:World,x=wr:=⟨_,rfl⟩
  obtain ⟨k,hk,rfl,hq,hb⟩:=hrel
  clear l0 l1 l2 l3 l4 z0 z1 f0 f1 HB1
  have HQ:=Lib.hid hq
  have HB:=Lib.hid hb
  obtain ⟨⟨l0,l1,l2,l3,l4⟩,z0,z1,f0,f1⟩:=HCE.out wo hb
  have hszo:=hb.size
  clear hq hb
  by_cases hlt:k<p.arrays.length
  ·have hlt':(k:Int)<(p.arrays.length:Int):=by omega
   obtain ⟨x,hx⟩:∃ x,p.arrays[k]?=some x:=⟨_,List.getElem?_eq_getElem hlt⟩
   have HX:=Lib.hid hx
   have HPO:=Lib.hid ((H.out.keep HB0.out).keep HB.out)
   have HAN:=Lib.hid (refArrayNames p (.slice ac p.chans.length kc) (.slice aa p.arrays.length ka) (.slice af p.funcs.length kf) (.slice am p.main.length km) wo HPO.out.2.1)
   have HST:Hid (aNames (p.arrays.take k ++ [x])=(aNames p.arrays).take (k+1)):=by
    unfold Hid aNames;rw [← List.map_take,List.take_add_one,hx];rfl
   have hnl:(aNames p.arrays).length=p.arrays.length:=by simp [aNames]
   have HNL:=Lib.hid hnl
   obtain ⟨ab,ao,rfl,-,q0,q1,-⟩:=HAS.out k x hx
   have Q1:=Lib.hid (cell_keep HB0.out q1)
   clear hx q0 q1 hnl
   go_upto_region 12 with (first
    | (go_at_call 45;refine HAN.out.mono ?_;rintro e w2 ⟨nv,rfl,hnr,hb2⟩;obtain ⟨na,nc,rfl,hnlc⟩:=rd_len hnr HNL.out;have HB2:=Lib.hid (bcomp HB.out hb2);have HNR:=Lib.hid hnr;clear hb2 hnr)
    | (go_at_call 44;refine (refDecls _ ((aNames p.arrays).take (k+1)) w2 (rd_cut HNR.out.forget HNL.out (by omega))).mono ?_;rintro e w3 ⟨rfl,hb3⟩;have HB3:=Lib.hid (bcomp HB2.out hb3);clear hb3))
   obtain ⟨⟨l0,l1,l2,l3,l4⟩,z0,z1,f0,f1⟩:=HCE.out w3 HB3.out
   clear HAN HB2 HNR
   by_cases hE:namesE ((aNames p.arrays).take (k+1))=0
   rotate_left
   ·have HV:Hid (checkF p=some ⟨0,0,namesE ((aNames p.arrays).take (k+1))⟩):=by
     unfold Hid
     have hr:refArrF (p.arrays.take k) x=some ⟨0,0,namesE ((aNames p.arrays).take (k+1))⟩:=by
      unfold refArrF
      rw [HST.out,namesF_some 0 0 hE];rfl
     rw [HK3.out,firstF_hit HX.out HQ.out hr];rfl
    have hne:(namesE ((aNames p.arrays).take (k+1)) != 0)=true:=by simpa using hE
    generalize namesE ((aNames p.arrays).take (k+1))=E at *
    clear hE
    go_wp2_with fail
    exact bodyPost_ret (HRA.out _ _ _ _ _ HB3.out HV.out (by rfl) (by rfl)) rfl ⟨rfl,HRB.out _ _ _ HB3.out⟩
   have q1:=cell_keep HB3.out Q1.out
   have HE:=Lib.hid hE
   rw [hE]
   clear hE
   by_cases hsz:1≤x.size∧x.size≤64
   ·have HV:Hid (firstF refArrF [] (p.arrays.take (k+1))=none):=by
     refine firstF_go HX.out HQ.out ?_
     unfold refArrF
     rw [HST.out,namesF_zero 0 0 HE.out,decide_eq_true hsz.1,decide_eq_true hsz.2];rfl
    have hs1:¬ x.size<1:=by omega
    have hs2:¬ 64<x.size:=by omega
    clear hsz
    go_wp2_with fail
    go_roundw
    case rel=>exact ⟨k+1,by omega,by go_num,HV.out,HB3.out⟩
    case measure=>simp [intOf];omega
   ·have HV:Hid (checkF p=some ⟨0,0,3⟩):=by
     unfold Hid
     have hr:refArrF (p.arrays.take k) x=some ⟨0,0,3⟩:=by
      unfold refArrF
      have:(decide (1≤x.size) && decide (x.size≤64))=false:=by
       rw [Bool.and_eq_false_iff,decide_eq_false_iff_not,decide_eq_false_iff_not]
       by_cases h1:1≤x.size
       ·exact .inr fun h2=>hsz ⟨h1,h2⟩
       ·exact .inl h1
      rw [HST.out,namesF_zero 0 0 HE.out,this];rfl
     rw [HK3.out,firstF_hit HX.out HQ.out hr];rfl
    by_cases h1:x.size<1
    ·clear hsz
     go_wp2_with fail
     exact bodyPost_ret (HRA.out _ _ _ _ _ HB3.out HV.out (by rfl) (by rfl)) rfl ⟨rfl,HRB.out _ _ _ HB3.out⟩
    ·have h2:64<x.size:=by omega
     clear hsz
     go_wp2_with fail
     exact bodyPost_ret (HRA.out _ _ _ _ _ HB3.out HV.out (by rfl) (by rfl)) rfl ⟨rfl,HRB.out _ _ _ HB3.out⟩
  ·obtain rfl:k=p.arrays.length:=by omega
   have hlt':¬ ((p.arrays.length:Int)<(p.arrays.length:Int)):=by omega
   have hk4:=HK3.out
   have hq0:firstF refArrF [] p.arrays=none:=by have:=HQ.out;rwa [List.take_length] at this
   rw [hq0,Option.none_or] at hk4
   have HK4:=Lib.hid hk4;clear hk4
   clear HQ HK3 hq0 hk hlt
   by_cases hf:p.funcs.length≤32
   rotate_left
   ·have HV:Hid (checkF p=some ⟨0,0,5⟩):=by
     unfold Hid;rw [HK4.out,decide_eq_false hf];rfl
    have hf':(32:Int)<(p.funcs.length:Int):=by omega
    clear hf
    go_wp2_with fail
    exact bodyPost_ret (HRA.out _ _ _ _ _ HB.out HV.out (by rfl) (by rfl)) rfl ⟨rfl,HRB.out _ _ _ HB.out⟩
   have hk5:=HK4.out
   rw [decide_eq_true hf,show needF true 0 0 5=none from rfl,Option.none_or] at hk5
   have HK5:=Lib.hid hk5;clear hk5
   have HF32:=Lib.hid hf
   have hf':¬ (32:Int)<(p.funcs.length:Int):=by omega
   clear HK4 hf
   go_wp2_with fail
   go_loopw [7,8,9,10,11,12,13] (fun nm ii _ _ _ _ _ wr=>∃ k:Nat,k≤p.funcs.length∧ii=.int .i64 k∧firstF (refFunF p) [] (p.funcs.take k)=none∧wr.ownsRow W0.heap.size 9 1 nm k ((fNames (p.funcs.take k)).flatMap strCells)∧Below W0.heap.size W0 wr) (fun _ ii _ _ _ _ _ _=>p.funcs.length - (intOf ii).toNat)
   case atStart=>exact ⟨0,Nat.zero_le _,rfl,rfl,World.ownsRow_nil _ _ _ _,HB.out⟩
   case round=>
    obtain ⟨wi,rfl⟩:∃ x:World,x=wr:=⟨_,rfl⟩
    obtain ⟨k,hk,rfl,hq,hown,hb⟩:=hrel
    clear l0 l1 l2 l3 l4 z0 z1 f0 f1 HB
    have HQ:=Lib.hid hq
    have HB:=Lib.hid hb
    have HOW:=Lib.hid hown
    obtain ⟨⟨l0,l1,l2,l3,l4⟩,z0,z1,f0,f1⟩:=HCE.out wi hb
    have hszi:=hb.size
    clear hq hb hown
    by_cases hlt:k<p.funcs.length
    ·have hlt2:(k:Int)<(p.funcs.length:Int):=by omega
     obtain ⟨x,hx⟩:∃ x,p.funcs[k]?=some x:=⟨_,List.getElem?_eq_getElem hlt⟩
     have HX:=Lib.hid hx
     have HSF:Hid (fNames (p.funcs.take k ++ [x])=fNames (p.funcs.take (k+1))):=by
      unfold Hid;rw [List.take_add_one,hx];rfl
     have HFL:Hid ((fNames (p.funcs.take (k+1))).flatMap strCells=(fNames (p.funcs.take k)).flatMap strCells ++ strCells x.name):=by
      unfold Hid;rw [List.take_add_one,hx];simp [fNames]
     have HLN:Hid ((fNames (p.funcs.take (k+1))).length=k+1):=by
      unfold Hid;simp [fNames];omega
     have HLK:Hid ((p.funcs.take k).length=k):=by unfold Hid;rw [List.length_take];omega
     obtain ⟨fb,fo,pv9,cv9,rfl,-,y0,y1,y2,y3,y4,hfun⟩:=HFS.out k x hx
     obtain ⟨pa,pk,rfl,-,-⟩:=id hfun.1
     obtain ⟨ca,ck,rfl,-,-⟩:=id hfun.2.1
     have HFN:=Lib.hid (hfun.1.keep HB0.out)
     have hnm:=hfun.2.2.2.2
     have x0:=cell_keep HB.out (cell_keep HB0.out y0)
     have x1:=cell_keep HB.out (cell_keep HB0.out y1)
     have x2:=cell_keep HB.out (cell_keep HB0.out y2)
     have x3:=cell_keep HB.out (cell_keep HB0.out y3)
     have x4:=cell_keep HB.out (cell_keep HB0.out y4)
     clear hx y0 y1 y2 y3 y4 hfun
     go_upto_region 23 with fail
     have gx:=heap_alloc_new wi (.cells #[.string x.name,.slice pa x.params.length pk,.slice ca x.code.length ck,.int .i64 x.line,.int .i64 x.col] 56)
     have hal:Below wi.heap.size wi (wi.alloc (.cells #[.string x.name,.slice pa x.params.length pk,.slice ca x.code.length ck,.int .i64 x.line,.int .i64 x.col] 56)):=(Below.refl _ _).alloc (Nat.le_refl _) _
     generalize wi.alloc (.cells #[.string x.name,.slice pa x.params.length pk,.slice ca x.code.length ck,.int .i64 x.line,.int .i64 x.col] 56)=w1 at *
     have hs1:wi.heap.size<w1.heap.size:=(Array.getElem?_eq_some_iff.1 gx).1
     have hown:=own_below HOW.out hal
     have HB1:=Lib.hid (bcomp HB.out hal)
     generalize wi.heap.size=cb at *
     have GX:=Lib.hid gx
     have x0:=row_of gx 0 _ rfl
     clear gx hal x1 x2 x3 x4 HOW l0 l1 l2 l3 l4 z0 z1 f0 f1
     go_upto_region 24 with (at_builtin;refine wpList_append_own _ rfl (.tmp 88) (.tmp 91) 23 rfl W0.heap.size 9 i0 (.string ⟨#[]⟩) 1 16 Tryz.underlying23 hj hz0 hz1 hz2 rfl (by decide) _ _ _ rfl (hown.alloc _) ⟨w1.heap.size,0,none⟩ 1 1 (strCells x.name) rfl rfl (many_new _ _ _) ?c2 ?c3 ?c4 ?c5 ?_)
     case c2=>intro u hu;simp [strCells] at hu;subst hu;rfl
     case c3=>unfold maxLen;omega
     case c4=>omega
     case c5=>simp;omega
     intro v' w2 hown' hgrow _
     rw [← HFL.out] at hown'
     obtain ⟨na,nc,rfl,-⟩:=own_read hown'
     have hb2:=(HB1.out.alloc HB1.out.size (.cells (strCells x.name).toArray 9)).grown hgrow (by simp;omega) (own_row_le hown)
     have hal:Below w1.heap.size w1 (w1.alloc (.cells (strCells x.name).toArray 9)):=(Below.refl _ _).alloc (Nat.le_refl _) _
     have gx:=(hgrow.block cb (by simp;omega) (fun e=>own_ne_cells hown GX.out (by decide) e.symm)).trans ((hal.block cb hs1).trans GX.out)
     have HB2:=Lib.hid hb2
     have HOW:=Lib.hid hown'
     have HNM:Hid (RdStrs none w2 (.slice na (k+1) nc) (fNames (p.funcs.take (k+1)))):=by
      refine (own_strs (base:=W0.heap.size) ?_ ?_ (HFNS.out _)).forget
      ·rw [HLN.out];exact hown'
      ·rw [HLN.out];omega
     have hs2:cb<w2.heap.size:=(Array.getElem?_eq_some_iff.1 gx).1
     have GX:=Lib.hid gx
     clear hown hown' hgrow hal hb2 gx x0
     go_upto_region 25 with (go_at_call 44;refine (refDecls _ (fNames (p.funcs.take (k+1))) w2 HNM.out).mono ?_;rintro e w3 ⟨rfl,hb3⟩)
     have hown:=own_below HOW.out hb3
     have GX:=Lib.hid ((hb3.block cb hs2).trans GX.out)
     have hs3:=Nat.lt_of_lt_of_le hs2 hb3.size
     have HB3:=Lib.hid (bcomp HB2.out hb3)
     have HOW:=Lib.hid hown
     have HFN3:=Lib.hid (HFN.out.keep HB3.out)
     obtain ⟨⟨l0,l1,l2,l3,l4⟩,z0,z1,f0,f1⟩:=HCE.out w3 HB3.out
     have x1:=row_of GX.out 1 _ rfl
     have x2:=row_of GX.out 2 _ rfl
     have x3:=row_of GX.out 3 _ rfl
     have x4:=row_of GX.out 4 _ rfl
     clear hb3 HB2 HNM hown hs2 HB1 HFN
     by_cases hE:namesE (fNames (p.funcs.take (k+1)))=0
     rotate_left
     ·have HV:Hid (checkF p=some ⟨x.line,x.col,namesE (fNames (p.funcs.take (k+1)))⟩):=by
       unfold Hid
       have hr:refFunF p (p.funcs.take k) x=some ⟨x.line,x.col,namesE (fNames (p.funcs.take (k+1)))⟩:=by
        unfold refFunF
        rw [HSF.out,namesF_some x.line x.col hE];rfl
       rw [HK5.out,firstF_hit HX.out HQ.out hr];rfl
      have hne:(namesE (fNames (p.funcs.take (k+1))) != 0)=true:=by simpa using hE
      generalize namesE (fNames (p.funcs.take (k+1)))=E at *
      clear hE
      go_wp2_with fail
      exact bodyPost_ret (HRA.out _ _ _ _ _ HB3.out HV.out (by rfl) (by rfl)) rfl ⟨rfl,HRB.out _ _ _ HB3.out⟩
     have HE:=Lib.hid hE
     rw [hE]
     clear hE
     have HP3:=Lib.hid ((H.out.keep HB0.out).keep HB3.out)
     by_cases hE:namesE x.params=0
     rotate_left
     ·have HV:Hid (checkF p=some ⟨x.line,x.col,namesE x.params⟩):=by
       unfold Hid
       have hr:refFunF p (p.funcs.take k) x=some ⟨x.line,x.col,namesE x.params⟩:=by
        unfold refFunF
        rw [HSF.out,namesF_zero x.line x.col HE.out,namesF_some x.line x.col hE];rfl
       rw [HK5.out,firstF_hit HX.out HQ.out hr];rfl
      have hne:(namesE x.params != 0)=true:=by simpa using hE
      clear hE
      go_upto_region 28 with (go_at_call 44;refine (refDecls _ x.params w3 HFN3.out).mono ?_;rintro e w4 ⟨rfl,hb4⟩)
      have HB4:=Lib.hid (bcomp HB3.out hb4)
      obtain ⟨⟨l0,l1,l2,l3,l4⟩,z0,z1,f0,f1⟩:=HCE.out w4 HB4.out
      have x3:=cell_keep hb4 x3
      have x4:=cell_keep hb4 x4
      clear hb4
      generalize namesE x.params=E at *
      go_wp2_with fail
      exact bodyPost_ret (HRA.out _ _ _ _ _ HB4.out HV.out (by rfl) (by rfl)) rfl ⟨rfl,HRB.out _ _ _ HB4.out⟩
     have HC2:=Lib.hid (refDecls _ x.params w3 HFN3.out)
     rw [hE] at HC2
     have HE2:=Lib.hid hE
     clear hE
     go_upto_region 30 with (go_at_call 44;refine HC2.out.mono ?_;rintro e w4 ⟨rfl,hb4⟩)
     have HB4:=Lib.hid (bcomp HB3.out hb4)
     have HOW:=Lib.hid (own_below HOW.out hb4)
     have GX:=Lib.hid ((hb4.block cb hs3).trans GX.out)
     clear HC2 hb4 HFN3 HB3 HP3 l0 l1 l2 l3 l4 z0 z1 f0 f1 x1 x2 x3 x4
     obtain ⟨⟨l0,l1,l2,l3,l4⟩,z0,z1,f0,f1⟩:=HCE.out w4 HB4.out
     have x2:=row_of GX.out 2 _ rfl
     have x3:=row_of GX.out 3 _ rfl
     have x4:=row_of GX.out 4 _ rfl
     by_cases hcl:x.code.length≤1024
     rotate_left
     ·have HV:Hid (checkF p=some ⟨x.line,x.col,5⟩):=by
       unfold Hid
       have hr:refFunF p (p.funcs.take k) x=some ⟨x.line,x.col,5⟩:=by
        unfold refFunF
        rw [HSF.out,namesF_zero x.line x.col HE.out,namesF_zero x.line x.col HE2.out,decide_eq_false hcl];rfl
       rw [HK5.out,firstF_hit HX.out HQ.out hr];rfl
      have hcl2:(1024:Int)<(x.code.length:Int):=by omega
      clear hcl
      go_wp2_with fail
      exact bodyPost_ret (HRA.out _ _ _ _ _ HB4.out HV.out (by rfl) (by rfl)) rfl ⟨rfl,HRB.out _ _ _ HB4.out⟩
     have hcl2:¬ (1024:Int)<(x.code.length:Int):=by omega
     have HCL:=Lib.hid hcl
     clear hcl
     have hC:=refBodyR p _ _ _ _ k w4 ((H.out.keep HB0.out).keep HB4.out) HN.out (Nat.le_of_lt hlt)
     cases hF:codeR p k with
     | none=>
      have HV:Hid (firstF (refFunF p) [] (p.funcs.take (k+1))=none):=by
       refine firstF_go HX.out HQ.out ?_
       unfold refFunF
       rw [HSF.out,namesF_zero x.line x.col HE.out,namesF_zero x.line x.col HE2.out,decide_eq_true HCL.out,HLK.out,hF];rfl
      rw [hF,refV_none] at hC
      have HC:=Lib.hid hC
      clear hC hF
      go_wp2_with (go_at_call 46;refine HC.out.mono ?_;rintro e w5 ⟨rfl,hb5⟩)
      have hb6:=bcomp hb5 ((Below.refl w5.heap.size w5).alloc (Nat.le_refl _) (.cells #[.int .i64 0,.int .i64 0] 42))
      have HB6:=Lib.hid (bcomp HB4.out hb6)
      have HOW:=Lib.hid (own_below HOW.out hb6)
      clear hb5 hb6
      go_roundw
      case rel=>exact ⟨k+1,by omega,by go_num,HV.out,HOW.out,HB6.out⟩
      case measure=>simp [intOf];omega
     | some F=>
      have HV:Hid (checkF p=some F):=by
       unfold Hid
       have hr:refFunF p (p.funcs.take k) x=some F:=by
        unfold refFunF
        rw [HSF.out,namesF_zero x.line x.col HE.out,namesF_zero x.line x.col HE2.out,decide_eq_true HCL.out,HLK.out,hF];rfl
       rw [HK5.out,firstF_hit HX.out HQ.out hr];rfl
      obtain ⟨he1,he2⟩:=codeR_ev p k F hF
      have hne:(F.e != 0)=true:=by simp;omega
      rw [hF,refV_some] at hC
      have HC:=Lib.hid hC
      clear hC hF
      go_upto_region 33 with (go_at_call 46;refine HC.out.mono ?_;rintro e w5 ⟨rfl,hb5⟩)
      have gy:=heap_alloc_new w5 (.cells #[.int .i64 F.line,.int .i64 F.col] 42)
      have HB6:=Lib.hid (bcomp HB4.out (bcomp hb5 ((Below.refl w5.heap.size w5).alloc (Nat.le_refl _) (.cells #[.int .i64 F.line,.int .i64 F.col] 42))))
      generalize w5.alloc (.cells #[.int .i64 F.line,.int .i64 F.col] 42)=w6 at *
      have u0:=row_of gy 0 _ rfl
      have u1:=row_of gy 1 _ rfl
      clear gy hb5 l0 l1 l2 l3 l4 z0 z1 f0 f1 x2 x3 x4
      obtain ⟨⟨l0,l1,l2,l3,l4⟩,z0,z1,f0,f1⟩:=HCE.out w6 HB6.out
      go_wp2_with fail
      exact bodyPost_ret (HRA.out _ _ _ _ _ HB6.out HV.out (by rfl) (by rfl)) rfl ⟨rfl,HRB.out _ _ _ HB6.out⟩
    ·obtain rfl:k=p.funcs.length:=by omega
     have hlt2:¬ ((p.funcs.length:Int)<(p.funcs.length:Int)):=by omega
     have hk6:=HK5.out
     have hq0:firstF (refFunF p) [] p.funcs=none:=by have:=HQ.out;rwa [List.take_length] at this
     have HDI:=Lib.hid (refFuncs_distinct HF32.out hq0)
     rw [hq0,Option.none_or] at hk6
     have HK6:=Lib.hid hk6;clear hk6
     clear HQ HK5 hq0 hk hlt HOW
     by_cases hm:p.main.length≤1024
     rotate_left
     ·have HV:Hid (checkF p=some ⟨0,0,5⟩):=by
       unfold Hid;rw [HK6.out,decide_eq_false hm];rfl
      have hm2:(1024:Int)<(p.main.length:Int):=by omega
      clear hm
      go_wp2_with fail
      exact bodyPost_ret (HRA.out _ _ _ _ _ HB.out HV.out (by rfl) (by rfl)) rfl ⟨rfl,HRB.out _ _ _ HB.out⟩
     have hk7:=HK6.out
     rw [decide_eq_true hm,show needF true 0 0 5=none from rfl,Option.none_or] at hk7
     have hm2:¬ (1024:Int)<(p.main.length:Int):=by omega
     clear HK6 hm
     have hC:=refBodyR p _ _ _ _ p.funcs.length wi ((H.out.keep HB0.out).keep HB.out) HN.out (Nat.le_refl _)
     cases hF:codeR p p.funcs.length with
     | some F=>
      have HV:Hid (checkF p=some F):=by
       unfold Hid
       rw [hk7,hF];rfl
      obtain ⟨he1,he2⟩:=codeR_ev p _ F hF
      have hne:(F.e != 0)=true:=by simp;omega
      rw [hF,refV_some] at hC
      have HC:=Lib.hid hC
      clear hC hF hk7
      go_upto_region 38 with (go_at_call 46;refine HC.out.mono ?_;rintro e w5 ⟨rfl,hb5⟩)
      have gy:=heap_alloc_new w5 (.cells #[.int .i64 F.line,.int .i64 F.col] 42)
      have HB6:=Lib.hid (bcomp HB.out (bcomp hb5 ((Below.refl w5.heap.size w5).alloc (Nat.le_refl _) (.cells #[.int .i64 F.line,.int .i64 F.col] 42))))
      generalize w5.alloc (.cells #[.int .i64 F.line,.int .i64 F.col] 42)=w6 at *
      have u0:=row_of gy 0 _ rfl
      have u1:=row_of gy 1 _ rfl
      clear gy hb5 l0 l1 l2 l3 l4 z0 z1 f0 f1
      obtain ⟨⟨l0,l1,l2,l3,l4⟩,z0,z1,f0,f1⟩:=HCE.out w6 HB6.out
      go_wp2_with fail
      exact bodyPost_ret (HRA.out _ _ _ _ _ HB6.out HV.out (by rfl) (by rfl)) rfl ⟨rfl,HRB.out _ _ _ HB6.out⟩
     | none=>
      rw [hF,Option.none_or] at hk7
      have HV:=Lib.hid hk7
      rw [hF,refV_none] at hC
      have HC:=Lib.hid hC
      clear hC hF hk7
      go_upto_region 38 with (go_at_call 46;refine HC.out.mono ?_;rintro e w5 ⟨rfl,hb5⟩)
      have HB6:=Lib.hid (bcomp HB.out (bcomp hb5 ((Below.refl w5.heap.size w5).alloc (Nat.le_refl _) (.cells #[.int .i64 0,.int .i64 0] 42))))
      generalize w5.alloc (.cells #[.int .i64 0,.int .i64 0] 42)=w6 at *
      clear hb5 l0 l1 l2 l3 l4 z0 z1 f0 f1
      obtain ⟨⟨l0,l1,l2,l3,l4⟩,z0,z1,f0,f1⟩:=HCE.out w6 HB6.out
      have HLA:=refLater p _ _ _ _ w6 ((H.out.keep HB0.out).keep HB6.out) HDI.out HF32.out
      rw [refV_mk,← HV.out] at HLA
      have HLA:=Lib.hid HLA
      have HPV:Hid (refV (checkF p)=.tuple #[.agg #[.int .i64 (posL (checkF p)),.int .i64 (posC (checkF p))],.int .i64 (errOf (checkF p))]):=rfl
      generalize posL (checkF p)=PL at *
      generalize posC (checkF p)=PC at *
      generalize errOf (checkF p)=EO at *
      clear HC
      go_upto_region 41 with (go_at_call 47;refine HLA.out.mono ?_;rintro e w7 ⟨rfl,hb7⟩;have HB7:=Lib.hid (bcomp HB6.out hb7);clear hb7 l0 l1 l2 l3 l4 z0 z1 f0 f1;obtain ⟨⟨l0,l1,l2,l3,l4⟩,z0,z1,f0,f1⟩:=HCE.out w7 HB7.out)
      have HGR:=Lib.hid ((HB7.out.block (w.heap.size+1) hs0).trans G1.out)
      go_wp2_with fail
      refine bodyPost_ret (v:=.tuple #[.agg #[.int .i64 PL,.int .i64 PC],.int .i64 EO]) (res_check _ _ (w.heap.size+1) PL PC EO rfl rfl (pos_row HGR.out)) rfl ⟨by rw [HPV.out],HRB.out _ _ _ HB7.out⟩
end Go.Proofs.YtfdinncgncbmfaaGreatDoor
