/- The reference of layer 41: the instructions with their labels. Conditions: the rows of instructions and of targets hold what is said. The program of a string under way, in the reference: what its blocks hold, and what stays so. Plain lemmas. Conditions: each theorem's own. The reference of layer 41: its Prog. Condition: the string is not too long. -/
import Derived.Test.YtfdinncgncbmfaaGreatDoorSrC
set_option linter.all false
set_option maxRecDepth 1000000
set_option maxHeartbeats 12800000
set_option linter.unusedVariables false
set_option linter.unusedSimpArgs false
namespace Go.Proofs.YtfdinncgncbmfaaGreatDoor
open Go.Maps (Keyed int_keyed)
open Go.WideShapes Go.ChangeMaps Go.MapKept Go.WideMaps Go.ChangeAt Go.RowKit Go.ChangeShapes
def anyT (c:List (InstrD × Int)) (i k:Nat):Bool:=(c.take k).any fun x=>tgtS c.length x.2 == some i
theorem anyT_all (c:List (InstrD × Int)) (i:Nat):anyT c i c.length=wantS c i:=by unfold anyT wantS;rw [List.take_length]
theorem anyT_step {c:List (InstrD × Int)} {i k:Nat} {x:InstrD × Int} (h:c[k]?=some x):anyT c i (k+1)=(anyT c i k || (tgtS c.length x.2 == some i)):=by
 unfold anyT
 rw [List.take_add_one,h,List.any_append]
 simp
theorem anyT_want {c:List (InstrD × Int)} {i k:Nat} {x:InstrD × Int} (h:c[k]?=some x) (ht:tgtS c.length x.2=some i):wantS c i=true:=by
 unfold wantS
 rw [List.any_eq_true]
 exact ⟨x,List.mem_of_getElem? h,by rw [ht];simp⟩
theorem labelledR_any (tv cv:Value) (base:Nat) (c:List (InstrD × Int)) (w:World) (hC:CodeAt w base cv tv c) (hcl:c.length≤40) (hbw:base≤w.heap.size) (hg:∀ x ∈ c,GoodI x) :
  Calls Tryz.prog 16 #[cv,tv] w fun e w'=>∃ v,e=.returned v∧RdInstrs (some (upFrom base)) w' v (labelledS c)∧Below w.heap.size w w':=by
 obtain ⟨P,hP1,hP2,hP3,hP4⟩:=hC
 obtain ⟨xa,xc,rfl,_⟩:=own_read hP2
 obtain ⟨ya,yc,rfl,_⟩:=own_read hP4
 obtain ⟨iI,hiI,hzI0,hzI1,hzI2⟩:=info_parts infoInstr
 have hPl:P.length=c.length:=by have:=congrArg List.length hP1;simpa using this
 have HO:=Lib.hid hP2
 have HOT:=Lib.hid hP4
 have HR:=Lib.hid hP3
 have HPF:=Lib.hid hP1
 have HG:=Lib.hid hg
 have HPL:=Lib.hid hPl
 clear hP1 hP2 hP3 hP4 hg hPl
 go_enter Tryz.func16,Tryz.ntmps16
 go_upto_region 3 with fail
 go_loopw [5,6,7,8] (fun v5 v6 _ _ wr=>∃ (i:Nat) (Q:List (InstrD × Value)),i≤c.length∧v6=.int .i64 i∧Hid (Q.map Prod.fst=(List.range i).flatMap (atS c))∧Q.length≤2 * i∧wr.ownsRow w.heap.size 44 7 v5 Q.length (Q.flatMap insCells)∧(∀ q ∈ Q,RdInstr (some (upFrom base)) wr q.1 q.2)∧Below w.heap.size w wr) (fun _ v6 _ _ _=>c.length - (intOf v6).toNat)
 case atStart=>exact ⟨0,[],Nat.zero_le _,rfl,rfl,Nat.le_refl _,World.ownsRow_nil _ _ _ _,(fun q hq=>nomatch hq),Below.refl _ _⟩
 case round=>
  obtain ⟨i,Q,hi,rfl,HQ,hql,ho,hr,hb⟩:=hrel
  obtain ⟨w4,rfl⟩:∃ x:World,x=wr:=⟨_,rfl⟩
  have HOA:=Lib.hid ho
  have HRA:=Lib.hid hr
  have HBA:=Lib.hid hb
  have hi1:(i:Int)≤(c.length:Int):=by omega
  clear ho hr hb
  go_upto_block 2 with fail
  go_cut [5,7] from 15 to 42 (fun v5 _ wx=>∃ Q:List (InstrD × Value),Hid (Q.map Prod.fst=(List.range i).flatMap (atS c) ++ (if wantS c i then [labelI i] else []))∧Q.length≤2 * i+1∧wx.ownsRow w.heap.size 44 7 v5 Q.length (Q.flatMap insCells)∧(∀ q ∈ Q,RdInstr (some (upFrom base)) wx q.1 q.2)∧Below w.heap.size w wx)
  case first=>
   go_wp2_with fail
   go_loopw [5,7] (fun v5 v7 wr=>v5=u5∧wr=w4∧∃ k:Nat,k≤c.length∧v7=.int .i64 k∧Hid (anyT c i k=false)) (fun _ v7 _=>c.length - (intOf v7).toNat)
   case atStart=>exact ⟨rfl,rfl,0,Nat.zero_le _,rfl,rfl⟩
   case round=>
    obtain ⟨rfl,hw,k,hk,rfl,HAT⟩:=hrel
    subst wr
    by_cases hlt:k<c.length
    ·have hlt1:(k:Int)<(c.length:Int):=by omega
     obtain ⟨⟨x,xt⟩,hx⟩:∃ x,c[k]?=some x:=⟨_,List.getElem?_eq_getElem hlt⟩
     have hgx:=HG.out _ (List.mem_of_getElem? hx)
     have htx:-1≤xt∧xt≤800:=hgx.t
     obtain ⟨tg,tc,hte,-,htc⟩:=own_at (own_below HOT.out HBA.out) (by rw [flat_length (fun x:InstrD × Int=>[Value.int .i64 x.2]) 1 (fun _=>rfl)];omega)
     simp only [Value.slice.injEq] at hte
     obtain ⟨rfl,-,-⟩:=hte
     have ct:=htc (k * 1+0) (.int .i64 xt) (by rw [flat_get (fun x:InstrD × Int=>[Value.int .i64 x.2]) 1 (fun _=>rfl) c k 0 _ hx (by omega)];rfl)
     simp only [Nat.zero_add,Nat.mul_one,Nat.add_zero] at ct
     have HST:=Lib.hid (anyT_step (i:=i) hx)
     have HWT:=Lib.hid (fun h=>anyT_want (i:=i) hx h)
     clear htc hx hgx
     by_cases hx0:0≤xt
     ·have hx1:(0:Int)≤xt:=hx0
      obtain ⟨tt,rfl⟩:∃ tt:Nat,xt=tt:=⟨xt.toNat,by omega⟩
      have hmin:=@run_minS Tryz.prog #[3,3] 3 (tt:Int) (c.length:Int)
      obtain ⟨q,hq⟩:∃ q,min tt c.length=q:=⟨_,rfl⟩
      have hmq:min (tt:Int) (c.length:Int)=(q:Int):=by omega
      rw [hmq] at hmin
      have htg:tgtS c.length (tt:Int)=some q:=by unfold tgtS;rw [if_pos hx1];simp;omega
      by_cases hqi:q=i
      ·have hqi1:((q:Int) == (i:Int))=true:=by simp [hqi]
       have HW:Hid (wantS c i=true):=HWT.out (by rw [htg,hqi])
       have HN:=Lib.hid (nameR_any 76 i (by omega) w4)
       clear hmq htg hqi hq
       go_wp2_with (first|(go_at_call 14;refine HN.out.mono ?_;rintro e z ⟨rfl,hz⟩;subst z)|(at_builtin;refine wpList_append_own _ rfl (.tmp 37) (.tmp 41) 26 rfl w.heap.size 44 iI (.agg #[.int .u8 0,.int .u8 0,.string ⟨#[]⟩,.string ⟨#[]⟩,.slice none 0 0,.int .i64 0,.int .i64 0]) 7 80 Tryz.underlying26 hiI hzI0 hzI1 hzI2 rfl (by decide) _ _ _ rfl (HOA.out.alloc _) ⟨w4.heap.size,0,none⟩ 1 1 (insCells (labelI i,.slice none 0 0)) rfl rfl (many_new _ _ _) ?pa1 ?pb1 ?pc1 ?pd1 ?_))
       case pa1=>intro u hu;simp [insCells] at hu;rcases hu with rfl|rfl|rfl|rfl|rfl|rfl|rfl <;> rfl
       case pb1=>unfold maxLen;omega
       case pc1=>omega
       case pd1=>have:=HBA.out.size;first|omega|(simp;omega)
       ·intro v' w6 hown' hgrow _
        have hb2:Below w.heap.size w (w4.alloc (.cells (insCells (labelI i,.slice none 0 0)).toArray 44)):=HBA.out.alloc HBA.out.size _
        have hk:Below w4.heap.size w4 (w4.alloc (.cells (insCells (labelI i,.slice none 0 0)).toArray 44)):=(Below.refl _ _).alloc (Nat.le_refl _) _
        have hout:=out_grow (HOA.out.alloc _) (fun p hp=>(HRA.out p hp).keep hk) (rd_label (base:=base) (i:=i) (by omega)) hb2 hbw hgrow hown'
        have HOUT:=Lib.hid hout
        clear hown' hgrow hb2 hk hout
        go_wp2_with fail
        go_meet
        exact ⟨Q ++ [(labelI i,.slice none 0 0)],(by show _=_;rw [List.map_append,HQ.out,HW.out];simp),by simp;omega,HOUT.out.1,HOUT.out.2.1,HOUT.out.2.2⟩
      ·have hqi1:((q:Int) == (i:Int))=false:=by simp;omega
       have HF:Hid (anyT c i (k+1)=false):=by show _=_;rw [HST.out,HAT.out];simp only [htg];simp;exact hqi
       clear hmq htg hqi hq
       go_wp2_with fail
       go_roundw
       case rel=>exact ⟨rfl,by first|rfl|trivial,k+1,by omega,by go_num,HF.out⟩
       case measure=>simp [intOf];omega
     ·have hx1:¬ (0:Int)≤xt:=hx0
      have HF:Hid (anyT c i (k+1)=false):=by show _=_;rw [HST.out,HAT.out];unfold tgtS;rw [if_neg hx0];rfl
      go_wp2_with fail
      go_roundw
      case rel=>exact ⟨rfl,by first|rfl|trivial,k+1,by omega,by go_num,HF.out⟩
      case measure=>simp [intOf];omega
    ·have hlt1:¬ (k:Int)<(c.length:Int):=by omega
     have HW:Hid (wantS c i=false):=by show _=_;rw [← anyT_all,← show k=c.length by omega];exact HAT.out
     go_wp2_with fail
     go_meet
     exact ⟨Q,(by show _=_;rw [HQ.out,HW.out];simp),by omega,HOA.out,HRA.out,HBA.out⟩
  case rest=>
   generalize wc=w5 at *
   obtain ⟨Q2,HQ2,hq2,ho2,hr2,hb2⟩:=hcut
   have HO5:=Lib.hid ho2
   have HR5:=Lib.hid hr2
   have HB5:=Lib.hid hb2
   clear ho2 hr2 hb2 HOA HRA HBA HQ
   have hbase5:w.heap.size≤w5.heap.size:=HB5.out.size
   by_cases hin:i<c.length
   ·have hin1:((i:Int) == (c.length:Int))=false:=by simp;omega
    have hin2:(i:Int)<(c.length:Int):=by omega
    obtain ⟨⟨x,xt⟩,hx⟩:∃ x,c[i]?=some x:=⟨_,List.getElem?_eq_getElem hin⟩
    obtain ⟨⟨px,pv⟩,hpx⟩:∃ p,P[i]?=some p:=⟨_,List.getElem?_eq_getElem (by have:=HPL.out;omega)⟩
    have hpe:px=x:=by
     have h1:(P.map Prod.fst)[i]?=some px:=by rw [List.getElem?_map,hpx];rfl
     rw [HPF.out,List.getElem?_map,hx] at h1
     exact (Option.some.inj h1).symm
    subst hpe
    have hgx:=HG.out _ (List.mem_of_getElem? hx)
    have htx:-1≤xt∧xt≤800:=hgx.t
    obtain ⟨nm',hnm⟩:∃ y,(fixS c.length (px,xt)).name=y:=⟨_,rfl⟩
    have hfe:fixS c.length (px,xt)={ px with name:=nm' }:=by rw [← hnm];unfold fixS;split <;> rfl
    have HHI:Hid (atS c i=(if wantS c i then [labelI i] else []) ++ [{ px with name:=nm' }]):=by show _=_;unfold atS;rw [hx];simp only [Option.map_some,Option.toList_some,hfe]
    have HNM:=Lib.hid hnm
    have hrp:RdInstr (some (upFrom base)) w5 px pv:=(HR.out _ (List.mem_of_getElem? hpx)).keep HB5.out
    obtain ⟨ra,rc,rfl,-⟩:=id hrp.1
    have HRP:Hid (RdInstr (some (upFrom base)) w5 { px with name:=nm' } (.slice ra px.args.length rc)):=by
     refine ⟨hrp.1,hrp.2.1,hrp.2.2.1,hrp.2.2.2.1,hrp.2.2.2.2.1,hrp.2.2.2.2.2.1,?_⟩
     show nm'.size≤maxLen
     rw [← hnm]
     unfold fixS tgtS
     by_cases hx0:0≤xt
     ·simp only [if_pos hx0]
      have h:=nm_ok 76 (n:=min xt.toNat c.length) (by omega)
      unfold NmOk at h
      unfold maxLen
      omega
     ·simp only [if_neg hx0]
      exact hrp.2.2.2.2.2.2
    obtain ⟨tg,tc,hte,-,htc⟩:=own_at (own_below HOT.out HB5.out) (by rw [flat_length (fun x:InstrD × Int=>[Value.int .i64 x.2]) 1 (fun _=>rfl)];omega)
    simp only [Value.slice.injEq] at hte
    obtain ⟨rfl,-,-⟩:=hte
    have ct:=htc (i * 1+0) (.int .i64 xt) (by rw [flat_get (fun x:InstrD × Int=>[Value.int .i64 x.2]) 1 (fun _=>rfl) c i 0 _ hx (by omega)];rfl)
    simp only [Nat.zero_add,Nat.mul_one,Nat.add_zero] at ct
    obtain ⟨cg,cgc,hce,-,hcc⟩:=own_at (own_below HO.out HB5.out) (by rw [flat_length insCells 7 (fun _=>rfl)];have:=HPL.out;omega)
    simp only [Value.slice.injEq] at hce
    obtain ⟨rfl,-,rfl⟩:=hce
    have q0:=hcc (i * 7+0) (.int .u8 px.kind) (by rw [flat_get insCells 7 (fun _=>rfl) P i 0 _ hpx (by omega)];rfl)
    have q1:=hcc (i * 7+1) (.int .u8 px.op) (by rw [flat_get insCells 7 (fun _=>rfl) P i 1 _ hpx (by omega)];rfl)
    have q2:=hcc (i * 7+2) (.string px.dst) (by rw [flat_get insCells 7 (fun _=>rfl) P i 2 _ hpx (by omega)];rfl)
    have q3:=hcc (i * 7+3) (.string px.name) (by rw [flat_get insCells 7 (fun _=>rfl) P i 3 _ hpx (by omega)];rfl)
    have q4:=hcc (i * 7+4) (.slice ra px.args.length rc) (by rw [flat_get insCells 7 (fun _=>rfl) P i 4 _ hpx (by omega)];rfl)
    have q5:=hcc (i * 7+5) (.int .i64 px.line) (by rw [flat_get insCells 7 (fun _=>rfl) P i 5 _ hpx (by omega)];rfl)
    have q6:=hcc (i * 7+6) (.int .i64 px.col) (by rw [flat_get insCells 7 (fun _=>rfl) P i 6 _ hpx (by omega)];rfl)
    simp only [Nat.zero_add,Nat.add_zero] at q0 q1 q2 q3 q4 q5 q6
    have hal:=(Below.refl w5.heap.size w5).alloc (Nat.le_refl _) (.cells #[.int .u8 px.kind,.int .u8 px.op,.string px.dst,.string px.name,.slice ra px.args.length rc,.int .i64 px.line,.int .i64 px.col] 44)
    have HX:=Lib.hid (heap_alloc_new w5 (.cells #[.int .u8 px.kind,.int .u8 px.op,.string px.dst,.string px.name,.slice ra px.args.length rc,.int .i64 px.line,.int .i64 px.col] 44))
    have ct6:=cell_keep hal ct
    have HB6:=Lib.hid hal
    clear htc hcc hx hpx hgx hfe hnm hrp hal
    go_upto_if 55 with fail
    clear q0 q1 q2 q3 q4 q5 q6 ct
    generalize w5.alloc (.cells #[.int .u8 px.kind,.int .u8 px.op,.string px.dst,.string px.name,.slice ra px.args.length rc,.int .i64 px.line,.int .i64 px.col] 44)=w6 at *
    obtain ⟨xb,hxb⟩:∃ x,w5.heap.size=x:=⟨_,rfl⟩
    rw [hxb] at HX
    try rw [hxb]
    have HXB:=Lib.hid hxb
    clear hxb
    go_cut [] from 56 to 64 (fun wx=>wx.heap[xb]?=some (.cells #[.int .u8 px.kind,.int .u8 px.op,.string px.dst,.string nm',.slice ra px.args.length rc,.int .i64 px.line,.int .i64 px.col] 44 (0,0))∧Below w5.heap.size w5 wx)
    case first=>
     by_cases hx0:0≤xt
     ·have hx1:(0:Int)≤xt:=hx0
      obtain ⟨tt,rfl⟩:∃ tt:Nat,xt=tt:=⟨xt.toNat,by omega⟩
      have hmin:=@run_minS Tryz.prog #[3,3] 3 (tt:Int) (c.length:Int)
      obtain ⟨q,hq⟩:∃ q,min tt c.length=q:=⟨_,rfl⟩
      have hmq:min (tt:Int) (c.length:Int)=(q:Int):=by omega
      rw [hmq] at hmin
      have hnq:nm'=nmS 76 q:=by rw [← HNM.out];unfold fixS tgtS;simp only [if_pos hx1];rw [← hq];rfl
      have hN:=nameR_any 76 q (by omega) w6
      rw [← hnq] at hN
      have HN:=Lib.hid hN
      have c3:=row_of HX.out 3 _ rfl
      have f3:=frozen_of_row w6 xb 3 _ _ HX.out
      have hb3:=heap_setCell_same w6 xb 3 _ _ (.string nm') HX.out
      simp only [List.setIfInBounds_toArray,List.set_cons_succ,List.set_cons_zero] at hb3
      have HX3:=Lib.hid hb3
      have HB7:Hid (Below w5.heap.size w5 (w6.setCell ⟨xb,3,none⟩ (.string nm'))):=HB6.out.setCell (by show w5.heap.size≤xb;rw [HXB.out];omega) _
      clear hmq hq hnq hN hb3
      go_wp2_with (go_at_call 14;refine HN.out.mono ?_;rintro e z ⟨rfl,hz⟩;subst z)
      go_meet
      exact ⟨HX3.out,HB7.out⟩
     ·have hx1:¬ (0:Int)≤xt:=hx0
      have HNQ:Hid (nm'=px.name):=by show _=_;rw [← HNM.out];unfold fixS tgtS;simp only [if_neg hx1]
      go_wp2_with fail
      go_meet
      exact ⟨by rw [HNQ.out];exact HX.out,HB6.out⟩
    case rest=>
     generalize wc=w7 at *
     obtain ⟨hx7,hb7⟩:=hcut
     have o0:=row_of hx7 0 _ rfl
     have o1:=row_of hx7 1 _ rfl
     have o2:=row_of hx7 2 _ rfl
     have o3:=row_of hx7 3 _ rfl
     have o4:=row_of hx7 4 _ rfl
     have o5:=row_of hx7 5 _ rfl
     have o6:=row_of hx7 6 _ rfl
     have HB7:=Lib.hid hb7
     have HO7:=Lib.hid (own_below HO5.out hb7)
     have hwz:w.heap.size≤w7.heap.size:=by have:=hb7.size;omega
     clear hx7 hb7 ct6
     go_wp2_with (at_builtin;refine wpList_append_own _ rfl (.tmp 65) (.tmp 67) 26 rfl w.heap.size 44 iI (.agg #[.int .u8 0,.int .u8 0,.string ⟨#[]⟩,.string ⟨#[]⟩,.slice none 0 0,.int .i64 0,.int .i64 0]) 7 80 Tryz.underlying26 hiI hzI0 hzI1 hzI2 rfl (by decide) _ _ _ rfl (HO7.out.alloc _) ⟨w7.heap.size,0,none⟩ 1 1 (insCells ({ px with name:=nm' },Value.slice ra px.args.length rc)) rfl rfl (many_new _ _ _) ?pa2 ?pb2 ?pc2 ?pd2 ?_)
     case pa2=>intro u hu;simp [insCells] at hu;rcases hu with rfl|rfl|rfl|rfl|rfl|rfl|rfl <;> rfl
     case pb2=>unfold maxLen;omega
     case pc2=>omega
     case pd2=>first|omega|(simp;omega)
     ·intro v' w8 hown' hgrow _
      have hk7:=(HB7.out.alloc HB7.out.size (.cells (insCells ({ px with name:=nm' },Value.slice ra px.args.length rc)).toArray 44))
      have hb8:Below w.heap.size w (w7.alloc (.cells (insCells ({ px with name:=nm' },Value.slice ra px.args.length rc)).toArray 44)):=HB5.out.trans (hk7.mono HB5.out.size)
      have hout:=out_grow (HO7.out.alloc _) (fun p hp=>(HR5.out p hp).keep hk7) (HRP.out.keep hk7) hb8 hbw hgrow hown'
      have HOUT:=Lib.hid hout
      have HQ6:Hid ((Q2 ++ [({ px with name:=nm' },Value.slice ra px.args.length rc)]).map Prod.fst=(List.range (i+1)).flatMap (atS c)):=by
       show _=_
       rw [List.map_append,HQ2.out,range_at,HHI.out,List.append_assoc]
       rfl
      clear hown' hgrow hb8 hk7 hout o0 o1 o2 o3 o4 o5 o6
      go_wp2_with fail
      go_roundw
      case rel=>exact ⟨i+1,Q2 ++ [({ px with name:=nm' },Value.slice ra px.args.length rc)],by omega,by go_num,HQ6,by simp;omega,HOUT.out.1,HOUT.out.2.1,HOUT.out.2.2⟩
      case measure=>simp [intOf];omega
   ·have hin1:((i:Int) == (c.length:Int))=true:=by simp;omega
    have HLA:Hid (Q2.map Prod.fst=labelledS c):=by
     show _=_
     obtain rfl:i=c.length:=by omega
     unfold labelledS
     rw [HQ2.out,range_at]
     unfold atS
     rw [List.getElem?_eq_none (Nat.le_refl _)]
     simp
    go_wp2_with fail
    go_ret
    have hlen:Q2.length=(labelledS c).length:=by rw [← HLA.out];simp
    exact ⟨_,rfl,own_instrs HLA.out (by rw [← hlen];exact own_upS HO5.out hbw) (by rw [← hlen];omega) HR5.out,HB5.out⟩
open Go.Maps (Keyed int_keyed)
open Go.WideShapes Go.ChangeMaps Go.MapKept Go.WideMaps Go.ChangeAt Go.RowKit Go.ChangeShapes
theorem TkL.trn {S:Nat→Prop} {w w':World} {g:Nat} {s:ByteArray} {l:List UInt8} (h:TkL w g s l) (t:Trn S w w') (hs:¬ S g):TkL w' g s l:=h.at (t.block g h.lt hs)
theorem not_ownT {w:World} {base:Nat} {e:TypeId} {size:Nat} {v:Value} {n:Nat} {xs:List Value} {b:Nat} {s:ByteArray} {l:List UInt8} (h:w.ownsRow base e size v n xs) (hb:TkL w b s l) (hT:e ≠ 50):v.ownBlock ≠ some b:=by
 obtain ⟨n0,hb,-⟩:=hb
 exact not_own h hb hT
structure PRt (s:ByteArray) (w0:World) (pb sb base:Nat) (wd:Int) (w:World) (cv av fv:Value) (C:List ByteArray) (A:List ArrD) (F:List (FuncD × Value × Value)) (l:List UInt8):Prop where
 box:w.heap[pb]?=some (.cells #[.int .i64 wd,cv,av,fv,.slice none 0 0] 28 (0,0))
 src:TkL w sb s l
 oc:w.ownsRow base 9 1 cv C.length (C.flatMap strCells)
 oa:w.ownsRow base 54 2 av A.length (A.flatMap arrCells)
 of:w.ownsRow base 56 5 fv F.length (F.flatMap funCells)
 rf:∀ q ∈ F,RdFunc (some (upFrom base)) w q.1 q.2.1 q.2.2
 below:Below base w0 w
 hp:base<pb
 hs:base≤sb
 hne:pb ≠ sb
 hb0:base≤w0.heap.size
 res:w.heap[base]?=some (.cells #[.int .i64 0,.slice none 0 0,.slice none 0 0,.slice none 0 0,.slice none 0 0] 28 (0,0))
theorem PRt.later {s:ByteArray} {w0 w w':World} {pb sb base:Nat} {wd:Int} {cv av fv:Value} {C:List ByteArray} {A:List ArrD} {F:List (FuncD × Value × Value)} {l:List UInt8} (h:PRt s w0 pb sb base wd w cv av fv C A F l) (k:Below w.heap.size w w'):PRt s w0 pb sb base wd w' cv av fv C A F l:=
 ⟨(k.block pb (Array.getElem?_eq_some_iff.1 h.box).1).trans h.box,h.src.keep k,own_below h.oc k,own_below h.oa k,own_below h.of k,fun q hq=>(h.rf q hq).keep k,h.below.trans (k.mono (Nat.le_trans h.hb0 h.below.size)),h.hp,h.hs,h.hne,h.hb0,(k.block base (Array.getElem?_eq_some_iff.1 h.res).1).trans h.res⟩
theorem PRt.bytes {s:ByteArray} {w0 w w':World} {pb sb base:Nat} {wd:Int} {cv av fv:Value} {C:List ByteArray} {A:List ArrD} {F:List (FuncD × Value × Value)} {l l':List UInt8} (h:PRt s w0 pb sb base wd w cv av fv C A F l) (hsb:base<sb) (t:Trn (fun x=>x=sb) w w') (hs:TkL w' sb s l'):PRt s w0 pb sb base wd w' cv av fv C A F l':=by
 obtain ⟨n0,hsrc,-⟩:=h.src
 exact ⟨t.heap h.box h.hne,hs,own_trn h.oc t (fun k hk e=>not_own h.oc hsrc (by decide) (by have e':k=sb:=e;rw [← e'];exact hk)),own_trn h.oa t (fun k hk e=>not_own h.oa hsrc (by decide) (by have e':k=sb:=e;rw [← e'];exact hk)),own_trn h.of t (fun k hk e=>not_own h.of hsrc (by decide) (by have e':k=sb:=e;rw [← e'];exact hk)),fun q hq=>(h.rf q hq).pastT hsrc t (by decide) (by decide) (by decide),h.below.trans (t.below base (Nat.le_trans h.hb0 h.below.size) (fun i hi e=>by have e':i=sb:=e;omega)),h.hp,h.hs,h.hne,h.hb0,t.heap h.res (fun e=>by have e':base=sb:=e;omega)⟩
theorem PRt.chan {s:ByteArray} {w0 w w':World} {pb sb base:Nat} {wd:Int} {cv av fv cv':Value} {C:List ByteArray} {A:List ArrD} {l:List UInt8} {n:ByteArray} (h:PRt s w0 pb sb base wd w cv av fv C A [] l) (hg:w.grownBy w' cv.ownBlock) (ho:w'.ownsRow base 9 1 cv' (C.length+1) (C.flatMap strCells ++ [.string n])) :
  PRt s w0 pb sb base wd (w'.setCell ⟨pb,1,none⟩ cv') cv' av fv (C ++ [n]) A [] l:=by
 have hgr:=Trn.of_grown (S:=fun b=>cv.ownBlock=some b) hg (fun b e=>e)
 have hbx:=hgr.heap h.box (not_own h.oc h.box (by decide))
 have hsc:=setCell_trn w' ⟨pb,1,none⟩ cv'
 have hrs:=hgr.heap h.res (not_own h.oc h.res (by decide))
 have hb1:=heap_setCell_same w' pb 1 _ _ cv' hbx
 simp only [List.setIfInBounds_toArray,List.set_cons_succ,List.set_cons_zero] at hb1
 have hoa:=own_trn h.oa hgr (fun k hk e=>own_apart h.oc h.oa (by decide) hk e)
 have hof:=own_trn h.of hgr (fun k hk e=>own_apart h.oc h.of (by decide) hk e)
 have hps:=h.hp
 refine ⟨hb1,?_,?_,own_trn hoa hsc (fun k hk e=>not_own hoa hbx (by decide) (by have e':k=pb:=e;rw [← e'];exact hk)),own_trn hof hsc (fun k hk e=>not_own hof hbx (by decide) (by have e':k=pb:=e;rw [← e'];exact hk)),fun q hq=>?_,(h.below.grown hg (Nat.le_trans h.hb0 h.below.size) (own_row_le h.oc)).setCell (by show base≤pb;omega) _,h.hp,h.hs,h.hne,h.hb0,?_⟩
 ·exact (h.src.trn hgr (not_ownT h.oc h.src (by decide))).trn hsc (fun e=>h.hne (show sb=pb from e).symm)
 ·have:=own_trn ho hsc (fun k hk e=>not_own ho hbx (by decide) (by have e':k=pb:=e;rw [← e'];exact hk))
  simpa [strCells] using this
 ·simp at hq
 ·exact hsc.heap hrs (fun e=>by have e':base=pb:=e;omega)
theorem PRt.arr {s:ByteArray} {w0 w w':World} {pb sb base:Nat} {wd:Int} {cv av fv av':Value} {C:List ByteArray} {A:List ArrD} {l:List UInt8} {x:ArrD} (h:PRt s w0 pb sb base wd w cv av fv C A [] l) (hg:w.grownBy w' av.ownBlock) (ho:w'.ownsRow base 54 2 av' (A.length+1) (A.flatMap arrCells ++ arrCells x)) :
  PRt s w0 pb sb base wd (w'.setCell ⟨pb,2,none⟩ av') cv av' fv C (A ++ [x]) [] l:=by
 have hgr:=Trn.of_grown (S:=fun b=>av.ownBlock=some b) hg (fun b e=>e)
 have hbx:=hgr.heap h.box (not_own h.oa h.box (by decide))
 have hsc:=setCell_trn w' ⟨pb,2,none⟩ av'
 have hrs:=hgr.heap h.res (not_own h.oa h.res (by decide))
 have hb1:=heap_setCell_same w' pb 2 _ _ av' hbx
 simp only [List.setIfInBounds_toArray,List.set_cons_succ,List.set_cons_zero] at hb1
 have hoc:=own_trn h.oc hgr (fun k hk e=>own_apart h.oa h.oc (by decide) hk e)
 have hof:=own_trn h.of hgr (fun k hk e=>own_apart h.oa h.of (by decide) hk e)
 have hps:=h.hp
 refine ⟨hb1,?_,own_trn hoc hsc (fun k hk e=>not_own hoc hbx (by decide) (by have e':k=pb:=e;rw [← e'];exact hk)),?_,own_trn hof hsc (fun k hk e=>not_own hof hbx (by decide) (by have e':k=pb:=e;rw [← e'];exact hk)),fun q hq=>?_,(h.below.grown hg (Nat.le_trans h.hb0 h.below.size) (own_row_le h.oa)).setCell (by show base≤pb;omega) _,h.hp,h.hs,h.hne,h.hb0,?_⟩
 ·exact (h.src.trn hgr (not_ownT h.oa h.src (by decide))).trn hsc (fun e=>h.hne (show sb=pb from e).symm)
 ·have:=own_trn ho hsc (fun k hk e=>not_own ho hbx (by decide) (by have e':k=pb:=e;rw [← e'];exact hk))
  simpa using this
 ·simp at hq
 ·exact hsc.heap hrs (fun e=>by have e':base=pb:=e;omega)
theorem PRt.func {s:ByteArray} {w0 w w':World} {pb sb base:Nat} {wd:Int} {cv av fv fv':Value} {C:List ByteArray} {A:List ArrD} {F:List (FuncD × Value × Value)} {l:List UInt8} {q:FuncD × Value × Value} (h:PRt s w0 pb sb base wd w cv av fv C A F l) (hg:w.grownBy w' fv.ownBlock) (ho:w'.ownsRow base 56 5 fv' (F.length+1) (F.flatMap funCells ++ funCells q)) (hq:RdFunc (some (upFrom base)) w q.1 q.2.1 q.2.2) :
  PRt s w0 pb sb base wd (w'.setCell ⟨pb,3,none⟩ fv') cv av fv' C A (F ++ [q]) l:=by
 have hgr:=Trn.of_grown (S:=fun b=>fv.ownBlock=some b) hg (fun b e=>e)
 have hbx:=hgr.heap h.box (not_own h.of h.box (by decide))
 have hsc:=setCell_trn w' ⟨pb,3,none⟩ fv'
 have hrs:=hgr.heap h.res (not_own h.of h.res (by decide))
 have hb1:=heap_setCell_same w' pb 3 _ _ fv' hbx
 simp only [List.setIfInBounds_toArray,List.set_cons_succ,List.set_cons_zero] at hb1
 have hoc:=own_trn h.oc hgr (fun k hk e=>own_apart h.of h.oc (by decide) hk e)
 have hoa:=own_trn h.oa hgr (fun k hk e=>own_apart h.of h.oa (by decide) hk e)
 have hps:=h.hp
 refine ⟨hb1,?_,own_trn hoc hsc (fun k hk e=>not_own hoc hbx (by decide) (by have e':k=pb:=e;rw [← e'];exact hk)),own_trn hoa hsc (fun k hk e=>not_own hoa hbx (by decide) (by have e':k=pb:=e;rw [← e'];exact hk)),?_,fun p hp=>?_,(h.below.grown hg (Nat.le_trans h.hb0 h.below.size) (own_row_le h.of)).setCell (by show base≤pb;omega) _,h.hp,h.hs,h.hne,h.hb0,?_⟩
 ·exact (h.src.trn hgr (not_ownT h.of h.src (by decide))).trn hsc (fun e=>h.hne (show sb=pb from e).symm)
 ·have:=own_trn ho hsc (fun k hk e=>not_own ho hbx (by decide) (by have e':k=pb:=e;rw [← e'];exact hk))
  simpa using this
 ·have h1:RdFunc (some (upFrom base)) w p.1 p.2.1 p.2.2:=by
   rcases List.mem_append.1 hp with hp|hp
   ·exact h.rf p hp
   ·rw [List.mem_singleton] at hp;subst hp;exact hq
  exact (func_grownT h.of hg (by decide) (by decide) (by decide) h1).pastT hbx hsc (by decide) (by decide) (by decide)
 ·exact hsc.heap hrs (fun e=>by have e':base=pb:=e;omega)
theorem PRt.env {s:ByteArray} {w0 w:World} {pb sb base:Nat} {wd:Int} {cv av fv:Value} {C:List ByteArray} {A:List ArrD} {F:List (FuncD × Value × Value)} {l:List UInt8} (h:PRt s w0 pb sb base wd w cv av fv C A F l) {bb:Nat} {z:World} {mv:Value} {par:Nat} {mn:Bool} (hz:Below w.heap.size w z) (hm:w.heap.size≤bb) (hbx:BdAt z bb sb wd cv av fv mv par F.length mn) (hC:1≤C.length) (hC2:C.length≤90) (hA:A.length≤90) (hpar:par≤90) (hF:F.length≤90) (hP:∀ q ∈ F,q.1.params.length≤90) :
  BdE z bb sb ⟨A.length,C.length,par,F.map fun q=>q.1.params.length,mn⟩:=by
 have hsw:=h.src.lt
 obtain ⟨ca,cc,rfl,-⟩:=own_read h.oc
 obtain ⟨aa,ac,rfl,-⟩:=own_read h.oa
 obtain ⟨fa,fc,rfl,-⟩:=own_read h.of
 refine ⟨⟨wd,ca,cc,aa,ac,fa,fc,mv,by rw [List.length_map];exact hbx,fun i n hi=>?_⟩,by omega,hC,hC2,hA,hpar,by simpa using hF,fun n hn=>?_⟩
 ·rw [List.getElem?_map] at hi
  obtain ⟨q,hq,rfl⟩:∃ q,F[i]?=some q∧q.1.params.length=n:=by
   cases hf:F[i]? with
   | none=>rw [hf] at hi;cases hi
   | some q=>rw [hf] at hi;exact ⟨q,rfl,Option.some.inj hi⟩
  have hil:=(List.getElem?_eq_some_iff.1 hq).1
  obtain ⟨g,gc,hge,hgf,hgc⟩:=own_at h.of (by rw [flat_length funCells 5 (fun _=>rfl)];omega)
  simp only [Value.slice.injEq] at hge
  obtain ⟨rfl,-,-⟩:=hge
  have c1:=hgc (i * 5+1) q.2.1 (by rw [flat_get funCells 5 (fun _=>rfl) F i 1 _ hq (by omega)];rfl)
  obtain ⟨pa,pc,hpe,-⟩:=(h.rf q (List.mem_of_getElem? hq)).1
  rw [hpe] at c1
  obtain ⟨hgb,cs,hgh⟩:=hgf _ rfl
  refine ⟨g,0,pa,pc,rfl,by simpa [Nat.add_assoc] using cell_keep hz c1,fun e=>?_⟩
  obtain ⟨n0,hs,-⟩:=h.src
  rw [e,hs] at hgh
  simp only [Option.some.injEq,Obj.cells.injEq] at hgh
  exact absurd hgh.2.1 (by decide)
 ·obtain ⟨q,hq,rfl⟩:=List.mem_map.1 hn
  exact hP q hq
structure FRt (s:ByteArray) (w6:World) (sb fb:Nat) (w:World) (nm:ByteArray) (pv:Value) (K:List ByteArray) (l:List UInt8):Prop where
 box:w.heap[fb]?=some (.cells #[.string nm,pv,.slice none 0 0,.int .i64 0,.int .i64 0] 56 (0,0))
 src:TkL w sb s l
 op:w.ownsRow fb 9 1 pv K.length (K.flatMap strCells)
 tr:Trn (fun x=>x=sb) w6 w
 hf:w6.heap.size≤fb
 hs:sb<w6.heap.size
section
variable {s:ByteArray} {w6 w w':World} {sb fb:Nat} {nm:ByteArray} {pv:Value} {K:List ByteArray} {l l':List UInt8}
theorem FRt.later (h:FRt s w6 sb fb w nm pv K l) (k:Below w.heap.size w w'):FRt s w6 sb fb w' nm pv K l:=
 ⟨(k.block fb (Array.getElem?_eq_some_iff.1 h.box).1).trans h.box,h.src.keep k,own_below h.op k,h.tr.trans (Trn.of_below k),h.hf,h.hs⟩
theorem FRt.bytes (h:FRt s w6 sb fb w nm pv K l) (t:Trn (fun x=>x=sb) w w') (hs:TkL w' sb s l'):FRt s w6 sb fb w' nm pv K l':=by
 have h1:=h.hf
 have h2:=h.hs
 exact ⟨t.heap h.box (fun e=>by have e':fb=sb:=e;omega),hs,own_trn h.op t (fun k hk e=>by have:=own_ge h.op hk;have e':k=sb:=e;omega),h.tr.trans t,h.hf,h.hs⟩
theorem FRt.par {pv':Value} {n:ByteArray} (h:FRt s w6 sb fb w nm pv K l) (hg:w.grownBy w' pv.ownBlock) (ho:w'.ownsRow fb 9 1 pv' (K.length+1) (K.flatMap strCells ++ [.string n])) :
  FRt s w6 sb fb (w'.setCell ⟨fb,1,none⟩ pv') nm pv' (K ++ [n]) l:=by
 have h1:=h.hf
 have h2:=h.hs
 have hgr:=Trn.of_grown (S:=fun b=>pv.ownBlock=some b) hg (fun b e=>e)
 have hbx:=hgr.heap h.box (not_own h.op h.box (by decide))
 have hsc:=setCell_trn w' ⟨fb,1,none⟩ pv'
 have hb1:=heap_setCell_same w' fb 1 _ _ pv' hbx
 simp only [List.setIfInBounds_toArray,List.set_cons_succ,List.set_cons_zero] at hb1
 refine ⟨hb1,(h.src.trn hgr (not_ownT h.op h.src (by decide))).trn hsc (fun e=>by have e':sb=fb:=e;omega),?_,(h.tr.step hgr (fun i hi e=>by have:=own_ge h.op e;omega)).step hsc (fun i hi e=>by have e':i=fb:=e;omega),h.hf,h.hs⟩
 have:=own_trn ho hsc (fun k hk e=>not_own ho hbx (by decide) (by have e':k=fb:=e;rw [← e'];exact hk))
 simpa [strCells] using this
end
theorem FRt.code {s:ByteArray} {w6 w:World} {sb fb:Nat} {nm:ByteArray} {pv:Value} {K:List ByteArray} {l:List UInt8} (h:FRt s w6 sb fb w nm pv K l) (lv:Value) :
  (w.setCell ⟨fb,2,none⟩ lv).heap[fb]?=some (.cells #[.string nm,pv,lv,.int .i64 0,.int .i64 0] 56 (0,0))∧TkL (w.setCell ⟨fb,2,none⟩ lv) sb s l∧(w.setCell ⟨fb,2,none⟩ lv).ownsRow fb 9 1 pv K.length (K.flatMap strCells)∧Trn (fun x=>x=sb) w6 (w.setCell ⟨fb,2,none⟩ lv):=by
 have h1:=h.hf
 have h2:=h.hs
 have hsc:=setCell_trn w ⟨fb,2,none⟩ lv
 have hb1:=heap_setCell_same w fb 2 _ _ lv h.box
 simp only [List.setIfInBounds_toArray,List.set_cons_succ,List.set_cons_zero] at hb1
 exact ⟨hb1,h.src.trn hsc (fun e=>by have e':sb=fb:=e;omega),own_trn h.op hsc (fun k hk e=>not_own h.op h.box (by decide) (by have e':k=fb:=e;rw [← e'];exact hk)),h.tr.step hsc (fun i hi e=>by have e':i=fb:=e;omega)⟩
theorem PRt.done {s:ByteArray} {w0 w w':World} {pb sb base:Nat} {wd:Int} {cv av fv lv:Value} {C:List ByteArray} {A:List ArrD} {F:List (FuncD × Value × Value)} {l:List UInt8} {M:List InstrD} (h:PRt s w0 pb sb base wd w cv av fv C A F l) (t:Trn (fun x=>x=pb ∨ x=base) w w') (hM:RdInstrs (some (upFrom base)) w lv M) (hw:0≤wd∧wd≤100) (hC:C.length≤100) (hC2:∀ s ∈ C,s.size≤maxLen) (hA:A.length≤100) (hA2:∀ s ∈ A,InI64 s.size∧s.name.size≤maxLen) (hF:F.length≤100) :
  RdProg (some (upFrom base)) w' ⟨wd,C,A,F.map Prod.fst,M⟩ cv av fv lv∧Below base w0 w':=by
 have hbx:=h.box
 have hrs:=h.res
 have hpb:=h.hp
 have hne:∀ (T:TypeId) (b:Nat),T ≠ 28→Free (some (upFrom base)) T w b→¬ (b=pb ∨ b=base):=fun T b hT hf e=>by
  obtain ⟨_,ds,h4⟩:=hf _ rfl
  rcases e with e|e
  ·rw [e,hbx] at h4
   simp only [Option.some.injEq,Obj.cells.injEq] at h4
   exact hT h4.2.1.symm
  ·rw [e,hrs] at h4
   simp only [Option.some.injEq,Obj.cells.injEq] at h4
   exact hT h4.2.1.symm
 have hF':∀ T b,T ≠ 28→b<w.heap.size→Free (some (upFrom base)) T w b→Free (some (upFrom base)) T w' b:=fun T b hT hl hf=>by
  intro k e
  cases e
  obtain ⟨h5,ds,h6⟩:=id (hf _ rfl)
  exact ⟨h5,ds,(t.block b hl (hne T b hT hf)).trans h6⟩
 have hC':∀ T b o v,T ≠ 28→Free (some (upFrom base)) T w b→w.cell? ⟨b,o,none⟩=some v→w'.cell? ⟨b,o,none⟩=some v:=fun T b o v hT hf hc=>by
  rw [World.cell?_of_block (w:=w) (t.block b (block_lt_of_cell hc) (hne T b hT hf))];exact hc
 have hrf:=own_funcs (P:=F) rfl (by simpa using h.of) (by simp;omega) h.rf
 refine ⟨⟨?_,?_,?_,?_,?_⟩,h.below.trans (t.below base (Nat.le_trans h.hb0 h.below.size) (fun i hi e=>by omega))⟩
 ·exact RdStrs.map (S:=fun T=>T ≠ 28) hF' hC' (by decide) (own_strs (l:=C) h.oc (by omega) hC2)
 ·exact RdArrs.map (S:=fun T=>T ≠ 28) hF' hC' (by decide) (own_arrs (l:=A) h.oa (by omega) hA2)
 ·exact RdFuncs.map (S:=fun T=>T ≠ 28) hF' hC' (by decide) (by decide) (by decide) (by decide) hrf
 ·exact RdInstrs.map (S:=fun T=>T ≠ 28) hF' hC' (by decide) (by decide) hM
 ·unfold InI64;simp;omega
structure CR (s:ByteArray) (w:World) (sb base:Nat) (x:InstrD) (av:Value) (l:List UInt8) (z:World) (cv:Value) (P:List (InstrD × Value)) (tv:Value) (ts:List Int):Prop where
 src:TkL z sb s l
 oc:z.ownsRow base 44 7 cv P.length (P.flatMap insCells)
 rp:∀ q ∈ P,RdInstr (some (upFrom base)) z q.1 q.2
 rx:RdInstr (some (upFrom base)) z x av
 ot:z.ownsRow base 3 1 tv ts.length (ts.flatMap fun t=>[.int .i64 t])
 tr:Trn (fun k=>k=sb ∨ base≤k) w z
 hs:sb<base
section
variable {s:ByteArray} {w:World} {sb base:Nat} {x:InstrD} {av:Value} {l:List UInt8} {z z':World} {cv:Value} {P:List (InstrD × Value)} {tv:Value} {ts:List Int}
theorem CR.below (h:CR s w sb base x av l z cv P tv ts) (hb:Below z.heap.size z z'):CR s w sb base x av l z' cv P tv ts:=
 ⟨h.src.keep hb,own_below h.oc hb,fun q hq=>(h.rp q hq).keep hb,h.rx.keep hb,own_below h.ot hb,h.tr.trans (Trn.of_below hb),h.hs⟩
theorem CR.growC {cv':Value} (h:CR s w sb base x av l z cv P tv ts) (hg:z.grownBy z' cv.ownBlock) (ho:z'.ownsRow base 44 7 cv' (P.length+1) (P.flatMap insCells ++ insCells (x,av))):CR s w sb base x av l z' cv' (P ++ [(x,av)]) tv ts:=by
 have hgr:=Trn.of_grown (S:=fun b=>cv.ownBlock=some b) hg (fun b e=>e)
 refine ⟨h.src.trn hgr (not_ownT h.oc h.src (by decide)),by simpa using ho,fun q hq=>?_,instr_grown h.oc hg h.rx,own_trn h.ot hgr (fun k hk e=>own_apart h.oc h.ot (by decide) hk e),h.tr.trans (hgr.mono fun i e=>.inr (own_ge h.oc e)),h.hs⟩
 rcases List.mem_append.1 hq with hq|hq
 ·exact instr_grown h.oc hg (h.rp q hq)
 ·rw [List.mem_singleton] at hq;subst hq;exact instr_grown h.oc hg h.rx
theorem CR.growT {tv':Value} {t:Int} (h:CR s w sb base x av l z cv P tv ts) (hg:z.grownBy z' tv.ownBlock) (ho:z'.ownsRow base 3 1 tv' (ts.length+1) (ts.flatMap (fun t=>[.int .i64 t]) ++ [.int .i64 t])):CR s w sb base x av l z' cv P tv' (ts ++ [t]):=by
 have hgr:=Trn.of_grown (S:=fun b=>tv.ownBlock=some b) hg (fun b e=>e)
 exact ⟨h.src.trn hgr (not_ownT h.ot h.src (by decide)),own_trn h.oc hgr (fun k hk e=>own_apart h.ot h.oc (by decide) hk e),fun q hq=>instr_grownI h.ot hg (h.rp q hq),instr_grownI h.ot hg h.rx,by simpa using ho,h.tr.trans (hgr.mono fun i e=>.inr (own_ge h.ot e)),h.hs⟩
theorem CR.code {c:List (InstrD × Int)} (h:CR s w sb base x av l z cv P tv ts) (h1:P.map Prod.fst=c.map Prod.fst) (h2:ts=c.map Prod.snd):CodeAt z base cv tv c:=by
 have e1:P.length=c.length:=by have:=congrArg List.length h1;simpa using this
 have e2:ts.length=c.length:=by rw [h2];simp
 refine ⟨P,h1,by rw [← e1];exact h.oc,h.rp,?_⟩
 have ho:=h.ot
 rw [e2] at ho
 rw [h2,List.flatMap_map] at ho
 exact ho
end
theorem CodeAt.trn {S:Nat→Prop} {w w':World} {base:Nat} {cv tv:Value} {c:List (InstrD × Int)} (h:CodeAt w base cv tv c) (t:Trn S w w') (hs:∀ b,base≤b→¬ S b):CodeAt w' base cv tv c:=by
 obtain ⟨P,h1,h2,h3,h4⟩:=h
 exact ⟨P,h1,own_trn h2 t (fun k hk=>hs k (own_ge h2 hk)),fun q hq=>(h3 q hq).sameT t hs,own_trn h4 t (fun k hk=>hs k (own_ge h4 hk))⟩
theorem made_rd {w z:World} {base:Nat} {x:InstrD × Int} {av:Value} (hg:GoodI x) (hb:base≤w.heap.size) (ho:z.ownsRow w.heap.size 47 2 av x.1.args.length (x.1.args.flatMap argCells)):RdInstr (some (upFrom base)) z x.1 av:=by
 have ha:=hg.args
 have hn:∀ b:ByteArray,NmOk b→b.size≤maxLen:=fun b h=>by unfold NmOk at h;unfold maxLen;omega
 refine ⟨own_args (own_upS ho hb) (by omega) (fun a hm=>?_),by have:=hg.kind;unfold InU8;omega,by have:=hg.op;unfold InU8;omega,by have:=hg.line;unfold InI64;omega,by have:=hg.col;unfold InI64;omega,hn _ hg.dst,hn _ hg.name⟩
 obtain ⟨h1,h2,h3⟩:=ha.2 a hm
 exact ⟨by unfold InU64;omega,hn _ h1⟩
theorem FRt.made {s:ByteArray} {w6 w w':World} {sb fb b2:Nat} {nm:ByteArray} {pv:Value} {K:List ByteArray} {l l':List UInt8} (h:FRt s w6 sb fb w nm pv K l) (t:Trn (fun k=>k=sb ∨ b2≤k) w w') (hs:TkL w' sb s l') (hm:fb<b2) (hp:∀ k,pv.ownBlock=some k→k<b2):FRt s w6 sb fb w' nm pv K l':=by
 have h1:=h.hf
 have h2:=h.hs
 exact ⟨t.heap h.box (fun e=>by omega),hs,own_trn h.op t (fun k hk e=>by have:=own_ge h.op hk;have:=hp k hk;omega),h.tr.step t (fun i hi e=>by show i=sb;omega),h.hf,h.hs⟩
theorem BdE.trn2 {w w':World} {bb g base:Nat} {E:EnvS} (h:BdE w bb g E) (t:Trn (fun k=>k=g ∨ base≤k) w w') (hb:w.heap.size≤base):BdE w' bb g E:=by
 have hl:=h.lt
 obtain ⟨wd,ca,cc,aa,ac,fa,fc,mv,h1,h2⟩:=h.box
 refine ⟨⟨wd,ca,cc,aa,ac,fa,fc,mv,t.heap h1 (fun e=>by have:=h.hne;omega),fun i n hi=>?_⟩,h.hne,h.hc,h.hc2,h.ha2,h.hp,h.hf2,h.ho⟩
 obtain ⟨b,q,pa,pc,e,hx,hbn⟩:=h2 i n hi
 have hbl:b<w.heap.size:=block_lt_of_cell hx
 exact ⟨b,q,pa,pc,e,by rw [World.cell?_of_block (w:=w) (t.block b hbl (fun e=>by omega))];exact hx,hbn⟩
theorem infoFunR:(Tryz.prog.info? 56).map (fun i=>(i.zero,i.size,i.bytes))=some (some (.agg #[.string ⟨#[]⟩,.slice none 0 0,.slice none 0 0,.int .i64 0,.int .i64 0]),5,80):=by kernel_rfl
open Go.Maps (Keyed int_keyed)
open Go.WideShapes Go.ChangeMaps Go.MapKept Go.WideMaps Go.ChangeAt Go.RowKit Go.ChangeShapes
theorem progR_any (s:ByteArray) (l:List UInt8) (w:World) (hl0:s.data.toList=l) (hsz:s.size≤5000) :
  Calls Tryz.prog 6 #[.string s] w fun e w'=>∃ cv av fv mv,e=.returned (.agg #[.int .i64 (progS l).width,cv,av,fv,mv])∧RdProg (some (upFrom w.heap.size)) w' (progS l) cv av fv mv∧Below w.heap.size w w':=by
 obtain ⟨r,hr⟩:∃ r,w.heap.size=r:=⟨_,rfl⟩
 have a1:=(Below.refl w.heap.size w).alloc (Nat.le_refl _) (.cells #[.int .i64 0,.slice none 0 0,.slice none 0 0,.slice none 0 0,.slice none 0 0] 28)
 have a2:=a1.alloc (by simp) (.cells #[.string s,.int .i64 0] 50)
 have g2:=heap2_of (w:=w) (A:=.cells #[.int .i64 0,.slice none 0 0,.slice none 0 0,.slice none 0 0,.slice none 0 0] 28 (0,0)) (B:=.cells #[.string s,.int .i64 0] 50 (0,0)) (Below.refl _ _)
 have HB2:=Lib.hid a2
 have HS2:Hid (TkL ((w.alloc (.cells #[.int .i64 0,.slice none 0 0,.slice none 0 0,.slice none 0 0,.slice none 0 0] 28)).alloc (.cells #[.string s,.int .i64 0] 50)) (w.heap.size+1) s l):=⟨0,g2.2.1,Nat.zero_le _,by simpa using hl0⟩
 have HR2:=Lib.hid g2.1
 clear a1 a2 g2 hl0
 go_enter Tryz.func6,Tryz.ntmps6
 go_upto_region 2 with fail
 rw [hr] at HB2 HS2 HR2
 try rw [hr]
 generalize (w.alloc (.cells #[.int .i64 0,.slice none 0 0,.slice none 0 0,.slice none 0 0,.slice none 0 0] 28)).alloc (.cells #[.string s,.int .i64 0] 50)=W at *
 obtain ⟨v1,hv⟩:∃ x,(takeS 4 l).1=x:=⟨_,rfl⟩
 obtain ⟨l1,hl1⟩:∃ x,(takeS 4 l).2=x:=⟨_,rfl⟩
 have hvl:v1<4:=by rw [← hv];exact take_small 4 l (by omega)
 have ht:=takeR_any (r+1) s l 4 W HS2.out hsz (by omega) (by omega)
 rw [hv,hl1] at ht
 have HT:=Lib.hid ht
 have HV1:=Lib.hid hv
 have HL1:=Lib.hid hl1
 clear ht hv hl1
 go_upto_region 3 with (first|(go_at_call 13;refine HT.out.mono ?_;rintro e z1 ⟨rfl,hs1,ht1⟩;have HS3:=Lib.hid hs1;have HT1:=Lib.hid ht1;have HZN:=Lib.hid (heap_alloc_new z1 (.cells #[.int .i64 0,.slice none 0 0,.slice none 0 0,.slice none 0 0,.slice none 0 0] 28));clear hs1 ht1)|(refine wpList_store_row rfl 28 (.tmp 4) (.tmp 32) rfl z1.heap.size #[.int .i64 (1+(v1:Int)),.slice none 0 0,.slice none 0 0,.slice none 0 0,.slice none 0 0] rfl rfl 28 #[.int .i64 0,.slice none 0 0,.slice none 0 0,.slice none 0 0,.slice none 0 0] ?hs1 (by as_aux_lemma=>kernel_rfl) (by as_aux_lemma=>kernel_rfl) (by as_aux_lemma=>kernel_rfl) ?_;exact HZN.out))
 have hbn:Below z1.heap.size z1 ((z1.alloc (.cells #[.int .i64 0,.slice none 0 0,.slice none 0 0,.slice none 0 0,.slice none 0 0] 28)).setRow z1.heap.size #[.int .i64 (1+(v1:Int)),.slice none 0 0,.slice none 0 0,.slice none 0 0,.slice none 0 0]):=below_row ((Below.refl z1.heap.size z1).alloc (Nat.le_refl _) (.cells #[.int .i64 0,.slice none 0 0,.slice none 0 0,.slice none 0 0,.slice none 0 0] 28)) (Nat.le_refl _) _
 have hbx:((z1.alloc (.cells #[.int .i64 0,.slice none 0 0,.slice none 0 0,.slice none 0 0,.slice none 0 0] 28)).setRow z1.heap.size #[.int .i64 (1+(v1:Int)),.slice none 0 0,.slice none 0 0,.slice none 0 0,.slice none 0 0]).heap[z1.heap.size]?=some (.cells #[.int .i64 (1+(v1:Int)),.slice none 0 0,.slice none 0 0,.slice none 0 0,.slice none 0 0] 28 (0,0)):=setRow_heap _ _ _ _ _ _ HZN.out
 have hWs:r+1<W.heap.size:=HS2.out.lt
 have hz1:W.heap.size≤z1.heap.size:=HT1.out.size
 have hP:PRt s w z1.heap.size (r+1) r (1+(v1:Int)) ((z1.alloc (.cells #[.int .i64 0,.slice none 0 0,.slice none 0 0,.slice none 0 0,.slice none 0 0] 28)).setRow z1.heap.size #[.int .i64 (1+(v1:Int)),.slice none 0 0,.slice none 0 0,.slice none 0 0,.slice none 0 0]) (.slice none 0 0) (.slice none 0 0) (.slice none 0 0) [] [] [] l1:=by
  have hbw:Below r w z1:=HB2.out.trans (HT1.out.below r (by omega) (fun i hi e=>by have e':i=r+1:=e;omega))
  have hres:=(hbn.block r (by omega)).trans (HT1.out.heap HR2.out (fun e=>by have e':r=r+1:=e;omega))
  exact ⟨hbx,HS3.out.keep hbn,World.ownsRow_nil _ _ _ _,World.ownsRow_nil _ _ _ _,World.ownsRow_nil _ _ _ _,fun q hq=>(by simp at hq),hbw.trans (hbn.mono (by omega)),by omega,by omega,by omega,by omega,hres⟩
 have HP:=Lib.hid hP
 try simp only [Act.put]
 generalize z1.heap.size=pb at *
 clear hP hbn hbx HZN HS3 HT1 HT HB2 HS2 HR2
 generalize (z1.alloc (.cells #[.int .i64 0,.slice none 0 0,.slice none 0 0,.slice none 0 0,.slice none 0 0] 28)).setRow pb #[.int .i64 (1+(v1:Int)),.slice none 0 0,.slice none 0 0,.slice none 0 0,.slice none 0 0]=w2 at *
 obtain ⟨v2,hv⟩:∃ x,(takeS 3 l1).1=x:=⟨_,rfl⟩
 obtain ⟨l2,hl2⟩:∃ x,(takeS 3 l1).2=x:=⟨_,rfl⟩
 have hvl2:v2<3:=by rw [← hv];exact take_small 3 l1 (by omega)
 have ht:=takeR_any (r+1) s l1 3 w2 HP.out.src hsz (by omega) (by omega)
 rw [hv,hl2] at ht
 have HT:=Lib.hid ht
 have HX2:Hid (takeS 3 l1=(v2,l2)):=(by show _=_;rw [← hv,← hl2])
 clear ht hv hl2
 go_upto_region 4 with (go_at_call 13;refine HT.out.mono ?_;rintro e w3 ⟨rfl,hs1,ht1⟩;have HP3:=Lib.hid (HP.out.bytes (by omega) ht1 hs1);clear hs1 ht1)
 clear HT HP
 obtain ⟨iS,hiS,hzS0,hzS1,hzS2⟩:=info_parts infoStrS
 go_loopw [5] (fun v wr=>∃ (i:Nat) (cv:Value),i≤1+v2∧v=.int .i64 i∧PRt s w pb (r+1) r (1+(v1:Int)) wr cv (.slice none 0 0) (.slice none 0 0) ((List.range i).map (nmS 99)) [] [] l2) (fun v _=>1+v2 - (intOf v).toNat)
 case atStart=>exact ⟨0,_,Nat.zero_le _,rfl,HP3.out⟩
 case round=>
  obtain ⟨i,cv,hi,rfl,hp⟩:=hrel
  obtain ⟨w4,rfl⟩:∃ x:World,x=wr:=⟨_,rfl⟩
  have HP4:=Lib.hid hp
  clear hp
  by_cases hlt:i<1+v2
  ·have hlt1:(i:Int)<1+(v2:Int):=by omega
   go_upto_region 6 with fail
   have q1:=keepS_cell (S:=[pb]) (by simp) (row_of HP4.out.box 1 cv rfl)
   refine wp_region_mixS [pb] (.one [0,1,2] 3 (.one [] 4 (.one [] 5 (tailOf [6,7])))) (fun j=>decide (6≤j)) (by kernel_rfl) (by kernel_rfl) rfl (by kernel_rfl) (fun _ d _ _ _ h=>by cases d <;> exact h) ?_
   have HBd:Hid (Below w4.heap.size w4 w4.drew):=(Below.refl _ _).drew
   generalize w4.drew=y0 at *
   have hpx:=(Array.getElem?_eq_some_iff.1 HP4.out.box).1
   have ONE:Hid (∀ z:World,z.heap[pb]?=w4.heap[pb]?→∀ b ∈ [pb],z.heap[b]?=w4.heap[b]?):=fun z hz b hb=>by
    simp only [List.mem_cons,List.not_mem_nil,or_false] at hb
    subst hb
    exact hz
   have HKn:=Lib.hid (ONE.out y0 (HBd.out.block _ hpx))
   obtain ⟨ns,hns⟩:∃ y,nmS 99 i=y:=⟨_,rfl⟩
   have hN:=nameR_any 99 i (by omega) y0
   rw [hns] at hN
   have HN:=Lib.hid hN
   have HNS:=Lib.hid hns
   clear hN hns
   refine mix_one (by simp only [opsOf,List.filterMap_cons,List.filterMap_nil,List.getElem?_toArray,List.getElem?_cons_succ,List.getElem?_cons_zero];rfl) ⟨_,keepS_of HKn.out⟩ ?_
   change wpQuiet _ _ _ _ [_,_,_] _
   (repeat (go_big_quiet_step (fail)))
   clear q1
   refine wpQuiet_nil ?_
   refine mix_step rfl ?_
   go_wp2_with (go_at_call 14;refine HN.out.mono ?_;rintro e z ⟨rfl,hz⟩;subst z)
   (first|refine ⟨fun _=>⟨_,keepS_of HKn.out⟩,?_⟩|refine ⟨⟨_,keepS_of HKn.out⟩,?_⟩)
   have HB1:=HBd
   have HK1:=HKn
   refine mix_now ?_
   refine mix_step rfl ?_
   go_wp2_with fail
   have hal:=(Below.refl y0.heap.size y0).alloc (Nat.le_refl _) (.cells #[.string ns] 9)
   have hnw:=heap_alloc_new y0 (.cells #[.string ns] 9)
   have HB2:=Lib.hid (bcomp HB1.out hal)
   have HK2:=Lib.hid (ONE.out (y0.alloc (.cells #[.string ns] 9)) (HB2.out.block _ hpx))
   obtain ⟨g2,hg2⟩:∃ x,y0.heap.size=x:=⟨_,rfl⟩
   rw [hg2] at hnw
   try rw [hg2]
   have HF2:=Lib.hid hnw
   clear hal hnw hg2
   generalize y0.alloc (.cells #[.string ns] 9)=y2 at *
   (first|refine ⟨fun _=>⟨_,keepS_of HK2.out⟩,?_⟩|refine ⟨⟨_,keepS_of HK2.out⟩,?_⟩)
   have HP5:=Lib.hid (HP4.out.later HB2.out)
   refine mix_now ?_
   refine mix_step rfl ?_
   try (simp only [Act.put,List.setIfInBounds_toArray,List.set_cons_succ,List.set_cons_zero,List.getElem_toArray,List.getElem_cons_succ,List.getElem_cons_zero])
   refine wpList_append_own_at _ rfl (.tmp 42) (.tmp 45) 23 rfl r 9 iS (.string ⟨#[]⟩) 1 16 Tryz.underlying23 hiS hzS0 hzS1 hzS2 rfl (by decide) _ _ _ rfl HP5.out.oc ⟨g2,0,none⟩ 1 1 [.string ns] rfl rfl ?sa1 ?sb1 ?sc1 ?sd1 (Nat.le_trans HP5.out.hb0 HP5.out.below.size) ?_
   case sa1=>exact row_news (xs:=[.string ns]) HF2.out
   case sb1=>intro u hu;simp only [List.mem_cons,List.not_mem_nil,or_false] at hu;subst hu;rfl
   case sc1=>simp only [List.length_map,List.length_range];unfold maxLen;omega
   case sd1=>simp only [List.length_map,List.length_range];omega
   intro v' y3 hown' hgrow _ hblk
   obtain ⟨xa,xc,rfl,_⟩:=own_read hown'
   have hbx3:=(Trn.of_grown (S:=fun b=>cv.ownBlock=some b) hgrow (fun b e=>e)).heap HP5.out.box (not_own HP5.out.oc HP5.out.box (by decide))
   have HBX:=Lib.hid hbx3
   have HP6:=Lib.hid (HP5.out.chan hgrow hown')
   clear hown' hgrow hblk hbx3
   try (simp only [Act.put,List.setIfInBounds_toArray,List.set_cons_succ,List.set_cons_zero,List.getElem_toArray,List.getElem_cons_succ,List.getElem_cons_zero])
   go_wp2_with fail
   have HK3:=Lib.hid (ONE.out y3 (HBX.out.trans HP4.out.box.symm))
   (first|refine ⟨fun _=>⟨_,keepS_of HK3.out⟩,?_⟩|refine ⟨⟨_,keepS_of HK3.out⟩,?_⟩)
   have c1:=row_of HBX.out 1 cv rfl
   have f1:=frozen_of_row y3 pb 1 _ _ HBX.out
   refine mix_tail [6,7] [_,_] _ _ rfl rfl ?_
   simp only [Act.put,List.setIfInBounds_toArray,List.set_cons_succ,List.set_cons_zero,List.getElem_toArray,List.getElem_cons_succ,List.getElem_cons_zero]
   go_wp2_with fail
   clear c1 f1
   go_roundw
   case rel=>exact ⟨i+1,_,by omega,by go_num,by
    have h:=HP6.out
    rw [← HNS.out] at h
    simp only [List.length_map,List.length_range] at h
    rw [List.range_succ,List.map_append]
    exact h⟩
   case measure=>simp [intOf];omega
  ·have hlt1:¬ (i:Int)<1+(v2:Int):=by omega
   obtain ⟨C,hC⟩:∃ C,(List.range i).map (nmS 99)=C:=⟨_,rfl⟩
   have HC:Hid (C=(List.range (1+v2)).map (nmS 99)):=by show _=_;rw [← hC,show i=1+v2 by omega]
   rw [hC] at HP4
   clear hC
   obtain ⟨v3,hv⟩:∃ x,(takeS 3 l2).1=x:=⟨_,rfl⟩
   obtain ⟨l3,hl3⟩:∃ x,(takeS 3 l2).2=x:=⟨_,rfl⟩
   have hvl3:v3<3:=by rw [← hv];exact take_small 3 l2 (by omega)
   have ht:=takeR_any (r+1) s l2 3 w4 HP4.out.src hsz (by omega) (by omega)
   rw [hv,hl3] at ht
   have HT:=Lib.hid ht
   have HX3:Hid (takeS 3 l2=(v3,l3)):=(by show _=_;rw [← hv,← hl3])
   clear ht hv hl3
   go_upto_region 8 with (go_at_call 13;refine HT.out.mono ?_;rintro e w5 ⟨rfl,hs1,ht1⟩;have HP5:=Lib.hid (HP4.out.bytes (by omega) ht1 hs1);clear hs1 ht1)
   clear HT HP4
   obtain ⟨iA,hiA,hzA0,hzA1,hzA2⟩:=info_parts infoArrS
   go_loopw [7] (fun v wr=>∃ (i:Nat) (av:Value) (A:List ArrD) (lc:List UInt8),i≤v3∧v=.int .i64 i∧A.length=i∧Hid (timesS arrOne v3 0 [] l3=timesS arrOne (v3 - i) i A lc)∧PRt s w pb (r+1) r (1+(v1:Int)) wr cv av (.slice none 0 0) C A [] lc) (fun v _=>v3 - (intOf v).toNat)
   case atStart=>exact ⟨0,_,[],l3,Nat.zero_le _,rfl,rfl,rfl,HP5.out⟩
   case round=>
    obtain ⟨i,av,A,lc,hi,rfl,hAl,HIN,hp⟩:=hrel
    obtain ⟨w6,rfl⟩:∃ x:World,x=wr:=⟨_,rfl⟩
    have HP6:=Lib.hid hp
    clear hp
    by_cases hlt:i<v3
    ·have hlt1:(i:Int)<(v3:Int):=by omega
     obtain ⟨v4,hv⟩:∃ x,(takeS 4 lc).1=x:=⟨_,rfl⟩
     obtain ⟨l4,hl4⟩:∃ x,(takeS 4 lc).2=x:=⟨_,rfl⟩
     have hvl4:v4<4:=by rw [← hv];exact take_small 4 lc (by omega)
     have HIN2:Hid (timesS arrOne v3 0 [] l3=timesS arrOne (v3 - (i+1)) (i+1) (A ++ [⟨nmS 97 i,1+(v4:Int)⟩]) l4):=by
      show _=_
      rw [HIN.out,show v3 - i=(v3 - (i+1))+1 by omega,← hv,← hl4]
      rfl
     go_upto_region 10 with fail
     have q2:=keepS_cell (S:=[pb]) (by simp) (row_of HP6.out.box 2 av rfl)
     refine wp_region_mixS [pb] (.one [0,1,2,4] 3 (.one [] 5 (.one [6,7] 8 (.one [] 9 (tailOf [10,11]))))) (fun j=>decide (10≤j)) (by kernel_rfl) (by kernel_rfl) rfl (by kernel_rfl) (fun _ d _ _ _ h=>by cases d <;> exact h) ?_
     have HBd:Hid (Below w6.heap.size w6 w6.drew):=(Below.refl _ _).drew
     generalize w6.drew=y0 at *
     have hpx:=(Array.getElem?_eq_some_iff.1 HP6.out.box).1
     have ONE:Hid (∀ z:World,z.heap[pb]?=w6.heap[pb]?→∀ b ∈ [pb],z.heap[b]?=w6.heap[b]?):=fun z hz b hb=>by
      simp only [List.mem_cons,List.not_mem_nil,or_false] at hb
      subst hb
      exact hz
     have HKn:=Lib.hid (ONE.out y0 (HBd.out.block _ hpx))
     obtain ⟨ns,hns⟩:∃ y,nmS 97 i=y:=⟨_,rfl⟩
     have hN:=nameR_any 97 i (by omega) y0
     rw [hns] at hN
     have HN:=Lib.hid hN
     have HNS:=Lib.hid hns
     clear hN hns
     refine mix_one (by simp only [opsOf,List.filterMap_cons,List.filterMap_nil,List.getElem?_toArray,List.getElem?_cons_succ,List.getElem?_cons_zero];rfl) ⟨_,keepS_of HKn.out⟩ ?_
     change wpQuiet _ _ _ _ [_,_,_,_] _
     (repeat (go_big_quiet_step (fail)))
     clear q2
     refine wpQuiet_nil ?_
     refine mix_step rfl ?_
     go_wp2_with (go_at_call 14;refine HN.out.mono ?_;rintro e z ⟨rfl,hz⟩;subst z)
     (first|refine ⟨fun _=>⟨_,keepS_of HKn.out⟩,?_⟩|refine ⟨⟨_,keepS_of HKn.out⟩,?_⟩)
     have HB1:=HBd
     have HK1:=HKn
     have HPy0:=Lib.hid (HP6.out.later HB1.out)
     have ht:=takeR_any (r+1) s lc 4 y0 HPy0.out.src hsz (by omega) (by omega)
     rw [hv,hl4] at ht
     have HT:=Lib.hid ht
     clear ht hv hl4
     refine mix_now ?_
     refine mix_step rfl ?_
     go_wp2_with (go_at_call 13;refine HT.out.mono ?_;rintro e y2 ⟨rfl,hs1,ht1⟩)
     have HPy2:=Lib.hid (HPy0.out.bytes (by omega) ht1 hs1)
     have HK2:=Lib.hid (ONE.out y2 (HPy2.out.box.trans HP6.out.box.symm))
     clear hs1 ht1 HT
     (first|refine ⟨fun _=>⟨_,keepS_of HK2.out⟩,?_⟩|refine ⟨⟨_,keepS_of HK2.out⟩,?_⟩)
     refine mix_one (by simp only [opsOf,List.filterMap_cons,List.filterMap_nil,List.getElem?_toArray,List.getElem?_cons_succ,List.getElem?_cons_zero];rfl) ⟨_,keepS_of HK2.out⟩ ?_
     change wpQuiet _ _ _ _ [_,_] _
     (repeat (go_big_quiet_step (fail)))
     refine wpQuiet_nil ?_
     refine mix_step rfl ?_
     go_wp2_with fail
     have hal:=(Below.refl y2.heap.size y2).alloc (Nat.le_refl _) (.cells #[.string ns,.int .i64 (1+(v4:Int))] 54)
     have hnw:=heap_alloc_new y2 (.cells #[.string ns,.int .i64 (1+(v4:Int))] 54)
     have HPy3:=Lib.hid (HPy2.out.later hal)
     have HK3:=Lib.hid (ONE.out (y2.alloc (.cells #[.string ns,.int .i64 (1+(v4:Int))] 54)) (HPy3.out.box.trans HP6.out.box.symm))
     obtain ⟨g2,hg2⟩:∃ x,y2.heap.size=x:=⟨_,rfl⟩
     rw [hg2] at hnw
     try rw [hg2]
     have HF2:=Lib.hid hnw
     clear hal hnw hg2
     generalize y2.alloc (.cells #[.string ns,.int .i64 (1+(v4:Int))] 54)=y3 at *
     (first|refine ⟨fun _=>⟨_,keepS_of HK3.out⟩,?_⟩|refine ⟨⟨_,keepS_of HK3.out⟩,?_⟩)
     refine mix_now ?_
     refine mix_step rfl ?_
     try (simp only [Act.put,List.setIfInBounds_toArray,List.set_cons_succ,List.set_cons_zero,List.getElem_toArray,List.getElem_cons_succ,List.getElem_cons_zero])
     refine wpList_append_own_at _ rfl (.tmp 56) (.tmp 63) 24 rfl r 54 iA (.agg #[.string ⟨#[]⟩,.int .i64 0]) 2 24 Tryz.underlying24 hiA hzA0 hzA1 hzA2 rfl (by decide) _ _ _ rfl HPy3.out.oa ⟨g2,0,none⟩ 1 1 (arrCells ⟨ns,1+(v4:Int)⟩) rfl rfl ?ta1 ?tb1 ?tc1 ?td1 (Nat.le_trans HPy3.out.hb0 HPy3.out.below.size) ?_
     case ta1=>exact row_news (xs:=arrCells ⟨ns,1+(v4:Int)⟩) HF2.out
     case tb1=>intro u hu;simp [arrCells] at hu;rcases hu with rfl|rfl <;> rfl
     case tc1=>unfold maxLen;omega
     case td1=>omega
     intro v' y4 hown' hgrow _ hblk
     obtain ⟨xa,xc,rfl,_⟩:=own_read hown'
     have hbx3:=(Trn.of_grown (S:=fun b=>av.ownBlock=some b) hgrow (fun b e=>e)).heap HPy3.out.box (not_own HPy3.out.oa HPy3.out.box (by decide))
     have HBX:=Lib.hid hbx3
     have HPy5:=Lib.hid (HPy3.out.arr hgrow hown')
     clear hown' hgrow hblk hbx3
     try (simp only [Act.put,List.setIfInBounds_toArray,List.set_cons_succ,List.set_cons_zero,List.getElem_toArray,List.getElem_cons_succ,List.getElem_cons_zero])
     go_wp2_with fail
     have HK4:=Lib.hid (ONE.out y4 (HBX.out.trans HP6.out.box.symm))
     (first|refine ⟨fun _=>⟨_,keepS_of HK4.out⟩,?_⟩|refine ⟨⟨_,keepS_of HK4.out⟩,?_⟩)
     have c2:=row_of HBX.out 2 av rfl
     have f2:=frozen_of_row y4 pb 2 _ _ HBX.out
     refine mix_tail [10,11] [_,_] _ _ rfl rfl ?_
     simp only [Act.put,List.setIfInBounds_toArray,List.set_cons_succ,List.set_cons_zero,List.getElem_toArray,List.getElem_cons_succ,List.getElem_cons_zero]
     go_wp2_with fail
     clear c2 f2
     rw [HNS.out] at HIN2
     go_roundw
     case rel=>exact ⟨i+1,_,A ++ [⟨ns,1+(v4:Int)⟩],l4,by omega,by go_num,by simp [hAl],HIN2,(by have h:=HPy5.out;rw [hAl] at h;exact h)⟩
     case measure=>simp [intOf];omega
    ·have hlt1:¬ (i:Int)<(v3:Int):=by omega
     obtain rfl:i=v3:=by omega
     have HA:Hid (timesS arrOne i 0 [] l3=(A,lc)):=by show _=_;rw [HIN.out,Nat.sub_self];rfl
     have hAl2:A.length≤2:=by omega
     have HCL:Hid (C.length=1+v2):=by show _=_;rw [HC.out];simp
     clear HIN hAl
     obtain ⟨v5,hv⟩:∃ x,(takeS 3 lc).1=x:=⟨_,rfl⟩
     obtain ⟨l5,hl5⟩:∃ x,(takeS 3 lc).2=x:=⟨_,rfl⟩
     have hvl5:v5<3:=by rw [← hv];exact take_small 3 lc (by omega)
     have ht:=takeR_any (r+1) s lc 3 w6 HP6.out.src hsz (by omega) (by omega)
     rw [hv,hl5] at ht
     have HT:=Lib.hid ht
     have HX5:Hid (takeS 3 lc=(v5,l5)):=(by show _=_;rw [← hv,← hl5])
     clear ht hv hl5
     go_upto_region 12 with (go_at_call 13;refine HT.out.mono ?_;rintro e w7 ⟨rfl,hs1,ht1⟩;have HP7:=Lib.hid (HP6.out.bytes (by omega) ht1 hs1);clear hs1 ht1)
     clear HT HP6
     obtain ⟨iF,hiF,hzF0,hzF1,hzF2⟩:=info_parts infoFunR
     obtain ⟨iI,hiI,hzI0,hzI1,hzI2⟩:=info_parts infoInstr
     obtain ⟨iN,hiN,hzN0,hzN1,hzN2⟩:=info_parts infoIntS
     go_loopw [9,11,12,13,14,15,16,17,18,19,20] (fun v _ _ _ _ _ _ _ _ _ _ wr=>∃ (j:Nat) (fv:Value) (F:List (FuncD × Value × Value)) (lf:List UInt8),j≤v5∧v=.int .i64 j∧F.length=j∧Hid (funcsS A.length C.length v5 [] l5=funcsS A.length C.length (v5 - j) (F.map Prod.fst) lf)∧(∀ q ∈ F,q.1.params.length≤90)∧PRt s w pb (r+1) r (1+(v1:Int)) wr cv av fv C A F lf) (fun v _ _ _ _ _ _ _ _ _ _ _=>v5 - (intOf v).toNat)
     case atStart=>exact ⟨0,_,[],l5,Nat.zero_le _,rfl,rfl,rfl,(fun q hq=>by simp at hq),HP7.out⟩
     case round=>
      obtain ⟨j,fv,F,lf,hj,rfl,hFl,HFN,hFP,hp⟩:=hrel
      obtain ⟨w8,rfl⟩:∃ x:World,x=wr:=⟨_,rfl⟩
      obtain ⟨ca,cc,rfl,-⟩:=own_read hp.oc
      obtain ⟨aa,ac,rfl,-⟩:=own_read hp.oa
      obtain ⟨fa,fc,rfl,-⟩:=own_read hp.of
      have HP8:=Lib.hid hp
      have HFL:=Lib.hid hFl
      have HFP:=Lib.hid hFP
      have hcl2:C.length≤90:=by have:=HCL.out;omega
      have hcl1:1≤C.length:=by have:=HCL.out;omega
      have hfl2:F.length≤90:=by omega
      clear hp hFl hFP
      by_cases hlt:j<v5
      ·have hlt1:(j:Int)<(v5:Int):=by omega
       have hsw8:r+1<w8.heap.size:=HP8.out.src.lt
       obtain ⟨ns,hns⟩:∃ y,nmS 102 j=y:=⟨_,rfl⟩
       have hN:=nameR_any 102 j (by omega) w8
       rw [hns] at hN
       have HN:=Lib.hid hN
       have HNS:=Lib.hid hns
       have HZN:=Lib.hid (heap_alloc_new w8 (.cells #[.string ⟨#[]⟩,.slice none 0 0,.slice none 0 0,.int .i64 0,.int .i64 0] 56))
       clear hN hns
       go_upto_region 15 with (first|(go_at_call 14;refine HN.out.mono ?_;rintro e z ⟨rfl,hz⟩;subst z)|(refine wpList_store_row rfl 56 (.tmp 11) (.tmp 75) rfl w8.heap.size #[.string ns,.slice none 0 0,.slice none 0 0,.int .i64 0,.int .i64 0] rfl rfl 56 #[.string ⟨#[]⟩,.slice none 0 0,.slice none 0 0,.int .i64 0,.int .i64 0] HZN.out (by as_aux_lemma=>kernel_rfl) (by as_aux_lemma=>kernel_rfl) (by as_aux_lemma=>kernel_rfl) ?_))
       have hb9:=below_row ((Below.refl w8.heap.size w8).alloc (Nat.le_refl _) (.cells #[.string ⟨#[]⟩,.slice none 0 0,.slice none 0 0,.int .i64 0,.int .i64 0] 56)) (Nat.le_refl _) #[.string ns,.slice none 0 0,.slice none 0 0,.int .i64 0,.int .i64 0]
       have HF9:Hid (FRt s w8 (r+1) w8.heap.size ((w8.alloc (.cells #[.string ⟨#[]⟩,.slice none 0 0,.slice none 0 0,.int .i64 0,.int .i64 0] 56)).setRow w8.heap.size #[.string ns,.slice none 0 0,.slice none 0 0,.int .i64 0,.int .i64 0]) ns (.slice none 0 0) [] lf):=⟨setRow_heap _ _ _ _ _ _ HZN.out,HP8.out.src.keep hb9,World.ownsRow_nil _ _ _ _,Trn.of_below hb9,Nat.le_refl _,hsw8⟩
       try simp only [Act.put]
       clear hb9 HZN HN
       generalize (w8.alloc (.cells #[.string ⟨#[]⟩,.slice none 0 0,.slice none 0 0,.int .i64 0,.int .i64 0] 56)).setRow w8.heap.size #[.string ns,.slice none 0 0,.slice none 0 0,.int .i64 0,.int .i64 0]=w9 at *
       have hf8:r≤w8.heap.size:=by omega
       generalize w8.heap.size=fb at *
       obtain ⟨np,hv⟩:∃ x,(takeS 3 lf).1=x:=⟨_,rfl⟩
       obtain ⟨l7,hl7⟩:∃ x,(takeS 3 lf).2=x:=⟨_,rfl⟩
       have hnp:np<3:=by rw [← hv];exact take_small 3 lf (by omega)
       have ht:=takeR_any (r+1) s lf 3 w9 HF9.out.src hsz (by omega) (by omega)
       rw [hv,hl7] at ht
       have HT:=Lib.hid ht
       have HX7:Hid (takeS 3 lf=(np,l7)):=(by show _=_;rw [← hv,← hl7])
       clear ht hv hl7
       go_upto_region 16 with (go_at_call 13;refine HT.out.mono ?_;rintro e w10 ⟨rfl,hs1,ht1⟩;have HF10:=Lib.hid (HF9.out.bytes ht1 hs1);clear hs1 ht1)
       clear HT HF9
       go_loopw [12] (fun v wr=>∃ (k:Nat) (pv:Value),k≤np∧v=.int .i64 k∧FRt s w8 (r+1) fb wr ns pv ((List.range k).map (nmS 112)) l7) (fun v _=>np - (intOf v).toNat)
       case atStart=>exact ⟨0,_,Nat.zero_le _,rfl,HF10.out⟩
       case round=>
        obtain ⟨k,pv,hk,rfl,hf⟩:=hrel
        obtain ⟨w11,rfl⟩:∃ x:World,x=wr:=⟨_,rfl⟩
        have HF11:=Lib.hid hf
        clear hf
        by_cases hltp:k<np
        ·have hlt2:(k:Int)<(np:Int):=by omega
         go_upto_region 18 with fail
         have q1:=keepS_cell (S:=[fb]) (by simp) (row_of HF11.out.box 1 pv rfl)
         refine wp_region_mixS [fb] (.one [0,1,2] 3 (.one [] 4 (.one [] 5 (tailOf [6,7])))) (fun j=>decide (6≤j)) (by kernel_rfl) (by kernel_rfl) rfl (by kernel_rfl) (fun _ d _ _ _ h=>by cases d <;> exact h) ?_
         have HBd:Hid (Below w11.heap.size w11 w11.drew):=(Below.refl _ _).drew
         generalize w11.drew=y0 at *
         have hpx:=(Array.getElem?_eq_some_iff.1 HF11.out.box).1
         have ONE:Hid (∀ z:World,z.heap[fb]?=w11.heap[fb]?→∀ b ∈ [fb],z.heap[b]?=w11.heap[b]?):=fun z hz b hb=>by
          simp only [List.mem_cons,List.not_mem_nil,or_false] at hb
          subst hb
          exact hz
         have HKn:=Lib.hid (ONE.out y0 (HBd.out.block _ hpx))
         obtain ⟨ps,hns⟩:∃ y,nmS 112 k=y:=⟨_,rfl⟩
         have hN:=nameR_any 112 k (by omega) y0
         rw [hns] at hN
         have HN:=Lib.hid hN
         have HPS:=Lib.hid hns
         clear hN hns
         refine mix_one (by simp only [opsOf,List.filterMap_cons,List.filterMap_nil,List.getElem?_toArray,List.getElem?_cons_succ,List.getElem?_cons_zero];rfl) ⟨_,keepS_of HKn.out⟩ ?_
         change wpQuiet _ _ _ _ [_,_,_] _
         (repeat (go_big_quiet_step (fail)))
         clear q1
         refine wpQuiet_nil ?_
         refine mix_step rfl ?_
         go_wp2_with (go_at_call 14;refine HN.out.mono ?_;rintro e z ⟨rfl,hz⟩;subst z)
         (first|refine ⟨fun _=>⟨_,keepS_of HKn.out⟩,?_⟩|refine ⟨⟨_,keepS_of HKn.out⟩,?_⟩)
         have HB1:=HBd
         have HK1:=HKn
         refine mix_now ?_
         refine mix_step rfl ?_
         go_wp2_with fail
         have hal:=(Below.refl y0.heap.size y0).alloc (Nat.le_refl _) (.cells #[.string ps] 9)
         have hnw:=heap_alloc_new y0 (.cells #[.string ps] 9)
         have HB2:=Lib.hid (bcomp HB1.out hal)
         have HK2:=Lib.hid (ONE.out (y0.alloc (.cells #[.string ps] 9)) (HB2.out.block _ hpx))
         obtain ⟨g2,hg2⟩:∃ x,y0.heap.size=x:=⟨_,rfl⟩
         rw [hg2] at hnw
         try rw [hg2]
         have HF2:=Lib.hid hnw
         clear hal hnw hg2
         generalize y0.alloc (.cells #[.string ps] 9)=y2 at *
         (first|refine ⟨fun _=>⟨_,keepS_of HK2.out⟩,?_⟩|refine ⟨⟨_,keepS_of HK2.out⟩,?_⟩)
         have HP5:=Lib.hid (HF11.out.later HB2.out)
         have hfy2:fb≤y2.heap.size:=by have:=HB2.out.size;have:=(Array.getElem?_eq_some_iff.1 HF11.out.box).1;omega
         refine mix_now ?_
         refine mix_step rfl ?_
         try (simp only [Act.put,List.setIfInBounds_toArray,List.set_cons_succ,List.set_cons_zero,List.getElem_toArray,List.getElem_cons_succ,List.getElem_cons_zero])
         refine wpList_append_own_at _ rfl (.tmp 84) (.tmp 87) 23 rfl fb 9 iS (.string ⟨#[]⟩) 1 16 Tryz.underlying23 hiS hzS0 hzS1 hzS2 rfl (by decide) _ _ _ rfl HP5.out.op ⟨g2,0,none⟩ 1 1 [.string ps] rfl rfl ?qa1 ?qb1 ?qc1 ?qd1 hfy2 ?_
         case qa1=>exact row_news (xs:=[.string ps]) HF2.out
         case qb1=>intro u hu;simp only [List.mem_cons,List.not_mem_nil,or_false] at hu;subst hu;rfl
         case qc1=>simp only [List.length_map,List.length_range];unfold maxLen;omega
         case qd1=>simp only [List.length_map,List.length_range];omega
         intro v' y3 hown' hgrow _ hblk
         obtain ⟨xa,xc,rfl,_⟩:=own_read hown'
         have hbx3:=(Trn.of_grown (S:=fun b=>pv.ownBlock=some b) hgrow (fun b e=>e)).heap HP5.out.box (not_own HP5.out.op HP5.out.box (by decide))
         have HBX:=Lib.hid hbx3
         have HP6:=Lib.hid (HP5.out.par hgrow hown')
         clear hown' hgrow hblk hbx3
         try (simp only [Act.put,List.setIfInBounds_toArray,List.set_cons_succ,List.set_cons_zero,List.getElem_toArray,List.getElem_cons_succ,List.getElem_cons_zero])
         go_wp2_with fail
         have HK3:=Lib.hid (ONE.out y3 (HBX.out.trans HF11.out.box.symm))
         (first|refine ⟨fun _=>⟨_,keepS_of HK3.out⟩,?_⟩|refine ⟨⟨_,keepS_of HK3.out⟩,?_⟩)
         have c1:=row_of HBX.out 1 pv rfl
         have f1:=frozen_of_row y3 fb 1 _ _ HBX.out
         refine mix_tail [6,7] [_,_] _ _ rfl rfl ?_
         simp only [Act.put,List.setIfInBounds_toArray,List.set_cons_succ,List.set_cons_zero,List.getElem_toArray,List.getElem_cons_succ,List.getElem_cons_zero]
         go_wp2_with fail
         clear c1 f1
         go_roundw
         case rel=>exact ⟨k+1,_,by omega,by go_num,by
          have h:=HP6.out
          rw [← HPS.out] at h
          simp only [List.length_map,List.length_range] at h
          rw [List.range_succ,List.map_append]
          exact h⟩
         case measure=>simp [intOf];omega
        ·have hlt2:¬ (k:Int)<(np:Int):=by omega
         obtain ⟨K,hK⟩:∃ K,(List.range k).map (nmS 112)=K:=⟨_,rfl⟩
         have HKE:Hid (K=(List.range np).map (nmS 112)):=by show _=_;rw [← hK,show k=np by omega]
         have hKl:K.length≤2:=by rw [← hK];simp;omega
         rw [hK] at HF11
         clear hK
         have HPW:=Lib.hid (HP8.out.bytes (by omega) HF11.out.tr HF11.out.src)
         obtain ⟨pa,pc,rfl,-⟩:=own_read HF11.out.op
         have hpk:∀ b,(Value.slice pa K.length pc).ownBlock=some b→b<w11.heap.size:=fun b hb=>own_lt HF11.out.op hb
         have HPK:=Lib.hid hpk
         have hfb11:fb<w11.heap.size:=(Array.getElem?_eq_some_iff.1 HF11.out.box).1
         have hsw11:r+1<w11.heap.size:=HF11.out.src.lt
         have hal:=(Below.refl w11.heap.size w11).alloc (Nat.le_refl _) (.cells #[.pointer (some ⟨r+1,0,none⟩),.int .i64 (1+(v1:Int)),.slice ca C.length cc,.slice aa A.length ac,.slice fa F.length fc,.slice none 0 0,.int .i64 (K.length:Nat),.int .i64 (j:Nat),.bool false] 59)
         have hmk:=heap_alloc_new w11 (.cells #[.pointer (some ⟨r+1,0,none⟩),.int .i64 (1+(v1:Int)),.slice ca C.length cc,.slice aa A.length ac,.slice fa F.length fc,.slice none 0 0,.int .i64 (K.length:Nat),.int .i64 (j:Nat),.bool false] 59)
         obtain ⟨E,hEd⟩:∃ E:EnvS,(⟨A.length,C.length,K.length,F.map fun q=>q.1.params.length,false⟩:EnvS)=E:=⟨_,rfl⟩
         have HEO:Hid (EnvOk E):=by
          show EnvOk E
          rw [← hEd]
          exact ⟨by show A.length≤100;omega,by show C.length≤100;omega,by show K.length≤100;omega,by show (F.map fun q=>q.1.params.length).length≤100;rw [List.length_map];omega,fun n hn=>by
           obtain ⟨q,hq,rfl⟩:=List.mem_map.1 hn
           exact Nat.le_trans (HFP.out q hq) (by omega)⟩
         have he12:=HPW.out.env (bb:=w11.heap.size) (z:=w11.alloc (.cells #[.pointer (some ⟨r+1,0,none⟩),.int .i64 (1+(v1:Int)),.slice ca C.length cc,.slice aa A.length ac,.slice fa F.length fc,.slice none 0 0,.int .i64 (K.length:Nat),.int .i64 (j:Nat),.bool false] 59)) (mv:=.slice none 0 0) (par:=K.length) (mn:=false) hal (Nat.le_refl _) (by unfold BdAt;have h:=HFL.out;rw [h] at hmk ⊢;exact hmk) hcl1 hcl2 (by omega) (by omega) hfl2 HFP.out
         rw [hEd] at he12
         have HE12:=Lib.hid he12
         have HF12:=Lib.hid (HF11.out.later hal)
         have hsz12:w11.heap.size+1≤(w11.alloc (.cells #[.pointer (some ⟨r+1,0,none⟩),.int .i64 (1+(v1:Int)),.slice ca C.length cc,.slice aa A.length ac,.slice fa F.length fc,.slice none 0 0,.int .i64 (K.length:Nat),.int .i64 (j:Nat),.bool false] 59)).heap.size:=by simp
         have HED:=Lib.hid hEd
         have hq0:=row_of HPW.out.box 0 _ rfl
         have hq1:=row_of HPW.out.box 1 _ rfl
         have hq2:=row_of HPW.out.box 2 _ rfl
         have hq3:=row_of HPW.out.box 3 _ rfl
         have hq4:=row_of HPW.out.box 4 _ rfl
         have hq5:=row_of HF11.out.box 1 (.slice pa K.length pc) rfl
         clear hal he12 hEd hpk hmk
         go_upto_region 22 with fail
         clear hq0 hq1 hq2 hq3 hq4 hq5
         generalize w11.alloc (.cells #[.pointer (some ⟨r+1,0,none⟩),.int .i64 (1+(v1:Int)),.slice ca C.length cc,.slice aa A.length ac,.slice fa F.length fc,.slice none 0 0,.int .i64 (K.length:Nat),.int .i64 (j:Nat),.bool false] 59)=w12 at *
         clear HF11
         generalize w11.heap.size=m at *
         obtain ⟨nm,hv⟩:∃ x,(takeS 7 l7).1=x:=⟨_,rfl⟩
         obtain ⟨l8,hl8⟩:∃ x,(takeS 7 l7).2=x:=⟨_,rfl⟩
         have hnm:nm<7:=by rw [← hv];exact take_small 7 l7 (by omega)
         have ht:=takeR_any (r+1) s l7 7 w12 HF12.out.src hsz (by omega) (by omega)
         rw [hv,hl8] at ht
         have HT:=Lib.hid ht
         have HX8:Hid (takeS 7 l7=(nm,l8)):=(by show _=_;rw [← hv,← hl8])
         clear ht hv hl8
         go_upto_region 23 with (go_at_call 13;refine HT.out.mono ?_;rintro e w13 ⟨rfl,hs1,ht1⟩;have HF13:=Lib.hid (HF12.out.bytes ht1 hs1);have HE13:=Lib.hid (HE12.out.trn ht1);have hsz13:m+1≤w13.heap.size:=Nat.le_trans hsz12 ht1.size;clear hs1 ht1)
         clear HT HF12 HE12
         obtain ⟨b2,hb2⟩:∃ x,w13.heap.size=x:=⟨_,rfl⟩
         rw [hb2] at hsz13
         have HBS:=Lib.hid hb2
         clear hb2
         go_loopw [15,16,17,19,20] (fun v15 v16 v17 _ _ wr=>∃ (ii:Nat) (c:List (InstrD × Int)) (lq:List UInt8),ii≤nm∧v17=.int .i64 ii∧c.length=ii∧(∀ x ∈ c,GoodI x)∧Hid (codeS E nm [] l8=codeS E (nm - ii) c lq)∧CodeAt wr b2 v15 v16 c∧FRt s w8 (r+1) fb wr ns (.slice pa K.length pc) K lq∧Trn (fun k=>k=r+1 ∨ b2≤k) w13 wr) (fun _ _ v17 _ _ _=>nm - (intOf v17).toNat)
         case atStart=>exact ⟨0,[],l8,Nat.zero_le _,rfl,rfl,(fun x hx=>by simp at hx),rfl,code_nil _ _,HF13.out,Trn.refl _ _⟩
         case round=>
          obtain ⟨ii,c,lq,hii,rfl,hcl,hgood,HCI,hco,hft,htr⟩:=hrel
          obtain ⟨w14,rfl⟩:∃ x:World,x=wr:=⟨_,rfl⟩
          have HCO:=Lib.hid hco
          have HFT:=Lib.hid hft
          have HTR:=Lib.hid htr
          have HGO:=Lib.hid hgood
          subst hcl
          have hc6:c.length≤7:=by omega
          have hsz14:b2≤w14.heap.size:=by have:=htr.size;have:=HBS.out;omega
          clear hco hft htr hgood
          by_cases hltn:c.length<nm
          ·have hlt3:(c.length:Int)<(nm:Int):=by omega
           obtain ⟨⟨⟨xk,xo,xd,xn,xargs,xl,xc⟩,xt⟩,hxx⟩:∃ x,(instrS E c.length lq).1=x:=⟨_,rfl⟩
           obtain ⟨lq2,hlq2⟩:∃ x,(instrS E c.length lq).2=x:=⟨_,rfl⟩
           have hgx:=good_instr HEO.out c.length (by omega) lq
           rw [hxx] at hgx
           obtain rfl:xl=0:=hgx.line
           obtain rfl:xc=0:=hgx.col
           have HI:=instrR_any m (r+1) s E c.length lq w14 (HE13.out.trn2 HTR.out (Nat.le_of_eq HBS.out)) HFT.out.src hsz (by omega)
           rw [hxx,hlq2] at HI
           have HI:=Lib.hid HI
           have HXX:Hid (instrS E c.length lq=((⟨xk,xo,xd,xn,xargs,0,0⟩,xt),lq2)):=(by show _=_;rw [← hxx,← hlq2])
           have HGX:=Lib.hid hgx
           clear hxx hlq2 hgx
           go_upto_region 26 with (go_at_call 15;refine HI.out.mono ?_;rintro e z ⟨av2,rfl,ho,hs1,ht1⟩;obtain ⟨aa2,ac2,rfl,-⟩:=own_read ho;have HZO:=Lib.hid ho;have HZS:=Lib.hid hs1;have HZT:=Lib.hid ht1;clear ho hs1 ht1)
           obtain ⟨P,hP1,hP2,hP3,hP4⟩:=HCO.out.trn HZT.out (fun b hb e=>by have e':b=r+1:=e;omega)
           have hPl:P.length=c.length:=by have:=congrArg List.length hP1;simpa using this
           have HQ0:Hid (CR s w13 (r+1) b2 ⟨xk,xo,xd,xn,xargs,0,0⟩ (.slice aa2 xargs.length ac2) lq2 z u15 P u16 (c.map Prod.snd)):=⟨HZS.out,by rw [hPl];exact hP2,hP3,made_rd HGX.out (by have:=HTR.out.size;omega) HZO.out,by rw [List.length_map,List.flatMap_map];exact hP4,HTR.out.trans (HZT.out.mono fun i h=>.inl h),by omega⟩
           have HPF:=Lib.hid hP1
           have HPL:=Lib.hid hPl
           have hP40:P.length≤40:=by omega
           have hbz:b2≤z.heap.size:=by have:=HTR.out.size;have:=HZT.out.size;omega
           clear hP1 hP2 hP3 hP4 hPl
           have hal:=(Below.refl z.heap.size z).alloc (Nat.le_refl _) (.cells #[.int .u8 xk,.int .u8 xo,.string xd,.string xn,.slice aa2 xargs.length ac2,.int .i64 0,.int .i64 0] 44)
           have HXB:=Lib.hid (heap_alloc_new z (.cells #[.int .u8 xk,.int .u8 xo,.string xd,.string xn,.slice aa2 xargs.length ac2,.int .i64 0,.int .i64 0] 44))
           have HQ1:=Lib.hid (HQ0.out.below hal)
           have hbz1:b2≤(z.alloc (.cells #[.int .u8 xk,.int .u8 xo,.string xd,.string xn,.slice aa2 xargs.length ac2,.int .i64 0,.int .i64 0] 44)).heap.size:=by simp;omega
           clear hal HQ0
           generalize z.alloc (.cells #[.int .u8 xk,.int .u8 xo,.string xd,.string xn,.slice aa2 xargs.length ac2,.int .i64 0,.int .i64 0] 44)=z1 at *
           have o0:=row_of HXB.out 0 _ rfl
           have o1:=row_of HXB.out 1 _ rfl
           have o2:=row_of HXB.out 2 _ rfl
           have o3:=row_of HXB.out 3 _ rfl
           have o4:=row_of HXB.out 4 _ rfl
           have o5:=row_of HXB.out 5 _ rfl
           have o6:=row_of HXB.out 6 _ rfl
           have hal:=(Below.refl z1.heap.size z1).alloc (Nat.le_refl _) (.cells (insCells (⟨xk,xo,xd,xn,xargs,0,0⟩,Value.slice aa2 xargs.length ac2)).toArray 44)
           have HQ2:=Lib.hid (HQ1.out.below hal)
           clear hal
           go_wp2_with (at_builtin;refine wpList_append_own _ rfl (.tmp 111) (.tmp 113) 26 rfl b2 44 iI (.agg #[.int .u8 0,.int .u8 0,.string ⟨#[]⟩,.string ⟨#[]⟩,.slice none 0 0,.int .i64 0,.int .i64 0]) 7 80 Tryz.underlying26 hiI hzI0 hzI1 hzI2 rfl (by decide) _ _ _ rfl HQ2.out.oc ⟨z1.heap.size,0,none⟩ 1 1 (insCells (⟨xk,xo,xd,xn,xargs,0,0⟩,Value.slice aa2 xargs.length ac2)) rfl rfl (many_new _ _ _) ?xa1 ?xa2 ?xa3 ?xa4 ?_)
           case xa1=>intro u hu;simp [insCells] at hu;rcases hu with rfl|rfl|rfl|rfl|rfl|rfl|rfl <;> rfl
           case xa2=>unfold maxLen;omega
           case xa3=>omega
           case xa4=>first|omega|(simp;omega)
           intro v' z3 hown' hgrow _
           obtain ⟨xa3,xc3,rfl,_⟩:=own_read hown'
           have HQ3:=Lib.hid (HQ2.out.growC hgrow hown')
           have hbz3:b2≤z3.heap.size:=by have:=hgrow.size;simp at this;omega
           clear hown' hgrow o0 o1 o2 o3 o4 o5 o6
           have hal:=(Below.refl z3.heap.size z3).alloc (Nat.le_refl _) (.cells ([Value.int .i64 xt]:List Value).toArray 3)
           have HQ4:=Lib.hid (HQ3.out.below hal)
           clear hal
           go_wp2_with (at_builtin;refine wpList_append_own _ rfl (.tmp 115) (.tmp 117) 60 rfl b2 3 iN (.int .i64 0) 1 8 Tryz.underlying60 hiN hzN0 hzN1 hzN2 rfl (by decide) _ _ _ rfl HQ4.out.ot ⟨z3.heap.size,0,none⟩ 1 1 [.int .i64 xt] rfl rfl (many_new _ _ _) ?xb1 ?xb2 ?xb3 ?xb4 ?_)
           case xb1=>intro u hu;simp only [List.mem_cons,List.not_mem_nil,or_false] at hu;subst hu;rfl
           case xb2=>simp only [List.length_map];unfold maxLen;omega
           case xb3=>simp only [List.length_map];omega
           case xb4=>first|omega|(simp;omega)
           intro v' z5 hown' hgrow _
           obtain ⟨xa5,xc5,rfl,_⟩:=own_read hown'
           have HQ5:=Lib.hid (HQ4.out.growT hgrow (by rw [List.length_map];exact hown'))
           clear hown' hgrow
           have HCO5:=Lib.hid (HQ5.out.code (c:=c ++ [(⟨xk,xo,xd,xn,xargs,0,0⟩,xt)]) (by rw [List.map_append,List.map_append,HPF.out];rfl) (by rw [List.map_append];rfl))
           have hlen1:(P ++ [((⟨xk,xo,xd,xn,xargs,0,0⟩:InstrD),Value.slice aa2 xargs.length ac2)]).length=c.length+1:=by simp [HPL.out]
           go_wp2_with fail
           have HF5:=Lib.hid (HF13.out.made (b2:=b2) HQ5.out.tr HQ5.out.src (by omega) (fun k hk=>by have:=HPK.out k hk;omega))
           go_roundw
           case rel=>exact ⟨c.length+1,c ++ [(⟨xk,xo,xd,xn,xargs,0,0⟩,xt)],lq2,by omega,by go_num,by simp,(fun x hx=>by
            rcases List.mem_append.1 hx with hx|hx
            ·exact HGO.out x hx
            ·rw [List.mem_singleton] at hx;subst hx;exact HGX.out),(by
            show _=_
            rw [HCI.out,show nm - c.length=(nm - (c.length+1))+1 by omega]
            show bindS (instrS E c.length) _ lq=_
            unfold bindS
            rw [HXX.out]),HCO5.out,HF5.out,HQ5.out.tr⟩
           case measure=>simp [intOf];omega
          ·have hlt3:¬ (c.length:Int)<(nm:Int):=by omega
           have HCD:Hid (codeS E nm [] l8=(c,lq)):=by show _=_;rw [HCI.out,show nm - c.length=0 by omega];rfl
           have HLAB:=Lib.hid (labelledR_any u16 u15 b2 c w14 HCO.out (by omega) hsz14 HGO.out)
           clear HCI
           go_upto_region 28 with (go_at_call 16;refine HLAB.out.mono ?_;rintro e w15 ⟨lv,rfl,hli,hbl⟩;obtain ⟨la,lc2,rfl,-⟩:=id hli;have HLI:=Lib.hid hli;have HF15:=Lib.hid (HFT.out.later hbl);have c2:=row_of HF15.out.box 2 (.slice none 0 0) rfl;have f2:=frozen_of_row w15 fb 2 _ _ HF15.out.box;clear hli hbl)
           clear c2 f2
           obtain ⟨x1,x2,x3,x4⟩:=HF15.out.code (.slice la (labelledS c).length lc2)
           have HX1:=Lib.hid x1
           have HX3:=Lib.hid x3
           have HP16:=Lib.hid (HP8.out.bytes (by omega) x4 x2)
           have HLI2:Hid (RdInstrs (some (upFrom r)) (w15.setCell ⟨fb,2,none⟩ (.slice la (labelledS c).length lc2)) (.slice la (labelledS c).length lc2) (labelledS c)):=RdInstrs.same HLI.out (fun b hb _=>heap_setCell_other w15 ⟨fb,2,none⟩ b _ (by have e:b2≤b:=hb;show ¬ b=fb;omega)) (fun b _ hb=>by have e:b2≤b:=hb;show r≤b;omega)
           clear x1 x2 x3 x4
           generalize w15.setCell ⟨fb,2,none⟩ (.slice la (labelledS c).length lc2)=w16 at *
           clear HLI HF15 HLAB
           have hal:=(Below.refl w16.heap.size w16).alloc (Nat.le_refl _) (.cells (funCells (⟨ns,K,labelledS c,0,0⟩,.slice pa K.length pc,.slice la (labelledS c).length lc2)).toArray 56)
           have HP17:=Lib.hid (HP16.out.later hal)
           have HRF:Hid (RdFunc (some (upFrom r)) (w16.alloc (.cells (funCells (⟨ns,K,labelledS c,0,0⟩,.slice pa K.length pc,.slice la (labelledS c).length lc2)).toArray 56)) ⟨ns,K,labelledS c,0,0⟩ (.slice pa K.length pc) (.slice la (labelledS c).length lc2)):=by
            refine ⟨own_strs (l:=K) (own_below (own_upS HX3.out (by omega)) hal) (by omega) (fun s hs=>?_),HLI2.out.keep hal,by unfold InI64;simp,by unfold InI64;simp,?_⟩
            ·rw [HKE.out] at hs
             obtain ⟨y,hy,rfl⟩:=List.mem_map.1 hs
             have hy2:y<np:=by simpa using hy
             have h:=nm_ok 112 (n:=y) (by omega)
             unfold NmOk at h
             unfold maxLen
             omega
            ·show ns.size≤maxLen
             rw [← HNS.out]
             have h:=nm_ok 102 (n:=j) (by omega)
             unfold NmOk at h
             unfold maxLen
             omega
           have p3:=row_of HP16.out.box 3 (.slice fa F.length fc) rfl
           have p30:=row_of HX1.out 0 _ rfl
           have p31:=row_of HX1.out 1 _ rfl
           have p32:=row_of HX1.out 2 _ rfl
           have p33:=row_of HX1.out 3 _ rfl
           have p34:=row_of HX1.out 4 _ rfl
           clear hal
           go_wp2_with (at_builtin;refine wpList_append_own _ rfl (.tmp 124) (.tmp 126) 25 rfl r 56 iF (.agg #[.string ⟨#[]⟩,.slice none 0 0,.slice none 0 0,.int .i64 0,.int .i64 0]) 5 80 Tryz.underlying25 hiF hzF0 hzF1 hzF2 rfl (by decide) _ _ _ rfl HP17.out.of ⟨w16.heap.size,0,none⟩ 1 1 (funCells (⟨ns,K,labelledS c,0,0⟩,.slice pa K.length pc,.slice la (labelledS c).length lc2)) rfl rfl (many_new _ _ _) ?fa1 ?fa2 ?fa3 ?fa4 ?_)
           case fa1=>intro u hu;simp [funCells] at hu;rcases hu with rfl|rfl|rfl|rfl|rfl <;> rfl
           case fa2=>unfold maxLen;omega
           case fa3=>omega
           case fa4=>exact Nat.le_trans HP17.out.hb0 HP17.out.below.size
           ·intro v' w18 hown' hgrow _
            obtain ⟨xa,xc,rfl,_⟩:=own_read hown'
            have hbx3:=(Trn.of_grown (S:=fun b=>(Value.slice fa F.length fc).ownBlock=some b) hgrow (fun b e=>e)).heap HP17.out.box (not_own HP17.out.of HP17.out.box (by decide))
            have HP19:=Lib.hid (HP17.out.func hgrow hown' HRF.out)
            have c3:=row_of hbx3 3 (.slice fa F.length fc) rfl
            have f3:=frozen_of_row w18 pb 3 _ _ hbx3
            clear hown' hgrow hbx3 p3 p30 p31 p32 p33 p34
            go_wp2_with fail
            clear c3 f3
            go_roundw
            case rel=>exact ⟨j+1,_,F ++ [(⟨ns,K,labelledS c,0,0⟩,.slice pa K.length pc,.slice la (labelledS c).length lc2)],lq,by omega,by go_num,by simp [HFL.out],(by
             show _=_
             rw [HFN.out,show v5 - j=(v5 - (j+1))+1 by omega,funcs_step HX7.out HX8.out (E:=E) (by rw [← HED.out,List.map_map,show K.length=np by rw [HKE.out];simp];rfl) HCD.out,List.map_append,List.length_map,HFL.out,HNS.out,← HKE.out]
             rfl),(fun q hq=>by
             rcases List.mem_append.1 hq with hq|hq
             ·exact HFP.out q hq
             ·rw [List.mem_singleton] at hq;subst hq;show K.length≤90;omega),HP19.out⟩
            case measure=>simp [intOf];omega
      ·have hlt1:¬ (j:Int)<(v5:Int):=by omega
       obtain rfl:j=v5:=by omega
       have HFE:Hid (funcsS A.length C.length j [] l5=(F.map Prod.fst,lf)):=by show _=_;rw [HFN.out,Nat.sub_self];rfl
       clear HFN
       have hsw8:r+1<w8.heap.size:=HP8.out.src.lt
       have hpw8:pb<w8.heap.size:=(Array.getElem?_eq_some_iff.1 HP8.out.box).1
       have hal:=(Below.refl w8.heap.size w8).alloc (Nat.le_refl _) (.cells #[.pointer (some ⟨r+1,0,none⟩),.int .i64 (1+(v1:Int)),.slice ca C.length cc,.slice aa A.length ac,.slice fa F.length fc,.slice none 0 0,.int .i64 0,.int .i64 (F.length:Nat),.bool true] 59)
       have hmk:=heap_alloc_new w8 (.cells #[.pointer (some ⟨r+1,0,none⟩),.int .i64 (1+(v1:Int)),.slice ca C.length cc,.slice aa A.length ac,.slice fa F.length fc,.slice none 0 0,.int .i64 0,.int .i64 (F.length:Nat),.bool true] 59)
       obtain ⟨E,hEd⟩:∃ E:EnvS,(⟨A.length,C.length,0,F.map fun q=>q.1.params.length,true⟩:EnvS)=E:=⟨_,rfl⟩
       have HEO:Hid (EnvOk E):=by
        show EnvOk E
        rw [← hEd]
        exact ⟨by show A.length≤100;omega,by show C.length≤100;omega,by show 0≤100;omega,by show (F.map fun q=>q.1.params.length).length≤100;rw [List.length_map];omega,fun n hn=>by
         obtain ⟨q,hq,rfl⟩:=List.mem_map.1 hn
         exact Nat.le_trans (HFP.out q hq) (by omega)⟩
       have he12:=HP8.out.env (bb:=w8.heap.size) (z:=w8.alloc (.cells #[.pointer (some ⟨r+1,0,none⟩),.int .i64 (1+(v1:Int)),.slice ca C.length cc,.slice aa A.length ac,.slice fa F.length fc,.slice none 0 0,.int .i64 0,.int .i64 (F.length:Nat),.bool true] 59)) (mv:=.slice none 0 0) (par:=0) (mn:=true) hal (Nat.le_refl _) hmk hcl1 hcl2 (by omega) (by omega) hfl2 HFP.out
       rw [hEd] at he12
       have HE13:=Lib.hid he12
       have HS12:=Lib.hid (HP8.out.src.keep hal)
       have HB12:=Lib.hid hal
       have HED:=Lib.hid hEd
       have hq0:=row_of HP8.out.box 0 _ rfl
       have hq1:=row_of HP8.out.box 1 _ rfl
       have hq2:=row_of HP8.out.box 2 _ rfl
       have hq3:=row_of HP8.out.box 3 _ rfl
       have hq4:=row_of HP8.out.box 4 _ rfl
       clear hal he12 hEd hmk
       go_upto_region 32 with fail
       clear hq0 hq1 hq2 hq3 hq4
       generalize w8.alloc (.cells #[.pointer (some ⟨r+1,0,none⟩),.int .i64 (1+(v1:Int)),.slice ca C.length cc,.slice aa A.length ac,.slice fa F.length fc,.slice none 0 0,.int .i64 0,.int .i64 (F.length:Nat),.bool true] 59)=w13 at *
       obtain ⟨m,hmd⟩:∃ x,w8.heap.size=x:=⟨_,rfl⟩
       rw [hmd] at HE13 hsw8 hpw8
       try rw [hmd]
       have HMD:=Lib.hid hmd
       clear hmd
       obtain ⟨b2,hb2⟩:∃ x,w13.heap.size=x:=⟨_,rfl⟩
       have hsz13:m≤b2:=by have:=HB12.out.size;have:=HMD.out;omega
       have HBS:=Lib.hid hb2
       clear hb2
       go_loopg [22,23,24,25] 20 (fun gk v22 v23 _ _ wr=>∃ (c:List (InstrD × Int)) (lq:List UInt8),gk+c.length=20∧(∀ x ∈ c,GoodI x)∧Hid (mainS E 20 [] lf=mainS E gk c lq)∧CodeAt wr b2 v22 v23 c∧TkL wr (r+1) s lq∧Trn (fun k=>k=r+1 ∨ b2≤k) w13 wr)
       case atStart=>exact ⟨[],lf,rfl,(fun x hx=>by simp at hx),rfl,code_nil _ _,HS12.out,Trn.refl _ _⟩
       case round=>
        obtain ⟨c,lq,hgk,hgood,HCI,hco,hsr,htr⟩:=hrel
        obtain ⟨w14,rfl⟩:∃ x:World,x=wr:=⟨_,rfl⟩
        obtain ⟨ia,ic,rfl,-⟩:=own_read (Exists.choose_spec hco).2.1
        have HCO:=Lib.hid hco
        have HSR:=Lib.hid hsr
        have HTR:=Lib.hid htr
        have HGO:=Lib.hid hgood
        have HGK:=Lib.hid hgk
        have hc20:c.length≤20:=by omega
        have hsz14:b2≤w14.heap.size:=by have:=htr.size;have:=HBS.out;omega
        obtain ⟨n0,hn0,hn1,hn2⟩:=hsr
        have hnl:s.data.toList.length=s.size:=rfl
        have hnd:=congrArg List.length hn2
        rw [List.length_drop,hnl] at hnd
        have t1:=row_of hn0 1 _ rfl
        clear hco htr hgood hgk hn0 hn2 hnl
        by_cases hgo:n0<s.size∧c.length<20
        ·have hlt4:(c.length:Int)<20:=by have:=hgo.2;omega
         have hlt5:(n0:Int)<(s.size:Int):=by have:=hgo.1;omega
         have HGS:Hid (lq ≠ []):=by
          show _→False
          intro h
          rw [h] at hnd
          simp at hnd
          omega
         clear hgo hnd
                  --{{ mainone
         obtain ⟨⟨⟨xk,xo,xd,xn,xargs,xl,xc⟩,xt⟩,hxx⟩:∃ x,(instrS E c.length lq).1=x:=⟨_,rfl⟩
         obtain ⟨lq2,hlq2⟩:∃ x,(instrS E c.length lq).2=x:=⟨_,rfl⟩
         have hgx:=good_instr HEO.out c.length (by omega) lq
         rw [hxx] at hgx
         obtain rfl:xl=0:=hgx.line
         obtain rfl:xc=0:=hgx.col
         have HI:=instrR_any m (r+1) s E c.length lq w14 (HE13.out.trn2 HTR.out (Nat.le_of_eq HBS.out)) HSR.out hsz (by omega)
         rw [hxx,hlq2] at HI
         have HI:=Lib.hid HI
         have HXX:Hid (instrS E c.length lq=((⟨xk,xo,xd,xn,xargs,0,0⟩,xt),lq2)):=(by show _=_;rw [← hxx,← hlq2])
         have HGX:=Lib.hid hgx
         clear hxx hlq2 hgx
         go_upto_region 34 with (go_at_call 15;refine HI.out.mono ?_;rintro e z ⟨av2,rfl,ho,hs1,ht1⟩;obtain ⟨aa2,ac2,rfl,-⟩:=own_read ho;have HZO:=Lib.hid ho;have HZS:=Lib.hid hs1;have HZT:=Lib.hid ht1;clear ho hs1 ht1)
         obtain ⟨P,hP1,hP2,hP3,hP4⟩:=HCO.out.trn HZT.out (fun b hb e=>by have e':b=r+1:=e;omega)
         have hPl:P.length=c.length:=by have:=congrArg List.length hP1;simpa using this
         have HQ0:Hid (CR s w13 (r+1) b2 ⟨xk,xo,xd,xn,xargs,0,0⟩ (.slice aa2 xargs.length ac2) lq2 z (Value.slice ia c.length ic) P u23 (c.map Prod.snd)):=⟨HZS.out,by rw [hPl];exact hP2,hP3,made_rd HGX.out (by have:=HTR.out.size;omega) HZO.out,by rw [List.length_map,List.flatMap_map];exact hP4,HTR.out.trans (HZT.out.mono fun i h=>.inl h),by omega⟩
         have HPF:=Lib.hid hP1
         have HPL:=Lib.hid hPl
         have hP40:P.length≤40:=by omega
         have hbz:b2≤z.heap.size:=by have:=HTR.out.size;have:=HZT.out.size;omega
         clear hP1 hP2 hP3 hP4 hPl
         have hal:=(Below.refl z.heap.size z).alloc (Nat.le_refl _) (.cells #[.int .u8 xk,.int .u8 xo,.string xd,.string xn,.slice aa2 xargs.length ac2,.int .i64 0,.int .i64 0] 44)
         have HXB:=Lib.hid (heap_alloc_new z (.cells #[.int .u8 xk,.int .u8 xo,.string xd,.string xn,.slice aa2 xargs.length ac2,.int .i64 0,.int .i64 0] 44))
         have HQ1:=Lib.hid (HQ0.out.below hal)
         have hbz1:b2≤(z.alloc (.cells #[.int .u8 xk,.int .u8 xo,.string xd,.string xn,.slice aa2 xargs.length ac2,.int .i64 0,.int .i64 0] 44)).heap.size:=by simp;omega
         clear hal HQ0
         generalize z.alloc (.cells #[.int .u8 xk,.int .u8 xo,.string xd,.string xn,.slice aa2 xargs.length ac2,.int .i64 0,.int .i64 0] 44)=z1 at *
         have o0:=row_of HXB.out 0 _ rfl
         have o1:=row_of HXB.out 1 _ rfl
         have o2:=row_of HXB.out 2 _ rfl
         have o3:=row_of HXB.out 3 _ rfl
         have o4:=row_of HXB.out 4 _ rfl
         have o5:=row_of HXB.out 5 _ rfl
         have o6:=row_of HXB.out 6 _ rfl
         have hal:=(Below.refl z1.heap.size z1).alloc (Nat.le_refl _) (.cells (insCells (⟨xk,xo,xd,xn,xargs,0,0⟩,Value.slice aa2 xargs.length ac2)).toArray 44)
         have HQ2:=Lib.hid (HQ1.out.below hal)
         clear hal
         go_wp2_with (at_builtin;refine wpList_append_own _ rfl (.tmp 155) (.tmp 157) 26 rfl b2 44 iI (.agg #[.int .u8 0,.int .u8 0,.string ⟨#[]⟩,.string ⟨#[]⟩,.slice none 0 0,.int .i64 0,.int .i64 0]) 7 80 Tryz.underlying26 hiI hzI0 hzI1 hzI2 rfl (by decide) _ _ _ rfl HQ2.out.oc ⟨z1.heap.size,0,none⟩ 1 1 (insCells (⟨xk,xo,xd,xn,xargs,0,0⟩,Value.slice aa2 xargs.length ac2)) rfl rfl (many_new _ _ _) ?ya1 ?ya2 ?ya3 ?ya4 ?_)
         case ya1=>intro u hu;simp [insCells] at hu;rcases hu with rfl|rfl|rfl|rfl|rfl|rfl|rfl <;> rfl
         case ya2=>unfold maxLen;omega
         case ya3=>omega
         case ya4=>first|omega|(simp;omega)
         intro v' z3 hown' hgrow _
         obtain ⟨xa3,xc3,rfl,_⟩:=own_read hown'
         have HQ3:=Lib.hid (HQ2.out.growC hgrow hown')
         have hbz3:b2≤z3.heap.size:=by have:=hgrow.size;simp at this;omega
         clear hown' hgrow o0 o1 o2 o3 o4 o5 o6
         have hal:=(Below.refl z3.heap.size z3).alloc (Nat.le_refl _) (.cells ([Value.int .i64 xt]:List Value).toArray 3)
         have HQ4:=Lib.hid (HQ3.out.below hal)
         clear hal
         go_wp2_with (at_builtin;refine wpList_append_own _ rfl (.tmp 159) (.tmp 161) 60 rfl b2 3 iN (.int .i64 0) 1 8 Tryz.underlying60 hiN hzN0 hzN1 hzN2 rfl (by decide) _ _ _ rfl HQ4.out.ot ⟨z3.heap.size,0,none⟩ 1 1 [.int .i64 xt] rfl rfl (many_new _ _ _) ?yb1 ?yb2 ?yb3 ?yb4 ?_)
         case yb1=>intro u hu;simp only [List.mem_cons,List.not_mem_nil,or_false] at hu;subst hu;rfl
         case yb2=>simp only [List.length_map];unfold maxLen;omega
         case yb3=>simp only [List.length_map];omega
         case yb4=>first|omega|(simp;omega)
         intro v' z5 hown' hgrow _
         obtain ⟨xa5,xc5,rfl,_⟩:=own_read hown'
         have HQ5:=Lib.hid (HQ4.out.growT hgrow (by rw [List.length_map];exact hown'))
         clear hown' hgrow
         have HCO5:=Lib.hid (HQ5.out.code (c:=c ++ [(⟨xk,xo,xd,xn,xargs,0,0⟩,xt)]) (by rw [List.map_append,List.map_append,HPF.out];rfl) (by rw [List.map_append];rfl))
         have hlen1:(P ++ [((⟨xk,xo,xd,xn,xargs,0,0⟩:InstrD),Value.slice aa2 xargs.length ac2)]).length=c.length+1:=by simp [HPL.out]
         go_wp2_with fail
         go_roundg (gk - 1)
         case rel=>exact ⟨c ++ [(⟨xk,xo,xd,xn,xargs,0,0⟩,xt)],lq2,(by have:=HGK.out;simp;omega),(fun x hx=>by
          rcases List.mem_append.1 hx with hx|hx
          ·exact HGO.out x hx
          ·rw [List.mem_singleton] at hx;subst hx;exact HGX.out),(by
          show _=_
          have h20:=HGK.out
          have hgs:=HGS.out
          rw [HCI.out,show gk=(gk - 1)+1 by omega]
          conv=>lhs;unfold mainS
          rw [if_neg hgs]
          unfold bindS
          rw [HXX.out]
          rfl),HCO5.out,HQ5.out.src,HQ5.out.tr⟩
         case measure=>have:=HGK.out;omega
                  --}}
        ·have hse:¬ (n0:Int)<(s.size:Int) ∨ ((n0:Int)<(s.size:Int)∧¬ (c.length:Int)<20):=by omega
         have HMS:Hid (mainS E 20 [] lf=(c,lq)):=by
          show _=_
          rw [HCI.out]
          by_cases hq:lq=[]
          ·subst hq;exact main_nil _ _ _
          ·have hq2:0<lq.length:=List.length_pos_iff.2 hq
           have h0:=HGK.out
           obtain rfl:gk=0:=by omega
           rfl
         have HTW:Hid (Trn (fun x=>x=r+1) w8 w14):=(Trn.of_below HB12.out).step HTR.out (fun i hi e=>by have h:=HMD.out;show i=r+1;omega)
         have HLAB:=Lib.hid (labelledR_any u23 (.slice ia c.length ic) b2 c w14 HCO.out (by omega) hsz14 HGO.out)
         clear hgo HCI hnd
         have HPE:Hid (progS l=⟨1+(v1:Int),C,A,F.map Prod.fst,labelledS c⟩):=by
          show _=_
          have hh:=head_eq (l:=l) (l1:=l1) (v1:=v1) (G:=F.map Prod.fst) (lf:=lf) (Prod.ext HV1.out HL1.out) HX2.out HX3.out HA.out HX5.out (by have h:=HFE.out;rw [HCL.out] at h;exact h)
          refine (prog_eq hh (c:=c) (lq:=lq) ?_).trans (by rw [← HC.out])
          have h:=HMS.out
          rw [← HED.out] at h
          unfold mainE
          rw [← HC.out,List.map_map]
          exact h
         clear HMS
         rcases hse with hse|⟨hse,hc4⟩
         all_goals
          go_upto_region 36 with (go_at_call 16;refine HLAB.out.mono ?_;rintro e w15 ⟨lv,rfl,hli,hbl⟩;obtain ⟨la,lc2,rfl,-⟩:=id hli;have HP15:=Lib.hid (HP8.out.bytes (by omega) (HTW.out.trans (Trn.of_below hbl)) (HSR.out.keep hbl));have c4:=row_of HP15.out.box 4 (.slice none 0 0) rfl;have f4:=frozen_of_row w15 pb 4 _ _ HP15.out.box;have HLI:=Lib.hid hli;clear hli hbl)
          clear c4 f4 HLAB
          have hpr:=HP15.out.hp
          have hb16:=heap_setCell_same w15 pb 4 _ _ (.slice la (labelledS c).length lc2) HP15.out.box
          simp only [List.setIfInBounds_toArray,List.set_cons_succ,List.set_cons_zero] at hb16
          have HB16:=Lib.hid hb16
          have HR16:=Lib.hid ((heap_setCell_other w15 ⟨pb,4,none⟩ r (.slice la (labelledS c).length lc2) (by show ¬ r=pb;omega)).trans HP15.out.res)
          have HT16:=Lib.hid ((setCell_trn w15 ⟨pb,4,none⟩ (.slice la (labelledS c).length lc2)).mono (T:=fun x=>x=pb ∨ x=r) (fun i e=>.inl e))
          generalize w15.setCell ⟨pb,4,none⟩ (.slice la (labelledS c).length lc2)=w16 at *
          have p160:=row_of HB16.out 0 _ rfl
          have p161:=row_of HB16.out 1 _ rfl
          have p162:=row_of HB16.out 2 _ rfl
          have p163:=row_of HB16.out 3 _ rfl
          have p164:=row_of HB16.out 4 _ rfl
          clear hb16
          go_wp2_with (refine wpList_store_row rfl 28 (.tmp 2) (.tmp 167) rfl r #[.int .i64 (1+(v1:Int)),.slice ca C.length cc,.slice aa A.length ac,.slice fa F.length fc,.slice la (labelledS c).length lc2] rfl rfl 28 #[.int .i64 0,.slice none 0 0,.slice none 0 0,.slice none 0 0,.slice none 0 0] HR16.out (by as_aux_lemma=>kernel_rfl) (by as_aux_lemma=>kernel_rfl) (by as_aux_lemma=>kernel_rfl) ?_)
          have hM16:RdInstrs (some (upFrom r)) w15 (.slice la (labelledS c).length lc2) (labelledS c):=RdInstrs.same HLI.out (fun b hb _=>rfl) (fun b _ hb=>by have e:b2≤b:=hb;show r≤b;omega)
          obtain ⟨hrd,hbl⟩:=HP15.out.done (w':=w16.setRow r #[.int .i64 (1+(v1:Int)),.slice ca C.length cc,.slice aa A.length ac,.slice fa F.length fc,.slice la (labelledS c).length lc2]) (HT16.out.trans ((setRow_trn HR16.out).mono fun i e=>.inr e)) hM16 ⟨by omega,by omega⟩ (by omega) (fun s hs=>by
           rw [HC.out] at hs
           obtain ⟨y,hy,rfl⟩:=List.mem_map.1 hs
           have hy2:y<1+v2:=by simpa using hy
           have h:=nm_ok 99 (n:=y) (by omega)
           unfold NmOk at h
           unfold maxLen
           omega) (by omega) (fun s hs=>by
           have h:=times_arr i 0 [] l3 (by omega) (fun s hs=>by simp at hs) s (by rw [HA.out];exact hs)
           obtain ⟨⟨h1,h2⟩,h3⟩:=h
           unfold NmOk at h3
           refine ⟨?_,by unfold maxLen;omega⟩
           unfold InI64
           omega) (by omega)
          try simp only [Act.put]
          refine bodyPost_ret (v:=.agg #[.int .i64 (1+(v1:Int)),.slice ca C.length cc,.slice aa A.length ac,.slice fa F.length fc,.slice la (labelledS c).length lc2]) (results_cell_row (P:=Tryz.prog) (fn:=Tryz.f6) rfl _ _ r 28 _ (0,0) _ rfl (setRow_heap _ _ _ _ _ _ HR16.out) Tryz.underlying28 rfl (by kernel_rfl)) rfl ⟨.slice ca C.length cc,.slice aa A.length ac,.slice fa F.length fc,.slice la (labelledS c).length lc2,by rw [HPE.out],by rw [HPE.out,hr];exact hrd,by rw [hr];exact hbl⟩
end Go.Proofs.YtfdinncgncbmfaaGreatDoor
