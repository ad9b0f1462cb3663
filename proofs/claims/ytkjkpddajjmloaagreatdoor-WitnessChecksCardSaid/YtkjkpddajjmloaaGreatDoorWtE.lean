/- Contracts of package witness: Implicit. Condition: what comes in reads as the plain data. -/
import Derived.Test.YtkjkpddajjmloaaGreatDoorAgY
import Derived.Deep.QuietTactic
import Derived.BigQuiet
import Derived.Test.YtkjkpddajjmloaaGreatDoorKOl
import Derived.Test.YtkjkpddajjmloaaGreatDoorRowL
import Derived.Test.YtkjkpddajjmloaaGreatDoorAgT
import Derived.Test.YtkjkpddajjmloaaGreatDoorMixK
set_option linter.all false
set_option maxRecDepth 1000000
set_option maxHeartbeats 6400000
namespace Go.Proofs.YtkjkpddajjmloaaGreatDoor
open Go.ChangeShapes Go.WideShapes Go.ChangeAt Go.RowKit
open Go.Lib (hid)
theorem gsWtE {α:Type} {a:Array α} {i:Nat} {v:α} (h:a[i]?=some v):i<a.size:=(Array.getElem?_eq_some_iff.1 h).1
theorem lgWtE {α:Type} {l:List α} {i:Nat} (h:i<l.length):l[i]?=some l[i]:=List.getElem?_eq_getElem h
def implB (x y:TraceD):Bool:=!eqL eqBool x.brs y.brs
theorem implicit_any (x y:TraceD) (cX cY:Array Value) (w:World) (hX:TrcC w x cX) (hY:TrcC w y cY) :
  Calls Tryz.prog 21 #[.agg cX,.agg cY] w fun e w'=>e=.returned (.bool (implB x y))∧Below w.heap.size w w':=by
 obtain⟨xo,xr,xb,xd,rfl,hx⟩:=hX
 obtain⟨yo,yr,yb,yd,rfl,hy⟩:=hY
 obtain⟨xa1,xa2,rfl⟩:=hx.1.is
 obtain⟨xa3,xa4,rfl⟩:=hx.2.1.is
 obtain⟨a,c,rfl⟩:=hx.2.2.1.is
 obtain⟨xa7,xa8,rfl⟩:=hx.2.2.2.1.is
 obtain⟨ya1,ya2,rfl⟩:=hy.1.is
 obtain⟨ya3,ya4,rfl⟩:=hy.2.1.is
 obtain⟨a2,c2,rfl⟩:=hy.2.2.1.is
 obtain⟨ya7,ya8,rfl⟩:=hy.2.2.2.1.is
 have hl:x.brs.length*1≤140737488351232:=hx.2.2.1.size
 have hal:=((Below.refl w.heap.size w).alloc (Nat.le_refl _) (.cells #[.int .u8 x.status,.int .i64 x.steps,.slice xa1 x.outs.length xa2,.slice xa3 x.rels.length xa4,.slice a x.brs.length c,.slice xa7 x.reads.length xa8] 52)).alloc (by simp) (.cells #[.int .u8 y.status,.int .i64 y.steps,.slice ya1 y.outs.length ya2,.slice ya3 y.rels.length ya4,.slice a2 y.brs.length c2,.slice ya7 y.reads.length ya8] 52)
 have hh:=heap2_of (w:=w) (A:=.cells #[.int .u8 x.status,.int .i64 x.steps,.slice xa1 x.outs.length xa2,.slice xa3 x.rels.length xa4,.slice a x.brs.length c,.slice xa7 x.reads.length xa8] 52 (0,0)) (B:=.cells #[.int .u8 y.status,.int .i64 y.steps,.slice ya1 y.outs.length ya2,.slice ya3 y.rels.length ya4,.slice a2 y.brs.length c2,.slice ya7 y.reads.length ya8] 52 (0,0)) (Below.refl _ _)
 have HB:=hid hal
 have HR:=hid (hx.2.2.1.keep hal)
 have GR:=hid (hy.2.2.1.keep hal)
 have p4:=row_of hh.1 4 (.slice a x.brs.length c) rfl
 have q4:=row_of hh.2.1 4 (.slice a2 y.brs.length c2) rfl
 clear hx hy hal hh
 go_enter Tryz.func21,Tryz.ntmps21
 go_upto_region 1 with fail
 generalize (w.alloc (.cells #[.int .u8 x.status,.int .i64 x.steps,.slice xa1 x.outs.length xa2,.slice xa3 x.rels.length xa4,.slice a x.brs.length c,.slice xa7 x.reads.length xa8] 52)).alloc (.cells #[.int .u8 y.status,.int .i64 y.steps,.slice ya1 y.outs.length ya2,.slice ya3 y.rels.length ya4,.slice a2 y.brs.length c2,.slice ya7 y.reads.length ya8] 52)=W at *
 by_cases hlen:x.brs.length=y.brs.length
 ·have he:((x.brs.length:Int) != (y.brs.length:Int))=false:=by rw[hlen];simp
  have HL:=hid hlen
  clear hlen
  go_wp2_with fail
  go_loopw [16] (fun i wr=>∃ k:Nat,k≤x.brs.length∧i=.int .i64 k∧Hid (∀ (j:Nat) u v,j<k→x.brs[j]?=some u→y.brs[j]?=some v→eqBool u v=true)∧Below W.heap.size W wr) (fun i _=>x.brs.length-(intOf i).toNat)
  case atStart=>exact⟨0,Nat.zero_le _,rfl,(fun j x y h=>by omega),Below.refl _ _⟩
  case round=>
   obtain⟨k,hk,rfl,hq,hb⟩:=hrel
   obtain⟨w1,rfl⟩:∃ x:World,x=wr:=⟨_,rfl⟩
   by_cases hlt:k<x.brs.length
   ·have hlt2:k<y.brs.length:=by rw[← HL.out];exact hlt
    obtain⟨u,hu⟩:∃ u,x.brs[k]?=some u:=⟨_,lgWtE hlt⟩
    obtain⟨v,hv0⟩:∃ v,y.brs[k]?=some v:=⟨_,lgWtE hlt2⟩
    obtain⟨b,o,rfl,_,c0,_⟩:=atBool HR.out hu
    obtain⟨b2,o2,rfl,_,d0,_⟩:=atBool GR.out hv0
    have c0':=cell_keepB hb c0 (block_lt_of_cell c0)
    have d0':=cell_keepB hb d0 (block_lt_of_cell d0)
    have p4':=cell_keepB hb p4 (block_lt_of_cell p4)
    have q4':=cell_keepB hb q4 (block_lt_of_cell q4)
    have HX:=hid (And.intro hu hv0)
    have hi1:(k:Int)<(x.brs.length:Int):=by omega
    have hi2:(k:Int)<(y.brs.length:Int):=by omega
    clear c0 d0 hu hv0
    rcases eqBool_cases u v with ⟨hv,h0,h1⟩|⟨hv,h0,h1⟩
    ·have HV:=hid hv
     have h2:(u != v)=false:=by rw[bne,h0];rfl
     clear hv
     go_wp2_with fail
     go_quiet (fail)
     go_wp2
     go_roundw
     case rel=>
      refine⟨k+1,by omega,by go_num,?_,below_drewN hb _⟩
      intro j x' y' hj g1 g2
      rcases Nat.lt_or_ge j k with h|h
      ·exact hq.out j x' y' h g1 g2
      ·obtain rfl:j=k:=by omega
       rw[HX.out.1] at g1;rw[HX.out.2] at g2
       cases g1;cases g2;exact HV.out
     case measure=>simp[intOf];omega
    ·have HV:=hid hv
     have h2:(u != v)=true:=by rw[bne,h0];rfl
     clear hv
     go_wp2_with fail
     go_quiet (fail)
     go_wp2
     go_ret
     exact⟨by unfold implB;rw[eqL_miss eqBool x.brs y.brs k u v HX.out.1 HX.out.2 HV.out];rfl,bcomp HB.out (below_drewN hb _)⟩
   ·obtain rfl:k=x.brs.length:=by omega
    go_wp2
    go_ret
    refine⟨?_,bcomp HB.out hb⟩
    unfold implB
    rw[eqL_all eqBool x.brs y.brs HL.out (fun j x' y' g1 g2=>hq.out j x' y' (List.getElem?_eq_some_iff.1 g1).1 g1 g2)];rfl
 ·have he:((x.brs.length:Int) != (y.brs.length:Int))=true:=by rw[bne_iff_ne];omega
  have HL:=hid (eqL_len eqBool x.brs y.brs hlen)
  clear hlen
  go_wp2_with fail
  go_ret
  exact⟨by unfold implB;rw[HL.out];rfl,HB.out⟩
theorem copied_any (av:Value) (L:List (List Int)) (w:World) (h:RdLists none w av L) (hz:∀ l∈L,l.length≤1000000) :
  Calls Tryz.prog 42 #[av] w fun e w'=>∃ v vs,e=.returned v∧OwnL w.heap.size w' v vs L∧Below w.heap.size w w':=by
 obtain⟨a,c,rfl⟩:=h.is
 obtain⟨i0,hi,hz0,hz1,hz2⟩:=info_parts infoNumS
 obtain⟨i1,hj,hy0,hy1,hy2⟩:=info_parts infoNum
 have hl:L.length*24≤140737488351232:=h.size
 have HR:=hid h
 have HZ:=hid hz
 clear h hz
 go_enter Tryz.func42,Tryz.ntmps42
 go_wp2_with fail
 go_loopw [3,8] (fun v i wr=>∃ k:Nat,k≤L.length∧i=.int .i64 k∧(∃ vs:List Value,vs.length=k∧OwnL w.heap.size wr v vs (L.take k))∧Below w.heap.size w wr) (fun _ i _=>L.length-(intOf i).toNat)
 case atStart=>exact⟨0,Nat.zero_le _,rfl,⟨[],rfl,OwnL.nil _ _⟩,Below.refl _ _⟩
 case round=>
  obtain⟨k,hk,rfl,⟨vs,rfl,hcp⟩,hb⟩:=hrel
  obtain⟨w0,rfl⟩:∃ x:World,x=wr:=⟨_,rfl⟩
  by_cases hlt:vs.length<L.length
  ·have hlt1:(vs.length:Int)<(L.length:Int):=by omega
   obtain⟨x,hx⟩:∃ x,L[vs.length]?=some x:=⟨_,lgWtE hlt⟩
   obtain⟨b,o,xv,xc,rfl,_,c0,hx0⟩:=RdLists.at (HR.out.keep hb) hx
   have hxl:x.length≤1000000:=HZ.out x (List.mem_of_getElem? hx)
   have hown:=hcp.own
   obtain⟨va,vc,rfl,-⟩:=own_read hown
   have HCP:=hid hcp
   have HX:=hid hx
   have HOK:Hid (∀ y∈x,InU64 y):=hx0.ok
   have hsz:=hb.size
   have HBr:=hid hb
   have HXR:=hid hx0
   clear hx hcp hb hx0
   have HSTEP:Hid (∀ w1 u,Below w0.heap.size w0 w1→w1.ownsRow w0.heap.size 58 1 u x.length (x.flatMap cellsNum)→u.oneCell'=true→∀ v' w4,w4.ownsRow w.heap.size 61 1 v' (vs.length+1) (vs++[u])→(w1.alloc (.cells #[u] 61)).grownBy w4 (Value.slice va vs.length vc).ownBlock→(∃ vs':List Value,vs'.length=vs.length+1∧OwnL w.heap.size w4 v' vs' (L.take (vs.length+1)))∧Below w.heap.size w w4):=by
    intro w1 u hb1 hu _ v' w4 hown' hgrow
    have hN:=HCP.out.push hb1 hu HOK.out hsz hown' hgrow
    rw[show L.take vs.length++[x]=L.take (vs.length+1) by rw[List.take_add_one,HX.out];rfl] at hN
    refine⟨⟨_,by simp,hN⟩,?_⟩
    have hs1:=hb1.size
    exact ((bcomp' hb1 HBr.out).alloc (by omega) (.cells #[u] 61)).grown hgrow (by simp;omega) (own_row_le (own_below HCP.out.own hb1))
   cases xv with
   | none=>
    obtain rfl:x=[]:=row_nil HXR.out
    have hs0:=HSTEP.out w0 (.slice none 0 0) (Below.refl _ _) (World.ownsRow_nil _ _ _ _) rfl
    have HS0:=hid hs0
    clear hs0 HSTEP
    go_wp2_with (first|(at_builtin;refine wpList_append_nonec rfl (.const (.slice none 0 0)) (.tmp 13) 61 rfl w0.heap.size 58 i1 1 Tryz.underlying61 hj (.slice none 0 0) 0 [] _ rfl (World.ownsRow_nil _ _ _ _) rfl ?_)|(at_builtin;refine wpList_append_own _ rfl (.tmp 12) (.tmp 15) 35 rfl w.heap.size 61 i0 (.slice none 0 0) 1 24 Tryz.underlying35 hi hz0 hz1 hz2 rfl (by decide) _ _ _ rfl (hown.alloc _) ⟨w0.heap.size,0,none⟩ 1 1 [.slice none 0 0] rfl rfl (many_new _ _ _) ?c2 ?c3 ?c4 ?c5 ?_))
    case c2=>intro u hu;simp at hu;subst hu;rfl
    case c3=>unfold maxLen;omega
    case c4=>omega
    case c5=>simp;omega
    ·intro v' w4 hown' hgrow _
     have HN:=hid (HS0.out v' w4 hown' hgrow)
     clear hown' hgrow hown HS0
     go_wp2
     go_roundw
     case rel=>exact⟨vs.length+1,by omega,by go_num,HN.out.1,HN.out.2⟩
     case measure=>simp[intOf];omega
   | some ad=>
    have hcells:=row_cells HXR.out
    have hfl:(x.flatMap cellsNum).length=x.length*1:=by rw[flat_length cellsNum 1 (fun _=>rfl)]
    have h1c:∀ u∈x.flatMap cellsNum,u.oneCell'=true:=by
     intro u hu
     obtain⟨y,_,hy⟩:=List.mem_flatMap.1 hu
     simp[cellsNum] at hy
     subst hy;rfl
    go_wp2_with (first|(at_builtin;refine wpList_append_own _ rfl (.const (.slice none 0 0)) (.tmp 13) 61 rfl w0.heap.size 58 i1 (.int .u64 0) 1 8 Tryz.underlying61 hj hy0 hy1 hy2 rfl (by decide) (.slice none 0 0) 0 [] rfl (World.ownsRow_nil _ _ _ _) ad x.length xc (x.flatMap cellsNum) rfl hfl hcells h1c ?d3 ?d4 ?d5 ?_;rotate_left 3;rintro u w1 hu hg -;have HB1:=hid (show Below w0.heap.size w0 w1 from (Below.refl _ _).grown hg (Nat.le_refl _) (fun k e=>by cases e));have HU:=hid (show w1.ownsRow w0.heap.size 58 1 u x.length (x.flatMap cellsNum) by simpa using hu);obtain⟨ua,uc,rfl,-⟩:=own_read HU.out;have hown1:=own_below hown HB1.out;have hs1:=HB1.out.size;clear hu hg hown)|(at_builtin;refine wpList_append_own _ rfl (.tmp 12) (.tmp 15) 35 rfl w.heap.size 61 i0 (.slice none 0 0) 1 24 Tryz.underlying35 hi hz0 hz1 hz2 rfl (by decide) _ _ _ rfl (hown1.alloc _) ⟨w1.heap.size,0,none⟩ 1 1 [.slice ua x.length uc] rfl rfl (many_new _ _ _) ?c2 ?c3 ?c4 ?c5 ?_))
    case d3=>unfold maxLen;omega
    case d4=>omega
    case c2=>first|rfl|(intro u hu;simp at hu;subst hu;rfl)
    case c3=>unfold maxLen;omega
    case c4=>omega
    case c5=>omega
    ·intro v' w4 hown' hgrow _
     have HN:=hid (HSTEP.out w1 (.slice ua x.length uc) HB1.out HU.out rfl v' w4 hown' hgrow)
     clear hown' hgrow hown1 HSTEP
     go_wp2
     go_roundw
     case rel=>exact⟨vs.length+1,by omega,by go_num,HN.out.1,HN.out.2⟩
     case measure=>simp[intOf];omega
  ·have hk2:vs.length=L.length:=by omega
   rw[hk2,List.take_length] at hcp
   have HL:=hid hcp
   clear hcp
   rw[hk2] at hk ⊢
   clear hk2 hlt
   go_wp2_with fail
   go_ret
   exact⟨_,_,rfl,HL.out,hb⟩
theorem infoTrc:(Tryz.prog.info? 52).map (fun i=>(i.zero,i.size,i.bytes))=some (some (.agg #[.int .u8 0,.int .i64 0,.slice none 0 0,.slice none 0 0,.slice none 0 0,.slice none 0 0]),6,112):=by kernel_rfl
abbrev trcL (t:TraceD) (ov rv bv dv:Value):List Value:=[.int .u8 t.status,.int .i64 t.steps,ov,rv,bv,dv]
def TrcU (n0:Nat) (w:World) (t:TraceD) (c:List Value):Prop:=∃ ov rv bv dv,c=trcL t ov rv bv dv∧RdTrace (some (upFrom n0)) w t ov rv bv dv
structure RunsU (n0:Nat) (w:World) (v:Value) (ts:List TraceD) (cs:List (List Value)):Prop where
 own:w.ownsRow n0 52 6 v ts.length cs.flatten
 len:cs.length=ts.length
 rd:∀ (j:Nat) (c:List Value) (t:TraceD),cs[j]?=some c→ts[j]?=some t→TrcU n0 w t c
theorem trace_grown {n0:Nat} {w w':World} {t:TraceD} {v ov rv bv dv:Value} {n:Nat} {xs:List Value} (h:RdTrace (some (upFrom n0)) w t ov rv bv dv) (hown:w.ownsRow n0 52 6 v n xs) (hg:w.grownBy w' v.ownBlock):RdTrace (some (upFrom n0)) w' t ov rv bv dv:=
 ⟨h.1.grown hown hg (by decide),h.2.1.grown hown hg (by decide),h.2.2.1.grown hown hg (by decide),h.2.2.2.1.grown hown hg (by decide),h.2.2.2.2⟩
theorem trace_up {n m:Nat} {w:World} {t:TraceD} {ov rv bv dv:Value} (h:RdTrace (some (upFrom n)) w t ov rv bv dv) (hm:m≤n):RdTrace (some (upFrom m)) w t ov rv bv dv:=
 ⟨h.1.same (fun _ _ _=>rfl) (fun _ _ k=>Nat.le_trans hm k),h.2.1.same (fun _ _ _=>rfl) (fun _ _ k=>Nat.le_trans hm k),h.2.2.1.same (fun _ _ _=>rfl) (fun _ _ k=>Nat.le_trans hm k),h.2.2.2.1.same (fun _ _ _=>rfl) (fun _ _ k=>Nat.le_trans hm k),h.2.2.2.2⟩
theorem RunsU.up {n m:Nat} {w:World} {v:Value} {ts:List TraceD} {cs:List (List Value)} (h:RunsU n w v ts cs) (k:m≤n):RunsU m w v ts cs:=
 ⟨own_up h.own k,h.len,fun j c t hj hl=>by obtain⟨a,b,d,e,rfl,hr⟩:=h.rd j c t hj hl;exact⟨a,b,d,e,rfl,trace_up hr k⟩⟩
theorem RunsU.push {n0:Nat} {w0 w1 w4:World} {v v' ov rv bv dv:Value} {ts:List TraceD} {cs:List (List Value)} {t:TraceD} (h:RunsU n0 w0 v ts cs) (hb:Below w0.heap.size w0 w1) (hn:n0≤w0.heap.size) (ht:RdTrace (some (upFrom w0.heap.size)) w1 t ov rv bv dv)
  (ho:w4.ownsRow n0 52 6 v' (ts.length+1) (cs.flatten++trcL t ov rv bv dv)) (hg:w1.grownBy w4 v.ownBlock):RunsU n0 w4 v' (ts++[t]) (cs++[trcL t ov rv bv dv]):=by
 have ho1:=own_below h.own hb
 refine⟨by rw[List.length_append,List.flatten_append];simpa using ho,by simp[h.len],fun j c t' hj hl=>?_⟩
 rcases snoc_at hj with ⟨hjl,hj⟩|⟨rfl,rfl⟩
 ·rcases snoc_at hl with ⟨_,hl⟩|⟨e,_⟩
  ·obtain⟨a,b,d,e,rfl,hr⟩:=h.rd j c t' hj hl
   exact⟨a,b,d,e,rfl,trace_grown (hr.keep hb) ho1 hg⟩
  ·have:=h.len;omega
 ·rcases snoc_at hl with ⟨e,_⟩|⟨_,rfl⟩
  ·have:=h.len;omega
  ·exact⟨_,_,_,_,rfl,trace_grown (trace_up ht hn) ho1 hg⟩
theorem runs_any (f:FlatD) (q:PolD) (cF cP:Array Value) (rv:Value) (Ls:List (List (List Int))) (w:World) (hF:FlatC w f cF) (hP:PolC w q cP) (hR:RdRuns w rv Ls) (hL:Laid w) (hn:Ls.length≤1000000) (hq:InI64 q.steps) (hz:∀ A∈Ls,A.length≤1000000) (hok:∀ A∈Ls,errRun f A.length q.steps=0) :
  Calls Tryz.prog 41 #[.agg cF,.agg cP,rv] w fun e w'=>∃ v cs,e=.returned (.tuple #[v,.int .i64 0])∧RunsU w.heap.size w' v (Ls.map fun A=>runT f A q.steps) cs∧Below w.heap.size w w':=by
 obtain⟨rb,ro,rc,rfl,hri⟩:=hR
 obtain⟨i0,hi,hz0,hz1,hz2⟩:=info_parts infoTrc
 have HRI:=hid hri
 have HF:=hid hF
 have HFI:=hid hF.info
 have HL:=hid hL
 have HQ:=hid hq
 have HZ:=hid hz
 have HOK:=hid hok
 clear hri hF hL hq hz hok
 obtain⟨lv,ov,cv,sv,rfl,_⟩:=hP
 have hal:=((Below.refl w.heap.size w).alloc (Nat.le_refl _) (.cells cF 26)).alloc (by simp) (.cells #[lv,ov,cv,sv,.bool q.sens,.int .i64 q.steps,.int .i64 q.paths,.int .i64 q.nodes,.int .i64 q.confs] 30)
 have hx:=heap2_of (w:=w) (A:=.cells cF 26 (0,0)) (B:=.cells #[lv,ov,cv,sv,.bool q.sens,.int .i64 q.steps,.int .i64 q.paths,.int .i64 q.nodes,.int .i64 q.confs] 30 (0,0)) (Below.refl _ _)
 have HB0:=hid hal
 have HG0:=hid hx.1
 have p5:=row_of hx.2.1 5 (.int .i64 q.steps) rfl
 clear hal hx
 go_enter Tryz.func41,Tryz.ntmps41
 go_upto_region 1 with fail
 generalize (w.alloc (.cells cF 26)).alloc (.cells #[lv,ov,cv,sv,.bool q.sens,.int .i64 q.steps,.int .i64 q.paths,.int .i64 q.nodes,.int .i64 q.confs] 30)=W at *
 have hsz:w.heap.size<W.heap.size:=(gsWtE HG0.out)
 go_wp2_with fail
 go_loopw [8,15] (fun v i wr=>∃ (k:Nat) (cs:List (List Value)) (ts:List TraceD),k≤Ls.length∧i=.int .i64 k∧Hid (ts=(Ls.take k).map fun A=>runT f A q.steps)∧Hid (RunsU W.heap.size wr v ts cs)∧Below W.heap.size W wr) (fun _ i _=>Ls.length-(intOf i).toNat)
 case atStart=>exact⟨0,[],[],Nat.zero_le _,rfl,rfl,⟨World.ownsRow_nil _ _ _ _,rfl,fun j c t h=>by simp at h⟩,Below.refl _ _⟩
 case round=>
  obtain⟨k,cs,ts,hk,rfl,HTS,HU,hb⟩:=hrel
  obtain⟨w0,rfl⟩:∃ x:World,x=wr:=⟨_,rfl⟩
  have hown:=HU.out.own
  obtain⟨va,vc,rfl,-⟩:=own_read hown
  have HB:=hid hb
  have hs0:=hb.size
  have htl:ts.length≤1000000:=by rw[HTS.out];simp;omega
  clear hb
  by_cases hlt:k<Ls.length
  ·have hlt1:(k:Int)<(Ls.length:Int):=by omega
   obtain⟨A,hA⟩:∃ A,Ls[k]?=some A:=⟨_,lgWtE hlt⟩
   obtain⟨iv,c0,hr⟩:=HRI.out k A hA
   have hbw:=bcomp HB0.out HB.out
   have d0:=cell_keep hbw c0
   have e5:=cell_keep HB.out p5
   have HGF:=hid ((HB.out.block _ hsz).trans HG0.out)
   have hmem:=List.mem_of_getElem? hA
   have HTK:Hid ((Ls.take (k+1)).map (fun A=>runT f A q.steps)=(Ls.take k).map (fun A=>runT f A q.steps)++[runT f A q.steps]):=by show _=_;rw[List.take_add_one,hA];simp
   obtain⟨fcv,fsv,fav,fkv,hcF,hFr⟩:=HF.out.keep hbw
   have hrun:=machRun f fcv fsv fav fkv iv A q.steps w0 hFr (hr.keep hbw) (HL.out.keep hbw) HQ.out (HZ.out A hmem)
   rw[HOK.out A hmem,show flatV f fcv fsv fav fkv=.agg cF from by rw[hcF]] at hrun
   have HRUN:=hid hrun
   generalize runT f A q.steps=t at *
   have hivs:=(hr.keep hbw).is
   obtain⟨ia,ic,rfl⟩:=hivs
   clear hrun hFr hcF hA hmem hr c0 hbw
   go_upto_region 6 with (first|(refine wpList_load_row rfl 26 (.tmp 3) rfl w.heap.size rfl 26 cF (0,0) _ ?l1 Tryz.underlying26 rfl ?i1 ?_;exact HGF.out;exact HFI.out)|(go_at_call 49;refine HRUN.out.mono ?_;rintro e z ⟨o1,o2,o3,o4,rfl,ht,hz⟩;obtain⟨x1,x2,rfl⟩:=ht.1.is;obtain⟨x3,x4,rfl⟩:=ht.2.1.is;obtain⟨x5,x6,rfl⟩:=ht.2.2.1.is;obtain⟨x7,x8,rfl⟩:=ht.2.2.2.1.is;have HT:=hid ht;have BZ:=hid hz;clear ht hz))
   have hal:=(Below.refl z.heap.size z).alloc (Nat.le_refl _) (.cells #[.int .u8 t.status,.int .i64 t.steps,.slice x1 t.outs.length x2,.slice x3 t.rels.length x4,.slice x5 t.brs.length x6,.slice x7 t.reads.length x8] 52)
   have hgn:=heap_alloc_new z (.cells #[.int .u8 t.status,.int .i64 t.steps,.slice x1 t.outs.length x2,.slice x3 t.rels.length x4,.slice x5 t.brs.length x6,.slice x7 t.reads.length x8] 52)
   have y0:=row_of hgn 0 (.int .u8 t.status) rfl
   have y1:=row_of hgn 1 (.int .i64 t.steps) rfl
   have y2:=row_of hgn 2 (.slice x1 t.outs.length x2) rfl
   have y3:=row_of hgn 3 (.slice x3 t.rels.length x4) rfl
   have y4:=row_of hgn 4 (.slice x5 t.brs.length x6) rfl
   have y5:=row_of hgn 5 (.slice x7 t.reads.length x8) rfl
   have HT2:=hid (HT.out.keep hal)
   have B2:=hid (bcomp BZ.out hal)
   clear hal hgn HT BZ HRUN d0 e5
   generalize z.alloc (.cells #[.int .u8 t.status,.int .i64 t.steps,.slice x1 t.outs.length x2,.slice x3 t.rels.length x4,.slice x5 t.brs.length x6,.slice x7 t.reads.length x8] 52)=z2 at *
   have hown1:=own_below hown B2.out
   have hs2:=B2.out.size
   clear hown
   go_wp2_with (at_builtin;refine wpList_append_own _ rfl (.tmp 30) (.tmp 32) 78 rfl W.heap.size 52 i0 (.agg #[.int .u8 0,.int .i64 0,.slice none 0 0,.slice none 0 0,.slice none 0 0,.slice none 0 0]) 6 112 Tryz.underlying78 hi hz0 hz1 hz2 rfl (by decide) _ _ _ rfl (hown1.alloc _) ⟨z2.heap.size,0,none⟩ 1 1 (trcL t (.slice x1 t.outs.length x2) (.slice x3 t.rels.length x4) (.slice x5 t.brs.length x6) (.slice x7 t.reads.length x8)) rfl rfl (many_new _ _ _) ?c2 ?c3 ?c4 ?c5 ?_)
   case c2=>intro u hu;simp at hu;rcases hu with rfl|rfl|rfl|rfl|rfl|rfl <;> rfl
   case c3=>unfold maxLen;omega
   case c4=>omega
   case c5=>simp;omega
   ·intro v' w4 hown' hgrow _
    have hal2:=(Below.refl z2.heap.size z2).alloc (Nat.le_refl _) (.cells #[.int .u8 t.status,.int .i64 t.steps,.slice x1 t.outs.length x2,.slice x3 t.rels.length x4,.slice x5 t.brs.length x6,.slice x7 t.reads.length x8] 52)
    have hN:=HU.out.push (bcomp B2.out hal2) (by omega) (HT2.out.keep hal2) hown' hgrow
    have HN:=hid hN
    have HBN:=hid (((bcomp HB.out (bcomp B2.out hal2))).grown hgrow (by simp;omega) (fun b e=>by have:=own_row_le hown1 b e;omega))
    have HTN:Hid (ts++[t]=(Ls.take (k+1)).map fun A=>runT f A q.steps):=by show _=_;rw[HTK.out,HTS.out]
    obtain⟨xa,xc,rfl,-⟩:=own_read hown'
    clear hown' hgrow hN hal2 hown1
    go_wp2
    go_roundw
    case rel=>exact⟨k+1,_,ts++[t],by omega,by go_num,HTN,HN,HBN.out⟩
    case measure=>simp[intOf];omega
  ·obtain rfl:k=Ls.length:=by omega
   have HTS2:Hid (ts=Ls.map fun A=>runT f A q.steps):=by show _=_;rw[HTS.out,List.take_length]
   clear HTS
   go_wp2_with fail
   go_ret2
   exact⟨_,cs,rfl,HTS2.out ▸ HU.out.up (by omega),bcomp HB0.out HB.out⟩
def makeE (f:FlatD) (q:PolD) (level:Int) (A B:List (List Int)):Int:=if leaksErr f q level A B≠0 then leaksErr f q level A B else if leaksB f q level A B=false then 4 else 0
abbrev witZ:Array Value:=#[.int .i64 0,.slice none 0 0,.slice none 0 0,.bool false]
theorem make_bad (f:FlatD) (q:PolD) (cF cP:Array Value) (level:Int) (av bv:Value) (A B:List (List Int)) (w:World) (hF:FlatC w f cF) (hP:PolC w q cP) (hL:Laid w) (hT:BitsAt w) (hlv:InI64 level) (ha:RdLists none w av A) (hb:RdLists none w bv B) (hzA:∀ l∈A,l.length≤1000000) (hzB:∀ l∈B,l.length≤1000000) {E:Int} (hE:makeE f q level A B=E) (h0:E≠0) :
  Calls Tryz.prog 19 #[.agg cF,.agg cP,.int .i64 level,av,bv] w fun e w'=>e=.returned (.tuple #[.agg witZ,.int .i64 E])∧Below w.heap.size w w':=by
 obtain⟨aa,ac,rfl⟩:=ha.is
 obtain⟨ba,bc,rfl⟩:=hb.is
 have hal:=(((Below.refl w.heap.size w).alloc (Nat.le_refl _) (.cells cF 26)).alloc (by simp) (.cells cP 30)).alloc (by simp;omega) (.cells #[.int .i64 0,.slice none 0 0,.slice none 0 0,.bool false] 43)
 have hx:=heap2_of (w:=w) (A:=.cells cF 26 (0,0)) (B:=.cells cP 30 (0,0)) ((Below.refl ((w.alloc (.cells cF 26)).alloc (.cells cP 30)).heap.size ((w.alloc (.cells cF 26)).alloc (.cells cP 30))).alloc (Nat.le_refl _) (.cells #[.int .i64 0,.slice none 0 0,.slice none 0 0,.bool false] 43))
 have hw3:(((w.alloc (.cells cF 26)).alloc (.cells cP 30)).alloc (.cells #[.int .i64 0,.slice none 0 0,.slice none 0 0,.bool false] 43)).heap[w.heap.size+1+1]?=some (.cells #[.int .i64 0,.slice none 0 0,.slice none 0 0,.bool false] 43 (0,0)):=by
  have:=heap_alloc_new ((w.alloc (.cells cF 26)).alloc (.cells cP 30)) (.cells #[.int .i64 0,.slice none 0 0,.slice none 0 0,.bool false] 43)
  simpa using this
 have HB:=hid hal
 have HGF:=hid hx.1
 have HGP:=hid hx.2.1
 have HGW:=hid hw3
 have HFI:=hid hF.info
 have HPI:=hid hP.info
 have hk:=leaks_any f q cF cP level _ _ A B _ (hF.keep hal) (hP.keep hal) (hL.keep hal) (hT.keep hal) hlv (ha.keep hal) (hb.keep hal) hzA hzB
 obtain⟨V,hV⟩:∃ V,leaksB f q level A B=V:=⟨_,rfl⟩
 obtain⟨E1,hE1⟩:∃ E,leaksErr f q level A B=E:=⟨_,rfl⟩
 unfold makeE at hE
 rw[hV,hE1] at hk hE
 have HK:=hid hk
 have HEE:=hid hE
 clear hal hx hw3 hk hF hP hL hT ha hb hV hE1 hE hlv hzA hzB
 go_enter Tryz.func19,Tryz.ntmps19
 go_upto_region 1 with fail
 generalize ((w.alloc (.cells cF 26)).alloc (.cells cP 30)).alloc (.cells #[.int .i64 0,.slice none 0 0,.slice none 0 0,.bool false] 43)=W at *
 have hsz:w.heap.size+1+1<W.heap.size:=(gsWtE HGW.out)
 by_cases h1:E1=0
 ·subst h1
  obtain rfl:V=false:=by
   cases V
   ·rfl
   ·have:=HEE.out;simp at this;exact absurd this.symm h0
  obtain rfl:E=4:=by have:=HEE.out;simp at this;exact this.symm
  go_wp2_with (first|(refine wpList_load_row rfl 26 (.tmp 5) rfl w.heap.size rfl 26 cF (0,0) _ ?l1 Tryz.underlying26 rfl ?i1 ?_;exact HGF.out;exact HFI.out)|(refine wpList_load_row rfl 30 (.tmp 6) rfl (w.heap.size+1) rfl 30 cP (0,0) _ ?l2 Tryz.underlying30 rfl ?i2 ?_;exact HGP.out;exact HPI.out)|(go_at_call 9;refine HK.out.mono ?_;rintro e z1 ⟨rfl,hz⟩;have BZ:=hid hz;have HGZ:=hid ((hz.block _ hsz).trans HGW.out);clear hz)|(refine wpList_store_row rfl 43 (.tmp 10) (.tmp 30) rfl (w.heap.size+1+1) #[.int .i64 0,.slice none 0 0,.slice none 0 0,.bool false] rfl rfl 43 #[.int .i64 0,.slice none 0 0,.slice none 0 0,.bool false] ?h5 (by as_aux_lemma=>kernel_rfl) (by as_aux_lemma=>kernel_rfl) (by as_aux_lemma=>kernel_rfl) ?_;exact HGZ.out))
  have HBF:=hid (bcomp HB.out BZ.out)
  refine bodyPost_ret (v:=.tuple #[.agg #[.int .i64 0,.slice none 0 0,.slice none 0 0,.bool false],.int .i64 4]) ?_ rfl ⟨rfl,below_row HBF.out (by omega) _⟩
  try simp only[Act.put]
  exact results_cell_two (P:=Tryz.prog) (fn:=Tryz.f19) rfl _ _ (w.heap.size+1+1) 43 #[.int .i64 0,.slice none 0 0,.slice none 0 0,.bool false] (0,0) _ rfl (setRow_heap _ _ _ _ _ _ HGZ.out) Tryz.underlying43 rfl (by kernel_rfl)
 ·have h1':(E1 != 0)=true:=by simpa using h1
  obtain rfl:E=E1:=by have:=HEE.out;rw[if_pos h1] at this;exact this.symm
  go_wp2_with (first|(refine wpList_load_row rfl 26 (.tmp 5) rfl w.heap.size rfl 26 cF (0,0) _ ?l3 Tryz.underlying26 rfl ?i3 ?_;exact HGF.out;exact HFI.out)|(refine wpList_load_row rfl 30 (.tmp 6) rfl (w.heap.size+1) rfl 30 cP (0,0) _ ?l4 Tryz.underlying30 rfl ?i4 ?_;exact HGP.out;exact HPI.out)|(go_at_call 9;refine HK.out.mono ?_;rintro e z1 ⟨rfl,hz⟩;have BZ:=hid hz;have HGZ:=hid ((hz.block _ hsz).trans HGW.out);clear hz)|(refine wpList_store_row rfl 43 (.tmp 10) (.tmp 26) rfl (w.heap.size+1+1) #[.int .i64 0,.slice none 0 0,.slice none 0 0,.bool false] rfl rfl 43 #[.int .i64 0,.slice none 0 0,.slice none 0 0,.bool false] ?h6 (by as_aux_lemma=>kernel_rfl) (by as_aux_lemma=>kernel_rfl) (by as_aux_lemma=>kernel_rfl) ?_;exact HGZ.out))
  have HBF:=hid (bcomp HB.out BZ.out)
  refine bodyPost_ret (v:=.tuple #[.agg #[.int .i64 0,.slice none 0 0,.slice none 0 0,.bool false],.int .i64 E]) ?_ rfl ⟨rfl,below_row HBF.out (by omega) _⟩
  try simp only[Act.put]
  exact results_cell_two (P:=Tryz.prog) (fn:=Tryz.f19) rfl _ _ (w.heap.size+1+1) 43 #[.int .i64 0,.slice none 0 0,.slice none 0 0,.bool false] (0,0) _ rfl (setRow_heap _ _ _ _ _ _ HGZ.out) Tryz.underlying43 rfl (by kernel_rfl)
def LenP (f:FlatD):Prop:=f.code.length≤30∧f.regs≤40∧f.chans.length≤40∧f.sites.length≤40∧f.arrays.length≤40
instance (f:FlatD):Decidable (LenP f):=by unfold LenP;infer_instance
def fine7 (f:FlatD) (q:PolD) (Ls:List (List (List Int))):Bool:=decide (LenP f)&&(decide (BriefP q)&&Ls.all fun A=>decide (shortP A))
theorem fine7_short {f:FlatD} {q:PolD} {Ls:List (List (List Int))} (h:fine7 f q Ls=true) {A:List (List Int)} (hA:A∈Ls):shortP A:=by
 unfold fine7 at h;simp only[Bool.and_eq_true,decide_eq_true_eq,List.all_eq_true] at h;exact h.2.2 A hA
theorem fine7_any (f:FlatD) (q:PolD) (cF cP:Array Value) (rv:Value) (Ls:List (List (List Int))) (w:World) (hF:FlatC w f cF) (hP:PolC w q cP) (hR:RdRuns w rv Ls) (hn:Ls.length≤1000000) :
  Calls Tryz.prog 13 #[.agg cF,.agg cP,rv] w fun e w'=>e=.returned (.bool (fine7 f q Ls))∧Below w.heap.size w w':=by
 obtain⟨rb,ro,rc,rfl,hri⟩:=hR
 obtain⟨V,hV⟩:∃ V,fine7 f q Ls=V:=⟨_,rfl⟩
 rw[hV]
 have HV:=hid hV
 obtain⟨lv,ov,cv,sv,rfl,_⟩:=id hP
 obtain⟨fcv,fsv,fav,fkv,rfl,hFr⟩:=hF
 obtain⟨fca,fcc,rfl⟩:=hFr.1.is
 obtain⟨fsa,fsc,rfl⟩:=hFr.2.1.is
 obtain⟨faa,fac,rfl⟩:=hFr.2.2.1.is
 obtain⟨fka,fkc,rfl⟩:=hFr.2.2.2.1.is
 clear hFr
 have HRI:=hid hri
 have HP:=hid hP
 have HPI:=hid hP.info
 clear hV hri hP
 have hal:=((Below.refl w.heap.size w).alloc (Nat.le_refl _) (.cells #[.int .i64 f.width,.int .i64 f.regs,.slice fca f.chans.length fcc,.slice fsa f.sites.length fsc,.slice faa f.arrays.length fac,.slice fka f.code.length fkc] 26)).alloc (by simp) (.cells #[lv,ov,cv,sv,.bool q.sens,.int .i64 q.steps,.int .i64 q.paths,.int .i64 q.nodes,.int .i64 q.confs] 30)
 have hx:=heap2_of (w:=w) (A:=.cells #[.int .i64 f.width,.int .i64 f.regs,.slice fca f.chans.length fcc,.slice fsa f.sites.length fsc,.slice faa f.arrays.length fac,.slice fka f.code.length fkc] 26 (0,0)) (B:=.cells #[lv,ov,cv,sv,.bool q.sens,.int .i64 q.steps,.int .i64 q.paths,.int .i64 q.nodes,.int .i64 q.confs] 30 (0,0)) (Below.refl _ _)
 have HB0:=hid hal
 have HG0:=hid hx.1
 have HG1:=hid hx.2.1
 clear hal hx
 go_enter Tryz.func13,Tryz.ntmps13
 go_upto_region 1 with fail
 generalize (w.alloc (.cells #[.int .i64 f.width,.int .i64 f.regs,.slice fca f.chans.length fcc,.slice fsa f.sites.length fsc,.slice faa f.arrays.length fac,.slice fka f.code.length fkc] 26)).alloc (.cells #[lv,ov,cv,sv,.bool q.sens,.int .i64 q.steps,.int .i64 q.paths,.int .i64 q.nodes,.int .i64 q.confs] 30)=W at *
 have hsz:w.heap.size+1<W.heap.size:=(gsWtE HG1.out)
 have p0:=row_of HG1.out 0 lv rfl
 have p1:=row_of HG1.out 1 ov rfl
 have p2:=row_of HG1.out 2 cv rfl
 have p3:=row_of HG1.out 3 sv rfl
 have p4:=row_of HG1.out 4 (.bool q.sens) rfl
 have p5:=row_of HG1.out 5 (.int .i64 q.steps) rfl
 have p6:=row_of HG1.out 6 (.int .i64 q.paths) rfl
 have p7:=row_of HG1.out 7 (.int .i64 q.nodes) rfl
 have p8:=row_of HG1.out 8 (.int .i64 q.confs) rfl
 have f0:=row_of HG0.out 0 (.int .i64 f.width) rfl
 have f1:=row_of HG0.out 1 (.int .i64 f.regs) rfl
 have f2:=row_of HG0.out 2 (.slice fca f.chans.length fcc) rfl
 have f3:=row_of HG0.out 3 (.slice fsa f.sites.length fsc) rfl
 have f4:=row_of HG0.out 4 (.slice faa f.arrays.length fac) rfl
 have f5:=row_of HG0.out 5 (.slice fka f.code.length fkc) rfl
 have HBR:=hid (brief_any q _ W (HP.out.keep HB0.out))
 by_cases r1:(30:Int)<f.code.length
 ·obtain rfl:V=false:=by rw[← HV.out];unfold fine7;rw[decide_eq_false (fun hh=>by unfold LenP at hh;omega)];rfl
  go_wp2_with fail
  go_ret
  exact⟨rfl,HB0.out⟩
 by_cases r2:(40:Int)<f.regs
 ·obtain rfl:V=false:=by rw[← HV.out];unfold fine7;rw[decide_eq_false (fun hh=>by unfold LenP at hh;omega)];rfl
  go_wp2_with fail
  go_ret
  exact⟨rfl,HB0.out⟩
 by_cases r3:(40:Int)<f.chans.length
 ·obtain rfl:V=false:=by rw[← HV.out];unfold fine7;rw[decide_eq_false (fun hh=>by unfold LenP at hh;omega)];rfl
  go_wp2_with fail
  go_ret
  exact⟨rfl,HB0.out⟩
 by_cases r4:(40:Int)<f.sites.length
 ·obtain rfl:V=false:=by rw[← HV.out];unfold fine7;rw[decide_eq_false (fun hh=>by unfold LenP at hh;omega)];rfl
  go_wp2_with fail
  go_ret
  exact⟨rfl,HB0.out⟩
 by_cases r5:(40:Int)<f.arrays.length
 ·obtain rfl:V=false:=by rw[← HV.out];unfold fine7;rw[decide_eq_false (fun hh=>by unfold LenP at hh;omega)];rfl
  go_wp2_with fail
  go_ret
  exact⟨rfl,HB0.out⟩
 have hs:LenP f:=by unfold LenP;omega
 by_cases hb:BriefP q
 case neg=>
  obtain rfl:V=false:=by rw[← HV.out];unfold fine7;simp[hb]
  rw[decide_eq_false hb] at HBR
  go_wp2_with (go_at_call 6;refine HBR.out.mono ?_;rintro e z2 ⟨rfl,hz⟩;have B2:=hid (bcomp HB0.out hz);clear hz)
  go_ret
  exact⟨rfl,B2.out⟩
 rw[decide_eq_true hb] at HBR
 go_upto_region 4 with (go_at_call 6;refine HBR.out.mono ?_;rintro e z2 ⟨rfl,hz⟩;have B2:=hid (bcomp HB0.out hz);clear hz)
 have HSB:Hid (fine7 f q Ls=Ls.all fun A=>decide (shortP A)):=by show _=_;unfold fine7;rw[decide_eq_true hs,decide_eq_true hb];simp
 clear hs hb HBR HG0 HG1 HP p0 p1 p2 p3 p4 p5 p6 p7 p8 f0 f1 f2 f3 f4 f5
 go_loopw [7] (fun i wr=>∃ k:Nat,k≤Ls.length∧i=.int .i64 k∧z2=wr∧Hid (∀ A∈Ls.take k,shortP A)) (fun i _=>Ls.length-(intOf i).toNat)
 case atStart=>exact⟨0,Nat.zero_le _,rfl,rfl,fun l hl=>by simp at hl⟩
 case round=>
  obtain⟨k,hk,rfl,rfl,HQ⟩:=hrel
  by_cases hlt:k<Ls.length
  ·have hlt1:(k:Int)<Ls.length:=by omega
   obtain⟨A,hA⟩:∃ A,Ls[k]?=some A:=⟨_,lgWtE hlt⟩
   obtain⟨iv,c0,hr⟩:=HRI.out k A hA
   have d0:=cell_keep B2.out c0
   have hsv:=short_any iv A z2 (hr.keep B2.out)
   clear hr c0
   by_cases hsp:shortP A
   ·have HQ2:Hid (∀ m∈Ls.take (k+1),shortP m):=by
     intro m hm
     rw[List.take_add_one,hA] at hm
     rcases List.mem_append.1 hm with h|h
     ·exact HQ.out m h
     ·simp at h;subst h;exact hsp
    rw[decide_eq_true hsp] at hsv
    have HSV:=hid hsv
    clear hA hsv hsp
    go_wp2_with (go_at_call 8;refine HSV.out.mono ?_;rintro e z4 ⟨rfl,rfl⟩)
    go_roundw
    case rel=>exact⟨k+1,by omega,by go_num,trivial,HQ2⟩
    case measure=>simp[intOf];omega
   ·obtain rfl:V=false:=by
     rw[← HV.out,HSB.out,List.all_eq_false]
     exact⟨A,List.mem_of_getElem? hA,by simp[hsp]⟩
    rw[decide_eq_false hsp] at hsv
    have HSV:=hid hsv
    clear hA hsv hsp
    go_wp2_with (go_at_call 8;refine HSV.out.mono ?_;rintro e z4 ⟨rfl,rfl⟩)
    go_ret
    exact⟨rfl,B2.out⟩
  ·obtain rfl:k=Ls.length:=by omega
   obtain rfl:V=true:=by
    rw[← HV.out,HSB.out,List.all_eq_true]
    intro A hA
    rw[List.take_length] at HQ
    exact decide_eq_true (HQ.out A hA)
   go_wp2_with fail
   go_ret
   exact⟨rfl,B2.out⟩
theorem makeE_zero {f:FlatD} {q:PolD} {level:Int} {A B:List (List Int)} (h:makeE f q level A B=0):leaksErr f q level A B=0∧leaksB f q level A B=true:=by
 unfold makeE at h
 by_cases h1:leaksErr f q level A B=0
 ·rw[if_neg (fun k=>k h1)] at h
  refine⟨h1,?_⟩
  cases hv:leaksB f q level A B
  ·rw[hv,if_pos rfl] at h;cases h
  ·rfl
 ·rw[if_pos h1] at h;exact absurd h h1
theorem runs_fine {f:FlatD} {q:PolD} {level:Int} {A B:List (List Int)} (h:leaksErr f q level A B=0):errRun f A.length q.steps=0∧errRun f B.length q.steps=0∧A.length≤1000000∧B.length≤1000000:=by
 unfold leaksErr at h
 have hs:sideErr f q=0:=by
  by_cases h1:sideErr f q=0
  ·exact h1
  ·rw[if_pos h1] at h;exact absurd h h1
 rw[if_neg (fun k=>k hs)] at h
 have hr:¬ rangeBad f q level A B:=fun k=>by rw[if_pos k] at h;cases h
 have hP:=sideP hs
 have hc:=(headP hP.ok).chans
 unfold rangeBad at hr
 exact⟨side_err hP (by omega),side_err hP (by omega),by omega,by omega⟩
theorem runs_pos {n0:Nat} {w:World} {v:Value} {t:TraceD} {ts:List TraceD} {cs:List (List Value)} (h:RunsU n0 w v (t :: ts) cs):0<cs.flatten.length:=by
 cases cs with
 | nil=>have:=h.len;simp at this
 | cons c r=>
  obtain⟨a,b,d,e,rfl,_⟩:=h.rd 0 c t rfl rfl
  simp
theorem runs_pair {n0:Nat} {w:World} {v:Value} {t u:TraceD} {cs:List (List Value)} (h:RunsU n0 w v [t,u] cs):∃ g c x0 x1 x2 x3 x4 x5 y0 y1 y2 y3 y4 y5,v=.slice (some ⟨g,0,none⟩) 2 c∧g<w.heap.size∧w.cell? ⟨g,0,none⟩=some x0∧w.cell? ⟨g,1,none⟩=some x1∧w.cell? ⟨g,2,none⟩=some x2∧w.cell? ⟨g,3,none⟩=some x3∧w.cell? ⟨g,4,none⟩=some x4∧w.cell? ⟨g,5,none⟩=some x5∧w.cell? ⟨g,6,none⟩=some y0∧w.cell? ⟨g,7,none⟩=some y1∧w.cell? ⟨g,8,none⟩=some y2∧w.cell? ⟨g,9,none⟩=some y3∧w.cell? ⟨g,10,none⟩=some y4∧w.cell? ⟨g,11,none⟩=some y5∧TrcC w t #[x0,x1,x2,x3,x4,x5]∧TrcC w u #[y0,y1,y2,y3,y4,y5]:=by
 obtain⟨g,c,cur,rfl,hg,_,hc,_⟩:=own_in h.own (runs_pos h)
 have hl:=h.len
 match cs,hl with
 | [c0,c1],_=>
  obtain⟨a,b,d,e,rfl,r0⟩:=h.rd 0 c0 t rfl rfl
  obtain⟨a',b',d',e',rfl,r1⟩:=h.rd 1 c1 u rfl rfl
  exact⟨g,c,_,_,_,_,_,_,_,_,_,_,_,_,rfl,(gsWtE hg),hc 0 _ rfl,hc 1 _ rfl,hc 2 _ rfl,hc 3 _ rfl,hc 4 _ rfl,hc 5 _ rfl,hc 6 _ rfl,hc 7 _ rfl,hc 8 _ rfl,hc 9 _ rfl,hc 10 _ rfl,hc 11 _ rfl,⟨_,_,_,_,rfl,r0.forget⟩,⟨_,_,_,_,rfl,r1.forget⟩⟩
theorem make_good (f:FlatD) (q:PolD) (cF cP:Array Value) (level:Int) (av bv:Value) (A B:List (List Int)) (w:World) (hF:FlatC w f cF) (hP:PolC w q cP) (hL:Laid w) (hT:BitsAt w) (hlv:InI64 level) (ha:RdLists none w av A) (hb:RdLists none w bv B) (hzA:∀ l∈A,l.length≤1000000) (hzB:∀ l∈B,l.length≤1000000) (hE:makeE f q level A B=0) :
  Calls Tryz.prog 19 #[.agg cF,.agg cP,.int .i64 level,av,bv] w fun e w'=>∃ va vsa vb vsb,e=.returned (.tuple #[.agg #[.int .i64 level,va,vb,.bool (implB (runT f A q.steps) (runT f B q.steps))],.int .i64 0])∧OwnL w.heap.size w' va vsa A∧OwnL w.heap.size w' vb vsb B∧Below w.heap.size w w':=by
 obtain⟨hE1,hV⟩:=makeE_zero hE
 obtain⟨er1,er2,hnA,hnB⟩:=runs_fine hE1
 obtain⟨aa,ac,rfl⟩:=ha.is
 obtain⟨ba,bc,rfl⟩:=hb.is
 have hal:=(((Below.refl w.heap.size w).alloc (Nat.le_refl _) (.cells cF 26)).alloc (by simp) (.cells cP 30)).alloc (by simp;omega) (.cells #[.int .i64 0,.slice none 0 0,.slice none 0 0,.bool false] 43)
 have hx:=heap2_of (w:=w) (A:=.cells cF 26 (0,0)) (B:=.cells cP 30 (0,0)) ((Below.refl ((w.alloc (.cells cF 26)).alloc (.cells cP 30)).heap.size ((w.alloc (.cells cF 26)).alloc (.cells cP 30))).alloc (Nat.le_refl _) (.cells #[.int .i64 0,.slice none 0 0,.slice none 0 0,.bool false] 43))
 have hw3:(((w.alloc (.cells cF 26)).alloc (.cells cP 30)).alloc (.cells #[.int .i64 0,.slice none 0 0,.slice none 0 0,.bool false] 43)).heap[w.heap.size+1+1]?=some (.cells #[.int .i64 0,.slice none 0 0,.slice none 0 0,.bool false] 43 (0,0)):=by
  have:=heap_alloc_new ((w.alloc (.cells cF 26)).alloc (.cells cP 30)) (.cells #[.int .i64 0,.slice none 0 0,.slice none 0 0,.bool false] 43)
  simpa using this
 have HB:=hid hal
 have HGF:=hid hx.1
 have HGP:=hid hx.2.1
 have HGW:=hid hw3
 have HFI:=hid hF.info
 have HPI:=hid hP.info
 have hqs:InI64 q.steps:=by obtain⟨_,_,_,_,_,g⟩:=hP;exact g.2.2.2.2.1
 have HQS:=hid hqs
 have hk:=leaks_any f q cF cP level _ _ A B _ (hF.keep hal) (hP.keep hal) (hL.keep hal) (hT.keep hal) hlv (ha.keep hal) (hb.keep hal) hzA hzB
 rw[hV,hE1] at hk
 have HK:=hid hk
 have HF:=hid (hF.keep hal)
 have HP:=hid (hP.keep hal)
 have HL:=hid (hL.keep hal)
 have HA:=hid (ha.keep hal)
 have HBB:=hid (hb.keep hal)
 have HZA:=hid hzA
 have HZB:=hid hzB
 have HER:=hid (And.intro er1 er2)
 clear hal hx hw3 hk hF hP hL hT ha hb hV hE1 hE hlv hzA hzB hqs er1 er2
 go_enter Tryz.func19,Tryz.ntmps19
 go_upto_region 1 with fail
 generalize ((w.alloc (.cells cF 26)).alloc (.cells cP 30)).alloc (.cells #[.int .i64 0,.slice none 0 0,.slice none 0 0,.bool false] 43)=W at *
 have hsz:w.heap.size+1+1<W.heap.size:=(gsWtE HGW.out)
 go_upto_region 6 with (first|(refine wpList_load_row rfl 26 (.tmp 5) rfl w.heap.size rfl 26 cF (0,0) _ ?l1 Tryz.underlying26 rfl ?i1 ?_;exact HGF.out;exact HFI.out)|(refine wpList_load_row rfl 30 (.tmp 6) rfl (w.heap.size+1) rfl 30 cP (0,0) _ ?l2 Tryz.underlying30 rfl ?i2 ?_;exact HGP.out;exact HPI.out)|(go_at_call 9;refine HK.out.mono ?_;rintro e z1 ⟨rfl,hz⟩;have BZ:=hid hz;have HGZ:=hid ((hz.block _ hsz).trans HGW.out);clear hz))
 have HGF1:=hid ((BZ.out.block _ (by omega)).trans HGF.out)
 have HGP1:=hid ((BZ.out.block _ (by omega)).trans HGP.out)
 have hal2:=(Below.refl z1.heap.size z1).alloc (Nat.le_refl _) (.cells #[.slice aa A.length ac,.slice ba B.length bc] 35)
 have hb2:=bcomp BZ.out hal2
 have hrn:=runs_any f q cF cP _ [A,B] _ (HF.out.keep hb2) (HP.out.keep hb2) (runs_two (heap_alloc_new z1 (.cells #[.slice aa A.length ac,.slice ba B.length bc] 35)) (HA.out.keep hb2) (HBB.out.keep hb2)) (HL.out.keep hb2) (by simp) HQS.out (by intro X hX;simp at hX;rcases hX with rfl|rfl <;> assumption) (by intro X hX;simp at hX;rcases hX with rfl|rfl;exact HER.out.1;exact HER.out.2)
 have HRN:=hid hrn
 have HB2:=hid hb2
 clear hrn hal2 hb2 HK HGF HGP HER
 go_upto_region 9 with (first|(refine wpList_load_row rfl 26 (.tmp 5) rfl w.heap.size rfl 26 cF (0,0) _ ?l3 Tryz.underlying26 rfl ?i3 ?_;exact HGF1.out;exact HFI.out)|(refine wpList_load_row rfl 30 (.tmp 6) rfl (w.heap.size+1) rfl 30 cP (0,0) _ ?l4 Tryz.underlying30 rfl ?i4 ?_;exact HGP1.out;exact HPI.out)|(go_at_call 41;refine HRN.out.mono ?_;rintro e z2 ⟨rv,cs,rfl,hru,hz⟩;have HRU:=hid hru;have B2:=hid (bcomp HB2.out hz);obtain⟨rg,rc,x0,x1,x2,x3,x4,x5,y0,y1,y2,y3,y4,y5,rfl,hgl,k0,k1,k2,k3,k4,k5,k6,k7,k8,k9,k10,k11,hX,hY⟩:=runs_pair hru;have HX:=hid hX;have HY:=hid hY;clear hru hz hX hY))
 have s0:=keepS_cell (S:=[rg]) (by simp) k0
 have s1:=keepS_cell (S:=[rg]) (by simp) k1
 have s2:=keepS_cell (S:=[rg]) (by simp) k2
 have s3:=keepS_cell (S:=[rg]) (by simp) k3
 have s4:=keepS_cell (S:=[rg]) (by simp) k4
 have s5:=keepS_cell (S:=[rg]) (by simp) k5
 have s6:=keepS_cell (S:=[rg]) (by simp) k6
 have s7:=keepS_cell (S:=[rg]) (by simp) k7
 have s8:=keepS_cell (S:=[rg]) (by simp) k8
 have s9:=keepS_cell (S:=[rg]) (by simp) k9
 have s10:=keepS_cell (S:=[rg]) (by simp) k10
 have s11:=keepS_cell (S:=[rg]) (by simp) k11
 have HDR:Hid (∀ b:Nat,z2.drew.heap[b]?=z2.heap[b]?):=fun _=>rfl
 have HBD:=hid (bcomp B2.out (Below.refl z2.heap.size z2).drew)
 have HDD:=hid (Below.refl z2.heap.size z2).drew
 have hl3:rg<z2.drew.heap.size:=hgl
 clear k0 k1 k2 k3 k4 k5 k6 k7 k8 k9 k10 k11
 refine wp_region_mixS [rg] (.one [0,1,3,5,6,7,8,9,10] 2 (.one [] 4 (.one [] 11 (tailOf [12,13,14])))) (fun j=>decide (12≤j)) (by kernel_rfl) (by kernel_rfl) rfl (by kernel_rfl) (fun _ d _ _ _ h=>by cases d <;> exact h) ?_
 generalize z2.drew=w3 at *
 have HX3:=hid (HX.out.keep HDD.out)
 have HY3:=hid (HY.out.keep HDD.out)
 have HC1:=hid (copied_any _ A w3 (HA.out.keep HBD.out) HZA.out)
 refine mix_one (by simp only[opsOf,List.filterMap_cons,List.filterMap_nil,List.getElem?_toArray,List.getElem?_cons_succ,List.getElem?_cons_zero];rfl) ⟨_,keepS_of (fun b _=>HDR.out b)⟩ ?_
 change wpQuiet _ _ _ _ [_,_,_,_,_,_,_,_,_] _
 (repeat (go_big_quiet_step (fail)))
 refine wpQuiet_nil ?_
 refine mix_step rfl ?_
 go_wp2_with (go_at_call 42;refine HC1.out.mono ?_;rintro e w4 ⟨va,vsa,rfl,ho,hz⟩;obtain⟨ya,yc,rfl,-⟩:=own_read ho.own;have HO1:=hid ho;have B4:=hid hz;clear ho hz)
 have hl4:rg<w4.heap.size:=by have:=B4.out.size;omega
 have HK4:Hid (∀ b∈[rg],w4.heap[b]?=z2.heap[b]?):=fun b hb=>by simp at hb;subst hb;exact (B4.out.block _ hl3).trans (HDR.out _)
 have HC2:=hid (copied_any _ B w4 (HBB.out.keep (bcomp HBD.out B4.out)) HZB.out)
 refine⟨fun _=>⟨_,keepS_of HK4.out⟩,?_⟩
 refine mix_now ?_
 refine mix_step rfl ?_
 go_wp2_with (go_at_call 42;refine HC2.out.mono ?_;rintro e w5 ⟨vb,vsb,rfl,ho,hz⟩;obtain⟨yb,yd,rfl,-⟩:=own_read ho.own;have HO2:=hid ho;have B5:=hid hz;clear ho hz)
 have HK5:Hid (∀ b∈[rg],w5.heap[b]?=z2.heap[b]?):=fun b hb=>by have hb2:=hb;simp at hb;subst hb;exact (B5.out.block _ hl4).trans (HK4.out _ hb2)
 have hl5:rg<w5.heap.size:=by have:=B5.out.size;omega
 have HIM:=hid (implicit_any _ _ _ _ w5 (HX3.out.keep (bcomp B4.out B5.out)) (HY3.out.keep (bcomp B4.out B5.out)))
 refine⟨fun _=>⟨_,keepS_of HK5.out⟩,?_⟩
 refine mix_now ?_
 refine mix_step rfl ?_
 go_wp2_with (go_at_call 21;refine HIM.out.mono ?_;rintro e w6 ⟨rfl,hz⟩;have B6:=hid hz;clear hz)
 have HK6:Hid (∀ b∈[rg],w6.heap[b]?=z2.heap[b]?):=fun b hb=>by have hb2:=hb;simp at hb;subst hb;exact (B6.out.block _ hl5).trans (HK5.out _ hb2)
 have HBW:=hid (bcomp HBD.out (bcomp B4.out (bcomp B5.out B6.out)))
 have HGZ6:=hid ((HBW.out.block _ hsz).trans HGW.out)
 have hs6:=HBW.out.size
 refine⟨fun _=>⟨_,keepS_of HK6.out⟩,?_⟩
 refine mix_tail [12,13,14] [_,_,_] _ _ rfl rfl ?_
 simp only[Act.put,List.setIfInBounds_toArray,List.set_cons_succ,List.set_cons_zero,List.getElem_toArray,List.getElem_cons_succ,List.getElem_cons_zero]
 go_wp2_with (refine wpList_store_row rfl 43 (.tmp 10) (.tmp 56) rfl (w.heap.size+1+1) #[.int .i64 level,.slice ya vsa.length yc,.slice yb vsb.length yd,.bool (implB (runT f A q.steps) (runT f B q.steps))] rfl rfl 43 #[.int .i64 0,.slice none 0 0,.slice none 0 0,.bool false] ?h5 (by as_aux_lemma=>kernel_rfl) (by as_aux_lemma=>kernel_rfl) (by as_aux_lemma=>kernel_rfl) ?_;exact HGZ6.out)
 have hfin:∀ b,b≠w.heap.size+1+1→(w6.setRow (w.heap.size+1+1) #[.int .i64 level,.slice ya vsa.length yc,.slice yb vsb.length yd,.bool (implB (runT f A q.steps) (runT f B q.steps))]).heap[b]?=w6.heap[b]?:=fun b hne=>setRow_other _ _ _ _ hne
 have HO1F:=hid (((HO1.out.keep (bcomp B5.out B6.out)).same (w':=w6.setRow (w.heap.size+1+1) #[.int .i64 level,.slice ya vsa.length yc,.slice yb vsb.length yd,.bool (implB (runT f A q.steps) (runT f B q.steps))]) (fun b hb hl=>hfin b (by have:=HBD.out.size;omega))).up (n0:=w.heap.size) (by have:=HBD.out.size;omega))
 have HO2F:=hid (((HO2.out.keep B6.out).same (w':=w6.setRow (w.heap.size+1+1) #[.int .i64 level,.slice ya vsa.length yc,.slice yb vsb.length yd,.bool (implB (runT f A q.steps) (runT f B q.steps))]) (fun b hb hl=>hfin b (by have:=HBD.out.size;have:=B4.out.size;omega))).up (n0:=w.heap.size) (by have:=HBD.out.size;have:=B4.out.size;omega))
 have HBF:=hid (bcomp HB.out HBW.out)
 refine bodyPost_ret (v:=.tuple #[.agg #[.int .i64 level,.slice ya vsa.length yc,.slice yb vsb.length yd,.bool (implB (runT f A q.steps) (runT f B q.steps))],.int .i64 0]) ?_ rfl ⟨_,_,_,_,rfl,HO1F.out,HO2F.out,below_row HBF.out (by omega) _⟩
 try simp only[Act.put]
 exact results_cell_two (P:=Tryz.prog) (fn:=Tryz.f19) rfl _ _ (w.heap.size+1+1) 43 #[.int .i64 level,.slice ya vsa.length yc,.slice yb vsb.length yd,.bool (implB (runT f A q.steps) (runT f B q.steps))] (0,0) _ rfl (setRow_heap _ _ _ _ _ _ HGZ6.out) Tryz.underlying43 rfl (by kernel_rfl)
end Go.Proofs.YtkjkpddajjmloaaGreatDoor
