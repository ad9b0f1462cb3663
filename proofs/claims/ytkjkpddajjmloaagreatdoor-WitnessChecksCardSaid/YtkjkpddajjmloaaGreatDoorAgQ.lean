/- The walks of package view but Inputs: filter with its two closures, may, Events, Prefix. Condition: what comes in reads as the plain data, the lattice lies in memory. -/
import Derived.Test.YtkjkpddajjmloaaGreatDoorAgH
import Derived.Test.YtkjkpddajjmloaaGreatDoorAgR
import Derived.Test.YtkjkpddajjmloaaGreatDoorKOl
set_option linter.all false
set_option maxRecDepth 1000000
set_option maxHeartbeats 6400000
namespace Go.Proofs.YtkjkpddajjmloaaGreatDoor
open Go.ChangeShapes Go.WideShapes Go.ChangeAt Go.RowKit
open Go.Lib (hid)
theorem gsAgQ {α:Type} {a:Array α} {i:Nat} {v:α} (h:a[i]?=some v):i<a.size:=(Array.getElem?_eq_some_iff.1 h).1
theorem lgAgQ {α:Type} {l:List α} {i:Nat} (h:i<l.length):l[i]?=some l[i]:=List.getElem?_eq_getElem h
theorem filter_no {α:Type} {p:α→Bool} {x:α} (h:p x=false):[x].filter p=[]:=by simp[List.filter,h]
theorem filter_yes {α:Type} {p:α→Bool} {x:α} (h:p x=true):[x].filter p=[x]:=by simp[List.filter,h]
theorem LatAt.one {w:World} {v:Value} {L:LatD} (h:LatAt w v L):v.oneCell'=true:=by obtain⟨b,rfl,_⟩:=h;rfl
theorem mayIs (L:LatD) (v:Value) (x:Int) (c:Nat) (w:World) (h:LatAt w v L) (hc:w.cell? ⟨c,0,none⟩=some v) :
  Calls Tryz.prog 114 #[.int .i64 x,.pointer (some ⟨c,0,none⟩)] w fun e w'=>e=.returned (.bool (!isL L x))∧Below w.heap.size w w':=by
 have HL:=hid (len_any L v w h)
 obtain⟨p,rfl,_⟩:=h
 have HV:Hid ((!isL L x)=(decide (x<0)||decide ((L.n:Int)≤x))):=by
  show _=_
  unfold isL
  rw[Bool.eq_iff_iff];first|(simp;done)|(simp;omega)
 generalize (!isL L x)=V at *
 go_enter Tryz.func114,Tryz.ntmps114
 by_cases g1:x<0
 ·go_wp2_with fail
  go_ret
  exact⟨by rw[HV.out];first|(simp[g1];done)|(simp;omega),Below.refl _ _⟩
 ·by_cases g2:(L.n:Int)≤x
  ·go_wp2_with (go_at_call 28;refine HL.out.mono ?_;rintro e w' ⟨rfl,rfl⟩)
   go_ret
   exact⟨by rw[HV.out];first|(simp[g1,g2];done)|(simp;omega),Below.refl _ _⟩
  ·go_wp2_with (go_at_call 28;refine HL.out.mono ?_;rintro e w' ⟨rfl,rfl⟩)
   go_ret
   exact⟨by rw[HV.out];first|(simp[g1,g2];done)|(simp;omega),Below.refl _ _⟩
theorem eventsIs (L:LatD) (v lvs:Value) (level:Int) (levels:List Int) (x:EvD) (c1 c2 c3:Nat) (w:World) (h:LatAt w v L) (hr:RdRow kInt none w lvs levels) (h1:w.cell? ⟨c1,0,none⟩=some v) (h2:w.cell? ⟨c2,0,none⟩=some lvs) (h3:w.cell? ⟨c3,0,none⟩=some (.int .i64 level)) (hx:badEv levels x=false) :
  Calls Tryz.prog 137 #[.agg #[.int .i64 x.n,.int .u64 x.val],.pointer (some ⟨c1,0,none⟩),.pointer (some ⟨c2,0,none⟩),.pointer (some ⟨c3,0,none⟩)] w fun e w'=>e=.returned (.bool (seesEv L level levels x))∧Below w.heap.size w w':=by
 obtain⟨la,lc,rfl⟩:=hr.is
 have hb:¬ x.n<0∧¬ (levels.length:Int)≤x.n:=by
  unfold badEv at hx
  simpa using hx
 obtain⟨xn,xv⟩:=x
 obtain⟨hb1,hb2⟩:=hb
 simp only at hb1 hb2
 obtain⟨i,rfl⟩:∃ i:Nat,xn=i:=⟨xn.toNat,by omega⟩
 obtain⟨y,hy⟩:∃ y,levels[i]?=some y:=⟨_,lgAgQ (by omega)⟩
 have HV:Hid (seesEv L level levels ⟨i,xv⟩=leL L y level):=by
  show _=_
  unfold seesEv
  rw[Int.toNat_natCast,List.getD_eq_getElem?_getD,hy];rfl
 have HB0:=hid ((Below.refl w.heap.size w).alloc (Nat.le_refl _) (.cells #[.int .i64 i,.int .u64 xv] 163))
 have HC0:=hid (heap_alloc_new w (.cells #[.int .i64 i,.int .u64 xv] 163))
 obtain⟨b,o,rfl,_,cy,_⟩:=atInt hr hy
 have HLE:=hid (fun (w':World) (k:Below w.heap.size w w')=>le_any L v y level w' (h.keep k))
 obtain⟨V,hV⟩:∃ V,leL L y level=V:=⟨_,rfl⟩
 rw[hV] at HV HLE
 rw[HV.out]
 have hi1:¬ ((i:Int)<0):=by omega
 have hi2:(i:Int)<levels.length:=by omega
 have hll:levels.length*8≤140737488351232:=hr.size
 clear hV HV hy hx h hr
 go_enter Tryz.func137,Tryz.ntmps137
 go_upto_region 1 with fail
 have d1:=cell_keep HB0.out h1
 have d2:=cell_keep HB0.out h2
 have d3:=cell_keep HB0.out h3
 have d4:=cell_keep HB0.out cy
 clear h1 h2 h3 cy
 generalize w.alloc (.cells #[.int .i64 i,.int .u64 xv] 163)=W at *
 have c0:=row_of HC0.out 0 (.int .i64 i) rfl
 go_quiet (first|(go_at_call 79;exact Calls.quiet_of_same (HLE.out _ (below_drewN HB0.out _))))
 have HB1:=hid (below_drewN HB0.out nq)
 go_wp2_with fail
 go_ret
 exact⟨rfl,HB1.out⟩
theorem filterInt (L:LatD) (v:Value) (c:Nat) (xv:Value) (l:List Int) (w:World) (h:LatAt w v L) (hc:w.cell? ⟨c,0,none⟩=some v) (hl:RdRow kInt none w xv l) :
  Calls Tryz.prog 113 #[.func (.func 114) #[] #[.pointer (some ⟨c,0,none⟩)],xv] w fun e w'=>∃ r,e=.returned r∧RdRow kInt (some (upFrom w.heap.size)) w' r (l.filter (fun x=>!isL L x))∧Below w.heap.size w w':=by
 obtain⟨xa,xc,rfl⟩:=hl.is
 obtain⟨i0,hi,hz0,hz1,hz2⟩:=info_parts infoInt
 have hlen:l.length*8≤140737488351232:=hl.size
 have HOK:Hid (∀ x∈l,kInt.ok x):=hl.ok
 have HCL:=hid (fun (x:Int) (hm:x∈l) (w':World) (k:Below w.heap.size w w')=>mayIs L v x c w' (h.keep k) (cell_keep k hc))
 have HL:=hid hl
 clear hl
 go_enter Tryz.func113,Tryz.ntmps113
 go_wp2_with fail
 go_loopw [5,10] (fun v i wr=>∃ (k:Nat) (ys:List Int),k≤l.length∧i=.int .i64 k∧Hid ((l.take k).filter (fun x=>!isL L x)=ys)∧ys.length≤k∧wr.ownsRow w.heap.size 3 1 v ys.length (ys.flatMap cellsInt)∧Below w.heap.size w wr) (fun _ i _=>l.length-(intOf i).toNat)
 case atStart=>exact⟨0,[],Nat.zero_le _,rfl,rfl,Nat.le_refl _,World.ownsRow_nil _ _ _ _,Below.refl _ _⟩
 case round=>
  obtain⟨k,ys,hk,rfl,HY,hyl,hown,hb⟩:=hrel
  obtain⟨w1,rfl⟩:∃ x:World,x=wr:=⟨_,rfl⟩
  obtain⟨va,vc,rfl,-⟩:=own_read hown
  have HB:=hid hb
  have HOW:=hid hown
  clear hb hown
  by_cases hlt:k<l.length
  ·have hlt1:(k:Int)<l.length:=by omega
   obtain⟨x,hx⟩:∃ x,l[k]?=some x:=⟨_,lgAgQ hlt⟩
   obtain⟨b,o,rfl,_,c0,_⟩:=atInt (HL.out.keep HB.out) hx
   have hm:=List.mem_of_getElem? hx
   have hfx:(l.take (k+1)).filter (fun x=>!isL L x)=ys++[x].filter (fun x=>!isL L x):=by rw[List.take_add_one,hx,List.filter_append,HY.out];rfl
   clear hx
   have HAL:=HB
   have HOWA:=HOW
   obtain⟨w2,rfl⟩:∃ x:World,x=w1:=⟨_,rfl⟩
   have HCX:=hid (HCL.out x hm w2 HAL.out)
   obtain⟨V,hV⟩:∃ V,(fun x=>!isL L x) x=V:=⟨_,rfl⟩
   have hV2:=hV
   try simp only[] at hV2
   rw[hV2] at HCX
   cases V with
   | false=>
    have HY2:Hid ((l.take (k+1)).filter (fun x=>!isL L x)=ys):=by
     show _=_
     rw[hfx,filter_no (p:=fun x=>!isL L x) hV];simp
    clear hfx hV hV2 hm
    go_wp2_with (go_at_call 114;refine HCX.out.mono ?_;rintro e z1 ⟨rfl,hz⟩;have B1:=hid hz;clear hz)
    have HB2:=hid (bcomp HAL.out B1.out)
    have HOW2:=hid (own_below HOWA.out B1.out)
    go_roundw
    case rel=>exact⟨k+1,ys,by omega,by go_num,HY2,by omega,HOW2.out,HB2.out⟩
    case measure=>simp[intOf];omega
   | true=>
    have HY2:Hid ((l.take (k+1)).filter (fun x=>!isL L x)=ys++[x]):=by
     show _=_
     rw[hfx,filter_yes (p:=fun x=>!isL L x) hV]
    clear hfx hV hV2 hm
    go_upto_region 6 with (go_at_call 114;refine HCX.out.mono ?_;rintro e z1 ⟨rfl,hz⟩;have B1:=hid hz;clear hz)
    have HB2:=hid (bcomp HAL.out B1.out)
    have hown2:=own_below HOWA.out B1.out
    clear HCX c0
    go_wp2_with (at_builtin;refine wpList_append_own _ rfl (.tmp 17) (.tmp 19) 23 rfl w.heap.size 3 i0 (.int .i64 0) 1 8 Tryz.underlying23 hi hz0 hz1 hz2 rfl (by decide) _ _ _ rfl (hown2.alloc _) ⟨z1.heap.size,0,none⟩ 1 1 (cellsInt x) rfl rfl (many_new _ _ _) ?c2 ?c3 ?c4 ?c5 ?_)
    case c2=>intro u hu;simp[cellsInt] at hu;first|(rcases hu with rfl|rfl <;> rfl)|(subst hu;rfl)
    case c3=>unfold maxLen;omega
    case c4=>omega
    case c5=>simp;have:=HB2.out.size;omega
    ·intro v' w4 hown' hgrow _
     have HOW2:Hid (w4.ownsRow w.heap.size 3 1 v' (ys++[x]).length ((ys++[x]).flatMap cellsInt)):=by
      show World.ownsRow _ _ _ _ _ _ _
      rw[List.flatMap_append,List.length_append]
      simpa using hown'
     have HB4:=hid ((HB2.out.alloc HB2.out.size (.cells (cellsInt x).toArray 3)).grown hgrow (by simp;have:=HB2.out.size;omega) (own_row_le hown2))
     have hyl2:(ys++[x]).length≤k+1:=by simp;omega
     clear hown' hgrow hown2
     go_wp2
     go_roundw
     case rel=>exact⟨k+1,_,by omega,by go_num,HY2,hyl2,HOW2.out,HB4.out⟩
     case measure=>simp[intOf];omega
  ·obtain rfl:k=l.length:=by omega
   have hlt1:¬ (l.length:Int)<l.length:=by omega
   have hq:=HY.out
   rw[List.take_length] at hq
   have HF:Hid (RdRow kInt (some (upFrom w.heap.size)) w1 (.slice va ys.length vc) (l.filter (fun x=>!isL L x))):=by
    show RdRow _ _ _ _ _
    rw[hq]
    exact own_rows (K:=kInt) HOW.out (by show ys.length*8≤_;omega) (fun s hs=>HOK.out s (by rw[← hq] at hs;exact (List.mem_filter.1 hs).1))
   clear hq
   go_wp2_with fail
   go_ret
   exact⟨_,rfl,HF.out,HB.out⟩
theorem filterEv (L:LatD) (v lvs:Value) (level:Int) (levels:List Int) (c1 c2 c3:Nat) (xv:Value) (l:List EvD) (w:World) (h:LatAt w v L) (hr:RdRow kInt none w lvs levels) (h1:w.cell? ⟨c1,0,none⟩=some v) (h2:w.cell? ⟨c2,0,none⟩=some lvs) (h3:w.cell? ⟨c3,0,none⟩=some (.int .i64 level)) (hx:∀ x∈l,badEv levels x=false) (hl:RdRow kEv none w xv l) :
  Calls Tryz.prog 136 #[.func (.func 137) #[] #[.pointer (some ⟨c1,0,none⟩),.pointer (some ⟨c2,0,none⟩),.pointer (some ⟨c3,0,none⟩)],xv] w fun e w'=>∃ r,e=.returned r∧RdRow kEv (some (upFrom w.heap.size)) w' r (l.filter (seesEv L level levels))∧Below w.heap.size w w':=by
 obtain⟨xa,xc,rfl⟩:=hl.is
 obtain⟨i0,hi,hz0,hz1,hz2⟩:=info_parts infoEv
 have hlen:l.length*16≤140737488351232:=hl.size
 have HOK:Hid (∀ x∈l,kEv.ok x):=hl.ok
 have HCL:=hid (fun (x:EvD) (hm:x∈l) (w':World) (k:Below w.heap.size w w')=>eventsIs L v lvs level levels x c1 c2 c3 w' (h.keep k) (hr.keep k) (cell_keep k h1) (cell_keep k h2) (cell_keep k h3) (hx x hm))
 have HL:=hid hl
 clear hl
 go_enter Tryz.func136,Tryz.ntmps136
 go_wp2_with fail
 go_loopw [5,10] (fun v i wr=>∃ (k:Nat) (ys:List EvD),k≤l.length∧i=.int .i64 k∧Hid ((l.take k).filter (seesEv L level levels)=ys)∧ys.length≤k∧wr.ownsRow w.heap.size 163 2 v ys.length (ys.flatMap cellsEv)∧Below w.heap.size w wr) (fun _ i _=>l.length-(intOf i).toNat)
 case atStart=>exact⟨0,[],Nat.zero_le _,rfl,rfl,Nat.le_refl _,World.ownsRow_nil _ _ _ _,Below.refl _ _⟩
 case round=>
  obtain⟨k,ys,hk,rfl,HY,hyl,hown,hb⟩:=hrel
  obtain⟨w1,rfl⟩:∃ x:World,x=wr:=⟨_,rfl⟩
  obtain⟨va,vc,rfl,-⟩:=own_read hown
  have HB:=hid hb
  have HOW:=hid hown
  clear hb hown
  by_cases hlt:k<l.length
  ·have hlt1:(k:Int)<l.length:=by omega
   obtain⟨x,hx⟩:∃ x,l[k]?=some x:=⟨_,lgAgQ hlt⟩
   obtain⟨b,o,rfl,_,c0,c1',_⟩:=atEv (HL.out.keep HB.out) hx
   have hm:=List.mem_of_getElem? hx
   have hfx:(l.take (k+1)).filter (seesEv L level levels)=ys++[x].filter (seesEv L level levels):=by rw[List.take_add_one,hx,List.filter_append,HY.out];rfl
   clear hx
   have HAL:=hid (HB.out.alloc HB.out.size (.cells #[.int .i64 x.n,.int .u64 x.val] 163))
   have HC0:=hid (heap_alloc_new w1 (.cells #[.int .i64 x.n,.int .u64 x.val] 163))
   have hownA:=HOW.out.alloc (.cells #[.int .i64 x.n,.int .u64 x.val] 163)
   go_upto_region 5 with fail
   clear c0 c1'
   have hsw:w1.heap.size<(w1.alloc (.cells #[.int .i64 x.n,.int .u64 x.val] 163)).heap.size:=by simp
   obtain⟨bx,hbx⟩:∃ bx,w1.heap.size=bx:=⟨_,rfl⟩
   rw[hbx] at HC0 hsw ⊢
   generalize w1.alloc (.cells #[.int .i64 x.n,.int .u64 x.val] 163)=w2 at *
   have c0:=row_of HC0.out 0 (.int .i64 x.n) rfl
   have c1:=row_of HC0.out 1 (.int .u64 x.val) rfl
   have HOWA:=hid hownA
   clear hownA hbx
   have HCX:=hid (HCL.out x hm w2 HAL.out)
   obtain⟨V,hV⟩:∃ V,(seesEv L level levels) x=V:=⟨_,rfl⟩
   have hV2:=hV
   try simp only[] at hV2
   rw[hV2] at HCX
   cases V with
   | false=>
    have HY2:Hid ((l.take (k+1)).filter (seesEv L level levels)=ys):=by
     show _=_
     rw[hfx,filter_no (p:=seesEv L level levels) hV];simp
    clear hfx hV hV2 hm
    go_wp2_with (go_at_call 137;refine HCX.out.mono ?_;rintro e z1 ⟨rfl,hz⟩;have B1:=hid hz;clear hz)
    have HB2:=hid (bcomp HAL.out B1.out)
    have HOW2:=hid (own_below HOWA.out B1.out)
    go_roundw
    case rel=>exact⟨k+1,ys,by omega,by go_num,HY2,by omega,HOW2.out,HB2.out⟩
    case measure=>simp[intOf];omega
   | true=>
    have HY2:Hid ((l.take (k+1)).filter (seesEv L level levels)=ys++[x]):=by
     show _=_
     rw[hfx,filter_yes (p:=seesEv L level levels) hV]
    clear hfx hV hV2 hm
    go_upto_region 6 with (go_at_call 137;refine HCX.out.mono ?_;rintro e z1 ⟨rfl,hz⟩;have B1:=hid hz;clear hz)
    have HB2:=hid (bcomp HAL.out B1.out)
    have hown2:=own_below HOWA.out B1.out
    clear HCX c0 c1
    have HC1:=hid ((B1.out.block _ hsw).trans HC0.out)
    have c0:=row_of HC1.out 0 (.int .i64 x.n) rfl
    have c1:=row_of HC1.out 1 (.int .u64 x.val) rfl
    go_wp2_with (at_builtin;refine wpList_append_own _ rfl (.tmp 17) (.tmp 19) 49 rfl w.heap.size 163 i0 (.agg #[.int .i64 0,.int .u64 0]) 2 16 Tryz.underlying49 hi hz0 hz1 hz2 rfl (by decide) _ _ _ rfl (hown2.alloc _) ⟨z1.heap.size,0,none⟩ 1 1 (cellsEv x) rfl rfl (many_new _ _ _) ?c2 ?c3 ?c4 ?c5 ?_)
    case c2=>intro u hu;simp[cellsEv] at hu;first|(rcases hu with rfl|rfl <;> rfl)|(subst hu;rfl)
    case c3=>unfold maxLen;omega
    case c4=>omega
    case c5=>simp;have:=HB2.out.size;omega
    ·intro v' w4 hown' hgrow _
     have HOW2:Hid (w4.ownsRow w.heap.size 163 2 v' (ys++[x]).length ((ys++[x]).flatMap cellsEv)):=by
      show World.ownsRow _ _ _ _ _ _ _
      rw[List.flatMap_append,List.length_append]
      simpa using hown'
     have HB4:=hid ((HB2.out.alloc HB2.out.size (.cells (cellsEv x).toArray 163)).grown hgrow (by simp;have:=HB2.out.size;omega) (own_row_le hown2))
     have hyl2:(ys++[x]).length≤k+1:=by simp;omega
     clear hown' hgrow hown2
     go_wp2
     go_roundw
     case rel=>exact⟨k+1,_,by omega,by go_num,HY2,hyl2,HOW2.out,HB4.out⟩
     case measure=>simp[intOf];omega
  ·obtain rfl:k=l.length:=by omega
   have hlt1:¬ (l.length:Int)<l.length:=by omega
   have hq:=HY.out
   rw[List.take_length] at hq
   have HF:Hid (RdRow kEv (some (upFrom w.heap.size)) w1 (.slice va ys.length vc) (l.filter (seesEv L level levels))):=by
    show RdRow _ _ _ _ _
    rw[hq]
    exact own_rows (K:=kEv) HOW.out (by show ys.length*16≤_;omega) (fun s hs=>HOK.out s (by rw[← hq] at hs;exact (List.mem_filter.1 hs).1))
   clear hq
   go_wp2_with fail
   go_ret
   exact⟨_,rfl,HF.out,HB.out⟩
theorem own_one {w:World} {base g:Nat} {e:TypeId} {v:Value} (hb:base≤g) (h:w.heap[g]?=some (.cells #[v] e (0,0))):w.ownsRow base e 1 (.slice (some ⟨g,0,none⟩) 1 1) 1 [v]:=
 ⟨rfl,.inr ⟨g,1,#[v],rfl,hb,h,Nat.le_refl _,by unfold maxLen;omega,rfl,rfl⟩⟩
theorem known_filter (L:LatD) (level:Int) (levels:List Int):((((level :: levels).filter fun x=>!isL L x).length:Int)==0)=knownL L level levels:=by
 unfold knownL
 rw[Bool.eq_iff_iff]
 simp only[beq_iff_eq,Bool.and_eq_true,List.all_eq_true]
 rw[show ((((level :: levels).filter fun x=>!isL L x).length:Int)=0)↔((level :: levels).filter fun x=>!isL L x)=[] by rw[← List.length_eq_zero_iff];omega,List.filter_eq_nil_iff]
 simp
theorem row_nil {α:Type} {K:Kind α} {lo:Option (Nat→Prop)} {w:World} {n c:Nat} {l:List α} (h:RdRow K lo w (.slice none n c) l):l=[]:=by
 cases l with
 | nil=>rfl
 | cons x l=>
  obtain⟨b,o,e,_⟩:=RdRow.at h (i:=0) (x:=x) rfl
  cases e
theorem may_any (L:LatD) (v lvs:Value) (level:Int) (levels:List Int) (w:World) (h:LatAt w v L) (hlv:InI64 level) (hr:RdRow kInt none w lvs levels) (hlen:levels.length≤1000000) :
  Calls Tryz.prog 78 #[v,.int .i64 level,lvs] w fun e w'=>e=.returned (.bool (knownL L level levels))∧Below w.heap.size w w':=by
 obtain⟨la,lc,rfl⟩:=hr.is
 obtain⟨i0,hi,hz0,hz1,hz2⟩:=info_parts infoInt
 have hmf:∀ (fn:Fn) (first cap:Array Value) (w:World),(Instr.makeFunc fn first cap).run Tryz.prog w=.ok (.func fn first cap) w:=fun _ _ _ _=>rfl
 have HK:=hid (known_filter L level levels)
 have HB0:=hid ((Below.refl w.heap.size w).alloc (Nat.le_refl _) (.cells #[v] 62))
 have HC0:=hid (heap_alloc_new w (.cells #[v] 62))
 have h1:=h.one
 have HL:=hid h
 have HR:=hid hr
 clear h hr
 obtain⟨p,rfl,_⟩:=id HL.out
 go_enter Tryz.func78,Tryz.ntmps78
 go_upto_region 1 with fail
 generalize w.alloc (.cells #[.pointer (some ⟨p,0,none⟩)] 62)=W at *
 have hsz:=(gsAgQ HC0.out)
 have hal:=(Below.refl W.heap.size W).alloc (Nat.le_refl _) (.cells #[.int .i64 level] 3)
 have HB1:=hid (bcomp HB0.out hal)
 have hone:=own_one (base:=W.heap.size) (Nat.le_refl _) (heap_alloc_new W (.cells #[.int .i64 level] 3))
 have HC1:=hid ((hal.block _ hsz).trans HC0.out)
 have HRW:=hid (HR.out.keep HB1.out)
 have HF:Hid (∀ (w':World) (r:Value),Below (W.alloc (.cells #[.int .i64 level] 3)).heap.size (W.alloc (.cells #[.int .i64 level] 3)) w' ∨ Below W.heap.size W w'→RdRow kInt none w' r (level :: levels)→Calls Tryz.prog 113 #[.func (.func 114) #[] #[.pointer (some ⟨w.heap.size,0,none⟩)],r] w' fun e w''=>∃ ra rc,e=.returned (.slice ra ((level :: levels).filter fun x=>!isL L x).length rc)∧Below w'.heap.size w' w''):=by
  intro w' r hb hr
  have hb':Below w.heap.size w w':=by
   rcases hb with hb|hb
   ·exact bcomp HB1.out hb
   ·exact bcomp HB0.out hb
  have hc:w'.cell? ⟨w.heap.size,0,none⟩=some (.pointer (some ⟨p,0,none⟩)):=by
   rcases hb with hb|hb
   ·exact cell_keep hb (row_of HC1.out 0 _ rfl)
   ·exact cell_keep hb (row_of HC0.out 0 _ rfl)
  refine (filterInt L _ w.heap.size r (level :: levels) w' (HL.out.keep hb') hc hr).mono ?_
  rintro e w'' ⟨r',rfl,hr',hb2⟩
  obtain⟨ra,rc,rfl⟩:=hr'.is
  exact⟨ra,rc,rfl,hb2⟩
 clear hal HC0 HC1 HL HR
 have hcons:∀ s∈level :: levels,InI64 s:=by
  intro s hs
  rcases List.mem_cons.1 hs with rfl|hs
  ·exact hlv
  ·exact HRW.out.ok s hs
 have HCONS:=hid hcons
 clear hcons hlv
 cases la with
 | none=>
  obtain rfl:levels=[]:=row_nil HRW.out
  have HRR:Hid (RdRow kInt none (W.alloc (.cells #[.int .i64 level] 3)) (.slice (some ⟨W.heap.size,0,none⟩) 1 1) [level]):=(own_rows (K:=kInt) (l:=[level]) (base:=W.heap.size) hone (by show 1*8≤_;omega) HCONS.out).forget
  have HFC:=hid (HF.out _ _ (.inl (Below.refl _ _)) HRR.out)
  clear HF HRR HRW
  go_wp2_with (first|(at_builtin;refine wpList_append_nonec rfl (.tmp 9) (.tmp 10) 23 rfl W.heap.size 3 i0 1 Tryz.underlying23 hi _ _ _ _ rfl hone rfl ?_)|(go_at_call 113;refine HFC.out.mono ?_;rintro e z1 ⟨ra,rc,rfl,hz⟩;have B1:=hid (bcomp HB1.out hz);clear hz))
  go_ret
  exact⟨by rw[← HK.out];rfl,B1.out⟩
 | some ad=>
  have hcells:=row_cells HRW.out
  have hfl:(levels.flatMap cellsInt).length=levels.length*1:=by rw[flat_length cellsInt 1 (fun _=>rfl)]
  have h1c:∀ u∈levels.flatMap cellsInt,u.oneCell'=true:=by
   intro u hu
   obtain⟨x,_,hx⟩:=List.mem_flatMap.1 hu
   simp[cellsInt] at hx
   subst hx;rfl
  go_wp2_with (at_builtin;refine wpList_append_own _ rfl (.tmp 9) (.tmp 10) 23 rfl W.heap.size 3 i0 (.int .i64 0) 1 8 Tryz.underlying23 hi hz0 hz1 hz2 rfl (by decide) _ _ _ rfl hone ad levels.length lc (levels.flatMap cellsInt) rfl hfl hcells h1c (by unfold maxLen;omega) (by omega) (by simp) ?_)
  ·intro v' w4 hown' hgrow _
   have HB4:=hid (((Below.refl W.heap.size W).alloc (Nat.le_refl _) (.cells #[.int .i64 level] 3)).grown hgrow (by simp) (own_row_le hone))
   have HRR:Hid (RdRow kInt none w4 v' (level :: levels)):=by
    refine (own_rows (K:=kInt) (l:=level :: levels) (base:=W.heap.size) ?_ ?_ HCONS.out).forget
    ·have e:(level :: levels).flatMap cellsInt=[Value.int .i64 level]++levels.flatMap cellsInt:=rfl
     show w4.ownsRow W.heap.size 3 1 v' (level :: levels).length ((level :: levels).flatMap cellsInt)
     rw[e,List.length_cons,Nat.add_comm];exact hown'
    ·show (levels.length+1)*8≤_;omega
   have HFC:=hid (HF.out _ _ (.inr HB4.out) HRR.out)
   have HB5:=hid (bcomp HB0.out HB4.out)
   clear HF HRR HRW hown' hgrow hone hcells hfl h1c
   go_wp2_with (go_at_call 113;refine HFC.out.mono ?_;rintro e z1 ⟨ra,rc,rfl,hz⟩;have B1:=hid (bcomp HB5.out hz);clear hz)
   go_ret
   exact⟨by rw[← HK.out];rfl,B1.out⟩
def EvSaid (E:Int) (b:Nat) (w':World) (r:Value) (l:List EvD):Prop:=E=0→RdRow kEv (some (upFrom b)) w' r l
theorem events_any (L:LatD) (v0 lvs ev:Value) (level:Int) (levels:List Int) (evs:List EvD) (w:World) (h:LatAt w v0 L) (hlv:InI64 level) (hr:RdRow kInt none w lvs levels) (hlen:levels.length≤1000000) (he:RdRow kEv none w ev evs) :
  Calls Tryz.prog 116 #[v0,.int .i64 level,lvs,ev] w fun e w'=>∃ r,e=.returned (.tuple #[r,.int .i64 (evsErr L level levels evs)])∧EvSaid (evsErr L level levels evs) w.heap.size w' r (evsSee L level levels evs)∧Below w.heap.size w w':=by
 obtain⟨la,lc,rfl⟩:=hr.is
 obtain⟨ea,ec,rfl⟩:=he.is
 have hel:evs.length*16≤140737488351232:=he.size
 have hmf:∀ (fn:Fn) (first cap:Array Value) (w:World),(Instr.makeFunc fn first cap).run Tryz.prog w=.ok (.func fn first cap) w:=fun _ _ _ _=>rfl
 obtain⟨E,hE⟩:∃ E,evsErr L level levels evs=E:=⟨_,rfl⟩
 rw[hE]
 have HE:=hid hE
 have HL:=hid h
 have HR:=hid hr
 have HV:=hid he
 have HLV:=hid hlv
 clear hE hr he hlv
 have hal:=(((Below.refl w.heap.size w).alloc (Nat.le_refl _) (.cells #[v0] 62)).alloc (by simp) (.cells #[.int .i64 level] 3)).alloc (by simp;omega) (.cells #[.slice la levels.length lc] 23)
 have hx:=heap2_of (w:=w) (A:=(.cells #[v0] 62)) (B:=(.cells #[.int .i64 level] 3)) (wr:=((w.alloc (.cells #[v0] 62)).alloc (.cells #[.int .i64 level] 3)).alloc (.cells #[.slice la levels.length lc] 23)) ((Below.refl _ _).alloc (Nat.le_refl _) _)
 have HB0:=hid hal
 have HG1:=hid hx.1
 have HG2:=hid hx.2.1
 have HG3:Hid ((((w.alloc (.cells #[v0] 62)).alloc (.cells #[.int .i64 level] 3)).alloc (.cells #[.slice la levels.length lc] 23)).heap[w.heap.size+1+1]?=some (.cells #[.slice la levels.length lc] 23 (0,0))):=by
  show _=_
  have:=heap_alloc_new ((w.alloc (.cells #[v0] 62)).alloc (.cells #[.int .i64 level] 3)) (.cells #[.slice la levels.length lc] 23)
  simpa using this
 clear hal hx
 obtain⟨p,rfl,_⟩:=h
 go_enter Tryz.func116,Tryz.ntmps116
 go_upto_region 1 with fail
 generalize ((w.alloc (.cells #[.pointer (some ⟨p,0,none⟩)] 62)).alloc (.cells #[.int .i64 level] 3)).alloc (.cells #[.slice la levels.length lc] 23)=W at *
 have hsz:w.heap.size+1+1<W.heap.size:=(gsAgQ HG3.out)
 have HLW:=hid (HL.out.keep HB0.out)
 have HRW:=hid (HR.out.keep HB0.out)
 have HVW:=hid (HV.out.keep HB0.out)
 have g1:=row_of HG1.out 0 (.pointer (some ⟨p,0,none⟩)) rfl
 have g2:=row_of HG2.out 0 (.int .i64 level) rfl
 have g3:=row_of HG3.out 0 (.slice la levels.length lc) rfl
 have HMY:=hid (may_any L _ _ level levels W HLW.out HLV.out HRW.out hlen)
 obtain⟨K,hK⟩:∃ K,knownL L level levels=K:=⟨_,rfl⟩
 rw[hK] at HMY
 cases K with
 | false=>
  obtain rfl:E=3:=by rw[← HE.out,evsErr,if_pos hK]
  clear hK
  go_wp2_with (go_at_call 78;refine HMY.out.mono ?_;rintro e z1 ⟨rfl,hz⟩;have B1:=hid (bcomp HB0.out hz);clear hz)
  go_ret2
  exact⟨_,rfl,(fun h=>by cases h),B1.out⟩
 | true=>
  have HE1:Hid (E=if evs.any (badEv levels) then 3 else 0):=by
   show E=_
   rw[← HE.out,evsErr,if_neg (by simp[hK])]
  clear hK HE
  go_upto_region 5 with (go_at_call 78;refine HMY.out.mono ?_;rintro e z1 ⟨rfl,hz⟩;have B1:=hid hz;clear hz)
  have HG4:=hid ((B1.out.block _ (show w.heap.size<W.heap.size by omega)).trans HG1.out)
  have HG5:=hid ((B1.out.block _ (show w.heap.size+1<W.heap.size by omega)).trans HG2.out)
  have HG6:=hid ((B1.out.block _ hsz).trans HG3.out)
  have HB1:=hid (bcomp HB0.out B1.out)
  have HL1:=hid (HLW.out.keep B1.out)
  have HR1:=hid (HRW.out.keep B1.out)
  have HV1:=hid (HVW.out.keep B1.out)
  have hsz1:w.heap.size+1+1<z1.heap.size:=(gsAgQ HG6.out)
  clear g1 g2 g3 HG1 HG2 HG3 HLW HRW HVW HMY HL HR HV B1 HB0
  go_wp2_with fail
  go_loopw [21] (fun i wr=>∃ k:Nat,k≤evs.length∧i=.int .i64 k∧Hid ((evs.take k).any (badEv levels)=false)∧Below z1.heap.size z1 wr) (fun i _=>evs.length-(intOf i).toNat)
  case atStart=>exact⟨0,Nat.zero_le _,rfl,rfl,Below.refl _ _⟩
  case round=>
   obtain⟨k,hk,rfl,HQ,hb⟩:=hrel
   obtain⟨w1,rfl⟩:∃ x:World,x=wr:=⟨_,rfl⟩
   have HB:=hid hb
   clear hb
   by_cases hlt:k<evs.length
   ·have hlt1:(k:Int)<evs.length:=by omega
    obtain⟨x,hx⟩:∃ x,evs[k]?=some x:=⟨_,lgAgQ hlt⟩
    obtain⟨b,o,rfl,_,c0,c1,_⟩:=atEv (HV1.out.keep HB.out) hx
    have hstep:(evs.take (k+1)).any (badEv levels)=badEv levels x:=by rw[List.take_add_one,hx,List.any_append,HQ.out];simp
    have HBX:Hid (badEv levels x=(decide (x.n<0)||decide ((levels.length:Int)≤x.n))):=rfl
    have HM:=hid (List.mem_of_getElem? hx)
    have HAL:=hid (HB.out.alloc HB.out.size (.cells #[.int .i64 x.n,.int .u64 x.val] 163))
    have HC0:=hid (heap_alloc_new w1 (.cells #[.int .i64 x.n,.int .u64 x.val] 163))
    have HG7:=hid ((HAL.out.block _ hsz1).trans HG6.out)
    clear hx
    go_upto_region 8 with fail
    clear c0 c1
    generalize w1.alloc (.cells #[.int .i64 x.n,.int .u64 x.val] 163)=w2 at *
    have c0:=row_of HC0.out 0 (.int .i64 x.n) rfl
    have g3:=row_of HG7.out 0 (.slice la levels.length lc) rfl
    by_cases t1:x.n<0
    ·obtain rfl:E=3:=by
      rw[HE1.out,if_pos]
      rw[List.any_eq_true]
      exact⟨x,HM.out,by rw[HBX.out];simp[t1]⟩
     go_wp2_with fail
     go_ret2
     exact⟨_,rfl,(fun h=>by cases h),bcomp HB1.out HAL.out⟩
    by_cases t2:(levels.length:Int)≤x.n
    ·obtain rfl:E=3:=by
      rw[HE1.out,if_pos]
      rw[List.any_eq_true]
      exact⟨x,HM.out,by rw[HBX.out];simp[t2]⟩
     go_wp2_with fail
     go_ret2
     exact⟨_,rfl,(fun h=>by cases h),bcomp HB1.out HAL.out⟩
    have HQ2:Hid ((evs.take (k+1)).any (badEv levels)=false):=by
     show _=_
     rw[hstep,HBX.out];simp;omega
    clear hstep HBX HM
    go_wp2_with fail
    go_roundw
    case rel=>exact⟨k+1,by omega,by go_num,HQ2,HAL.out⟩
    case measure=>simp[intOf];omega
   ·obtain rfl:k=evs.length:=by omega
    have hlt1:¬ (evs.length:Int)<evs.length:=by omega
    have hno:evs.any (badEv levels)=false:=by have:=HQ.out;rwa [List.take_length] at this
    obtain rfl:E=0:=by rw[HE1.out,hno];rfl
    have hall:∀ x∈evs,badEv levels x=false:=by
     intro x hx
     cases hc:badEv levels x with
     | false=>rfl
     | true=>
      have:evs.any (badEv levels)=true:=List.any_eq_true.2 ⟨x,hx,hc⟩
      rw[this] at hno;cases hno
    have HFE:=hid (filterEv L _ _ level levels w.heap.size (w.heap.size+1+1) (w.heap.size+1) _ evs w1 (HL1.out.keep HB.out) (HR1.out.keep HB.out)
     (row_of ((HB.out.block _ (show w.heap.size<z1.heap.size by omega)).trans HG4.out) 0 _ rfl)
     (row_of ((HB.out.block _ hsz1).trans HG6.out) 0 _ rfl)
     (row_of ((HB.out.block _ (show w.heap.size+1<z1.heap.size by omega)).trans HG5.out) 0 _ rfl) hall (HV1.out.keep HB.out))
    have HS:Hid (w.heap.size≤w1.heap.size):=by show _≤_;have:=HB.out.size;omega
    clear hno hall HE1 HQ
    go_wp2_with (go_at_call 136;refine HFE.out.mono ?_;rintro e z2 ⟨r,rfl,hr,hz⟩;have B2:=hid (bcomp HB.out hz);have HRR:=hid hr;clear hr hz)
    go_ret2
    exact⟨r,rfl,fun _=>HRR.out.up HS.out,bcomp HB1.out B2.out⟩
theorem prefix_any (av bv:Value) (a b:List EvD) (w:World) (ha:RdRow kEv none w av a) (hb:RdRow kEv none w bv b) :
  Calls Tryz.prog 138 #[av,bv] w fun e w'=>e=.returned (.bool (prefL a b))∧Below w.heap.size w w':=by
 obtain⟨aa,ac,rfl⟩:=ha.is
 obtain⟨ba,bc,rfl⟩:=hb.is
 have hla:a.length*16≤140737488351232:=ha.size
 have hlb:b.length*16≤140737488351232:=hb.size
 have HA:=hid ha
 have HBb:=hid hb
 clear ha hb
 obtain⟨V,hV⟩:∃ V,prefL a b=V:=⟨_,rfl⟩
 rw[hV]
 have HV:=hid hV
 clear hV
 obtain⟨m,hm⟩:∃ m:Nat,min a.length b.length=m:=⟨_,rfl⟩
 have hm1:m≤a.length:=by omega
 have hm2:m≤b.length:=by omega
 have hmin:min (a.length:Int) (b.length:Int)=(m:Int):=by omega
 have HM:Hid (m=a.length ∨ m=b.length):=by show _ ∨ _;omega
 clear hm
 go_enter Tryz.func138,Tryz.ntmps138
 have hmn:=fun ats ty a b w=>run_min2 (P:=Tryz.prog) ats ty a b w
 go_wp2_with (simp only[hmin])
 clear hmn
 clear hmin
 go_loopw [5,11] (fun _ i wr=>∃ k:Nat,k≤m∧i=.int .i64 k∧Hid (prefL a b=prefL (a.drop k) (b.drop k))∧Below w.heap.size w wr) (fun _ i _=>m-(intOf i).toNat)
 case atStart=>exact⟨0,Nat.zero_le _,rfl,rfl,Below.refl _ _⟩
 case round=>
  obtain⟨k,hk,rfl,HQ,hb⟩:=hrel
  obtain⟨w1,rfl⟩:∃ x:World,x=wr:=⟨_,rfl⟩
  have HB:=hid hb
  clear hb
  by_cases hlt:k<m
  ·have hlt1:(k:Int)<m:=by omega
   have hka:(k:Int)<a.length:=by omega
   have hkb:(k:Int)<b.length:=by omega
   obtain⟨x,hx⟩:∃ x,a[k]?=some x:=⟨_,lgAgQ (by omega)⟩
   obtain⟨y,hy⟩:∃ y,b[k]?=some y:=⟨_,lgAgQ (by omega)⟩
   have hs:prefL (a.drop k) (b.drop k)=(eqEv x y&&prefL (a.drop (k+1)) (b.drop (k+1))):=by
    obtain⟨h1,e1⟩:=List.getElem?_eq_some_iff.1 hx
    obtain⟨h2,e2⟩:=List.getElem?_eq_some_iff.1 hy
    rw[List.drop_eq_getElem_cons h1,List.drop_eq_getElem_cons h2,e1,e2,prefL]
   obtain⟨b1,o1,rfl,_,c0,c1,_⟩:=atEv (HA.out.keep HB.out) hx
   obtain⟨b2,o2,rfl,_,d0,d1,_⟩:=atEv (HBb.out.keep HB.out) hy
   have hev:eqEv x y=(x.n==y.n&&x.val==y.val):=rfl
   have HS:=hid hs
   clear hx hy hs
   obtain⟨xn,xv⟩:=x
   obtain⟨yn,yv⟩:=y
   simp only at c0 c1 d0 d1 hev
   by_cases t:xn=yn∧xv=yv
   ·obtain⟨rfl,rfl⟩:=t
    have HQ2:Hid (prefL a b=prefL (a.drop (k+1)) (b.drop (k+1))):=by
     show _=_
     rw[HQ.out,HS.out,hev];simp
    clear hev HS HQ
    go_upto_region 4 with fail
    go_quiet (fail)
    have HB2:=hid (below_drewN HB.out nq)
    go_wp2_with fail
    go_roundw
    case rel=>exact⟨k+1,by omega,by go_num,HQ2,HB2.out⟩
    case measure=>simp[intOf];omega
   ·have HF:Hid (V=false):=by
     show V=_
     rw[← HV.out,HQ.out,HS.out,hev]
     have:(xn==yn&&xv==yv)=false:=by
      rw[Bool.and_eq_false_iff]
      by_cases t1:xn=yn
      ·right;simp;exact fun h=>t ⟨t1,h⟩
      ·left;simp[t1]
     rw[this];rfl
    obtain rfl:=HF.out
    clear hev HS HQ
    by_cases t1:xn=yn
    ·have t2:¬ xv=yv:=fun h=>t ⟨t1,h⟩
     clear t
     go_upto_region 4 with fail
     go_quiet (fail)
     have HB2:=hid (below_drewN HB.out nq)
     go_wp2_with fail
     go_ret
     exact⟨rfl,HB2.out⟩
    ·clear t
     go_upto_region 4 with fail
     go_quiet (fail)
     have HB2:=hid (below_drewN HB.out nq)
     go_wp2_with fail
     go_ret
     exact⟨rfl,HB2.out⟩
  ·obtain rfl:k=m:=by omega
   have hlt1:¬ (k:Int)<k:=by omega
   have HF:Hid (V=true):=by
    show V=_
    rw[← HV.out,HQ.out]
    rcases HM.out with h|h
    ·rw[h,List.drop_length];exact prefL_nil _
    ·rw[h,List.drop_length];cases List.drop b.length a <;> rfl
   obtain rfl:=HF.out
   go_wp2_with fail
   go_ret
   exact⟨rfl,HB.out⟩
abbrev eyeV (v0:Value) (level:Int) (lvs:Value):Value:=.agg #[v0,.int .i64 level,lvs]
theorem begun_any (p:Nat) (la:Option Addr) (ln lc:Nat) (level:Int) (av bv:Value) (a b:List EvD) (w:World) (ha:RdRow kEv none w av a) (hb:RdRow kEv none w bv b) :
  Calls Tryz.prog 117 #[eyeV (.pointer (some ⟨p,0,none⟩)) level (.slice la ln lc),av,bv] w fun e w'=>e=.returned (.bool (prefL a b))∧Below w.heap.size w w':=by
 obtain⟨aa,ac,rfl⟩:=ha.is
 obtain⟨ba,bc,rfl⟩:=hb.is
 have HB0:=hid ((Below.refl w.heap.size w).alloc (Nat.le_refl _) (.cells #[.pointer (some ⟨p,0,none⟩),.int .i64 level,.slice la ln lc] 141))
 have HP:=hid (fun (w':World) (k:Below w.heap.size w w')=>prefix_any _ _ a b w' (ha.keep k) (hb.keep k))
 clear ha hb
 go_enter Tryz.func117,Tryz.ntmps117
 go_upto_region 1 with fail
 generalize w.alloc (.cells #[.pointer (some ⟨p,0,none⟩),.int .i64 level,.slice la ln lc] 141)=W at *
 go_wp2_with (go_at_call 138;refine (HP.out _ HB0.out).mono ?_;rintro e z1 ⟨rfl,hz⟩;have B1:=hid (bcomp HB0.out hz);clear hz)
 go_ret
 exact⟨rfl,B1.out⟩
theorem equal_any (p:Nat) (la:Option Addr) (ln lc:Nat) (level:Int) (av bv:Value) (a b:List EvD) (w:World) (ha:RdRow kEv none w av a) (hb:RdRow kEv none w bv b) :
  Calls Tryz.prog 118 #[eyeV (.pointer (some ⟨p,0,none⟩)) level (.slice la ln lc),av,bv] w fun e w'=>e=.returned (.bool (eqL eqEv a b))∧Below w.heap.size w w':=by
 obtain⟨aa,ac,rfl⟩:=ha.is
 obtain⟨ba,bc,rfl⟩:=hb.is
 have HB0:=hid ((Below.refl w.heap.size w).alloc (Nat.le_refl _) (.cells #[.pointer (some ⟨p,0,none⟩),.int .i64 level,.slice la ln lc] 141))
 have HP:=hid (fun (w':World) (k:Below w.heap.size w w')=>prefix_any _ _ a b w' (ha.keep k) (hb.keep k))
 have HV:=hid (prefL_eq a b)
 clear ha hb
 generalize prefL a b=P at *
 generalize eqL eqEv a b=V at *
 go_enter Tryz.func118,Tryz.ntmps118
 go_upto_region 1 with fail
 generalize w.alloc (.cells #[.pointer (some ⟨p,0,none⟩),.int .i64 level,.slice la ln lc] 141)=W at *
 by_cases hl:a.length=b.length
 ·have hl1:((a.length:Int)==(b.length:Int))=true:=by rw[hl];simp
  have HVP:Hid (V=P):=by show V=P;rw[← HV.out,hl];simp
  clear HV hl
  go_wp2_with (go_at_call 138;refine (HP.out _ HB0.out).mono ?_;rintro e z1 ⟨rfl,hz⟩;have B1:=hid (bcomp HB0.out hz);clear hz)
  go_ret
  exact⟨by rw[HVP.out];rfl,B1.out⟩
 ·have hl1:((a.length:Int)==(b.length:Int))=false:=by simp;omega
  have HVP:Hid (V=false):=by
   show V=false
   rw[← HV.out]
   have:(a.length==b.length)=false:=by simp[hl]
   rw[this];rfl
  clear HV hl
  go_wp2_with fail
  go_ret
  exact⟨by rw[HVP.out];rfl,HB0.out⟩
theorem compare_true (p:Nat) (la:Option Addr) (ln lc:Nat) (level:Int) (sens:Bool) (x y:TraceD) (xa1:Option Addr) (xa2:Nat) (xa3:Option Addr) (xa4:Nat) (xa5:Option Addr) (xa6:Nat) (xa7:Option Addr) (xa8:Nat) (ya1:Option Addr) (ya2:Nat) (ya3:Option Addr) (ya4:Nat) (ya5:Option Addr) (ya6:Nat) (ya7:Option Addr) (ya8:Nat) (w:World) (hp:partT sens x y=true) :
  Calls Tryz.prog 81 #[eyeV (.pointer (some ⟨p,0,none⟩)) level (.slice la ln lc),.bool sens,.agg #[.int .u8 x.status,.int .i64 x.steps,.slice xa1 x.outs.length xa2,.slice xa3 x.rels.length xa4,.slice xa5 x.brs.length xa6,.slice xa7 x.reads.length xa8],.agg #[.int .u8 y.status,.int .i64 y.steps,.slice ya1 y.outs.length ya2,.slice ya3 y.rels.length ya4,.slice ya5 y.brs.length ya6,.slice ya7 y.reads.length ya8]] w fun e w'=>e=.returned (.tuple #[.bool true,.func (.func 117) #[eyeV (.pointer (some ⟨p,0,none⟩)) level (.slice la ln lc)] #[]])∧Below w.heap.size w w':=by
 have hmf:∀ (fn:Fn) (first cap:Array Value) (w:World),(Instr.makeFunc fn first cap).run Tryz.prog w=.ok (.func fn first cap) w:=fun _ _ _ _=>rfl
 have hal:=(((Below.refl w.heap.size w).alloc (Nat.le_refl _) (.cells #[.pointer (some ⟨p,0,none⟩),.int .i64 level,.slice la ln lc] 141)).alloc (by simp) (.cells #[.int .u8 x.status,.int .i64 x.steps,.slice xa1 x.outs.length xa2,.slice xa3 x.rels.length xa4,.slice xa5 x.brs.length xa6,.slice xa7 x.reads.length xa8] 52)).alloc (by simp;omega) (.cells #[.int .u8 y.status,.int .i64 y.steps,.slice ya1 y.outs.length ya2,.slice ya3 y.rels.length ya4,.slice ya5 y.brs.length ya6,.slice ya7 y.reads.length ya8] 52)
 have hx:=heap2_of (w:=w) (A:=.cells #[.pointer (some ⟨p,0,none⟩),.int .i64 level,.slice la ln lc] 141) (B:=.cells #[.int .u8 x.status,.int .i64 x.steps,.slice xa1 x.outs.length xa2,.slice xa3 x.rels.length xa4,.slice xa5 x.brs.length xa6,.slice xa7 x.reads.length xa8] 52) (wr:=((w.alloc (.cells #[.pointer (some ⟨p,0,none⟩),.int .i64 level,.slice la ln lc] 141)).alloc (.cells #[.int .u8 x.status,.int .i64 x.steps,.slice xa1 x.outs.length xa2,.slice xa3 x.rels.length xa4,.slice xa5 x.brs.length xa6,.slice xa7 x.reads.length xa8] 52)).alloc (.cells #[.int .u8 y.status,.int .i64 y.steps,.slice ya1 y.outs.length ya2,.slice ya3 y.rels.length ya4,.slice ya5 y.brs.length ya6,.slice ya7 y.reads.length ya8] 52)) ((Below.refl _ _).alloc (Nat.le_refl _) _)
 have HB0:=hid hal
 have HG1:=hid hx.1
 have HG2:=hid hx.2.1
 have HG3:Hid ((((w.alloc (.cells #[.pointer (some ⟨p,0,none⟩),.int .i64 level,.slice la ln lc] 141)).alloc (.cells #[.int .u8 x.status,.int .i64 x.steps,.slice xa1 x.outs.length xa2,.slice xa3 x.rels.length xa4,.slice xa5 x.brs.length xa6,.slice xa7 x.reads.length xa8] 52)).alloc (.cells #[.int .u8 y.status,.int .i64 y.steps,.slice ya1 y.outs.length ya2,.slice ya3 y.rels.length ya4,.slice ya5 y.brs.length ya6,.slice ya7 y.reads.length ya8] 52)).heap[w.heap.size+1+1]?=some (.cells #[.int .u8 y.status,.int .i64 y.steps,.slice ya1 y.outs.length ya2,.slice ya3 y.rels.length ya4,.slice ya5 y.brs.length ya6,.slice ya7 y.reads.length ya8] 52 (0,0))):=by
  show _=_
  have:=heap_alloc_new ((w.alloc (.cells #[.pointer (some ⟨p,0,none⟩),.int .i64 level,.slice la ln lc] 141)).alloc (.cells #[.int .u8 x.status,.int .i64 x.steps,.slice xa1 x.outs.length xa2,.slice xa3 x.rels.length xa4,.slice xa5 x.brs.length xa6,.slice xa7 x.reads.length xa8] 52)) (.cells #[.int .u8 y.status,.int .i64 y.steps,.slice ya1 y.outs.length ya2,.slice ya3 y.rels.length ya4,.slice ya5 y.brs.length ya6,.slice ya7 y.reads.length ya8] 52)
  simpa using this
 clear hal hx
 go_enter Tryz.func81,Tryz.ntmps81
 go_upto_region 1 with fail
 generalize ((w.alloc (.cells #[.pointer (some ⟨p,0,none⟩),.int .i64 level,.slice la ln lc] 141)).alloc (.cells #[.int .u8 x.status,.int .i64 x.steps,.slice xa1 x.outs.length xa2,.slice xa3 x.rels.length xa4,.slice xa5 x.brs.length xa6,.slice xa7 x.reads.length xa8] 52)).alloc (.cells #[.int .u8 y.status,.int .i64 y.steps,.slice ya1 y.outs.length ya2,.slice ya3 y.rels.length ya4,.slice ya5 y.brs.length ya6,.slice ya7 y.reads.length ya8] 52)=W at *
 have e0:=row_of HG1.out 0 (.pointer (some ⟨p,0,none⟩)) rfl
 have e1:=row_of HG1.out 1 (.int .i64 level) rfl
 have e2:=row_of HG1.out 2 (.slice la ln lc) rfl
 have x0:=row_of HG2.out 0 (.int .u8 x.status) rfl
 have y0:=row_of HG3.out 0 (.int .u8 y.status) rfl
 clear HG1 HG2 HG3
 unfold partT fuelT at hp
 cases sens with
 | true=>simp at hp
 | false=>
  by_cases h1:x.status=2
  ·have h1':(x.status==2)=true:=by simp[h1]
   clear hp h1
   go_upto_region 2 with fail
   go_quiet (fail)
   have HB1:=hid (below_drewN HB0.out nq)
   go_wp2_with fail
   go_ret2
   exact⟨rfl,HB1.out⟩
  ·have h1':(x.status==2)=false:=by simp[h1]
   have h2':(y.status==2)=true:=by simpa[h1] using hp
   clear hp h1
   go_upto_region 2 with fail
   go_quiet (fail)
   have HB1:=hid (below_drewN HB0.out nq)
   go_wp2_with fail
   go_ret2
   exact⟨rfl,HB1.out⟩
theorem compare_false (p:Nat) (la:Option Addr) (ln lc:Nat) (level:Int) (sens:Bool) (x y:TraceD) (xa1:Option Addr) (xa2:Nat) (xa3:Option Addr) (xa4:Nat) (xa5:Option Addr) (xa6:Nat) (xa7:Option Addr) (xa8:Nat) (ya1:Option Addr) (ya2:Nat) (ya3:Option Addr) (ya4:Nat) (ya5:Option Addr) (ya6:Nat) (ya7:Option Addr) (ya8:Nat) (w:World) (hp:partT sens x y=false) :
  Calls Tryz.prog 81 #[eyeV (.pointer (some ⟨p,0,none⟩)) level (.slice la ln lc),.bool sens,.agg #[.int .u8 x.status,.int .i64 x.steps,.slice xa1 x.outs.length xa2,.slice xa3 x.rels.length xa4,.slice xa5 x.brs.length xa6,.slice xa7 x.reads.length xa8],.agg #[.int .u8 y.status,.int .i64 y.steps,.slice ya1 y.outs.length ya2,.slice ya3 y.rels.length ya4,.slice ya5 y.brs.length ya6,.slice ya7 y.reads.length ya8]] w fun e w'=>e=.returned (.tuple #[.bool false,.func (.func 118) #[eyeV (.pointer (some ⟨p,0,none⟩)) level (.slice la ln lc)] #[]])∧Below w.heap.size w w':=by
 have hmf:∀ (fn:Fn) (first cap:Array Value) (w:World),(Instr.makeFunc fn first cap).run Tryz.prog w=.ok (.func fn first cap) w:=fun _ _ _ _=>rfl
 have hal:=(((Below.refl w.heap.size w).alloc (Nat.le_refl _) (.cells #[.pointer (some ⟨p,0,none⟩),.int .i64 level,.slice la ln lc] 141)).alloc (by simp) (.cells #[.int .u8 x.status,.int .i64 x.steps,.slice xa1 x.outs.length xa2,.slice xa3 x.rels.length xa4,.slice xa5 x.brs.length xa6,.slice xa7 x.reads.length xa8] 52)).alloc (by simp;omega) (.cells #[.int .u8 y.status,.int .i64 y.steps,.slice ya1 y.outs.length ya2,.slice ya3 y.rels.length ya4,.slice ya5 y.brs.length ya6,.slice ya7 y.reads.length ya8] 52)
 have hx:=heap2_of (w:=w) (A:=.cells #[.pointer (some ⟨p,0,none⟩),.int .i64 level,.slice la ln lc] 141) (B:=.cells #[.int .u8 x.status,.int .i64 x.steps,.slice xa1 x.outs.length xa2,.slice xa3 x.rels.length xa4,.slice xa5 x.brs.length xa6,.slice xa7 x.reads.length xa8] 52) (wr:=((w.alloc (.cells #[.pointer (some ⟨p,0,none⟩),.int .i64 level,.slice la ln lc] 141)).alloc (.cells #[.int .u8 x.status,.int .i64 x.steps,.slice xa1 x.outs.length xa2,.slice xa3 x.rels.length xa4,.slice xa5 x.brs.length xa6,.slice xa7 x.reads.length xa8] 52)).alloc (.cells #[.int .u8 y.status,.int .i64 y.steps,.slice ya1 y.outs.length ya2,.slice ya3 y.rels.length ya4,.slice ya5 y.brs.length ya6,.slice ya7 y.reads.length ya8] 52)) ((Below.refl _ _).alloc (Nat.le_refl _) _)
 have HB0:=hid hal
 have HG1:=hid hx.1
 have HG2:=hid hx.2.1
 have HG3:Hid ((((w.alloc (.cells #[.pointer (some ⟨p,0,none⟩),.int .i64 level,.slice la ln lc] 141)).alloc (.cells #[.int .u8 x.status,.int .i64 x.steps,.slice xa1 x.outs.length xa2,.slice xa3 x.rels.length xa4,.slice xa5 x.brs.length xa6,.slice xa7 x.reads.length xa8] 52)).alloc (.cells #[.int .u8 y.status,.int .i64 y.steps,.slice ya1 y.outs.length ya2,.slice ya3 y.rels.length ya4,.slice ya5 y.brs.length ya6,.slice ya7 y.reads.length ya8] 52)).heap[w.heap.size+1+1]?=some (.cells #[.int .u8 y.status,.int .i64 y.steps,.slice ya1 y.outs.length ya2,.slice ya3 y.rels.length ya4,.slice ya5 y.brs.length ya6,.slice ya7 y.reads.length ya8] 52 (0,0))):=by
  show _=_
  have:=heap_alloc_new ((w.alloc (.cells #[.pointer (some ⟨p,0,none⟩),.int .i64 level,.slice la ln lc] 141)).alloc (.cells #[.int .u8 x.status,.int .i64 x.steps,.slice xa1 x.outs.length xa2,.slice xa3 x.rels.length xa4,.slice xa5 x.brs.length xa6,.slice xa7 x.reads.length xa8] 52)) (.cells #[.int .u8 y.status,.int .i64 y.steps,.slice ya1 y.outs.length ya2,.slice ya3 y.rels.length ya4,.slice ya5 y.brs.length ya6,.slice ya7 y.reads.length ya8] 52)
  simpa using this
 clear hal hx
 go_enter Tryz.func81,Tryz.ntmps81
 go_upto_region 1 with fail
 generalize ((w.alloc (.cells #[.pointer (some ⟨p,0,none⟩),.int .i64 level,.slice la ln lc] 141)).alloc (.cells #[.int .u8 x.status,.int .i64 x.steps,.slice xa1 x.outs.length xa2,.slice xa3 x.rels.length xa4,.slice xa5 x.brs.length xa6,.slice xa7 x.reads.length xa8] 52)).alloc (.cells #[.int .u8 y.status,.int .i64 y.steps,.slice ya1 y.outs.length ya2,.slice ya3 y.rels.length ya4,.slice ya5 y.brs.length ya6,.slice ya7 y.reads.length ya8] 52)=W at *
 have e0:=row_of HG1.out 0 (.pointer (some ⟨p,0,none⟩)) rfl
 have e1:=row_of HG1.out 1 (.int .i64 level) rfl
 have e2:=row_of HG1.out 2 (.slice la ln lc) rfl
 have x0:=row_of HG2.out 0 (.int .u8 x.status) rfl
 have y0:=row_of HG3.out 0 (.int .u8 y.status) rfl
 clear HG1 HG2 HG3
 unfold partT fuelT at hp
 cases sens with
 | true=>
  clear hp
  go_upto_region 3 with fail
  go_quiet (fail)
  have HB1:=hid (below_drewN HB0.out nq)
  go_wp2_with fail
  go_ret2
  exact⟨rfl,HB1.out⟩
 | false=>
  have h1':(x.status==2)=false:=by cases h:(x.status==2) with|true=>simp[h] at hp|false=>rfl
  have h2':(y.status==2)=false:=by cases h:(y.status==2) with|true=>simp[h] at hp|false=>rfl
  clear hp
  go_upto_region 3 with fail
  go_quiet (fail)
  have HB1:=hid (below_drewN HB0.out nq)
  go_wp2_with fail
  go_ret2
  exact⟨rfl,HB1.out⟩
def BothSaid (E:Int) (w':World) (xr zr:Value) (a b:List EvD):Prop:=E=0→RdRow kEv none w' xr a∧RdRow kEv none w' zr b
theorem both_any (L:LatD) (p:Nat) (la:Option Addr) (lc:Nat) (level:Int) (levels:List Int) (av bv:Value) (a b:List EvD) (w:World) (h:LatAt w (.pointer (some ⟨p,0,none⟩)) L) (hlv:InI64 level) (hr:RdRow kInt none w (.slice la levels.length lc) levels) (hlen:levels.length≤1000000) (ha:RdRow kEv none w av a) (hb:RdRow kEv none w bv b) :
  Calls Tryz.prog 80 #[eyeV (.pointer (some ⟨p,0,none⟩)) level (.slice la levels.length lc),av,bv] w fun e w'=>∃ xr zr,e=.returned (.tuple #[xr,zr,.int .i64 (viewsErr L level levels a b)])∧BothSaid (viewsErr L level levels a b) w' xr zr (evsSee L level levels a) (evsSee L level levels b)∧Below w.heap.size w w':=by
 obtain⟨aa,ac,rfl⟩:=ha.is
 obtain⟨ba,bc,rfl⟩:=hb.is
 have HB0:=hid ((Below.refl w.heap.size w).alloc (Nat.le_refl _) (.cells #[.pointer (some ⟨p,0,none⟩),.int .i64 level,.slice la levels.length lc] 141))
 have HG0:=hid (heap_alloc_new w (.cells #[.pointer (some ⟨p,0,none⟩),.int .i64 level,.slice la levels.length lc] 141))
 have HP:=hid (fun (w':World) (k:Below w.heap.size w w')=>events_any L _ _ _ level levels a w' (h.keep k) hlv (hr.keep k) hlen (ha.keep k))
 have HP2:=hid (fun (w':World) (k:Below w.heap.size w w')=>events_any L _ _ _ level levels b w' (h.keep k) hlv (hr.keep k) hlen (hb.keep k))
 clear ha hb h hr
 obtain⟨E,hE⟩:∃ E,viewsErr L level levels a b=E:=⟨_,rfl⟩
 obtain⟨E1,hE1⟩:∃ E,evsErr L level levels a=E:=⟨_,rfl⟩
 obtain⟨E2,hE2⟩:∃ E,evsErr L level levels b=E:=⟨_,rfl⟩
 obtain⟨A1,hA1⟩:∃ l,evsSee L level levels a=l:=⟨_,rfl⟩
 obtain⟨A2,hA2⟩:∃ l,evsSee L level levels b=l:=⟨_,rfl⟩
 rw[hE1,hA1] at HP
 rw[hE2,hA2] at HP2
 rw[hE,hA1,hA2]
 have HE:Hid (E=if E1≠0 then E1 else E2):=by show E=_;rw[← hE,viewsErr,hE1,hE2]
 clear hE hE1 hE2 hA1 hA2
 go_enter Tryz.func80,Tryz.ntmps80
 go_upto_region 1 with fail
 generalize w.alloc (.cells #[.pointer (some ⟨p,0,none⟩),.int .i64 level,.slice la levels.length lc] 141)=W at *
 have hsz:=(gsAgQ HG0.out)
 have e0:=row_of HG0.out 0 (.pointer (some ⟨p,0,none⟩)) rfl
 have e1:=row_of HG0.out 1 (.int .i64 level) rfl
 have e2:=row_of HG0.out 2 (.slice la levels.length lc) rfl
 go_upto_region 2 with (go_at_call 116;refine (HP.out _ HB0.out).mono ?_;rintro e z1 ⟨r1,rfl,hs1,hz⟩;have HS1:=hid hs1;have B1:=hid hz;clear hz hs1)
 have HB1:=hid (bcomp HB0.out B1.out)
 have HG1:=hid ((B1.out.block _ hsz).trans HG0.out)
 clear e0 e1 e2 HP
 by_cases n1:E1=0
 case neg=>
  obtain rfl:E=E1:=by rw[HE.out,if_pos n1]
  have n1':(E != 0)=true:=by simp[n1]
  go_wp2_with fail
  go_ret3
  exact⟨_,_,rfl,fun h=>absurd h n1,HB1.out⟩
 subst n1
 obtain rfl:E=E2:=by rw[HE.out,if_neg (by simp)]
 have e0:=row_of HG1.out 0 (.pointer (some ⟨p,0,none⟩)) rfl
 have e1:=row_of HG1.out 1 (.int .i64 level) rfl
 have e2:=row_of HG1.out 2 (.slice la levels.length lc) rfl
 go_upto_region 5 with (go_at_call 116;refine (HP2.out _ HB1.out).mono ?_;rintro e z2 ⟨r2,rfl,hs2,hz⟩;have HS2:=hid hs2;have B2:=hid hz;clear hz hs2)
 clear e0 e1 e2 HP2
 go_wp2_with fail
 go_ret3
 exact⟨_,_,rfl,fun h=>⟨((HS1.out rfl).forget).keep B2.out,(HS2.out h).forget⟩,bcomp HB1.out B2.out⟩
theorem premise_any (L:LatD) (v0 lvs:Value) (level:Int) (levels:List Int) (sens:Bool) (x y:TraceD) (xo xr xb xd yo yr yb yd:Value) (w:World) (h:LatAt w v0 L) (hlv:InI64 level) (hr:RdRow kInt none w lvs levels) (hlen:levels.length≤1000000) (hx:RdTrace none w x xo xr xb xd) (hy:RdTrace none w y yo yr yb yd) :
  Calls Tryz.prog 52 #[v0,.int .i64 level,lvs,.bool sens,traceV x xo xr xb xd,traceV y yo yr yb yd] w fun e w'=>e=.returned (.tuple #[.bool (premB L level levels sens x y),.int .i64 (viewsErr L level levels x.rels y.rels)])∧Below w.heap.size w w':=by
 obtain⟨p,rfl,_⟩:=id h
 obtain⟨la,lc,rfl⟩:=hr.is
 obtain⟨xa1,xa2,rfl⟩:=hx.1.is
 obtain⟨xa3,xa4,rfl⟩:=hx.2.1.is
 obtain⟨xa5,xa6,rfl⟩:=hx.2.2.1.is
 obtain⟨xa7,xa8,rfl⟩:=hx.2.2.2.1.is
 obtain⟨ya1,ya2,rfl⟩:=hy.1.is
 obtain⟨ya3,ya4,rfl⟩:=hy.2.1.is
 obtain⟨ya5,ya6,rfl⟩:=hy.2.2.1.is
 obtain⟨ya7,ya8,rfl⟩:=hy.2.2.2.1.is
 have hal:=(((Below.refl w.heap.size w).alloc (Nat.le_refl _) (.cells #[.int .u8 x.status,.int .i64 x.steps,.slice xa1 x.outs.length xa2,.slice xa3 x.rels.length xa4,.slice xa5 x.brs.length xa6,.slice xa7 x.reads.length xa8] 52)).alloc (by simp) (.cells #[.int .u8 y.status,.int .i64 y.steps,.slice ya1 y.outs.length ya2,.slice ya3 y.rels.length ya4,.slice ya5 y.brs.length ya6,.slice ya7 y.reads.length ya8] 52)).alloc (by simp;omega) (.cells #[.pointer (some ⟨p,0,none⟩),.int .i64 level,.slice la levels.length lc] 141)
 have hh:=heap2_of (w:=w) (A:=.cells #[.int .u8 x.status,.int .i64 x.steps,.slice xa1 x.outs.length xa2,.slice xa3 x.rels.length xa4,.slice xa5 x.brs.length xa6,.slice xa7 x.reads.length xa8] 52) (B:=.cells #[.int .u8 y.status,.int .i64 y.steps,.slice ya1 y.outs.length ya2,.slice ya3 y.rels.length ya4,.slice ya5 y.brs.length ya6,.slice ya7 y.reads.length ya8] 52) (wr:=((w.alloc (.cells #[.int .u8 x.status,.int .i64 x.steps,.slice xa1 x.outs.length xa2,.slice xa3 x.rels.length xa4,.slice xa5 x.brs.length xa6,.slice xa7 x.reads.length xa8] 52)).alloc (.cells #[.int .u8 y.status,.int .i64 y.steps,.slice ya1 y.outs.length ya2,.slice ya3 y.rels.length ya4,.slice ya5 y.brs.length ya6,.slice ya7 y.reads.length ya8] 52)).alloc (.cells #[.pointer (some ⟨p,0,none⟩),.int .i64 level,.slice la levels.length lc] 141)) ((Below.refl _ _).alloc (Nat.le_refl _) _)
 have HB0:=hid hal
 have HG1:=hid hh.1
 have HG2:=hid hh.2.1
 have HG3:Hid ((((w.alloc (.cells #[.int .u8 x.status,.int .i64 x.steps,.slice xa1 x.outs.length xa2,.slice xa3 x.rels.length xa4,.slice xa5 x.brs.length xa6,.slice xa7 x.reads.length xa8] 52)).alloc (.cells #[.int .u8 y.status,.int .i64 y.steps,.slice ya1 y.outs.length ya2,.slice ya3 y.rels.length ya4,.slice ya5 y.brs.length ya6,.slice ya7 y.reads.length ya8] 52)).alloc (.cells #[.pointer (some ⟨p,0,none⟩),.int .i64 level,.slice la levels.length lc] 141)).heap[w.heap.size+1+1]?=some (.cells #[.pointer (some ⟨p,0,none⟩),.int .i64 level,.slice la levels.length lc] 141 (0,0))):=by
  show _=_
  have:=heap_alloc_new ((w.alloc (.cells #[.int .u8 x.status,.int .i64 x.steps,.slice xa1 x.outs.length xa2,.slice xa3 x.rels.length xa4,.slice xa5 x.brs.length xa6,.slice xa7 x.reads.length xa8] 52)).alloc (.cells #[.int .u8 y.status,.int .i64 y.steps,.slice ya1 y.outs.length ya2,.slice ya3 y.rels.length ya4,.slice ya5 y.brs.length ya6,.slice ya7 y.reads.length ya8] 52)) (.cells #[.pointer (some ⟨p,0,none⟩),.int .i64 level,.slice la levels.length lc] 141)
  simpa using this
 clear hal hh
 obtain⟨PB,hPB⟩:∃ P,premB L level levels sens x y=P:=⟨_,rfl⟩
 obtain⟨ER,hER⟩:∃ E,viewsErr L level levels x.rels y.rels=E:=⟨_,rfl⟩
 rw[hPB,hER]
 have HPB:=hid hPB
 have HER:=hid hER
 have HBO:=hid (fun (w':World) (k:Below w.heap.size w w')=>both_any L p la lc level levels _ _ x.rels y.rels w' (h.keep k) hlv (hr.keep k) hlen (hx.2.1.keep k) (hy.2.1.keep k))
 rw[hER] at HBO
 clear hPB hER h hr hx hy
 go_enter Tryz.func52,Tryz.ntmps52
 go_upto_region 2 with fail
 generalize ((w.alloc (.cells #[.int .u8 x.status,.int .i64 x.steps,.slice xa1 x.outs.length xa2,.slice xa3 x.rels.length xa4,.slice xa5 x.brs.length xa6,.slice xa7 x.reads.length xa8] 52)).alloc (.cells #[.int .u8 y.status,.int .i64 y.steps,.slice ya1 y.outs.length ya2,.slice ya3 y.rels.length ya4,.slice ya5 y.brs.length ya6,.slice ya7 y.reads.length ya8] 52)).alloc (.cells #[.pointer (some ⟨p,0,none⟩),.int .i64 level,.slice la levels.length lc] 141)=W at *
 have hsz:w.heap.size+1+1<W.heap.size:=(gsAgQ HG3.out)
 have x0:=row_of HG1.out 0 (.int .u8 x.status) rfl
 have x1:=row_of HG1.out 1 (.int .i64 x.steps) rfl
 have x2:=row_of HG1.out 2 (.slice xa1 x.outs.length xa2) rfl
 have x3:=row_of HG1.out 3 (.slice xa3 x.rels.length xa4) rfl
 have x4:=row_of HG1.out 4 (.slice xa5 x.brs.length xa6) rfl
 have x5:=row_of HG1.out 5 (.slice xa7 x.reads.length xa8) rfl
 have y0:=row_of HG2.out 0 (.int .u8 y.status) rfl
 have y1:=row_of HG2.out 1 (.int .i64 y.steps) rfl
 have y2:=row_of HG2.out 2 (.slice ya1 y.outs.length ya2) rfl
 have y3:=row_of HG2.out 3 (.slice ya3 y.rels.length ya4) rfl
 have y4:=row_of HG2.out 4 (.slice ya5 y.brs.length ya6) rfl
 have y5:=row_of HG2.out 5 (.slice ya7 y.reads.length ya8) rfl
 have e0:=row_of HG3.out 0 (.pointer (some ⟨p,0,none⟩)) rfl
 have e1:=row_of HG3.out 1 (.int .i64 level) rfl
 have e2:=row_of HG3.out 2 (.slice la levels.length lc) rfl
 go_upto_region 5 with (go_at_call 80;refine (HBO.out _ HB0.out).mono ?_;rintro e z1 ⟨r1,r2,rfl,hs1,hz⟩;have HS1:=hid hs1;have B1:=hid hz;clear hz hs1)
 clear x0 x1 x2 x3 x4 x5 y0 y1 y2 y3 y4 y5 e0 e1 e2 HBO
 have HB1:=hid (bcomp HB0.out B1.out)
 have HG4:=hid ((B1.out.block _ (show w.heap.size<W.heap.size by omega)).trans HG1.out)
 have HG5:=hid ((B1.out.block _ (show w.heap.size+1<W.heap.size by omega)).trans HG2.out)
 have HG6:=hid ((B1.out.block _ hsz).trans HG3.out)
 clear HG1 HG2 HG3
 by_cases n1:ER=0
 case neg=>
  have n1':(ER != 0)=true:=by simp[n1]
  have HVV:Hid (PB=false):=by show PB=_;rw[← HPB.out,premB,if_pos (by rw[HER.out];exact n1)]
  go_wp2_with fail
  go_ret2
  exact⟨by rw[HVV.out];rfl,HB1.out⟩
 subst n1
 have HR1:=hid (HS1.out rfl).1
 have HR2:=hid (HS1.out rfl).2
 obtain⟨a1,c1,rfl⟩:=HR1.out.is
 obtain⟨a2,c2,rfl⟩:=HR2.out.is
 cases hpt:partT sens x y with
 | true=>
  have HC:=hid (compare_true p la levels.length lc level sens x y xa1 xa2 xa3 xa4 xa5 xa6 xa7 xa8 ya1 ya2 ya3 ya4 ya5 ya6 ya7 ya8 z1 hpt)
  have HQ:=hid (fun (w':World) (k:Below z1.heap.size z1 w')=>begun_any p la levels.length lc level _ _ _ _ w' (HR1.out.keep k) (HR2.out.keep k))
  obtain⟨V,hV⟩:∃ V,prefL (evsSee L level levels x.rels) (evsSee L level levels y.rels)=V:=⟨_,rfl⟩
  rw[hV] at HQ
  have HVV:Hid (PB=V):=by
   show PB=V
   rw[← HPB.out,premB,if_neg (by simp[HER.out]),hpt];exact hV
  clear hV hpt
  have x0:=row_of HG4.out 0 (.int .u8 x.status) rfl
  have x1:=row_of HG4.out 1 (.int .i64 x.steps) rfl
  have x2:=row_of HG4.out 2 (.slice xa1 x.outs.length xa2) rfl
  have x3:=row_of HG4.out 3 (.slice xa3 x.rels.length xa4) rfl
  have x4:=row_of HG4.out 4 (.slice xa5 x.brs.length xa6) rfl
  have x5:=row_of HG4.out 5 (.slice xa7 x.reads.length xa8) rfl
  have y0:=row_of HG5.out 0 (.int .u8 y.status) rfl
  have y1:=row_of HG5.out 1 (.int .i64 y.steps) rfl
  have y2:=row_of HG5.out 2 (.slice ya1 y.outs.length ya2) rfl
  have y3:=row_of HG5.out 3 (.slice ya3 y.rels.length ya4) rfl
  have y4:=row_of HG5.out 4 (.slice ya5 y.brs.length ya6) rfl
  have y5:=row_of HG5.out 5 (.slice ya7 y.reads.length ya8) rfl
  have e0:=row_of HG6.out 0 (.pointer (some ⟨p,0,none⟩)) rfl
  have e1:=row_of HG6.out 1 (.int .i64 level) rfl
  have e2:=row_of HG6.out 2 (.slice la levels.length lc) rfl
  go_upto_region 8 with (go_at_call 81;refine HC.out.mono ?_;rintro e z2 ⟨rfl,hz⟩;have B2:=hid hz;clear hz)
  clear x0 x1 x2 x3 x4 x5 y0 y1 y2 y3 y4 y5 e0 e1 e2 HC
  go_wp2_with (go_at_call 117;refine (HQ.out _ B2.out).mono ?_;rintro e z3 ⟨rfl,hz⟩;have B3:=hid (bcomp HB1.out (bcomp B2.out hz));clear hz)
  go_ret2
  exact⟨by rw[HVV.out];rfl,B3.out⟩
 | false=>
  have HC:=hid (compare_false p la levels.length lc level sens x y xa1 xa2 xa3 xa4 xa5 xa6 xa7 xa8 ya1 ya2 ya3 ya4 ya5 ya6 ya7 ya8 z1 hpt)
  have HQ:=hid (fun (w':World) (k:Below z1.heap.size z1 w')=>equal_any p la levels.length lc level _ _ _ _ w' (HR1.out.keep k) (HR2.out.keep k))
  obtain⟨V,hV⟩:∃ V,eqL eqEv (evsSee L level levels x.rels) (evsSee L level levels y.rels)=V:=⟨_,rfl⟩
  rw[hV] at HQ
  have HVV:Hid (PB=V):=by
   show PB=V
   rw[← HPB.out,premB,if_neg (by simp[HER.out]),hpt];exact hV
  clear hV hpt
  have x0:=row_of HG4.out 0 (.int .u8 x.status) rfl
  have x1:=row_of HG4.out 1 (.int .i64 x.steps) rfl
  have x2:=row_of HG4.out 2 (.slice xa1 x.outs.length xa2) rfl
  have x3:=row_of HG4.out 3 (.slice xa3 x.rels.length xa4) rfl
  have x4:=row_of HG4.out 4 (.slice xa5 x.brs.length xa6) rfl
  have x5:=row_of HG4.out 5 (.slice xa7 x.reads.length xa8) rfl
  have y0:=row_of HG5.out 0 (.int .u8 y.status) rfl
  have y1:=row_of HG5.out 1 (.int .i64 y.steps) rfl
  have y2:=row_of HG5.out 2 (.slice ya1 y.outs.length ya2) rfl
  have y3:=row_of HG5.out 3 (.slice ya3 y.rels.length ya4) rfl
  have y4:=row_of HG5.out 4 (.slice ya5 y.brs.length ya6) rfl
  have y5:=row_of HG5.out 5 (.slice ya7 y.reads.length ya8) rfl
  have e0:=row_of HG6.out 0 (.pointer (some ⟨p,0,none⟩)) rfl
  have e1:=row_of HG6.out 1 (.int .i64 level) rfl
  have e2:=row_of HG6.out 2 (.slice la levels.length lc) rfl
  go_upto_region 8 with (go_at_call 81;refine HC.out.mono ?_;rintro e z2 ⟨rfl,hz⟩;have B2:=hid hz;clear hz)
  clear x0 x1 x2 x3 x4 x5 y0 y1 y2 y3 y4 y5 e0 e1 e2 HC
  go_wp2_with (go_at_call 118;refine (HQ.out _ B2.out).mono ?_;rintro e z3 ⟨rfl,hz⟩;have B3:=hid (bcomp HB1.out (bcomp B2.out hz));clear hz)
  go_ret2
  exact⟨by rw[HVV.out];rfl,B3.out⟩
theorem same_any (L:LatD) (v0 lvs:Value) (level:Int) (levels:List Int) (sens:Bool) (x y:TraceD) (xo xr xb xd yo yr yb yd:Value) (w:World) (h:LatAt w v0 L) (hlv:InI64 level) (hr:RdRow kInt none w lvs levels) (hlen:levels.length≤1000000) (hx:RdTrace none w x xo xr xb xd) (hy:RdTrace none w y yo yr yb yd) :
  Calls Tryz.prog 53 #[v0,.int .i64 level,lvs,.bool sens,traceV x xo xr xb xd,traceV y yo yr yb yd] w fun e w'=>e=.returned (.tuple #[.bool (sameB L level levels sens x y),.int .i64 (viewsErr L level levels x.outs y.outs)])∧Below w.heap.size w w':=by
 obtain⟨p,rfl,_⟩:=id h
 obtain⟨la,lc,rfl⟩:=hr.is
 obtain⟨xa1,xa2,rfl⟩:=hx.1.is
 obtain⟨xa3,xa4,rfl⟩:=hx.2.1.is
 obtain⟨xa5,xa6,rfl⟩:=hx.2.2.1.is
 obtain⟨xa7,xa8,rfl⟩:=hx.2.2.2.1.is
 obtain⟨ya1,ya2,rfl⟩:=hy.1.is
 obtain⟨ya3,ya4,rfl⟩:=hy.2.1.is
 obtain⟨ya5,ya6,rfl⟩:=hy.2.2.1.is
 obtain⟨ya7,ya8,rfl⟩:=hy.2.2.2.1.is
 have hal:=(((Below.refl w.heap.size w).alloc (Nat.le_refl _) (.cells #[.int .u8 x.status,.int .i64 x.steps,.slice xa1 x.outs.length xa2,.slice xa3 x.rels.length xa4,.slice xa5 x.brs.length xa6,.slice xa7 x.reads.length xa8] 52)).alloc (by simp) (.cells #[.int .u8 y.status,.int .i64 y.steps,.slice ya1 y.outs.length ya2,.slice ya3 y.rels.length ya4,.slice ya5 y.brs.length ya6,.slice ya7 y.reads.length ya8] 52)).alloc (by simp;omega) (.cells #[.pointer (some ⟨p,0,none⟩),.int .i64 level,.slice la levels.length lc] 141)
 have hh:=heap2_of (w:=w) (A:=.cells #[.int .u8 x.status,.int .i64 x.steps,.slice xa1 x.outs.length xa2,.slice xa3 x.rels.length xa4,.slice xa5 x.brs.length xa6,.slice xa7 x.reads.length xa8] 52) (B:=.cells #[.int .u8 y.status,.int .i64 y.steps,.slice ya1 y.outs.length ya2,.slice ya3 y.rels.length ya4,.slice ya5 y.brs.length ya6,.slice ya7 y.reads.length ya8] 52) (wr:=((w.alloc (.cells #[.int .u8 x.status,.int .i64 x.steps,.slice xa1 x.outs.length xa2,.slice xa3 x.rels.length xa4,.slice xa5 x.brs.length xa6,.slice xa7 x.reads.length xa8] 52)).alloc (.cells #[.int .u8 y.status,.int .i64 y.steps,.slice ya1 y.outs.length ya2,.slice ya3 y.rels.length ya4,.slice ya5 y.brs.length ya6,.slice ya7 y.reads.length ya8] 52)).alloc (.cells #[.pointer (some ⟨p,0,none⟩),.int .i64 level,.slice la levels.length lc] 141)) ((Below.refl _ _).alloc (Nat.le_refl _) _)
 have HB0:=hid hal
 have HG1:=hid hh.1
 have HG2:=hid hh.2.1
 have HG3:Hid ((((w.alloc (.cells #[.int .u8 x.status,.int .i64 x.steps,.slice xa1 x.outs.length xa2,.slice xa3 x.rels.length xa4,.slice xa5 x.brs.length xa6,.slice xa7 x.reads.length xa8] 52)).alloc (.cells #[.int .u8 y.status,.int .i64 y.steps,.slice ya1 y.outs.length ya2,.slice ya3 y.rels.length ya4,.slice ya5 y.brs.length ya6,.slice ya7 y.reads.length ya8] 52)).alloc (.cells #[.pointer (some ⟨p,0,none⟩),.int .i64 level,.slice la levels.length lc] 141)).heap[w.heap.size+1+1]?=some (.cells #[.pointer (some ⟨p,0,none⟩),.int .i64 level,.slice la levels.length lc] 141 (0,0))):=by
  show _=_
  have:=heap_alloc_new ((w.alloc (.cells #[.int .u8 x.status,.int .i64 x.steps,.slice xa1 x.outs.length xa2,.slice xa3 x.rels.length xa4,.slice xa5 x.brs.length xa6,.slice xa7 x.reads.length xa8] 52)).alloc (.cells #[.int .u8 y.status,.int .i64 y.steps,.slice ya1 y.outs.length ya2,.slice ya3 y.rels.length ya4,.slice ya5 y.brs.length ya6,.slice ya7 y.reads.length ya8] 52)) (.cells #[.pointer (some ⟨p,0,none⟩),.int .i64 level,.slice la levels.length lc] 141)
  simpa using this
 clear hal hh
 obtain⟨PB,hPB⟩:∃ P,sameB L level levels sens x y=P:=⟨_,rfl⟩
 obtain⟨ER,hER⟩:∃ E,viewsErr L level levels x.outs y.outs=E:=⟨_,rfl⟩
 rw[hPB,hER]
 have HPB:=hid hPB
 have HER:=hid hER
 have HBO:=hid (fun (w':World) (k:Below w.heap.size w w')=>both_any L p la lc level levels _ _ x.outs y.outs w' (h.keep k) hlv (hr.keep k) hlen (hx.1.keep k) (hy.1.keep k))
 rw[hER] at HBO
 clear hPB hER h hr hx hy
 go_enter Tryz.func53,Tryz.ntmps53
 go_upto_region 2 with fail
 generalize ((w.alloc (.cells #[.int .u8 x.status,.int .i64 x.steps,.slice xa1 x.outs.length xa2,.slice xa3 x.rels.length xa4,.slice xa5 x.brs.length xa6,.slice xa7 x.reads.length xa8] 52)).alloc (.cells #[.int .u8 y.status,.int .i64 y.steps,.slice ya1 y.outs.length ya2,.slice ya3 y.rels.length ya4,.slice ya5 y.brs.length ya6,.slice ya7 y.reads.length ya8] 52)).alloc (.cells #[.pointer (some ⟨p,0,none⟩),.int .i64 level,.slice la levels.length lc] 141)=W at *
 have hsz:w.heap.size+1+1<W.heap.size:=(gsAgQ HG3.out)
 have x0:=row_of HG1.out 0 (.int .u8 x.status) rfl
 have x1:=row_of HG1.out 1 (.int .i64 x.steps) rfl
 have x2:=row_of HG1.out 2 (.slice xa1 x.outs.length xa2) rfl
 have x3:=row_of HG1.out 3 (.slice xa3 x.rels.length xa4) rfl
 have x4:=row_of HG1.out 4 (.slice xa5 x.brs.length xa6) rfl
 have x5:=row_of HG1.out 5 (.slice xa7 x.reads.length xa8) rfl
 have y0:=row_of HG2.out 0 (.int .u8 y.status) rfl
 have y1:=row_of HG2.out 1 (.int .i64 y.steps) rfl
 have y2:=row_of HG2.out 2 (.slice ya1 y.outs.length ya2) rfl
 have y3:=row_of HG2.out 3 (.slice ya3 y.rels.length ya4) rfl
 have y4:=row_of HG2.out 4 (.slice ya5 y.brs.length ya6) rfl
 have y5:=row_of HG2.out 5 (.slice ya7 y.reads.length ya8) rfl
 have e0:=row_of HG3.out 0 (.pointer (some ⟨p,0,none⟩)) rfl
 have e1:=row_of HG3.out 1 (.int .i64 level) rfl
 have e2:=row_of HG3.out 2 (.slice la levels.length lc) rfl
 go_upto_region 5 with (go_at_call 80;refine (HBO.out _ HB0.out).mono ?_;rintro e z1 ⟨r1,r2,rfl,hs1,hz⟩;have HS1:=hid hs1;have B1:=hid hz;clear hz hs1)
 clear x0 x1 x2 x3 x4 x5 y0 y1 y2 y3 y4 y5 e0 e1 e2 HBO
 have HB1:=hid (bcomp HB0.out B1.out)
 have HG4:=hid ((B1.out.block _ (show w.heap.size<W.heap.size by omega)).trans HG1.out)
 have HG5:=hid ((B1.out.block _ (show w.heap.size+1<W.heap.size by omega)).trans HG2.out)
 have HG6:=hid ((B1.out.block _ hsz).trans HG3.out)
 clear HG1 HG2 HG3
 by_cases n1:ER=0
 case neg=>
  have n1':(ER != 0)=true:=by simp[n1]
  have HVV:Hid (PB=false):=by show PB=_;rw[← HPB.out,sameB,if_pos (by rw[HER.out];exact n1)]
  go_wp2_with fail
  go_ret2
  exact⟨by rw[HVV.out];rfl,HB1.out⟩
 subst n1
 have HR1:=hid (HS1.out rfl).1
 have HR2:=hid (HS1.out rfl).2
 obtain⟨a1,c1,rfl⟩:=HR1.out.is
 obtain⟨a2,c2,rfl⟩:=HR2.out.is
 cases hpt:partT sens x y with
 | true=>
  have HC:=hid (compare_true p la levels.length lc level sens x y xa1 xa2 xa3 xa4 xa5 xa6 xa7 xa8 ya1 ya2 ya3 ya4 ya5 ya6 ya7 ya8 z1 hpt)
  have HQ:=hid (fun (w':World) (k:Below z1.heap.size z1 w')=>begun_any p la levels.length lc level _ _ _ _ w' (HR1.out.keep k) (HR2.out.keep k))
  obtain⟨V,hV⟩:∃ V,prefL (evsSee L level levels x.outs) (evsSee L level levels y.outs)=V:=⟨_,rfl⟩
  rw[hV] at HQ
  have HVV:Hid (PB=(V&&(true||x.status==y.status))):=by
   show PB=_
   rw[← HPB.out,sameB,if_neg (by simp[HER.out]),hpt];show (prefL _ _&&_)=_;rw[hV]
  clear hV hpt
  have x0:=row_of HG4.out 0 (.int .u8 x.status) rfl
  have x1:=row_of HG4.out 1 (.int .i64 x.steps) rfl
  have x2:=row_of HG4.out 2 (.slice xa1 x.outs.length xa2) rfl
  have x3:=row_of HG4.out 3 (.slice xa3 x.rels.length xa4) rfl
  have x4:=row_of HG4.out 4 (.slice xa5 x.brs.length xa6) rfl
  have x5:=row_of HG4.out 5 (.slice xa7 x.reads.length xa8) rfl
  have y0:=row_of HG5.out 0 (.int .u8 y.status) rfl
  have y1:=row_of HG5.out 1 (.int .i64 y.steps) rfl
  have y2:=row_of HG5.out 2 (.slice ya1 y.outs.length ya2) rfl
  have y3:=row_of HG5.out 3 (.slice ya3 y.rels.length ya4) rfl
  have y4:=row_of HG5.out 4 (.slice ya5 y.brs.length ya6) rfl
  have y5:=row_of HG5.out 5 (.slice ya7 y.reads.length ya8) rfl
  have e0:=row_of HG6.out 0 (.pointer (some ⟨p,0,none⟩)) rfl
  have e1:=row_of HG6.out 1 (.int .i64 level) rfl
  have e2:=row_of HG6.out 2 (.slice la levels.length lc) rfl
  go_upto_region 8 with (go_at_call 81;refine HC.out.mono ?_;rintro e z2 ⟨rfl,hz⟩;have B2:=hid hz;clear hz)
  clear x1 x2 x3 x4 x5 y1 y2 y3 y4 y5 e0 e1 e2 HC
  cases V with
  | false=>
   go_wp2_with (go_at_call 117;refine (HQ.out _ B2.out).mono ?_;rintro e z3 ⟨rfl,hz⟩;have B3:=hid (bcomp HB1.out (bcomp B2.out hz));have s0:=cell_keep (bcomp B2.out hz) x0;have t0:=cell_keep (bcomp B2.out hz) y0;clear hz x0 y0)
   go_ret2
   exact⟨by rw[HVV.out];rfl,B3.out⟩
  | true=>
   go_wp2_with (go_at_call 117;refine (HQ.out _ B2.out).mono ?_;rintro e z3 ⟨rfl,hz⟩;have B3:=hid (bcomp HB1.out (bcomp B2.out hz));have s0:=cell_keep (bcomp B2.out hz) x0;have t0:=cell_keep (bcomp B2.out hz) y0;clear hz x0 y0)
   go_ret2
   exact⟨by rw[HVV.out];rfl,B3.out⟩
 | false=>
  have HC:=hid (compare_false p la levels.length lc level sens x y xa1 xa2 xa3 xa4 xa5 xa6 xa7 xa8 ya1 ya2 ya3 ya4 ya5 ya6 ya7 ya8 z1 hpt)
  have HQ:=hid (fun (w':World) (k:Below z1.heap.size z1 w')=>equal_any p la levels.length lc level _ _ _ _ w' (HR1.out.keep k) (HR2.out.keep k))
  obtain⟨V,hV⟩:∃ V,eqL eqEv (evsSee L level levels x.outs) (evsSee L level levels y.outs)=V:=⟨_,rfl⟩
  rw[hV] at HQ
  have HVV:Hid (PB=(V&&(false||x.status==y.status))):=by
   show PB=_
   rw[← HPB.out,sameB,if_neg (by simp[HER.out]),hpt];show (eqL eqEv _ _&&_)=_;rw[hV]
  clear hV hpt
  have x0:=row_of HG4.out 0 (.int .u8 x.status) rfl
  have x1:=row_of HG4.out 1 (.int .i64 x.steps) rfl
  have x2:=row_of HG4.out 2 (.slice xa1 x.outs.length xa2) rfl
  have x3:=row_of HG4.out 3 (.slice xa3 x.rels.length xa4) rfl
  have x4:=row_of HG4.out 4 (.slice xa5 x.brs.length xa6) rfl
  have x5:=row_of HG4.out 5 (.slice xa7 x.reads.length xa8) rfl
  have y0:=row_of HG5.out 0 (.int .u8 y.status) rfl
  have y1:=row_of HG5.out 1 (.int .i64 y.steps) rfl
  have y2:=row_of HG5.out 2 (.slice ya1 y.outs.length ya2) rfl
  have y3:=row_of HG5.out 3 (.slice ya3 y.rels.length ya4) rfl
  have y4:=row_of HG5.out 4 (.slice ya5 y.brs.length ya6) rfl
  have y5:=row_of HG5.out 5 (.slice ya7 y.reads.length ya8) rfl
  have e0:=row_of HG6.out 0 (.pointer (some ⟨p,0,none⟩)) rfl
  have e1:=row_of HG6.out 1 (.int .i64 level) rfl
  have e2:=row_of HG6.out 2 (.slice la levels.length lc) rfl
  go_upto_region 8 with (go_at_call 81;refine HC.out.mono ?_;rintro e z2 ⟨rfl,hz⟩;have B2:=hid hz;clear hz)
  clear x1 x2 x3 x4 x5 y1 y2 y3 y4 y5 e0 e1 e2 HC
  cases V with
  | false=>
   go_wp2_with (go_at_call 118;refine (HQ.out _ B2.out).mono ?_;rintro e z3 ⟨rfl,hz⟩;have B3:=hid (bcomp HB1.out (bcomp B2.out hz));have s0:=cell_keep (bcomp B2.out hz) x0;have t0:=cell_keep (bcomp B2.out hz) y0;clear hz x0 y0)
   go_ret2
   exact⟨by rw[HVV.out];rfl,B3.out⟩
  | true=>
   go_wp2_with (go_at_call 118;refine (HQ.out _ B2.out).mono ?_;rintro e z3 ⟨rfl,hz⟩;have B3:=hid (bcomp HB1.out (bcomp B2.out hz));have s0:=cell_keep (bcomp B2.out hz) x0;have t0:=cell_keep (bcomp B2.out hz) y0;clear hz x0 y0)
   go_ret2
   exact⟨by rw[HVV.out];rfl,B3.out⟩
end Go.Proofs.YtkjkpddajjmloaaGreatDoor
