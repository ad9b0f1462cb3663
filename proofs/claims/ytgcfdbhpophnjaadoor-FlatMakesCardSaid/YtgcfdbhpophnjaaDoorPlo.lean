/- Contracts of the kit's comparisons of instructions, functions and programs: called in whatever memory they return whether the two values read as equal ones, and write nothing that was there. Condition: both read as instructions, functions, programs. -/
import Derived.Test.YtgcfdbhpophnjaaDoorKitE
import Derived.Test.YtgcfdbhpophnjaaDoorRck
import Derived.Test.YtgcfdbhpophnjaaDoorFeP
import Derived.Test.YtgcfdbhpophnjaaDoorAwa
import Derived.Maps.AppendAt
import Derived.Deep.QuietTactic
import Derived.BigQuiet
set_option linter.all false
set_option maxRecDepth 1000000
set_option maxHeartbeats 12800000
namespace Go.Proofs.YtgcfdbhpophnjaaDoor
open Go.ChangeShapes Go.WideShapes Go.ChangeAt Go.RowKit
open Go.Lib (hid)
theorem gsPlo {α:Type} {a:Array α} {i:Nat} {v:α} (h:a[i]?=some v):i<a.size:=(Array.getElem?_eq_some_iff.1 h).1
theorem lgPlo {α:Type} {l:List α} {i:Nat} (h:i<l.length):l[i]?=some l[i]:=List.getElem?_eq_getElem h
theorem equalInstr (x y:InstrD) (av bv:Value) (w:World) (h:RdInstr none w x av) (g:RdInstr none w y bv) :
  Calls Tryd.prog 80 #[instrV x av,instrV y bv] w fun e w'=>e=.returned (.bool (eqInstr x y))∧Below w.heap.size w w':=by
 have hb0:Hid (Below w.heap.size w ((w.alloc (.cells #[.int .u8 x.kind,.int .u8 x.op,.string x.dst,.string x.name,av,.int .i64 x.line,.int .i64 x.col] 60)).alloc (.cells #[.int .u8 y.kind,.int .u8 y.op,.string y.dst,.string y.name,bv,.int .i64 y.line,.int .i64 y.col] 60))):=(((Below.refl _ _).alloc (Nat.le_refl _) _).alloc (by simp) _)
 have HA:=hid (equalArgs av bv x.args y.args _ (h.1.keep hb0.out) (g.1.keep hb0.out))
 clear h g
 cases h0:(x.kind==y.kind)
 ·have HV:Hid (eqInstr x y=false):=by show _=_;simp[eqInstr,h0]
  go_enter Tryd.func80,Tryd.ntmps80
  go_wp2_with (go_at_call 102;refine HA.out.mono ?_;rintro e w1 ⟨rfl,hw1⟩;have hc:=heap2_of hw1;have g0:=hc.1;have g1:=hc.2.1;have i5:=row_of g0 5 (.int .i64 x.line) rfl;have i6:=row_of g0 6 (.int .i64 x.col) rfl;have j5:=row_of g1 5 (.int .i64 y.line) rfl;have j6:=row_of g1 6 (.int .i64 y.col) rfl;clear g0 g1 hc)
  go_ret
  exact⟨by rw[HV.out];rfl,by repeat (first|exact hb0.out|refine bcomp' (by assumption) ?_)⟩
 cases h1:(x.op==y.op)
 ·have HV:Hid (eqInstr x y=false):=by show _=_;simp[eqInstr,h0,h1]
  go_enter Tryd.func80,Tryd.ntmps80
  go_wp2_with (go_at_call 102;refine HA.out.mono ?_;rintro e w1 ⟨rfl,hw1⟩;have hc:=heap2_of hw1;have g0:=hc.1;have g1:=hc.2.1;have i5:=row_of g0 5 (.int .i64 x.line) rfl;have i6:=row_of g0 6 (.int .i64 x.col) rfl;have j5:=row_of g1 5 (.int .i64 y.line) rfl;have j6:=row_of g1 6 (.int .i64 y.col) rfl;clear g0 g1 hc)
  go_ret
  exact⟨by rw[HV.out];rfl,by repeat (first|exact hb0.out|refine bcomp' (by assumption) ?_)⟩
 cases h2:(x.dst.toList==y.dst.toList)
 ·have HV:Hid (eqInstr x y=false):=by show _=_;simp[eqInstr,h0,h1,h2]
  go_enter Tryd.func80,Tryd.ntmps80
  go_wp2_with (go_at_call 102;refine HA.out.mono ?_;rintro e w1 ⟨rfl,hw1⟩;have hc:=heap2_of hw1;have g0:=hc.1;have g1:=hc.2.1;have i5:=row_of g0 5 (.int .i64 x.line) rfl;have i6:=row_of g0 6 (.int .i64 x.col) rfl;have j5:=row_of g1 5 (.int .i64 y.line) rfl;have j6:=row_of g1 6 (.int .i64 y.col) rfl;clear g0 g1 hc)
  go_ret
  exact⟨by rw[HV.out];rfl,by repeat (first|exact hb0.out|refine bcomp' (by assumption) ?_)⟩
 cases h3:(x.name.toList==y.name.toList)
 ·have HV:Hid (eqInstr x y=false):=by show _=_;simp[eqInstr,h0,h1,h2,h3]
  go_enter Tryd.func80,Tryd.ntmps80
  go_wp2_with (go_at_call 102;refine HA.out.mono ?_;rintro e w1 ⟨rfl,hw1⟩;have hc:=heap2_of hw1;have g0:=hc.1;have g1:=hc.2.1;have i5:=row_of g0 5 (.int .i64 x.line) rfl;have i6:=row_of g0 6 (.int .i64 x.col) rfl;have j5:=row_of g1 5 (.int .i64 y.line) rfl;have j6:=row_of g1 6 (.int .i64 y.col) rfl;clear g0 g1 hc)
  go_ret
  exact⟨by rw[HV.out];rfl,by repeat (first|exact hb0.out|refine bcomp' (by assumption) ?_)⟩
 cases h4:(eqL eqArg x.args y.args)
 ·have HV:Hid (eqInstr x y=false):=by show _=_;simp[eqInstr,h0,h1,h2,h3,h4]
  go_enter Tryd.func80,Tryd.ntmps80
  go_wp2_with (go_at_call 102;refine HA.out.mono ?_;rintro e w1 ⟨rfl,hw1⟩;have hc:=heap2_of hw1;have g0:=hc.1;have g1:=hc.2.1;have i5:=row_of g0 5 (.int .i64 x.line) rfl;have i6:=row_of g0 6 (.int .i64 x.col) rfl;have j5:=row_of g1 5 (.int .i64 y.line) rfl;have j6:=row_of g1 6 (.int .i64 y.col) rfl;clear g0 g1 hc)
  go_ret
  exact⟨by rw[HV.out];rfl,by repeat (first|exact hb0.out|refine bcomp' (by assumption) ?_)⟩
 by_cases h5:x.line=y.line
 ·by_cases h5':x.col=y.col
  ·have HV:Hid (eqInstr x y=true):=by show _=_;simp[eqInstr,h0,h1,h2,h3,h4,h5,h5']
   have H5:=hid h5
   have H6:=hid h5'
   clear h5 h5'
   go_enter Tryd.func80,Tryd.ntmps80
   go_wp2_with (go_at_call 102;refine HA.out.mono ?_;rintro e w1 ⟨rfl,hw1⟩;have hc:=heap2_of hw1;have g0:=hc.1;have g1:=hc.2.1;have i5:=row_of g0 5 (.int .i64 x.line) rfl;have i6:=row_of g0 6 (.int .i64 x.col) rfl;have j5:=row_of g1 5 (.int .i64 y.line) rfl;have j6:=row_of g1 6 (.int .i64 y.col) rfl;clear g0 g1 hc;have q5:=H5.out;have q6:=H6.out)
   go_ret
   exact⟨by rw[HV.out];rfl,by repeat (first|exact hb0.out|refine bcomp' (by assumption) ?_)⟩
  ·have HV:Hid (eqInstr x y=false):=by show _=_;simp[eqInstr,h0,h1,h2,h3,h4,h5,h5']
   have H5:=hid h5
   have H6:=hid h5'
   clear h5 h5'
   go_enter Tryd.func80,Tryd.ntmps80
   go_wp2_with (go_at_call 102;refine HA.out.mono ?_;rintro e w1 ⟨rfl,hw1⟩;have hc:=heap2_of hw1;have g0:=hc.1;have g1:=hc.2.1;have i5:=row_of g0 5 (.int .i64 x.line) rfl;have i6:=row_of g0 6 (.int .i64 x.col) rfl;have j5:=row_of g1 5 (.int .i64 y.line) rfl;have j6:=row_of g1 6 (.int .i64 y.col) rfl;clear g0 g1 hc;have q5:=H5.out;have q6:=H6.out)
   go_ret
   exact⟨by rw[HV.out];rfl,by repeat (first|exact hb0.out|refine bcomp' (by assumption) ?_)⟩
 ·have HV:Hid (eqInstr x y=false):=by show _=_;simp[eqInstr,h0,h1,h2,h3,h4,h5]
  go_enter Tryd.func80,Tryd.ntmps80
  go_wp2_with (go_at_call 102;refine HA.out.mono ?_;rintro e w1 ⟨rfl,hw1⟩;have hc:=heap2_of hw1;have g0:=hc.1;have g1:=hc.2.1;have i5:=row_of g0 5 (.int .i64 x.line) rfl;have i6:=row_of g0 6 (.int .i64 x.col) rfl;have j5:=row_of g1 5 (.int .i64 y.line) rfl;have j6:=row_of g1 6 (.int .i64 y.col) rfl;clear g0 g1 hc)
  go_ret
  exact⟨by rw[HV.out];rfl,by repeat (first|exact hb0.out|refine bcomp' (by assumption) ?_)⟩
theorem equalInstrs (av bv:Value) (l m:List InstrD) (w:World) (h:RdInstrs none w av l) (g:RdInstrs none w bv m) :
  Calls Tryd.prog 45 #[av,bv] w fun e w'=>e=.returned (.bool (eqL eqInstr l m))∧Below w.heap.size w w':=by
 obtain⟨a,c,rfl,hl,hr⟩:=h
 obtain⟨a2,c2,rfl,hl2,gr⟩:=g
 have HR:=hid hr
 have GR:=hid gr
 clear hr gr
 by_cases hlen:l.length=m.length
 ·have he:((l.length:Int) != (m.length:Int))=false:=by rw[hlen];simp
  have HL:=hid hlen
  clear hlen
  go_enter Tryd.func45,Tryd.ntmps45
  go_wp2
  go_loopw [5] (fun i wr=>∃ k:Nat,k≤l.length∧i=.int .i64 k∧Hid (∀ (j:Nat) x y,j<k→l[j]?=some x→m[j]?=some y→eqInstr x y=true)∧Below w.heap.size w wr) (fun i _=>l.length-(intOf i).toNat)
  case atStart=>exact⟨0,Nat.zero_le _,rfl,(fun j x y h=>by omega),Below.refl _ _⟩
  case round=>
   obtain⟨k,hk,rfl,hq,hb⟩:=hrel
   by_cases hlt:k<l.length
   ·have hlt2:k<m.length:=by rw[← HL.out];exact hlt
    obtain⟨x,hx⟩:∃ x,l[k]?=some x:=⟨_,lgPlo hlt⟩
    obtain⟨y,hy⟩:∃ y,m[k]?=some y:=⟨_,lgPlo hlt2⟩
    obtain⟨b,o,xav,rfl,_,c0,c1,c2,c3,c4,c5,c6,hrx⟩:=HR.out k x hx
    obtain⟨b2,o2,yav,rfl,_,d0,d1,d2,d3,d4,d5,d6,hry⟩:=GR.out k y hy
    have c0':=cell_keepB hb c0 (block_lt_of_cell c0)
    have d0':=cell_keepB hb d0 (block_lt_of_cell d0)
    have c1':=cell_keepB hb c1 (block_lt_of_cell c1)
    have d1':=cell_keepB hb d1 (block_lt_of_cell d1)
    have c2':=cell_keepB hb c2 (block_lt_of_cell c2)
    have d2':=cell_keepB hb d2 (block_lt_of_cell d2)
    have c3':=cell_keepB hb c3 (block_lt_of_cell c3)
    have d3':=cell_keepB hb d3 (block_lt_of_cell d3)
    have c4':=cell_keepB hb c4 (block_lt_of_cell c4)
    have d4':=cell_keepB hb d4 (block_lt_of_cell d4)
    have c5':=cell_keepB hb c5 (block_lt_of_cell c5)
    have d5':=cell_keepB hb d5 (block_lt_of_cell d5)
    have c6':=cell_keepB hb c6 (block_lt_of_cell c6)
    have d6':=cell_keepB hb d6 (block_lt_of_cell d6)
    have HX:=hid (And.intro hx hy)
    have HRX:=hid (hrx.keep hb)
    have HRY:=hid (hry.keep hb)
    have hi1:(k:Int)<(l.length:Int):=by omega
    have hi2:(k:Int)<(m.length:Int):=by omega
    clear c0 d0 c1 d1 c2 d2 c3 d3 c4 d4 c5 d5 c6 d6 hx hy hrx hry
    go_wp2_with fail
    have hS:Below wr.heap.size wr wr.drew:=(Below.refl _ _).drew
    refine wp_region_plan (fun w'=>Below wr.heap.size wr w') (fun _=>false) [(0,true),(1,true),(2,true),(3,true),(4,true),(5,true),(6,true),(7,true),(8,false),(9,false)] (by kernel_rfl) (by kernel_rfl) rfl (by kernel_rfl) (fun _ d _ _ _ h=>by cases d <;> exact h) ?_
    refine⟨.slice (some ⟨b,o,none⟩) l.length c,_,rfl,.inl ⟨rfl,fun w' hw=>by go_simp⟩,hS,?_⟩
    refine⟨.int .i64 k,_,rfl,.inl ⟨rfl,fun w' hw=>by go_simp⟩,hS,?_⟩
    refine⟨.pointer (some ⟨b,o+k*7,none⟩),_,rfl,.inl ⟨rfl,fun w' hw=>by go_simp⟩,hS,?_⟩
    refine⟨.agg #[.int .u8 x.kind,.int .u8 x.op,.string x.dst,.string x.name,xav,.int .i64 x.line,.int .i64 x.col],_,rfl,.inl ⟨rfl,fun w' hw=>by have e0:=cell_keep hw c0';have e1:=cell_keep hw c1';have e2:=cell_keep hw c2';have e3:=cell_keep hw c3';have e4:=cell_keep hw c4';have e5:=cell_keep hw c5';have e6:=cell_keep hw c6';go_simp⟩,hS,?_⟩
    refine⟨.slice (some ⟨b2,o2,none⟩) m.length c2,_,rfl,.inl ⟨rfl,fun w' hw=>by go_simp⟩,hS,?_⟩
    refine⟨.int .i64 k,_,rfl,.inl ⟨rfl,fun w' hw=>by go_simp⟩,hS,?_⟩
    refine⟨.pointer (some ⟨b2,o2+k*7,none⟩),_,rfl,.inl ⟨rfl,fun w' hw=>by go_simp⟩,hS,?_⟩
    refine⟨.agg #[.int .u8 y.kind,.int .u8 y.op,.string y.dst,.string y.name,yav,.int .i64 y.line,.int .i64 y.col],_,rfl,.inl ⟨rfl,fun w' hw=>by have e0:=cell_keep hw d0';have e1:=cell_keep hw d1';have e2:=cell_keep hw d2';have e3:=cell_keep hw d3';have e4:=cell_keep hw d4';have e5:=cell_keep hw d5';have e6:=cell_keep hw d6';go_simp⟩,hS,?_⟩
    cases hv:eqInstr x y
    all_goals
     have HV:=hid hv
     refine plan_step rfl ?_
     go_wp2_with (go_at_call 80;refine (equalInstr x y xav yav _ (HRX.out.keep hS) (HRY.out.keep hS)).mono ?_;rintro e w1 ⟨rfl,hb1⟩)
     have hS1:Below wr.heap.size wr w1:=hS.trans hb1
     refine⟨fun _=>hS1,?_⟩
     refine plan_step rfl ?_
     go_wp2
     refine⟨hS1,plan_nil ?_⟩
     clear hS hb1 hv
     have hb1:=bcomp hb hS1
     clear hS1
    ·go_wp2
     go_ret
     exact⟨by rw[eqL_miss eqInstr l m k x y HX.out.1 HX.out.2 HV.out];rfl,hb1⟩
    ·go_wp2
     go_roundw
     case rel=>
      refine⟨k+1,by omega,by go_num,?_,hb1⟩
      intro j x' y' hj g1 g2
      rcases Nat.lt_or_ge j k with h|h
      ·exact hq.out j x' y' h g1 g2
      ·obtain rfl:j=k:=by omega
       rw[HX.out.1] at g1;rw[HX.out.2] at g2
       cases g1;cases g2;exact HV.out
     case measure=>simp[intOf];omega
   ·obtain rfl:k=l.length:=by omega
    go_wp2
    go_ret
    refine⟨?_,hb⟩
    rw[eqL_all eqInstr l m HL.out (fun j x y g1 g2=>hq.out j x y (List.getElem?_eq_some_iff.1 g1).1 g1 g2)];rfl
 ·have he:((l.length:Int) != (m.length:Int))=true:=by rw[bne_iff_ne];omega
  have HL:=hid (eqL_len eqInstr l m hlen)
  clear hlen
  go_enter Tryd.func45,Tryd.ntmps45
  go_wp2
  go_ret
  exact⟨by rw[HL.out];rfl,Below.refl _ _⟩
theorem equalFunc (x y:FuncD) (pv cv qv dv:Value) (w:World) (h:RdFunc none w x pv cv) (g:RdFunc none w y qv dv) :
  Calls Tryd.prog 79 #[funcV x pv cv,funcV y qv dv] w fun e w'=>e=.returned (.bool (eqFunc x y))∧Below w.heap.size w w':=by
 have hb0:Hid (Below w.heap.size w ((w.alloc (.cells #[.string x.name,pv,cv,.int .i64 x.line,.int .i64 x.col] 57)).alloc (.cells #[.string y.name,qv,dv,.int .i64 y.line,.int .i64 y.col] 57))):=(((Below.refl _ _).alloc (Nat.le_refl _) _).alloc (by simp) _)
 have HA:=hid (equalStrs pv qv x.params y.params _ (h.1.keep hb0.out) (g.1.keep hb0.out))
 have HC:=hid h.2.1
 have GC:=hid g.2.1
 clear h g
 cases h0:(x.name.toList==y.name.toList)
 ·have HV:Hid (eqFunc x y=false):=by show _=_;simp[eqFunc,h0]
  go_enter Tryd.func79,Tryd.ntmps79
  go_wp2_with (first|(go_at_call 22;refine HA.out.mono ?_;rintro e w1 ⟨rfl,hw1⟩;obtain⟨g0,g1,hbw⟩:=heap2_of hw1;have i2:=row_of g0 2 cv rfl;have j2:=row_of g1 2 dv rfl;have i3:=row_of g0 3 (.int .i64 x.line) rfl;have i4:=row_of g0 4 (.int .i64 x.col) rfl;have j3:=row_of g1 3 (.int .i64 y.line) rfl;have j4:=row_of g1 4 (.int .i64 y.col) rfl;have HBW:=hid hbw;clear g0 g1 hbw)|(go_at_call 45;refine (equalInstrs cv dv x.code y.code _ (HC.out.keep HBW.out) (GC.out.keep HBW.out)).mono ?_;rintro e w2 ⟨rfl,hw2⟩;have k3:=cell_keep hw2 i3;have k4:=cell_keep hw2 i4;have m3:=cell_keep hw2 j3;have m4:=cell_keep hw2 j4))
  go_ret
  exact⟨by rw[HV.out];rfl,by repeat (first|exact hb0.out|exact Below.refl _ _|refine bcomp' (by assumption) ?_)⟩
 cases h1:(eqL eqS x.params y.params)
 ·have HV:Hid (eqFunc x y=false):=by show _=_;simp[eqFunc,h0,h1]
  go_enter Tryd.func79,Tryd.ntmps79
  go_wp2_with (first|(go_at_call 22;refine HA.out.mono ?_;rintro e w1 ⟨rfl,hw1⟩;obtain⟨g0,g1,hbw⟩:=heap2_of hw1;have i2:=row_of g0 2 cv rfl;have j2:=row_of g1 2 dv rfl;have i3:=row_of g0 3 (.int .i64 x.line) rfl;have i4:=row_of g0 4 (.int .i64 x.col) rfl;have j3:=row_of g1 3 (.int .i64 y.line) rfl;have j4:=row_of g1 4 (.int .i64 y.col) rfl;have HBW:=hid hbw;clear g0 g1 hbw)|(go_at_call 45;refine (equalInstrs cv dv x.code y.code _ (HC.out.keep HBW.out) (GC.out.keep HBW.out)).mono ?_;rintro e w2 ⟨rfl,hw2⟩;have k3:=cell_keep hw2 i3;have k4:=cell_keep hw2 i4;have m3:=cell_keep hw2 j3;have m4:=cell_keep hw2 j4))
  go_ret
  exact⟨by rw[HV.out];rfl,by repeat (first|exact hb0.out|exact Below.refl _ _|refine bcomp' (by assumption) ?_)⟩
 cases h2:(eqL eqInstr x.code y.code)
 ·have HV:Hid (eqFunc x y=false):=by show _=_;simp[eqFunc,h0,h1,h2]
  go_enter Tryd.func79,Tryd.ntmps79
  go_wp2_with (first|(go_at_call 22;refine HA.out.mono ?_;rintro e w1 ⟨rfl,hw1⟩;obtain⟨g0,g1,hbw⟩:=heap2_of hw1;have i2:=row_of g0 2 cv rfl;have j2:=row_of g1 2 dv rfl;have i3:=row_of g0 3 (.int .i64 x.line) rfl;have i4:=row_of g0 4 (.int .i64 x.col) rfl;have j3:=row_of g1 3 (.int .i64 y.line) rfl;have j4:=row_of g1 4 (.int .i64 y.col) rfl;have HBW:=hid hbw;clear g0 g1 hbw)|(go_at_call 45;refine (equalInstrs cv dv x.code y.code _ (HC.out.keep HBW.out) (GC.out.keep HBW.out)).mono ?_;rintro e w2 ⟨rfl,hw2⟩;have k3:=cell_keep hw2 i3;have k4:=cell_keep hw2 i4;have m3:=cell_keep hw2 j3;have m4:=cell_keep hw2 j4))
  go_ret
  exact⟨by rw[HV.out];rfl,by repeat (first|exact hb0.out|exact Below.refl _ _|refine bcomp' (by assumption) ?_)⟩
 by_cases h3:x.line=y.line
 ·by_cases h3':x.col=y.col
  ·have HV:Hid (eqFunc x y=true):=by show _=_;simp[eqFunc,h0,h1,h2,h3,h3']
   have H5:=hid h3
   have H6:=hid h3'
   clear h3 h3'
   go_enter Tryd.func79,Tryd.ntmps79
   go_wp2_with (first|(go_at_call 22;refine HA.out.mono ?_;rintro e w1 ⟨rfl,hw1⟩;obtain⟨g0,g1,hbw⟩:=heap2_of hw1;have i2:=row_of g0 2 cv rfl;have j2:=row_of g1 2 dv rfl;have i3:=row_of g0 3 (.int .i64 x.line) rfl;have i4:=row_of g0 4 (.int .i64 x.col) rfl;have j3:=row_of g1 3 (.int .i64 y.line) rfl;have j4:=row_of g1 4 (.int .i64 y.col) rfl;have HBW:=hid hbw;clear g0 g1 hbw)|(go_at_call 45;refine (equalInstrs cv dv x.code y.code _ (HC.out.keep HBW.out) (GC.out.keep HBW.out)).mono ?_;rintro e w2 ⟨rfl,hw2⟩;have k3:=cell_keep hw2 i3;have k4:=cell_keep hw2 i4;have m3:=cell_keep hw2 j3;have m4:=cell_keep hw2 j4;have q5:=H5.out;have q6:=H6.out))
   go_ret
   exact⟨by rw[HV.out];rfl,by repeat (first|exact hb0.out|exact Below.refl _ _|refine bcomp' (by assumption) ?_)⟩
  ·have HV:Hid (eqFunc x y=false):=by show _=_;simp[eqFunc,h0,h1,h2,h3,h3']
   have H5:=hid h3
   have H6:=hid h3'
   clear h3 h3'
   go_enter Tryd.func79,Tryd.ntmps79
   go_wp2_with (first|(go_at_call 22;refine HA.out.mono ?_;rintro e w1 ⟨rfl,hw1⟩;obtain⟨g0,g1,hbw⟩:=heap2_of hw1;have i2:=row_of g0 2 cv rfl;have j2:=row_of g1 2 dv rfl;have i3:=row_of g0 3 (.int .i64 x.line) rfl;have i4:=row_of g0 4 (.int .i64 x.col) rfl;have j3:=row_of g1 3 (.int .i64 y.line) rfl;have j4:=row_of g1 4 (.int .i64 y.col) rfl;have HBW:=hid hbw;clear g0 g1 hbw)|(go_at_call 45;refine (equalInstrs cv dv x.code y.code _ (HC.out.keep HBW.out) (GC.out.keep HBW.out)).mono ?_;rintro e w2 ⟨rfl,hw2⟩;have k3:=cell_keep hw2 i3;have k4:=cell_keep hw2 i4;have m3:=cell_keep hw2 j3;have m4:=cell_keep hw2 j4;have q5:=H5.out;have q6:=H6.out))
   go_ret
   exact⟨by rw[HV.out];rfl,by repeat (first|exact hb0.out|exact Below.refl _ _|refine bcomp' (by assumption) ?_)⟩
 ·have HV:Hid (eqFunc x y=false):=by show _=_;simp[eqFunc,h0,h1,h2,h3]
  go_enter Tryd.func79,Tryd.ntmps79
  go_wp2_with (first|(go_at_call 22;refine HA.out.mono ?_;rintro e w1 ⟨rfl,hw1⟩;obtain⟨g0,g1,hbw⟩:=heap2_of hw1;have i2:=row_of g0 2 cv rfl;have j2:=row_of g1 2 dv rfl;have i3:=row_of g0 3 (.int .i64 x.line) rfl;have i4:=row_of g0 4 (.int .i64 x.col) rfl;have j3:=row_of g1 3 (.int .i64 y.line) rfl;have j4:=row_of g1 4 (.int .i64 y.col) rfl;have HBW:=hid hbw;clear g0 g1 hbw)|(go_at_call 45;refine (equalInstrs cv dv x.code y.code _ (HC.out.keep HBW.out) (GC.out.keep HBW.out)).mono ?_;rintro e w2 ⟨rfl,hw2⟩;have k3:=cell_keep hw2 i3;have k4:=cell_keep hw2 i4;have m3:=cell_keep hw2 j3;have m4:=cell_keep hw2 j4))
  go_ret
  exact⟨by rw[HV.out];rfl,by repeat (first|exact hb0.out|exact Below.refl _ _|refine bcomp' (by assumption) ?_)⟩
theorem equalFuncs (av bv:Value) (l m:List FuncD) (w:World) (h:RdFuncs none w av l) (g:RdFuncs none w bv m) :
  Calls Tryd.prog 44 #[av,bv] w fun e w'=>e=.returned (.bool (eqL eqFunc l m))∧Below w.heap.size w w':=by
 obtain⟨a,c,rfl,hl,hr⟩:=h
 obtain⟨a2,c2,rfl,hl2,gr⟩:=g
 have HR:=hid hr
 have GR:=hid gr
 clear hr gr
 by_cases hlen:l.length=m.length
 ·have he:((l.length:Int) != (m.length:Int))=false:=by rw[hlen];simp
  have HL:=hid hlen
  clear hlen
  go_enter Tryd.func44,Tryd.ntmps44
  go_wp2
  go_loopw [5] (fun i wr=>∃ k:Nat,k≤l.length∧i=.int .i64 k∧Hid (∀ (j:Nat) x y,j<k→l[j]?=some x→m[j]?=some y→eqFunc x y=true)∧Below w.heap.size w wr) (fun i _=>l.length-(intOf i).toNat)
  case atStart=>exact⟨0,Nat.zero_le _,rfl,(fun j x y h=>by omega),Below.refl _ _⟩
  case round=>
   obtain⟨k,hk,rfl,hq,hb⟩:=hrel
   by_cases hlt:k<l.length
   ·have hlt2:k<m.length:=by rw[← HL.out];exact hlt
    obtain⟨x,hx⟩:∃ x,l[k]?=some x:=⟨_,lgPlo hlt⟩
    obtain⟨y,hy⟩:∃ y,m[k]?=some y:=⟨_,lgPlo hlt2⟩
    obtain⟨b,o,xpv,xcv,rfl,_,c0,c1,c2,c3,c4,hrx⟩:=HR.out k x hx
    obtain⟨b2,o2,ypv,ycv,rfl,_,d0,d1,d2,d3,d4,hry⟩:=GR.out k y hy
    have c0':=cell_keepB hb c0 (block_lt_of_cell c0)
    have d0':=cell_keepB hb d0 (block_lt_of_cell d0)
    have c1':=cell_keepB hb c1 (block_lt_of_cell c1)
    have d1':=cell_keepB hb d1 (block_lt_of_cell d1)
    have c2':=cell_keepB hb c2 (block_lt_of_cell c2)
    have d2':=cell_keepB hb d2 (block_lt_of_cell d2)
    have c3':=cell_keepB hb c3 (block_lt_of_cell c3)
    have d3':=cell_keepB hb d3 (block_lt_of_cell d3)
    have c4':=cell_keepB hb c4 (block_lt_of_cell c4)
    have d4':=cell_keepB hb d4 (block_lt_of_cell d4)
    have HX:=hid (And.intro hx hy)
    have HRX:=hid (hrx.keep hb)
    have HRY:=hid (hry.keep hb)
    have hi1:(k:Int)<(l.length:Int):=by omega
    have hi2:(k:Int)<(m.length:Int):=by omega
    clear c0 d0 c1 d1 c2 d2 c3 d3 c4 d4 hx hy hrx hry
    go_wp2_with fail
    have hS:Below wr.heap.size wr wr.drew:=(Below.refl _ _).drew
    refine wp_region_plan (fun w'=>Below wr.heap.size wr w') (fun _=>false) [(0,true),(1,true),(2,true),(3,true),(4,true),(5,true),(6,true),(7,true),(8,false),(9,false)] (by kernel_rfl) (by kernel_rfl) rfl (by kernel_rfl) (fun _ d _ _ _ h=>by cases d <;> exact h) ?_
    refine⟨.slice (some ⟨b,o,none⟩) l.length c,_,rfl,.inl ⟨rfl,fun w' hw=>by go_simp⟩,hS,?_⟩
    refine⟨.int .i64 k,_,rfl,.inl ⟨rfl,fun w' hw=>by go_simp⟩,hS,?_⟩
    refine⟨.pointer (some ⟨b,o+k*5,none⟩),_,rfl,.inl ⟨rfl,fun w' hw=>by go_simp⟩,hS,?_⟩
    refine⟨.agg #[.string x.name,xpv,xcv,.int .i64 x.line,.int .i64 x.col],_,rfl,.inl ⟨rfl,fun w' hw=>by have e0:=cell_keep hw c0';have e1:=cell_keep hw c1';have e2:=cell_keep hw c2';have e3:=cell_keep hw c3';have e4:=cell_keep hw c4';go_simp⟩,hS,?_⟩
    refine⟨.slice (some ⟨b2,o2,none⟩) m.length c2,_,rfl,.inl ⟨rfl,fun w' hw=>by go_simp⟩,hS,?_⟩
    refine⟨.int .i64 k,_,rfl,.inl ⟨rfl,fun w' hw=>by go_simp⟩,hS,?_⟩
    refine⟨.pointer (some ⟨b2,o2+k*5,none⟩),_,rfl,.inl ⟨rfl,fun w' hw=>by go_simp⟩,hS,?_⟩
    refine⟨.agg #[.string y.name,ypv,ycv,.int .i64 y.line,.int .i64 y.col],_,rfl,.inl ⟨rfl,fun w' hw=>by have e0:=cell_keep hw d0';have e1:=cell_keep hw d1';have e2:=cell_keep hw d2';have e3:=cell_keep hw d3';have e4:=cell_keep hw d4';go_simp⟩,hS,?_⟩
    cases hv:eqFunc x y
    all_goals
     have HV:=hid hv
     refine plan_step rfl ?_
     go_wp2_with (go_at_call 79;refine (equalFunc x y xpv xcv ypv ycv _ (HRX.out.keep hS) (HRY.out.keep hS)).mono ?_;rintro e w1 ⟨rfl,hb1⟩)
     have hS1:Below wr.heap.size wr w1:=hS.trans hb1
     refine⟨fun _=>hS1,?_⟩
     refine plan_step rfl ?_
     go_wp2
     refine⟨hS1,plan_nil ?_⟩
     clear hS hb1 hv
     have hb1:=bcomp hb hS1
     clear hS1
    ·go_wp2
     go_ret
     exact⟨by rw[eqL_miss eqFunc l m k x y HX.out.1 HX.out.2 HV.out];rfl,hb1⟩
    ·go_wp2
     go_roundw
     case rel=>
      refine⟨k+1,by omega,by go_num,?_,hb1⟩
      intro j x' y' hj g1 g2
      rcases Nat.lt_or_ge j k with h|h
      ·exact hq.out j x' y' h g1 g2
      ·obtain rfl:j=k:=by omega
       rw[HX.out.1] at g1;rw[HX.out.2] at g2
       cases g1;cases g2;exact HV.out
     case measure=>simp[intOf];omega
   ·obtain rfl:k=l.length:=by omega
    go_wp2
    go_ret
    refine⟨?_,hb⟩
    rw[eqL_all eqFunc l m HL.out (fun j x y g1 g2=>hq.out j x y (List.getElem?_eq_some_iff.1 g1).1 g1 g2)];rfl
 ·have he:((l.length:Int) != (m.length:Int))=true:=by rw[bne_iff_ne];omega
  have HL:=hid (eqL_len eqFunc l m hlen)
  clear hlen
  go_enter Tryd.func44,Tryd.ntmps44
  go_wp2
  go_ret
  exact⟨by rw[HL.out];rfl,Below.refl _ _⟩
theorem equalProg (x y:ProgD) (cv av fv mv cu au fu mu:Value) (w:World) (h:RdProg none w x cv av fv mv) (g:RdProg none w y cu au fu mu) :
  Calls Tryd.prog 14 #[progV x cv av fv mv,progV y cu au fu mu] w fun e w'=>e=.returned (.bool (eqProg x y))∧Below w.heap.size w w':=by
 have hb0:Hid (Below w.heap.size w ((w.alloc (.cells #[.int .i64 x.width,cv,av,fv,mv] 27)).alloc (.cells #[.int .i64 y.width,cu,au,fu,mu] 27))):=(((Below.refl _ _).alloc (Nat.le_refl _) _).alloc (by simp) _)
 obtain⟨h1,h2,h3,h4,_⟩:=h
 obtain⟨g1,g2,g3,g4,_⟩:=g
 have HA:=hid (equalStrs cv cu x.chans y.chans _ (h1.keep hb0.out) (g1.keep hb0.out))
 have H2:=hid h2
 have G2:=hid g2
 have H3:=hid h3
 have G3:=hid g3
 have H4:=hid h4
 have G4:=hid g4
 clear h1 g1 h2 g2 h3 g3 h4 g4
 cases h0:(x.width==y.width)
 ·have HV:Hid (eqProg x y=false):=by show _=_;simp[eqProg,h0]
  go_enter Tryd.func14,Tryd.ntmps14
  go_wp2_with (first|(go_at_call 22;refine HA.out.mono ?_;rintro e w1 ⟨rfl,hw1⟩;obtain⟨g0,g1,hbw⟩:=heap2_of hw1;have i2:=row_of g0 2 av rfl;have j2:=row_of g1 2 au rfl;have i3:=row_of g0 3 fv rfl;have j3:=row_of g1 3 fu rfl;have i4:=row_of g0 4 mv rfl;have j4:=row_of g1 4 mu rfl;have HB1:=hid hbw;clear g0 g1 hbw)|(go_at_call 43;refine (equalArrs av au x.arrays y.arrays _ (H2.out.keep HB1.out) (G2.out.keep HB1.out)).mono ?_;rintro e w2 ⟨rfl,hw2⟩;have k3:=cell_keep hw2 i3;have l3:=cell_keep hw2 j3;have k4:=cell_keep hw2 i4;have l4:=cell_keep hw2 j4;have HB2:=hid (bcomp HB1.out hw2))|(go_at_call 44;refine (equalFuncs fv fu x.funcs y.funcs _ (H3.out.keep HB2.out) (G3.out.keep HB2.out)).mono ?_;rintro e w3 ⟨rfl,hw3⟩;have n4:=cell_keep hw3 k4;have o4:=cell_keep hw3 l4;have HB3:=hid (bcomp HB2.out hw3))|(go_at_call 45;refine (equalInstrs mv mu x.main y.main _ (H4.out.keep HB3.out) (G4.out.keep HB3.out)).mono ?_;rintro e w4 ⟨rfl,hw4⟩;have HB4:=hid (bcomp HB3.out hw4)))
  go_ret
  exact⟨by rw[HV.out];rfl,hb0.out⟩
 cases h1:(eqL eqS x.chans y.chans)
 ·have HV:Hid (eqProg x y=false):=by show _=_;simp[eqProg,h0,h1]
  go_enter Tryd.func14,Tryd.ntmps14
  go_wp2_with (first|(go_at_call 22;refine HA.out.mono ?_;rintro e w1 ⟨rfl,hw1⟩;obtain⟨g0,g1,hbw⟩:=heap2_of hw1;have i2:=row_of g0 2 av rfl;have j2:=row_of g1 2 au rfl;have i3:=row_of g0 3 fv rfl;have j3:=row_of g1 3 fu rfl;have i4:=row_of g0 4 mv rfl;have j4:=row_of g1 4 mu rfl;have HB1:=hid hbw;clear g0 g1 hbw)|(go_at_call 43;refine (equalArrs av au x.arrays y.arrays _ (H2.out.keep HB1.out) (G2.out.keep HB1.out)).mono ?_;rintro e w2 ⟨rfl,hw2⟩;have k3:=cell_keep hw2 i3;have l3:=cell_keep hw2 j3;have k4:=cell_keep hw2 i4;have l4:=cell_keep hw2 j4;have HB2:=hid (bcomp HB1.out hw2))|(go_at_call 44;refine (equalFuncs fv fu x.funcs y.funcs _ (H3.out.keep HB2.out) (G3.out.keep HB2.out)).mono ?_;rintro e w3 ⟨rfl,hw3⟩;have n4:=cell_keep hw3 k4;have o4:=cell_keep hw3 l4;have HB3:=hid (bcomp HB2.out hw3))|(go_at_call 45;refine (equalInstrs mv mu x.main y.main _ (H4.out.keep HB3.out) (G4.out.keep HB3.out)).mono ?_;rintro e w4 ⟨rfl,hw4⟩;have HB4:=hid (bcomp HB3.out hw4)))
  go_ret
  exact⟨by rw[HV.out];rfl,HB1.out⟩
 cases h2:(eqL eqArr x.arrays y.arrays)
 ·have HV:Hid (eqProg x y=false):=by show _=_;simp[eqProg,h0,h1,h2]
  go_enter Tryd.func14,Tryd.ntmps14
  go_wp2_with (first|(go_at_call 22;refine HA.out.mono ?_;rintro e w1 ⟨rfl,hw1⟩;obtain⟨g0,g1,hbw⟩:=heap2_of hw1;have i2:=row_of g0 2 av rfl;have j2:=row_of g1 2 au rfl;have i3:=row_of g0 3 fv rfl;have j3:=row_of g1 3 fu rfl;have i4:=row_of g0 4 mv rfl;have j4:=row_of g1 4 mu rfl;have HB1:=hid hbw;clear g0 g1 hbw)|(go_at_call 43;refine (equalArrs av au x.arrays y.arrays _ (H2.out.keep HB1.out) (G2.out.keep HB1.out)).mono ?_;rintro e w2 ⟨rfl,hw2⟩;have k3:=cell_keep hw2 i3;have l3:=cell_keep hw2 j3;have k4:=cell_keep hw2 i4;have l4:=cell_keep hw2 j4;have HB2:=hid (bcomp HB1.out hw2))|(go_at_call 44;refine (equalFuncs fv fu x.funcs y.funcs _ (H3.out.keep HB2.out) (G3.out.keep HB2.out)).mono ?_;rintro e w3 ⟨rfl,hw3⟩;have n4:=cell_keep hw3 k4;have o4:=cell_keep hw3 l4;have HB3:=hid (bcomp HB2.out hw3))|(go_at_call 45;refine (equalInstrs mv mu x.main y.main _ (H4.out.keep HB3.out) (G4.out.keep HB3.out)).mono ?_;rintro e w4 ⟨rfl,hw4⟩;have HB4:=hid (bcomp HB3.out hw4)))
  go_ret
  exact⟨by rw[HV.out];rfl,HB2.out⟩
 cases h3:(eqL eqFunc x.funcs y.funcs)
 ·have HV:Hid (eqProg x y=false):=by show _=_;simp[eqProg,h0,h1,h2,h3]
  go_enter Tryd.func14,Tryd.ntmps14
  go_wp2_with (first|(go_at_call 22;refine HA.out.mono ?_;rintro e w1 ⟨rfl,hw1⟩;obtain⟨g0,g1,hbw⟩:=heap2_of hw1;have i2:=row_of g0 2 av rfl;have j2:=row_of g1 2 au rfl;have i3:=row_of g0 3 fv rfl;have j3:=row_of g1 3 fu rfl;have i4:=row_of g0 4 mv rfl;have j4:=row_of g1 4 mu rfl;have HB1:=hid hbw;clear g0 g1 hbw)|(go_at_call 43;refine (equalArrs av au x.arrays y.arrays _ (H2.out.keep HB1.out) (G2.out.keep HB1.out)).mono ?_;rintro e w2 ⟨rfl,hw2⟩;have k3:=cell_keep hw2 i3;have l3:=cell_keep hw2 j3;have k4:=cell_keep hw2 i4;have l4:=cell_keep hw2 j4;have HB2:=hid (bcomp HB1.out hw2))|(go_at_call 44;refine (equalFuncs fv fu x.funcs y.funcs _ (H3.out.keep HB2.out) (G3.out.keep HB2.out)).mono ?_;rintro e w3 ⟨rfl,hw3⟩;have n4:=cell_keep hw3 k4;have o4:=cell_keep hw3 l4;have HB3:=hid (bcomp HB2.out hw3))|(go_at_call 45;refine (equalInstrs mv mu x.main y.main _ (H4.out.keep HB3.out) (G4.out.keep HB3.out)).mono ?_;rintro e w4 ⟨rfl,hw4⟩;have HB4:=hid (bcomp HB3.out hw4)))
  go_ret
  exact⟨by rw[HV.out];rfl,HB3.out⟩
 cases h4:(eqL eqInstr x.main y.main)
 ·have HV:Hid (eqProg x y=false):=by show _=_;simp[eqProg,h0,h1,h2,h3,h4]
  go_enter Tryd.func14,Tryd.ntmps14
  go_wp2_with (first|(go_at_call 22;refine HA.out.mono ?_;rintro e w1 ⟨rfl,hw1⟩;obtain⟨g0,g1,hbw⟩:=heap2_of hw1;have i2:=row_of g0 2 av rfl;have j2:=row_of g1 2 au rfl;have i3:=row_of g0 3 fv rfl;have j3:=row_of g1 3 fu rfl;have i4:=row_of g0 4 mv rfl;have j4:=row_of g1 4 mu rfl;have HB1:=hid hbw;clear g0 g1 hbw)|(go_at_call 43;refine (equalArrs av au x.arrays y.arrays _ (H2.out.keep HB1.out) (G2.out.keep HB1.out)).mono ?_;rintro e w2 ⟨rfl,hw2⟩;have k3:=cell_keep hw2 i3;have l3:=cell_keep hw2 j3;have k4:=cell_keep hw2 i4;have l4:=cell_keep hw2 j4;have HB2:=hid (bcomp HB1.out hw2))|(go_at_call 44;refine (equalFuncs fv fu x.funcs y.funcs _ (H3.out.keep HB2.out) (G3.out.keep HB2.out)).mono ?_;rintro e w3 ⟨rfl,hw3⟩;have n4:=cell_keep hw3 k4;have o4:=cell_keep hw3 l4;have HB3:=hid (bcomp HB2.out hw3))|(go_at_call 45;refine (equalInstrs mv mu x.main y.main _ (H4.out.keep HB3.out) (G4.out.keep HB3.out)).mono ?_;rintro e w4 ⟨rfl,hw4⟩;have HB4:=hid (bcomp HB3.out hw4)))
  go_ret
  exact⟨by rw[HV.out];rfl,HB4.out⟩
 have HV:Hid (eqProg x y=true):=by show _=_;simp[eqProg,h0,h1,h2,h3,h4]
 go_enter Tryd.func14,Tryd.ntmps14
 go_wp2_with (first|(go_at_call 22;refine HA.out.mono ?_;rintro e w1 ⟨rfl,hw1⟩;obtain⟨g0,g1,hbw⟩:=heap2_of hw1;have i2:=row_of g0 2 av rfl;have j2:=row_of g1 2 au rfl;have i3:=row_of g0 3 fv rfl;have j3:=row_of g1 3 fu rfl;have i4:=row_of g0 4 mv rfl;have j4:=row_of g1 4 mu rfl;have HB1:=hid hbw;clear g0 g1 hbw)|(go_at_call 43;refine (equalArrs av au x.arrays y.arrays _ (H2.out.keep HB1.out) (G2.out.keep HB1.out)).mono ?_;rintro e w2 ⟨rfl,hw2⟩;have k3:=cell_keep hw2 i3;have l3:=cell_keep hw2 j3;have k4:=cell_keep hw2 i4;have l4:=cell_keep hw2 j4;have HB2:=hid (bcomp HB1.out hw2))|(go_at_call 44;refine (equalFuncs fv fu x.funcs y.funcs _ (H3.out.keep HB2.out) (G3.out.keep HB2.out)).mono ?_;rintro e w3 ⟨rfl,hw3⟩;have n4:=cell_keep hw3 k4;have o4:=cell_keep hw3 l4;have HB3:=hid (bcomp HB2.out hw3))|(go_at_call 45;refine (equalInstrs mv mu x.main y.main _ (H4.out.keep HB3.out) (G4.out.keep HB3.out)).mono ?_;rintro e w4 ⟨rfl,hw4⟩;have HB4:=hid (bcomp HB3.out hw4)))
 go_ret
 exact⟨by rw[HV.out];rfl,HB4.out⟩
theorem eqL_refl {α:Type} {f:α→α→Bool} (hf:∀ x,f x x=true) (l:List α):eqL f l l=true:=
 eqL_all f l l rfl fun k x y h1 h2=>by rw[h1] at h2;cases h2;exact hf x
theorem eqS_refl (x:ByteArray):eqS x x=true:=by simp[eqS]
theorem eqArr_refl (x:ArrD):eqArr x x=true:=by simp[eqArr]
theorem eqArg_refl (x:ArgD):eqArg x x=true:=by simp[eqArg]
theorem eqInstr_refl (x:InstrD):eqInstr x x=true:=by simp[eqInstr,eqL_refl eqArg_refl]
theorem eqFunc_refl (x:FuncD):eqFunc x x=true:=by simp[eqFunc,eqL_refl eqS_refl,eqL_refl eqInstr_refl]
theorem eqProg_refl (x:ProgD):eqProg x x=true:=by simp[eqProg,eqL_refl eqS_refl,eqL_refl eqArr_refl,eqL_refl eqFunc_refl,eqL_refl eqInstr_refl]
theorem few_codes (l:List FuncD) (h:∀ f∈l,f.code.length≤30):(codesOf l).length≤30*l.length:=by
 induction l with
 | nil=>simp[codesOf]
 | cons x l ih=>
  have h1:=ih fun f hf=>h f (List.mem_cons_of_mem _ hf)
  have h2:=h x (List.mem_cons_self ..)
  have e:codesOf (x :: l)=x.code++codesOf l:=by simp[codesOf]
  rw[e,List.length_append,List.length_cons]
  omega
theorem few_size (p:ProgD):(codesOf (fewP p).funcs).length+(fewP p).main.length≤100000:=by
 have h1:(fewP p).funcs.length≤5:=by simp[fewP];omega
 have h2:=few_codes (fewP p).funcs fun f hf=>by
  simp only[fewP,List.mem_map] at hf
  obtain⟨g,_,rfl⟩:=hf
  simp[fewFn,fewL];omega
 have h3:(fewP p).main.length≤30:=by simp[fewP,fewL];omega
 omega
def lnL (x:InstrD) (k:Nat):List ByteArray:=x.dst :: (x.args.take k).map (·.name)
theorem lnL_len {x:InstrD} {k:Nat} (h:k≤x.args.length):(lnL x k).length=k+1:=by simp[lnL];omega
theorem lnL_snoc {x:InstrD} {k:Nat} {y:ArgD} (h:x.args[k]?=some y):lnL x (k+1)=lnL x k++[y.name]:=by unfold lnL;rw[List.take_add_one,h];simp
def addsL (ps l out:List ByteArray):List ByteArray:=l.foldl (addF ps) out
theorem addsL_all (ps out:List ByteArray) (x:InstrD):addsL ps (lnL x x.args.length) out=argsL ps x.args (addF ps out x.dst):=by
 unfold addsL lnL argsL
 rw[List.take_length,List.foldl_cons,List.foldl_map]
theorem addsL_step {ps l out:List ByteArray} {k:Nat} {s:ByteArray} (h:l[k]?=some s):addsL ps (l.take (k+1)) out=addF ps (addsL ps (l.take k) out) s:=by
 unfold addsL;rw[List.take_add_one,h,List.foldl_append];rfl
theorem addsL_len (ps:List ByteArray):∀ (l out:List ByteArray),(addsL ps l out).length≤out.length+l.length
 | [],out=>by simp[addsL]
 | a :: r,out=>by
  have h1:=addsL_len ps r (addF ps out a)
  have h2:=addF_len ps out a
  show (addsL ps r (addF ps out a)).length≤_
  simp only[List.length_cons]
  omega
theorem own_blk {w:World} {base:Nat} {l:List ByteArray} {v:Value} {n:Nat} (h:w.ownsRow base 9 1 v n (l.flatMap strCells)) (hn:0<n) :
  ∃ g c cur,v=.slice (some ⟨g,0,none⟩) n c∧base≤g∧w.heap[g]?=some (.cells cur 9 (0,0))∧∀ w':World,w'.heap[g]?=some (.cells cur 9 (0,0))→∀ j s,l[j]?=some s→w'.cell? ⟨g,j,none⟩=some (.string s):=by
 obtain⟨hl,⟨_,h2⟩|⟨g,cap,cur,rfl,hg,hb,_,_,_,ht⟩⟩:=h
 ·omega
 ·refine⟨g,cap,cur,rfl,hg,hb,fun w' hw j s hj=>?_⟩
  refine row_of hw j _ ?_
  have hj2:(l.flatMap strCells)[j]?=some (.string s):=by
   have:=flat_get strCells 1 (fun _=>rfl) l j 0 s hj (by omega)
   simpa[strCells] using this
  rw[← ht,List.getElem?_take] at hj2
  split at hj2
  ·rw[← Array.getElem?_toList];exact hj2
  ·cases hj2
theorem res_locs (tmps:Array Value) (W:World) (v:Value) (e:Int) (h4:tmps.getD 4 undef=v) (h5:tmps.getD 5 undef=.int .i64 e) :
  (results Tryd.f38 tmps).run Tryd.prog W=.ok (.tuple #[v,.int .i64 e]) W:=by
 rw[Array.getD_eq_getD_getElem?] at h4 h5
 simp[results,Tryd.results38,go_sem,h4,h5]
theorem body_sizes {p:ProgD} (h:checkF p=none) (f:Int):(bodyF p f).2.length≤1024∧∀ x∈(bodyF p f).2,x.args.length≤32:=by
 have HN:=check_none h
 unfold bodyF
 split
 ·exact HN.1
 ·split
  ·rename_i x hx
   exact (HN.2 x (List.mem_of_getElem? hx)).2
  ·simp
theorem refLocals (p:ProgD) (cv av fv mv:Value) (f:Int) (w:World) (h:RdProg none w p cv av fv mv) (hN:(codesOf p.funcs).length+p.main.length≤100000) (hf:InI64 f) :
  Calls Tryd.prog 38 #[progV p cv av fv mv,.int .i64 f] w fun e w'=>∃ v,e=.returned (.tuple #[v,.int .i64 (localsF p f).2])∧RdStrs (some (upFrom w.heap.size)) w' v (localsF p f).1∧Below w.heap.size w w':=by
 obtain⟨hrc,hra,hrf,hrm,hrw⟩:=id h
 obtain⟨ac,kc,rfl,-,-⟩:=id hrc
 obtain⟨aa,ka,rfl,-,-⟩:=id hra
 obtain⟨af,kf,rfl,-,hrfs⟩:=id hrf
 obtain⟨am,km,rfl,-,-⟩:=id hrm
 obtain⟨i0,hj,hz0,hz1,hz2⟩:=info_parts infoStr
 have H:=hid h
 have HN:=hid hN
 have HRF:=hid hrfs
 have HRM:=hid hrm
 clear h hrc hra hrf hrm hrw hrfs hN
 go_enter Tryd.func38,Tryd.ntmps38
 go_upto_region 1 with fail
 have hb1:=(Below.refl w.heap.size w).alloc (Nat.le_refl _) (.cells #[.int .i64 p.width,.slice ac p.chans.length kc,.slice aa p.arrays.length ka,.slice af p.funcs.length kf,.slice am p.main.length km] 27)
 have q0:=heap_alloc_new w (.cells #[.int .i64 p.width,.slice ac p.chans.length kc,.slice aa p.arrays.length ka,.slice af p.funcs.length kf,.slice am p.main.length km] 27)
 generalize w.alloc (.cells #[.int .i64 p.width,.slice ac p.chans.length kc,.slice aa p.arrays.length ka,.slice af p.funcs.length kf,.slice am p.main.length km] 27)=W at *
 have b0:=row_of q0 0 (.int .i64 p.width) rfl
 have b1:=row_of q0 1 (.slice ac p.chans.length kc) rfl
 have b2:=row_of q0 2 (.slice aa p.arrays.length ka) rfl
 have b3:=row_of q0 3 (.slice af p.funcs.length kf) rfl
 have b4:=row_of q0 4 (.slice am p.main.length km) rfl
 have HB1:=hid hb1
 have HRD:=hid (H.out.keep hb1)
 clear hb1 q0
 have c1:=refCheck p _ _ _ _ _ HRD.out (by have:=HN.out;omega)
 cases hc:checkF p with
 | some F=>
  rw[hc,refV_some] at c1
  have hF:=check_fault hc
  have hne:(F.e != 0)=true:=by have:=hF.1;simp;omega
  have HC:=hid c1
  have HV:Hid (localsF p f=([],F.e)):=by show _=_;unfold localsF;rw[hc]
  clear c1 hc hF
  go_upto_region 2 with (go_at_call 36;refine HC.out.mono ?_;rintro e w1 ⟨rfl,hb2⟩)
  clear b0 b1 b2 b3 b4
  go_wp2_with fail
  refine bodyPost_ret (res_locs _ _ (.slice none 0 0) F.e rfl rfl) rfl ⟨_,by rw[HV.out],by rw[HV.out];exact rdStrs_nil _ _,?_⟩
  exact (bcomp HB1.out hb2).alloc (by have:=HB1.out.size;have:=hb2.size;omega) _
 | none=>
  rw[hc,refV_none] at c1
  have HSZ:=hid (body_sizes hc f)
  have HC:=hid c1
  have HCF:=hid hc
  clear c1 hc
  go_upto_region 2 with (go_at_call 36;refine HC.out.mono ?_;rintro e w1 ⟨rfl,hb2⟩)
  go_upto_region 4 with fail
  have hb3:=hb2.alloc hb2.size (.cells #[.int .i64 0,.int .i64 0] 50)
  generalize w1.alloc (.cells #[.int .i64 0,.int .i64 0] 50)=W2 at *
  have HB3:=hid (bcomp HB1.out hb3)
  have d3:=cell_keep hb3 b3
  have d4:=cell_keep hb3 b4
  clear b0 b1 b2 b3 b4 hb2 hb3
  have hrange:(f < -1) ∨ (¬ f < -1∧(p.funcs.length:Int)≤f) ∨ (¬ f < -1∧¬ (p.funcs.length:Int)≤f):=by omega
  rcases hrange with h1|⟨h1,h2⟩|⟨h1,h2⟩
  ·have HV:Hid (localsF p f=([],3)):=by show _=_;unfold localsF;rw[HCF.out];simp only;rw[if_pos (.inl h1)]
   go_wp2_with fail
   exact bodyPost_ret (res_locs _ _ (.slice none 0 0) 3 rfl rfl) rfl ⟨_,by rw[HV.out],by rw[HV.out];exact rdStrs_nil _ _,HB3.out⟩
  ·have HV:Hid (localsF p f=([],3)):=by show _=_;unfold localsF;rw[HCF.out];simp only;rw[if_pos (.inr h2)]
   go_wp2_with fail
   exact bodyPost_ret (res_locs _ _ (.slice none 0 0) 3 rfl rfl) rfl ⟨_,by rw[HV.out],by rw[HV.out];exact rdStrs_nil _ _,HB3.out⟩
  have HV:Hid (localsF p f=(localsL (bodyF p f).1 (bodyF p f).2 [],0)):=by show _=_;unfold localsF;rw[HCF.out];simp only;rw[if_neg (by omega)]
  have hge:w.heap.size≤W2.heap.size:=HB3.out.size
  go_upto_if 35 with fail
  go_cut [8,9] from 10 (fun cc pp wx=>RdInstrs none w cc (bodyF p f).2∧RdStrs none w pp (bodyF p f).1∧Below w.heap.size w wx)
  case first=>
   by_cases hneg:f<0
   ·obtain rfl:f=-1:=by omega
    go_wp2_with fail
    go_meet
    exact⟨HRM.out,rdStrs_nil _ _,HB3.out⟩
   obtain⟨k,rfl⟩:∃ k:Nat,f=k:=⟨f.toNat,by omega⟩
   have hk:k<p.funcs.length:=by omega
   obtain⟨fd,hfd⟩:∃ fd,p.funcs[k]?=some fd:=⟨_,lgPlo hk⟩
   have hbody:Hid (bodyF p k=(fd.params,fd.code)):=by show _=_;unfold bodyF;rw[if_neg (by omega)];simp[hfd]
   obtain⟨bf,of,pv,fv,rfl,_,-,e1,e2,-,-,hri⟩:=HRF.out k fd hfd
   have HPP:=hid hri.1
   have HCO:=hid hri.2.1
   have r1:=cell_keepB HB3.out e1 (block_lt_of_cell e1)
   have r2:=cell_keepB HB3.out e2 (block_lt_of_cell e2)
   have hklt:(k:Int)<(p.funcs.length:Int):=by omega
   clear e1 e2 hri hfd
   go_wp2_with fail
   go_quiet (fail)
   go_wp2_with fail
   go_meet
   exact⟨by rw[hbody.out];exact HCO.out,by rw[hbody.out];exact HPP.out,below_drewN HB3.out _⟩
  case rest=>
   obtain⟨hrd,hrp,hb⟩:=hcut
   obtain⟨acd,kcd,rfl,hcl,hcr⟩:=id hrd
   obtain⟨apd,kpd,rfl,-,-⟩:=id hrp
   have HPS:=hid hrp
   have HCR:=hid hcr
   have HB:=hid hb
   generalize bodyF p f=B at *
   obtain⟨ps,code⟩:=B
   have hlc:code.length≤1024:=HSZ.out.1
   simp only at HV HSZ HPS HCR ⊢
   clear hrd hrp hb hcl hcr d3 d4 HRM HRF HRD H HC HCF HB1 HB3
   go_wp2_with fail
   go_loopw [10,11,12,13,14] (fun ov ii _ _ _ wr=>∃ i:Nat,i≤code.length∧ii=.int .i64 i∧wr.ownsRow w.heap.size 9 1 ov (localsL ps (code.take i) []).length ((localsL ps (code.take i) []).flatMap strCells)∧(∀ s∈localsL ps (code.take i) [],s.size≤maxLen)∧Below w.heap.size w wr) (fun _ ii _ _ _ _=>code.length-(intOf ii).toNat)
   case atStart=>exact⟨0,Nat.zero_le _,rfl,World.ownsRow_nil _ _ _ _,(fun s hs=>nomatch hs),HB.out⟩
   case round=>
    obtain⟨wo,rfl⟩:∃ x:World,x=wr:=⟨_,rfl⟩
    obtain⟨i,hi,rfl,hown,hok,hb⟩:=hrel
    have hol:(localsL ps (code.take i) []).length≤33*i:=by
     have:=localsL_len ps (code.take i) [] (fun x hx=>HSZ.out.2 x (List.mem_of_mem_take hx))
     simp only[List.length_nil,List.length_take,Nat.zero_add] at this
     omega
    have HO:=hid hown
    have HOK:=hid hok
    clear HB
    have HB:=hid hb
    have hszo:=hb.size
    obtain⟨oa,oc,rfl,-⟩:=own_read hown
    clear hown hok hb
    by_cases hlt:i<code.length
    rotate_left
    ·obtain rfl:i=code.length:=by omega
     have hown:=HO.out
     have hok:=HOK.out
     rw[List.take_length] at *
     have hlt2:¬ ((code.length:Int)<(code.length:Int)):=by omega
     have HW:Hid (RdStrs (some (upFrom w.heap.size)) wo (.slice oa (localsL ps code []).length oc) (localsL ps code [])):=own_strs hown (by omega) hok
     clear hown hok HO HOK
     go_wp2_with fail
     exact bodyPost_ret (res_locs _ _ (.slice oa (localsL ps code []).length oc) 0 rfl rfl) rfl ⟨_,by rw[HV.out],by rw[HV.out];exact HW.out,HB.out⟩
    have hlt2:(i:Int)<(code.length:Int):=by omega
    obtain⟨x,hx⟩:∃ x,code[i]?=some x:=⟨_,lgPlo hlt⟩
    have HX:=hid hx
    have hxl:=HSZ.out.2 x (List.mem_of_getElem? hx)
    obtain⟨bx,ox,av2,rfl,-,-,-,i2,-,i4,-,-,hri⟩:=HCR.out i x hx
    obtain⟨aa2,ca2,rfl,-,har⟩:=id hri.1
    have HAR:=hid har
    have hds:=hri.2.2.2.2.2.1
    have k2:=cell_keepB HB.out i2 (block_lt_of_cell i2)
    have HK4:=hid (cell_keepB HB.out i4 (block_lt_of_cell i4))
    have k4:=HK4.out
    generalize hL0:localsL ps (code.take i) []=L0 at *
    have HL0:=hid hL0
    clear hx hri har i2 i4 hL0
    go_upto_region 14 with fail
    have hal:Below wo.heap.size wo (wo.alloc (.cells #[.string x.dst] 9)):=(Below.refl _ _).alloc (Nat.le_refl _) _
    have hone:=own_one wo wo.heap.size (.string x.dst) 9 (Nat.le_refl _)
    generalize wo.alloc (.cells #[.string x.dst] 9)=w1 at *
    have HB1:=hid hal
    have HN1:=hid hone
    have hs1:=hal.size
    clear hal hone k2 k4
    go_wp2_with fail
    go_loopw [12,13] (fun nv jj wr=>∃ m:Nat,m≤x.args.length∧jj=.int .i64 m∧wr.ownsRow wo.heap.size 9 1 nv (m+1) ((lnL x m).flatMap strCells)∧Below wo.heap.size wo wr) (fun _ jj _=>x.args.length-(intOf jj).toNat)
    case atStart=>exact⟨0,Nat.zero_le _,rfl,HN1.out,HB1.out⟩
    case round=>
     obtain⟨wi,rfl⟩:∃ x:World,x=wr:=⟨_,rfl⟩
     obtain⟨m,hm,rfl,hown,hb⟩:=hrel
     have k4:=cell_keep hb HK4.out
     have hszi:=hb.size
     have HBI:=hid hb
     by_cases hmt:m<x.args.length
     ·have hmt2:(m:Int)<(x.args.length:Int):=by omega
      obtain⟨y,hy⟩:∃ y,x.args[m]?=some y:=⟨_,lgPlo hmt⟩
      obtain⟨by',oy,rfl,-,z0,-,-,-⟩:=HAR.out m y hy
      have y0:=cell_keep hb (cell_keepB HB.out z0 (block_lt_of_cell z0))
      have HLX:Hid ((lnL x (m+1)).flatMap strCells=(lnL x m).flatMap strCells++strCells y.name):=by
       show _=_
       rw[lnL_snoc hy];simp
      clear z0 hy hb
      go_wp2_with (at_builtin;refine wpList_append_own _ rfl (.tmp 70) (.tmp 80) 22 rfl wo.heap.size 9 i0 (.string ⟨#[]⟩) 1 16 Tryd.underlying22 hj hz0 hz1 hz2 rfl (by decide) _ _ _ rfl (hown.alloc _) ⟨wi.heap.size,0,none⟩ 1 1 (strCells y.name) rfl rfl (many_new _ _ _) ?c2 ?c3 ?c4 ?c5 ?_)
      case c2=>intro u hu;simp[strCells] at hu;subst hu;rfl
      case c3=>unfold maxLen;omega
      case c4=>omega
      case c5=>simp;omega
      ·intro v' w2 hown' hgrow _
       rw[← HLX.out] at hown'
       have hb2:=(HBI.out.alloc hszi (.cells (strCells y.name).toArray 9)).grown hgrow (by simp;omega) (own_row_le hown)
       clear hown
       go_wp2_with fail
       go_roundw
       case rel=>exact⟨m+1,by omega,by go_num,hown',hb2⟩
       case measure=>simp[intOf];omega
     ·obtain rfl:m=x.args.length:=by omega
      have hmt2:¬ ((x.args.length:Int)<(x.args.length:Int)):=by omega
      obtain⟨gn,cn,cur,rfl,hgn,hgb,hcell⟩:=own_blk hown (by omega)
      have HCELL:=hid hcell
      have HGB:=hid hgb
      have HLN:Hid ((lnL x x.args.length).length=x.args.length+1):=lnL_len (Nat.le_refl _)
      have HLF:=hid (addsL_all ps L0 x)
      have HST:Hid (localsL ps (code.take (i+1)) []=addsL ps (lnL x x.args.length) L0):=by
       unfold Hid
       rw[localsL_step ps code [] i x HX.out,HL0.out,HLF.out]
      have HNO:Hid ((Value.slice oa L0.length oc).ownBlock≠some gn):=by
       intro e
       obtain⟨_,⟨e1,_⟩|⟨g,cap,cur',e1,_,hb',_⟩⟩:=HO.out
       ·rw[e1] at e;simp[Value.ownBlock] at e
       ·have:g<wo.heap.size:=(gsPlo hb')
        rw[e1] at e;simp[Value.ownBlock] at e;omega
      have HOI:=hid (own_below HO.out hb)
      have HBW:=hid (HB.out.trans (hb.mono hszo))
      have HNS:Hid (∀ s∈lnL x x.args.length,s.size≤maxLen):=by
       intro s hs
       unfold lnL at hs
       rcases List.mem_cons.1 hs with rfl|hs
       ·exact hds
       ·obtain⟨a,ha,rfl⟩:=List.mem_map.1 hs
        rw[List.take_length] at ha
        obtain⟨j,hj'⟩:=List.mem_iff_getElem?.1 ha
        obtain⟨_,_,_,_,_,_,_,hnz⟩:=HAR.out j a hj'
        exact hnz
      generalize lnL x x.args.length=NL at *
      clear hcell hgb hown hb HBI
      go_wp2_with fail
      clear k4
      go_loopw [10,14] (fun ov ll wr=>∃ l:Nat,l≤x.args.length+1∧ll=.int .i64 l∧wr.ownsRow w.heap.size 9 1 ov (addsL ps (NL.take l) L0).length ((addsL ps (NL.take l) L0).flatMap strCells)∧(∀ s∈addsL ps (NL.take l) L0,s.size≤maxLen)∧ov.ownBlock≠some gn∧wr.heap[gn]?=some (.cells cur 9 (0,0))∧Below w.heap.size w wr) (fun _ ll _=>x.args.length+1-(intOf ll).toNat)
      case atStart=>exact⟨0,Nat.zero_le _,rfl,HOI.out,HOK.out,HNO.out,HGB.out,HBW.out⟩
      case round=>
       obtain⟨l,hl,rfl,hown,hok,hno,hgb,hb⟩:=hrel
       have HOW:=hid hown
       have HOKK:=hid hok
       have HNB:=hid hno
       have HG:=hid hgb
       have HBR:=hid hb
       have hszr:=hb.size
       have hll:=addsL_len ps (NL.take l) L0
       rw[List.length_take,HLN.out,Nat.min_eq_left hl] at hll
       obtain⟨oa3,oc3,rfl,-⟩:=own_read hown
       clear hok hno hgb hb
       by_cases hlt3:l<x.args.length+1
       rotate_left
       ·obtain rfl:l=x.args.length+1:=by omega
        have hlt4:¬ ((x.args.length:Int)+1<(x.args.length:Int)+1):=by omega
        clear hown
        go_wp2_with fail
        have hte:NL.take (x.args.length+1)=NL:=by rw[← HLN.out,List.take_length]
        go_roundw
        case rel=>
         refine⟨i+1,by omega,by go_num,?_,?_,HBR.out⟩
         ·rw[HST.out];have:=HOW.out;rw[hte] at this ⊢;exact this
         ·rw[HST.out];have:=HOKK.out;rw[hte] at this;exact this
        case measure=>simp[intOf];omega
       have hlt4:(l:Int)<(x.args.length:Int)+1:=by omega
       obtain⟨s,hs⟩:∃ s,NL[l]?=some s:=⟨_,lgPlo (by rw[HLN.out];omega)⟩
       have n0:=HCELL.out _ HG.out l s hs
       have HADD:=hid (addsL_step (ps:=ps) (out:=L0) hs)
       have hsz:=HNS.out s (List.mem_of_getElem? hs)
       generalize hL1:addsL ps (NL.take l) L0=L1 at *
       clear hs hL1
       have hI1:=hid (refIs (.slice apd ps.length kpd) ps s wr (HPS.out.keep HBR.out))
       have hI2:=hid (refIs (.slice oa3 L1.length oc3) L1 s wr (own_strs HOW.out (by omega) HOKK.out).forget)
       cases hemp:s.toList.isEmpty
       rotate_left
       ·have HV1:Hid (addF ps L1 s=L1):=by show _=_;unfold addF;rw[hemp];rfl
        clear hown
        go_wp2_with fail
        go_roundw
        case rel=>exact⟨l+1,by omega,by go_num,by rw[HADD.out,HV1.out];exact HOW.out,by rw[HADD.out,HV1.out];exact HOKK.out,HNB.out,HG.out,HBR.out⟩
        case measure=>simp[intOf];omega
       cases hin1:inL s ps
       rotate_left
       ·have HV1:Hid (addF ps L1 s=L1):=by show _=_;unfold addF;rw[hemp,hin1];rfl
        rw[hin1] at hI1
        clear hown hin1 hI2
        go_wp2_with (go_at_call 73;with_reducible refine hI1.out.mono ?_;rintro e wz ⟨rfl,rfl⟩)
        go_roundw
        case rel=>exact⟨l+1,by omega,by go_num,by rw[HADD.out,HV1.out];exact HOW.out,by rw[HADD.out,HV1.out];exact HOKK.out,HNB.out,HG.out,HBR.out⟩
        case measure=>simp[intOf];omega
       cases hin2:inL s L1
       rotate_left
       ·have HV1:Hid (addF ps L1 s=L1):=by show _=_;unfold addF;rw[hemp,hin1,hin2];rfl
        rw[hin1] at hI1
        rw[hin2] at hI2
        clear hown hin1 hin2
        go_wp2_with (first
         | (go_at_call 73;with_reducible refine hI1.out.mono ?_;rintro e wz ⟨rfl,rfl⟩)
         | (go_at_call 73;with_reducible refine hI2.out.mono ?_;rintro e wz ⟨rfl,rfl⟩))
        go_roundw
        case rel=>exact⟨l+1,by omega,by go_num,by rw[HADD.out,HV1.out];exact HOW.out,by rw[HADD.out,HV1.out];exact HOKK.out,HNB.out,HG.out,HBR.out⟩
        case measure=>simp[intOf];omega
       have HV1:Hid (addF ps L1 s=L1++[s]):=by show _=_;unfold addF;rw[hemp,hin1,hin2];rfl
       rw[hin1] at hI1
       rw[hin2] at hI2
       clear hin1 hin2
       go_wp2_with (first
        | (go_at_call 73;with_reducible refine hI1.out.mono ?_;rintro e wz ⟨rfl,rfl⟩)
        | (go_at_call 73;with_reducible refine hI2.out.mono ?_;rintro e wz ⟨rfl,rfl⟩)
        | (at_builtin;refine wpList_append_own_at _ rfl (.tmp 111) (.tmp 116) 22 rfl w.heap.size 9 i0 (.string ⟨#[]⟩) 1 16 Tryd.underlying22 hj hz0 hz1 hz2 rfl (by decide) _ _ _ rfl (HOW.out.alloc _) ⟨wr.heap.size,0,none⟩ 1 1 (strCells s) rfl rfl (many_new _ _ _) ?d2 ?d3 ?d4 ?d5 ?_))
       case d2=>intro u hu;simp[strCells] at hu;subst hu;rfl
       case d3=>unfold maxLen;omega
       case d4=>omega
       case d5=>simp;omega
       ·intro v' w2 hown' hgrow _ hat
        have hal:Below wr.heap.size wr (wr.alloc (.cells (strCells s).toArray 9)):=(Below.refl _ _).alloc (Nat.le_refl _) _
        have hgl:=(gsPlo HG.out)
        have e5:(wr.alloc (.cells (strCells s).toArray 9)).heap.size=wr.heap.size+1:=by
         show (wr.heap.push _).size=_
         simp
        have HG2:=hid ((hgrow.block gn (by simp;omega) (fun e=>HNB.out e.symm)).trans ((hal.block gn hgl).trans HG.out))
        have HB2:=hid ((HBR.out.alloc hszr (.cells (strCells s).toArray 9)).grown hgrow (by simp;omega) (own_row_le HOW.out))
        have HNB2:Hid (v'.ownBlock≠some gn):=by
         rcases hat with h|h
         ·rw[h];exact HNB.out
         ·rw[h];refine fun e=>?_;simp at e;omega
        have HOW2:Hid (w2.ownsRow w.heap.size 9 1 v' (L1++[s]).length ((L1++[s]).flatMap strCells)):=by
         have:(L1++[s]).flatMap strCells=L1.flatMap strCells++strCells s:=by simp
         rw[this,List.length_append,List.length_singleton]
         exact hown'
        clear hown hown' hgrow hat hal e5 n0
        go_wp2_with fail
        go_roundw
        case rel=>
         refine⟨l+1,by omega,by go_num,by rw[HADD.out,HV1.out];exact HOW2.out,?_,HNB2.out,HG2.out,HB2.out⟩
         rw[HADD.out,HV1.out]
         intro t ht
         rcases List.mem_append.1 ht with ht|ht
         ·exact HOKK.out t ht
         ·rw[List.mem_singleton] at ht;subst ht;exact hsz
        case measure=>simp[intOf];omega
end Go.Proofs.YtgcfdbhpophnjaaDoor
