/- The kit's comparison of programs; what Few leaves is short. Condition: what comes in reads as the plain data. -/
import Derived.Test.YtgllkgedjplpdaaGreatDoorKitE
import Derived.Test.YtgllkgedjplpdaaGreatDoorFeP
import Derived.Maps.AppendAt
import Derived.Deep.QuietTactic
import Derived.BigQuiet
set_option linter.all false
set_option maxRecDepth 1000000
set_option maxHeartbeats 12800000
set_option linter.unusedVariables false
set_option linter.unusedSimpArgs false
namespace Go.Proofs.YtgllkgedjplpdaaGreatDoor
open Go.ChangeShapes Go.WideShapes Go.ChangeAt Go.RowKit
theorem equalInstr (x y:InstrD) (av bv:Value) (w:World) (h:RdInstr none w x av) (g:RdInstr none w y bv) :
  Calls Tryz.prog 69 #[instrV x av,instrV y bv] w fun e w'=>e=.returned (.bool (eqInstr x y))/\Below w.heap.size w w':=by
 have hb0:Hid (Below w.heap.size w ((w.alloc (.cells #[.int .u8 x.kind,.int .u8 x.op,.string x.dst,.string x.name,av,.int .i64 x.line,.int .i64 x.col] 50)).alloc (.cells #[.int .u8 y.kind,.int .u8 y.op,.string y.dst,.string y.name,bv,.int .i64 y.line,.int .i64 y.col] 50))):=(((bR _ _).alloc (nR _) _).alloc (by simp) _)
 have HA:=Hd (equalArgs av bv x.args y.args _ (h.1.keep hb0.out) (g.1.keep hb0.out))
 clear h g
 cases h0:(x.kind == y.kind)
 ·have HV:Hid (eqInstr x y=false):=by show _=_;simp [eqInstr,h0]
  go_enter Tryz.func69,Tryz.ntmps69
  go_wp2_with (go_at_call 100;refine HA.out.mono ?_;rintro e w1 ⟨rfl,hw1⟩;have hc:=heap2_of hw1;have g0:=hc.1;have g1:=hc.2.1;have i5:=row_of g0 5 (.int .i64 x.line) rfl;have i6:=row_of g0 6 (.int .i64 x.col) rfl;have j5:=row_of g1 5 (.int .i64 y.line) rfl;have j6:=row_of g1 6 (.int .i64 y.col) rfl;clear g0 g1 hc)
  go_ret
  exact ⟨by rw [HV.out];rfl,by repeat (first|exact hb0.out|refine bcomp' (by assumption) ?_)⟩
 cases h1:(x.op == y.op)
 ·have HV:Hid (eqInstr x y=false):=by show _=_;simp [eqInstr,h0,h1]
  go_enter Tryz.func69,Tryz.ntmps69
  go_wp2_with (go_at_call 100;refine HA.out.mono ?_;rintro e w1 ⟨rfl,hw1⟩;have hc:=heap2_of hw1;have g0:=hc.1;have g1:=hc.2.1;have i5:=row_of g0 5 (.int .i64 x.line) rfl;have i6:=row_of g0 6 (.int .i64 x.col) rfl;have j5:=row_of g1 5 (.int .i64 y.line) rfl;have j6:=row_of g1 6 (.int .i64 y.col) rfl;clear g0 g1 hc)
  go_ret
  exact ⟨by rw [HV.out];rfl,by repeat (first|exact hb0.out|refine bcomp' (by assumption) ?_)⟩
 cases h2:(x.dst.toList == y.dst.toList)
 ·have HV:Hid (eqInstr x y=false):=by show _=_;simp [eqInstr,h0,h1,h2]
  go_enter Tryz.func69,Tryz.ntmps69
  go_wp2_with (go_at_call 100;refine HA.out.mono ?_;rintro e w1 ⟨rfl,hw1⟩;have hc:=heap2_of hw1;have g0:=hc.1;have g1:=hc.2.1;have i5:=row_of g0 5 (.int .i64 x.line) rfl;have i6:=row_of g0 6 (.int .i64 x.col) rfl;have j5:=row_of g1 5 (.int .i64 y.line) rfl;have j6:=row_of g1 6 (.int .i64 y.col) rfl;clear g0 g1 hc)
  go_ret
  exact ⟨by rw [HV.out];rfl,by repeat (first|exact hb0.out|refine bcomp' (by assumption) ?_)⟩
 cases h3:(x.name.toList == y.name.toList)
 ·have HV:Hid (eqInstr x y=false):=by show _=_;simp [eqInstr,h0,h1,h2,h3]
  go_enter Tryz.func69,Tryz.ntmps69
  go_wp2_with (go_at_call 100;refine HA.out.mono ?_;rintro e w1 ⟨rfl,hw1⟩;have hc:=heap2_of hw1;have g0:=hc.1;have g1:=hc.2.1;have i5:=row_of g0 5 (.int .i64 x.line) rfl;have i6:=row_of g0 6 (.int .i64 x.col) rfl;have j5:=row_of g1 5 (.int .i64 y.line) rfl;have j6:=row_of g1 6 (.int .i64 y.col) rfl;clear g0 g1 hc)
  go_ret
  exact ⟨by rw [HV.out];rfl,by repeat (first|exact hb0.out|refine bcomp' (by assumption) ?_)⟩
 cases h4:(eqL eqArg x.args y.args)
 ·have HV:Hid (eqInstr x y=false):=by show _=_;simp [eqInstr,h0,h1,h2,h3,h4]
  go_enter Tryz.func69,Tryz.ntmps69
  go_wp2_with (go_at_call 100;refine HA.out.mono ?_;rintro e w1 ⟨rfl,hw1⟩;have hc:=heap2_of hw1;have g0:=hc.1;have g1:=hc.2.1;have i5:=row_of g0 5 (.int .i64 x.line) rfl;have i6:=row_of g0 6 (.int .i64 x.col) rfl;have j5:=row_of g1 5 (.int .i64 y.line) rfl;have j6:=row_of g1 6 (.int .i64 y.col) rfl;clear g0 g1 hc)
  go_ret
  exact ⟨by rw [HV.out];rfl,by repeat (first|exact hb0.out|refine bcomp' (by assumption) ?_)⟩
 by_cases h5:x.line=y.line
 ·by_cases h5':x.col=y.col
  ·have HV:Hid (eqInstr x y=true):=by show _=_;simp [eqInstr,h0,h1,h2,h3,h4,h5,h5']
   have H5:=Hd h5
   have H6:=Hd h5'
   clear h5 h5'
   go_enter Tryz.func69,Tryz.ntmps69
   go_wp2_with (go_at_call 100;refine HA.out.mono ?_;rintro e w1 ⟨rfl,hw1⟩;have hc:=heap2_of hw1;have g0:=hc.1;have g1:=hc.2.1;have i5:=row_of g0 5 (.int .i64 x.line) rfl;have i6:=row_of g0 6 (.int .i64 x.col) rfl;have j5:=row_of g1 5 (.int .i64 y.line) rfl;have j6:=row_of g1 6 (.int .i64 y.col) rfl;clear g0 g1 hc;have q5:=H5.out;have q6:=H6.out)
   go_ret
   exact ⟨by rw [HV.out];rfl,by repeat (first|exact hb0.out|refine bcomp' (by assumption) ?_)⟩
  ·have HV:Hid (eqInstr x y=false):=by show _=_;simp [eqInstr,h0,h1,h2,h3,h4,h5,h5']
   have H5:=Hd h5
   have H6:=Hd h5'
   clear h5 h5'
   go_enter Tryz.func69,Tryz.ntmps69
   go_wp2_with (go_at_call 100;refine HA.out.mono ?_;rintro e w1 ⟨rfl,hw1⟩;have hc:=heap2_of hw1;have g0:=hc.1;have g1:=hc.2.1;have i5:=row_of g0 5 (.int .i64 x.line) rfl;have i6:=row_of g0 6 (.int .i64 x.col) rfl;have j5:=row_of g1 5 (.int .i64 y.line) rfl;have j6:=row_of g1 6 (.int .i64 y.col) rfl;clear g0 g1 hc;have q5:=H5.out;have q6:=H6.out)
   go_ret
   exact ⟨by rw [HV.out];rfl,by repeat (first|exact hb0.out|refine bcomp' (by assumption) ?_)⟩
 ·have HV:Hid (eqInstr x y=false):=by show _=_;simp [eqInstr,h0,h1,h2,h3,h4,h5]
  go_enter Tryz.func69,Tryz.ntmps69
  go_wp2_with (go_at_call 100;refine HA.out.mono ?_;rintro e w1 ⟨rfl,hw1⟩;have hc:=heap2_of hw1;have g0:=hc.1;have g1:=hc.2.1;have i5:=row_of g0 5 (.int .i64 x.line) rfl;have i6:=row_of g0 6 (.int .i64 x.col) rfl;have j5:=row_of g1 5 (.int .i64 y.line) rfl;have j6:=row_of g1 6 (.int .i64 y.col) rfl;clear g0 g1 hc)
  go_ret
  exact ⟨by rw [HV.out];rfl,by repeat (first|exact hb0.out|refine bcomp' (by assumption) ?_)⟩
open Go.ChangeShapes Go.WideShapes Go.ChangeAt Go.RowKit
theorem equalInstrs (av bv:Value) (l m:List InstrD) (w:World) (h:RdInstrs none w av l) (g:RdInstrs none w bv m) :
  Calls Tryz.prog 38 #[av,bv] w fun e w'=>e=.returned (.bool (eqL eqInstr l m))/\Below w.heap.size w w':=by
 obtain ⟨a,c,rfl,hl,hr⟩:=h
 obtain ⟨a2,c2,rfl,hl2,gr⟩:=g
 have HR:=Hd hr
 have GR:=Hd gr
 clear hr gr
 by_cases hlen:l.length=m.length
 ·have he:((l.length:Int) != (m.length:Int))=false:=by rw [hlen];simp
  have HL:=Hd hlen
  clear hlen
  go_enter Tryz.func38,Tryz.ntmps38
  go_wp2
  go_loopw [5] (fun i wr=>∃ k:Nat,k<=l.length/\i=.int .i64 k/\Hid (∀ (j:Nat) x y,j<k->l[j]?=some x->m[j]?=some y->eqInstr x y=true)/\Below w.heap.size w wr) (fun i _=>l.length - (intOf i).toNat)
  case atStart=>exact ⟨0,Nat.zero_le _,rfl,(fun j x y h=>by omega),bR _ _⟩
  case round=>
   obtain ⟨k,hk,rfl,hq,hb⟩:=hrel
   by_cases hlt:k<l.length
   ·have hlt2:k<m.length:=by rw [<- HL.out];exact hlt
    obtain ⟨x,hx⟩:∃ x,l[k]?=some x:=⟨_,lG hlt⟩
    obtain ⟨y,hy⟩:∃ y,m[k]?=some y:=⟨_,lG hlt2⟩
    obtain ⟨b,o,xav,rfl,_,c0,c1,c2,c3,c4,c5,c6,hrx⟩:=HR.out k x hx
    obtain ⟨b2,o2,yav,rfl,_,d0,d1,d2,d3,d4,d5,d6,hry⟩:=GR.out k y hy
    have c0':=cell_keepB hb c0 (block_lt_of_cell c0)
    have d0':=cell_keepB hb d0 (block_lt_of_cell d0)
    have c1':=cell_keepB hb c1 (block_lt_of_cell c1)
    have d1':=cell_keepB hb d1 (block_lt_of_cell d1)
    have c2':=cell_keepB hb c2 (block_lt_of_cell c2)
    have d2':=cell_keepB hb d2 (block_lt_of_cell d2)
    have c3':=cell_keepB hb c3 (block_lt_of_cell c3)
    have d3':=cell_keepB hb d3 (block_lt_of_cell d3)
    have c4':=cell_keepB hb c4 (block_lt_of_cell c4)
    have d4':=cell_keepB hb d4 (block_lt_of_cell d4)
    have c5':=cell_keepB hb c5 (block_lt_of_cell c5)
    have d5':=cell_keepB hb d5 (block_lt_of_cell d5)
    have c6':=cell_keepB hb c6 (block_lt_of_cell c6)
    have d6':=cell_keepB hb d6 (block_lt_of_cell d6)
    have HX:=Hd (And.intro hx hy)
    have HRX:=Hd (hrx.keep hb)
    have HRY:=Hd (hry.keep hb)
    have hi1:(k:Int)<(l.length:Int):=by omega
    have hi2:(k:Int)<(m.length:Int):=by omega
    clear c0 d0 c1 d1 c2 d2 c3 d3 c4 d4 c5 d5 c6 d6 hx hy hrx hry
    go_wp2_with fail
    have hS:Below wr.heap.size wr wr.drew:=(bR _ _).drew
    refine wp_region_plan (fun w'=>Below wr.heap.size wr w') (fun _=>false) [(0,true),(1,true),(2,true),(3,true),(4,true),(5,true),(6,true),(7,true),(8,false),(9,false)] (by kernel_rfl) (by kernel_rfl) rfl (by kernel_rfl) (fun _ d _ _ _ h=>by cases d <;> exact h) ?_
    refine ⟨.slice (some ⟨b,o,none⟩) l.length c,_,rfl,.inl ⟨rfl,fun w' hw=>by go_simp⟩,hS,?_⟩
    refine ⟨.int .i64 k,_,rfl,.inl ⟨rfl,fun w' hw=>by go_simp⟩,hS,?_⟩
    refine ⟨.pointer (some ⟨b,o+k * 7,none⟩),_,rfl,.inl ⟨rfl,fun w' hw=>by go_simp⟩,hS,?_⟩
    refine ⟨.agg #[.int .u8 x.kind,.int .u8 x.op,.string x.dst,.string x.name,xav,.int .i64 x.line,.int .i64 x.col],_,rfl,.inl ⟨rfl,fun w' hw=>by have e0:=cell_keep hw c0';have e1:=cell_keep hw c1';have e2:=cell_keep hw c2';have e3:=cell_keep hw c3';have e4:=cell_keep hw c4';have e5:=cell_keep hw c5';have e6:=cell_keep hw c6';go_simp⟩,hS,?_⟩
    refine ⟨.slice (some ⟨b2,o2,none⟩) m.length c2,_,rfl,.inl ⟨rfl,fun w' hw=>by go_simp⟩,hS,?_⟩
    refine ⟨.int .i64 k,_,rfl,.inl ⟨rfl,fun w' hw=>by go_simp⟩,hS,?_⟩
    refine ⟨.pointer (some ⟨b2,o2+k * 7,none⟩),_,rfl,.inl ⟨rfl,fun w' hw=>by go_simp⟩,hS,?_⟩
    refine ⟨.agg #[.int .u8 y.kind,.int .u8 y.op,.string y.dst,.string y.name,yav,.int .i64 y.line,.int .i64 y.col],_,rfl,.inl ⟨rfl,fun w' hw=>by have e0:=cell_keep hw d0';have e1:=cell_keep hw d1';have e2:=cell_keep hw d2';have e3:=cell_keep hw d3';have e4:=cell_keep hw d4';have e5:=cell_keep hw d5';have e6:=cell_keep hw d6';go_simp⟩,hS,?_⟩
    cases hv:eqInstr x y
    all_goals
     have HV:=Hd hv
     refine plan_step rfl ?_
     go_wp2_with (go_at_call 69;refine (equalInstr x y xav yav _ (HRX.out.keep hS) (HRY.out.keep hS)).mono ?_;rintro e w1 ⟨rfl,hb1⟩)
     have hS1:Below wr.heap.size wr w1:=hS.trans hb1
     refine ⟨fun _=>hS1,?_⟩
     refine plan_step rfl ?_
     go_wp2
     refine ⟨hS1,plan_nil ?_⟩
     clear hS hb1 hv
     have hb1:=bcomp hb hS1
     clear hS1
    ·go_wp2
     go_ret
     exact ⟨by rw [eqL_miss eqInstr l m k x y HX.out.1 HX.out.2 HV.out];rfl,hb1⟩
    ·go_wp2
     go_roundw
     case rel=>
      refine ⟨k+1,by omega,by go_num,?_,hb1⟩
      intro j x' y' hj g1 g2
      rcases Nat.lt_or_ge j k with h|h
      ·exact hq.out j x' y' h g1 g2
      ·obtain rfl:j=k:=by omega
       rw [HX.out.1] at g1;rw [HX.out.2] at g2
       cases g1;cases g2;exact HV.out
     case measure=>simp [intOf];omega
   ·obtain rfl:k=l.length:=by omega
    go_wp2
    go_ret
    refine ⟨?_,hb⟩
    rw [eqL_all eqInstr l m HL.out (fun j x y g1 g2=>hq.out j x y (lE g1).1 g1 g2)];rfl
 ·have he:((l.length:Int) != (m.length:Int))=true:=by rw [bne_iff_ne];omega
  have HL:=Hd (eqL_len eqInstr l m hlen)
  clear hlen
  go_enter Tryz.func38,Tryz.ntmps38
  go_wp2
  go_ret
  exact ⟨by rw [HL.out];rfl,bR _ _⟩
open Go.ChangeShapes Go.WideShapes Go.ChangeAt Go.RowKit
theorem equalFunc (x y:FuncD) (pv cv qv dv:Value) (w:World) (h:RdFunc none w x pv cv) (g:RdFunc none w y qv dv) :
  Calls Tryz.prog 68 #[funcV x pv cv,funcV y qv dv] w fun e w'=>e=.returned (.bool (eqFunc x y))/\Below w.heap.size w w':=by
 have hb0:Hid (Below w.heap.size w ((w.alloc (.cells #[.string x.name,pv,cv,.int .i64 x.line,.int .i64 x.col] 52)).alloc (.cells #[.string y.name,qv,dv,.int .i64 y.line,.int .i64 y.col] 52))):=(((bR _ _).alloc (nR _) _).alloc (by simp) _)
 have HA:=Hd (equalStrs pv qv x.params y.params _ (h.1.keep hb0.out) (g.1.keep hb0.out))
 have HC:=Hd h.2.1
 have GC:=Hd g.2.1
 clear h g
 cases h0:(x.name.toList == y.name.toList)
 ·have HV:Hid (eqFunc x y=false):=by show _=_;simp [eqFunc,h0]
  go_enter Tryz.func68,Tryz.ntmps68
  go_wp2_with (first|(go_at_call 35;refine HA.out.mono ?_;rintro e w1 ⟨rfl,hw1⟩;obtain ⟨g0,g1,hbw⟩:=heap2_of hw1;have i2:=row_of g0 2 cv rfl;have j2:=row_of g1 2 dv rfl;have i3:=row_of g0 3 (.int .i64 x.line) rfl;have i4:=row_of g0 4 (.int .i64 x.col) rfl;have j3:=row_of g1 3 (.int .i64 y.line) rfl;have j4:=row_of g1 4 (.int .i64 y.col) rfl;have HBW:=Hd hbw;clear g0 g1 hbw)|(go_at_call 38;refine (equalInstrs cv dv x.code y.code _ (HC.out.keep HBW.out) (GC.out.keep HBW.out)).mono ?_;rintro e w2 ⟨rfl,hw2⟩;have k3:=cell_keep hw2 i3;have k4:=cell_keep hw2 i4;have m3:=cell_keep hw2 j3;have m4:=cell_keep hw2 j4))
  go_ret
  exact ⟨by rw [HV.out];rfl,by repeat (first|exact hb0.out|exact bR _ _|refine bcomp' (by assumption) ?_)⟩
 cases h1:(eqL eqS x.params y.params)
 ·have HV:Hid (eqFunc x y=false):=by show _=_;simp [eqFunc,h0,h1]
  go_enter Tryz.func68,Tryz.ntmps68
  go_wp2_with (first|(go_at_call 35;refine HA.out.mono ?_;rintro e w1 ⟨rfl,hw1⟩;obtain ⟨g0,g1,hbw⟩:=heap2_of hw1;have i2:=row_of g0 2 cv rfl;have j2:=row_of g1 2 dv rfl;have i3:=row_of g0 3 (.int .i64 x.line) rfl;have i4:=row_of g0 4 (.int .i64 x.col) rfl;have j3:=row_of g1 3 (.int .i64 y.line) rfl;have j4:=row_of g1 4 (.int .i64 y.col) rfl;have HBW:=Hd hbw;clear g0 g1 hbw)|(go_at_call 38;refine (equalInstrs cv dv x.code y.code _ (HC.out.keep HBW.out) (GC.out.keep HBW.out)).mono ?_;rintro e w2 ⟨rfl,hw2⟩;have k3:=cell_keep hw2 i3;have k4:=cell_keep hw2 i4;have m3:=cell_keep hw2 j3;have m4:=cell_keep hw2 j4))
  go_ret
  exact ⟨by rw [HV.out];rfl,by repeat (first|exact hb0.out|exact bR _ _|refine bcomp' (by assumption) ?_)⟩
 cases h2:(eqL eqInstr x.code y.code)
 ·have HV:Hid (eqFunc x y=false):=by show _=_;simp [eqFunc,h0,h1,h2]
  go_enter Tryz.func68,Tryz.ntmps68
  go_wp2_with (first|(go_at_call 35;refine HA.out.mono ?_;rintro e w1 ⟨rfl,hw1⟩;obtain ⟨g0,g1,hbw⟩:=heap2_of hw1;have i2:=row_of g0 2 cv rfl;have j2:=row_of g1 2 dv rfl;have i3:=row_of g0 3 (.int .i64 x.line) rfl;have i4:=row_of g0 4 (.int .i64 x.col) rfl;have j3:=row_of g1 3 (.int .i64 y.line) rfl;have j4:=row_of g1 4 (.int .i64 y.col) rfl;have HBW:=Hd hbw;clear g0 g1 hbw)|(go_at_call 38;refine (equalInstrs cv dv x.code y.code _ (HC.out.keep HBW.out) (GC.out.keep HBW.out)).mono ?_;rintro e w2 ⟨rfl,hw2⟩;have k3:=cell_keep hw2 i3;have k4:=cell_keep hw2 i4;have m3:=cell_keep hw2 j3;have m4:=cell_keep hw2 j4))
  go_ret
  exact ⟨by rw [HV.out];rfl,by repeat (first|exact hb0.out|exact bR _ _|refine bcomp' (by assumption) ?_)⟩
 by_cases h3:x.line=y.line
 ·by_cases h3':x.col=y.col
  ·have HV:Hid (eqFunc x y=true):=by show _=_;simp [eqFunc,h0,h1,h2,h3,h3']
   have H5:=Hd h3
   have H6:=Hd h3'
   clear h3 h3'
   go_enter Tryz.func68,Tryz.ntmps68
   go_wp2_with (first|(go_at_call 35;refine HA.out.mono ?_;rintro e w1 ⟨rfl,hw1⟩;obtain ⟨g0,g1,hbw⟩:=heap2_of hw1;have i2:=row_of g0 2 cv rfl;have j2:=row_of g1 2 dv rfl;have i3:=row_of g0 3 (.int .i64 x.line) rfl;have i4:=row_of g0 4 (.int .i64 x.col) rfl;have j3:=row_of g1 3 (.int .i64 y.line) rfl;have j4:=row_of g1 4 (.int .i64 y.col) rfl;have HBW:=Hd hbw;clear g0 g1 hbw)|(go_at_call 38;refine (equalInstrs cv dv x.code y.code _ (HC.out.keep HBW.out) (GC.out.keep HBW.out)).mono ?_;rintro e w2 ⟨rfl,hw2⟩;have k3:=cell_keep hw2 i3;have k4:=cell_keep hw2 i4;have m3:=cell_keep hw2 j3;have m4:=cell_keep hw2 j4;have q5:=H5.out;have q6:=H6.out))
   go_ret
   exact ⟨by rw [HV.out];rfl,by repeat (first|exact hb0.out|exact bR _ _|refine bcomp' (by assumption) ?_)⟩
  ·have HV:Hid (eqFunc x y=false):=by show _=_;simp [eqFunc,h0,h1,h2,h3,h3']
   have H5:=Hd h3
   have H6:=Hd h3'
   clear h3 h3'
   go_enter Tryz.func68,Tryz.ntmps68
   go_wp2_with (first|(go_at_call 35;refine HA.out.mono ?_;rintro e w1 ⟨rfl,hw1⟩;obtain ⟨g0,g1,hbw⟩:=heap2_of hw1;have i2:=row_of g0 2 cv rfl;have j2:=row_of g1 2 dv rfl;have i3:=row_of g0 3 (.int .i64 x.line) rfl;have i4:=row_of g0 4 (.int .i64 x.col) rfl;have j3:=row_of g1 3 (.int .i64 y.line) rfl;have j4:=row_of g1 4 (.int .i64 y.col) rfl;have HBW:=Hd hbw;clear g0 g1 hbw)|(go_at_call 38;refine (equalInstrs cv dv x.code y.code _ (HC.out.keep HBW.out) (GC.out.keep HBW.out)).mono ?_;rintro e w2 ⟨rfl,hw2⟩;have k3:=cell_keep hw2 i3;have k4:=cell_keep hw2 i4;have m3:=cell_keep hw2 j3;have m4:=cell_keep hw2 j4;have q5:=H5.out;have q6:=H6.out))
   go_ret
   exact ⟨by rw [HV.out];rfl,by repeat (first|exact hb0.out|exact bR _ _|refine bcomp' (by assumption) ?_)⟩
 ·have HV:Hid (eqFunc x y=false):=by show _=_;simp [eqFunc,h0,h1,h2,h3]
  go_enter Tryz.func68,Tryz.ntmps68
  go_wp2_with (first|(go_at_call 35;refine HA.out.mono ?_;rintro e w1 ⟨rfl,hw1⟩;obtain ⟨g0,g1,hbw⟩:=heap2_of hw1;have i2:=row_of g0 2 cv rfl;have j2:=row_of g1 2 dv rfl;have i3:=row_of g0 3 (.int .i64 x.line) rfl;have i4:=row_of g0 4 (.int .i64 x.col) rfl;have j3:=row_of g1 3 (.int .i64 y.line) rfl;have j4:=row_of g1 4 (.int .i64 y.col) rfl;have HBW:=Hd hbw;clear g0 g1 hbw)|(go_at_call 38;refine (equalInstrs cv dv x.code y.code _ (HC.out.keep HBW.out) (GC.out.keep HBW.out)).mono ?_;rintro e w2 ⟨rfl,hw2⟩;have k3:=cell_keep hw2 i3;have k4:=cell_keep hw2 i4;have m3:=cell_keep hw2 j3;have m4:=cell_keep hw2 j4))
  go_ret
  exact ⟨by rw [HV.out];rfl,by repeat (first|exact hb0.out|exact bR _ _|refine bcomp' (by assumption) ?_)⟩
theorem equalFuncs (av bv:Value) (l m:List FuncD) (w:World) (h:RdFuncs none w av l) (g:RdFuncs none w bv m) :
  Calls Tryz.prog 37 #[av,bv] w fun e w'=>e=.returned (.bool (eqL eqFunc l m))/\Below w.heap.size w w':=by
 obtain ⟨a,c,rfl,hl,hr⟩:=h
 obtain ⟨a2,c2,rfl,hl2,gr⟩:=g
 have HR:=Hd hr
 have GR:=Hd gr
 clear hr gr
 by_cases hlen:l.length=m.length
 ·have he:((l.length:Int) != (m.length:Int))=false:=by rw [hlen];simp
  have HL:=Hd hlen
  clear hlen
  go_enter Tryz.func37,Tryz.ntmps37
  go_wp2
  go_loopw [5] (fun i wr=>∃ k:Nat,k<=l.length/\i=.int .i64 k/\Hid (∀ (j:Nat) x y,j<k->l[j]?=some x->m[j]?=some y->eqFunc x y=true)/\Below w.heap.size w wr) (fun i _=>l.length - (intOf i).toNat)
  case atStart=>exact ⟨0,Nat.zero_le _,rfl,(fun j x y h=>by omega),bR _ _⟩
  case round=>
   obtain ⟨k,hk,rfl,hq,hb⟩:=hrel
   by_cases hlt:k<l.length
   ·have hlt2:k<m.length:=by rw [<- HL.out];exact hlt
    obtain ⟨x,hx⟩:∃ x,l[k]?=some x:=⟨_,lG hlt⟩
    obtain ⟨y,hy⟩:∃ y,m[k]?=some y:=⟨_,lG hlt2⟩
    obtain ⟨b,o,xpv,xcv,rfl,_,c0,c1,c2,c3,c4,hrx⟩:=HR.out k x hx
    obtain ⟨b2,o2,ypv,ycv,rfl,_,d0,d1,d2,d3,d4,hry⟩:=GR.out k y hy
    have c0':=cell_keepB hb c0 (block_lt_of_cell c0)
    have d0':=cell_keepB hb d0 (block_lt_of_cell d0)
    have c1':=cell_keepB hb c1 (block_lt_of_cell c1)
    have d1':=cell_keepB hb d1 (block_lt_of_cell d1)
    have c2':=cell_keepB hb c2 (block_lt_of_cell c2)
    have d2':=cell_keepB hb d2 (block_lt_of_cell d2)
    have c3':=cell_keepB hb c3 (block_lt_of_cell c3)
    have d3':=cell_keepB hb d3 (block_lt_of_cell d3)
    have c4':=cell_keepB hb c4 (block_lt_of_cell c4)
    have d4':=cell_keepB hb d4 (block_lt_of_cell d4)
    have HX:=Hd (And.intro hx hy)
    have HRX:=Hd (hrx.keep hb)
    have HRY:=Hd (hry.keep hb)
    have hi1:(k:Int)<(l.length:Int):=by omega
    have hi2:(k:Int)<(m.length:Int):=by omega
    clear c0 d0 c1 d1 c2 d2 c3 d3 c4 d4 hx hy hrx hry
    go_wp2_with fail
    have hS:Below wr.heap.size wr wr.drew:=(bR _ _).drew
    refine wp_region_plan (fun w'=>Below wr.heap.size wr w') (fun _=>false) [(0,true),(1,true),(2,true),(3,true),(4,true),(5,true),(6,true),(7,true),(8,false),(9,false)] (by kernel_rfl) (by kernel_rfl) rfl (by kernel_rfl) (fun _ d _ _ _ h=>by cases d <;> exact h) ?_
    refine ⟨.slice (some ⟨b,o,none⟩) l.length c,_,rfl,.inl ⟨rfl,fun w' hw=>by go_simp⟩,hS,?_⟩
    refine ⟨.int .i64 k,_,rfl,.inl ⟨rfl,fun w' hw=>by go_simp⟩,hS,?_⟩
    refine ⟨.pointer (some ⟨b,o+k * 5,none⟩),_,rfl,.inl ⟨rfl,fun w' hw=>by go_simp⟩,hS,?_⟩
    refine ⟨.agg #[.string x.name,xpv,xcv,.int .i64 x.line,.int .i64 x.col],_,rfl,.inl ⟨rfl,fun w' hw=>by have e0:=cell_keep hw c0';have e1:=cell_keep hw c1';have e2:=cell_keep hw c2';have e3:=cell_keep hw c3';have e4:=cell_keep hw c4';go_simp⟩,hS,?_⟩
    refine ⟨.slice (some ⟨b2,o2,none⟩) m.length c2,_,rfl,.inl ⟨rfl,fun w' hw=>by go_simp⟩,hS,?_⟩
    refine ⟨.int .i64 k,_,rfl,.inl ⟨rfl,fun w' hw=>by go_simp⟩,hS,?_⟩
    refine ⟨.pointer (some ⟨b2,o2+k * 5,none⟩),_,rfl,.inl ⟨rfl,fun w' hw=>by go_simp⟩,hS,?_⟩
    refine ⟨.agg #[.string y.name,ypv,ycv,.int .i64 y.line,.int .i64 y.col],_,rfl,.inl ⟨rfl,fun w' hw=>by have e0:=cell_keep hw d0';have e1:=cell_keep hw d1';have e2:=cell_keep hw d2';have e3:=cell_keep hw d3';have e4:=cell_keep hw d4';go_simp⟩,hS,?_⟩
    cases hv:eqFunc x y
    all_goals
     have HV:=Hd hv
     refine plan_step rfl ?_
     go_wp2_with (go_at_call 68;refine (equalFunc x y xpv xcv ypv ycv _ (HRX.out.keep hS) (HRY.out.keep hS)).mono ?_;rintro e w1 ⟨rfl,hb1⟩)
     have hS1:Below wr.heap.size wr w1:=hS.trans hb1
     refine ⟨fun _=>hS1,?_⟩
     refine plan_step rfl ?_
     go_wp2
     refine ⟨hS1,plan_nil ?_⟩
     clear hS hb1 hv
     have hb1:=bcomp hb hS1
     clear hS1
    ·go_wp2
     go_ret
     exact ⟨by rw [eqL_miss eqFunc l m k x y HX.out.1 HX.out.2 HV.out];rfl,hb1⟩
    ·go_wp2
     go_roundw
     case rel=>
      refine ⟨k+1,by omega,by go_num,?_,hb1⟩
      intro j x' y' hj g1 g2
      rcases Nat.lt_or_ge j k with h|h
      ·exact hq.out j x' y' h g1 g2
      ·obtain rfl:j=k:=by omega
       rw [HX.out.1] at g1;rw [HX.out.2] at g2
       cases g1;cases g2;exact HV.out
     case measure=>simp [intOf];omega
   ·obtain rfl:k=l.length:=by omega
    go_wp2
    go_ret
    refine ⟨?_,hb⟩
    rw [eqL_all eqFunc l m HL.out (fun j x y g1 g2=>hq.out j x y (lE g1).1 g1 g2)];rfl
 ·have he:((l.length:Int) != (m.length:Int))=true:=by rw [bne_iff_ne];omega
  have HL:=Hd (eqL_len eqFunc l m hlen)
  clear hlen
  go_enter Tryz.func37,Tryz.ntmps37
  go_wp2
  go_ret
  exact ⟨by rw [HL.out];rfl,bR _ _⟩
open Go.ChangeShapes Go.WideShapes Go.ChangeAt Go.RowKit
theorem equalProg (x y:ProgD) (cv av fv mv cu au fu mu:Value) (w:World) (h:RdProg none w x cv av fv mv) (g:RdProg none w y cu au fu mu) :
  Calls Tryz.prog 11 #[progV x cv av fv mv,progV y cu au fu mu] w fun e w'=>e=.returned (.bool (eqProg x y))/\Below w.heap.size w w':=by
 have hb0:Hid (Below w.heap.size w ((w.alloc (.cells #[.int .i64 x.width,cv,av,fv,mv] 27)).alloc (.cells #[.int .i64 y.width,cu,au,fu,mu] 27))):=(((bR _ _).alloc (nR _) _).alloc (by simp) _)
 obtain ⟨h1,h2,h3,h4,_⟩:=h
 obtain ⟨g1,g2,g3,g4,_⟩:=g
 have HA:=Hd (equalStrs cv cu x.chans y.chans _ (h1.keep hb0.out) (g1.keep hb0.out))
 have H2:=Hd h2
 have G2:=Hd g2
 have H3:=Hd h3
 have G3:=Hd g3
 have H4:=Hd h4
 have G4:=Hd g4
 clear h1 g1 h2 g2 h3 g3 h4 g4
 cases h0:(x.width == y.width)
 ·have HV:Hid (eqProg x y=false):=by show _=_;simp [eqProg,h0]
  go_enter Tryz.func11,Tryz.ntmps11
  go_wp2_with (first|(go_at_call 35;refine HA.out.mono ?_;rintro e w1 ⟨rfl,hw1⟩;obtain ⟨g0,g1,hbw⟩:=heap2_of hw1;have i2:=row_of g0 2 av rfl;have j2:=row_of g1 2 au rfl;have i3:=row_of g0 3 fv rfl;have j3:=row_of g1 3 fu rfl;have i4:=row_of g0 4 mv rfl;have j4:=row_of g1 4 mu rfl;have HB1:=Hd hbw;clear g0 g1 hbw)|(go_at_call 36;refine (equalArrs av au x.arrays y.arrays _ (H2.out.keep HB1.out) (G2.out.keep HB1.out)).mono ?_;rintro e w2 ⟨rfl,hw2⟩;have k3:=cell_keep hw2 i3;have l3:=cell_keep hw2 j3;have k4:=cell_keep hw2 i4;have l4:=cell_keep hw2 j4;have HB2:=Hd (bcomp HB1.out hw2))|(go_at_call 37;refine (equalFuncs fv fu x.funcs y.funcs _ (H3.out.keep HB2.out) (G3.out.keep HB2.out)).mono ?_;rintro e w3 ⟨rfl,hw3⟩;have n4:=cell_keep hw3 k4;have o4:=cell_keep hw3 l4;have HB3:=Hd (bcomp HB2.out hw3))|(go_at_call 38;refine (equalInstrs mv mu x.main y.main _ (H4.out.keep HB3.out) (G4.out.keep HB3.out)).mono ?_;rintro e w4 ⟨rfl,hw4⟩;have HB4:=Hd (bcomp HB3.out hw4)))
  go_ret
  exact ⟨by rw [HV.out];rfl,hb0.out⟩
 cases h1:(eqL eqS x.chans y.chans)
 ·have HV:Hid (eqProg x y=false):=by show _=_;simp [eqProg,h0,h1]
  go_enter Tryz.func11,Tryz.ntmps11
  go_wp2_with (first|(go_at_call 35;refine HA.out.mono ?_;rintro e w1 ⟨rfl,hw1⟩;obtain ⟨g0,g1,hbw⟩:=heap2_of hw1;have i2:=row_of g0 2 av rfl;have j2:=row_of g1 2 au rfl;have i3:=row_of g0 3 fv rfl;have j3:=row_of g1 3 fu rfl;have i4:=row_of g0 4 mv rfl;have j4:=row_of g1 4 mu rfl;have HB1:=Hd hbw;clear g0 g1 hbw)|(go_at_call 36;refine (equalArrs av au x.arrays y.arrays _ (H2.out.keep HB1.out) (G2.out.keep HB1.out)).mono ?_;rintro e w2 ⟨rfl,hw2⟩;have k3:=cell_keep hw2 i3;have l3:=cell_keep hw2 j3;have k4:=cell_keep hw2 i4;have l4:=cell_keep hw2 j4;have HB2:=Hd (bcomp HB1.out hw2))|(go_at_call 37;refine (equalFuncs fv fu x.funcs y.funcs _ (H3.out.keep HB2.out) (G3.out.keep HB2.out)).mono ?_;rintro e w3 ⟨rfl,hw3⟩;have n4:=cell_keep hw3 k4;have o4:=cell_keep hw3 l4;have HB3:=Hd (bcomp HB2.out hw3))|(go_at_call 38;refine (equalInstrs mv mu x.main y.main _ (H4.out.keep HB3.out) (G4.out.keep HB3.out)).mono ?_;rintro e w4 ⟨rfl,hw4⟩;have HB4:=Hd (bcomp HB3.out hw4)))
  go_ret
  exact ⟨by rw [HV.out];rfl,HB1.out⟩
 cases h2:(eqL eqArr x.arrays y.arrays)
 ·have HV:Hid (eqProg x y=false):=by show _=_;simp [eqProg,h0,h1,h2]
  go_enter Tryz.func11,Tryz.ntmps11
  go_wp2_with (first|(go_at_call 35;refine HA.out.mono ?_;rintro e w1 ⟨rfl,hw1⟩;obtain ⟨g0,g1,hbw⟩:=heap2_of hw1;have i2:=row_of g0 2 av rfl;have j2:=row_of g1 2 au rfl;have i3:=row_of g0 3 fv rfl;have j3:=row_of g1 3 fu rfl;have i4:=row_of g0 4 mv rfl;have j4:=row_of g1 4 mu rfl;have HB1:=Hd hbw;clear g0 g1 hbw)|(go_at_call 36;refine (equalArrs av au x.arrays y.arrays _ (H2.out.keep HB1.out) (G2.out.keep HB1.out)).mono ?_;rintro e w2 ⟨rfl,hw2⟩;have k3:=cell_keep hw2 i3;have l3:=cell_keep hw2 j3;have k4:=cell_keep hw2 i4;have l4:=cell_keep hw2 j4;have HB2:=Hd (bcomp HB1.out hw2))|(go_at_call 37;refine (equalFuncs fv fu x.funcs y.funcs _ (H3.out.keep HB2.out) (G3.out.keep HB2.out)).mono ?_;rintro e w3 ⟨rfl,hw3⟩;have n4:=cell_keep hw3 k4;have o4:=cell_keep hw3 l4;have HB3:=Hd (bcomp HB2.out hw3))|(go_at_call 38;refine (equalInstrs mv mu x.main y.main _ (H4.out.keep HB3.out) (G4.out.keep HB3.out)).mono ?_;rintro e w4 ⟨rfl,hw4⟩;have HB4:=Hd (bcomp HB3.out hw4)))
  go_ret
  exact ⟨by rw [HV.out];rfl,HB2.out⟩
 cases h3:(eqL eqFunc x.funcs y.funcs)
 ·have HV:Hid (eqProg x y=false):=by show _=_;simp [eqProg,h0,h1,h2,h3]
  go_enter Tryz.func11,Tryz.ntmps11
  go_wp2_with (first|(go_at_call 35;refine HA.out.mono ?_;rintro e w1 ⟨rfl,hw1⟩;obtain ⟨g0,g1,hbw⟩:=heap2_of hw1;have i2:=row_of g0 2 av rfl;have j2:=row_of g1 2 au rfl;have i3:=row_of g0 3 fv rfl;have j3:=row_of g1 3 fu rfl;have i4:=row_of g0 4 mv rfl;have j4:=row_of g1 4 mu rfl;have HB1:=Hd hbw;clear g0 g1 hbw)|(go_at_call 36;refine (equalArrs av au x.arrays y.arrays _ (H2.out.keep HB1.out) (G2.out.keep HB1.out)).mono ?_;rintro e w2 ⟨rfl,hw2⟩;have k3:=cell_keep hw2 i3;have l3:=cell_keep hw2 j3;have k4:=cell_keep hw2 i4;have l4:=cell_keep hw2 j4;have HB2:=Hd (bcomp HB1.out hw2))|(go_at_call 37;refine (equalFuncs fv fu x.funcs y.funcs _ (H3.out.keep HB2.out) (G3.out.keep HB2.out)).mono ?_;rintro e w3 ⟨rfl,hw3⟩;have n4:=cell_keep hw3 k4;have o4:=cell_keep hw3 l4;have HB3:=Hd (bcomp HB2.out hw3))|(go_at_call 38;refine (equalInstrs mv mu x.main y.main _ (H4.out.keep HB3.out) (G4.out.keep HB3.out)).mono ?_;rintro e w4 ⟨rfl,hw4⟩;have HB4:=Hd (bcomp HB3.out hw4)))
  go_ret
  exact ⟨by rw [HV.out];rfl,HB3.out⟩
 cases h4:(eqL eqInstr x.main y.main)
 ·have HV:Hid (eqProg x y=false):=by show _=_;simp [eqProg,h0,h1,h2,h3,h4]
  go_enter Tryz.func11,Tryz.ntmps11
  go_wp2_with (first|(go_at_call 35;refine HA.out.mono ?_;rintro e w1 ⟨rfl,hw1⟩;obtain ⟨g0,g1,hbw⟩:=heap2_of hw1;have i2:=row_of g0 2 av rfl;have j2:=row_of g1 2 au rfl;have i3:=row_of g0 3 fv rfl;have j3:=row_of g1 3 fu rfl;have i4:=row_of g0 4 mv rfl;have j4:=row_of g1 4 mu rfl;have HB1:=Hd hbw;clear g0 g1 hbw)|(go_at_call 36;refine (equalArrs av au x.arrays y.arrays _ (H2.out.keep HB1.out) (G2.out.keep HB1.out)).mono ?_;rintro e w2 ⟨rfl,hw2⟩;have k3:=cell_keep hw2 i3;have l3:=cell_keep hw2 j3;have k4:=cell_keep hw2 i4;have l4:=cell_keep hw2 j4;have HB2:=Hd (bcomp HB1.out hw2))|(go_at_call 37;refine (equalFuncs fv fu x.funcs y.funcs _ (H3.out.keep HB2.out) (G3.out.keep HB2.out)).mono ?_;rintro e w3 ⟨rfl,hw3⟩;have n4:=cell_keep hw3 k4;have o4:=cell_keep hw3 l4;have HB3:=Hd (bcomp HB2.out hw3))|(go_at_call 38;refine (equalInstrs mv mu x.main y.main _ (H4.out.keep HB3.out) (G4.out.keep HB3.out)).mono ?_;rintro e w4 ⟨rfl,hw4⟩;have HB4:=Hd (bcomp HB3.out hw4)))
  go_ret
  exact ⟨by rw [HV.out];rfl,HB4.out⟩
 have HV:Hid (eqProg x y=true):=by show _=_;simp [eqProg,h0,h1,h2,h3,h4]
 go_enter Tryz.func11,Tryz.ntmps11
 go_wp2_with (first|(go_at_call 35;refine HA.out.mono ?_;rintro e w1 ⟨rfl,hw1⟩;obtain ⟨g0,g1,hbw⟩:=heap2_of hw1;have i2:=row_of g0 2 av rfl;have j2:=row_of g1 2 au rfl;have i3:=row_of g0 3 fv rfl;have j3:=row_of g1 3 fu rfl;have i4:=row_of g0 4 mv rfl;have j4:=row_of g1 4 mu rfl;have HB1:=Hd hbw;clear g0 g1 hbw)|(go_at_call 36;refine (equalArrs av au x.arrays y.arrays _ (H2.out.keep HB1.out) (G2.out.keep HB1.out)).mono ?_;rintro e w2 ⟨rfl,hw2⟩;have k3:=cell_keep hw2 i3;have l3:=cell_keep hw2 j3;have k4:=cell_keep hw2 i4;have l4:=cell_keep hw2 j4;have HB2:=Hd (bcomp HB1.out hw2))|(go_at_call 37;refine (equalFuncs fv fu x.funcs y.funcs _ (H3.out.keep HB2.out) (G3.out.keep HB2.out)).mono ?_;rintro e w3 ⟨rfl,hw3⟩;have n4:=cell_keep hw3 k4;have o4:=cell_keep hw3 l4;have HB3:=Hd (bcomp HB2.out hw3))|(go_at_call 38;refine (equalInstrs mv mu x.main y.main _ (H4.out.keep HB3.out) (G4.out.keep HB3.out)).mono ?_;rintro e w4 ⟨rfl,hw4⟩;have HB4:=Hd (bcomp HB3.out hw4)))
 go_ret
 exact ⟨by rw [HV.out];rfl,HB4.out⟩
open Go.ChangeShapes Go.WideShapes Go.ChangeAt Go.RowKit
theorem eqL_refl {α:Type} {f:α->α->Bool} (hf:∀ x,f x x=true) (l:List α):eqL f l l=true:=
 eqL_all f l l rfl fun k x y h1 h2=>by rw [h1] at h2;cases h2;exact hf x
theorem eqS_refl (x:ByteArray):eqS x x=true:=by simp [eqS]
theorem eqArr_refl (x:ArrD):eqArr x x=true:=by simp [eqArr]
theorem eqArg_refl (x:ArgD):eqArg x x=true:=by simp [eqArg]
theorem eqInstr_refl (x:InstrD):eqInstr x x=true:=by simp [eqInstr,eqL_refl eqArg_refl]
theorem eqFunc_refl (x:FuncD):eqFunc x x=true:=by simp [eqFunc,eqL_refl eqS_refl,eqL_refl eqInstr_refl]
theorem eqProg_refl (x:ProgD):eqProg x x=true:=by simp [eqProg,eqL_refl eqS_refl,eqL_refl eqArr_refl,eqL_refl eqFunc_refl,eqL_refl eqInstr_refl]
theorem few_codes (l:List FuncD) (h:∀ f ∈ l,f.code.length<=30):(codesOf l).length<=30 * l.length:=by
 induction l with
 | nil=>simp [codesOf]
 | cons x l ih=>
  have h1:=ih fun f hf=>h f (List.mem_cons_of_mem _ hf)
  have h2:=h x (List.mem_cons_self ..)
  have e:codesOf (x :: l)=x.code ++ codesOf l:=by simp [codesOf]
  rw [e,List.length_append,List.length_cons]
  omega
theorem few_size (p:ProgD):(codesOf (fewP p).funcs).length+(fewP p).main.length<=100000:=by
 have h1:(fewP p).funcs.length<=5:=by simp [fewP];omega
 have h2:=few_codes (fewP p).funcs fun f hf=>by
  simp only [fewP,List.mem_map] at hf
  obtain ⟨g,_,rfl⟩:=hf
  simp [fewFn,fewL];omega
 have h3:(fewP p).main.length<=30:=by simp [fewP,fewL];omega
 omega
end Go.Proofs.YtgllkgedjplpdaaGreatDoor
