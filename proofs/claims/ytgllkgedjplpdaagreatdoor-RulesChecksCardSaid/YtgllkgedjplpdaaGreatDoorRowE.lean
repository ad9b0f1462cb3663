/- What programs without functions, traces and runs are as data, and how lists of their parts lie in memory. Condition: what comes in reads as the list. -/
import Derived.Test.YtgllkgedjplpdaaGreatDoorKitE
import Derived.Test.YtgllkgedjplpdaaGreatDoorBas
import Derived.Test.YtgllkgedjplpdaaGreatDoorProg
import Derived.Deep.QuietTactic
import Derived.BigQuiet
set_option linter.all false
set_option maxRecDepth 1000000
set_option maxHeartbeats 12800000
namespace Go.Proofs.YtgllkgedjplpdaaGreatDoor
open Go.ChangeShapes Go.WideShapes Go.ChangeAt Go.RowKit
structure RefD where
 reg:Int
 num:Int
structure CodeD where
 kind:Int
 op:Int
 dst:Int
 n:Int
 a:RefD
 b:RefD
structure FlatD where
 width:Int
 regs:Int
 chans:List ByteArray
 sites:List ByteArray
 arrays:List Int
 code:List CodeD
structure EvD where
 n:Int
 val:Int
structure TraceD where
 status:Int
 steps:Int
 outs:List EvD
 rels:List EvD
 brs:List Bool
 reads:List Int
def cellsStr (x:ByteArray):List Value:=[.string x]
abbrev kStr:Kind ByteArray:=⟨9,1,16,cellsStr,fun x=>x.size<=maxLen,fun _=>rfl,by decide⟩
theorem atStr {lo:Option (Nat->Prop)} {w:World} {a:Option Addr} {n c:Nat} {l:List ByteArray} (h:RdRow kStr lo w (.slice a n c) l) {i:Nat} {x:ByteArray} (hx:l[i]?=some x) :
  ∃ b o,a=some ⟨b,o,none⟩/\Free lo 9 w b/\w.cell? ⟨b,o+i,none⟩=some (.string x)/\(x.size<=maxLen):=by
 obtain ⟨b,o,rfl,hf,hc,ho⟩:=RdRow.at h hx
 refine ⟨b,o,rfl,hf,?_,ho⟩
 ·have:=hc 0 _ rfl;rwa [Nat.mul_one,Nat.add_zero] at this
def cellsInt (x:Int):List Value:=[.int .i64 x]
abbrev kInt:Kind Int:=⟨3,1,8,cellsInt,fun x=>InI64 x,fun _=>rfl,by decide⟩
theorem atInt {lo:Option (Nat->Prop)} {w:World} {a:Option Addr} {n c:Nat} {l:List Int} (h:RdRow kInt lo w (.slice a n c) l) {i:Nat} {x:Int} (hx:l[i]?=some x) :
  ∃ b o,a=some ⟨b,o,none⟩/\Free lo 3 w b/\w.cell? ⟨b,o+i,none⟩=some (.int .i64 x)/\(InI64 x):=by
 obtain ⟨b,o,rfl,hf,hc,ho⟩:=RdRow.at h hx
 refine ⟨b,o,rfl,hf,?_,ho⟩
 ·have:=hc 0 _ rfl;rwa [Nat.mul_one,Nat.add_zero] at this
def cellsCode (x:CodeD):List Value:=[.int .u8 x.kind,.int .u8 x.op,.int .i64 x.dst,.int .i64 x.n,.int .i64 x.a.reg,.int .u64 x.a.num,.int .i64 x.b.reg,.int .u64 x.b.num]
abbrev kCode:Kind CodeD:=⟨58,8,56,cellsCode,fun x=>InU8 x.kind/\InU8 x.op/\InI64 x.dst/\InI64 x.n/\InI64 x.a.reg/\InU64 x.a.num/\InI64 x.b.reg/\InU64 x.b.num,fun _=>rfl,by decide⟩
theorem atCode {lo:Option (Nat->Prop)} {w:World} {a:Option Addr} {n c:Nat} {l:List CodeD} (h:RdRow kCode lo w (.slice a n c) l) {i:Nat} {x:CodeD} (hx:l[i]?=some x) :
  ∃ b o,a=some ⟨b,o,none⟩/\Free lo 58 w b/\w.cell? ⟨b,o+i * 8,none⟩=some (.int .u8 x.kind)/\w.cell? ⟨b,o+i * 8+1,none⟩=some (.int .u8 x.op)/\w.cell? ⟨b,o+i * 8+2,none⟩=some (.int .i64 x.dst)/\w.cell? ⟨b,o+i * 8+3,none⟩=some (.int .i64 x.n)/\w.cell? ⟨b,o+i * 8+4,none⟩=some (.int .i64 x.a.reg)/\w.cell? ⟨b,o+i * 8+5,none⟩=some (.int .u64 x.a.num)/\w.cell? ⟨b,o+i * 8+6,none⟩=some (.int .i64 x.b.reg)/\w.cell? ⟨b,o+i * 8+7,none⟩=some (.int .u64 x.b.num)/\(InU8 x.kind/\InU8 x.op/\InI64 x.dst/\InI64 x.n/\InI64 x.a.reg/\InU64 x.a.num/\InI64 x.b.reg/\InU64 x.b.num):=by
 obtain ⟨b,o,rfl,hf,hc,ho⟩:=RdRow.at h hx
 refine ⟨b,o,rfl,hf,?_,?_,?_,?_,?_,?_,?_,?_,ho⟩
 ·have:=hc 0 _ rfl;exact this
 ·have:=hc 1 _ rfl;exact this
 ·have:=hc 2 _ rfl;exact this
 ·have:=hc 3 _ rfl;exact this
 ·have:=hc 4 _ rfl;exact this
 ·have:=hc 5 _ rfl;exact this
 ·have:=hc 6 _ rfl;exact this
 ·have:=hc 7 _ rfl;exact this
def RdFlat (lo:Option (Nat->Prop)) (w:World) (f:FlatD) (cv sv av kv:Value):Prop:=
 RdRow kStr lo w cv f.chans/\RdRow kStr lo w sv f.sites/\RdRow kInt lo w av f.arrays/\RdRow kCode lo w kv f.code/\InI64 f.width/\InI64 f.regs
theorem RdFlat.keep {lo:Option (Nat->Prop)} {w w':World} {f:FlatD} {cv sv av kv:Value} (h:RdFlat lo w f cv sv av kv) (k:Below w.heap.size w w'):RdFlat lo w' f cv sv av kv:=
 ⟨h.1.keep k,h.2.1.keep k,h.2.2.1.keep k,h.2.2.2.1.keep k,h.2.2.2.2⟩
theorem RdFlat.forget {lo:Option (Nat->Prop)} {w:World} {f:FlatD} {cv sv av kv:Value} (h:RdFlat lo w f cv sv av kv):RdFlat none w f cv sv av kv:=
 ⟨h.1.forget,h.2.1.forget,h.2.2.1.forget,h.2.2.2.1.forget,h.2.2.2.2⟩
abbrev flatV (f:FlatD) (cv sv av kv:Value):Value:=.agg #[.int .i64 f.width,.int .i64 f.regs,cv,sv,av,kv]
open Go.ChangeShapes Go.WideShapes Go.ChangeAt Go.RowKit
theorem copyStr (av:Value) (l:List ByteArray) (w:World) (h:RdRow kStr none w av l) :
  Calls Tryz.prog 17 #[av] w fun e w'=>∃ v,e=.returned v/\w'.ownsRow w.heap.size 9 1 v l.length (l.flatMap cellsStr)/\RdRow kStr (some (upFrom w.heap.size)) w' v l/\Below w.heap.size w w':=by
 obtain ⟨a,c,rfl⟩:=h.is
 obtain ⟨i0,hi,hz0,hz1,hz2⟩:=info_parts infoStr
 have hok:Hid (∀ s ∈ l,kStr.ok s):=h.ok
 have hl:l.length * 16<=140737488351232:=h.size
 have HR:=Hd h
 clear h
 go_enter Tryz.func17,Tryz.ntmps17
 go_wp2
 go_loopw [3,4] (fun v i wr=>∃ k:Nat,k<=l.length/\i=.int .i64 k/\wr.ownsRow w.heap.size 9 1 v k ((l.take k).flatMap cellsStr)/\Below w.heap.size w wr) (fun _ i _=>l.length - (intOf i).toNat)
 case atStart=>exact ⟨0,Nat.zero_le _,rfl,World.ownsRow_nil _ _ _ _,bR _ _⟩
 case round=>
  obtain ⟨k,hk,rfl,hown,hb⟩:=hrel
  by_cases hlt:k<l.length
  ·obtain ⟨x,hx⟩:∃ x,l[k]?=some x:=⟨_,lG hlt⟩
   obtain ⟨b,o,rfl,_,c0,_⟩:=atStr HR.out hx
   have c0':=cell_keepB hb c0 (block_lt_of_cell c0)
   have HX:=Hd (flat_take cellsStr l k x hx)
   clear c0
   have hsz:=hb.size
   clear hx
   go_wp2_with (at_builtin;refine wpList_append_own _ rfl (.tmp 11) (.tmp 16) 22 rfl w.heap.size 9 i0 (.string ⟨#[]⟩) 1 16 Tryz.underlying22 hi hz0 hz1 hz2 rfl (by decide) _ _ _ rfl (hown.alloc _) ⟨wr.heap.size,0,none⟩ 1 1 (cellsStr x) rfl rfl (many_new _ _ _) ?c2 ?c3 ?c4 ?c5 ?_)
   case c2=>intro u hu;simp [cellsStr] at hu;first|(rcases hu with rfl|rfl|rfl|rfl|rfl|rfl|rfl|rfl <;> rfl)|(rcases hu with rfl|rfl <;> rfl)|(subst hu;rfl)
   case c3=>unfold maxLen;omega
   case c4=>omega
   case c5=>simp;omega
   ·intro v' w1 hown' hgrow _
    rw [<- HX.out] at hown'
    have hb1:=(hb.alloc hb.size (.cells (cellsStr x).toArray 9)).grown hgrow (by simp;omega) (own_row_le hown)
    clear hown
    go_wp2
    go_roundw
    case rel=>exact ⟨k+1,by omega,by go_num,hown',hb1⟩
    case measure=>simp [intOf];omega
  ·obtain rfl:k=l.length:=by omega
   rw [List.take_length] at hown
   go_wp2
   go_ret
   exact ⟨_,rfl,hown,own_rows (K:=kStr) hown hl hok.out,hb⟩
theorem infoIntM:(Tryz.prog.info? 3).map (fun i=>(i.zero,i.size,i.bytes))=some (some (.int .i64 0),1,8):=by kernel_rfl
theorem infoCode:(Tryz.prog.info? 58).map (fun i=>(i.zero,i.size,i.bytes))=some (some (.agg #[.int .u8 0,.int .u8 0,.int .i64 0,.int .i64 0,.int .i64 0,.int .u64 0,.int .i64 0,.int .u64 0]),8,56):=by kernel_rfl
open Go.ChangeShapes Go.WideShapes Go.ChangeAt Go.RowKit
def eqInt (x y:Int):Bool:=x == y
theorem eqInt_cases (x y:Int):(eqInt x y=true/\x=y/\True) \/ (eqInt x y=false/\¬ x=y/\True):=by
 unfold eqInt
 by_cases h0:x=y
 rotate_left
 ·simp [h0]
 simp [h0]
theorem equalInt (av bv:Value) (l m:List Int) (w:World) (h:RdRow kInt none w av l) (g:RdRow kInt none w bv m) :
  Calls Tryz.prog 43 #[av,bv] w fun e w'=>e=.returned (.bool (eqL eqInt l m))/\Below w.heap.size w w':=by
 obtain ⟨a,c,rfl⟩:=h.is
 obtain ⟨a2,c2,rfl⟩:=g.is
 have hl:l.length * 8<=140737488351232:=h.size
 have HR:=Hd h
 have GR:=Hd g
 clear h g
 by_cases hlen:l.length=m.length
 ·have he:((l.length:Int) != (m.length:Int))=false:=by rw [hlen];simp
  have HL:=Hd hlen
  clear hlen
  go_enter Tryz.func43,Tryz.ntmps43
  go_wp2
  go_loopw [5] (fun i wr=>∃ k:Nat,k<=l.length/\i=.int .i64 k/\Hid (∀ (j:Nat) x y,j<k->l[j]?=some x->m[j]?=some y->eqInt x y=true)/\Below w.heap.size w wr) (fun i _=>l.length - (intOf i).toNat)
  case atStart=>exact ⟨0,Nat.zero_le _,rfl,(fun j x y h=>by omega),bR _ _⟩
  case round=>
   obtain ⟨k,hk,rfl,hq,hb⟩:=hrel
   by_cases hlt:k<l.length
   ·have hlt2:k<m.length:=by rw [<- HL.out];exact hlt
    obtain ⟨x,hx⟩:∃ x,l[k]?=some x:=⟨_,lG hlt⟩
    obtain ⟨y,hy⟩:∃ y,m[k]?=some y:=⟨_,lG hlt2⟩
    obtain ⟨b,o,rfl,_,c0,_⟩:=atInt HR.out hx
    obtain ⟨b2,o2,rfl,_,d0,_⟩:=atInt GR.out hy
    have c0':=cell_keepB hb c0 (block_lt_of_cell c0)
    have d0':=cell_keepB hb d0 (block_lt_of_cell d0)
    have HX:=Hd (And.intro hx hy)
    have hi1:(k:Int)<(l.length:Int):=by omega
    have hi2:(k:Int)<(m.length:Int):=by omega
    clear c0 d0 hx hy
    rcases eqInt_cases x y with ⟨hv,h0,h1⟩|⟨hv,h0,h1⟩
    ·have HV:=Hd hv
     clear hv
     go_wp2_with fail
     go_quiet (fail)
     go_wp2
     go_roundw
     case rel=>
      refine ⟨k+1,by omega,by go_num,?_,below_drewN hb _⟩
      intro j x' y' hj g1 g2
      rcases Nat.lt_or_ge j k with h|h
      ·exact hq.out j x' y' h g1 g2
      ·obtain rfl:j=k:=by omega
       rw [HX.out.1] at g1;rw [HX.out.2] at g2
       cases g1;cases g2;exact HV.out
     case measure=>simp [intOf];omega
    all_goals
     have HV:=Hd hv
     clear hv
     go_wp2_with fail
     go_quiet (fail)
     go_wp2
     go_ret
     exact ⟨by rw [eqL_miss eqInt l m k x y HX.out.1 HX.out.2 HV.out];rfl,below_drewN hb _⟩
   ·obtain rfl:k=l.length:=by omega
    go_wp2
    go_ret
    refine ⟨?_,hb⟩
    rw [eqL_all eqInt l m HL.out (fun j x y g1 g2=>hq.out j x y (lE g1).1 g1 g2)];rfl
 ·have he:((l.length:Int) != (m.length:Int))=true:=by rw [bne_iff_ne];omega
  have HL:=Hd (eqL_len eqInt l m hlen)
  clear hlen
  go_enter Tryz.func43,Tryz.ntmps43
  go_wp2
  go_ret
  exact ⟨by rw [HL.out];rfl,bR _ _⟩
end Go.Proofs.YtgllkgedjplpdaaGreatDoor
