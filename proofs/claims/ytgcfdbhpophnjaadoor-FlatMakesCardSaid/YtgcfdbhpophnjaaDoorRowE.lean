/- What programs without functions, traces and runs are as data, and how lists of their parts lie in memory. Condition: what comes in reads as the list. -/
import Derived.Test.YtgcfdbhpophnjaaDoorKitE
import Derived.Test.YtgcfdbhpophnjaaDoorBas
import Derived.Test.YtgcfdbhpophnjaaDoorProg
import Derived.Deep.QuietTactic
import Derived.BigQuiet
set_option linter.all false
set_option maxRecDepth 1000000
set_option maxHeartbeats 12800000
namespace Go.Proofs.YtgcfdbhpophnjaaDoor
open Go.ChangeShapes Go.WideShapes Go.ChangeAt Go.RowKit
open Go.Lib (hid)
theorem lgRowE {α:Type} {l:List α} {i:Nat} (h:i<l.length):l[i]?=some l[i]:=List.getElem?_eq_getElem h
structure RefD where
 reg:Int
 num:Int
structure CodeD where
 kind:Int
 op:Int
 dst:Int
 n:Int
 a:RefD
 b:RefD
structure FlatD where
 width:Int
 regs:Int
 chans:List ByteArray
 sites:List ByteArray
 arrays:List Int
 code:List CodeD
structure EvD where
 n:Int
 val:Int
structure TraceD where
 status:Int
 steps:Int
 outs:List EvD
 rels:List EvD
 brs:List Bool
 reads:List Int
def cellsStr (x:ByteArray):List Value:=[.string x]
abbrev kStr:Kind ByteArray:=⟨9,1,16,cellsStr,fun x=>x.size≤maxLen,fun _=>rfl,by decide⟩
theorem atStr {lo:Option (Nat→Prop)} {w:World} {a:Option Addr} {n c:Nat} {l:List ByteArray} (h:RdRow kStr lo w (.slice a n c) l) {i:Nat} {x:ByteArray} (hx:l[i]?=some x) :
  ∃ b o,a=some ⟨b,o,none⟩∧Free lo 9 w b∧w.cell? ⟨b,o+i,none⟩=some (.string x)∧(x.size≤maxLen):=by
 obtain⟨b,o,rfl,hf,hc,ho⟩:=RdRow.at h hx
 refine⟨b,o,rfl,hf,?_,ho⟩
 ·have:=hc 0 _ rfl;rwa [Nat.mul_one,Nat.add_zero] at this
def cellsInt (x:Int):List Value:=[.int .i64 x]
abbrev kInt:Kind Int:=⟨3,1,8,cellsInt,fun x=>InI64 x,fun _=>rfl,by decide⟩
theorem atInt {lo:Option (Nat→Prop)} {w:World} {a:Option Addr} {n c:Nat} {l:List Int} (h:RdRow kInt lo w (.slice a n c) l) {i:Nat} {x:Int} (hx:l[i]?=some x) :
  ∃ b o,a=some ⟨b,o,none⟩∧Free lo 3 w b∧w.cell? ⟨b,o+i,none⟩=some (.int .i64 x)∧(InI64 x):=by
 obtain⟨b,o,rfl,hf,hc,ho⟩:=RdRow.at h hx
 refine⟨b,o,rfl,hf,?_,ho⟩
 ·have:=hc 0 _ rfl;rwa [Nat.mul_one,Nat.add_zero] at this
def cellsCode (x:CodeD):List Value:=[.int .u8 x.kind,.int .u8 x.op,.int .i64 x.dst,.int .i64 x.n,.int .i64 x.a.reg,.int .u64 x.a.num,.int .i64 x.b.reg,.int .u64 x.b.num]
abbrev kCode:Kind CodeD:=⟨48,8,56,cellsCode,fun x=>InU8 x.kind∧InU8 x.op∧InI64 x.dst∧InI64 x.n∧InI64 x.a.reg∧InU64 x.a.num∧InI64 x.b.reg∧InU64 x.b.num,fun _=>rfl,by decide⟩
theorem atCode {lo:Option (Nat→Prop)} {w:World} {a:Option Addr} {n c:Nat} {l:List CodeD} (h:RdRow kCode lo w (.slice a n c) l) {i:Nat} {x:CodeD} (hx:l[i]?=some x) :
  ∃ b o,a=some ⟨b,o,none⟩∧Free lo 48 w b∧w.cell? ⟨b,o+i*8,none⟩=some (.int .u8 x.kind)∧w.cell? ⟨b,o+i*8+1,none⟩=some (.int .u8 x.op)∧w.cell? ⟨b,o+i*8+2,none⟩=some (.int .i64 x.dst)∧w.cell? ⟨b,o+i*8+3,none⟩=some (.int .i64 x.n)∧w.cell? ⟨b,o+i*8+4,none⟩=some (.int .i64 x.a.reg)∧w.cell? ⟨b,o+i*8+5,none⟩=some (.int .u64 x.a.num)∧w.cell? ⟨b,o+i*8+6,none⟩=some (.int .i64 x.b.reg)∧w.cell? ⟨b,o+i*8+7,none⟩=some (.int .u64 x.b.num)∧(InU8 x.kind∧InU8 x.op∧InI64 x.dst∧InI64 x.n∧InI64 x.a.reg∧InU64 x.a.num∧InI64 x.b.reg∧InU64 x.b.num):=by
 obtain⟨b,o,rfl,hf,hc,ho⟩:=RdRow.at h hx
 refine⟨b,o,rfl,hf,?_,?_,?_,?_,?_,?_,?_,?_,ho⟩
 ·have:=hc 0 _ rfl;exact this
 ·have:=hc 1 _ rfl;exact this
 ·have:=hc 2 _ rfl;exact this
 ·have:=hc 3 _ rfl;exact this
 ·have:=hc 4 _ rfl;exact this
 ·have:=hc 5 _ rfl;exact this
 ·have:=hc 6 _ rfl;exact this
 ·have:=hc 7 _ rfl;exact this
def RdFlat (lo:Option (Nat→Prop)) (w:World) (f:FlatD) (cv sv av kv:Value):Prop:=
 RdRow kStr lo w cv f.chans∧RdRow kStr lo w sv f.sites∧RdRow kInt lo w av f.arrays∧RdRow kCode lo w kv f.code∧InI64 f.width∧InI64 f.regs
theorem RdFlat.keep {lo:Option (Nat→Prop)} {w w':World} {f:FlatD} {cv sv av kv:Value} (h:RdFlat lo w f cv sv av kv) (k:Below w.heap.size w w'):RdFlat lo w' f cv sv av kv:=
 ⟨h.1.keep k,h.2.1.keep k,h.2.2.1.keep k,h.2.2.2.1.keep k,h.2.2.2.2⟩
theorem RdFlat.forget {lo:Option (Nat→Prop)} {w:World} {f:FlatD} {cv sv av kv:Value} (h:RdFlat lo w f cv sv av kv):RdFlat none w f cv sv av kv:=
 ⟨h.1.forget,h.2.1.forget,h.2.2.1.forget,h.2.2.2.1.forget,h.2.2.2.2⟩
abbrev flatV (f:FlatD) (cv sv av kv:Value):Value:=.agg #[.int .i64 f.width,.int .i64 f.regs,cv,sv,av,kv]
theorem infoCode:(Tryd.prog.info? 48).map (fun i=>(i.zero,i.size,i.bytes))=some (some (.agg #[.int .u8 0,.int .u8 0,.int .i64 0,.int .i64 0,.int .i64 0,.int .u64 0,.int .i64 0,.int .u64 0]),8,56):=by kernel_rfl
def eqStr (x y:ByteArray):Bool:=x.toList==y.toList
theorem eqStr_cases (x y:ByteArray):(eqStr x y=true∧(x.toList==y.toList)=true∧True) ∨ (eqStr x y=false∧(x.toList==y.toList)=false∧True):=by
 unfold eqStr
 cases (x.toList==y.toList) <;> simp
theorem equalStr (av bv:Value) (l m:List ByteArray) (w:World) (h:RdRow kStr none w av l) (g:RdRow kStr none w bv m) :
  Calls Tryd.prog 22 #[av,bv] w fun e w'=>e=.returned (.bool (eqL eqStr l m))∧Below w.heap.size w w':=by
 obtain⟨a,c,rfl⟩:=h.is
 obtain⟨a2,c2,rfl⟩:=g.is
 have hl:l.length*16≤140737488351232:=h.size
 have HR:=hid h
 have GR:=hid g
 clear h g
 by_cases hlen:l.length=m.length
 ·have he:((l.length:Int) != (m.length:Int))=false:=by rw[hlen];simp
  have HL:=hid hlen
  clear hlen
  go_enter Tryd.func22,Tryd.ntmps22
  go_wp2
  go_loopw [5] (fun i wr=>∃ k:Nat,k≤l.length∧i=.int .i64 k∧Hid (∀ (j:Nat) x y,j<k→l[j]?=some x→m[j]?=some y→eqStr x y=true)∧Below w.heap.size w wr) (fun i _=>l.length-(intOf i).toNat)
  case atStart=>exact⟨0,Nat.zero_le _,rfl,(fun j x y h=>by omega),Below.refl _ _⟩
  case round=>
   obtain⟨k,hk,rfl,hq,hb⟩:=hrel
   by_cases hlt:k<l.length
   ·have hlt2:k<m.length:=by rw[← HL.out];exact hlt
    obtain⟨x,hx⟩:∃ x,l[k]?=some x:=⟨_,lgRowE hlt⟩
    obtain⟨y,hy⟩:∃ y,m[k]?=some y:=⟨_,lgRowE hlt2⟩
    obtain⟨b,o,rfl,_,c0,_⟩:=atStr HR.out hx
    obtain⟨b2,o2,rfl,_,d0,_⟩:=atStr GR.out hy
    have c0':=cell_keepB hb c0 (block_lt_of_cell c0)
    have d0':=cell_keepB hb d0 (block_lt_of_cell d0)
    have HX:=hid (And.intro hx hy)
    have hi1:(k:Int)<(l.length:Int):=by omega
    have hi2:(k:Int)<(m.length:Int):=by omega
    clear c0 d0 hx hy
    rcases eqStr_cases x y with ⟨hv,h0,h1⟩|⟨hv,h0,h1⟩
    ·have HV:=hid hv
     clear hv
     go_wp2_with fail
     go_quiet (fail)
     go_wp2
     go_roundw
     case rel=>
      refine⟨k+1,by omega,by go_num,?_,below_drewN hb _⟩
      intro j x' y' hj g1 g2
      rcases Nat.lt_or_ge j k with h|h
      ·exact hq.out j x' y' h g1 g2
      ·obtain rfl:j=k:=by omega
       rw[HX.out.1] at g1;rw[HX.out.2] at g2
       cases g1;cases g2;exact HV.out
     case measure=>simp[intOf];omega
    all_goals
     have HV:=hid hv
     clear hv
     go_wp2_with fail
     go_quiet (fail)
     go_wp2
     go_ret
     exact⟨by rw[eqL_miss eqStr l m k x y HX.out.1 HX.out.2 HV.out];rfl,below_drewN hb _⟩
   ·obtain rfl:k=l.length:=by omega
    go_wp2
    go_ret
    refine⟨?_,hb⟩
    rw[eqL_all eqStr l m HL.out (fun j x y g1 g2=>hq.out j x y (List.getElem?_eq_some_iff.1 g1).1 g1 g2)];rfl
 ·have he:((l.length:Int) != (m.length:Int))=true:=by rw[bne_iff_ne];omega
  have HL:=hid (eqL_len eqStr l m hlen)
  clear hlen
  go_enter Tryd.func22,Tryd.ntmps22
  go_wp2
  go_ret
  exact⟨by rw[HL.out];rfl,Below.refl _ _⟩
def eqInt (x y:Int):Bool:=x==y
theorem eqInt_cases (x y:Int):(eqInt x y=true∧x=y∧True) ∨ (eqInt x y=false∧¬ x=y∧True):=by
 unfold eqInt
 by_cases h0:x=y
 rotate_left
 ·simp[h0]
 simp[h0]
theorem equalInt (av bv:Value) (l m:List Int) (w:World) (h:RdRow kInt none w av l) (g:RdRow kInt none w bv m) :
  Calls Tryd.prog 41 #[av,bv] w fun e w'=>e=.returned (.bool (eqL eqInt l m))∧Below w.heap.size w w':=by
 obtain⟨a,c,rfl⟩:=h.is
 obtain⟨a2,c2,rfl⟩:=g.is
 have hl:l.length*8≤140737488351232:=h.size
 have HR:=hid h
 have GR:=hid g
 clear h g
 by_cases hlen:l.length=m.length
 ·have he:((l.length:Int) != (m.length:Int))=false:=by rw[hlen];simp
  have HL:=hid hlen
  clear hlen
  go_enter Tryd.func41,Tryd.ntmps41
  go_wp2
  go_loopw [5] (fun i wr=>∃ k:Nat,k≤l.length∧i=.int .i64 k∧Hid (∀ (j:Nat) x y,j<k→l[j]?=some x→m[j]?=some y→eqInt x y=true)∧Below w.heap.size w wr) (fun i _=>l.length-(intOf i).toNat)
  case atStart=>exact⟨0,Nat.zero_le _,rfl,(fun j x y h=>by omega),Below.refl _ _⟩
  case round=>
   obtain⟨k,hk,rfl,hq,hb⟩:=hrel
   by_cases hlt:k<l.length
   ·have hlt2:k<m.length:=by rw[← HL.out];exact hlt
    obtain⟨x,hx⟩:∃ x,l[k]?=some x:=⟨_,lgRowE hlt⟩
    obtain⟨y,hy⟩:∃ y,m[k]?=some y:=⟨_,lgRowE hlt2⟩
    obtain⟨b,o,rfl,_,c0,_⟩:=atInt HR.out hx
    obtain⟨b2,o2,rfl,_,d0,_⟩:=atInt GR.out hy
    have c0':=cell_keepB hb c0 (block_lt_of_cell c0)
    have d0':=cell_keepB hb d0 (block_lt_of_cell d0)
    have HX:=hid (And.intro hx hy)
    have hi1:(k:Int)<(l.length:Int):=by omega
    have hi2:(k:Int)<(m.length:Int):=by omega
    clear c0 d0 hx hy
    rcases eqInt_cases x y with ⟨hv,h0,h1⟩|⟨hv,h0,h1⟩
    ·have HV:=hid hv
     clear hv
     go_wp2_with fail
     go_quiet (fail)
     go_wp2
     go_roundw
     case rel=>
      refine⟨k+1,by omega,by go_num,?_,below_drewN hb _⟩
      intro j x' y' hj g1 g2
      rcases Nat.lt_or_ge j k with h|h
      ·exact hq.out j x' y' h g1 g2
      ·obtain rfl:j=k:=by omega
       rw[HX.out.1] at g1;rw[HX.out.2] at g2
       cases g1;cases g2;exact HV.out
     case measure=>simp[intOf];omega
    all_goals
     have HV:=hid hv
     clear hv
     go_wp2_with fail
     go_quiet (fail)
     go_wp2
     go_ret
     exact⟨by rw[eqL_miss eqInt l m k x y HX.out.1 HX.out.2 HV.out];rfl,below_drewN hb _⟩
   ·obtain rfl:k=l.length:=by omega
    go_wp2
    go_ret
    refine⟨?_,hb⟩
    rw[eqL_all eqInt l m HL.out (fun j x y g1 g2=>hq.out j x y (List.getElem?_eq_some_iff.1 g1).1 g1 g2)];rfl
 ·have he:((l.length:Int) != (m.length:Int))=true:=by rw[bne_iff_ne];omega
  have HL:=hid (eqL_len eqInt l m hlen)
  clear hlen
  go_enter Tryd.func41,Tryd.ntmps41
  go_wp2
  go_ret
  exact⟨by rw[HL.out];rfl,Below.refl _ _⟩
def eqCode (x y:CodeD):Bool:=x.kind==y.kind&&x.op==y.op&&x.dst==y.dst&&x.n==y.n&&x.a.reg==y.a.reg&&x.a.num==y.a.num&&x.b.reg==y.b.reg&&x.b.num==y.b.num
theorem eqCode_cases (x y:CodeD):(eqCode x y=true∧x.kind=y.kind∧x.op=y.op∧x.dst=y.dst∧x.n=y.n∧x.a.reg=y.a.reg∧x.a.num=y.a.num∧x.b.reg=y.b.reg∧x.b.num=y.b.num) ∨ (eqCode x y=false∧¬ x.kind=y.kind∧True∧True∧True∧True∧True∧True∧True) ∨ (eqCode x y=false∧x.kind=y.kind∧¬ x.op=y.op∧True∧True∧True∧True∧True∧True) ∨ (eqCode x y=false∧x.kind=y.kind∧x.op=y.op∧¬ x.dst=y.dst∧True∧True∧True∧True∧True) ∨ (eqCode x y=false∧x.kind=y.kind∧x.op=y.op∧x.dst=y.dst∧¬ x.n=y.n∧True∧True∧True∧True) ∨ (eqCode x y=false∧x.kind=y.kind∧x.op=y.op∧x.dst=y.dst∧x.n=y.n∧¬ x.a.reg=y.a.reg∧True∧True∧True) ∨ (eqCode x y=false∧x.kind=y.kind∧x.op=y.op∧x.dst=y.dst∧x.n=y.n∧x.a.reg=y.a.reg∧¬ x.a.num=y.a.num∧True∧True) ∨ (eqCode x y=false∧x.kind=y.kind∧x.op=y.op∧x.dst=y.dst∧x.n=y.n∧x.a.reg=y.a.reg∧x.a.num=y.a.num∧¬ x.b.reg=y.b.reg∧True) ∨ (eqCode x y=false∧x.kind=y.kind∧x.op=y.op∧x.dst=y.dst∧x.n=y.n∧x.a.reg=y.a.reg∧x.a.num=y.a.num∧x.b.reg=y.b.reg∧¬ x.b.num=y.b.num):=by
 unfold eqCode
 by_cases h0:x.kind=y.kind
 rotate_left
 ·simp[h0]
 by_cases h1:x.op=y.op
 rotate_left
 ·simp[h0,h1]
 by_cases h2:x.dst=y.dst
 rotate_left
 ·simp[h0,h1,h2]
 by_cases h3:x.n=y.n
 rotate_left
 ·simp[h0,h1,h2,h3]
 by_cases h4:x.a.reg=y.a.reg
 rotate_left
 ·simp[h0,h1,h2,h3,h4]
 by_cases h5:x.a.num=y.a.num
 rotate_left
 ·simp[h0,h1,h2,h3,h4,h5]
 by_cases h6:x.b.reg=y.b.reg
 rotate_left
 ·simp[h0,h1,h2,h3,h4,h5,h6]
 by_cases h7:x.b.num=y.b.num
 rotate_left
 ·simp[h0,h1,h2,h3,h4,h5,h6,h7]
 simp[h0,h1,h2,h3,h4,h5,h6,h7]
theorem equalCode (av bv:Value) (l m:List CodeD) (w:World) (h:RdRow kCode none w av l) (g:RdRow kCode none w bv m) :
  Calls Tryd.prog 42 #[av,bv] w fun e w'=>e=.returned (.bool (eqL eqCode l m))∧Below w.heap.size w w':=by
 obtain⟨a,c,rfl⟩:=h.is
 obtain⟨a2,c2,rfl⟩:=g.is
 have hl:l.length*56≤140737488351232:=h.size
 have HR:=hid h
 have GR:=hid g
 clear h g
 by_cases hlen:l.length=m.length
 ·have he:((l.length:Int) != (m.length:Int))=false:=by rw[hlen];simp
  have HL:=hid hlen
  clear hlen
  go_enter Tryd.func42,Tryd.ntmps42
  go_wp2
  go_loopw [5] (fun i wr=>∃ k:Nat,k≤l.length∧i=.int .i64 k∧Hid (∀ (j:Nat) x y,j<k→l[j]?=some x→m[j]?=some y→eqCode x y=true)∧Below w.heap.size w wr) (fun i _=>l.length-(intOf i).toNat)
  case atStart=>exact⟨0,Nat.zero_le _,rfl,(fun j x y h=>by omega),Below.refl _ _⟩
  case round=>
   obtain⟨k,hk,rfl,hq,hb⟩:=hrel
   by_cases hlt:k<l.length
   ·have hlt2:k<m.length:=by rw[← HL.out];exact hlt
    obtain⟨x,hx⟩:∃ x,l[k]?=some x:=⟨_,lgRowE hlt⟩
    obtain⟨y,hy⟩:∃ y,m[k]?=some y:=⟨_,lgRowE hlt2⟩
    obtain⟨b,o,rfl,_,c0,c1,c2,c3,c4,c5,c6,c7,_⟩:=atCode HR.out hx
    obtain⟨b2,o2,rfl,_,d0,d1,d2,d3,d4,d5,d6,d7,_⟩:=atCode GR.out hy
    have c0':=cell_keepB hb c0 (block_lt_of_cell c0)
    have d0':=cell_keepB hb d0 (block_lt_of_cell d0)
    have c1':=cell_keepB hb c1 (block_lt_of_cell c1)
    have d1':=cell_keepB hb d1 (block_lt_of_cell d1)
    have c2':=cell_keepB hb c2 (block_lt_of_cell c2)
    have d2':=cell_keepB hb d2 (block_lt_of_cell d2)
    have c3':=cell_keepB hb c3 (block_lt_of_cell c3)
    have d3':=cell_keepB hb d3 (block_lt_of_cell d3)
    have c4':=cell_keepB hb c4 (block_lt_of_cell c4)
    have d4':=cell_keepB hb d4 (block_lt_of_cell d4)
    have c5':=cell_keepB hb c5 (block_lt_of_cell c5)
    have d5':=cell_keepB hb d5 (block_lt_of_cell d5)
    have c6':=cell_keepB hb c6 (block_lt_of_cell c6)
    have d6':=cell_keepB hb d6 (block_lt_of_cell d6)
    have c7':=cell_keepB hb c7 (block_lt_of_cell c7)
    have d7':=cell_keepB hb d7 (block_lt_of_cell d7)
    have HX:=hid (And.intro hx hy)
    have hi1:(k:Int)<(l.length:Int):=by omega
    have hi2:(k:Int)<(m.length:Int):=by omega
    clear c0 d0 c1 d1 c2 d2 c3 d3 c4 d4 c5 d5 c6 d6 c7 d7 hx hy
    rcases eqCode_cases x y with ⟨hv,h0,h1,h2,h3,h4,h5,h6,h7⟩|⟨hv,h0,h1,h2,h3,h4,h5,h6,h7⟩|⟨hv,h0,h1,h2,h3,h4,h5,h6,h7⟩|⟨hv,h0,h1,h2,h3,h4,h5,h6,h7⟩|⟨hv,h0,h1,h2,h3,h4,h5,h6,h7⟩|⟨hv,h0,h1,h2,h3,h4,h5,h6,h7⟩|⟨hv,h0,h1,h2,h3,h4,h5,h6,h7⟩|⟨hv,h0,h1,h2,h3,h4,h5,h6,h7⟩|⟨hv,h0,h1,h2,h3,h4,h5,h6,h7⟩
    ·have HV:=hid hv
     clear hv
     go_wp2_with fail
     go_quiet (fail)
     go_wp2
     go_roundw
     case rel=>
      refine⟨k+1,by omega,by go_num,?_,below_drewN hb _⟩
      intro j x' y' hj g1 g2
      rcases Nat.lt_or_ge j k with h|h
      ·exact hq.out j x' y' h g1 g2
      ·obtain rfl:j=k:=by omega
       rw[HX.out.1] at g1;rw[HX.out.2] at g2
       cases g1;cases g2;exact HV.out
     case measure=>simp[intOf];omega
    all_goals
     have HV:=hid hv
     clear hv
     go_wp2_with fail
     go_quiet (fail)
     go_wp2
     go_ret
     exact⟨by rw[eqL_miss eqCode l m k x y HX.out.1 HX.out.2 HV.out];rfl,below_drewN hb _⟩
   ·obtain rfl:k=l.length:=by omega
    go_wp2
    go_ret
    refine⟨?_,hb⟩
    rw[eqL_all eqCode l m HL.out (fun j x y g1 g2=>hq.out j x y (List.getElem?_eq_some_iff.1 g1).1 g1 g2)];rfl
 ·have he:((l.length:Int) != (m.length:Int))=true:=by rw[bne_iff_ne];omega
  have HL:=hid (eqL_len eqCode l m hlen)
  clear hlen
  go_enter Tryd.func42,Tryd.ntmps42
  go_wp2
  go_ret
  exact⟨by rw[HL.out];rfl,Below.refl _ _⟩
end Go.Proofs.YtgcfdbhpophnjaaDoor
