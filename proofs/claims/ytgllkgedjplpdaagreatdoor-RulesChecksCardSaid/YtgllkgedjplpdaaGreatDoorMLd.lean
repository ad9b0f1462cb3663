/- Contracts of the reference's words: called in whatever memory they return numbers that are equal to those of the program's, modulo 2 to the power of the width, and write nothing that was there. Conditions: the width is one from 1 to 64, the operator one of those with one or two arguments, and as many numbers come in. -/
import Derived.Test.YtgllkgedjplpdaaGreatDoorMWd
import Derived.Test.YtgllkgedjplpdaaGreatDoorMix
import Derived.Test.YtgllkgedjplpdaaGreatDoorMNm
set_option linter.all false
set_option maxRecDepth 1000000
set_option maxHeartbeats 12800000
namespace Go.Proofs.YtgllkgedjplpdaaGreatDoor
open Go.ChangeShapes Go.WideShapes Go.ChangeAt Go.RowKit
theorem pow_in (n:Nat) (h2:n<64):IntKind.u64.wrap (2 ^ n)=(2:Int) ^ n:=by
 have:=pow_lt n h2
 have h0:(0:Int)<2 ^ n:=Int.pow_pos (by decide)
 rw [IntKind.wrap_u64];exact Int.emod_eq_of_lt (by omega) (by omega)
open Go.ChangeShapes Go.WideShapes Go.ChangeAt Go.RowKit
open Go.ChangeShapes Go.WideShapes Go.ChangeAt Go.RowKit
def shapeL:List (Bool × Bool × Bool × Int):=[(true,true,false,0),(true,true,true,0),(true,true,false,1),(false,true,true,1),(true,false,false,2),(false,true,false,2),(true,true,false,3),(false,false,false,4),(false,true,false,4),(false,false,false,0)]
structure LaidM (w:World):Prop where
 shapes:∀ k x,shapeL[k]?=some x->w.cell? ⟨0,k * 4,none⟩=some (.bool x.1)/\w.cell? ⟨0,k * 4+1,none⟩=some (.bool x.2.1)/\w.cell? ⟨0,k * 4+2,none⟩=some (.bool x.2.2.1)/\w.cell? ⟨0,k * 4+3,none⟩=some (.int .i64 x.2.2.2)
theorem LaidM.keep {w w':World} (h:LaidM w) (k:Below w.heap.size w w'):LaidM w':=
 ⟨fun i x hx=>by obtain ⟨h1,h2,h3,h4⟩:=h.shapes i x hx;exact ⟨cell_keep k h1,cell_keep k h2,cell_keep k h3,cell_keep k h4⟩⟩
def refOk (f:FlatD) (r:RefD) (has:Bool):Bool:=
 if has then (if r.reg == -1 then decide (r.num<2 ^ f.width.toNat) else decide (0<=r.reg) && decide (r.reg<f.regs) && r.num == 0) else r.reg == 0 && r.num == 0
def dstK (k:Int):Bool:=k == 0 || k == 1 || k == 2 || k == 4 || k == 6
def aK (k:Int):Bool:=k == 0 || k == 1 || k == 2 || k == 3 || k == 5 || k == 6 || k == 8
def bK (k op:Int):Bool:=k == 3 || (k == 1 && decide (4<=op))
def mostF (f:FlatD) (k:Int):Int:=if k == 2 || k == 3 then f.arrays.length else if k == 4 || k == 5 then f.chans.length else if k == 6 then f.sites.length else if k == 7 || k == 8 then f.code.length else 1
def codeOk (f:FlatD) (c:CodeD):Bool:=
 decide (c.kind<=9) && (if c.kind == 1 then decide (2<=c.op) && decide (c.op<=20) else c.op == 0) && (decide (0<=c.n) && decide (c.n<mostF f c.kind)) &&
  (if dstK c.kind then decide (0<=c.dst) && decide (c.dst<f.regs) else c.dst == 0) && refOk f c.a (aK c.kind) && refOk f c.b (bK c.kind c.op)
def headOk (f:FlatD):Bool:=
 decide (1<=f.width) && decide (f.width<=64) && decide (0<=f.regs) && decide (f.regs<=2097152) && namesOk f.chans && namesOk f.sites && (decide (f.arrays.length<=32) && decide (1<=f.code.length) && decide (f.code.length<=4096))
def arrOk (n:Int):Bool:=decide (1<=n) && decide (n<=64)
def lastK (f:FlatD):Int:=match f.code.getLast? with|some c=>c.kind|none=>0
def flatOk (f:FlatD):Bool:=headOk f && f.arrays.all arrOk && f.code.all (codeOk f) && (lastK f == 9 || lastK f == 7)
def flatE (f:FlatD):Int:=if flatOk f then 0 else 2
abbrev refVM (r:RefD):Value:=.agg #[.int .i64 r.reg,.int .u64 r.num]
abbrev codeV (c:CodeD):Value:=.agg #[.int .u8 c.kind,.int .u8 c.op,.int .i64 c.dst,.int .i64 c.n,.int .i64 c.a.reg,.int .u64 c.a.num,.int .i64 c.b.reg,.int .u64 c.b.num]
end Go.Proofs.YtgllkgedjplpdaaGreatDoor
