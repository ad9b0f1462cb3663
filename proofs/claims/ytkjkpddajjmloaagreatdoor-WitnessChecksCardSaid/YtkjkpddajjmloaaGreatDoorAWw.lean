/- How a witness that comes in reads. On AWl. -/
import Derived.Test.YtkjkpddajjmloaaGreatDoorAWl
import Derived.Test.YtkjkpddajjmloaaGreatDoorWtJ
set_option linter.all false
set_option maxRecDepth 1000000
set_option maxHeartbeats 6400000
namespace Go.Proofs.YtkjkpddajjmloaaGreatDoor
open Go.ChangeShapes Go.WideShapes Go.ChangeAt Go.RowKit
def WitX (w:World) (d:Int × List (List Int) × List (List Int) × Bool) (c:Array Value):Prop:=WitC w d.1 d.2.1 d.2.2.1 d.2.2.2 c∧InI64 d.1
section
variable {H:Type} {enc:TypeId × Value→H} {w:World} {base:Nat} {sp:Nat→Bool} {held:Bool} {fuel:Nat} {x:DataW H × List MemPlace}
theorem cLLNumW:Tryz.prog.cellsOf 35=1:=by kernel_rfl
theorem witX_of {cs:Array Value} (h:DataW.trod enc Tryz.prog w base sp held fuel 43 cs.toList=some x) (hs:Fits Tryz.prog 43 x.1) (hl:cs.size=4):∃ d,WitX w d cs:=by
 obtain⟨n0,z0,h0,f0⟩:=open_field Tryz.underlying43 h hs 0 3 0 1 rfl cInt
 obtain⟨n1,z1,h1,f1⟩:=open_field Tryz.underlying43 h hs 1 35 1 1 rfl cLLNumW
 obtain⟨n2,z2,h2,f2⟩:=open_field Tryz.underlying43 h hs 2 35 2 1 rfl cLLNumW
 obtain⟨n3,z3,h3,f3⟩:=open_field Tryz.underlying43 h hs 3 4 3 1 rfl cBool
 obtain⟨k0,e0,_,w0⟩:=DataW.trod_int Tryz.underlying3 h0
 obtain⟨av,e1,e1'⟩:=one_cell (row:=cs.toList) (off:=1) (by simp;omega)
 rw[e1] at h1
 obtain⟨A,r1⟩:=rdLists_of h1 f1
 obtain⟨bv,e2,e2'⟩:=one_cell (row:=cs.toList) (off:=2) (by simp;omega)
 rw[e2] at h2
 obtain⟨B,r2⟩:=rdLists_of h2 f2
 obtain⟨s,e3,_⟩:=DataW.trod_bool Tryz.underlying4 h3
 refine⟨(k0,A,B,s),⟨av,bv,?_,r1,r2⟩,wfI64 w0⟩
 have e0':=row_at e0
 have e3':=row_at e3
 rw[Array.getElem?_toList] at e0' e1' e2' e3'
 apply Array.ext_getElem?
 intro i
 match i with
 | 0=>rw[e0'];rfl
 | 1=>rw[e1'];rfl
 | 2=>rw[e2'];rfl
 | 3=>rw[e3'];rfl
 | i+4=>rw[Array.getElem?_eq_none (by omega),Array.getElem?_eq_none (by simp)]
end
end Go.Proofs.YtkjkpddajjmloaaGreatDoor
