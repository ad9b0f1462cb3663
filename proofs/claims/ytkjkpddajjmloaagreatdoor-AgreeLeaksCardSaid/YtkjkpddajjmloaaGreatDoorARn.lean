/- How a list of inputs that comes in reads. On AWl. -/
import Derived.Test.YtkjkpddajjmloaaGreatDoorAWl
import Derived.Test.YtkjkpddajjmloaaGreatDoorAgT
set_option linter.all false
set_option maxRecDepth 1000000
set_option maxHeartbeats 6400000
namespace Go.Proofs.YtkjkpddajjmloaaGreatDoor
open Go.ChangeShapes Go.WideShapes Go.ChangeAt Go.RowKit
def Runs0 (w:World) (v:Value) (Ls:List (List (List Int))):Prop:=∃ a c,v=.slice a Ls.length c∧(Ls.length * 24≤140737488351232∧Ls.length≤c)∧∀ i A,Ls[i]?=some A→∃ b o iv,a=some ⟨b,o,none⟩∧w.cell? ⟨b,o+i,none⟩=some iv∧RdLists none w iv A
theorem Runs0.runs {w:World} {v:Value} {Ls:List (List (List Int))} (h:Runs0 w v Ls) (h1:1≤Ls.length):RdRuns w v Ls:=by
 obtain ⟨a,c,rfl,hb,hi⟩:=h
 obtain ⟨b,o,iv,rfl,-,-⟩:=hi 0 _ (List.getElem?_eq_getElem (by omega))
 refine ⟨b,o,c,rfl,fun i A hA=>?_⟩
 obtain ⟨b',o',iv,e,h1,h2⟩:=hi i A hA
 simp only [Option.some.injEq,Addr.mk.injEq] at e
 obtain ⟨rfl,rfl,-⟩:=e
 exact ⟨iv,h1,h2⟩
section
variable {H:Type} {enc:TypeId × Value→H} {w:World} {base:Nat} {sp:Nat→Bool} {held:Bool} {fuel:Nat} {x:DataW H × List MemPlace}
theorem cLLNum:Tryz.prog.cellsOf 35=1:=by kernel_rfl
theorem yLLNum:Tryz.prog.bytesOf 35=24:=by kernel_rfl
theorem rdRuns_of {v:Value} (h:DataW.trod enc Tryz.prog w base sp held fuel 31 [v]=some x) (hs:Fits Tryz.prog 31 x.1):∃ l,Runs0 w v l:=by
 obtain ⟨a,len,cap,n,rfl,hb,hr⟩:=open_rows Tryz.underlying31 cLLNum yLLNum (by omega) h hs
 obtain ⟨l,hl,hR⟩:=choose_list (R:=fun i (s:List (List Int))=>∃ b o iv,a=some ⟨b,o,none⟩∧w.cell? ⟨b,o+i,none⟩=some iv∧RdLists none w iv s) len (fun i hi=>by
  obtain ⟨b,o,row,y,ha,hrl,hc,ht,hf⟩:=hr i hi
  obtain ⟨u,e1,e2⟩:=one_cell (row:=row) (off:=0) (by omega)
  have:row=[u]:=by rw [List.drop_zero,List.take_of_length_le (by omega)] at e1;exact e1
  subst this
  obtain ⟨s,hs'⟩:=rdLists_of ht hf
  exact ⟨s,b,o,u,ha,by have:=hc 0 _ rfl;simpa using this,hs'⟩)
 subst hl
 exact ⟨l,a,cap,rfl,hb,fun i s hi=>by obtain ⟨b,o,iv,ha,hc,hz⟩:=hR i s hi;exact ⟨b,o,iv,ha,hc,hz⟩⟩
end
end Go.Proofs.YtkjkpddajjmloaaGreatDoor
