/- Loads of whole structs in quiet and guarded places. No program. -/
import Derived.Test.YtkjkpddajjmloaaGreatDoorMixK
import Derived.BigQuiet
set_option linter.all false
set_option maxRecDepth 1000000
set_option maxHeartbeats 6400000
namespace Go.Proofs.YtkjkpddajjmloaaGreatDoor
open Go.ChangeShapes Go.WideShapes Go.ChangeAt Go.RowKit
theorem quiet_load_row {P:Program} {o:Oper} {a:Act} {C:World→Prop} {K:Act→Prop} (ty:TypeId) (x:Operand) (ho:o.op=.load ty x)
  (g:Nat) (hx:a.eval x=.pointer (some ⟨g,0,none⟩)) (t:TypeId) (cs:Array Value) (fr:Nat × Nat) (d:TypeDesc) (hg:∀ w,C w→w.heap[g]?=some (.cells cs t fr))
  (hu:P.underlying ty=some d) (hd:(match d with|.struct _|.array _ _=>true|_=>false)=true) (hi:(P.info? ty).map (·.size)=some cs.size)
  (h:K (a.put o.dst (.agg cs))):o.quiet P a C K:=by
 refine ⟨_,fun w hw=>?_,h⟩
 unfold Oper.quietAt
 unfold execOp
 simp only [ho,hx,Instr.loadAt,Instr.sureAddr,Sem.run_bind,Sem.run_pure,Result.andThen_ok,run_loadVar_row w g t ty cs fr d (hg w hw) hu hd hi]
 exact ⟨rfl,rfl⟩
theorem keepS_row {W:World} {S:List Nat} {b:Nat} {v:Obj} (hb:b ∈ S) (h:W.heap[b]?=some v):∀ w,(∃ x,w=keepS W S x)→w.heap[b]?=some v:=by
 rintro w ⟨x,rfl⟩
 exact (keepS_is W S x b hb).trans h
end Go.Proofs.YtkjkpddajjmloaaGreatDoor
