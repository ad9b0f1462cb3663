/- Contracts of the kit's CopyFlat and of the law's Short: new flat programs. Condition: what comes in reads as the flat program. -/
import Derived.Test.YtgllkgedjplpdaaGreatDoorMixK
import Derived.Test.YtgllkgedjplpdaaGreatDoorRowE
import Derived.Deep.CutBlock
import Derived.Test.YtgllkgedjplpdaaGreatDoorPu2
set_option linter.all false
set_option maxRecDepth 1000000
set_option maxHeartbeats 12800000
namespace Go.Proofs.YtgllkgedjplpdaaGreatDoor
open Go.ChangeShapes Go.WideShapes Go.ChangeAt Go.RowKit
theorem run_min2M {P:Program} (ats:Array TypeId) (ty:TypeId) (a b:Int) (w:World):(Builtin.min_ ats ty #[.int .i64 a,.int .i64 b]).run P w=.ok (.int .i64 (min a b)) w:=by
 have:(if b<a then b else a)=min a b:=by split <;> omega
 simp [Builtin.min_,Builtin.min2,this]
theorem take_minM {α:Type} (l:List α) (m:Nat):l.take (min l.length m)=l.take m:=by
 rcases Nat.le_total l.length m with h|h
 ·rw [Nat.min_eq_left h,List.take_of_length_le h,List.take_of_length_le (nR _)]
 ·rw [Nat.min_eq_right h]
theorem cap_of {α:Type} {K:Kind α} {lo:Option (Nat->Prop)} {w:World} {a:Option Addr} {n c:Nat} {l:List α} (h:RdRow K lo w (.slice a n c) l):l.length<=c:=by
 obtain ⟨_,_,e,h1,_⟩:=h
 simp only [Value.slice.injEq] at e
 obtain ⟨_,_,rfl⟩:=e
 exact h1.2
theorem min_run (n k:Nat) (m:Int) (hz:(k:Int)=min (n:Int) m) (w:World):(Builtin.min_ #[3,3] 3 #[.int .i64 (n:Int),.int .i64 m]).run Tryz.prog w=.ok (.int .i64 (k:Int)) w:=by
 rw [hz]
 exact run_min2M _ _ _ _ w
end Go.Proofs.YtgllkgedjplpdaaGreatDoor
