/- The walk of RulesGiven, with its policy as a row of cells. Condition: the arguments read as the plain data; the tables hold what they are laid with. -/
import Derived.Test.YtgllkgedjplpdaaDoorRuF
import Derived.Test.YtgllkgedjplpdaaDoorRhB
import Derived.Test.YtgllkgedjplpdaaDoorROq
set_option linter.unusedVariables false
namespace Go.Proofs.YtgllkgedjplpdaaDoor
open Go.ChangeShapes Go.WideShapes Go.ChangeAt Go.RowKit
theorem rulesGiven_walk (p : ProgD) (cv av fv mv : Value) (q : PolD) (c : Array Value) (dv : Value) (dl : List Int) (n : Int) (w : World) (h : RdProg none w p cv av fv mv) (hc : PolC w q c) (hd : RdRow kInt none w dv dl) (hn : InI64 n) (hL : Laid w) (hM : LaidM w) (hT : BitsAt w) :
    Calls Tryd.prog 5 #[progV p cv av fv mv, .agg c, dv, .int .i64 n] w fun e w' => e = .returned (.bool true) ∧ Below w.heap.size w w' := by
  obtain ⟨lv, ov, qv, sv, rfl, g⟩ := hc
  exact rulesGiven_of (fun w hL hM hT => awake29_any w hL hM hT) p cv av fv mv q lv ov qv sv dv dl n w h g hd hn hL hM hT
end Go.Proofs.YtgllkgedjplpdaaDoor
