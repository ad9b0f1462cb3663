/- The walk of RulesLevels, with its policy as a row of cells. Condition: the arguments read as the plain data; the tables hold what they are laid with. -/
import Derived.Test.YtgllkgedjplpdaaDoorRuF
import Derived.Test.YtgllkgedjplpdaaDoorRuG
import Derived.Test.YtgllkgedjplpdaaDoorROq
set_option linter.unusedVariables false
namespace Go.Proofs.YtgllkgedjplpdaaDoor
open Go.ChangeShapes Go.WideShapes Go.ChangeAt Go.RowKit
theorem rulesLevels_walk (f : FlatD) (fc fs fa fk : Value) (q : PolD) (c : Array Value) (w : World) (h : RdFlat none w f fc fs fa fk) (hc : PolC w q c) (hL : Laid w) (hM : LaidM w) (hT : BitsAt w) :
    Calls Tryd.prog 3 #[flatV f fc fs fa fk, .agg c] w fun e w' => e = .returned (.bool true) ∧ Below w.heap.size w w' := by
  obtain ⟨lv, ov, cv, sv, rfl, g⟩ := hc
  exact rulesLevels_of (fun w hL hM hT => awake29_any w hL hM hT) f fc fs fa fk q lv ov cv sv w h g hL hM hT
end Go.Proofs.YtgllkgedjplpdaaDoor
