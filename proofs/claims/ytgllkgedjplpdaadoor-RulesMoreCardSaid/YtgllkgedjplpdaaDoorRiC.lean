/- The walk of RulesMore, with its policy as a row of cells. Condition: the arguments read as the plain data; the tables hold what they are laid with. -/
import Derived.Test.YtgllkgedjplpdaaDoorRuF
import Derived.Test.YtgllkgedjplpdaaDoorRiB
import Derived.Test.YtgllkgedjplpdaaDoorROq
set_option linter.all false
set_option maxRecDepth 1000000
set_option maxHeartbeats 12800000
set_option linter.unusedVariables false
set_option linter.unusedSimpArgs false
namespace Go.Proofs.YtgllkgedjplpdaaDoor
open Go.ChangeShapes Go.WideShapes Go.ChangeAt Go.RowKit
theorem rulesMore_walk (p:ProgD) (cv av fv mv:Value) (q:PolD) (c:Array Value) (dv:Value) (dl:List Int) (w:World) (h:RdProg none w p cv av fv mv) (hc:PolC w q c) (hd:RdRow kInt none w dv dl) (hL:Laid w) (hM:LaidM w) (hT:BitsAt w) :
  Calls Tryd.prog 6 #[progV p cv av fv mv,.agg c,dv] w fun e w'=>e=.returned (.bool true)∧Below w.heap.size w w':=by
 obtain ⟨lv,ov,qv,sv,rfl,g⟩:=hc
 exact rulesMore_of (fun w hL hM hT=>awake29_any w hL hM hT) p cv av fv mv q lv ov qv sv dv dl w h g hd hL hM hT
end Go.Proofs.YtgllkgedjplpdaaDoor
