/- The walk of RulesChecks, with its policy as a row of cells. Condition: the arguments read as the plain data; the tables hold what they are laid with. -/
import Derived.Test.YtgllkgedjplpdaaGreatDoorRuF
import Derived.Test.YtgllkgedjplpdaaGreatDoorRkW
import Derived.Test.YtgllkgedjplpdaaGreatDoorROq
set_option linter.all false
set_option maxRecDepth 1000000
set_option maxHeartbeats 12800000
namespace Go.Proofs.YtgllkgedjplpdaaGreatDoor
open Go.ChangeShapes Go.WideShapes Go.ChangeAt Go.RowKit
theorem rulesChecks_walk (p:ProgD) (cv av fv mv:Value) (q:PolD) (c:Array Value) (w:World) (h:RdProg none w p cv av fv mv) (hc:PolC w q c) (hL:Laid w) (hM:LaidM w) (hT:BitsAt w) :
  Calls Tryz.prog 3 #[progV p cv av fv mv,.agg c] w fun e w'=>e=.returned (.bool true)/\Below w.heap.size w w':=by
 obtain ⟨lv,ov,qv,sv,rfl,g⟩:=hc
 exact rulesChecks_of (fun w hL hM hT=>awake29_any w hL hM hT) p cv av fv mv q lv ov qv sv w h g hL hM hT
end Go.Proofs.YtgllkgedjplpdaaGreatDoor
