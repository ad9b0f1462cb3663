/- Contracts of what tells names: of flat.name and flat.names, of the references' Name, Is and names, of slices.Index and slices.Contains over strings: called in whatever memory they return what the plain functions here say, and write nothing that was there. Condition: lists read as lists of strings. -/
import Derived.Test.YtgcfdbhpophnjaaDoorSpec
import Derived.Test.YtgcfdbhpophnjaaDoorRowE
import Derived.Laws.IdiomStrings
import Derived.Test.YtgcfdbhpophnjaaDoorOpB
set_option linter.all false
set_option maxRecDepth 1000000
set_option maxHeartbeats 12800000
namespace Go.Proofs.YtgcfdbhpophnjaaDoor
open Go.ChangeShapes Go.WideShapes Go.ChangeAt Go.RowKit
def namesGo (pre:List ByteArray):List ByteArray→Bool
 | []=>true
 | s :: r=>tokName s&&!hasS s pre&&namesGo (pre++[s]) r
def namesOk (l:List ByteArray):Bool:=namesGo [] l&&decide (l.length≤32)
end Go.Proofs.YtgcfdbhpophnjaaDoor
