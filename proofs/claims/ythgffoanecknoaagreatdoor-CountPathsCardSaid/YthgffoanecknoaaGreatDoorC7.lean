/- Contracts and plain law, a bundle. -/
import Derived.Lib.SliceRun
import Derived.Lib.Hide
import Derived.Test.YthgffoanecknoaaGreatDoorC6
set_option linter.unusedVariables false
set_option maxRecDepth 100000
set_option maxHeartbeats 16000000
open Go.Lib (hid)
namespace Go.Proofs.YthgffoanecknoaaGreatDoor
namespace prp
open Go.RowKit base tok
set_option linter.unusedSimpArgs false
def scells (x : Bs) : List Value := [strv x]
theorem scells_len (x : Bs) : (scells x).length = 1 := rfl
end prp
namespace prp
open Go.RowKit base tok
set_option linter.unusedSimpArgs false
end prp
end Go.Proofs.YthgffoanecknoaaGreatDoor
