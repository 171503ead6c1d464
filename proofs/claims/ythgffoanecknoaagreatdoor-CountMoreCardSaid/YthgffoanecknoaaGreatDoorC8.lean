/- Contracts and plain law, a bundle. -/
import Derived.Lib.QuietBelow
import Derived.Lib.Hide
import Derived.Test.YthgffoanecknoaaGreatDoorC7
set_option linter.unusedVariables false
set_option maxRecDepth 100000
set_option maxHeartbeats 16000000
open Go.Lib (hid)
namespace Go.Proofs.YthgffoanecknoaaGreatDoor
namespace prp
open Go.RowKit Go.Sort base tok
set_option linter.unusedSimpArgs false
end prp
end Go.Proofs.YthgffoanecknoaaGreatDoor
