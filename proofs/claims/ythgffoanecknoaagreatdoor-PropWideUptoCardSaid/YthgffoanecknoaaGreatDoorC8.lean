/- Contracts and plain law, a bundle. -/
import Derived.Lib.QuietBelow
import Derived.Lib.Hide
import Derived.Test.YthgffoanecknoaaGreatDoorC7
import Derived.Test.YthgffoanecknoaaGreatDoorBH
import Derived.Test.YthgffoanecknoaaGreatDoorBC1
set_option linter.unusedVariables false
set_option maxRecDepth 100000
set_option maxHeartbeats 16000000
open Go.Lib (hid)
namespace Go.Proofs.YthgffoanecknoaaGreatDoor
namespace prp
open Go.RowKit Go.Sort base tok
set_option linter.unusedSimpArgs false
end prp
namespace prp
open Go.RowKit base tok dim tc
set_option linter.unusedSimpArgs false
end prp
namespace prp
open Go.RowKit Go.Sort base tok dim
set_option linter.unusedSimpArgs false
end prp
end Go.Proofs.YthgffoanecknoaaGreatDoor
