/- Contracts and plain law, a bundle. -/
import Derived.Lib.Hide
import Derived.Test.YtlfkkaofgcongaaGreatDoorE0
set_option linter.unusedVariables false
set_option maxRecDepth 100000
set_option maxHeartbeats 16000000
open Go.Lib (hid)
namespace Go.Proofs.YtlfkkaofgcongaaGreatDoor
namespace clb
open Go.RowKit base tok dim rul tc
theorem made_yes {n : Nat} {t : Te} {L : List Tk} (h : n + 1 <= 30) : madeP n t L = some (t, L, n + 1) := if_pos h
end clb
end Go.Proofs.YtlfkkaofgcongaaGreatDoor
