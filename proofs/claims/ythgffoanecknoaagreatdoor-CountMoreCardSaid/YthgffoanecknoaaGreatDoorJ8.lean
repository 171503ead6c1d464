/- Contracts and plain law, a bundle. -/
import Derived.Lib.Hide
import Derived.Test.YthgffoanecknoaaGreatDoorJ6
import Derived.Test.YthgffoanecknoaaGreatDoorJ7
set_option linter.unusedVariables false
set_option maxRecDepth 100000
set_option maxHeartbeats 16000000
open Go.Lib (hid)
namespace Go.Proofs.YthgffoanecknoaaGreatDoor
namespace doc
open Go.RowKit base tok cnt
theorem law_ct (D : List Nd) (L : List Sy) (A B : Option Addr) (cap capL : Nat) (q : Bool) (z : Int) (d : ByteArray) (hd : d.size <= maxLen) (w : World) (hD : DocAt w w.heap.size A cap D) (hL : StyAt w w.heap.size B capL L) (hM : MaxL w) (hT : LibAt w) (hI : InitAt w) :
  Calls Tryz.prog 5 #[dcV A D.length cap q, .slice B L.length capL, .int .i64 z, .string d] w fun e w' => e = .returned (.bool true) /\ Below w.heap.size w w' := by
 have e : bs d.data.toList = d := rfl
 have hl : d.data.toList.length <= maxLen := by rw [Array.length_toList]; exact hd
 suffices h : Calls Tryz.prog 5 #[dcV A D.length cap q, .slice B L.length capL, .int .i64 z, .string (bs d.data.toList)] w fun e w' => e = .returned (.bool true) /\ Below w.heap.size w w' from h
 clear e
 by_cases h : fitsF D L = 0
 ·exact more_some D L A B cap capL q z d.data.toList hl w hD hL hM hT hI h
 ·exact more_none D L A B cap capL q z d.data.toList hl w hD hL hM hT h
end doc
end Go.Proofs.YthgffoanecknoaaGreatDoor
