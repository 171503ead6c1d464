/- Contracts and plain law, a bundle. -/
import Derived.Lib.AtoiTie
import Derived.Lib.AtoiAllCases
import Derived.Shelf.Strings.CaseAny
import Derived.Lib.Hide
import Derived.Test.YthgffoanecknoaaGreatDoorH1
import Derived.Test.YthgffoanecknoaaGreatDoorBH
import Derived.Test.YthgffoanecknoaaGreatDoorBS
set_option linter.unusedVariables false
set_option maxRecDepth 100000
set_option maxHeartbeats 16000000
open Go.Lib (hid)
namespace Go.Proofs.YthgffoanecknoaaGreatDoor
namespace cnt
open Go.RowKit base tok
end cnt
namespace cnt
open Go.RowKit base tok
theorem enc_len (r : Int) : (Lib.encodeRune r).length <= 4 := by
 unfold Lib.encodeRune Lib.encodeRuneZ
 rw [List.length_map]
 repeat' split
 all_goals simp
theorem map_len (f : Int -> Int) : ∀ (n : Nat) (l : Bs), (Lib.mapGoD f n l).length <= 4 * n
 | 0, l => by simp [Lib.mapGoD]
 | n + 1, l => by
  unfold Lib.mapGoD
  split
  ·simp
  ·have h1 := map_len f n (l.drop (Lib.decodeL l).2)
   rw [List.length_append]
   split
   ·have := enc_len (f (Lib.decodeL l).1)
    omega
   ·simp only [List.length_nil]
    omega
theorem low_len (l : Bs) : (Lib.toLowerD l).length <= 4 * l.length := map_len _ _ _
def altI (k : Int) (l : Bs) (d : Int) : Int := if k = 3 ∨ k = 4 then worthG (Lib.toLowerD l) 0 else if k = 5 ∨ k = 6 then romG (Lib.toLowerD l).reverse 0 0 else d
def backI (k : Int) (l : Bs) : Int :=
 match Lib.atoiAll l with
 | .ok v => v
 | .range => altI k l (Lib.atoiSat l)
 | _ => altI k l 0
end cnt
end Go.Proofs.YthgffoanecknoaaGreatDoor
