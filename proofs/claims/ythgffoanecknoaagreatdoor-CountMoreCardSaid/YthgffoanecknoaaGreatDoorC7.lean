/- Contracts and plain law, a bundle. -/
import Derived.Lib.SliceRun
import Derived.Lib.Hide
import Derived.Test.YthgffoanecknoaaGreatDoorC6
set_option linter.unusedVariables false
set_option maxRecDepth 100000
set_option maxHeartbeats 16000000
open Go.Lib (hid)
namespace Go.Proofs.YthgffoanecknoaaGreatDoor
namespace prp
open Go.RowKit base tok
set_option linter.unusedSimpArgs false
def scells (x : Bs) : List Value := [strv x]
theorem scells_len (x : Bs) : (scells x).length = 1 := rfl
abbrev SRd (w : World) (B : Nat) (A : Option Addr) (n : Nat) (L : List Bs) : Prop := Rd 1 scells w B A n L
theorem SRd.get {w : World} {B : Nat} {A : Option Addr} {n i : Nat} {L : List Bs} (h : SRd w B A n L) (hi : i < n) : ∃ b off x, A = some ⟨b, off, none⟩ /\ b < B /\ L[i]? = some x /\ w.cell? ⟨b, off + i, none⟩ = some (.string (bs x)) := by
 obtain ⟨b, off, x, hA, hb, hx, hc⟩ := Rd.at_ h hi
 have := hc 0 (by decide)
 rw [Nat.mul_one, Nat.add_zero] at this
 exact ⟨b, off, x, hA, hb, hx, this⟩
end prp
namespace prp
open Go.RowKit base tok
set_option linter.unusedSimpArgs false
end prp
end Go.Proofs.YthgffoanecknoaaGreatDoor
