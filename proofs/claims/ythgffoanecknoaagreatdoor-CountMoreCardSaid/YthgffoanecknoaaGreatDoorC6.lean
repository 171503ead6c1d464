/- Contracts and plain law, a bundle. -/
import Derived.Deep.Onto
import Derived.Lib.Hide
import Derived.Test.YthgffoanecknoaaGreatDoorC4
set_option linter.unusedVariables false
set_option maxRecDepth 100000
set_option maxHeartbeats 16000000
open Go.Lib (hid)
namespace Go.Proofs.YthgffoanecknoaaGreatDoor
namespace prp
open Go.RowKit base tok
set_option linter.unusedSimpArgs false
def strv (x : Bs) : Value := .string (bs x)
def Rel7 (L : List Tk) (w W1 : World) (v d o i : Value) (wr : World) : Prop :=
 ∃ k : Nat, k <= L.length /\ i = .int .i64 k /\ d = .int .i64 (partsF (L.take k)).deep /\ o = .bool (partsF (L.take k)).op /\ wr.ownsRow W1.heap.size 9 1 v (partsF (L.take k)).out.length ((partsF (L.take k)).out.map strv) /\ Below W1.heap.size W1 wr
theorem Rel7.next {L : List Tk} {w W1 : World} {k : Nat} {t : Tk} (ht : L[k]? = some t) {S : Pst} (hS : stepP (partsF (L.take k)) t = S) (v d o : Value) (wr : World) (h : d = .int .i64 S.deep /\ o = .bool S.op /\ wr.ownsRow W1.heap.size 9 1 v S.out.length (S.out.map strv) /\ Below W1.heap.size W1 wr) : Rel7 L w W1 v d o (.int .i64 ((k : Int) + 1)) wr := by
 obtain ⟨hk, _⟩ := List.getElem?_eq_some_iff.1 ht
 refine ⟨k + 1, by omega, by go_num, ?_⟩
 rw [parts_step ht, hS]
 exact h
end prp
end Go.Proofs.YthgffoanecknoaaGreatDoor
