/- Contracts and plain law, a bundle. -/
import Derived.Lib.Hide
import Derived.Test.YtlfkkaofgcongaaGreatDoorE1
import Derived.Test.YtlfkkaofgcongaaGreatDoorBC
set_option linter.unusedVariables false
set_option maxRecDepth 100000
set_option maxHeartbeats 16000000
open Go.Lib (hid)
namespace Go.Proofs.YtlfkkaofgcongaaGreatDoor
namespace cal
open Go.RowKit base tok dim
structure Tm where
 (k n : Int) (u : ByteArray) (a : Option Addr) (l c : Nat)
def Tm.f (t : Tm) : List Value := [.int .i64 t.k, .int .i64 t.n, .string t.u, .slice t.a t.l t.c]
def Tm.v (t : Tm) : Value := .agg #[.int .i64 t.k, .int .i64 t.n, .string t.u, .slice t.a t.l t.c]
def leafT (n : Int) (u : ByteArray) : Tm := ⟨1, n, u, none, 0, 0⟩
def TmAt (w : World) (b o : Nat) (L : List Tm) : Prop := b < w.heap.size /\ ∀ (i : Nat) (t : Tm), L[i]? = some t -> w.cell? ⟨b, o + i * 4, none⟩ = some (.int .i64 t.k) /\ w.cell? ⟨b, o + i * 4 + 1, none⟩ = some (.int .i64 t.n) /\ w.cell? ⟨b, o + i * 4 + 2, none⟩ = some (.string t.u) /\ w.cell? ⟨b, o + i * 4 + 3, none⟩ = some (.slice t.a t.l t.c)
theorem TmAt.on {w w' : World} {b o : Nat} {L : List Tm} (h : TmAt w b o L) (hb : Below w.heap.size w w') : TmAt w' b o L :=
 ⟨Nat.lt_of_lt_of_le h.1 hb.size, fun i t ht => ⟨(hb.cell (p := ⟨b, _, none⟩) h.1).trans (h.2 i t ht).1, (hb.cell (p := ⟨b, _, none⟩) h.1).trans (h.2 i t ht).2.1, (hb.cell (p := ⟨b, _, none⟩) h.1).trans (h.2 i t ht).2.2.1, (hb.cell (p := ⟨b, _, none⟩) h.1).trans (h.2 i t ht).2.2.2⟩⟩
end cal
namespace cal
open Go.RowKit base tok dim
def valF (p : Int × Int) : List Value := [.int .i64 p.1, .int .i64 p.2]
end cal
end Go.Proofs.YtlfkkaofgcongaaGreatDoor
