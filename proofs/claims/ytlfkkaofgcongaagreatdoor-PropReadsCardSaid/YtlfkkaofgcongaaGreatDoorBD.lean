/- Contracts and plain law, a bundle. -/
import Derived.Shelf.Abstract
import Derived.Lib.Hide
import Derived.Test.YtlfkkaofgcongaaGreatDoorBC
import Derived.Test.YtlfkkaofgcongaaGreatDoorBA
set_option linter.unusedVariables false
set_option maxRecDepth 100000
set_option maxHeartbeats 16000000
open Go.Lib (hid)
namespace Go.Proofs.YtlfkkaofgcongaaGreatDoor
namespace rul
open Go.RowKit base tok
def silP (t : Tk) : Bool := decide (t.k = 8) || decide (t.k = 9)
end rul
namespace rul
open Go.RowKit base tok
def addrAt (k : Nat) (A : Option Addr) (cap i : Nat) : Option Addr := if cap = i then A else A.map (·.add (i * k))
section
variable {P : Program} {T e : TypeId} {k : Nat}
theorem slice_from (hT : P.underlying T = some (.slice e)) (hs : ∀ w, (sizeOf e).run P w = .ok k w) (A : Option Addr) (n cap : Nat) (i : Int) (h0 : 0 <= i) (h1 : i <= n) (w : World) :
  (Instr.slice T (.slice A n cap) (some (.int .i64 i)) none none).run P w = .ok (.slice (addrAt k A cap i.toNat) (n - i.toNat) (cap - i.toNat)) w := by
 simp [Instr.slice, Instr.sliceBounds, Instr.sliceBound, run_underlying hT, hs, asIntOf, h0, h1, go_sem, addrAt]
end
theorem rd_cut {α : Type} {k : Nat} {f : α -> List Value} {w : World} {B : Nat} {A : Option Addr} {n cap i m : Nat} {L : List α} (h : Rd k f w B A n L) (hc : n <= cap) (hm : i + m <= n) : Rd k f w B (addrAt k A cap i) m ((L.drop i).take m) := by
 refine ⟨by rw [List.length_take, List.length_drop, h.1]; omega, fun h0 => ?_⟩
 obtain ⟨b, off, rfl, hlt, hx⟩ := h.2 (by omega)
 refine ⟨b, off + i * k, ?_, hlt, fun j d hd x hx2 => ?_⟩
 ·unfold addrAt
  rw [if_neg (by omega)]
  simp only [Option.map_some, Option.some.injEq]
  unfold Addr.add
  split
  ·rename_i hz; rw [hz]; rfl
  ·rfl
 ·have hj := (List.getElem?_eq_some_iff.1 hd).1
  rw [List.length_take, List.length_drop] at hj
  rw [List.getElem?_take_of_lt (by omega), List.getElem?_drop] at hd
  rw [<- hx (i + j) d hd x hx2, Nat.add_mul]
  congr 2
  omega
theorem rd_from {α : Type} {k : Nat} {f : α -> List Value} {w : World} {B : Nat} {A : Option Addr} {n cap i : Nat} {L : List α} (h : Rd k f w B A n L) (hc : n <= cap) (hi : i <= n) : Rd k f w B (addrAt k A cap i) (n - i) (L.drop i) := by
 have := rd_cut h (i := i) (m := n - i) hc (by omega)
 rwa [List.take_of_length_le (by rw [List.length_drop, h.1]; omega)] at this
end rul
namespace rul
open Go.RowKit base tok
end rul
namespace rul
open Go.RowKit base tok
end rul
namespace rul
open Go.RowKit base tok
def TS (w : World) (v : Value) (L : List Tk) : Prop := ∃ A cap, v = .slice A L.length cap /\ L.length <= cap /\ TRd w w.heap.size A L.length L
theorem TS.on {w w' : World} {v : Value} {L : List Tk} (h : TS w v L) (hb : Below w.heap.size w w') : TS w' v L := by
 obtain ⟨A, cap, rfl, hc, hr⟩ := h
 exact ⟨A, cap, rfl, hc, Rd.keep hr hb hb.size⟩
end rul
namespace rul
open Go.RowKit base tok
end rul
end Go.Proofs.YtlfkkaofgcongaaGreatDoor
