/- Contracts and plain law, a bundle. -/
import Derived.Lib.LaidU8
import Derived.Deep.QuietTactic
import Derived.BigQuiet
import Derived.Lib.ItoaNum
import Derived.Lib.TrimByte
import Derived.Lib.LaidTab
import Derived.Lib.Hide
import Derived.Test.YthgffoanecknoaaGreatDoorBC
import Derived.Test.YthgffoanecknoaaGreatDoorBC1
import Derived.Test.YthgffoanecknoaaGreatDoorBS
set_option linter.unusedVariables false
set_option maxRecDepth 100000
set_option maxHeartbeats 16000000
open Go.Lib (hid)
namespace Go.Proofs.YthgffoanecknoaaGreatDoor
namespace dim
open Go.RowKit base tok
def StrsAt (w : World) (R o : Nat) (L : List Bs) : Prop := R < w.heap.size /\ ∀ (i : Nat) (s : Bs), L[i]? = some s -> w.cell? ⟨R, o + i, none⟩ = some (.string (bs s))
theorem StrsAt.on {w w' : World} {R o : Nat} {L : List Bs} (h : StrsAt w R o L) (hb : Below w.heap.size w w') : StrsAt w' R o L :=
 ⟨Nat.lt_of_lt_of_le h.1 hb.size, fun i s hi => (hb.cell (p := ⟨R, o + i, none⟩) h.1).trans (h.2 i s hi)⟩
end dim
namespace dim
open Go.RowKit base tok
end dim
namespace dim
open Go.RowKit base tok
end dim
namespace dim
open Go.RowKit base tok
end dim
namespace dim
open Go.RowKit base tok
end dim
namespace dim
open Go.RowKit base tok
theorem grow_below (w : World) (k : Nat) (os : Array Obj) : Below w.heap.size w (Go.Sort.grow (w.drewN k) os) := by
 refine ⟨rfl, rfl, rfl, ?_, fun i hi => ?_⟩
 ·simp [Go.Sort.grow]
 ·simp only [Go.Sort.grow]
  rw [Array.getElem?_append_left (by simpa using hi)]
  rfl
def PowAt (w : World) : Prop := 5 < w.heap.size /\ Lib.TabIs Tryz.prog w "internal/strconv.uint64pow10" .u64 Lib.pow10Tab
theorem PowAt.on {w w' : World} (h : PowAt w) (hb : Below w.heap.size w w') : PowAt w' := by
 refine ⟨Nat.lt_of_lt_of_le h.1 hb.size, ?_⟩
 have hg : Tryz.prog.globalNamed "internal/strconv.uint64pow10" = some 5 := by kernel_rfl
 have h2 := h.2
 unfold Lib.TabIs World.var? at h2 ⊢
 rw [hg] at h2 ⊢
 simp only [Option.bind_some] at h2 ⊢
 rw [hb.block _ h.1]
 exact h2
theorem itoa_ct (n : Int) (h0 : -9223372036854775808 <= n) (h1 : n <= 9223372036854775807) (w : World) (hT : PowAt w) :
  Calls Tryz.prog 60 #[.int .i64 n] w fun e w' => e = .returned (.string (bs (Lib.itoa n))) /\ Below w.heap.size w w' :=
 (Tryz.strconv_Itoa n h0 h1 w hT.2).mono fun e w' ⟨he, k, os, hw⟩ => ⟨he, by rw [hw]; exact grow_below w k os⟩
end dim
namespace dim
open Go.RowKit base tok
end dim
end Go.Proofs.YthgffoanecknoaaGreatDoor
