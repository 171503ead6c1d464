/- Contracts and plain law, a bundle. -/
import Derived.Lib.Hide
import Derived.Test.YthgffoanecknoaaGreatDoorBB
set_option linter.unusedVariables false
set_option maxRecDepth 100000
set_option maxHeartbeats 16000000
open Go.Lib (hid)
namespace Go.Proofs.YthgffoanecknoaaGreatDoor
namespace tok
open Go.RowKit base
theorem one_ct (k : Int) (s : ByteArray) (b : Nat) (w : World) (hs : s.size < 4294967281) (h0 : 0 < s.size) (h : Blk w b 9 #[.string s]) :
  Calls Tryz.prog 91 #[.int .i64 k, (pn b)] w fun e w' => e = .returned (.agg #[.int .i64 k, .string (s.extract 0 1), .string ⟨#[]⟩, .int .i64 0]) /\ Below w.heap.size w w' := by
 have c0 := h.cell
 have hlt := h.lt
 replace h := hid h
 have h1 : (1 : Int) <= (s.size : Int) := by omega
 go_enter Tryz.func91, Tryz.ntmps91
 go_wp2
 refine bodyPost_ret (v := .agg #[.int .i64 k, .string (s.extract 0 1), .string ⟨#[]⟩, .int .i64 0]) (by simp [results, Tryz.results91, go_sem]) rfl ⟨rfl, ba _ _⟩
end tok
end Go.Proofs.YthgffoanecknoaaGreatDoor
