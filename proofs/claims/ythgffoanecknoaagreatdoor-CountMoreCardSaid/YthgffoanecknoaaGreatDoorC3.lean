/- Contracts and plain law, a bundle. -/
import Derived.Lib.Hide
import Derived.Test.YthgffoanecknoaaGreatDoorC1
set_option linter.unusedVariables false
set_option maxRecDepth 100000
set_option maxHeartbeats 16000000
open Go.Lib (hid)
namespace Go.Proofs.YthgffoanecknoaaGreatDoor
namespace prp
open Go.RowKit base tok
theorem thirds_ct (p : Nat) (hp : p < 19) (w : World) :
  Calls Tryz.prog 49 #[.int .i64 p] w fun e w' => e = .returned (rowV (rowP (40 + p))) /\ Below w.heap.size w w' := by
 have hp2 : (p : Int) < 19 := by omega
 go_enter Tryz.func49, Tryz.ntmps49
 go_wp2_with fail
 refine upon_rows ?hb (D := rowsC 40 19) ?hL ?hi ?hz ?h1 ?hn
 case hb => simp
 case hL => kernel_rfl
 case hi => kernel_rfl
 case hz => kernel_rfl
 case h1 => kernel_rfl
 have hz : (w.alloc (.cells #[.string ⟨#[]⟩, .string ⟨#[]⟩, .string ⟨#[]⟩, .string ⟨#[]⟩, .bool false] 73)).heap.size = w.heap.size + 1 := by simp
 have c0 := cell_rows (w.alloc (.cells #[.string ⟨#[]⟩, .string ⟨#[]⟩, .string ⟨#[]⟩, .string ⟨#[]⟩, .bool false] 73)) 122 40 19 p 0 hp (by decide) _ rfl
 have c1 := cell_rows (w.alloc (.cells #[.string ⟨#[]⟩, .string ⟨#[]⟩, .string ⟨#[]⟩, .string ⟨#[]⟩, .bool false] 73)) 122 40 19 p 1 hp (by decide) _ rfl
 have c2 := cell_rows (w.alloc (.cells #[.string ⟨#[]⟩, .string ⟨#[]⟩, .string ⟨#[]⟩, .string ⟨#[]⟩, .bool false] 73)) 122 40 19 p 2 hp (by decide) _ rfl
 have c3 := cell_rows (w.alloc (.cells #[.string ⟨#[]⟩, .string ⟨#[]⟩, .string ⟨#[]⟩, .string ⟨#[]⟩, .bool false] 73)) 122 40 19 p 3 hp (by decide) _ rfl
 have c4 := cell_rows (w.alloc (.cells #[.string ⟨#[]⟩, .string ⟨#[]⟩, .string ⟨#[]⟩, .string ⟨#[]⟩, .bool false] 73)) 122 40 19 p 4 hp (by decide) _ rfl
 rw [hz] at c0 c1 c2 c3 c4
 have Q0 := (Blk.new rfl : Blk (w.alloc (.cells #[.string ⟨#[]⟩, .string ⟨#[]⟩, .string ⟨#[]⟩, .string ⟨#[]⟩, .bool false] 73)) w.heap.size 73 #[.string ⟨#[]⟩, .string ⟨#[]⟩, .string ⟨#[]⟩, .string ⟨#[]⟩, .bool false]).alloc (.cells (rowsC 40 19) 122)
 have HB := ((ba w (.cells #[.string ⟨#[]⟩, .string ⟨#[]⟩, .string ⟨#[]⟩, .string ⟨#[]⟩, .bool false] 73)).alloc (by simp) (.cells (rowsC 40 19) 122))
 generalize (w.alloc (.cells #[.string ⟨#[]⟩, .string ⟨#[]⟩, .string ⟨#[]⟩, .string ⟨#[]⟩, .bool false] 73)).alloc (.cells (rowsC 40 19) 122) = W1 at *
 replace c0 : W1.cell? ⟨w.heap.size + 1, p * 5, none⟩ = some (.string (bs (rowP (40 + p)).name)) := c0
 have q0 := Q0.cell
 have q1 := Q0.frozen
 replace HB := hid HB
 replace Q0 := hid Q0
 go_wp2_with fail
 have fc := ((((((Q0.out.put 0 (.string (bs (rowP (40 + p)).name))).put 1 (.string (bs (rowP (40 + p)).kinds))).put 2 (.string (bs (rowP (40 + p)).keys))).put 3 (.string (bs (rowP (40 + p)).auto))).put 4 (.bool (rowP (40 + p)).above))).cell
 refine bodyPost_ret (v := rowV (rowP (40 + p))) ?_ rfl ⟨rfl, (((((HB.out.setCell (p := ⟨w.heap.size, 0, none⟩) (Nat.le_refl _) (.string (bs (rowP (40 + p)).name))).setCell (p := ⟨w.heap.size, 1, none⟩) (Nat.le_refl _) (.string (bs (rowP (40 + p)).kinds))).setCell (p := ⟨w.heap.size, 2, none⟩) (Nat.le_refl _) (.string (bs (rowP (40 + p)).keys))).setCell (p := ⟨w.heap.size, 3, none⟩) (Nat.le_refl _) (.string (bs (rowP (40 + p)).auto))).setCell (p := ⟨w.heap.size, 4, none⟩) (Nat.le_refl _) (.bool (rowP (40 + p)).above))⟩
 simp [results, Tryz.results49, go_sem, fc]
end prp
end Go.Proofs.YthgffoanecknoaaGreatDoor
