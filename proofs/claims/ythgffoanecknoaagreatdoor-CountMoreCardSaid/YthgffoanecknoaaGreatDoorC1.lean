/- Contracts and plain law, a bundle. -/
import Derived.Deep.WholeRow
import Derived.Lib.Hide
import Derived.Test.YthgffoanecknoaaGreatDoorC0
import Derived.Test.YthgffoanecknoaaGreatDoorBA
set_option linter.unusedVariables false
set_option maxRecDepth 100000
set_option maxHeartbeats 16000000
open Go.Lib (hid)
namespace Go.Proofs.YthgffoanecknoaaGreatDoor
namespace prp
open Go.RowKit base tok
abbrev rowV (r : Prw) : Value := .agg #[.string (bs r.name), .string (bs r.kinds), .string (bs r.keys), .string (bs r.auto), .bool r.above]
def rowC (r : Prw) : List Value := [.string (bs r.name), .string (bs r.kinds), .string (bs r.keys), .string (bs r.auto), .bool r.above]
def rowsE (a n : Nat) : List Value := (List.range n).flatMap fun i => rowC (rowP (a + i))
def rowsC (a n : Nat) : Array Value := (rowsE a n).toArray
theorem rows_size (a : Nat) : ∀ n, (rowsE a n).length = n * 5
 | 0 => rfl
 | n + 1 => by
  have := rows_size a n
  unfold rowsE at this ⊢
  rw [List.range_succ, List.flatMap_append, List.length_append, this]
  simp [rowC]
  omega
theorem rows_at (a : Nat) : ∀ (n i j : Nat), i < n -> j < 5 -> (rowsE a n)[i * 5 + j]? = (rowC (rowP (a + i)))[j]?
 | 0, i, j, h, _ => absurd h (Nat.not_lt_zero _)
 | n + 1, i, j, h, hj => by
  have hs := rows_size a n
  have ih := rows_at a n i j
  unfold rowsE at hs ih ⊢
  rw [List.range_succ, List.flatMap_append]
  by_cases hi : i < n
  ·rw [List.getElem?_append_left (by rw [hs]; omega)]
   exact ih hi hj
  ·obtain rfl : i = n := by omega
   rw [List.getElem?_append_right (by rw [hs]; omega), hs]
   simp
theorem upon_rows {P : Program} {o : Oper} {a : Act} {next : Act -> World -> Prop} {Q : Exit -> Act -> World -> Prop} {T b : Nat} {W : World} {z D : Array Value} {L : List Value} (hb : b = W.heap.size) (hL : L = D.toList) (hi : (P.info? T).map (·.size) = some D.size) (hz : z.size = D.size) (h1 : D.all (·.oneCell') = true)
  (h : next (a.put o.dst undef) (W.alloc (.cells D T))) : Oper.upon P o a next Q (((storeCells ⟨b, 0, none⟩ L 0).run P (W.alloc (.cells z T))).andThen fun a w' => .ok .skip w') := by
 subst hb hL
 rw [run_storeCells_new W T z D hi hz h1]
 exact h
theorem cell_rows (W : World) (T a n : Nat) (i j : Nat) (hi : i < n) (hj : j < 5) (v : Value) (hv : (rowC (rowP (a + i)))[j]? = some v) : (W.alloc (.cells (rowsC a n) T)).cell? ⟨W.heap.size, i * 5 + j, none⟩ = some v := by
 have := (Blk.new rfl : Blk (W.alloc (.cells (rowsC a n) T)) W.heap.size T (rowsC a n)).cell (i * 5 + j)
 rw [this, <- hv, <- rows_at a n i j hi hj]
 simp [rowsC]
theorem firsts_ct (p : Nat) (hp : p < 20) (w : World) :
  Calls Tryz.prog 47 #[.int .i64 p] w fun e w' => e = .returned (rowV (rowP p)) /\ Below w.heap.size w w' := by
 have hp2 : (p : Int) < 20 := by omega
 go_enter Tryz.func47, Tryz.ntmps47
 go_wp2_with fail
 refine upon_rows ?hb (D := rowsC 0 20) ?hL ?hi ?hz ?h1 ?hn
 case hb => simp
 case hL => kernel_rfl
 case hi => kernel_rfl
 case hz => kernel_rfl
 case h1 => kernel_rfl
 have hz : (w.alloc (.cells #[.string ⟨#[]⟩, .string ⟨#[]⟩, .string ⟨#[]⟩, .string ⟨#[]⟩, .bool false] 73)).heap.size = w.heap.size + 1 := by simp
 have c0 := cell_rows (w.alloc (.cells #[.string ⟨#[]⟩, .string ⟨#[]⟩, .string ⟨#[]⟩, .string ⟨#[]⟩, .bool false] 73)) 121 0 20 p 0 hp (by decide) _ rfl
 have c1 := cell_rows (w.alloc (.cells #[.string ⟨#[]⟩, .string ⟨#[]⟩, .string ⟨#[]⟩, .string ⟨#[]⟩, .bool false] 73)) 121 0 20 p 1 hp (by decide) _ rfl
 have c2 := cell_rows (w.alloc (.cells #[.string ⟨#[]⟩, .string ⟨#[]⟩, .string ⟨#[]⟩, .string ⟨#[]⟩, .bool false] 73)) 121 0 20 p 2 hp (by decide) _ rfl
 have c3 := cell_rows (w.alloc (.cells #[.string ⟨#[]⟩, .string ⟨#[]⟩, .string ⟨#[]⟩, .string ⟨#[]⟩, .bool false] 73)) 121 0 20 p 3 hp (by decide) _ rfl
 have c4 := cell_rows (w.alloc (.cells #[.string ⟨#[]⟩, .string ⟨#[]⟩, .string ⟨#[]⟩, .string ⟨#[]⟩, .bool false] 73)) 121 0 20 p 4 hp (by decide) _ rfl
 rw [hz] at c0 c1 c2 c3 c4
 have Q0 := (Blk.new rfl : Blk (w.alloc (.cells #[.string ⟨#[]⟩, .string ⟨#[]⟩, .string ⟨#[]⟩, .string ⟨#[]⟩, .bool false] 73)) w.heap.size 73 #[.string ⟨#[]⟩, .string ⟨#[]⟩, .string ⟨#[]⟩, .string ⟨#[]⟩, .bool false]).alloc (.cells (rowsC 0 20) 121)
 have HB := ((ba w (.cells #[.string ⟨#[]⟩, .string ⟨#[]⟩, .string ⟨#[]⟩, .string ⟨#[]⟩, .bool false] 73)).alloc (by simp) (.cells (rowsC 0 20) 121))
 generalize (w.alloc (.cells #[.string ⟨#[]⟩, .string ⟨#[]⟩, .string ⟨#[]⟩, .string ⟨#[]⟩, .bool false] 73)).alloc (.cells (rowsC 0 20) 121) = W1 at *
 replace c0 : W1.cell? ⟨w.heap.size + 1, p * 5, none⟩ = some (.string (bs (rowP (0 + p)).name)) := c0
 have q0 := Q0.cell
 have q1 := Q0.frozen
 replace HB := hid HB
 replace Q0 := hid Q0
 go_wp2_with fail
 have fc := ((((((Q0.out.put 0 (.string (bs (rowP p).name))).put 1 (.string (bs (rowP p).kinds))).put 2 (.string (bs (rowP p).keys))).put 3 (.string (bs (rowP p).auto))).put 4 (.bool (rowP p).above))).cell
 refine bodyPost_ret (v := rowV (rowP p)) ?_ rfl ⟨rfl, (((((HB.out.setCell (p := ⟨w.heap.size, 0, none⟩) (Nat.le_refl _) (.string (bs (rowP p).name))).setCell (p := ⟨w.heap.size, 1, none⟩) (Nat.le_refl _) (.string (bs (rowP p).kinds))).setCell (p := ⟨w.heap.size, 2, none⟩) (Nat.le_refl _) (.string (bs (rowP p).keys))).setCell (p := ⟨w.heap.size, 3, none⟩) (Nat.le_refl _) (.string (bs (rowP p).auto))).setCell (p := ⟨w.heap.size, 4, none⟩) (Nat.le_refl _) (.bool (rowP p).above))⟩
 simp [results, Tryz.results47, go_sem, fc]
end prp
end Go.Proofs.YthgffoanecknoaaGreatDoor
