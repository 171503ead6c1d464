/- Contracts and plain law, a bundle. -/
import Derived.Deep.AppendLies
import Derived.Lib.Hide
import Derived.Test.YthgffoanecknoaaGreatDoorC2
import Derived.Test.YthgffoanecknoaaGreatDoorC3
import Derived.Test.YthgffoanecknoaaGreatDoorBC
set_option linter.unusedVariables false
set_option maxRecDepth 100000
set_option maxHeartbeats 16000000
open Go.Lib (hid)
namespace Go.Proofs.YthgffoanecknoaaGreatDoor
namespace prp
open Go.RowKit base tok
theorem in_yes (p : Nat) (hp : p < 59) (w : World) : Calls Tryz.prog 38 #[.int .i64 p] w fun e w' => e = .returned (.bool true) /\ Below w.heap.size w w' := by
 have h1 : (p : Int) < 59 := by omega
 have h0 : (0 : Int) <= (p : Int) := by omega
 go_enter Tryz.func38, Tryz.ntmps38
 go_wp2
 exact bodyPost_ret (v := .bool true) (by simp [results, Tryz.results38, go_sem]) rfl ⟨rfl, Below.refl _ _⟩
theorem at_ct (p : Nat) (hp : p < 59) (w : World) : Calls Tryz.prog 30 #[.int .i64 p] w fun e w' => e = .returned (rowV (rowP p)) /\ Below w.heap.size w w' := by
 have Q0 := hid (show Blk (w.alloc (.cells #[.string ⟨#[]⟩, .string ⟨#[]⟩, .string ⟨#[]⟩, .string ⟨#[]⟩, .bool false] 73)) w.heap.size 73 #[.string ⟨#[]⟩, .string ⟨#[]⟩, .string ⟨#[]⟩, .string ⟨#[]⟩, .bool false] from Blk.new rfl)
 have B0 := hid (ba w (.cells #[.string ⟨#[]⟩, .string ⟨#[]⟩, .string ⟨#[]⟩, .string ⟨#[]⟩, .bool false] 73))
 by_cases h1 : p < 20
 ·have h1' : (p : Int) < 20 := by omega
  go_enter Tryz.func30, Tryz.ntmps30
  go_wp2_with (first
   | (go_at_call 47; (with_reducible refine (firsts_ct p h1 _).mono ?_); rintro e W1 ⟨rfl, hb⟩; have HB1 := hid (B0.out.trans (hb.mono (by simp))); have Q1 := hid (Blk.below Q0.out hb (by simp)); have q1c := Q1.out.cell; have q1f := Q1.out.frozen; clear hb))
  have fc := (((((Q1.out.put 0 (.string (bs (rowP p).name))).put 1 (.string (bs (rowP p).kinds))).put 2 (.string (bs (rowP p).keys))).put 3 (.string (bs (rowP p).auto))).put 4 (.bool (rowP p).above)).cell
  refine bodyPost_ret (v := rowV (rowP p)) ?_ rfl ⟨rfl, (((((HB1.out.setCell (p := ⟨w.heap.size, 0, none⟩) (Nat.le_refl _) (.string (bs (rowP p).name))).setCell (p := ⟨w.heap.size, 1, none⟩) (Nat.le_refl _) (.string (bs (rowP p).kinds))).setCell (p := ⟨w.heap.size, 2, none⟩) (Nat.le_refl _) (.string (bs (rowP p).keys))).setCell (p := ⟨w.heap.size, 3, none⟩) (Nat.le_refl _) (.string (bs (rowP p).auto))).setCell (p := ⟨w.heap.size, 4, none⟩) (Nat.le_refl _) (.bool (rowP p).above))⟩
  simp [results, Tryz.results30, go_sem, fc]
 ·have h1' : ¬ (p : Int) < 20 := by omega
  by_cases h2 : p < 40
  ·have h2' : (p : Int) < 40 := by omega
   obtain ⟨q, hq⟩ : ∃ q, 20 + q = p := ⟨p - 20, by omega⟩
   have hq' : (p : Int) - 20 = (q : Int) := by omega
   have c1 : ∀ w, Calls Tryz.prog 48 #[.int .i64 q] w fun e w' => e = .returned (rowV (rowP p)) /\ Below w.heap.size w w' := fun w => by have := seconds_ct q (by omega) w; rwa [hq] at this
   replace c1 := hid c1
   replace hq' := hid hq'
   clear hq
   go_enter Tryz.func30, Tryz.ntmps30
   go_wp2_with (first
    | (go_at_call 48; rw [hq'.out]; (with_reducible refine (c1.out _).mono ?_); rintro e W1 ⟨rfl, hb⟩; have HB1 := hid (B0.out.trans (hb.mono (by simp))); have Q1 := hid (Blk.below Q0.out hb (by simp)); have q1c := Q1.out.cell; have q1f := Q1.out.frozen; clear hb))
   have fc := (((((Q1.out.put 0 (.string (bs (rowP p).name))).put 1 (.string (bs (rowP p).kinds))).put 2 (.string (bs (rowP p).keys))).put 3 (.string (bs (rowP p).auto))).put 4 (.bool (rowP p).above)).cell
   refine bodyPost_ret (v := rowV (rowP p)) ?_ rfl ⟨rfl, (((((HB1.out.setCell (p := ⟨w.heap.size, 0, none⟩) (Nat.le_refl _) (.string (bs (rowP p).name))).setCell (p := ⟨w.heap.size, 1, none⟩) (Nat.le_refl _) (.string (bs (rowP p).kinds))).setCell (p := ⟨w.heap.size, 2, none⟩) (Nat.le_refl _) (.string (bs (rowP p).keys))).setCell (p := ⟨w.heap.size, 3, none⟩) (Nat.le_refl _) (.string (bs (rowP p).auto))).setCell (p := ⟨w.heap.size, 4, none⟩) (Nat.le_refl _) (.bool (rowP p).above))⟩
   simp [results, Tryz.results30, go_sem, fc]
  ·have h2' : ¬ (p : Int) < 40 := by omega
   obtain ⟨q, hq⟩ : ∃ q, 40 + q = p := ⟨p - 40, by omega⟩
   have hq' : (p : Int) - 40 = (q : Int) := by omega
   have c1 : ∀ w, Calls Tryz.prog 49 #[.int .i64 q] w fun e w' => e = .returned (rowV (rowP p)) /\ Below w.heap.size w w' := fun w => by have := thirds_ct q (by omega) w; rwa [hq] at this
   replace c1 := hid c1
   replace hq' := hid hq'
   clear hq
   go_enter Tryz.func30, Tryz.ntmps30
   go_wp2_with (first
    | (go_at_call 49; rw [hq'.out]; (with_reducible refine (c1.out _).mono ?_); rintro e W1 ⟨rfl, hb⟩; have HB1 := hid (B0.out.trans (hb.mono (by simp))); have Q1 := hid (Blk.below Q0.out hb (by simp)); have q1c := Q1.out.cell; have q1f := Q1.out.frozen; clear hb))
   have fc := (((((Q1.out.put 0 (.string (bs (rowP p).name))).put 1 (.string (bs (rowP p).kinds))).put 2 (.string (bs (rowP p).keys))).put 3 (.string (bs (rowP p).auto))).put 4 (.bool (rowP p).above)).cell
   refine bodyPost_ret (v := rowV (rowP p)) ?_ rfl ⟨rfl, (((((HB1.out.setCell (p := ⟨w.heap.size, 0, none⟩) (Nat.le_refl _) (.string (bs (rowP p).name))).setCell (p := ⟨w.heap.size, 1, none⟩) (Nat.le_refl _) (.string (bs (rowP p).kinds))).setCell (p := ⟨w.heap.size, 2, none⟩) (Nat.le_refl _) (.string (bs (rowP p).keys))).setCell (p := ⟨w.heap.size, 3, none⟩) (Nat.le_refl _) (.string (bs (rowP p).auto))).setCell (p := ⟨w.heap.size, 4, none⟩) (Nat.le_refl _) (.bool (rowP p).above))⟩
   simp [results, Tryz.results30, go_sem, fc]
def letterP (k : Int) : Bs := if k = 1 then [107] else if k = 2 then [108] else if k = 3 then [112] else if k = 4 then [110] else if k = 5 then [99] else if k = 6 then [97] else [63]
theorem letter_ct (k : Int) (h1 : 1 <= k) (h2 : k <= 6) (w : World) : Calls Tryz.prog 40 #[.int .i64 k] w fun e w' => e = .returned (.string (bs (letterP k))) /\ Below w.heap.size w w' := by
 obtain rfl | rfl | rfl | rfl | rfl | rfl : k = 1 ∨ k = 2 ∨ k = 3 ∨ k = 4 ∨ k = 5 ∨ k = 6 := by omega
 all_goals
  go_enter Tryz.func40, Tryz.ntmps40
  go_wp2
  refine bodyPost_ret (v := .string (bs (letterP _))) ?_ rfl ⟨rfl, Below.refl _ _⟩
  simp [results, Tryz.results40, go_sem]
  rfl
theorem field_row1 (a b c d : ByteArray) (e : Bool) (w : World) : (Instr.field 73 (.agg #[.string a, .string b, .string c, .string d, .bool e]) 1).run Tryz.prog w = .ok (.string b) w := by kernel_rfl
end prp
namespace prp
open Go.RowKit base tok
end prp
namespace prp
open Go.RowKit base tok
end prp
end Go.Proofs.YthgffoanecknoaaGreatDoor
