/- Contracts and plain law, a bundle. -/
import Derived.Lib.Hide
import Derived.Test.YtlfkkaofgcongaaGreatDoorCF
import Derived.Test.YtlfkkaofgcongaaGreatDoorD3
import Derived.Test.YtlfkkaofgcongaaGreatDoorF0
import Derived.Test.YtlfkkaofgcongaaGreatDoorEC
set_option linter.unusedVariables false
set_option maxRecDepth 100000
set_option maxHeartbeats 16000000
open Go.Lib (hid)
namespace Go.Proofs.YtlfkkaofgcongaaGreatDoor
namespace prp
open Go.RowKit base tok
set_option linter.unusedSimpArgs false
theorem w64 (x : Int) : -9223372036854775808 <= wrap64 x /\ wrap64 x <= 9223372036854775807 := by unfold wrap64; omega
theorem turn_37p (n em : Int) (nm kd ks au : Bs) (ab cl cn : Bool) (hE : TEnv 37 nm kd ks au ab cl cn) (w : World) : Calls Tryz.prog 36 #[.int .i64 37, .agg #[.int .i64 3, .int .i64 n], .int .i64 em] w fun e w' => (∃ k2 n2 : Int, e = .returned (.agg #[.int .i64 k2, .int .i64 n2]) /\ -9223372036854775808 <= n2 /\ n2 <= 9223372036854775807) /\ Below w.heap.size w w' := by
 have hfd := field_row1
 obtain ⟨cA0, cL0, cN0⟩ := hE
 have cA := hid cA0
 have cL := hid cL0
 have cN := hid cN0
 clear cA0 cL0 cN0
 have Q0 := hid (show Blk ((w.alloc (.cells #[.int .i64 3, .int .i64 n] 38)).alloc (.cells #[.int .i64 0, .int .i64 0] 38)) w.heap.size 38 #[.int .i64 3, .int .i64 n] from (Blk.new rfl).alloc _)
 have R0 := hid (show Blk ((w.alloc (.cells #[.int .i64 3, .int .i64 n] 38)).alloc (.cells #[.int .i64 0, .int .i64 0] 38)) (w.heap.size + 1) 38 #[.int .i64 0, .int .i64 0] from Blk.new (by simp))
 have HB0 := hid ((ba w (.cells #[.int .i64 3, .int .i64 n] 38)).alloc (by simp) (.cells #[.int .i64 0, .int .i64 0] 38))
 obtain ⟨y, hy⟩ : ∃ y, (wrap64 (em * n)) / 10000 = y := ⟨_, rfl⟩
 have cP0 := fun w => part_10000 (wrap64 (em * n)) (w64 _).1 (w64 _).2 w
 rw [hy] at cP0
 have cP := hid cP0
 clear cP0 hy
 obtain ⟨c, hc⟩ : ∃ c, min (max y (-16777216)) 16777216 = c := ⟨_, rfl⟩
 by_cases h0 : 0 <= c
 ·
  go_enter Tryz.func36, Tryz.ntmps36
  go_wp2_with (first
    | (go_at_call 25; (with_reducible refine (cA.out _).mono ?_); rintro e W1 ⟨rfl, hb⟩; have Q1 := hid (Q0.out.below hb Q0.out.lt); have R1 := hid (R0.out.below hb R0.out.lt); have HB1 := hid (tb HB0 hb); have q1c := Q1.out.cell; have q1f := Q1.out.frozen; have r1c := R1.out.cell; have r1f := R1.out.frozen; clear hb)
    | (go_at_call 33; (with_reducible refine (cL.out _).mono ?_); rintro e W2 ⟨rfl, rfl⟩)
    | (go_at_call 33; (with_reducible refine (cN.out _).mono ?_); rintro e W2 ⟨rfl, rfl⟩)
    | (go_at_call 30; (with_reducible refine (cP.out _).mono ?_); rintro e W3 ⟨rfl, hb⟩; have Q1 := hid (Q1.out.below hb Q1.out.lt); have R1 := hid (R1.out.below hb R1.out.lt); have HB1 := hid (tb HB1 hb); have q1c := Q1.out.cell; have q1f := Q1.out.frozen; have r1c := R1.out.cell; have r1f := R1.out.frozen; have qz := (Q1.out.put 0 (.int .i64 2)).put 1 (.int .i64 c); have qzc := qz.cell; have qzf := qz.frozen; clear qz hb))
  have e3 := (((((R1.out.far (p := ⟨w.heap.size, 0, none⟩) (by simp) (.int .i64 (2))).far (p := ⟨w.heap.size, 1, none⟩) (by simp) (.int .i64 (c))).far (p := ⟨w.heap.size, 1, none⟩) (by simp) (.int .i64 (max c 64))).put 0 (.int .i64 (2))).put 1 (.int .i64 (max c 64))).cell
  exact bodyPost_ret (v := .agg #[.int .i64 (2), .int .i64 (max c 64)]) (by simp [results, Tryz.results36, go_sem, e3]) rfl ⟨⟨_, _, rfl, by omega, by omega⟩, ((((HB1.out.setCell (p := ⟨w.heap.size, 0, none⟩) (Nat.le_refl _) (.int .i64 (2))).setCell (p := ⟨w.heap.size, 1, none⟩) (Nat.le_refl _) (.int .i64 (c))).setCell (p := ⟨w.heap.size, 1, none⟩) (Nat.le_refl _) (.int .i64 (max c 64))).setCell (p := ⟨w.heap.size + 1, 0, none⟩) (Nat.le_succ _) _).setCell (p := ⟨w.heap.size + 1, 1, none⟩) (Nat.le_succ _) _⟩
 ·
  go_enter Tryz.func36, Tryz.ntmps36
  go_wp2_with (first
    | (go_at_call 25; (with_reducible refine (cA.out _).mono ?_); rintro e W1 ⟨rfl, hb⟩; have Q1 := hid (Q0.out.below hb Q0.out.lt); have R1 := hid (R0.out.below hb R0.out.lt); have HB1 := hid (tb HB0 hb); have q1c := Q1.out.cell; have q1f := Q1.out.frozen; have r1c := R1.out.cell; have r1f := R1.out.frozen; clear hb)
    | (go_at_call 33; (with_reducible refine (cL.out _).mono ?_); rintro e W2 ⟨rfl, rfl⟩)
    | (go_at_call 33; (with_reducible refine (cN.out _).mono ?_); rintro e W2 ⟨rfl, rfl⟩)
    | (go_at_call 30; (with_reducible refine (cP.out _).mono ?_); rintro e W3 ⟨rfl, hb⟩; have Q1 := hid (Q1.out.below hb Q1.out.lt); have R1 := hid (R1.out.below hb R1.out.lt); have HB1 := hid (tb HB1 hb); have q1c := Q1.out.cell; have q1f := Q1.out.frozen; have r1c := R1.out.cell; have r1f := R1.out.frozen; have qz := (Q1.out.put 0 (.int .i64 2)).put 1 (.int .i64 c); have qzc := qz.cell; have qzf := qz.frozen; clear qz hb))
  have e3 := ((((R1.out.far (p := ⟨w.heap.size, 0, none⟩) (by simp) (.int .i64 (2))).far (p := ⟨w.heap.size, 1, none⟩) (by simp) (.int .i64 (c))).put 0 (.int .i64 (2))).put 1 (.int .i64 (c))).cell
  exact bodyPost_ret (v := .agg #[.int .i64 (2), .int .i64 (c)]) (by simp [results, Tryz.results36, go_sem, e3]) rfl ⟨⟨_, _, rfl, by omega, by omega⟩, (((HB1.out.setCell (p := ⟨w.heap.size, 0, none⟩) (Nat.le_refl _) (.int .i64 (2))).setCell (p := ⟨w.heap.size, 1, none⟩) (Nat.le_refl _) (.int .i64 (c))).setCell (p := ⟨w.heap.size + 1, 0, none⟩) (Nat.le_succ _) _).setCell (p := ⟨w.heap.size + 1, 1, none⟩) (Nat.le_succ _) _⟩
theorem turn_38p (n em : Int) (nm kd ks au : Bs) (ab cl cn : Bool) (hE : TEnv 38 nm kd ks au ab cl cn) (w : World) : Calls Tryz.prog 36 #[.int .i64 38, .agg #[.int .i64 3, .int .i64 n], .int .i64 em] w fun e w' => (∃ k2 n2 : Int, e = .returned (.agg #[.int .i64 k2, .int .i64 n2]) /\ -9223372036854775808 <= n2 /\ n2 <= 9223372036854775807) /\ Below w.heap.size w w' := by
 have hfd := field_row1
 obtain ⟨cA0, cL0, cN0⟩ := hE
 have cA := hid cA0
 have cL := hid cL0
 have cN := hid cN0
 clear cA0 cL0 cN0
 have Q0 := hid (show Blk ((w.alloc (.cells #[.int .i64 3, .int .i64 n] 38)).alloc (.cells #[.int .i64 0, .int .i64 0] 38)) w.heap.size 38 #[.int .i64 3, .int .i64 n] from (Blk.new rfl).alloc _)
 have R0 := hid (show Blk ((w.alloc (.cells #[.int .i64 3, .int .i64 n] 38)).alloc (.cells #[.int .i64 0, .int .i64 0] 38)) (w.heap.size + 1) 38 #[.int .i64 0, .int .i64 0] from Blk.new (by simp))
 have HB0 := hid ((ba w (.cells #[.int .i64 3, .int .i64 n] 38)).alloc (by simp) (.cells #[.int .i64 0, .int .i64 0] 38))
 obtain ⟨y, hy⟩ : ∃ y, (wrap64 (em * n)) / 10000 = y := ⟨_, rfl⟩
 have cP0 := fun w => part_10000 (wrap64 (em * n)) (w64 _).1 (w64 _).2 w
 rw [hy] at cP0
 have cP := hid cP0
 clear cP0 hy
 obtain ⟨c, hc⟩ : ∃ c, min (max y (-16777216)) 16777216 = c := ⟨_, rfl⟩
 go_enter Tryz.func36, Tryz.ntmps36
 go_wp2_with (first
   | (go_at_call 25; (with_reducible refine (cA.out _).mono ?_); rintro e W1 ⟨rfl, hb⟩; have Q1 := hid (Q0.out.below hb Q0.out.lt); have R1 := hid (R0.out.below hb R0.out.lt); have HB1 := hid (tb HB0 hb); have q1c := Q1.out.cell; have q1f := Q1.out.frozen; have r1c := R1.out.cell; have r1f := R1.out.frozen; clear hb)
   | (go_at_call 33; (with_reducible refine (cL.out _).mono ?_); rintro e W2 ⟨rfl, rfl⟩)
   | (go_at_call 33; (with_reducible refine (cN.out _).mono ?_); rintro e W2 ⟨rfl, rfl⟩)
   | (go_at_call 30; (with_reducible refine (cP.out _).mono ?_); rintro e W3 ⟨rfl, hb⟩; have Q1 := hid (Q1.out.below hb Q1.out.lt); have R1 := hid (R1.out.below hb R1.out.lt); have HB1 := hid (tb HB1 hb); have q1c := Q1.out.cell; have q1f := Q1.out.frozen; have r1c := R1.out.cell; have r1f := R1.out.frozen; clear hb))
 have e3 := ((((R1.out.far (p := ⟨w.heap.size, 0, none⟩) (by simp) (.int .i64 (2))).far (p := ⟨w.heap.size, 1, none⟩) (by simp) (.int .i64 (c))).put 0 (.int .i64 (2))).put 1 (.int .i64 (c))).cell
 exact bodyPost_ret (v := .agg #[.int .i64 (2), .int .i64 (c)]) (by simp [results, Tryz.results36, go_sem, e3]) rfl ⟨⟨_, _, rfl, by omega, by omega⟩, (((HB1.out.setCell (p := ⟨w.heap.size, 0, none⟩) (Nat.le_refl _) (.int .i64 (2))).setCell (p := ⟨w.heap.size, 1, none⟩) (Nat.le_refl _) (.int .i64 (c))).setCell (p := ⟨w.heap.size + 1, 0, none⟩) (Nat.le_succ _) _).setCell (p := ⟨w.heap.size + 1, 1, none⟩) (Nat.le_succ _) _⟩
theorem turn_34p (n em : Int) (nm kd ks au : Bs) (ab cl cn : Bool) (hE : TEnv 34 nm kd ks au ab cl cn) (h0 : -9223372036854775808 <= n /\ n <= 9223372036854775807) (w : World) : Calls Tryz.prog 36 #[.int .i64 34, .agg #[.int .i64 3, .int .i64 n], .int .i64 em] w fun e w' => (∃ k2 n2 : Int, e = .returned (.agg #[.int .i64 k2, .int .i64 n2]) /\ -9223372036854775808 <= n2 /\ n2 <= 9223372036854775807) /\ Below w.heap.size w w' := by
 have hfd := field_row1
 obtain ⟨cA0, cL0, cN0⟩ := hE
 have cA := hid cA0
 have cL := hid cL0
 have cN := hid cN0
 clear cA0 cL0 cN0
 have Q0 := hid (show Blk ((w.alloc (.cells #[.int .i64 3, .int .i64 n] 38)).alloc (.cells #[.int .i64 0, .int .i64 0] 38)) w.heap.size 38 #[.int .i64 3, .int .i64 n] from (Blk.new rfl).alloc _)
 have R0 := hid (show Blk ((w.alloc (.cells #[.int .i64 3, .int .i64 n] 38)).alloc (.cells #[.int .i64 0, .int .i64 0] 38)) (w.heap.size + 1) 38 #[.int .i64 0, .int .i64 0] from Blk.new (by simp))
 have HB0 := hid ((ba w (.cells #[.int .i64 3, .int .i64 n] 38)).alloc (by simp) (.cells #[.int .i64 0, .int .i64 0] 38))
 have cP := hid (fun w => part_10 n h0.1 h0.2 w)
 obtain ⟨y, hy⟩ : ∃ y, n / 10 = y := ⟨_, rfl⟩
 rw [hy] at cP
 clear hy
 go_enter Tryz.func36, Tryz.ntmps36
 go_wp2_with (first
   | (go_at_call 25; (with_reducible refine (cA.out _).mono ?_); rintro e W1 ⟨rfl, hb⟩; have Q1 := hid (Q0.out.below hb Q0.out.lt); have R1 := hid (R0.out.below hb R0.out.lt); have HB1 := hid (tb HB0 hb); have q1c := Q1.out.cell; have q1f := Q1.out.frozen; have r1c := R1.out.cell; have r1f := R1.out.frozen; clear hb)
   | (go_at_call 33; (with_reducible refine (cL.out _).mono ?_); rintro e W2 ⟨rfl, rfl⟩)
   | (go_at_call 33; (with_reducible refine (cN.out _).mono ?_); rintro e W2 ⟨rfl, rfl⟩)
   | (go_at_call 30; (with_reducible refine (cP.out _).mono ?_); rintro e W3 ⟨rfl, hb⟩; have Q1 := hid (Q1.out.below hb Q1.out.lt); have R1 := hid (R1.out.below hb R1.out.lt); have HB1 := hid (tb HB1 hb); have q1c := Q1.out.cell; have q1f := Q1.out.frozen; have r1c := R1.out.cell; have r1f := R1.out.frozen; have qz := (Q1.out.put 0 (.int .i64 4)).put 1 (.int .i64 y); have qzc := qz.cell; have qzf := qz.frozen; clear qz hb))
 have e3 := (((((R1.out.far (p := ⟨w.heap.size, 0, none⟩) (by simp) (.int .i64 (4))).far (p := ⟨w.heap.size, 1, none⟩) (by simp) (.int .i64 (y))).far (p := ⟨w.heap.size, 1, none⟩) (by simp) (.int .i64 (min (max y 0) 1000))).put 0 (.int .i64 (4))).put 1 (.int .i64 (min (max y 0) 1000))).cell
 exact bodyPost_ret (v := .agg #[.int .i64 (4), .int .i64 (min (max y 0) 1000)]) (by simp [results, Tryz.results36, go_sem, e3]) rfl ⟨⟨_, _, rfl, by omega, by omega⟩, ((((HB1.out.setCell (p := ⟨w.heap.size, 0, none⟩) (Nat.le_refl _) (.int .i64 (4))).setCell (p := ⟨w.heap.size, 1, none⟩) (Nat.le_refl _) (.int .i64 (y))).setCell (p := ⟨w.heap.size, 1, none⟩) (Nat.le_refl _) (.int .i64 (min (max y 0) 1000))).setCell (p := ⟨w.heap.size + 1, 0, none⟩) (Nat.le_succ _) _).setCell (p := ⟨w.heap.size + 1, 1, none⟩) (Nat.le_succ _) _⟩
theorem turn_4l (P em : Int) (nm kd ks au : Bs) (ab cl cn : Bool) (hE : TEnv P nm kd ks au ab cl cn) (h34 : ¬ P = 34) (h37 : ¬ P = 37) (h1 : cl = true) (h2 : cn = false) (w : World) : Calls Tryz.prog 36 #[.int .i64 P, .agg #[.int .i64 4, .int .i64 0], .int .i64 em] w fun e w' => (∃ k2 n2 : Int, e = .returned (.agg #[.int .i64 k2, .int .i64 n2]) /\ -9223372036854775808 <= n2 /\ n2 <= 9223372036854775807) /\ Below w.heap.size w w' := by
 have hfd := field_row1
 obtain ⟨cA0, cL0, cN0⟩ := hE
 have cA := hid cA0
 have cL := hid cL0
 have cN := hid cN0
 clear cA0 cL0 cN0
 have Q0 := hid (show Blk ((w.alloc (.cells #[.int .i64 4, .int .i64 0] 38)).alloc (.cells #[.int .i64 0, .int .i64 0] 38)) w.heap.size 38 #[.int .i64 4, .int .i64 0] from (Blk.new rfl).alloc _)
 have R0 := hid (show Blk ((w.alloc (.cells #[.int .i64 4, .int .i64 0] 38)).alloc (.cells #[.int .i64 0, .int .i64 0] 38)) (w.heap.size + 1) 38 #[.int .i64 0, .int .i64 0] from Blk.new (by simp))
 have HB0 := hid ((ba w (.cells #[.int .i64 4, .int .i64 0] 38)).alloc (by simp) (.cells #[.int .i64 0, .int .i64 0] 38))
 subst h1 h2
 go_enter Tryz.func36, Tryz.ntmps36
 go_wp2_with (first
   | (go_at_call 25; (with_reducible refine (cA.out _).mono ?_); rintro e W1 ⟨rfl, hb⟩; have Q1 := hid (Q0.out.below hb Q0.out.lt); have R1 := hid (R0.out.below hb R0.out.lt); have HB1 := hid (tb HB0 hb); have q1c := Q1.out.cell; have q1f := Q1.out.frozen; have r1c := R1.out.cell; have r1f := R1.out.frozen; clear hb)
   | (go_at_call 33; (with_reducible refine (cL.out _).mono ?_); rintro e W2 ⟨rfl, rfl⟩)
   | (go_at_call 33; (with_reducible refine (cN.out _).mono ?_); rintro e W2 ⟨rfl, rfl⟩)
   | (go_at_call 30; (with_reducible refine (cP.out _).mono ?_); rintro e W3 ⟨rfl, hb⟩; have Q1 := hid (Q1.out.below hb Q1.out.lt); have R1 := hid (R1.out.below hb R1.out.lt); have HB1 := hid (tb HB1 hb); have q1c := Q1.out.cell; have q1f := Q1.out.frozen; have r1c := R1.out.cell; have r1f := R1.out.frozen; clear hb))
 have e3 := (((R1.out.far (p := ⟨w.heap.size, 0, none⟩) (by simp) (.int .i64 2)).put 0 (.int .i64 (2))).put 1 (.int .i64 (0))).cell
 exact bodyPost_ret (v := .agg #[.int .i64 (2), .int .i64 (0)]) (by simp [results, Tryz.results36, go_sem, e3]) rfl ⟨⟨_, _, rfl, by omega, by omega⟩, ((HB1.out.setCell (p := ⟨w.heap.size, 0, none⟩) (Nat.le_refl _) (.int .i64 2)).setCell (p := ⟨w.heap.size + 1, 0, none⟩) (Nat.le_succ _) _).setCell (p := ⟨w.heap.size + 1, 1, none⟩) (Nat.le_succ _) _⟩
theorem turn_4m (em : Int) (nm kd ks au : Bs) (ab cl cn : Bool) (hE : TEnv 37 nm kd ks au ab cl cn) (h1 : cl = true) (h2 : cn = false) (w : World) : Calls Tryz.prog 36 #[.int .i64 37, .agg #[.int .i64 4, .int .i64 0], .int .i64 em] w fun e w' => (∃ k2 n2 : Int, e = .returned (.agg #[.int .i64 k2, .int .i64 n2]) /\ -9223372036854775808 <= n2 /\ n2 <= 9223372036854775807) /\ Below w.heap.size w w' := by
 have hfd := field_row1
 obtain ⟨cA0, cL0, cN0⟩ := hE
 have cA := hid cA0
 have cL := hid cL0
 have cN := hid cN0
 clear cA0 cL0 cN0
 have Q0 := hid (show Blk ((w.alloc (.cells #[.int .i64 4, .int .i64 0] 38)).alloc (.cells #[.int .i64 0, .int .i64 0] 38)) w.heap.size 38 #[.int .i64 4, .int .i64 0] from (Blk.new rfl).alloc _)
 have R0 := hid (show Blk ((w.alloc (.cells #[.int .i64 4, .int .i64 0] 38)).alloc (.cells #[.int .i64 0, .int .i64 0] 38)) (w.heap.size + 1) 38 #[.int .i64 0, .int .i64 0] from Blk.new (by simp))
 have HB0 := hid ((ba w (.cells #[.int .i64 4, .int .i64 0] 38)).alloc (by simp) (.cells #[.int .i64 0, .int .i64 0] 38))
 subst h1 h2
 go_enter Tryz.func36, Tryz.ntmps36
 go_wp2_with (first
   | (go_at_call 25; (with_reducible refine (cA.out _).mono ?_); rintro e W1 ⟨rfl, hb⟩; have Q1 := hid (Q0.out.below hb Q0.out.lt); have R1 := hid (R0.out.below hb R0.out.lt); have HB1 := hid (tb HB0 hb); have q1c := Q1.out.cell; have q1f := Q1.out.frozen; have r1c := R1.out.cell; have r1f := R1.out.frozen; clear hb)
   | (go_at_call 33; (with_reducible refine (cL.out _).mono ?_); rintro e W2 ⟨rfl, rfl⟩)
   | (go_at_call 33; (with_reducible refine (cN.out _).mono ?_); rintro e W2 ⟨rfl, rfl⟩)
   | (go_at_call 30; (with_reducible refine (cP.out _).mono ?_); rintro e W3 ⟨rfl, hb⟩; have Q1 := hid (Q1.out.below hb Q1.out.lt); have R1 := hid (R1.out.below hb R1.out.lt); have HB1 := hid (tb HB1 hb); have q1c := Q1.out.cell; have q1f := Q1.out.frozen; have r1c := R1.out.cell; have r1f := R1.out.frozen; clear hb))
 have e3 := ((((R1.out.far (p := ⟨w.heap.size, 0, none⟩) (by simp) (.int .i64 2)).far (p := ⟨w.heap.size, 1, none⟩) (by simp) (.int .i64 (max 0 64))).put 0 (.int .i64 (2))).put 1 (.int .i64 (max 0 64))).cell
 exact bodyPost_ret (v := .agg #[.int .i64 (2), .int .i64 (max 0 64)]) (by simp [results, Tryz.results36, go_sem, e3]) rfl ⟨⟨_, _, rfl, by omega, by omega⟩, (((HB1.out.setCell (p := ⟨w.heap.size, 0, none⟩) (Nat.le_refl _) (.int .i64 2)).setCell (p := ⟨w.heap.size, 1, none⟩) (Nat.le_refl _) (.int .i64 (max 0 64))).setCell (p := ⟨w.heap.size + 1, 0, none⟩) (Nat.le_succ _) _).setCell (p := ⟨w.heap.size + 1, 1, none⟩) (Nat.le_succ _) _⟩
theorem turn_x (P k n em : Int) (nm kd ks au : Bs) (ab cl cn : Bool) (hE : TEnv P nm kd ks au ab cl cn) (h2 : ¬ k = 2) (h3 : ¬ k = 3) (h4 : ¬ k = 4) (h0 : -9223372036854775808 <= n /\ n <= 9223372036854775807) (w : World) : Calls Tryz.prog 36 #[.int .i64 P, .agg #[.int .i64 k, .int .i64 n], .int .i64 em] w fun e w' => (∃ k2 n2 : Int, e = .returned (.agg #[.int .i64 k2, .int .i64 n2]) /\ -9223372036854775808 <= n2 /\ n2 <= 9223372036854775807) /\ Below w.heap.size w w' := by
 have hfd := field_row1
 obtain ⟨cA0, cL0, cN0⟩ := hE
 have cA := hid cA0
 have cL := hid cL0
 have cN := hid cN0
 clear cA0 cL0 cN0
 have Q0 := hid (show Blk ((w.alloc (.cells #[.int .i64 k, .int .i64 n] 38)).alloc (.cells #[.int .i64 0, .int .i64 0] 38)) w.heap.size 38 #[.int .i64 k, .int .i64 n] from (Blk.new rfl).alloc _)
 have R0 := hid (show Blk ((w.alloc (.cells #[.int .i64 k, .int .i64 n] 38)).alloc (.cells #[.int .i64 0, .int .i64 0] 38)) (w.heap.size + 1) 38 #[.int .i64 0, .int .i64 0] from Blk.new (by simp))
 have HB0 := hid ((ba w (.cells #[.int .i64 k, .int .i64 n] 38)).alloc (by simp) (.cells #[.int .i64 0, .int .i64 0] 38))
 have h3p : P = 34 ∨ P = 37 ∨ (¬ P = 34 /\ ¬ P = 37) := by omega
 rcases h3p with rfl | rfl | ⟨g34, g37⟩
 all_goals
  go_enter Tryz.func36, Tryz.ntmps36
  go_wp2_with (first
    | (go_at_call 25; (with_reducible refine (cA.out _).mono ?_); rintro e W1 ⟨rfl, hb⟩; have Q1 := hid (Q0.out.below hb Q0.out.lt); have R1 := hid (R0.out.below hb R0.out.lt); have HB1 := hid (tb HB0 hb); have q1c := Q1.out.cell; have q1f := Q1.out.frozen; have r1c := R1.out.cell; have r1f := R1.out.frozen; clear hb)
    | (go_at_call 33; (with_reducible refine (cL.out _).mono ?_); rintro e W2 ⟨rfl, rfl⟩)
    | (go_at_call 33; (with_reducible refine (cN.out _).mono ?_); rintro e W2 ⟨rfl, rfl⟩)
    | (go_at_call 30; (with_reducible refine (cP.out _).mono ?_); rintro e W3 ⟨rfl, hb⟩; have Q1 := hid (Q1.out.below hb Q1.out.lt); have R1 := hid (R1.out.below hb R1.out.lt); have HB1 := hid (tb HB1 hb); have q1c := Q1.out.cell; have q1f := Q1.out.frozen; have r1c := R1.out.cell; have r1f := R1.out.frozen; clear hb))
  have e3 := ((R1.out.put 0 (.int .i64 (k))).put 1 (.int .i64 (n))).cell
  exact bodyPost_ret (v := .agg #[.int .i64 (k), .int .i64 (n)]) (by simp [results, Tryz.results36, go_sem, e3]) rfl ⟨⟨_, _, rfl, h0.1, h0.2⟩, (HB1.out.setCell (p := ⟨w.heap.size + 1, 0, none⟩) (Nat.le_succ _) _).setCell (p := ⟨w.heap.size + 1, 1, none⟩) (Nat.le_succ _) _⟩
end prp
namespace prp
open Go.RowKit base tok dim
set_option linter.unusedSimpArgs false
abbrev TRes (w : World) (e : Ending) (w' : World) : Prop := (∃ k2 n2 : Int, e = .returned (.agg #[.int .i64 k2, .int .i64 n2]) /\ -9223372036854775808 <= n2 /\ n2 <= 9223372036854775807) /\ Below w.heap.size w w'
theorem turned_any (p : Nat) (hp : p < 59) (k n em : Int) (hn : -9223372036854775808 <= n /\ n <= 9223372036854775807) (w : World) : Calls Tryz.prog 36 #[.int .i64 p, .agg #[.int .i64 k, .int .i64 n], .int .i64 em] w (TRes w) := by
 have hE := tenv p hp
 have lift : ∀ {a b : Int}, (-9223372036854775808 <= b /\ b <= 9223372036854775807) -> Calls Tryz.prog 36 #[.int .i64 p, .agg #[.int .i64 k, .int .i64 n], .int .i64 em] w ((rt w (.agg #[.int .i64 a, .int .i64 b]))) -> Calls Tryz.prog 36 #[.int .i64 p, .agg #[.int .i64 k, .int .i64 n], .int .i64 em] w (TRes w) := fun hb h => h.mono fun e w' ⟨he, hw⟩ => ⟨⟨_, _, he, hb⟩, hw⟩
 by_cases h2 : k = 2
 ·subst h2
  by_cases h37 : p = 37
  ·subst h37
   by_cases h0 : 0 <= n
   ·exact lift (by omega) (turn_2f n em _ _ _ _ _ _ _ hE h0 w)
   ·exact lift hn (turn_2n n em _ _ _ _ _ _ _ hE h0 w)
  ·exact lift hn (turn_2 p n em _ _ _ _ _ _ _ hE (by omega) w)
 ·by_cases h3 : k = 3
  ·subst h3
   by_cases h37 : p = 37
   ·subst h37
    exact turn_37p n em _ _ _ _ _ _ _ hE w
   ·by_cases h38 : p = 38
    ·subst h38
     exact turn_38p n em _ _ _ _ _ _ _ hE w
    ·by_cases h34 : p = 34
     ·subst h34
      exact turn_34p n em _ _ _ _ _ _ _ hE hn w
     ·exact lift hn (turn_3 p n em _ _ _ _ _ _ _ hE (by omega) (by omega) (by omega) w)
  ·by_cases h4 : k = 4
   ·subst h4
    by_cases h34 : p = 34
    ·subst h34
     by_cases h0 : n = 0
     ·subst h0
      exact lift (by omega) (turn_340 em _ _ _ _ _ _ _ hE (by decide +kernel) w)
     ·exact lift (by omega) (turn_34 n em _ _ _ _ _ _ _ hE h0 w)
    ·by_cases h0 : n = 0
     ·subst h0
      generalize decide (0 <= Lib.indexByte (rowP p).kinds 108) = cl at *
      generalize decide (0 <= Lib.indexByte (rowP p).kinds 110) = cn at *
      cases cl with
      | false => exact lift hn (turn_40 p em _ _ _ _ _ _ _ hE (by omega) (.inl rfl) w)
      | true =>
       cases cn with
       | true => exact lift hn (turn_40 p em _ _ _ _ _ _ _ hE (by omega) (.inr ⟨rfl, rfl⟩) w)
       | false =>
        by_cases h37 : p = 37
        ·subst h37
         exact turn_4m em _ _ _ _ _ _ _ hE rfl rfl w
        ·exact turn_4l p em _ _ _ _ _ _ _ hE (by omega) (by omega) rfl rfl w
     ·exact lift hn (turn_4 p n em _ _ _ _ _ _ _ hE (by omega) h0 w)
   ·exact turn_x p k n em _ _ _ _ _ _ _ hE h2 h3 h4 hn w
abbrev RRes (F : Int -> Int -> Bool) (w : World) (e : Ending) (w' : World) : Prop := (∃ k n x : Int, e = .returned (.tuple #[.agg #[.int .i64 k, .int .i64 n], .int .i64 x]) /\ ((x = 0 /\ F k n = true /\ -9223372036854775808 <= n /\ n <= 9223372036854775807) ∨ (x = 4 /\ k = 0 /\ n = 0))) /\ Below w.heap.size w w'
theorem read_t0 (p : Int) (S L : ByteArray) (em rem vw vh cur k0 n0 : Int) (F : Int -> Int -> Bool) (nm kd ks au : Bs) (ab : Bool) (cI0 : ∀ w, Calls Tryz.prog 26 #[.int .i64 p] w (rt w (.bool true))) (cL0 : ∀ w, Calls Tryz.prog 32 #[.string S] w (rt w (.string L))) (cW0 : ∀ w, MaxL w -> Calls Tryz.prog 31 #[.int .i64 p, .string L] w (rt w (.tuple #[.agg #[.int .i64 k0, .int .i64 n0], .bool false]))) (cA0 : ∀ w, Calls Tryz.prog 25 #[.int .i64 p] w (rt w (.agg #[.string (bs nm), .string (bs kd), .string (bs ks), .string (bs au), .bool ab]))) (cC0 : ∀ w, Calls Tryz.prog 33 #[.string (bs kd), .string ⟨#[99]⟩] w (rt w (.bool false))) (cR0 : ∀ w, MaxL w -> UnitsAt w -> Calls Tryz.prog 35 #[.string S] w fun e w' => (∃ x : Int, ¬ x = 0 /\ e = .returned (.tuple #[.agg #[.int .i64 0, .int .i64 0, .string ⟨#[]⟩, .slice none 0 0], .int .i64 x])) /\ Below w.heap.size w w') (w : World) (hm : MaxL w) (hU : UnitsAt w) (hE : col.ErrsAt w) (hT : PowAt w) : Calls Tryz.prog 11 #[.int .i64 p, .string S, .agg #[.int .i64 em, .int .i64 rem, .int .i64 vw, .int .i64 vh], .int .i64 cur] w (RRes F w) := by
 have hfd := field_row1
 have cI := hid cI0
 have cL := hid cL0
 have cW := hid cW0
 have cA := hid cA0
 have cC := hid cC0
 have cR := hid cR0
 have HM := hid hm
 have HU := hid hU
 have HE := hid hE
 have HT := hid hT
 clear hm hU hE hT cI0 cL0 cW0 cA0 cC0 cR0
 have K0 := hid (show Blk ((w.alloc (.cells #[.int .i64 em, .int .i64 rem, .int .i64 vw, .int .i64 vh] 42)).alloc (.cells #[.int .i64 0, .int .i64 0] 38)) w.heap.size 42 #[.int .i64 em, .int .i64 rem, .int .i64 vw, .int .i64 vh] from (Blk.new rfl).alloc _)
 have R0 := hid (show Blk ((w.alloc (.cells #[.int .i64 em, .int .i64 rem, .int .i64 vw, .int .i64 vh] 42)).alloc (.cells #[.int .i64 0, .int .i64 0] 38)) (w.heap.size + 1) 38 #[.int .i64 0, .int .i64 0] from Blk.new (by simp))
 have HB0 := hid ((ba w (.cells #[.int .i64 em, .int .i64 rem, .int .i64 vw, .int .i64 vh] 42)).alloc (by simp) (.cells #[.int .i64 0, .int .i64 0] 38))
 go_enter Tryz.func11, Tryz.ntmps11
 go_wp2_with (first
  | (go_at_call 26; (with_reducible refine (cI.out _).mono ?_); rintro e W1 ⟨rfl, hb⟩; have K1 := hid (K0.out.below hb K0.out.lt); have R1 := hid (R0.out.below hb R0.out.lt); have HB1 := hid (tb HB0 hb); have cK1 := K1.out.cell; have fK1 := K1.out.frozen; have cR1 := R1.out.cell; have fR1 := R1.out.frozen; clear hb)
  | (go_at_call 32; (with_reducible refine (cL.out _).mono ?_); rintro e W2 ⟨rfl, hb⟩; have K2 := hid (K1.out.below hb K1.out.lt); have R2 := hid (R1.out.below hb R1.out.lt); have HB2 := hid (tb HB1 hb); have cK2 := K2.out.cell; have fK2 := K2.out.frozen; have cR2 := R2.out.cell; have fR2 := R2.out.frozen; clear hb)
  | (go_at_call 31; (with_reducible refine (cW.out _ (HM.out.on HB2.out HM.out.lt)).mono ?_); rintro e W3 ⟨rfl, hb⟩; have K3 := hid (K2.out.below hb K2.out.lt); have R3 := hid (R2.out.below hb R2.out.lt); have HB3 := hid (tb HB2 hb); have hr3 := hid R3.out.lt; have K3 := hid (K3.out.alloc (.cells #[.int .i64 k0, .int .i64 n0] 38)); have R3 := hid (R3.out.alloc (.cells #[.int .i64 k0, .int .i64 n0] 38)); have HB3 := hid (HB3.out.alloc HB3.out.size (.cells #[.int .i64 k0, .int .i64 n0] 38)); have K3 := hid (K3.out.alloc (.cells #[.int .i64 0, .int .i64 0] 38)); have R3 := hid (R3.out.alloc (.cells #[.int .i64 0, .int .i64 0] 38)); have HB3 := hid (HB3.out.alloc HB3.out.size (.cells #[.int .i64 0, .int .i64 0] 38)); have V3 := hid (show Blk ((W3.alloc (.cells #[.int .i64 k0, .int .i64 n0] 38)).alloc (.cells #[.int .i64 0, .int .i64 0] 38)) (W3.heap.size + 1) 38 #[.int .i64 0, .int .i64 0] from Blk.new (by simp)); have cK3 := K3.out.cell; have fK3 := K3.out.frozen; have cR3 := R3.out.cell; have fR3 := R3.out.frozen; have cV3 := V3.out.cell; have fV3 := V3.out.frozen; clear hb)
  | (go_at_call 25; (with_reducible refine (cA.out _).mono ?_); rintro e W4 ⟨rfl, hb⟩; have K4 := hid (K3.out.below hb K3.out.lt); have R4 := hid (R3.out.below hb R3.out.lt); have V4 := hid (V3.out.below hb V3.out.lt); have HB4 := hid (tb HB3 hb); have cK4 := K4.out.cell; have fK4 := K4.out.frozen; have cR4 := R4.out.cell; have fR4 := R4.out.frozen; have cV4 := V4.out.cell; have fV4 := V4.out.frozen; clear hb)
  | (go_at_call 33; (with_reducible refine (cC.out _).mono ?_); rintro e W5 ⟨rfl, hb⟩; have K5 := hid (K4.out.below hb K4.out.lt); have R5 := hid (R4.out.below hb R4.out.lt); have V5 := hid (V4.out.below hb V4.out.lt); have HB5 := hid (tb HB4 hb); have cK5 := K5.out.cell; have fK5 := K5.out.frozen; have cR5 := R5.out.cell; have fR5 := R5.out.frozen; have cV5 := V5.out.cell; have fV5 := V5.out.frozen; clear hb)
  | (go_at_call 35; (with_reducible refine (cR.out _ (HM.out.on HB5.out HM.out.lt) (HU.out.on HB5.out)).mono ?_); rintro e W6 ⟨⟨x, hx, rfl⟩, hb⟩; have K6 := hid (K5.out.below hb K5.out.lt); have R6 := hid (R5.out.below hb R5.out.lt); have V6 := hid (V5.out.below hb V5.out.lt); have HB6 := hid (tb HB5 hb); have K6 := hid (K6.out.alloc (.cells #[.int .i64 0, .int .i64 0, .string ⟨#[]⟩, .slice none 0 0] 50)); have R6 := hid (R6.out.alloc (.cells #[.int .i64 0, .int .i64 0, .string ⟨#[]⟩, .slice none 0 0] 50)); have V6 := hid (V6.out.alloc (.cells #[.int .i64 0, .int .i64 0, .string ⟨#[]⟩, .slice none 0 0] 50)); have HB6 := hid (HB6.out.alloc HB6.out.size (.cells #[.int .i64 0, .int .i64 0, .string ⟨#[]⟩, .slice none 0 0] 50)); have cK6 := K6.out.cell; have fK6 := K6.out.frozen; have cR6 := R6.out.cell; have fR6 := R6.out.frozen; have cV6 := V6.out.cell; have fV6 := V6.out.frozen; clear hb))
 have e3 := ((R6.out.put 0 (.int .i64 (0))).put 1 (.int .i64 (0))).cell
 exact bodyPost_ret (v := .tuple #[.agg #[.int .i64 (0), .int .i64 (0)], .int .i64 4]) (by simp [results, Tryz.results11, go_sem, e3]) rfl ⟨⟨_, _, _, rfl, .inr ⟨rfl, rfl, rfl⟩⟩, (HB6.out.setCell (p := ⟨w.heap.size + 1, 0, none⟩) (Nat.le_succ _) _).setCell (p := ⟨w.heap.size + 1, 1, none⟩) (Nat.le_succ _) _⟩
theorem read_t1 (p : Int) (S L : ByteArray) (em rem vw vh cur k0 n0 : Int) (F : Int -> Int -> Bool) (nm kd ks au : Bs) (ab : Bool) (cI0 : ∀ w, Calls Tryz.prog 26 #[.int .i64 p] w (rt w (.bool true))) (cL0 : ∀ w, Calls Tryz.prog 32 #[.string S] w (rt w (.string L))) (cW0 : ∀ w, MaxL w -> Calls Tryz.prog 31 #[.int .i64 p, .string L] w (rt w (.tuple #[.agg #[.int .i64 k0, .int .i64 n0], .bool false]))) (cA0 : ∀ w, Calls Tryz.prog 25 #[.int .i64 p] w (rt w (.agg #[.string (bs nm), .string (bs kd), .string (bs ks), .string (bs au), .bool ab]))) (cC0 : ∀ w, Calls Tryz.prog 33 #[.string (bs kd), .string ⟨#[99]⟩] w (rt w (.bool false))) (cR0 : ∀ w, MaxL w -> UnitsAt w -> Calls Tryz.prog 35 #[.string S] w fun e w' => (∃ (tk tn : Int) (tu : ByteArray) (ta : Option Addr) (tl tc : Nat), e = .returned (.tuple #[.agg #[.int .i64 tk, .int .i64 tn, .string tu, .slice ta tl tc], .int .i64 0]) /\ ∀ W, Below w'.heap.size w' W -> Calls Tryz.prog 12 #[.agg #[.int .i64 tk, .int .i64 tn, .string tu, .slice ta tl tc], .agg #[.int .i64 em, .int .i64 rem, .int .i64 vw, .int .i64 vh]] W (cal.VRes W)) /\ Below w.heap.size w w') (cT0 : ∀ w k n, (-9223372036854775808 <= n /\ n <= 9223372036854775807) -> Calls Tryz.prog 36 #[.int .i64 p, .agg #[.int .i64 k, .int .i64 n], .int .i64 em] w (TRes w)) (cF0 : ∀ w k n, (-9223372036854775808 <= n /\ n <= 9223372036854775807) -> MaxL w -> Calls Tryz.prog 15 #[.int .i64 p, .agg #[.int .i64 k, .int .i64 n]] w (rt w (.bool (F k n)))) (w : World) (hm : MaxL w) (hU : UnitsAt w) (hE : col.ErrsAt w) (hT : PowAt w) : Calls Tryz.prog 11 #[.int .i64 p, .string S, .agg #[.int .i64 em, .int .i64 rem, .int .i64 vw, .int .i64 vh], .int .i64 cur] w (RRes F w) := by
 have hfd := field_row1
 have cI := hid cI0
 have cL := hid cL0
 have cW := hid cW0
 have cA := hid cA0
 have cC := hid cC0
 have cR := hid cR0
 have cT := hid cT0
 have cF := hid cF0
 have HM := hid hm
 have HU := hid hU
 have HE := hid hE
 have HT := hid hT
 clear hm hU hE hT cI0 cL0 cW0 cA0 cC0 cR0 cT0 cF0
 have K0 := hid (show Blk ((w.alloc (.cells #[.int .i64 em, .int .i64 rem, .int .i64 vw, .int .i64 vh] 42)).alloc (.cells #[.int .i64 0, .int .i64 0] 38)) w.heap.size 42 #[.int .i64 em, .int .i64 rem, .int .i64 vw, .int .i64 vh] from (Blk.new rfl).alloc _)
 have R0 := hid (show Blk ((w.alloc (.cells #[.int .i64 em, .int .i64 rem, .int .i64 vw, .int .i64 vh] 42)).alloc (.cells #[.int .i64 0, .int .i64 0] 38)) (w.heap.size + 1) 38 #[.int .i64 0, .int .i64 0] from Blk.new (by simp))
 have HB0 := hid ((ba w (.cells #[.int .i64 em, .int .i64 rem, .int .i64 vw, .int .i64 vh] 42)).alloc (by simp) (.cells #[.int .i64 0, .int .i64 0] 38))
 go_enter Tryz.func11, Tryz.ntmps11
 go_upto_region 18 with (first
  | (go_at_call 26; (with_reducible refine (cI.out _).mono ?_); rintro e W1 ⟨rfl, hb⟩; have K1 := hid (K0.out.below hb K0.out.lt); have R1 := hid (R0.out.below hb R0.out.lt); have HB1 := hid (tb HB0 hb); have cK1 := K1.out.cell; have fK1 := K1.out.frozen; have cR1 := R1.out.cell; have fR1 := R1.out.frozen; clear hb)
  | (go_at_call 32; (with_reducible refine (cL.out _).mono ?_); rintro e W2 ⟨rfl, hb⟩; have K2 := hid (K1.out.below hb K1.out.lt); have R2 := hid (R1.out.below hb R1.out.lt); have HB2 := hid (tb HB1 hb); have cK2 := K2.out.cell; have fK2 := K2.out.frozen; have cR2 := R2.out.cell; have fR2 := R2.out.frozen; clear hb)
  | (go_at_call 31; (with_reducible refine (cW.out _ (HM.out.on HB2.out HM.out.lt)).mono ?_); rintro e W3 ⟨rfl, hb⟩; have K3 := hid (K2.out.below hb K2.out.lt); have R3 := hid (R2.out.below hb R2.out.lt); have HB3 := hid (tb HB2 hb); have hr3 := hid R3.out.lt; have K3 := hid (K3.out.alloc (.cells #[.int .i64 k0, .int .i64 n0] 38)); have R3 := hid (R3.out.alloc (.cells #[.int .i64 k0, .int .i64 n0] 38)); have HB3 := hid (HB3.out.alloc HB3.out.size (.cells #[.int .i64 k0, .int .i64 n0] 38)); have K3 := hid (K3.out.alloc (.cells #[.int .i64 0, .int .i64 0] 38)); have R3 := hid (R3.out.alloc (.cells #[.int .i64 0, .int .i64 0] 38)); have HB3 := hid (HB3.out.alloc HB3.out.size (.cells #[.int .i64 0, .int .i64 0] 38)); have V3 := hid (show Blk ((W3.alloc (.cells #[.int .i64 k0, .int .i64 n0] 38)).alloc (.cells #[.int .i64 0, .int .i64 0] 38)) (W3.heap.size + 1) 38 #[.int .i64 0, .int .i64 0] from Blk.new (by simp)); have cK3 := K3.out.cell; have fK3 := K3.out.frozen; have cR3 := R3.out.cell; have fR3 := R3.out.frozen; have cV3 := V3.out.cell; have fV3 := V3.out.frozen; clear hb)
  | (go_at_call 25; (with_reducible refine (cA.out _).mono ?_); rintro e W4 ⟨rfl, hb⟩; have K4 := hid (K3.out.below hb K3.out.lt); have R4 := hid (R3.out.below hb R3.out.lt); have V4 := hid (V3.out.below hb V3.out.lt); have HB4 := hid (tb HB3 hb); have cK4 := K4.out.cell; have fK4 := K4.out.frozen; have cR4 := R4.out.cell; have fR4 := R4.out.frozen; have cV4 := V4.out.cell; have fV4 := V4.out.frozen; clear hb)
  | (go_at_call 33; (with_reducible refine (cC.out _).mono ?_); rintro e W5 ⟨rfl, hb⟩; have K5 := hid (K4.out.below hb K4.out.lt); have R5 := hid (R4.out.below hb R4.out.lt); have V5 := hid (V4.out.below hb V4.out.lt); have HB5 := hid (tb HB4 hb); have cK5 := K5.out.cell; have fK5 := K5.out.frozen; have cR5 := R5.out.cell; have fR5 := R5.out.frozen; have cV5 := V5.out.cell; have fV5 := V5.out.frozen; clear hb)
  | (go_at_call 35; (with_reducible refine (cR.out _ (HM.out.on HB5.out HM.out.lt) (HU.out.on HB5.out)).mono ?_); rintro e W6 ⟨⟨tk, tn, tu, ta, tl, tc, rfl, hval⟩, hb⟩; have K6 := hid (K5.out.below hb K5.out.lt); have R6 := hid (R5.out.below hb R5.out.lt); have V6 := hid (V5.out.below hb V5.out.lt); have HB6 := hid (tb HB5 hb); have cV := hid (fun (W : World) (hW : Below W6.heap.size W6 W) => hval W hW); have G6 := hid (ba W6 (.cells #[.int .i64 tk, .int .i64 tn, .string tu, .slice ta tl tc] 50)); clear hval; have K6 := hid (K6.out.alloc (.cells #[.int .i64 tk, .int .i64 tn, .string tu, .slice ta tl tc] 50)); have R6 := hid (R6.out.alloc (.cells #[.int .i64 tk, .int .i64 tn, .string tu, .slice ta tl tc] 50)); have V6 := hid (V6.out.alloc (.cells #[.int .i64 tk, .int .i64 tn, .string tu, .slice ta tl tc] 50)); have HB6 := hid (HB6.out.alloc HB6.out.size (.cells #[.int .i64 tk, .int .i64 tn, .string tu, .slice ta tl tc] 50)); have cK6 := K6.out.cell; have fK6 := K6.out.frozen; have cR6 := R6.out.cell; have fR6 := R6.out.frozen; have cV6 := V6.out.cell; have fV6 := V6.out.frozen; clear hb)
  | (go_at_call 12; (with_reducible refine (cV.out _ G6.out).mono ?_); rintro e W7 ⟨⟨k1, n1, x, rfl, hx0, hx1⟩, hb⟩; have K7 := hid (K6.out.below hb K6.out.lt); have R7 := hid (R6.out.below hb R6.out.lt); have V7 := hid (V6.out.below hb V6.out.lt); have HB7 := hid (tb HB6 hb); have aK7 := K7.out.cell; have bK7 := K7.out.frozen; have aR7 := R7.out.cell; have bR7 := R7.out.frozen; have aV7 := V7.out.cell; have bV7 := V7.out.frozen; have K7 := hid (K7.out.far (p := ⟨W3.heap.size + 1, 0, none⟩) (by have := hr3.out; show _ ≠ W3.heap.size + 1; omega) (.int .i64 k1)); have R7 := hid (R7.out.far (p := ⟨W3.heap.size + 1, 0, none⟩) (by have := hr3.out; show _ ≠ W3.heap.size + 1; omega) (.int .i64 k1)); have V7 := hid (V7.out.put 0 (.int .i64 k1)); have HB7 := hid (HB7.out.setCell (p := ⟨W3.heap.size + 1, 0, none⟩) (by have := hr3.out; show w.heap.size <= W3.heap.size + 1; omega) (.int .i64 k1)); have K7 := hid (K7.out.far (p := ⟨W3.heap.size + 1, 1, none⟩) (by have := hr3.out; show _ ≠ W3.heap.size + 1; omega) (.int .i64 n1)); have R7 := hid (R7.out.far (p := ⟨W3.heap.size + 1, 1, none⟩) (by have := hr3.out; show _ ≠ W3.heap.size + 1; omega) (.int .i64 n1)); have V7 := hid (V7.out.put 1 (.int .i64 n1)); have HB7 := hid (HB7.out.setCell (p := ⟨W3.heap.size + 1, 1, none⟩) (by have := hr3.out; show w.heap.size <= W3.heap.size + 1; omega) (.int .i64 n1)); have cK7 := K7.out.cell; have fK7 := K7.out.frozen; have cR7 := R7.out.cell; have fR7 := R7.out.frozen; have cV7 := V7.out.cell; have fV7 := V7.out.frozen; clear hb))
 by_cases hx : x = 0
 ·subst hx
  go_upto_if 75 with (first
  | (go_at_call 36; (with_reducible refine (cT.out _ _ _ ⟨by omega, by omega⟩).mono ?_); rintro e W8 ⟨⟨k2, n2, rfl, hy0, hy1⟩, hb⟩; have K8 := hid (K7.out.below hb K7.out.lt); have R8 := hid (R7.out.below hb R7.out.lt); have V8 := hid (V7.out.below hb V7.out.lt); have HB8 := hid (tb HB7 hb); have aK8 := K8.out.cell; have bK8 := K8.out.frozen; have aR8 := R8.out.cell; have bR8 := R8.out.frozen; have aV8 := V8.out.cell; have bV8 := V8.out.frozen; have K8 := hid (K8.out.far (p := ⟨W3.heap.size + 1, 0, none⟩) (by have := hr3.out; show _ ≠ W3.heap.size + 1; omega) (.int .i64 k2)); have R8 := hid (R8.out.far (p := ⟨W3.heap.size + 1, 0, none⟩) (by have := hr3.out; show _ ≠ W3.heap.size + 1; omega) (.int .i64 k2)); have V8 := hid (V8.out.put 0 (.int .i64 k2)); have HB8 := hid (HB8.out.setCell (p := ⟨W3.heap.size + 1, 0, none⟩) (by have := hr3.out; show w.heap.size <= W3.heap.size + 1; omega) (.int .i64 k2)); have K8 := hid (K8.out.far (p := ⟨W3.heap.size + 1, 1, none⟩) (by have := hr3.out; show _ ≠ W3.heap.size + 1; omega) (.int .i64 n2)); have R8 := hid (R8.out.far (p := ⟨W3.heap.size + 1, 1, none⟩) (by have := hr3.out; show _ ≠ W3.heap.size + 1; omega) (.int .i64 n2)); have V8 := hid (V8.out.put 1 (.int .i64 n2)); have HB8 := hid (HB8.out.setCell (p := ⟨W3.heap.size + 1, 1, none⟩) (by have := hr3.out; show w.heap.size <= W3.heap.size + 1; omega) (.int .i64 n2)); have cK8 := K8.out.cell; have fK8 := K8.out.frozen; have cR8 := R8.out.cell; have fR8 := R8.out.frozen; have cV8 := V8.out.cell; have fV8 := V8.out.frozen; clear hb)
  | (go_at_call 15; (with_reducible refine (cF.out _ _ _ ⟨hy0, hy1⟩ (HM.out.on HB8.out HM.out.lt)).mono ?_); rintro e W9 ⟨rfl, hb⟩; have K9 := hid (K8.out.below hb K8.out.lt); have R9 := hid (R8.out.below hb R8.out.lt); have V9 := hid (V8.out.below hb V8.out.lt); have HB9 := hid (tb HB8 hb); have cK9 := K9.out.cell; have fK9 := K9.out.frozen; have cR9 := R9.out.cell; have fR9 := R9.out.frozen; have cV9 := V9.out.cell; have fV9 := V9.out.frozen; clear hb))
  cases hF : F k2 n2
  ·go_wp2_with fail
   have e3 := ((R9.out.put 0 (.int .i64 (0))).put 1 (.int .i64 (0))).cell
   exact bodyPost_ret (v := .tuple #[.agg #[.int .i64 (0), .int .i64 (0)], .int .i64 4]) (by simp [results, Tryz.results11, go_sem, e3]) rfl ⟨⟨_, _, _, rfl, .inr ⟨rfl, rfl, rfl⟩⟩, (HB9.out.setCell (p := ⟨w.heap.size + 1, 0, none⟩) (Nat.le_succ _) _).setCell (p := ⟨w.heap.size + 1, 1, none⟩) (Nat.le_succ _) _⟩
  ·go_wp2_with fail
   have e3 := ((R9.out.put 0 (.int .i64 (k2))).put 1 (.int .i64 (n2))).cell
   exact bodyPost_ret (v := .tuple #[.agg #[.int .i64 (k2), .int .i64 (n2)], .int .i64 0]) (by simp [results, Tryz.results11, go_sem, e3]) rfl ⟨⟨_, _, _, rfl, .inl ⟨rfl, hF, hy0, hy1⟩⟩, (HB9.out.setCell (p := ⟨w.heap.size + 1, 0, none⟩) (Nat.le_succ _) _).setCell (p := ⟨w.heap.size + 1, 1, none⟩) (Nat.le_succ _) _⟩
 ·go_wp2_with fail
  have e3 := ((R7.out.put 0 (.int .i64 (0))).put 1 (.int .i64 (0))).cell
  exact bodyPost_ret (v := .tuple #[.agg #[.int .i64 (0), .int .i64 (0)], .int .i64 4]) (by simp [results, Tryz.results11, go_sem, e3]) rfl ⟨⟨_, _, _, rfl, .inr ⟨rfl, rfl, rfl⟩⟩, (HB7.out.setCell (p := ⟨w.heap.size + 1, 0, none⟩) (Nat.le_succ _) _).setCell (p := ⟨w.heap.size + 1, 1, none⟩) (Nat.le_succ _) _⟩
theorem read_c0 (p : Int) (S L : ByteArray) (em rem vw vh cur k0 n0 : Int) (F : Int -> Int -> Bool) (hcur : (L.toList == [99, 117, 114, 114, 101, 110, 116, 99, 111, 108, 111, 114]) = false) (nm kd ks au : Bs) (ab : Bool) (cI0 : ∀ w, Calls Tryz.prog 26 #[.int .i64 p] w (rt w (.bool true))) (cL0 : ∀ w, Calls Tryz.prog 32 #[.string S] w (rt w (.string L))) (cW0 : ∀ w, MaxL w -> Calls Tryz.prog 31 #[.int .i64 p, .string L] w (rt w (.tuple #[.agg #[.int .i64 k0, .int .i64 n0], .bool false]))) (cA0 : ∀ w, Calls Tryz.prog 25 #[.int .i64 p] w (rt w (.agg #[.string (bs nm), .string (bs kd), .string (bs ks), .string (bs au), .bool ab]))) (cC0 : ∀ w, Calls Tryz.prog 33 #[.string (bs kd), .string ⟨#[99]⟩] w (rt w (.bool true))) (cO0 : ∀ w, MaxL w -> col.ErrsAt w -> PowAt w -> Calls Tryz.prog 34 #[.string S] w fun e w' => (∃ c x : Int, e = .returned (.tuple #[.int .i64 c, .int .i64 x]) /\ (x = 0 ∨ x = 4) /\ -9223372036854775808 <= c /\ c <= 9223372036854775807) /\ Below w.heap.size w w') (cF0 : ∀ w k n, (-9223372036854775808 <= n /\ n <= 9223372036854775807) -> MaxL w -> Calls Tryz.prog 15 #[.int .i64 p, .agg #[.int .i64 k, .int .i64 n]] w (rt w (.bool (F k n)))) (w : World) (hm : MaxL w) (hU : UnitsAt w) (hE : col.ErrsAt w) (hT : PowAt w) : Calls Tryz.prog 11 #[.int .i64 p, .string S, .agg #[.int .i64 em, .int .i64 rem, .int .i64 vw, .int .i64 vh], .int .i64 cur] w (RRes F w) := by
 have hfd := field_row1
 have cI := hid cI0
 have cL := hid cL0
 have cW := hid cW0
 have cA := hid cA0
 have cC := hid cC0
 have cO := hid cO0
 have cF := hid cF0
 have HM := hid hm
 have HU := hid hU
 have HE := hid hE
 have HT := hid hT
 clear hm hU hE hT cI0 cL0 cW0 cA0 cC0 cO0 cF0
 have K0 := hid (show Blk ((w.alloc (.cells #[.int .i64 em, .int .i64 rem, .int .i64 vw, .int .i64 vh] 42)).alloc (.cells #[.int .i64 0, .int .i64 0] 38)) w.heap.size 42 #[.int .i64 em, .int .i64 rem, .int .i64 vw, .int .i64 vh] from (Blk.new rfl).alloc _)
 have R0 := hid (show Blk ((w.alloc (.cells #[.int .i64 em, .int .i64 rem, .int .i64 vw, .int .i64 vh] 42)).alloc (.cells #[.int .i64 0, .int .i64 0] 38)) (w.heap.size + 1) 38 #[.int .i64 0, .int .i64 0] from Blk.new (by simp))
 have HB0 := hid ((ba w (.cells #[.int .i64 em, .int .i64 rem, .int .i64 vw, .int .i64 vh] 42)).alloc (by simp) (.cells #[.int .i64 0, .int .i64 0] 38))
 go_enter Tryz.func11, Tryz.ntmps11
 go_upto_region 12 with (first
  | (go_at_call 26; (with_reducible refine (cI.out _).mono ?_); rintro e W1 ⟨rfl, hb⟩; have K1 := hid (K0.out.below hb K0.out.lt); have R1 := hid (R0.out.below hb R0.out.lt); have HB1 := hid (tb HB0 hb); have cK1 := K1.out.cell; have fK1 := K1.out.frozen; have cR1 := R1.out.cell; have fR1 := R1.out.frozen; clear hb)
  | (go_at_call 32; (with_reducible refine (cL.out _).mono ?_); rintro e W2 ⟨rfl, hb⟩; have K2 := hid (K1.out.below hb K1.out.lt); have R2 := hid (R1.out.below hb R1.out.lt); have HB2 := hid (tb HB1 hb); have cK2 := K2.out.cell; have fK2 := K2.out.frozen; have cR2 := R2.out.cell; have fR2 := R2.out.frozen; clear hb)
  | (go_at_call 31; (with_reducible refine (cW.out _ (HM.out.on HB2.out HM.out.lt)).mono ?_); rintro e W3 ⟨rfl, hb⟩; have K3 := hid (K2.out.below hb K2.out.lt); have R3 := hid (R2.out.below hb R2.out.lt); have HB3 := hid (tb HB2 hb); have hr3 := hid R3.out.lt; have K3 := hid (K3.out.alloc (.cells #[.int .i64 k0, .int .i64 n0] 38)); have R3 := hid (R3.out.alloc (.cells #[.int .i64 k0, .int .i64 n0] 38)); have HB3 := hid (HB3.out.alloc HB3.out.size (.cells #[.int .i64 k0, .int .i64 n0] 38)); have K3 := hid (K3.out.alloc (.cells #[.int .i64 0, .int .i64 0] 38)); have R3 := hid (R3.out.alloc (.cells #[.int .i64 0, .int .i64 0] 38)); have HB3 := hid (HB3.out.alloc HB3.out.size (.cells #[.int .i64 0, .int .i64 0] 38)); have V3 := hid (show Blk ((W3.alloc (.cells #[.int .i64 k0, .int .i64 n0] 38)).alloc (.cells #[.int .i64 0, .int .i64 0] 38)) (W3.heap.size + 1) 38 #[.int .i64 0, .int .i64 0] from Blk.new (by simp)); have cK3 := K3.out.cell; have fK3 := K3.out.frozen; have cR3 := R3.out.cell; have fR3 := R3.out.frozen; have cV3 := V3.out.cell; have fV3 := V3.out.frozen; clear hb)
  | (go_at_call 25; (with_reducible refine (cA.out _).mono ?_); rintro e W4 ⟨rfl, hb⟩; have K4 := hid (K3.out.below hb K3.out.lt); have R4 := hid (R3.out.below hb R3.out.lt); have V4 := hid (V3.out.below hb V3.out.lt); have HB4 := hid (tb HB3 hb); have cK4 := K4.out.cell; have fK4 := K4.out.frozen; have cR4 := R4.out.cell; have fR4 := R4.out.frozen; have cV4 := V4.out.cell; have fV4 := V4.out.frozen; clear hb)
  | (go_at_call 33; (with_reducible refine (cC.out _).mono ?_); rintro e W5 ⟨rfl, hb⟩; have K5 := hid (K4.out.below hb K4.out.lt); have R5 := hid (R4.out.below hb R4.out.lt); have V5 := hid (V4.out.below hb V4.out.lt); have HB5 := hid (tb HB4 hb); have cK5 := K5.out.cell; have fK5 := K5.out.frozen; have cR5 := R5.out.cell; have fR5 := R5.out.frozen; have cV5 := V5.out.cell; have fV5 := V5.out.frozen; clear hb)
  | (go_at_call 34; (with_reducible refine (cO.out _ (HM.out.on HB5.out HM.out.lt) (HE.out.on HB5.out) (HT.out.on HB5.out)).mono ?_); rintro e W6 ⟨⟨c, x, rfl, hx, hc0, hc1⟩, hb⟩; have K6 := hid (K5.out.below hb K5.out.lt); have R6 := hid (R5.out.below hb R5.out.lt); have V6 := hid (V5.out.below hb V5.out.lt); have HB6 := hid (tb HB5 hb); have cK6 := K6.out.cell; have fK6 := K6.out.frozen; have cR6 := R6.out.cell; have fR6 := R6.out.frozen; have cV6 := V6.out.cell; have fV6 := V6.out.frozen; clear hb)
  | (go_at_call 32; (with_reducible refine (cL.out _).mono ?_); rintro e W7 ⟨rfl, hb⟩; have K7 := hid (K6.out.below hb K6.out.lt); have R7 := hid (R6.out.below hb R6.out.lt); have V7 := hid (V6.out.below hb V6.out.lt); have HB7 := hid (tb HB6 hb); have aK7 := K7.out.cell; have bK7 := K7.out.frozen; have aR7 := R7.out.cell; have bR7 := R7.out.frozen; have aV7 := V7.out.cell; have bV7 := V7.out.frozen; have K7 := hid (K7.out.far (p := ⟨W3.heap.size + 1, 0, none⟩) (by have := hr3.out; show _ ≠ W3.heap.size + 1; omega) (.int .i64 5)); have R7 := hid (R7.out.far (p := ⟨W3.heap.size + 1, 0, none⟩) (by have := hr3.out; show _ ≠ W3.heap.size + 1; omega) (.int .i64 5)); have V7 := hid (V7.out.put 0 (.int .i64 5)); have HB7 := hid (HB7.out.setCell (p := ⟨W3.heap.size + 1, 0, none⟩) (by have := hr3.out; show w.heap.size <= W3.heap.size + 1; omega) (.int .i64 5)); have K7 := hid (K7.out.far (p := ⟨W3.heap.size + 1, 1, none⟩) (by have := hr3.out; show _ ≠ W3.heap.size + 1; omega) (.int .i64 (c))); have R7 := hid (R7.out.far (p := ⟨W3.heap.size + 1, 1, none⟩) (by have := hr3.out; show _ ≠ W3.heap.size + 1; omega) (.int .i64 (c))); have V7 := hid (V7.out.put 1 (.int .i64 (c))); have HB7 := hid (HB7.out.setCell (p := ⟨W3.heap.size + 1, 1, none⟩) (by have := hr3.out; show w.heap.size <= W3.heap.size + 1; omega) (.int .i64 (c))); have cK7 := K7.out.cell; have fK7 := K7.out.frozen; have cR7 := R7.out.cell; have fR7 := R7.out.frozen; have cV7 := V7.out.cell; have fV7 := V7.out.frozen; clear hb))
 rcases hx with rfl | rfl
 ·go_upto_if 75 with (first
  | (go_at_call 15; (with_reducible refine (cF.out _ _ _ ⟨hc0, hc1⟩ (HM.out.on HB7.out HM.out.lt)).mono ?_); rintro e W8 ⟨rfl, hb⟩; have K8 := hid (K7.out.below hb K7.out.lt); have R8 := hid (R7.out.below hb R7.out.lt); have V8 := hid (V7.out.below hb V7.out.lt); have HB8 := hid (tb HB7 hb); have cK8 := K8.out.cell; have fK8 := K8.out.frozen; have cR8 := R8.out.cell; have fR8 := R8.out.frozen; have cV8 := V8.out.cell; have fV8 := V8.out.frozen; clear hb))
  cases hF : F 5 c
  ·go_wp2_with fail
   have e3 := ((R8.out.put 0 (.int .i64 (0))).put 1 (.int .i64 (0))).cell
   exact bodyPost_ret (v := .tuple #[.agg #[.int .i64 (0), .int .i64 (0)], .int .i64 4]) (by simp [results, Tryz.results11, go_sem, e3]) rfl ⟨⟨_, _, _, rfl, .inr ⟨rfl, rfl, rfl⟩⟩, (HB8.out.setCell (p := ⟨w.heap.size + 1, 0, none⟩) (Nat.le_succ _) _).setCell (p := ⟨w.heap.size + 1, 1, none⟩) (Nat.le_succ _) _⟩
  ·go_wp2_with fail
   have e3 := ((R8.out.put 0 (.int .i64 (5))).put 1 (.int .i64 (c))).cell
   exact bodyPost_ret (v := .tuple #[.agg #[.int .i64 (5), .int .i64 (c)], .int .i64 0]) (by simp [results, Tryz.results11, go_sem, e3]) rfl ⟨⟨_, _, _, rfl, .inl ⟨rfl, hF, hc0, hc1⟩⟩, (HB8.out.setCell (p := ⟨w.heap.size + 1, 0, none⟩) (Nat.le_succ _) _).setCell (p := ⟨w.heap.size + 1, 1, none⟩) (Nat.le_succ _) _⟩
 ·go_wp2_with fail
  have e3 := ((R7.out.put 0 (.int .i64 (0))).put 1 (.int .i64 (0))).cell
  exact bodyPost_ret (v := .tuple #[.agg #[.int .i64 (0), .int .i64 (0)], .int .i64 4]) (by simp [results, Tryz.results11, go_sem, e3]) rfl ⟨⟨_, _, _, rfl, .inr ⟨rfl, rfl, rfl⟩⟩, (HB7.out.setCell (p := ⟨w.heap.size + 1, 0, none⟩) (Nat.le_succ _) _).setCell (p := ⟨w.heap.size + 1, 1, none⟩) (Nat.le_succ _) _⟩
theorem read_c1 (p : Int) (S L : ByteArray) (em rem vw vh cur k0 n0 : Int) (F : Int -> Int -> Bool) (hcur : (L.toList == [99, 117, 114, 114, 101, 110, 116, 99, 111, 108, 111, 114]) = true) (q : Int) (hq : cur % 4294967296 = q) (hq0 : -9223372036854775808 <= q) (hq1 : q <= 9223372036854775807) (nm kd ks au : Bs) (ab : Bool) (cI0 : ∀ w, Calls Tryz.prog 26 #[.int .i64 p] w (rt w (.bool true))) (cL0 : ∀ w, Calls Tryz.prog 32 #[.string S] w (rt w (.string L))) (cW0 : ∀ w, MaxL w -> Calls Tryz.prog 31 #[.int .i64 p, .string L] w (rt w (.tuple #[.agg #[.int .i64 k0, .int .i64 n0], .bool false]))) (cA0 : ∀ w, Calls Tryz.prog 25 #[.int .i64 p] w (rt w (.agg #[.string (bs nm), .string (bs kd), .string (bs ks), .string (bs au), .bool ab]))) (cC0 : ∀ w, Calls Tryz.prog 33 #[.string (bs kd), .string ⟨#[99]⟩] w (rt w (.bool true))) (cO0 : ∀ w, MaxL w -> col.ErrsAt w -> PowAt w -> Calls Tryz.prog 34 #[.string S] w fun e w' => (∃ c x : Int, e = .returned (.tuple #[.int .i64 c, .int .i64 x]) /\ (x = 0 ∨ x = 4) /\ -9223372036854775808 <= c /\ c <= 9223372036854775807) /\ Below w.heap.size w w') (cF0 : ∀ w k n, (-9223372036854775808 <= n /\ n <= 9223372036854775807) -> MaxL w -> Calls Tryz.prog 15 #[.int .i64 p, .agg #[.int .i64 k, .int .i64 n]] w (rt w (.bool (F k n)))) (w : World) (hm : MaxL w) (hU : UnitsAt w) (hE : col.ErrsAt w) (hT : PowAt w) : Calls Tryz.prog 11 #[.int .i64 p, .string S, .agg #[.int .i64 em, .int .i64 rem, .int .i64 vw, .int .i64 vh], .int .i64 cur] w (RRes F w) := by
 have hfd := field_row1
 have cI := hid cI0
 have cL := hid cL0
 have cW := hid cW0
 have cA := hid cA0
 have cC := hid cC0
 have cO := hid cO0
 have cF := hid cF0
 have HM := hid hm
 have HU := hid hU
 have HE := hid hE
 have HT := hid hT
 clear hm hU hE hT cI0 cL0 cW0 cA0 cC0 cO0 cF0
 have K0 := hid (show Blk ((w.alloc (.cells #[.int .i64 em, .int .i64 rem, .int .i64 vw, .int .i64 vh] 42)).alloc (.cells #[.int .i64 0, .int .i64 0] 38)) w.heap.size 42 #[.int .i64 em, .int .i64 rem, .int .i64 vw, .int .i64 vh] from (Blk.new rfl).alloc _)
 have R0 := hid (show Blk ((w.alloc (.cells #[.int .i64 em, .int .i64 rem, .int .i64 vw, .int .i64 vh] 42)).alloc (.cells #[.int .i64 0, .int .i64 0] 38)) (w.heap.size + 1) 38 #[.int .i64 0, .int .i64 0] from Blk.new (by simp))
 have HB0 := hid ((ba w (.cells #[.int .i64 em, .int .i64 rem, .int .i64 vw, .int .i64 vh] 42)).alloc (by simp) (.cells #[.int .i64 0, .int .i64 0] 38))
 go_enter Tryz.func11, Tryz.ntmps11
 go_upto_region 12 with (first
  | (go_at_call 26; (with_reducible refine (cI.out _).mono ?_); rintro e W1 ⟨rfl, hb⟩; have K1 := hid (K0.out.below hb K0.out.lt); have R1 := hid (R0.out.below hb R0.out.lt); have HB1 := hid (tb HB0 hb); have cK1 := K1.out.cell; have fK1 := K1.out.frozen; have cR1 := R1.out.cell; have fR1 := R1.out.frozen; clear hb)
  | (go_at_call 32; (with_reducible refine (cL.out _).mono ?_); rintro e W2 ⟨rfl, hb⟩; have K2 := hid (K1.out.below hb K1.out.lt); have R2 := hid (R1.out.below hb R1.out.lt); have HB2 := hid (tb HB1 hb); have cK2 := K2.out.cell; have fK2 := K2.out.frozen; have cR2 := R2.out.cell; have fR2 := R2.out.frozen; clear hb)
  | (go_at_call 31; (with_reducible refine (cW.out _ (HM.out.on HB2.out HM.out.lt)).mono ?_); rintro e W3 ⟨rfl, hb⟩; have K3 := hid (K2.out.below hb K2.out.lt); have R3 := hid (R2.out.below hb R2.out.lt); have HB3 := hid (tb HB2 hb); have hr3 := hid R3.out.lt; have K3 := hid (K3.out.alloc (.cells #[.int .i64 k0, .int .i64 n0] 38)); have R3 := hid (R3.out.alloc (.cells #[.int .i64 k0, .int .i64 n0] 38)); have HB3 := hid (HB3.out.alloc HB3.out.size (.cells #[.int .i64 k0, .int .i64 n0] 38)); have K3 := hid (K3.out.alloc (.cells #[.int .i64 0, .int .i64 0] 38)); have R3 := hid (R3.out.alloc (.cells #[.int .i64 0, .int .i64 0] 38)); have HB3 := hid (HB3.out.alloc HB3.out.size (.cells #[.int .i64 0, .int .i64 0] 38)); have V3 := hid (show Blk ((W3.alloc (.cells #[.int .i64 k0, .int .i64 n0] 38)).alloc (.cells #[.int .i64 0, .int .i64 0] 38)) (W3.heap.size + 1) 38 #[.int .i64 0, .int .i64 0] from Blk.new (by simp)); have cK3 := K3.out.cell; have fK3 := K3.out.frozen; have cR3 := R3.out.cell; have fR3 := R3.out.frozen; have cV3 := V3.out.cell; have fV3 := V3.out.frozen; clear hb)
  | (go_at_call 25; (with_reducible refine (cA.out _).mono ?_); rintro e W4 ⟨rfl, hb⟩; have K4 := hid (K3.out.below hb K3.out.lt); have R4 := hid (R3.out.below hb R3.out.lt); have V4 := hid (V3.out.below hb V3.out.lt); have HB4 := hid (tb HB3 hb); have cK4 := K4.out.cell; have fK4 := K4.out.frozen; have cR4 := R4.out.cell; have fR4 := R4.out.frozen; have cV4 := V4.out.cell; have fV4 := V4.out.frozen; clear hb)
  | (go_at_call 33; (with_reducible refine (cC.out _).mono ?_); rintro e W5 ⟨rfl, hb⟩; have K5 := hid (K4.out.below hb K4.out.lt); have R5 := hid (R4.out.below hb R4.out.lt); have V5 := hid (V4.out.below hb V4.out.lt); have HB5 := hid (tb HB4 hb); have cK5 := K5.out.cell; have fK5 := K5.out.frozen; have cR5 := R5.out.cell; have fR5 := R5.out.frozen; have cV5 := V5.out.cell; have fV5 := V5.out.frozen; clear hb)
  | (go_at_call 34; (with_reducible refine (cO.out _ (HM.out.on HB5.out HM.out.lt) (HE.out.on HB5.out) (HT.out.on HB5.out)).mono ?_); rintro e W6 ⟨⟨c, x, rfl, hx, hc0, hc1⟩, hb⟩; have K6 := hid (K5.out.below hb K5.out.lt); have R6 := hid (R5.out.below hb R5.out.lt); have V6 := hid (V5.out.below hb V5.out.lt); have HB6 := hid (tb HB5 hb); have cK6 := K6.out.cell; have fK6 := K6.out.frozen; have cR6 := R6.out.cell; have fR6 := R6.out.frozen; have cV6 := V6.out.cell; have fV6 := V6.out.frozen; clear hb)
  | (go_at_call 32; (with_reducible refine (cL.out _).mono ?_); rintro e W7 ⟨rfl, hb⟩; have K7 := hid (K6.out.below hb K6.out.lt); have R7 := hid (R6.out.below hb R6.out.lt); have V7 := hid (V6.out.below hb V6.out.lt); have HB7 := hid (tb HB6 hb); have aK7 := K7.out.cell; have bK7 := K7.out.frozen; have aR7 := R7.out.cell; have bR7 := R7.out.frozen; have aV7 := V7.out.cell; have bV7 := V7.out.frozen; have K7 := hid (K7.out.far (p := ⟨W3.heap.size + 1, 0, none⟩) (by have := hr3.out; show _ ≠ W3.heap.size + 1; omega) (.int .i64 5)); have R7 := hid (R7.out.far (p := ⟨W3.heap.size + 1, 0, none⟩) (by have := hr3.out; show _ ≠ W3.heap.size + 1; omega) (.int .i64 5)); have V7 := hid (V7.out.put 0 (.int .i64 5)); have HB7 := hid (HB7.out.setCell (p := ⟨W3.heap.size + 1, 0, none⟩) (by have := hr3.out; show w.heap.size <= W3.heap.size + 1; omega) (.int .i64 5)); have K7 := hid (K7.out.far (p := ⟨W3.heap.size + 1, 1, none⟩) (by have := hr3.out; show _ ≠ W3.heap.size + 1; omega) (.int .i64 (q))); have R7 := hid (R7.out.far (p := ⟨W3.heap.size + 1, 1, none⟩) (by have := hr3.out; show _ ≠ W3.heap.size + 1; omega) (.int .i64 (q))); have V7 := hid (V7.out.put 1 (.int .i64 (q))); have HB7 := hid (HB7.out.setCell (p := ⟨W3.heap.size + 1, 1, none⟩) (by have := hr3.out; show w.heap.size <= W3.heap.size + 1; omega) (.int .i64 (q))); have cK7 := K7.out.cell; have fK7 := K7.out.frozen; have cR7 := R7.out.cell; have fR7 := R7.out.frozen; have cV7 := V7.out.cell; have fV7 := V7.out.frozen; clear hb))
 go_upto_if 75 with (first
  | (go_at_call 15; (with_reducible refine (cF.out _ _ _ ⟨hq0, hq1⟩ (HM.out.on HB7.out HM.out.lt)).mono ?_); rintro e W8 ⟨rfl, hb⟩; have K8 := hid (K7.out.below hb K7.out.lt); have R8 := hid (R7.out.below hb R7.out.lt); have V8 := hid (V7.out.below hb V7.out.lt); have HB8 := hid (tb HB7 hb); have cK8 := K8.out.cell; have fK8 := K8.out.frozen; have cR8 := R8.out.cell; have fR8 := R8.out.frozen; have cV8 := V8.out.cell; have fV8 := V8.out.frozen; clear hb))
 cases hF : F 5 q
 ·go_wp2_with fail
  have e3 := ((R8.out.put 0 (.int .i64 (0))).put 1 (.int .i64 (0))).cell
  exact bodyPost_ret (v := .tuple #[.agg #[.int .i64 (0), .int .i64 (0)], .int .i64 4]) (by simp [results, Tryz.results11, go_sem, e3]) rfl ⟨⟨_, _, _, rfl, .inr ⟨rfl, rfl, rfl⟩⟩, (HB8.out.setCell (p := ⟨w.heap.size + 1, 0, none⟩) (Nat.le_succ _) _).setCell (p := ⟨w.heap.size + 1, 1, none⟩) (Nat.le_succ _) _⟩
 ·go_wp2_with fail
  have e3 := ((R8.out.put 0 (.int .i64 (5))).put 1 (.int .i64 (q))).cell
  exact bodyPost_ret (v := .tuple #[.agg #[.int .i64 (5), .int .i64 (q)], .int .i64 0]) (by simp [results, Tryz.results11, go_sem, e3]) rfl ⟨⟨_, _, _, rfl, .inl ⟨rfl, hF, hq0, hq1⟩⟩, (HB8.out.setCell (p := ⟨w.heap.size + 1, 0, none⟩) (Nat.le_succ _) _).setCell (p := ⟨w.heap.size + 1, 1, none⟩) (Nat.le_succ _) _⟩
end prp
namespace prp
open Go.RowKit base tok dim
set_option linter.unusedSimpArgs false
theorem idx_get : ∀ (L : List Bs) (s : Bs), 0 <= idxP L s -> L[(idxP L s).toNat]? = some s
 | [], s, h => by rw [idxP] at h; omega
 | t :: l, s, h => by
  rw [idxP] at h ⊢
  by_cases e : t = s
  ·rw [if_pos e]
   simp [e]
  ·rw [if_neg e] at h ⊢
   by_cases h1 : idxP l s < 0
   ·rw [if_pos h1] at h; omega
   ·rw [if_neg h1]
    have := idx_get l s (by omega)
    rw [show (idxP l s + 1).toNat = (idxP l s).toNat + 1 by omega, List.getElem?_cons_succ]
    exact this
theorem rows_keys : ∀ p : Fin 59, (hasR (rowP p.val).kinds 1 = true ∨ (rowP p.val).keys = []) /\ ((rowP p.val).auto ≠ [] -> hasR (rowP p.val).kinds 6 = true) /\ (p.val = 37 -> hasR (rowP p.val).kinds 2 = true) /\ (19 <= p.val /\ p.val <= 22 -> hasR (rowP p.val).kinds 2 = true /\ (rowP p.val).above = true) /\ (rowP p.val).name ≠ [] := by decide +kernel
theorem pcs_nil : pcs [] = [[]] := by decide +kernel
theorem word_fits {p : Nat} (hp : p < 59) (l : Bs) (h : (wordP p l).2.2 = true) : fitsP p (wordP p l).1 (wordP p l).2.1 = true /\ -9223372036854775808 <= (wordP p l).2.1 /\ (wordP p l).2.1 <= 9223372036854775807 := by
 obtain ⟨r1, r2, r3, r4, -⟩ := rows_keys ⟨p, hp⟩
 simp only at r1 r2 r3 r4
 have hb := idx_bd (pcs (rowP p).keys) l
 have hlen : (pcs (rowP p).keys).length <= 12 := by have := pcs_few ⟨p, hp⟩; simpa [pcs] using this
 have b1 := idx_bd sizesL l
 have b2 := idx_bd thickL l
 rw [show sizesL.length = 19 from rfl] at b1
 rw [show thickL.length = 6 from rfl] at b2
 unfold wordP at h ⊢
 have hw : wordR p (rowP p).keys (rowP p).auto l = (if 0 <= idxP (pcs (rowP p).keys) l /\ l ≠ [45] /\ l ≠ [] then (1, idxP (pcs (rowP p).keys) l, true) else if (rowP p).auto = l /\ l ≠ [] then (6, 0, true) else if p = 37 then (2, 64 * idxP sizesL l, decide (0 < idxP sizesL l)) else if 19 <= p /\ p <= 22 then (2, 64 * idxP thickL l, decide (0 < idxP thickL l)) else (2, 0, false)) := rfl
 by_cases hA : 0 <= idxP (pcs (rowP p).keys) l /\ l ≠ [45] /\ l ≠ []
 ·obtain ⟨e1, e2, e3⟩ := tup3 (hw.trans (if_pos hA))
  rw [e1, e2]
  refine ⟨?_, by omega, by omega⟩
  have hg := idx_get _ _ hA.1
  generalize idxP (pcs (rowP p).keys) l = i at *
  have hk : hasR (rowP p).kinds 1 = true := by
   rcases r1 with r1 | r1
   ·exact r1
   ·rw [r1, pcs_nil] at hg
    have hi : i.toNat = 0 := by
     by_cases h0 : i.toNat = 0
     ·exact h0
     ·rw [List.getElem?_eq_none (by simp; omega)] at hg; cases hg
    rw [hi] at hg
    exact absurd (Option.some.inj hg).symm hA.2.2
  have hv : keyV (rowP p).keys i = bs l := by
   unfold pcs at hg
   rw [List.getElem?_map] at hg
   cases hx : (pcsB (rowP p).keys)[i.toNat]? with
   | none => rw [hx] at hg; simp at hg
   | some x =>
    rw [hx] at hg
    simp only [Option.map_some, Option.some.injEq] at hg
    have hxl : x = bs l := by rw [<- hg, bs_back]
    unfold keyV
    rw [if_neg (by omega), List.getD_eq_getElem?_getD, hx, Option.getD_some, hxl, if_neg]
    intro e
    have := congrArg ByteArray.toList e
    rw [bs_toList, show (⟨#[45]⟩ : ByteArray) = bs [45] from rfl, bs_toList] at this
    exact hA.2.1 this
  unfold fitsP fitsR
  rw [hk, Bool.true_and, if_pos rfl, hv, decide_eq_false]
  ·rfl
  ·intro e
   have := congrArg ByteArray.toList e
   rw [bs_toList, show (⟨#[]⟩ : ByteArray) = bs [] from rfl, bs_toList] at this
   exact hA.2.2 this
 ·by_cases hB : (rowP p).auto = l /\ l ≠ []
  ·obtain ⟨e1, e2, e3⟩ := tup3 (hw.trans <| (if_neg hA).trans (if_pos hB))
   rw [e1, e2]
   refine ⟨?_, by omega, by omega⟩
   have hk := r2 (by rw [hB.1]; exact hB.2)
   unfold fitsP fitsR
   rw [hk, Bool.true_and, if_neg (by decide), if_pos rfl]
   rfl
  ·by_cases h37 : p = 37
   ·obtain ⟨e1, e2, e3⟩ := tup3 (hw.trans <| (if_neg hA).trans ((if_neg hB).trans (if_pos h37)))
    rw [e3, decide_eq_true_eq] at h
    rw [e1, e2]
    generalize idxP sizesL l = z at *
    refine ⟨?_, by omega, by omega⟩
    have hk := r3 h37
    subst h37
    unfold fitsP fitsR
    rw [hk, Bool.true_and, if_neg (by decide), if_neg (by decide), if_neg (by decide), show lowZ 37 (rowP 37).above = 64 from rfl, show highZ 37 = 16777216 from rfl, decide_eq_true (show (64 : Int) <= 64 * z by omega), decide_eq_true (show 64 * z <= 16777216 by omega)]
    rfl
   ·by_cases h19 : 19 <= p /\ p <= 22
    ·obtain ⟨e1, e2, e3⟩ := tup3 (hw.trans <| (if_neg hA).trans ((if_neg hB).trans ((if_neg h37).trans (if_pos h19))))
     rw [e3, decide_eq_true_eq] at h
     rw [e1, e2]
     generalize idxP thickL l = z at *
     refine ⟨?_, by omega, by omega⟩
     obtain ⟨hk, hab⟩ := r4 h19
     have h31 : decide (p = 31) = false := decide_eq_false (by omega)
     have h53 : decide (p = 53) = false := decide_eq_false (by omega)
     have hlo : lowZ p true = 0 := by unfold lowZ; rw [if_neg h37]; rfl
     have hhi : highZ p = 16777216 := by unfold highZ; rw [if_neg (by omega)]
     unfold fitsP fitsR
     rw [hk, hab, Bool.true_and, if_neg (by decide), if_neg (by decide), if_neg (by decide), hlo, hhi, h31, h53, decide_eq_true (show (0 : Int) <= 64 * z by omega), decide_eq_true (show 64 * z <= 16777216 by omega)]
     rfl
    ·obtain ⟨e1, e2, e3⟩ := tup3 (hw.trans <| (if_neg hA).trans ((if_neg hB).trans ((if_neg h37).trans (if_neg h19))))
     rw [e3] at h
     cases h
theorem read_all (p : Nat) (hp : p < 59) (s : Bs) (hs : s.length <= 140737488355328) (em rem vw vh cur : Int) (w : World) (hm : MaxL w) (hU : UnitsAt w) (hE : col.ErrsAt w) (hT : PowAt w) : Calls Tryz.prog 11 #[.int .i64 p, .string (bs s), .agg #[.int .i64 em, .int .i64 rem, .int .i64 vw, .int .i64 vh], .int .i64 cur] w (RRes (fitsP p) w) := by
 have cL : ∀ w, Calls Tryz.prog 32 #[.string (bs s)] w (rt w (.string (bs (s.map lowB)))) := fun w => lower_ct (bs s) (by rw [bs_size]; omega) w
 generalize s.map lowB = l at *
 have cF : ∀ w k n, (-9223372036854775808 <= n /\ n <= 9223372036854775807) -> MaxL w -> Calls Tryz.prog 15 #[.int .i64 p, .agg #[.int .i64 k, .int .i64 n]] w (rt w (.bool (fitsP p k n))) := fun w k n hn hm => fits_ct p hp k n hn w hm
 cases hw : (wordP p l).2.2 with
 | true =>
  have hf := word_fits hp l hw
  have cW : ∀ w, MaxL w -> Calls Tryz.prog 31 #[.int .i64 p, .string (bs l)] w (rt w (.tuple #[.agg #[.int .i64 (wordP p l).1, .int .i64 (wordP p l).2.1], .bool true])) := fun w hm => by
   have c := word_ct p hp l w hm
   rw [hw] at c
   exact c
  exact (read_word p _ _ em rem vw vh cur _ _ (fun w => in_yes p hp w) cL cW w hm hU).mono fun e w' ⟨he, hb⟩ => ⟨⟨_, _, _, he, .inl ⟨rfl, hf⟩⟩, hb⟩
 | false =>
  have cW := fun w hm => word_off p hp l hw w hm
  have cC : ∀ w, Calls Tryz.prog 33 #[.string (bs (rowP p).kinds), .string ⟨#[99]⟩] w (rt w (.bool (decide (0 <= Lib.indexByte (rowP p).kinds 99)))) := fun w => by
   refine (one_ct p hp 99 w).mono ?_
   rintro e' w' ⟨rfl, rfl⟩
   exact ⟨rfl, Below.refl _ _⟩
  cases hc : decide (0 <= Lib.indexByte (rowP p).kinds 99) with
  | true =>
   rw [hc] at cC
   have cO := fun w hm hE hT => col.read_any s hs w hm hE hT
   cases hq : ((bs l).toList == [99, 117, 114, 114, 101, 110, 116, 99, 111, 108, 111, 114]) with
   | true => exact read_c1 p _ _ em rem vw vh cur _ _ (fitsP p) hq _ rfl (by omega) (by omega) _ _ _ _ _ (fun w => in_yes p hp w) cL cW (fun w => row_ct p hp w) cC cO cF w hm hU hE hT
   | false => exact read_c0 p _ _ em rem vw vh cur _ _ (fitsP p) hq _ _ _ _ _ (fun w => in_yes p hp w) cL cW (fun w => row_ct p hp w) cC cO cF w hm hU hE hT
  | false =>
   rw [hc] at cC
   have h := clb.read_any s 2401 (by decide)
   cases hr : clb.readT 2401 s with
   | none =>
    rw [hr] at h
    unfold clb.ReadC at h
    refine read_t0 p _ _ em rem vw vh cur _ _ (fitsP p) _ _ _ _ _ (fun w => in_yes p hp w) cL cW (fun w => row_ct p hp w) cC (fun w hm hU => (h w hm hU).mono ?_) w hm hU hE hT
    rintro e w' ⟨⟨x, hx, he⟩, hb⟩
    exact ⟨⟨x, by rcases hx with rfl | rfl <;> decide, he⟩, hb⟩
   | some t =>
    rw [hr] at h
    unfold clb.ReadC at h
    have hwf := clb.read_wf hr
    refine read_t1 p _ _ em rem vw vh cur _ _ (fitsP p) _ _ _ _ _ (fun w => in_yes p hp w) cL cW (fun w => row_ct p hp w) cC (fun w hm hU => (h w hm hU).mono ?_) (fun w k n hn => turned_any p hp k n em hn w) cF w hm hU hE hT
    rintro e w' ⟨⟨v, he, ht⟩, hb⟩
    obtain ⟨tk, tn, tu, ta, tl, tc, rfl⟩ := ht.four
    exact ⟨⟨tk, tn, tu, ta, tl, tc, he, fun W hW => clb.Value_any t hwf.1 hwf.2 _ em rem vw vh W _ (ht.on hW)⟩, hb⟩
theorem name_ct (p : Nat) (hp : p < 59) (w : World) : Calls Tryz.prog 14 #[.int .i64 p] w (rt w (.string (bs (rowP p).name))) := by
 have hfd := field_row0
 have cI := hid (fun w => in_yes p hp w)
 have cA := hid (fun w => row_ct p hp w)
 go_enter Tryz.func14, Tryz.ntmps14
 go_wp2_with (first
  | (go_at_call 26; (with_reducible refine (cI.out _).mono ?_); rintro e W1 ⟨rfl, hb⟩; have HB1 := hid hb; clear hb)
  | (go_at_call 25; (with_reducible refine (cA.out _).mono ?_); rintro e W2 ⟨rfl, hb⟩; have HB2 := hid (tb HB1 hb); clear hb))
 go_ret
 exact ⟨rfl, HB2.out⟩
theorem name_no (p : Int) (hp : ¬ (0 <= p /\ p < 59)) (w : World) : Calls Tryz.prog 14 #[.int .i64 p] w (rt w (.string ⟨#[]⟩)) := by
 have cI := hid (fun w => in_no p hp w)
 go_enter Tryz.func14, Tryz.ntmps14
 go_wp2_with (go_at_call 26; (with_reducible refine (cI.out _).mono ?_); rintro e W1 ⟨rfl, hb⟩; have HB1 := hid hb; clear hb)
 go_ret
 exact ⟨rfl, HB1.out⟩
end prp
end Go.Proofs.YtlfkkaofgcongaaGreatDoor
