/- Contracts and plain law, a bundle. -/
import Derived.Lib.Hide
import Derived.Test.YtlfkkaofgcongaaGreatDoorCC1
import Derived.Test.YtlfkkaofgcongaaGreatDoorBH
set_option linter.unusedVariables false
set_option maxRecDepth 100000
set_option maxHeartbeats 16000000
open Go.Lib (hid)
namespace Go.Proofs.YtlfkkaofgcongaaGreatDoor
namespace prp
open Go.RowKit base tok
set_option linter.unusedSimpArgs false
def TEnv (P : Int) (nm kd ks au : Bs) (ab cl cn : Bool) : Prop :=
 (∀ w, Calls Tryz.prog 25 #[.int .i64 P] w (rt w (.agg #[.string (bs nm), .string (bs kd), .string (bs ks), .string (bs au), .bool ab]))) /\
 (∀ w, Calls Tryz.prog 33 #[.string (bs kd), .string ⟨#[108]⟩] w fun e w' => e = .returned (.bool cl) /\ w' = w) /\
 (∀ w, Calls Tryz.prog 33 #[.string (bs kd), .string ⟨#[110]⟩] w fun e w' => e = .returned (.bool cn) /\ w' = w)
theorem turn_2 (P n em : Int) (nm kd ks au : Bs) (ab cl cn : Bool) (hE : TEnv P nm kd ks au ab cl cn) (h37 : ¬ P = 37) (w : World) : Calls Tryz.prog 36 #[.int .i64 P, .agg #[.int .i64 2, .int .i64 n], .int .i64 em] w (rt w (.agg #[.int .i64 (2), .int .i64 (n)])) := by
 have hfd := field_row1
 obtain ⟨cA0, cL0, cN0⟩ := hE
 have cA := hid cA0
 have cL := hid cL0
 have cN := hid cN0
 clear cA0 cL0 cN0
 have Q0 := hid (show Blk ((w.alloc (.cells #[.int .i64 2, .int .i64 n] 38)).alloc (.cells #[.int .i64 0, .int .i64 0] 38)) w.heap.size 38 #[.int .i64 2, .int .i64 n] from (Blk.new rfl).alloc _)
 have R0 := hid (show Blk ((w.alloc (.cells #[.int .i64 2, .int .i64 n] 38)).alloc (.cells #[.int .i64 0, .int .i64 0] 38)) (w.heap.size + 1) 38 #[.int .i64 0, .int .i64 0] from Blk.new (by simp))
 have HB0 := hid ((ba w (.cells #[.int .i64 2, .int .i64 n] 38)).alloc (by simp) (.cells #[.int .i64 0, .int .i64 0] 38))
 have h34 : P = 34 ∨ ¬ P = 34 := by omega
 rcases h34 with rfl | h34
 all_goals
  go_enter Tryz.func36, Tryz.ntmps36
  go_wp2_with (first
    | (go_at_call 25; (with_reducible refine (cA.out _).mono ?_); rintro e W1 ⟨rfl, hb⟩; have Q1 := hid (Q0.out.below hb Q0.out.lt); have R1 := hid (R0.out.below hb R0.out.lt); have HB1 := hid (tb HB0 hb); have q1c := Q1.out.cell; have q1f := Q1.out.frozen; have r1c := R1.out.cell; have r1f := R1.out.frozen; clear hb)
    | (go_at_call 33; (with_reducible refine (cL.out _).mono ?_); rintro e W2 ⟨rfl, rfl⟩)
    | (go_at_call 33; (with_reducible refine (cN.out _).mono ?_); rintro e W2 ⟨rfl, rfl⟩)
    | (go_at_call 30; (with_reducible refine (cP.out _).mono ?_); rintro e W3 ⟨rfl, hb⟩; have Q1 := hid (Q1.out.below hb Q1.out.lt); have R1 := hid (R1.out.below hb R1.out.lt); have HB1 := hid (tb HB1 hb); have q1c := Q1.out.cell; have q1f := Q1.out.frozen; have r1c := R1.out.cell; have r1f := R1.out.frozen; clear hb))
  have e3 := ((R1.out.put 0 (.int .i64 (2))).put 1 (.int .i64 (n))).cell
  exact bodyPost_ret (v := .agg #[.int .i64 (2), .int .i64 (n)]) (by simp [results, Tryz.results36, go_sem, e3]) rfl ⟨rfl, (HB1.out.setCell (p := ⟨w.heap.size + 1, 0, none⟩) (Nat.le_succ _) _).setCell (p := ⟨w.heap.size + 1, 1, none⟩) (Nat.le_succ _) _⟩
theorem turn_2n (n em : Int) (nm kd ks au : Bs) (ab cl cn : Bool) (hE : TEnv 37 nm kd ks au ab cl cn) (h : ¬ 0 <= n) (w : World) : Calls Tryz.prog 36 #[.int .i64 37, .agg #[.int .i64 2, .int .i64 n], .int .i64 em] w (rt w (.agg #[.int .i64 (2), .int .i64 (n)])) := by
 have hfd := field_row1
 obtain ⟨cA0, cL0, cN0⟩ := hE
 have cA := hid cA0
 have cL := hid cL0
 have cN := hid cN0
 clear cA0 cL0 cN0
 have Q0 := hid (show Blk ((w.alloc (.cells #[.int .i64 2, .int .i64 n] 38)).alloc (.cells #[.int .i64 0, .int .i64 0] 38)) w.heap.size 38 #[.int .i64 2, .int .i64 n] from (Blk.new rfl).alloc _)
 have R0 := hid (show Blk ((w.alloc (.cells #[.int .i64 2, .int .i64 n] 38)).alloc (.cells #[.int .i64 0, .int .i64 0] 38)) (w.heap.size + 1) 38 #[.int .i64 0, .int .i64 0] from Blk.new (by simp))
 have HB0 := hid ((ba w (.cells #[.int .i64 2, .int .i64 n] 38)).alloc (by simp) (.cells #[.int .i64 0, .int .i64 0] 38))
 go_enter Tryz.func36, Tryz.ntmps36
 go_wp2_with (first
   | (go_at_call 25; (with_reducible refine (cA.out _).mono ?_); rintro e W1 ⟨rfl, hb⟩; have Q1 := hid (Q0.out.below hb Q0.out.lt); have R1 := hid (R0.out.below hb R0.out.lt); have HB1 := hid (tb HB0 hb); have q1c := Q1.out.cell; have q1f := Q1.out.frozen; have r1c := R1.out.cell; have r1f := R1.out.frozen; clear hb)
   | (go_at_call 33; (with_reducible refine (cL.out _).mono ?_); rintro e W2 ⟨rfl, rfl⟩)
   | (go_at_call 33; (with_reducible refine (cN.out _).mono ?_); rintro e W2 ⟨rfl, rfl⟩)
   | (go_at_call 30; (with_reducible refine (cP.out _).mono ?_); rintro e W3 ⟨rfl, hb⟩; have Q1 := hid (Q1.out.below hb Q1.out.lt); have R1 := hid (R1.out.below hb R1.out.lt); have HB1 := hid (tb HB1 hb); have q1c := Q1.out.cell; have q1f := Q1.out.frozen; have r1c := R1.out.cell; have r1f := R1.out.frozen; clear hb))
 have e3 := ((R1.out.put 0 (.int .i64 (2))).put 1 (.int .i64 (n))).cell
 exact bodyPost_ret (v := .agg #[.int .i64 (2), .int .i64 (n)]) (by simp [results, Tryz.results36, go_sem, e3]) rfl ⟨rfl, (HB1.out.setCell (p := ⟨w.heap.size + 1, 0, none⟩) (Nat.le_succ _) _).setCell (p := ⟨w.heap.size + 1, 1, none⟩) (Nat.le_succ _) _⟩
theorem turn_2f (n em : Int) (nm kd ks au : Bs) (ab cl cn : Bool) (hE : TEnv 37 nm kd ks au ab cl cn) (h : 0 <= n) (w : World) : Calls Tryz.prog 36 #[.int .i64 37, .agg #[.int .i64 2, .int .i64 n], .int .i64 em] w (rt w (.agg #[.int .i64 (2), .int .i64 (max n 64)])) := by
 have hfd := field_row1
 obtain ⟨cA0, cL0, cN0⟩ := hE
 have cA := hid cA0
 have cL := hid cL0
 have cN := hid cN0
 clear cA0 cL0 cN0
 have Q0 := hid (show Blk ((w.alloc (.cells #[.int .i64 2, .int .i64 n] 38)).alloc (.cells #[.int .i64 0, .int .i64 0] 38)) w.heap.size 38 #[.int .i64 2, .int .i64 n] from (Blk.new rfl).alloc _)
 have R0 := hid (show Blk ((w.alloc (.cells #[.int .i64 2, .int .i64 n] 38)).alloc (.cells #[.int .i64 0, .int .i64 0] 38)) (w.heap.size + 1) 38 #[.int .i64 0, .int .i64 0] from Blk.new (by simp))
 have HB0 := hid ((ba w (.cells #[.int .i64 2, .int .i64 n] 38)).alloc (by simp) (.cells #[.int .i64 0, .int .i64 0] 38))
 go_enter Tryz.func36, Tryz.ntmps36
 go_wp2_with (first
   | (go_at_call 25; (with_reducible refine (cA.out _).mono ?_); rintro e W1 ⟨rfl, hb⟩; have Q1 := hid (Q0.out.below hb Q0.out.lt); have R1 := hid (R0.out.below hb R0.out.lt); have HB1 := hid (tb HB0 hb); have q1c := Q1.out.cell; have q1f := Q1.out.frozen; have r1c := R1.out.cell; have r1f := R1.out.frozen; clear hb)
   | (go_at_call 33; (with_reducible refine (cL.out _).mono ?_); rintro e W2 ⟨rfl, rfl⟩)
   | (go_at_call 33; (with_reducible refine (cN.out _).mono ?_); rintro e W2 ⟨rfl, rfl⟩)
   | (go_at_call 30; (with_reducible refine (cP.out _).mono ?_); rintro e W3 ⟨rfl, hb⟩; have Q1 := hid (Q1.out.below hb Q1.out.lt); have R1 := hid (R1.out.below hb R1.out.lt); have HB1 := hid (tb HB1 hb); have q1c := Q1.out.cell; have q1f := Q1.out.frozen; have r1c := R1.out.cell; have r1f := R1.out.frozen; clear hb))
 have e3 := (((R1.out.far (p := ⟨w.heap.size, 1, none⟩) (by simp) (.int .i64 (max n 64))).put 0 (.int .i64 (2))).put 1 (.int .i64 (max n 64))).cell
 exact bodyPost_ret (v := .agg #[.int .i64 (2), .int .i64 (max n 64)]) (by simp [results, Tryz.results36, go_sem, e3]) rfl ⟨rfl, ((HB1.out.setCell (p := ⟨w.heap.size, 1, none⟩) (Nat.le_refl _) (.int .i64 (max n 64))).setCell (p := ⟨w.heap.size + 1, 0, none⟩) (Nat.le_succ _) _).setCell (p := ⟨w.heap.size + 1, 1, none⟩) (Nat.le_succ _) _⟩
theorem turn_3 (P n em : Int) (nm kd ks au : Bs) (ab cl cn : Bool) (hE : TEnv P nm kd ks au ab cl cn) (h37 : ¬ P = 37) (h38 : ¬ P = 38) (h34 : ¬ P = 34) (w : World) : Calls Tryz.prog 36 #[.int .i64 P, .agg #[.int .i64 3, .int .i64 n], .int .i64 em] w (rt w (.agg #[.int .i64 (3), .int .i64 (n)])) := by
 have hfd := field_row1
 obtain ⟨cA0, cL0, cN0⟩ := hE
 have cA := hid cA0
 have cL := hid cL0
 have cN := hid cN0
 clear cA0 cL0 cN0
 have Q0 := hid (show Blk ((w.alloc (.cells #[.int .i64 3, .int .i64 n] 38)).alloc (.cells #[.int .i64 0, .int .i64 0] 38)) w.heap.size 38 #[.int .i64 3, .int .i64 n] from (Blk.new rfl).alloc _)
 have R0 := hid (show Blk ((w.alloc (.cells #[.int .i64 3, .int .i64 n] 38)).alloc (.cells #[.int .i64 0, .int .i64 0] 38)) (w.heap.size + 1) 38 #[.int .i64 0, .int .i64 0] from Blk.new (by simp))
 have HB0 := hid ((ba w (.cells #[.int .i64 3, .int .i64 n] 38)).alloc (by simp) (.cells #[.int .i64 0, .int .i64 0] 38))
 have g37 : (P == 37) = false := by simpa using h37
 have g38 : (P == 38) = false := by simpa using h38
 go_enter Tryz.func36, Tryz.ntmps36
 go_wp2_with (first
   | (go_at_call 25; (with_reducible refine (cA.out _).mono ?_); rintro e W1 ⟨rfl, hb⟩; have Q1 := hid (Q0.out.below hb Q0.out.lt); have R1 := hid (R0.out.below hb R0.out.lt); have HB1 := hid (tb HB0 hb); have q1c := Q1.out.cell; have q1f := Q1.out.frozen; have r1c := R1.out.cell; have r1f := R1.out.frozen; clear hb)
   | (go_at_call 33; (with_reducible refine (cL.out _).mono ?_); rintro e W2 ⟨rfl, rfl⟩)
   | (go_at_call 33; (with_reducible refine (cN.out _).mono ?_); rintro e W2 ⟨rfl, rfl⟩)
   | (go_at_call 30; (with_reducible refine (cP.out _).mono ?_); rintro e W3 ⟨rfl, hb⟩; have Q1 := hid (Q1.out.below hb Q1.out.lt); have R1 := hid (R1.out.below hb R1.out.lt); have HB1 := hid (tb HB1 hb); have q1c := Q1.out.cell; have q1f := Q1.out.frozen; have r1c := R1.out.cell; have r1f := R1.out.frozen; clear hb))
 have e3 := ((R1.out.put 0 (.int .i64 (3))).put 1 (.int .i64 (n))).cell
 exact bodyPost_ret (v := .agg #[.int .i64 (3), .int .i64 (n)]) (by simp [results, Tryz.results36, go_sem, e3]) rfl ⟨rfl, (HB1.out.setCell (p := ⟨w.heap.size + 1, 0, none⟩) (Nat.le_succ _) _).setCell (p := ⟨w.heap.size + 1, 1, none⟩) (Nat.le_succ _) _⟩
theorem turn_4 (P n em : Int) (nm kd ks au : Bs) (ab cl cn : Bool) (hE : TEnv P nm kd ks au ab cl cn) (h34 : ¬ P = 34) (h : ¬ n = 0) (w : World) : Calls Tryz.prog 36 #[.int .i64 P, .agg #[.int .i64 4, .int .i64 n], .int .i64 em] w (rt w (.agg #[.int .i64 (4), .int .i64 (n)])) := by
 have hfd := field_row1
 obtain ⟨cA0, cL0, cN0⟩ := hE
 have cA := hid cA0
 have cL := hid cL0
 have cN := hid cN0
 clear cA0 cL0 cN0
 have Q0 := hid (show Blk ((w.alloc (.cells #[.int .i64 4, .int .i64 n] 38)).alloc (.cells #[.int .i64 0, .int .i64 0] 38)) w.heap.size 38 #[.int .i64 4, .int .i64 n] from (Blk.new rfl).alloc _)
 have R0 := hid (show Blk ((w.alloc (.cells #[.int .i64 4, .int .i64 n] 38)).alloc (.cells #[.int .i64 0, .int .i64 0] 38)) (w.heap.size + 1) 38 #[.int .i64 0, .int .i64 0] from Blk.new (by simp))
 have HB0 := hid ((ba w (.cells #[.int .i64 4, .int .i64 n] 38)).alloc (by simp) (.cells #[.int .i64 0, .int .i64 0] 38))
 have h37 : P = 37 ∨ ¬ P = 37 := by omega
 rcases h37 with rfl | h37
 all_goals
  go_enter Tryz.func36, Tryz.ntmps36
  go_wp2_with (first
    | (go_at_call 25; (with_reducible refine (cA.out _).mono ?_); rintro e W1 ⟨rfl, hb⟩; have Q1 := hid (Q0.out.below hb Q0.out.lt); have R1 := hid (R0.out.below hb R0.out.lt); have HB1 := hid (tb HB0 hb); have q1c := Q1.out.cell; have q1f := Q1.out.frozen; have r1c := R1.out.cell; have r1f := R1.out.frozen; clear hb)
    | (go_at_call 33; (with_reducible refine (cL.out _).mono ?_); rintro e W2 ⟨rfl, rfl⟩)
    | (go_at_call 33; (with_reducible refine (cN.out _).mono ?_); rintro e W2 ⟨rfl, rfl⟩)
    | (go_at_call 30; (with_reducible refine (cP.out _).mono ?_); rintro e W3 ⟨rfl, hb⟩; have Q1 := hid (Q1.out.below hb Q1.out.lt); have R1 := hid (R1.out.below hb R1.out.lt); have HB1 := hid (tb HB1 hb); have q1c := Q1.out.cell; have q1f := Q1.out.frozen; have r1c := R1.out.cell; have r1f := R1.out.frozen; clear hb))
  have e3 := ((R1.out.put 0 (.int .i64 (4))).put 1 (.int .i64 (n))).cell
  exact bodyPost_ret (v := .agg #[.int .i64 (4), .int .i64 (n)]) (by simp [results, Tryz.results36, go_sem, e3]) rfl ⟨rfl, (HB1.out.setCell (p := ⟨w.heap.size + 1, 0, none⟩) (Nat.le_succ _) _).setCell (p := ⟨w.heap.size + 1, 1, none⟩) (Nat.le_succ _) _⟩
theorem turn_40 (P em : Int) (nm kd ks au : Bs) (ab cl cn : Bool) (hE : TEnv P nm kd ks au ab cl cn) (h34 : ¬ P = 34) (h : cl = false ∨ (cl = true /\ cn = true)) (w : World) : Calls Tryz.prog 36 #[.int .i64 P, .agg #[.int .i64 4, .int .i64 0], .int .i64 em] w (rt w (.agg #[.int .i64 (4), .int .i64 (0)])) := by
 have hfd := field_row1
 obtain ⟨cA0, cL0, cN0⟩ := hE
 have cA := hid cA0
 have cL := hid cL0
 have cN := hid cN0
 clear cA0 cL0 cN0
 have Q0 := hid (show Blk ((w.alloc (.cells #[.int .i64 4, .int .i64 0] 38)).alloc (.cells #[.int .i64 0, .int .i64 0] 38)) w.heap.size 38 #[.int .i64 4, .int .i64 0] from (Blk.new rfl).alloc _)
 have R0 := hid (show Blk ((w.alloc (.cells #[.int .i64 4, .int .i64 0] 38)).alloc (.cells #[.int .i64 0, .int .i64 0] 38)) (w.heap.size + 1) 38 #[.int .i64 0, .int .i64 0] from Blk.new (by simp))
 have HB0 := hid ((ba w (.cells #[.int .i64 4, .int .i64 0] 38)).alloc (by simp) (.cells #[.int .i64 0, .int .i64 0] 38))
 have h37 : P = 37 ∨ ¬ P = 37 := by omega
 rcases h with rfl | ⟨rfl, rfl⟩ <;> rcases h37 with rfl | h37
 all_goals
  go_enter Tryz.func36, Tryz.ntmps36
  go_wp2_with (first
    | (go_at_call 25; (with_reducible refine (cA.out _).mono ?_); rintro e W1 ⟨rfl, hb⟩; have Q1 := hid (Q0.out.below hb Q0.out.lt); have R1 := hid (R0.out.below hb R0.out.lt); have HB1 := hid (tb HB0 hb); have q1c := Q1.out.cell; have q1f := Q1.out.frozen; have r1c := R1.out.cell; have r1f := R1.out.frozen; clear hb)
    | (go_at_call 33; (with_reducible refine (cL.out _).mono ?_); rintro e W2 ⟨rfl, rfl⟩)
    | (go_at_call 33; (with_reducible refine (cN.out _).mono ?_); rintro e W2 ⟨rfl, rfl⟩)
    | (go_at_call 30; (with_reducible refine (cP.out _).mono ?_); rintro e W3 ⟨rfl, hb⟩; have Q1 := hid (Q1.out.below hb Q1.out.lt); have R1 := hid (R1.out.below hb R1.out.lt); have HB1 := hid (tb HB1 hb); have q1c := Q1.out.cell; have q1f := Q1.out.frozen; have r1c := R1.out.cell; have r1f := R1.out.frozen; clear hb))
  have e3 := ((R1.out.put 0 (.int .i64 (4))).put 1 (.int .i64 (0))).cell
  exact bodyPost_ret (v := .agg #[.int .i64 (4), .int .i64 (0)]) (by simp [results, Tryz.results36, go_sem, e3]) rfl ⟨rfl, (HB1.out.setCell (p := ⟨w.heap.size + 1, 0, none⟩) (Nat.le_succ _) _).setCell (p := ⟨w.heap.size + 1, 1, none⟩) (Nat.le_succ _) _⟩
theorem turn_34 (n em : Int) (nm kd ks au : Bs) (ab cl cn : Bool) (hE : TEnv 34 nm kd ks au ab cl cn) (h : ¬ n = 0) (w : World) : Calls Tryz.prog 36 #[.int .i64 34, .agg #[.int .i64 4, .int .i64 n], .int .i64 em] w (rt w (.agg #[.int .i64 (4), .int .i64 (min (max n 0) 1000)])) := by
 have hfd := field_row1
 obtain ⟨cA0, cL0, cN0⟩ := hE
 have cA := hid cA0
 have cL := hid cL0
 have cN := hid cN0
 clear cA0 cL0 cN0
 have Q0 := hid (show Blk ((w.alloc (.cells #[.int .i64 4, .int .i64 n] 38)).alloc (.cells #[.int .i64 0, .int .i64 0] 38)) w.heap.size 38 #[.int .i64 4, .int .i64 n] from (Blk.new rfl).alloc _)
 have R0 := hid (show Blk ((w.alloc (.cells #[.int .i64 4, .int .i64 n] 38)).alloc (.cells #[.int .i64 0, .int .i64 0] 38)) (w.heap.size + 1) 38 #[.int .i64 0, .int .i64 0] from Blk.new (by simp))
 have HB0 := hid ((ba w (.cells #[.int .i64 4, .int .i64 n] 38)).alloc (by simp) (.cells #[.int .i64 0, .int .i64 0] 38))
 go_enter Tryz.func36, Tryz.ntmps36
 go_wp2_with (first
   | (go_at_call 25; (with_reducible refine (cA.out _).mono ?_); rintro e W1 ⟨rfl, hb⟩; have Q1 := hid (Q0.out.below hb Q0.out.lt); have R1 := hid (R0.out.below hb R0.out.lt); have HB1 := hid (tb HB0 hb); have q1c := Q1.out.cell; have q1f := Q1.out.frozen; have r1c := R1.out.cell; have r1f := R1.out.frozen; clear hb)
   | (go_at_call 33; (with_reducible refine (cL.out _).mono ?_); rintro e W2 ⟨rfl, rfl⟩)
   | (go_at_call 33; (with_reducible refine (cN.out _).mono ?_); rintro e W2 ⟨rfl, rfl⟩)
   | (go_at_call 30; (with_reducible refine (cP.out _).mono ?_); rintro e W3 ⟨rfl, hb⟩; have Q1 := hid (Q1.out.below hb Q1.out.lt); have R1 := hid (R1.out.below hb R1.out.lt); have HB1 := hid (tb HB1 hb); have q1c := Q1.out.cell; have q1f := Q1.out.frozen; have r1c := R1.out.cell; have r1f := R1.out.frozen; clear hb))
 have e3 := (((R1.out.far (p := ⟨w.heap.size, 1, none⟩) (by simp) (.int .i64 (min (max n 0) 1000))).put 0 (.int .i64 (4))).put 1 (.int .i64 (min (max n 0) 1000))).cell
 exact bodyPost_ret (v := .agg #[.int .i64 (4), .int .i64 (min (max n 0) 1000)]) (by simp [results, Tryz.results36, go_sem, e3]) rfl ⟨rfl, ((HB1.out.setCell (p := ⟨w.heap.size, 1, none⟩) (Nat.le_refl _) (.int .i64 (min (max n 0) 1000))).setCell (p := ⟨w.heap.size + 1, 0, none⟩) (Nat.le_succ _) _).setCell (p := ⟨w.heap.size + 1, 1, none⟩) (Nat.le_succ _) _⟩
theorem turn_340 (em : Int) (nm kd ks au : Bs) (ab cl cn : Bool) (hE : TEnv 34 nm kd ks au ab cl cn) (h : cl = false) (w : World) : Calls Tryz.prog 36 #[.int .i64 34, .agg #[.int .i64 4, .int .i64 0], .int .i64 em] w (rt w (.agg #[.int .i64 (4), .int .i64 (min 0 1000)])) := by
 have hfd := field_row1
 obtain ⟨cA0, cL0, cN0⟩ := hE
 have cA := hid cA0
 have cL := hid cL0
 have cN := hid cN0
 clear cA0 cL0 cN0
 have Q0 := hid (show Blk ((w.alloc (.cells #[.int .i64 4, .int .i64 0] 38)).alloc (.cells #[.int .i64 0, .int .i64 0] 38)) w.heap.size 38 #[.int .i64 4, .int .i64 0] from (Blk.new rfl).alloc _)
 have R0 := hid (show Blk ((w.alloc (.cells #[.int .i64 4, .int .i64 0] 38)).alloc (.cells #[.int .i64 0, .int .i64 0] 38)) (w.heap.size + 1) 38 #[.int .i64 0, .int .i64 0] from Blk.new (by simp))
 have HB0 := hid ((ba w (.cells #[.int .i64 4, .int .i64 0] 38)).alloc (by simp) (.cells #[.int .i64 0, .int .i64 0] 38))
 subst h
 go_enter Tryz.func36, Tryz.ntmps36
 go_wp2_with (first
   | (go_at_call 25; (with_reducible refine (cA.out _).mono ?_); rintro e W1 ⟨rfl, hb⟩; have Q1 := hid (Q0.out.below hb Q0.out.lt); have R1 := hid (R0.out.below hb R0.out.lt); have HB1 := hid (tb HB0 hb); have q1c := Q1.out.cell; have q1f := Q1.out.frozen; have r1c := R1.out.cell; have r1f := R1.out.frozen; clear hb)
   | (go_at_call 33; (with_reducible refine (cL.out _).mono ?_); rintro e W2 ⟨rfl, rfl⟩)
   | (go_at_call 33; (with_reducible refine (cN.out _).mono ?_); rintro e W2 ⟨rfl, rfl⟩)
   | (go_at_call 30; (with_reducible refine (cP.out _).mono ?_); rintro e W3 ⟨rfl, hb⟩; have Q1 := hid (Q1.out.below hb Q1.out.lt); have R1 := hid (R1.out.below hb R1.out.lt); have HB1 := hid (tb HB1 hb); have q1c := Q1.out.cell; have q1f := Q1.out.frozen; have r1c := R1.out.cell; have r1f := R1.out.frozen; clear hb))
 have e3 := (((R1.out.far (p := ⟨w.heap.size, 1, none⟩) (by simp) (.int .i64 (min 0 1000))).put 0 (.int .i64 (4))).put 1 (.int .i64 (min 0 1000))).cell
 exact bodyPost_ret (v := .agg #[.int .i64 (4), .int .i64 (min 0 1000)]) (by simp [results, Tryz.results36, go_sem, e3]) rfl ⟨rfl, ((HB1.out.setCell (p := ⟨w.heap.size, 1, none⟩) (Nat.le_refl _) (.int .i64 (min 0 1000))).setCell (p := ⟨w.heap.size + 1, 0, none⟩) (Nat.le_succ _) _).setCell (p := ⟨w.heap.size + 1, 1, none⟩) (Nat.le_succ _) _⟩
end prp
namespace prp
open Go.RowKit base tok dim
set_option linter.unusedSimpArgs false
theorem read_word (p : Int) (S L : ByteArray) (em rem vw vh cur k0 n0 : Int) (cI0 : ∀ w, Calls Tryz.prog 26 #[.int .i64 p] w (rt w (.bool true))) (cL0 : ∀ w, Calls Tryz.prog 32 #[.string S] w (rt w (.string L))) (cW0 : ∀ w, MaxL w -> Calls Tryz.prog 31 #[.int .i64 p, .string L] w (rt w (.tuple #[.agg #[.int .i64 k0, .int .i64 n0], .bool true]))) (w : World) (hm : MaxL w) (hU : UnitsAt w) : Calls Tryz.prog 11 #[.int .i64 p, .string S, .agg #[.int .i64 em, .int .i64 rem, .int .i64 vw, .int .i64 vh], .int .i64 cur] w (rt w (.tuple #[.agg #[.int .i64 k0, .int .i64 n0], .int .i64 0])) := by
 have hfd := field_row1
 have cI := hid cI0
 have cL := hid cL0
 have cW := hid cW0
 have HM := hid hm
 have HU := hid hU
 clear hm hU cI0 cL0 cW0
 have K0 := hid (show Blk ((w.alloc (.cells #[.int .i64 em, .int .i64 rem, .int .i64 vw, .int .i64 vh] 42)).alloc (.cells #[.int .i64 0, .int .i64 0] 38)) w.heap.size 42 #[.int .i64 em, .int .i64 rem, .int .i64 vw, .int .i64 vh] from (Blk.new rfl).alloc _)
 have R0 := hid (show Blk ((w.alloc (.cells #[.int .i64 em, .int .i64 rem, .int .i64 vw, .int .i64 vh] 42)).alloc (.cells #[.int .i64 0, .int .i64 0] 38)) (w.heap.size + 1) 38 #[.int .i64 0, .int .i64 0] from Blk.new (by simp))
 have HB0 := hid ((ba w (.cells #[.int .i64 em, .int .i64 rem, .int .i64 vw, .int .i64 vh] 42)).alloc (by simp) (.cells #[.int .i64 0, .int .i64 0] 38))
 go_enter Tryz.func11, Tryz.ntmps11
 go_wp2_with (first
  | (go_at_call 26; (with_reducible refine (cI.out _).mono ?_); rintro e W1 ⟨rfl, hb⟩; have K1 := hid (K0.out.below hb K0.out.lt); have R1 := hid (R0.out.below hb R0.out.lt); have HB1 := hid (tb HB0 hb); have cK1 := K1.out.cell; have fK1 := K1.out.frozen; have cR1 := R1.out.cell; have fR1 := R1.out.frozen; clear hb)
  | (go_at_call 32; (with_reducible refine (cL.out _).mono ?_); rintro e W2 ⟨rfl, hb⟩; have K2 := hid (K1.out.below hb K1.out.lt); have R2 := hid (R1.out.below hb R1.out.lt); have HB2 := hid (tb HB1 hb); have cK2 := K2.out.cell; have fK2 := K2.out.frozen; have cR2 := R2.out.cell; have fR2 := R2.out.frozen; clear hb)
  | (go_at_call 31; (with_reducible refine (cW.out _ (HM.out.on HB2.out HM.out.lt)).mono ?_); rintro e W3 ⟨rfl, hb⟩; have K3 := hid (K2.out.below hb K2.out.lt); have R3 := hid (R2.out.below hb R2.out.lt); have HB3 := hid (tb HB2 hb); have hr3 := hid R3.out.lt; have K3 := hid (K3.out.alloc (.cells #[.int .i64 k0, .int .i64 n0] 38)); have R3 := hid (R3.out.alloc (.cells #[.int .i64 k0, .int .i64 n0] 38)); have HB3 := hid (HB3.out.alloc HB3.out.size (.cells #[.int .i64 k0, .int .i64 n0] 38)); have cK3 := K3.out.cell; have fK3 := K3.out.frozen; have cR3 := R3.out.cell; have fR3 := R3.out.frozen; clear hb))
 have e3 := ((R3.out.put 0 (.int .i64 (k0))).put 1 (.int .i64 (n0))).cell
 exact bodyPost_ret (v := .tuple #[.agg #[.int .i64 (k0), .int .i64 (n0)], .int .i64 0]) (by simp [results, Tryz.results11, go_sem, e3]) rfl ⟨rfl, (HB3.out.setCell (p := ⟨w.heap.size + 1, 0, none⟩) (Nat.le_succ _) _).setCell (p := ⟨w.heap.size + 1, 1, none⟩) (Nat.le_succ _) _⟩
end prp
end Go.Proofs.YtlfkkaofgcongaaGreatDoor
