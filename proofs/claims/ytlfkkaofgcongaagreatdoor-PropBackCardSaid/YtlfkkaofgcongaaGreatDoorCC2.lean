/- Contracts and plain law, a bundle. -/
import Derived.Lib.Hide
import Derived.Test.YtlfkkaofgcongaaGreatDoorCC1
import Derived.Test.YtlfkkaofgcongaaGreatDoorBH
set_option linter.unusedVariables false
set_option maxRecDepth 100000
set_option maxHeartbeats 16000000
open Go.Lib (hid)
namespace Go.Proofs.YtlfkkaofgcongaaGreatDoor
namespace prp
open Go.RowKit base tok
set_option linter.unusedSimpArgs false
def TEnv (P : Int) (nm kd ks au : Bs) (ab cl cn : Bool) : Prop :=
 (∀ w, Calls Tryz.prog 25 #[.int .i64 P] w (rt w (.agg #[.string (bs nm), .string (bs kd), .string (bs ks), .string (bs au), .bool ab]))) /\
 (∀ w, Calls Tryz.prog 33 #[.string (bs kd), .string ⟨#[108]⟩] w fun e w' => e = .returned (.bool cl) /\ w' = w) /\
 (∀ w, Calls Tryz.prog 33 #[.string (bs kd), .string ⟨#[110]⟩] w fun e w' => e = .returned (.bool cn) /\ w' = w)
theorem turn_2 (P n em : Int) (nm kd ks au : Bs) (ab cl cn : Bool) (hE : TEnv P nm kd ks au ab cl cn) (h37 : ¬ P = 37) (w : World) : Calls Tryz.prog 36 #[.int .i64 P, .agg #[.int .i64 2, .int .i64 n], .int .i64 em] w (rt w (.agg #[.int .i64 (2), .int .i64 (n)])) := by
 have hfd := field_row1
 obtain ⟨cA0, cL0, cN0⟩ := hE
 have cA := hid cA0
 have cL := hid cL0
 have cN := hid cN0
 clear cA0 cL0 cN0
 have Q0 := hid (show Blk ((w.alloc (.cells #[.int .i64 2, .int .i64 n] 38)).alloc (.cells #[.int .i64 0, .int .i64 0] 38)) w.heap.size 38 #[.int .i64 2, .int .i64 n] from (Blk.new rfl).alloc _)
 have R0 := hid (show Blk ((w.alloc (.cells #[.int .i64 2, .int .i64 n] 38)).alloc (.cells #[.int .i64 0, .int .i64 0] 38)) (w.heap.size + 1) 38 #[.int .i64 0, .int .i64 0] from Blk.new (by simp))
 have HB0 := hid ((ba w (.cells #[.int .i64 2, .int .i64 n] 38)).alloc (by simp) (.cells #[.int .i64 0, .int .i64 0] 38))
 have h34 : P = 34 ∨ ¬ P = 34 := by omega
 rcases h34 with rfl | h34
 all_goals
  go_enter Tryz.func36, Tryz.ntmps36
  go_wp2_with (first
    | (go_at_call 25; (with_reducible refine (cA.out _).mono ?_); rintro e W1 ⟨rfl, hb⟩; have Q1 := hid (Q0.out.below hb Q0.out.lt); have R1 := hid (R0.out.below hb R0.out.lt); have HB1 := hid (tb HB0 hb); have q1c := Q1.out.cell; have q1f := Q1.out.frozen; have r1c := R1.out.cell; have r1f := R1.out.frozen; clear hb)
    | (go_at_call 33; (with_reducible refine (cL.out _).mono ?_); rintro e W2 ⟨rfl, rfl⟩)
    | (go_at_call 33; (with_reducible refine (cN.out _).mono ?_); rintro e W2 ⟨rfl, rfl⟩)
    | (go_at_call 30; (with_reducible refine (cP.out _).mono ?_); rintro e W3 ⟨rfl, hb⟩; have Q1 := hid (Q1.out.below hb Q1.out.lt); have R1 := hid (R1.out.below hb R1.out.lt); have HB1 := hid (tb HB1 hb); have q1c := Q1.out.cell; have q1f := Q1.out.frozen; have r1c := R1.out.cell; have r1f := R1.out.frozen; clear hb))
  have e3 := ((R1.out.put 0 (.int .i64 (2))).put 1 (.int .i64 (n))).cell
  exact bodyPost_ret (v := .agg #[.int .i64 (2), .int .i64 (n)]) (by simp [results, Tryz.results36, go_sem, e3]) rfl ⟨rfl, (HB1.out.setCell (p := ⟨w.heap.size + 1, 0, none⟩) (Nat.le_succ _) _).setCell (p := ⟨w.heap.size + 1, 1, none⟩) (Nat.le_succ _) _⟩
theorem turn_2f (n em : Int) (nm kd ks au : Bs) (ab cl cn : Bool) (hE : TEnv 37 nm kd ks au ab cl cn) (h : 0 <= n) (w : World) : Calls Tryz.prog 36 #[.int .i64 37, .agg #[.int .i64 2, .int .i64 n], .int .i64 em] w (rt w (.agg #[.int .i64 (2), .int .i64 (max n 64)])) := by
 have hfd := field_row1
 obtain ⟨cA0, cL0, cN0⟩ := hE
 have cA := hid cA0
 have cL := hid cL0
 have cN := hid cN0
 clear cA0 cL0 cN0
 have Q0 := hid (show Blk ((w.alloc (.cells #[.int .i64 2, .int .i64 n] 38)).alloc (.cells #[.int .i64 0, .int .i64 0] 38)) w.heap.size 38 #[.int .i64 2, .int .i64 n] from (Blk.new rfl).alloc _)
 have R0 := hid (show Blk ((w.alloc (.cells #[.int .i64 2, .int .i64 n] 38)).alloc (.cells #[.int .i64 0, .int .i64 0] 38)) (w.heap.size + 1) 38 #[.int .i64 0, .int .i64 0] from Blk.new (by simp))
 have HB0 := hid ((ba w (.cells #[.int .i64 2, .int .i64 n] 38)).alloc (by simp) (.cells #[.int .i64 0, .int .i64 0] 38))
 go_enter Tryz.func36, Tryz.ntmps36
 go_wp2_with (first
   | (go_at_call 25; (with_reducible refine (cA.out _).mono ?_); rintro e W1 ⟨rfl, hb⟩; have Q1 := hid (Q0.out.below hb Q0.out.lt); have R1 := hid (R0.out.below hb R0.out.lt); have HB1 := hid (tb HB0 hb); have q1c := Q1.out.cell; have q1f := Q1.out.frozen; have r1c := R1.out.cell; have r1f := R1.out.frozen; clear hb)
   | (go_at_call 33; (with_reducible refine (cL.out _).mono ?_); rintro e W2 ⟨rfl, rfl⟩)
   | (go_at_call 33; (with_reducible refine (cN.out _).mono ?_); rintro e W2 ⟨rfl, rfl⟩)
   | (go_at_call 30; (with_reducible refine (cP.out _).mono ?_); rintro e W3 ⟨rfl, hb⟩; have Q1 := hid (Q1.out.below hb Q1.out.lt); have R1 := hid (R1.out.below hb R1.out.lt); have HB1 := hid (tb HB1 hb); have q1c := Q1.out.cell; have q1f := Q1.out.frozen; have r1c := R1.out.cell; have r1f := R1.out.frozen; clear hb))
 have e3 := (((R1.out.far (p := ⟨w.heap.size, 1, none⟩) (by simp) (.int .i64 (max n 64))).put 0 (.int .i64 (2))).put 1 (.int .i64 (max n 64))).cell
 exact bodyPost_ret (v := .agg #[.int .i64 (2), .int .i64 (max n 64)]) (by simp [results, Tryz.results36, go_sem, e3]) rfl ⟨rfl, ((HB1.out.setCell (p := ⟨w.heap.size, 1, none⟩) (Nat.le_refl _) (.int .i64 (max n 64))).setCell (p := ⟨w.heap.size + 1, 0, none⟩) (Nat.le_succ _) _).setCell (p := ⟨w.heap.size + 1, 1, none⟩) (Nat.le_succ _) _⟩
theorem turn_3 (P n em : Int) (nm kd ks au : Bs) (ab cl cn : Bool) (hE : TEnv P nm kd ks au ab cl cn) (h37 : ¬ P = 37) (h38 : ¬ P = 38) (h34 : ¬ P = 34) (w : World) : Calls Tryz.prog 36 #[.int .i64 P, .agg #[.int .i64 3, .int .i64 n], .int .i64 em] w (rt w (.agg #[.int .i64 (3), .int .i64 (n)])) := by
 have hfd := field_row1
 obtain ⟨cA0, cL0, cN0⟩ := hE
 have cA := hid cA0
 have cL := hid cL0
 have cN := hid cN0
 clear cA0 cL0 cN0
 have Q0 := hid (show Blk ((w.alloc (.cells #[.int .i64 3, .int .i64 n] 38)).alloc (.cells #[.int .i64 0, .int .i64 0] 38)) w.heap.size 38 #[.int .i64 3, .int .i64 n] from (Blk.new rfl).alloc _)
 have R0 := hid (show Blk ((w.alloc (.cells #[.int .i64 3, .int .i64 n] 38)).alloc (.cells #[.int .i64 0, .int .i64 0] 38)) (w.heap.size + 1) 38 #[.int .i64 0, .int .i64 0] from Blk.new (by simp))
 have HB0 := hid ((ba w (.cells #[.int .i64 3, .int .i64 n] 38)).alloc (by simp) (.cells #[.int .i64 0, .int .i64 0] 38))
 have g37 : (P == 37) = false := by simpa using h37
 have g38 : (P == 38) = false := by simpa using h38
 go_enter Tryz.func36, Tryz.ntmps36
 go_wp2_with (first
   | (go_at_call 25; (with_reducible refine (cA.out _).mono ?_); rintro e W1 ⟨rfl, hb⟩; have Q1 := hid (Q0.out.below hb Q0.out.lt); have R1 := hid (R0.out.below hb R0.out.lt); have HB1 := hid (tb HB0 hb); have q1c := Q1.out.cell; have q1f := Q1.out.frozen; have r1c := R1.out.cell; have r1f := R1.out.frozen; clear hb)
   | (go_at_call 33; (with_reducible refine (cL.out _).mono ?_); rintro e W2 ⟨rfl, rfl⟩)
   | (go_at_call 33; (with_reducible refine (cN.out _).mono ?_); rintro e W2 ⟨rfl, rfl⟩)
   | (go_at_call 30; (with_reducible refine (cP.out _).mono ?_); rintro e W3 ⟨rfl, hb⟩; have Q1 := hid (Q1.out.below hb Q1.out.lt); have R1 := hid (R1.out.below hb R1.out.lt); have HB1 := hid (tb HB1 hb); have q1c := Q1.out.cell; have q1f := Q1.out.frozen; have r1c := R1.out.cell; have r1f := R1.out.frozen; clear hb))
 have e3 := ((R1.out.put 0 (.int .i64 (3))).put 1 (.int .i64 (n))).cell
 exact bodyPost_ret (v := .agg #[.int .i64 (3), .int .i64 (n)]) (by simp [results, Tryz.results36, go_sem, e3]) rfl ⟨rfl, (HB1.out.setCell (p := ⟨w.heap.size + 1, 0, none⟩) (Nat.le_succ _) _).setCell (p := ⟨w.heap.size + 1, 1, none⟩) (Nat.le_succ _) _⟩
theorem turn_4 (P n em : Int) (nm kd ks au : Bs) (ab cl cn : Bool) (hE : TEnv P nm kd ks au ab cl cn) (h34 : ¬ P = 34) (h : ¬ n = 0) (w : World) : Calls Tryz.prog 36 #[.int .i64 P, .agg #[.int .i64 4, .int .i64 n], .int .i64 em] w (rt w (.agg #[.int .i64 (4), .int .i64 (n)])) := by
 have hfd := field_row1
 obtain ⟨cA0, cL0, cN0⟩ := hE
 have cA := hid cA0
 have cL := hid cL0
 have cN := hid cN0
 clear cA0 cL0 cN0
 have Q0 := hid (show Blk ((w.alloc (.cells #[.int .i64 4, .int .i64 n] 38)).alloc (.cells #[.int .i64 0, .int .i64 0] 38)) w.heap.size 38 #[.int .i64 4, .int .i64 n] from (Blk.new rfl).alloc _)
 have R0 := hid (show Blk ((w.alloc (.cells #[.int .i64 4, .int .i64 n] 38)).alloc (.cells #[.int .i64 0, .int .i64 0] 38)) (w.heap.size + 1) 38 #[.int .i64 0, .int .i64 0] from Blk.new (by simp))
 have HB0 := hid ((ba w (.cells #[.int .i64 4, .int .i64 n] 38)).alloc (by simp) (.cells #[.int .i64 0, .int .i64 0] 38))
 have h37 : P = 37 ∨ ¬ P = 37 := by omega
 rcases h37 with rfl | h37
 all_goals
  go_enter Tryz.func36, Tryz.ntmps36
  go_wp2_with (first
    | (go_at_call 25; (with_reducible refine (cA.out _).mono ?_); rintro e W1 ⟨rfl, hb⟩; have Q1 := hid (Q0.out.below hb Q0.out.lt); have R1 := hid (R0.out.below hb R0.out.lt); have HB1 := hid (tb HB0 hb); have q1c := Q1.out.cell; have q1f := Q1.out.frozen; have r1c := R1.out.cell; have r1f := R1.out.frozen; clear hb)
    | (go_at_call 33; (with_reducible refine (cL.out _).mono ?_); rintro e W2 ⟨rfl, rfl⟩)
    | (go_at_call 33; (with_reducible refine (cN.out _).mono ?_); rintro e W2 ⟨rfl, rfl⟩)
    | (go_at_call 30; (with_reducible refine (cP.out _).mono ?_); rintro e W3 ⟨rfl, hb⟩; have Q1 := hid (Q1.out.below hb Q1.out.lt); have R1 := hid (R1.out.below hb R1.out.lt); have HB1 := hid (tb HB1 hb); have q1c := Q1.out.cell; have q1f := Q1.out.frozen; have r1c := R1.out.cell; have r1f := R1.out.frozen; clear hb))
  have e3 := ((R1.out.put 0 (.int .i64 (4))).put 1 (.int .i64 (n))).cell
  exact bodyPost_ret (v := .agg #[.int .i64 (4), .int .i64 (n)]) (by simp [results, Tryz.results36, go_sem, e3]) rfl ⟨rfl, (HB1.out.setCell (p := ⟨w.heap.size + 1, 0, none⟩) (Nat.le_succ _) _).setCell (p := ⟨w.heap.size + 1, 1, none⟩) (Nat.le_succ _) _⟩
theorem turn_40 (P em : Int) (nm kd ks au : Bs) (ab cl cn : Bool) (hE : TEnv P nm kd ks au ab cl cn) (h34 : ¬ P = 34) (h : cl = false ∨ (cl = true /\ cn = true)) (w : World) : Calls Tryz.prog 36 #[.int .i64 P, .agg #[.int .i64 4, .int .i64 0], .int .i64 em] w (rt w (.agg #[.int .i64 (4), .int .i64 (0)])) := by
 have hfd := field_row1
 obtain ⟨cA0, cL0, cN0⟩ := hE
 have cA := hid cA0
 have cL := hid cL0
 have cN := hid cN0
 clear cA0 cL0 cN0
 have Q0 := hid (show Blk ((w.alloc (.cells #[.int .i64 4, .int .i64 0] 38)).alloc (.cells #[.int .i64 0, .int .i64 0] 38)) w.heap.size 38 #[.int .i64 4, .int .i64 0] from (Blk.new rfl).alloc _)
 have R0 := hid (show Blk ((w.alloc (.cells #[.int .i64 4, .int .i64 0] 38)).alloc (.cells #[.int .i64 0, .int .i64 0] 38)) (w.heap.size + 1) 38 #[.int .i64 0, .int .i64 0] from Blk.new (by simp))
 have HB0 := hid ((ba w (.cells #[.int .i64 4, .int .i64 0] 38)).alloc (by simp) (.cells #[.int .i64 0, .int .i64 0] 38))
 have h37 : P = 37 ∨ ¬ P = 37 := by omega
 rcases h with rfl | ⟨rfl, rfl⟩ <;> rcases h37 with rfl | h37
 all_goals
  go_enter Tryz.func36, Tryz.ntmps36
  go_wp2_with (first
    | (go_at_call 25; (with_reducible refine (cA.out _).mono ?_); rintro e W1 ⟨rfl, hb⟩; have Q1 := hid (Q0.out.below hb Q0.out.lt); have R1 := hid (R0.out.below hb R0.out.lt); have HB1 := hid (tb HB0 hb); have q1c := Q1.out.cell; have q1f := Q1.out.frozen; have r1c := R1.out.cell; have r1f := R1.out.frozen; clear hb)
    | (go_at_call 33; (with_reducible refine (cL.out _).mono ?_); rintro e W2 ⟨rfl, rfl⟩)
    | (go_at_call 33; (with_reducible refine (cN.out _).mono ?_); rintro e W2 ⟨rfl, rfl⟩)
    | (go_at_call 30; (with_reducible refine (cP.out _).mono ?_); rintro e W3 ⟨rfl, hb⟩; have Q1 := hid (Q1.out.below hb Q1.out.lt); have R1 := hid (R1.out.below hb R1.out.lt); have HB1 := hid (tb HB1 hb); have q1c := Q1.out.cell; have q1f := Q1.out.frozen; have r1c := R1.out.cell; have r1f := R1.out.frozen; clear hb))
  have e3 := ((R1.out.put 0 (.int .i64 (4))).put 1 (.int .i64 (0))).cell
  exact bodyPost_ret (v := .agg #[.int .i64 (4), .int .i64 (0)]) (by simp [results, Tryz.results36, go_sem, e3]) rfl ⟨rfl, (HB1.out.setCell (p := ⟨w.heap.size + 1, 0, none⟩) (Nat.le_succ _) _).setCell (p := ⟨w.heap.size + 1, 1, none⟩) (Nat.le_succ _) _⟩
theorem turn_34 (n em : Int) (nm kd ks au : Bs) (ab cl cn : Bool) (hE : TEnv 34 nm kd ks au ab cl cn) (h : ¬ n = 0) (w : World) : Calls Tryz.prog 36 #[.int .i64 34, .agg #[.int .i64 4, .int .i64 n], .int .i64 em] w (rt w (.agg #[.int .i64 (4), .int .i64 (min (max n 0) 1000)])) := by
 have hfd := field_row1
 obtain ⟨cA0, cL0, cN0⟩ := hE
 have cA := hid cA0
 have cL := hid cL0
 have cN := hid cN0
 clear cA0 cL0 cN0
 have Q0 := hid (show Blk ((w.alloc (.cells #[.int .i64 4, .int .i64 n] 38)).alloc (.cells #[.int .i64 0, .int .i64 0] 38)) w.heap.size 38 #[.int .i64 4, .int .i64 n] from (Blk.new rfl).alloc _)
 have R0 := hid (show Blk ((w.alloc (.cells #[.int .i64 4, .int .i64 n] 38)).alloc (.cells #[.int .i64 0, .int .i64 0] 38)) (w.heap.size + 1) 38 #[.int .i64 0, .int .i64 0] from Blk.new (by simp))
 have HB0 := hid ((ba w (.cells #[.int .i64 4, .int .i64 n] 38)).alloc (by simp) (.cells #[.int .i64 0, .int .i64 0] 38))
 go_enter Tryz.func36, Tryz.ntmps36
 go_wp2_with (first
   | (go_at_call 25; (with_reducible refine (cA.out _).mono ?_); rintro e W1 ⟨rfl, hb⟩; have Q1 := hid (Q0.out.below hb Q0.out.lt); have R1 := hid (R0.out.below hb R0.out.lt); have HB1 := hid (tb HB0 hb); have q1c := Q1.out.cell; have q1f := Q1.out.frozen; have r1c := R1.out.cell; have r1f := R1.out.frozen; clear hb)
   | (go_at_call 33; (with_reducible refine (cL.out _).mono ?_); rintro e W2 ⟨rfl, rfl⟩)
   | (go_at_call 33; (with_reducible refine (cN.out _).mono ?_); rintro e W2 ⟨rfl, rfl⟩)
   | (go_at_call 30; (with_reducible refine (cP.out _).mono ?_); rintro e W3 ⟨rfl, hb⟩; have Q1 := hid (Q1.out.below hb Q1.out.lt); have R1 := hid (R1.out.below hb R1.out.lt); have HB1 := hid (tb HB1 hb); have q1c := Q1.out.cell; have q1f := Q1.out.frozen; have r1c := R1.out.cell; have r1f := R1.out.frozen; clear hb))
 have e3 := (((R1.out.far (p := ⟨w.heap.size, 1, none⟩) (by simp) (.int .i64 (min (max n 0) 1000))).put 0 (.int .i64 (4))).put 1 (.int .i64 (min (max n 0) 1000))).cell
 exact bodyPost_ret (v := .agg #[.int .i64 (4), .int .i64 (min (max n 0) 1000)]) (by simp [results, Tryz.results36, go_sem, e3]) rfl ⟨rfl, ((HB1.out.setCell (p := ⟨w.heap.size, 1, none⟩) (Nat.le_refl _) (.int .i64 (min (max n 0) 1000))).setCell (p := ⟨w.heap.size + 1, 0, none⟩) (Nat.le_succ _) _).setCell (p := ⟨w.heap.size + 1, 1, none⟩) (Nat.le_succ _) _⟩
theorem turn_340 (em : Int) (nm kd ks au : Bs) (ab cl cn : Bool) (hE : TEnv 34 nm kd ks au ab cl cn) (h : cl = false) (w : World) : Calls Tryz.prog 36 #[.int .i64 34, .agg #[.int .i64 4, .int .i64 0], .int .i64 em] w (rt w (.agg #[.int .i64 (4), .int .i64 (min 0 1000)])) := by
 have hfd := field_row1
 obtain ⟨cA0, cL0, cN0⟩ := hE
 have cA := hid cA0
 have cL := hid cL0
 have cN := hid cN0
 clear cA0 cL0 cN0
 have Q0 := hid (show Blk ((w.alloc (.cells #[.int .i64 4, .int .i64 0] 38)).alloc (.cells #[.int .i64 0, .int .i64 0] 38)) w.heap.size 38 #[.int .i64 4, .int .i64 0] from (Blk.new rfl).alloc _)
 have R0 := hid (show Blk ((w.alloc (.cells #[.int .i64 4, .int .i64 0] 38)).alloc (.cells #[.int .i64 0, .int .i64 0] 38)) (w.heap.size + 1) 38 #[.int .i64 0, .int .i64 0] from Blk.new (by simp))
 have HB0 := hid ((ba w (.cells #[.int .i64 4, .int .i64 0] 38)).alloc (by simp) (.cells #[.int .i64 0, .int .i64 0] 38))
 subst h
 go_enter Tryz.func36, Tryz.ntmps36
 go_wp2_with (first
   | (go_at_call 25; (with_reducible refine (cA.out _).mono ?_); rintro e W1 ⟨rfl, hb⟩; have Q1 := hid (Q0.out.below hb Q0.out.lt); have R1 := hid (R0.out.below hb R0.out.lt); have HB1 := hid (tb HB0 hb); have q1c := Q1.out.cell; have q1f := Q1.out.frozen; have r1c := R1.out.cell; have r1f := R1.out.frozen; clear hb)
   | (go_at_call 33; (with_reducible refine (cL.out _).mono ?_); rintro e W2 ⟨rfl, rfl⟩)
   | (go_at_call 33; (with_reducible refine (cN.out _).mono ?_); rintro e W2 ⟨rfl, rfl⟩)
   | (go_at_call 30; (with_reducible refine (cP.out _).mono ?_); rintro e W3 ⟨rfl, hb⟩; have Q1 := hid (Q1.out.below hb Q1.out.lt); have R1 := hid (R1.out.below hb R1.out.lt); have HB1 := hid (tb HB1 hb); have q1c := Q1.out.cell; have q1f := Q1.out.frozen; have r1c := R1.out.cell; have r1f := R1.out.frozen; clear hb))
 have e3 := (((R1.out.far (p := ⟨w.heap.size, 1, none⟩) (by simp) (.int .i64 (min 0 1000))).put 0 (.int .i64 (4))).put 1 (.int .i64 (min 0 1000))).cell
 exact bodyPost_ret (v := .agg #[.int .i64 (4), .int .i64 (min 0 1000)]) (by simp [results, Tryz.results36, go_sem, e3]) rfl ⟨rfl, ((HB1.out.setCell (p := ⟨w.heap.size, 1, none⟩) (Nat.le_refl _) (.int .i64 (min 0 1000))).setCell (p := ⟨w.heap.size + 1, 0, none⟩) (Nat.le_succ _) _).setCell (p := ⟨w.heap.size + 1, 1, none⟩) (Nat.le_succ _) _⟩
end prp
namespace prp
open Go.RowKit base tok dim
set_option linter.unusedSimpArgs false
theorem read_word (p : Int) (S L : ByteArray) (em rem vw vh cur k0 n0 : Int) (cI0 : ∀ w, Calls Tryz.prog 26 #[.int .i64 p] w (rt w (.bool true))) (cL0 : ∀ w, Calls Tryz.prog 32 #[.string S] w (rt w (.string L))) (cW0 : ∀ w, MaxL w -> Calls Tryz.prog 31 #[.int .i64 p, .string L] w (rt w (.tuple #[.agg #[.int .i64 k0, .int .i64 n0], .bool true]))) (w : World) (hm : MaxL w) (hU : UnitsAt w) : Calls Tryz.prog 11 #[.int .i64 p, .string S, .agg #[.int .i64 em, .int .i64 rem, .int .i64 vw, .int .i64 vh], .int .i64 cur] w (rt w (.tuple #[.agg #[.int .i64 k0, .int .i64 n0], .int .i64 0])) := by
 have hfd := field_row1
 have cI := hid cI0
 have cL := hid cL0
 have cW := hid cW0
 have HM := hid hm
 have HU := hid hU
 clear hm hU cI0 cL0 cW0
 have K0 := hid (show Blk ((w.alloc (.cells #[.int .i64 em, .int .i64 rem, .int .i64 vw, .int .i64 vh] 42)).alloc (.cells #[.int .i64 0, .int .i64 0] 38)) w.heap.size 42 #[.int .i64 em, .int .i64 rem, .int .i64 vw, .int .i64 vh] from (Blk.new rfl).alloc _)
 have R0 := hid (show Blk ((w.alloc (.cells #[.int .i64 em, .int .i64 rem, .int .i64 vw, .int .i64 vh] 42)).alloc (.cells #[.int .i64 0, .int .i64 0] 38)) (w.heap.size + 1) 38 #[.int .i64 0, .int .i64 0] from Blk.new (by simp))
 have HB0 := hid ((ba w (.cells #[.int .i64 em, .int .i64 rem, .int .i64 vw, .int .i64 vh] 42)).alloc (by simp) (.cells #[.int .i64 0, .int .i64 0] 38))
 go_enter Tryz.func11, Tryz.ntmps11
 go_wp2_with (first
  | (go_at_call 26; (with_reducible refine (cI.out _).mono ?_); rintro e W1 ⟨rfl, hb⟩; have K1 := hid (K0.out.below hb K0.out.lt); have R1 := hid (R0.out.below hb R0.out.lt); have HB1 := hid (tb HB0 hb); have cK1 := K1.out.cell; have fK1 := K1.out.frozen; have cR1 := R1.out.cell; have fR1 := R1.out.frozen; clear hb)
  | (go_at_call 32; (with_reducible refine (cL.out _).mono ?_); rintro e W2 ⟨rfl, hb⟩; have K2 := hid (K1.out.below hb K1.out.lt); have R2 := hid (R1.out.below hb R1.out.lt); have HB2 := hid (tb HB1 hb); have cK2 := K2.out.cell; have fK2 := K2.out.frozen; have cR2 := R2.out.cell; have fR2 := R2.out.frozen; clear hb)
  | (go_at_call 31; (with_reducible refine (cW.out _ (HM.out.on HB2.out HM.out.lt)).mono ?_); rintro e W3 ⟨rfl, hb⟩; have K3 := hid (K2.out.below hb K2.out.lt); have R3 := hid (R2.out.below hb R2.out.lt); have HB3 := hid (tb HB2 hb); have hr3 := hid R3.out.lt; have K3 := hid (K3.out.alloc (.cells #[.int .i64 k0, .int .i64 n0] 38)); have R3 := hid (R3.out.alloc (.cells #[.int .i64 k0, .int .i64 n0] 38)); have HB3 := hid (HB3.out.alloc HB3.out.size (.cells #[.int .i64 k0, .int .i64 n0] 38)); have cK3 := K3.out.cell; have fK3 := K3.out.frozen; have cR3 := R3.out.cell; have fR3 := R3.out.frozen; clear hb))
 have e3 := ((R3.out.put 0 (.int .i64 (k0))).put 1 (.int .i64 (n0))).cell
 exact bodyPost_ret (v := .tuple #[.agg #[.int .i64 (k0), .int .i64 (n0)], .int .i64 0]) (by simp [results, Tryz.results11, go_sem, e3]) rfl ⟨rfl, (HB3.out.setCell (p := ⟨w.heap.size + 1, 0, none⟩) (Nat.le_succ _) _).setCell (p := ⟨w.heap.size + 1, 1, none⟩) (Nat.le_succ _) _⟩
theorem read_num (p : Int) (S L : ByteArray) (em rem vw vh cur k0 n0 : Int) (x : Int) (u : ByteArray) (k1 n1 k2 n2 : Int) (nm kd ks au : Bs) (ab : Bool) (cI0 : ∀ w, Calls Tryz.prog 26 #[.int .i64 p] w (rt w (.bool true))) (cL0 : ∀ w, Calls Tryz.prog 32 #[.string S] w (rt w (.string L))) (cW0 : ∀ w, MaxL w -> Calls Tryz.prog 31 #[.int .i64 p, .string L] w (rt w (.tuple #[.agg #[.int .i64 k0, .int .i64 n0], .bool false]))) (cA0 : ∀ w, Calls Tryz.prog 25 #[.int .i64 p] w (rt w (.agg #[.string (bs nm), .string (bs kd), .string (bs ks), .string (bs au), .bool ab]))) (cC0 : ∀ w, Calls Tryz.prog 33 #[.string (bs kd), .string ⟨#[99]⟩] w (rt w (.bool false))) (cR0 : ∀ w, MaxL w -> UnitsAt w -> Calls Tryz.prog 35 #[.string S] w (rt w (.tuple #[.agg #[.int .i64 1, .int .i64 x, .string u, .slice none 0 0], .int .i64 0]))) (cV0 : ∀ w, Calls Tryz.prog 12 #[.agg #[.int .i64 1, .int .i64 x, .string u, .slice none 0 0], .agg #[.int .i64 em, .int .i64 rem, .int .i64 vw, .int .i64 vh]] w (rt w (.tuple #[.agg #[.int .i64 k1, .int .i64 n1], .int .i64 0]))) (cT0 : ∀ w, Calls Tryz.prog 36 #[.int .i64 p, .agg #[.int .i64 k1, .int .i64 n1], .int .i64 em] w (rt w (.agg #[.int .i64 k2, .int .i64 n2]))) (cF0 : ∀ w, MaxL w -> Calls Tryz.prog 15 #[.int .i64 p, .agg #[.int .i64 k2, .int .i64 n2]] w (rt w (.bool true))) (w : World) (hm : MaxL w) (hU : UnitsAt w) : Calls Tryz.prog 11 #[.int .i64 p, .string S, .agg #[.int .i64 em, .int .i64 rem, .int .i64 vw, .int .i64 vh], .int .i64 cur] w (rt w (.tuple #[.agg #[.int .i64 k2, .int .i64 n2], .int .i64 0])) := by
 have hfd := field_row1
 have cI := hid cI0
 have cL := hid cL0
 have cW := hid cW0
 have cA := hid cA0
 have cC := hid cC0
 have cR := hid cR0
 have cV := hid cV0
 have cT := hid cT0
 have cF := hid cF0
 have HM := hid hm
 have HU := hid hU
 clear hm hU cI0 cL0 cW0 cA0 cC0 cR0 cV0 cT0 cF0
 have K0 := hid (show Blk ((w.alloc (.cells #[.int .i64 em, .int .i64 rem, .int .i64 vw, .int .i64 vh] 42)).alloc (.cells #[.int .i64 0, .int .i64 0] 38)) w.heap.size 42 #[.int .i64 em, .int .i64 rem, .int .i64 vw, .int .i64 vh] from (Blk.new rfl).alloc _)
 have R0 := hid (show Blk ((w.alloc (.cells #[.int .i64 em, .int .i64 rem, .int .i64 vw, .int .i64 vh] 42)).alloc (.cells #[.int .i64 0, .int .i64 0] 38)) (w.heap.size + 1) 38 #[.int .i64 0, .int .i64 0] from Blk.new (by simp))
 have HB0 := hid ((ba w (.cells #[.int .i64 em, .int .i64 rem, .int .i64 vw, .int .i64 vh] 42)).alloc (by simp) (.cells #[.int .i64 0, .int .i64 0] 38))
 go_enter Tryz.func11, Tryz.ntmps11
 go_wp2_with (first
  | (go_at_call 26; (with_reducible refine (cI.out _).mono ?_); rintro e W1 ⟨rfl, hb⟩; have K1 := hid (K0.out.below hb K0.out.lt); have R1 := hid (R0.out.below hb R0.out.lt); have HB1 := hid (tb HB0 hb); have cK1 := K1.out.cell; have fK1 := K1.out.frozen; have cR1 := R1.out.cell; have fR1 := R1.out.frozen; clear hb)
  | (go_at_call 32; (with_reducible refine (cL.out _).mono ?_); rintro e W2 ⟨rfl, hb⟩; have K2 := hid (K1.out.below hb K1.out.lt); have R2 := hid (R1.out.below hb R1.out.lt); have HB2 := hid (tb HB1 hb); have cK2 := K2.out.cell; have fK2 := K2.out.frozen; have cR2 := R2.out.cell; have fR2 := R2.out.frozen; clear hb)
  | (go_at_call 31; (with_reducible refine (cW.out _ (HM.out.on HB2.out HM.out.lt)).mono ?_); rintro e W3 ⟨rfl, hb⟩; have K3 := hid (K2.out.below hb K2.out.lt); have R3 := hid (R2.out.below hb R2.out.lt); have HB3 := hid (tb HB2 hb); have hr3 := hid R3.out.lt; have K3 := hid (K3.out.alloc (.cells #[.int .i64 k0, .int .i64 n0] 38)); have R3 := hid (R3.out.alloc (.cells #[.int .i64 k0, .int .i64 n0] 38)); have HB3 := hid (HB3.out.alloc HB3.out.size (.cells #[.int .i64 k0, .int .i64 n0] 38)); have K3 := hid (K3.out.alloc (.cells #[.int .i64 0, .int .i64 0] 38)); have R3 := hid (R3.out.alloc (.cells #[.int .i64 0, .int .i64 0] 38)); have HB3 := hid (HB3.out.alloc HB3.out.size (.cells #[.int .i64 0, .int .i64 0] 38)); have V3 := hid (show Blk ((W3.alloc (.cells #[.int .i64 k0, .int .i64 n0] 38)).alloc (.cells #[.int .i64 0, .int .i64 0] 38)) (W3.heap.size + 1) 38 #[.int .i64 0, .int .i64 0] from Blk.new (by simp)); have cK3 := K3.out.cell; have fK3 := K3.out.frozen; have cR3 := R3.out.cell; have fR3 := R3.out.frozen; have cV3 := V3.out.cell; have fV3 := V3.out.frozen; clear hb)
  | (go_at_call 25; (with_reducible refine (cA.out _).mono ?_); rintro e W4 ⟨rfl, hb⟩; have K4 := hid (K3.out.below hb K3.out.lt); have R4 := hid (R3.out.below hb R3.out.lt); have V4 := hid (V3.out.below hb V3.out.lt); have HB4 := hid (tb HB3 hb); have cK4 := K4.out.cell; have fK4 := K4.out.frozen; have cR4 := R4.out.cell; have fR4 := R4.out.frozen; have cV4 := V4.out.cell; have fV4 := V4.out.frozen; clear hb)
  | (go_at_call 33; (with_reducible refine (cC.out _).mono ?_); rintro e W5 ⟨rfl, hb⟩; have K5 := hid (K4.out.below hb K4.out.lt); have R5 := hid (R4.out.below hb R4.out.lt); have V5 := hid (V4.out.below hb V4.out.lt); have HB5 := hid (tb HB4 hb); have cK5 := K5.out.cell; have fK5 := K5.out.frozen; have cR5 := R5.out.cell; have fR5 := R5.out.frozen; have cV5 := V5.out.cell; have fV5 := V5.out.frozen; clear hb)
  | (go_at_call 35; (with_reducible refine (cR.out _ (HM.out.on HB5.out HM.out.lt) (HU.out.on HB5.out)).mono ?_); rintro e W6 ⟨rfl, hb⟩; have K6 := hid (K5.out.below hb K5.out.lt); have R6 := hid (R5.out.below hb R5.out.lt); have V6 := hid (V5.out.below hb V5.out.lt); have HB6 := hid (tb HB5 hb); have K6 := hid (K6.out.alloc (.cells #[.int .i64 1, .int .i64 x, .string u, .slice none 0 0] 50)); have R6 := hid (R6.out.alloc (.cells #[.int .i64 1, .int .i64 x, .string u, .slice none 0 0] 50)); have V6 := hid (V6.out.alloc (.cells #[.int .i64 1, .int .i64 x, .string u, .slice none 0 0] 50)); have HB6 := hid (HB6.out.alloc HB6.out.size (.cells #[.int .i64 1, .int .i64 x, .string u, .slice none 0 0] 50)); have cK6 := K6.out.cell; have fK6 := K6.out.frozen; have cR6 := R6.out.cell; have fR6 := R6.out.frozen; have cV6 := V6.out.cell; have fV6 := V6.out.frozen; clear hb)
  | (go_at_call 12; (with_reducible refine (cV.out _).mono ?_); rintro e W7 ⟨rfl, hb⟩; have K7 := hid (K6.out.below hb K6.out.lt); have R7 := hid (R6.out.below hb R6.out.lt); have V7 := hid (V6.out.below hb V6.out.lt); have HB7 := hid (tb HB6 hb); have aK7 := K7.out.cell; have bK7 := K7.out.frozen; have aR7 := R7.out.cell; have bR7 := R7.out.frozen; have aV7 := V7.out.cell; have bV7 := V7.out.frozen; have K7 := hid (K7.out.far (p := ⟨W3.heap.size + 1, 0, none⟩) (by have := hr3.out; show _ ≠ W3.heap.size + 1; omega) (.int .i64 k1)); have R7 := hid (R7.out.far (p := ⟨W3.heap.size + 1, 0, none⟩) (by have := hr3.out; show _ ≠ W3.heap.size + 1; omega) (.int .i64 k1)); have V7 := hid (V7.out.put 0 (.int .i64 k1)); have HB7 := hid (HB7.out.setCell (p := ⟨W3.heap.size + 1, 0, none⟩) (by have := hr3.out; show w.heap.size <= W3.heap.size + 1; omega) (.int .i64 k1)); have K7 := hid (K7.out.far (p := ⟨W3.heap.size + 1, 1, none⟩) (by have := hr3.out; show _ ≠ W3.heap.size + 1; omega) (.int .i64 n1)); have R7 := hid (R7.out.far (p := ⟨W3.heap.size + 1, 1, none⟩) (by have := hr3.out; show _ ≠ W3.heap.size + 1; omega) (.int .i64 n1)); have V7 := hid (V7.out.put 1 (.int .i64 n1)); have HB7 := hid (HB7.out.setCell (p := ⟨W3.heap.size + 1, 1, none⟩) (by have := hr3.out; show w.heap.size <= W3.heap.size + 1; omega) (.int .i64 n1)); have cK7 := K7.out.cell; have fK7 := K7.out.frozen; have cR7 := R7.out.cell; have fR7 := R7.out.frozen; have cV7 := V7.out.cell; have fV7 := V7.out.frozen; clear hb)
  | (go_at_call 36; (with_reducible refine (cT.out _).mono ?_); rintro e W8 ⟨rfl, hb⟩; have K8 := hid (K7.out.below hb K7.out.lt); have R8 := hid (R7.out.below hb R7.out.lt); have V8 := hid (V7.out.below hb V7.out.lt); have HB8 := hid (tb HB7 hb); have aK8 := K8.out.cell; have bK8 := K8.out.frozen; have aR8 := R8.out.cell; have bR8 := R8.out.frozen; have aV8 := V8.out.cell; have bV8 := V8.out.frozen; have K8 := hid (K8.out.far (p := ⟨W3.heap.size + 1, 0, none⟩) (by have := hr3.out; show _ ≠ W3.heap.size + 1; omega) (.int .i64 k2)); have R8 := hid (R8.out.far (p := ⟨W3.heap.size + 1, 0, none⟩) (by have := hr3.out; show _ ≠ W3.heap.size + 1; omega) (.int .i64 k2)); have V8 := hid (V8.out.put 0 (.int .i64 k2)); have HB8 := hid (HB8.out.setCell (p := ⟨W3.heap.size + 1, 0, none⟩) (by have := hr3.out; show w.heap.size <= W3.heap.size + 1; omega) (.int .i64 k2)); have K8 := hid (K8.out.far (p := ⟨W3.heap.size + 1, 1, none⟩) (by have := hr3.out; show _ ≠ W3.heap.size + 1; omega) (.int .i64 n2)); have R8 := hid (R8.out.far (p := ⟨W3.heap.size + 1, 1, none⟩) (by have := hr3.out; show _ ≠ W3.heap.size + 1; omega) (.int .i64 n2)); have V8 := hid (V8.out.put 1 (.int .i64 n2)); have HB8 := hid (HB8.out.setCell (p := ⟨W3.heap.size + 1, 1, none⟩) (by have := hr3.out; show w.heap.size <= W3.heap.size + 1; omega) (.int .i64 n2)); have cK8 := K8.out.cell; have fK8 := K8.out.frozen; have cR8 := R8.out.cell; have fR8 := R8.out.frozen; have cV8 := V8.out.cell; have fV8 := V8.out.frozen; clear hb)
  | (go_at_call 15; (with_reducible refine (cF.out _ (HM.out.on HB8.out HM.out.lt)).mono ?_); rintro e W9 ⟨rfl, hb⟩; have K9 := hid (K8.out.below hb K8.out.lt); have R9 := hid (R8.out.below hb R8.out.lt); have V9 := hid (V8.out.below hb V8.out.lt); have HB9 := hid (tb HB8 hb); have cK9 := K9.out.cell; have fK9 := K9.out.frozen; have cR9 := R9.out.cell; have fR9 := R9.out.frozen; have cV9 := V9.out.cell; have fV9 := V9.out.frozen; clear hb))
 have e3 := ((R9.out.put 0 (.int .i64 (k2))).put 1 (.int .i64 (n2))).cell
 exact bodyPost_ret (v := .tuple #[.agg #[.int .i64 (k2), .int .i64 (n2)], .int .i64 0]) (by simp [results, Tryz.results11, go_sem, e3]) rfl ⟨rfl, (HB9.out.setCell (p := ⟨w.heap.size + 1, 0, none⟩) (Nat.le_succ _) _).setCell (p := ⟨w.heap.size + 1, 1, none⟩) (Nat.le_succ _) _⟩
theorem read_nok (p : Int) (S L : ByteArray) (em rem vw vh cur k0 n0 : Int) (x : Int) (u : ByteArray) (nm kd ks au : Bs) (ab : Bool) (cI0 : ∀ w, Calls Tryz.prog 26 #[.int .i64 p] w (rt w (.bool true))) (cL0 : ∀ w, Calls Tryz.prog 32 #[.string S] w (rt w (.string L))) (cW0 : ∀ w, MaxL w -> Calls Tryz.prog 31 #[.int .i64 p, .string L] w (rt w (.tuple #[.agg #[.int .i64 k0, .int .i64 n0], .bool false]))) (cA0 : ∀ w, Calls Tryz.prog 25 #[.int .i64 p] w (rt w (.agg #[.string (bs nm), .string (bs kd), .string (bs ks), .string (bs au), .bool ab]))) (cC0 : ∀ w, Calls Tryz.prog 33 #[.string (bs kd), .string ⟨#[99]⟩] w (rt w (.bool false))) (cR0 : ∀ w, MaxL w -> UnitsAt w -> Calls Tryz.prog 35 #[.string S] w (rt w (.tuple #[.agg #[.int .i64 1, .int .i64 x, .string u, .slice none 0 0], .int .i64 0]))) (cV0 : ∀ w, Calls Tryz.prog 12 #[.agg #[.int .i64 1, .int .i64 x, .string u, .slice none 0 0], .agg #[.int .i64 em, .int .i64 rem, .int .i64 vw, .int .i64 vh]] w (rt w (.tuple #[.agg #[.int .i64 0, .int .i64 0], .int .i64 1]))) (w : World) (hm : MaxL w) (hU : UnitsAt w) : Calls Tryz.prog 11 #[.int .i64 p, .string S, .agg #[.int .i64 em, .int .i64 rem, .int .i64 vw, .int .i64 vh], .int .i64 cur] w (rt w (.tuple #[.agg #[.int .i64 0, .int .i64 0], .int .i64 4])) := by
 have hfd := field_row1
 have cI := hid cI0
 have cL := hid cL0
 have cW := hid cW0
 have cA := hid cA0
 have cC := hid cC0
 have cR := hid cR0
 have cV := hid cV0
 have HM := hid hm
 have HU := hid hU
 clear hm hU cI0 cL0 cW0 cA0 cC0 cR0 cV0
 have K0 := hid (show Blk ((w.alloc (.cells #[.int .i64 em, .int .i64 rem, .int .i64 vw, .int .i64 vh] 42)).alloc (.cells #[.int .i64 0, .int .i64 0] 38)) w.heap.size 42 #[.int .i64 em, .int .i64 rem, .int .i64 vw, .int .i64 vh] from (Blk.new rfl).alloc _)
 have R0 := hid (show Blk ((w.alloc (.cells #[.int .i64 em, .int .i64 rem, .int .i64 vw, .int .i64 vh] 42)).alloc (.cells #[.int .i64 0, .int .i64 0] 38)) (w.heap.size + 1) 38 #[.int .i64 0, .int .i64 0] from Blk.new (by simp))
 have HB0 := hid ((ba w (.cells #[.int .i64 em, .int .i64 rem, .int .i64 vw, .int .i64 vh] 42)).alloc (by simp) (.cells #[.int .i64 0, .int .i64 0] 38))
 go_enter Tryz.func11, Tryz.ntmps11
 go_wp2_with (first
  | (go_at_call 26; (with_reducible refine (cI.out _).mono ?_); rintro e W1 ⟨rfl, hb⟩; have K1 := hid (K0.out.below hb K0.out.lt); have R1 := hid (R0.out.below hb R0.out.lt); have HB1 := hid (tb HB0 hb); have cK1 := K1.out.cell; have fK1 := K1.out.frozen; have cR1 := R1.out.cell; have fR1 := R1.out.frozen; clear hb)
  | (go_at_call 32; (with_reducible refine (cL.out _).mono ?_); rintro e W2 ⟨rfl, hb⟩; have K2 := hid (K1.out.below hb K1.out.lt); have R2 := hid (R1.out.below hb R1.out.lt); have HB2 := hid (tb HB1 hb); have cK2 := K2.out.cell; have fK2 := K2.out.frozen; have cR2 := R2.out.cell; have fR2 := R2.out.frozen; clear hb)
  | (go_at_call 31; (with_reducible refine (cW.out _ (HM.out.on HB2.out HM.out.lt)).mono ?_); rintro e W3 ⟨rfl, hb⟩; have K3 := hid (K2.out.below hb K2.out.lt); have R3 := hid (R2.out.below hb R2.out.lt); have HB3 := hid (tb HB2 hb); have hr3 := hid R3.out.lt; have K3 := hid (K3.out.alloc (.cells #[.int .i64 k0, .int .i64 n0] 38)); have R3 := hid (R3.out.alloc (.cells #[.int .i64 k0, .int .i64 n0] 38)); have HB3 := hid (HB3.out.alloc HB3.out.size (.cells #[.int .i64 k0, .int .i64 n0] 38)); have K3 := hid (K3.out.alloc (.cells #[.int .i64 0, .int .i64 0] 38)); have R3 := hid (R3.out.alloc (.cells #[.int .i64 0, .int .i64 0] 38)); have HB3 := hid (HB3.out.alloc HB3.out.size (.cells #[.int .i64 0, .int .i64 0] 38)); have V3 := hid (show Blk ((W3.alloc (.cells #[.int .i64 k0, .int .i64 n0] 38)).alloc (.cells #[.int .i64 0, .int .i64 0] 38)) (W3.heap.size + 1) 38 #[.int .i64 0, .int .i64 0] from Blk.new (by simp)); have cK3 := K3.out.cell; have fK3 := K3.out.frozen; have cR3 := R3.out.cell; have fR3 := R3.out.frozen; have cV3 := V3.out.cell; have fV3 := V3.out.frozen; clear hb)
  | (go_at_call 25; (with_reducible refine (cA.out _).mono ?_); rintro e W4 ⟨rfl, hb⟩; have K4 := hid (K3.out.below hb K3.out.lt); have R4 := hid (R3.out.below hb R3.out.lt); have V4 := hid (V3.out.below hb V3.out.lt); have HB4 := hid (tb HB3 hb); have cK4 := K4.out.cell; have fK4 := K4.out.frozen; have cR4 := R4.out.cell; have fR4 := R4.out.frozen; have cV4 := V4.out.cell; have fV4 := V4.out.frozen; clear hb)
  | (go_at_call 33; (with_reducible refine (cC.out _).mono ?_); rintro e W5 ⟨rfl, hb⟩; have K5 := hid (K4.out.below hb K4.out.lt); have R5 := hid (R4.out.below hb R4.out.lt); have V5 := hid (V4.out.below hb V4.out.lt); have HB5 := hid (tb HB4 hb); have cK5 := K5.out.cell; have fK5 := K5.out.frozen; have cR5 := R5.out.cell; have fR5 := R5.out.frozen; have cV5 := V5.out.cell; have fV5 := V5.out.frozen; clear hb)
  | (go_at_call 35; (with_reducible refine (cR.out _ (HM.out.on HB5.out HM.out.lt) (HU.out.on HB5.out)).mono ?_); rintro e W6 ⟨rfl, hb⟩; have K6 := hid (K5.out.below hb K5.out.lt); have R6 := hid (R5.out.below hb R5.out.lt); have V6 := hid (V5.out.below hb V5.out.lt); have HB6 := hid (tb HB5 hb); have K6 := hid (K6.out.alloc (.cells #[.int .i64 1, .int .i64 x, .string u, .slice none 0 0] 50)); have R6 := hid (R6.out.alloc (.cells #[.int .i64 1, .int .i64 x, .string u, .slice none 0 0] 50)); have V6 := hid (V6.out.alloc (.cells #[.int .i64 1, .int .i64 x, .string u, .slice none 0 0] 50)); have HB6 := hid (HB6.out.alloc HB6.out.size (.cells #[.int .i64 1, .int .i64 x, .string u, .slice none 0 0] 50)); have cK6 := K6.out.cell; have fK6 := K6.out.frozen; have cR6 := R6.out.cell; have fR6 := R6.out.frozen; have cV6 := V6.out.cell; have fV6 := V6.out.frozen; clear hb)
  | (go_at_call 12; (with_reducible refine (cV.out _).mono ?_); rintro e W7 ⟨rfl, hb⟩; have K7 := hid (K6.out.below hb K6.out.lt); have R7 := hid (R6.out.below hb R6.out.lt); have V7 := hid (V6.out.below hb V6.out.lt); have HB7 := hid (tb HB6 hb); have aK7 := K7.out.cell; have bK7 := K7.out.frozen; have aR7 := R7.out.cell; have bR7 := R7.out.frozen; have aV7 := V7.out.cell; have bV7 := V7.out.frozen; have K7 := hid (K7.out.far (p := ⟨W3.heap.size + 1, 0, none⟩) (by have := hr3.out; show _ ≠ W3.heap.size + 1; omega) (.int .i64 0)); have R7 := hid (R7.out.far (p := ⟨W3.heap.size + 1, 0, none⟩) (by have := hr3.out; show _ ≠ W3.heap.size + 1; omega) (.int .i64 0)); have V7 := hid (V7.out.put 0 (.int .i64 0)); have HB7 := hid (HB7.out.setCell (p := ⟨W3.heap.size + 1, 0, none⟩) (by have := hr3.out; show w.heap.size <= W3.heap.size + 1; omega) (.int .i64 0)); have K7 := hid (K7.out.far (p := ⟨W3.heap.size + 1, 1, none⟩) (by have := hr3.out; show _ ≠ W3.heap.size + 1; omega) (.int .i64 0)); have R7 := hid (R7.out.far (p := ⟨W3.heap.size + 1, 1, none⟩) (by have := hr3.out; show _ ≠ W3.heap.size + 1; omega) (.int .i64 0)); have V7 := hid (V7.out.put 1 (.int .i64 0)); have HB7 := hid (HB7.out.setCell (p := ⟨W3.heap.size + 1, 1, none⟩) (by have := hr3.out; show w.heap.size <= W3.heap.size + 1; omega) (.int .i64 0)); have cK7 := K7.out.cell; have fK7 := K7.out.frozen; have cR7 := R7.out.cell; have fR7 := R7.out.frozen; have cV7 := V7.out.cell; have fV7 := V7.out.frozen; clear hb))
 have e3 := ((R7.out.put 0 (.int .i64 (0))).put 1 (.int .i64 (0))).cell
 exact bodyPost_ret (v := .tuple #[.agg #[.int .i64 (0), .int .i64 (0)], .int .i64 4]) (by simp [results, Tryz.results11, go_sem, e3]) rfl ⟨rfl, (HB7.out.setCell (p := ⟨w.heap.size + 1, 0, none⟩) (Nat.le_succ _) _).setCell (p := ⟨w.heap.size + 1, 1, none⟩) (Nat.le_succ _) _⟩
theorem read_col (p : Int) (S L : ByteArray) (em rem vw vh cur k0 n0 : Int) (c : Int) (hcur : (L.toList == [99, 117, 114, 114, 101, 110, 116, 99, 111, 108, 111, 114]) = false) (nm kd ks au : Bs) (ab : Bool) (cI0 : ∀ w, Calls Tryz.prog 26 #[.int .i64 p] w (rt w (.bool true))) (cL0 : ∀ w, Calls Tryz.prog 32 #[.string S] w (rt w (.string L))) (cW0 : ∀ w, MaxL w -> Calls Tryz.prog 31 #[.int .i64 p, .string L] w (rt w (.tuple #[.agg #[.int .i64 k0, .int .i64 n0], .bool false]))) (cA0 : ∀ w, Calls Tryz.prog 25 #[.int .i64 p] w (rt w (.agg #[.string (bs nm), .string (bs kd), .string (bs ks), .string (bs au), .bool ab]))) (cC0 : ∀ w, Calls Tryz.prog 33 #[.string (bs kd), .string ⟨#[99]⟩] w (rt w (.bool true))) (cO0 : ∀ w, Calls Tryz.prog 34 #[.string S] w (rt w (.tuple #[.int .i64 c, .int .i64 0]))) (cF0 : ∀ w, MaxL w -> Calls Tryz.prog 15 #[.int .i64 p, .agg #[.int .i64 5, .int .i64 c]] w (rt w (.bool true))) (w : World) (hm : MaxL w) (hU : UnitsAt w) : Calls Tryz.prog 11 #[.int .i64 p, .string S, .agg #[.int .i64 em, .int .i64 rem, .int .i64 vw, .int .i64 vh], .int .i64 cur] w (rt w (.tuple #[.agg #[.int .i64 5, .int .i64 c], .int .i64 0])) := by
 have hfd := field_row1
 have cI := hid cI0
 have cL := hid cL0
 have cW := hid cW0
 have cA := hid cA0
 have cC := hid cC0
 have cO := hid cO0
 have cF := hid cF0
 have HM := hid hm
 have HU := hid hU
 clear hm hU cI0 cL0 cW0 cA0 cC0 cO0 cF0
 have K0 := hid (show Blk ((w.alloc (.cells #[.int .i64 em, .int .i64 rem, .int .i64 vw, .int .i64 vh] 42)).alloc (.cells #[.int .i64 0, .int .i64 0] 38)) w.heap.size 42 #[.int .i64 em, .int .i64 rem, .int .i64 vw, .int .i64 vh] from (Blk.new rfl).alloc _)
 have R0 := hid (show Blk ((w.alloc (.cells #[.int .i64 em, .int .i64 rem, .int .i64 vw, .int .i64 vh] 42)).alloc (.cells #[.int .i64 0, .int .i64 0] 38)) (w.heap.size + 1) 38 #[.int .i64 0, .int .i64 0] from Blk.new (by simp))
 have HB0 := hid ((ba w (.cells #[.int .i64 em, .int .i64 rem, .int .i64 vw, .int .i64 vh] 42)).alloc (by simp) (.cells #[.int .i64 0, .int .i64 0] 38))
 go_enter Tryz.func11, Tryz.ntmps11
 go_wp2_with (first
  | (go_at_call 26; (with_reducible refine (cI.out _).mono ?_); rintro e W1 ⟨rfl, hb⟩; have K1 := hid (K0.out.below hb K0.out.lt); have R1 := hid (R0.out.below hb R0.out.lt); have HB1 := hid (tb HB0 hb); have cK1 := K1.out.cell; have fK1 := K1.out.frozen; have cR1 := R1.out.cell; have fR1 := R1.out.frozen; clear hb)
  | (go_at_call 32; (with_reducible refine (cL.out _).mono ?_); rintro e W2 ⟨rfl, hb⟩; have K2 := hid (K1.out.below hb K1.out.lt); have R2 := hid (R1.out.below hb R1.out.lt); have HB2 := hid (tb HB1 hb); have cK2 := K2.out.cell; have fK2 := K2.out.frozen; have cR2 := R2.out.cell; have fR2 := R2.out.frozen; clear hb)
  | (go_at_call 31; (with_reducible refine (cW.out _ (HM.out.on HB2.out HM.out.lt)).mono ?_); rintro e W3 ⟨rfl, hb⟩; have K3 := hid (K2.out.below hb K2.out.lt); have R3 := hid (R2.out.below hb R2.out.lt); have HB3 := hid (tb HB2 hb); have hr3 := hid R3.out.lt; have K3 := hid (K3.out.alloc (.cells #[.int .i64 k0, .int .i64 n0] 38)); have R3 := hid (R3.out.alloc (.cells #[.int .i64 k0, .int .i64 n0] 38)); have HB3 := hid (HB3.out.alloc HB3.out.size (.cells #[.int .i64 k0, .int .i64 n0] 38)); have K3 := hid (K3.out.alloc (.cells #[.int .i64 0, .int .i64 0] 38)); have R3 := hid (R3.out.alloc (.cells #[.int .i64 0, .int .i64 0] 38)); have HB3 := hid (HB3.out.alloc HB3.out.size (.cells #[.int .i64 0, .int .i64 0] 38)); have V3 := hid (show Blk ((W3.alloc (.cells #[.int .i64 k0, .int .i64 n0] 38)).alloc (.cells #[.int .i64 0, .int .i64 0] 38)) (W3.heap.size + 1) 38 #[.int .i64 0, .int .i64 0] from Blk.new (by simp)); have cK3 := K3.out.cell; have fK3 := K3.out.frozen; have cR3 := R3.out.cell; have fR3 := R3.out.frozen; have cV3 := V3.out.cell; have fV3 := V3.out.frozen; clear hb)
  | (go_at_call 25; (with_reducible refine (cA.out _).mono ?_); rintro e W4 ⟨rfl, hb⟩; have K4 := hid (K3.out.below hb K3.out.lt); have R4 := hid (R3.out.below hb R3.out.lt); have V4 := hid (V3.out.below hb V3.out.lt); have HB4 := hid (tb HB3 hb); have cK4 := K4.out.cell; have fK4 := K4.out.frozen; have cR4 := R4.out.cell; have fR4 := R4.out.frozen; have cV4 := V4.out.cell; have fV4 := V4.out.frozen; clear hb)
  | (go_at_call 33; (with_reducible refine (cC.out _).mono ?_); rintro e W5 ⟨rfl, hb⟩; have K5 := hid (K4.out.below hb K4.out.lt); have R5 := hid (R4.out.below hb R4.out.lt); have V5 := hid (V4.out.below hb V4.out.lt); have HB5 := hid (tb HB4 hb); have cK5 := K5.out.cell; have fK5 := K5.out.frozen; have cR5 := R5.out.cell; have fR5 := R5.out.frozen; have cV5 := V5.out.cell; have fV5 := V5.out.frozen; clear hb)
  | (go_at_call 34; (with_reducible refine (cO.out _).mono ?_); rintro e W6 ⟨rfl, hb⟩; have K6 := hid (K5.out.below hb K5.out.lt); have R6 := hid (R5.out.below hb R5.out.lt); have V6 := hid (V5.out.below hb V5.out.lt); have HB6 := hid (tb HB5 hb); have cK6 := K6.out.cell; have fK6 := K6.out.frozen; have cR6 := R6.out.cell; have fR6 := R6.out.frozen; have cV6 := V6.out.cell; have fV6 := V6.out.frozen; clear hb)
  | (go_at_call 32; (with_reducible refine (cL.out _).mono ?_); rintro e W7 ⟨rfl, hb⟩; have K7 := hid (K6.out.below hb K6.out.lt); have R7 := hid (R6.out.below hb R6.out.lt); have V7 := hid (V6.out.below hb V6.out.lt); have HB7 := hid (tb HB6 hb); have aK7 := K7.out.cell; have bK7 := K7.out.frozen; have aR7 := R7.out.cell; have bR7 := R7.out.frozen; have aV7 := V7.out.cell; have bV7 := V7.out.frozen; have K7 := hid (K7.out.far (p := ⟨W3.heap.size + 1, 0, none⟩) (by have := hr3.out; show _ ≠ W3.heap.size + 1; omega) (.int .i64 5)); have R7 := hid (R7.out.far (p := ⟨W3.heap.size + 1, 0, none⟩) (by have := hr3.out; show _ ≠ W3.heap.size + 1; omega) (.int .i64 5)); have V7 := hid (V7.out.put 0 (.int .i64 5)); have HB7 := hid (HB7.out.setCell (p := ⟨W3.heap.size + 1, 0, none⟩) (by have := hr3.out; show w.heap.size <= W3.heap.size + 1; omega) (.int .i64 5)); have K7 := hid (K7.out.far (p := ⟨W3.heap.size + 1, 1, none⟩) (by have := hr3.out; show _ ≠ W3.heap.size + 1; omega) (.int .i64 c)); have R7 := hid (R7.out.far (p := ⟨W3.heap.size + 1, 1, none⟩) (by have := hr3.out; show _ ≠ W3.heap.size + 1; omega) (.int .i64 c)); have V7 := hid (V7.out.put 1 (.int .i64 c)); have HB7 := hid (HB7.out.setCell (p := ⟨W3.heap.size + 1, 1, none⟩) (by have := hr3.out; show w.heap.size <= W3.heap.size + 1; omega) (.int .i64 c)); have cK7 := K7.out.cell; have fK7 := K7.out.frozen; have cR7 := R7.out.cell; have fR7 := R7.out.frozen; have cV7 := V7.out.cell; have fV7 := V7.out.frozen; clear hb)
  | (go_at_call 15; (with_reducible refine (cF.out _ (HM.out.on HB7.out HM.out.lt)).mono ?_); rintro e W8 ⟨rfl, hb⟩; have K8 := hid (K7.out.below hb K7.out.lt); have R8 := hid (R7.out.below hb R7.out.lt); have V8 := hid (V7.out.below hb V7.out.lt); have HB8 := hid (tb HB7 hb); have cK8 := K8.out.cell; have fK8 := K8.out.frozen; have cR8 := R8.out.cell; have fR8 := R8.out.frozen; have cV8 := V8.out.cell; have fV8 := V8.out.frozen; clear hb))
 have e3 := ((R8.out.put 0 (.int .i64 (5))).put 1 (.int .i64 (c))).cell
 exact bodyPost_ret (v := .tuple #[.agg #[.int .i64 (5), .int .i64 (c)], .int .i64 0]) (by simp [results, Tryz.results11, go_sem, e3]) rfl ⟨rfl, (HB8.out.setCell (p := ⟨w.heap.size + 1, 0, none⟩) (Nat.le_succ _) _).setCell (p := ⟨w.heap.size + 1, 1, none⟩) (Nat.le_succ _) _⟩
end prp
end Go.Proofs.YtlfkkaofgcongaaGreatDoor
