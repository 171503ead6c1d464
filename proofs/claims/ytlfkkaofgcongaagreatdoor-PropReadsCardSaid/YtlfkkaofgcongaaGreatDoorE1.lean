/- Contracts and plain law, a bundle. -/
import Derived.Deep.RegionHeld3
import Derived.Lib.Hide
import Derived.Test.YtlfkkaofgcongaaGreatDoorBJ
import Derived.Test.YtlfkkaofgcongaaGreatDoorBC
set_option linter.unusedVariables false
set_option maxRecDepth 100000
set_option maxHeartbeats 16000000
open Go.Lib (hid)
namespace Go.Proofs.YtlfkkaofgcongaaGreatDoor
namespace cal
open Go.RowKit base tok dim
theorem ccut_ct (n : Int) (w : World) :
  Calls Tryz.prog 95 #[.int .i64 n] w fun e w' => e = .returned (.int .i64 (clipI n)) /\ w = w' := by
 go_enter Tryz.func95, Tryz.ntmps95
 go_wp2
 go_ret
 refine ⟨ret_int ?_, rfl⟩
 unfold clipI
 omega
theorem quo_by (a d : Int) (hd : 0 < d) : a / d = if a.tmod d < 0 then a.tdiv d - 1 else a.tdiv d := by
 have h1 := Int.mul_tdiv_add_tmod a d
 have h5 := Int.tmod_lt_of_pos a hd
 have h6 := Int.lt_tmod_of_pos a hd
 split
 ·rename_i h
  have e : a = (a.tmod d + d) + d * (a.tdiv d - 1) := by rw [Int.mul_sub, Int.mul_one]; omega
  conv => lhs; rw [e]
  rw [Int.add_mul_ediv_left _ _ (by omega), Int.ediv_eq_zero_of_lt (by omega) (by omega)]
  omega
 ·conv => lhs; rw [<- h1, Int.add_comm]
  rw [Int.add_mul_ediv_left _ _ (by omega), Int.ediv_eq_zero_of_lt (by omega) (by omega)]
  omega
theorem down10_ct (a : Int) (h0 : -9223372036854775808 <= a) (h9 : a <= 9223372036854775807) (w : World) :
  Calls Tryz.prog 96 #[.int .i64 a, .int .i64 10] w fun e w' => e = .returned (.int .i64 (a / 10)) /\ w = w' := by
 have hq := quo_by a 10 (by decide)
 have h1 := Int.mul_tdiv_add_tmod a 10
 have h5 := Int.tmod_lt_of_pos a (show (0 : Int) < 10 by decide)
 have h6 := Int.lt_tmod_of_pos a (show (0 : Int) < 10 by decide)
 have hs : a < 0 ∨ 0 <= a.tmod 10 := by
  by_cases h : a < 0
  ·exact .inl h
  ·exact .inr (Int.tmod_nonneg _ (by omega))
 have hs2 : 0 <= a ∨ a.tmod 10 <= 0 := by
  by_cases h : 0 <= a
  ·exact .inl h
  ·exact .inr (by have := Int.tmod_nonneg 10 (a := -a) (by omega); rw [Int.neg_tmod] at this; omega)
 have r1 := IntWalk.i64_in (a.tdiv 10) (by omega)
 have r2 := IntWalk.i64_in (a.tdiv 10 - 1) (by omega)
 by_cases hz : a.tmod 10 < 0
 ·rw [if_pos hz] at hq
  have d1 : (a.tmod 10 == 0) = false := by rw [beq_eq_false_iff_ne]; omega
  have d2 : (a.tmod 10 != 0) = true := by rw [bne, d1]; rfl
  have d3 : a < 0 := by omega
  replace hq := hid hq
  clear h1 h5 h6 hs hs2
  go_enter Tryz.func96, Tryz.ntmps96
  go_wp2
  all_goals (go_ret; exact ⟨ret_int hq.out.symm, rfl⟩)
 ·rw [if_neg hz] at hq
  by_cases h00 : a.tmod 10 = 0
  ·replace hq := hid hq
   clear h1 h5 h6 hs hs2
   go_enter Tryz.func96, Tryz.ntmps96
   go_wp2
   all_goals (go_ret; exact ⟨ret_int hq.out.symm, rfl⟩)
  ·have d1 : (a.tmod 10 == 0) = false := by rw [beq_eq_false_iff_ne]; exact h00
   have d2 : (a.tmod 10 != 0) = true := by rw [bne, d1]; rfl
   have d3 : ¬ a < 0 := by omega
   replace hq := hid hq
   clear h1 h5 h6 hs hs2
   go_enter Tryz.func96, Tryz.ntmps96
   go_wp2
   all_goals (go_ret; exact ⟨ret_int hq.out.symm, rfl⟩)
theorem downK_ct (a : Int) (h0 : -4611686018427387904 <= a) (h9 : a <= 4611686018427387904) (w : World) :
  Calls Tryz.prog 96 #[.int .i64 a, .int .i64 1000] w fun e w' => e = .returned (.int .i64 (a / 1000)) /\ w = w' := by
 have hq := quo_by a 1000 (by decide)
 have h1 := Int.mul_tdiv_add_tmod a 1000
 have h5 := Int.tmod_lt_of_pos a (show (0 : Int) < 1000 by decide)
 have h6 := Int.lt_tmod_of_pos a (show (0 : Int) < 1000 by decide)
 have hs2 : 0 <= a ∨ a.tmod 1000 <= 0 := by
  by_cases h : 0 <= a
  ·exact .inl h
  ·exact .inr (by have := Int.tmod_nonneg 1000 (a := -a) (by omega); rw [Int.neg_tmod] at this; omega)
 have r1 := IntWalk.i64_in (a.tdiv 1000) (by omega)
 have r2 := IntWalk.i64_in (a.tdiv 1000 - 1) (by omega)
 by_cases hz : a.tmod 1000 < 0
 ·rw [if_pos hz] at hq
  have d1 : (a.tmod 1000 == 0) = false := by rw [beq_eq_false_iff_ne]; omega
  have d2 : (a.tmod 1000 != 0) = true := by rw [bne, d1]; rfl
  have d3 : a < 0 := by
   by_cases h : a < 0
   ·exact h
   ·have := Int.tmod_nonneg 1000 (a := a) (by omega)
    omega
  replace hq := hid hq
  clear h1 h5 h6 hs2
  go_enter Tryz.func96, Tryz.ntmps96
  go_wp2
  all_goals (go_ret; exact ⟨ret_int hq.out.symm, rfl⟩)
 ·rw [if_neg hz] at hq
  by_cases h00 : a.tmod 1000 = 0
  ·replace hq := hid hq
   clear h1 h5 h6 hs2
   go_enter Tryz.func96, Tryz.ntmps96
   go_wp2
   all_goals (go_ret; exact ⟨ret_int hq.out.symm, rfl⟩)
  ·have d1 : (a.tmod 1000 == 0) = false := by rw [beq_eq_false_iff_ne]; exact h00
   have d2 : (a.tmod 1000 != 0) = true := by rw [bne, d1]; rfl
   have d3 : ¬ a < 0 := by omega
   replace hq := hid hq
   clear h1 h5 h6 hs2
   go_enter Tryz.func96, Tryz.ntmps96
   go_wp2
   all_goals (go_ret; exact ⟨ret_int hq.out.symm, rfl⟩)
structure Sc where
 (em rem vw vh : Int)
def Sc.v (k : Sc) : Value := .agg #[.int .i64 k.em, .int .i64 k.rem, .int .i64 k.vw, .int .i64 k.vh]
def numP (u : ByteArray) (n : Int) (k : Sc) : Option (Int × Int) :=
 if u = .empty then some (4, clipI n)
 else if u = ⟨#[37]⟩ then some (3, clipI (n / 10))
 else if okP n k.em k.rem k.vw k.vh then
  some (2, if u = ⟨#[112, 120]⟩ then clipI (n * 64 / 1000) else if u = ⟨#[101, 109]⟩ then clipI (n * k.em / 1000) else if u = ⟨#[114, 101, 109]⟩ then clipI (n * k.rem / 1000)
   else if u = ⟨#[118, 119]⟩ then clipI (n * (64 * k.vw) / 100000) else clipI (n * (64 * k.vh) / 100000))
 else none
def resV : Option (Int × Int) -> Value
 | none => .tuple #[.agg #[.int .i64 0, .int .i64 0], .int .i64 1]
 | some (k, n) => .tuple #[.agg #[.int .i64 k, .int .i64 n], .int .i64 0]
theorem clip_bd (x : Int) : -16777216 <= clipI x /\ clipI x <= 16777216 := by unfold clipI; omega
theorem numP_bd {u : ByteArray} {n : Int} {k : Sc} {r : Int × Int} (h : numP u n k = some r) : -16777216 <= r.2 /\ r.2 <= 16777216 := by
 unfold numP at h
 repeat' split at h
 all_goals first | (obtain rfl := Option.some.inj h; exact clip_bd _) | cases h
end cal
namespace cal
open Go.RowKit base tok dim
def isUnit (u : ByteArray) : Prop := u = .empty ∨ u = ⟨#[112, 120]⟩ ∨ u = ⟨#[101, 109]⟩ ∨ u = ⟨#[114, 101, 109]⟩ ∨ u = ⟨#[118, 119]⟩ ∨ u = ⟨#[118, 104]⟩ ∨ u = ⟨#[37]⟩
theorem px_any (u : ByteArray) (hu : u = ⟨#[112, 120]⟩ ∨ u = ⟨#[101, 109]⟩ ∨ u = ⟨#[114, 101, 109]⟩ ∨ u = ⟨#[118, 119]⟩ ∨ u = ⟨#[118, 104]⟩) (n : Int) (k : Sc) :
  (numP u n k = none /\ ∀ w, Calls Tryz.prog 97 #[.agg #[.int .i64 n, .string u], .agg #[.int .i64 k.em, .int .i64 k.rem, .int .i64 k.vw, .int .i64 k.vh]] w (rt w (.tuple #[.int .i64 0, .int .i64 1]))) ∨
  ∃ x, numP u n k = some (2, x) /\ ∀ w, Calls Tryz.prog 97 #[.agg #[.int .i64 n, .string u], .agg #[.int .i64 k.em, .int .i64 k.rem, .int .i64 k.vw, .int .i64 k.vh]] w (rt w (.tuple #[.int .i64 x, .int .i64 0])) := by
 cases hk : okP n k.em k.rem k.vw k.vh
 ·refine .inl ⟨?_, fun w => px_bad u n k.em k.rem k.vw k.vh hk w⟩
  rcases hu with rfl | rfl | rfl | rfl | rfl <;> simp [numP, hk] <;> decide
 ·rcases hu with rfl | rfl | rfl | rfl | rfl
  ·exact .inr ⟨_, by simp [numP, hk]; decide, fun w => px_px n _ _ _ _ hk w⟩
  ·exact .inr ⟨_, by simp [numP, hk]; decide, fun w => px_em n _ _ _ _ hk w⟩
  ·exact .inr ⟨_, by simp [numP, hk]; decide, fun w => px_rem n _ _ _ _ hk w⟩
  ·exact .inr ⟨_, by simp [numP, hk]; decide, fun w => px_vw n _ _ _ _ hk w⟩
  ·exact .inr ⟨_, by simp [numP, hk]; decide, fun w => px_vh n _ _ _ _ hk w⟩
theorem number_plain (n : Int) (k : Sc) (w : World) :
  Calls Tryz.prog 65 #[.agg #[.int .i64 n, .string .empty], .agg #[.int .i64 k.em, .int .i64 k.rem, .int .i64 k.vw, .int .i64 k.vh]] w (rt w (.tuple #[.agg #[.int .i64 4, .int .i64 (clipI n)], .int .i64 0])) := by
 have cC := hid (ccut_ct n)
 generalize clipI n = x at *
 obtain ⟨em, rem, vw, vh⟩ := k
 go_enter Tryz.func65, Tryz.ntmps65
 go_wp2_with (go_at_call 95; (with_reducible refine (cC.out _).mono ?_); rintro e W1 ⟨rfl, rfl⟩)
 refine bodyPost_ret (v := .tuple #[.agg #[.int .i64 4, .int .i64 x], .int .i64 0]) (by simp [results, Tryz.results65, go_sem]) rfl ⟨rfl, ?_⟩
 exact (((Below.refl w.heap.size w).alloc (Nat.le_refl _) _).alloc (by simp) _).alloc (by simp; omega) _
theorem number_pct (n : Int) (h0 : -9223372036854775808 <= n) (h9 : n <= 9223372036854775807) (k : Sc) (w : World) :
  Calls Tryz.prog 65 #[.agg #[.int .i64 n, .string ⟨#[37]⟩], .agg #[.int .i64 k.em, .int .i64 k.rem, .int .i64 k.vw, .int .i64 k.vh]] w (rt w (.tuple #[.agg #[.int .i64 3, .int .i64 (clipI (n / 10))], .int .i64 0])) := by
 have cD := hid (down10_ct n h0 h9)
 have cC := hid (ccut_ct (n / 10))
 generalize clipI (n / 10) = x at *
 generalize n / 10 = y at *
 clear h0 h9
 obtain ⟨em, rem, vw, vh⟩ := k
 go_enter Tryz.func65, Tryz.ntmps65
 go_wp2_with (first
  | (go_at_call 96; (with_reducible refine (cD.out _).mono ?_); rintro e W1 ⟨rfl, rfl⟩)
  | (go_at_call 95; (with_reducible refine (cC.out _).mono ?_); rintro e W1 ⟨rfl, rfl⟩))
 refine bodyPost_ret (v := .tuple #[.agg #[.int .i64 3, .int .i64 x], .int .i64 0]) (by simp [results, Tryz.results65, go_sem]) rfl ⟨rfl, ?_⟩
 exact (((Below.refl w.heap.size w).alloc (Nat.le_refl _) _).alloc (by simp) _).alloc (by simp; omega) _
theorem number_len (u : ByteArray) (hu : u = ⟨#[112, 120]⟩ ∨ u = ⟨#[101, 109]⟩ ∨ u = ⟨#[114, 101, 109]⟩ ∨ u = ⟨#[118, 119]⟩ ∨ u = ⟨#[118, 104]⟩) (n : Int) (k : Sc) (w : World) :
  Calls Tryz.prog 65 #[.agg #[.int .i64 n, .string u], .agg #[.int .i64 k.em, .int .i64 k.rem, .int .i64 k.vw, .int .i64 k.vh]] w (rt w (resV (numP u n k))) := by
 have n1 : (u.toList == []) = false := by rcases hu with rfl | rfl | rfl | rfl | rfl <;> (rw [Lib.toList_data]; rfl)
 have n2 : (u.toList == [37]) = false := by rcases hu with rfl | rfl | rfl | rfl | rfl <;> (rw [Lib.toList_data]; rfl)
 have n3 : u.toList.isEmpty = false := by rcases hu with rfl | rfl | rfl | rfl | rfl <;> (rw [Lib.toList_data]; rfl)
 rcases px_any u hu n k with ⟨hp, cP⟩ | ⟨x, hp, cP⟩
 ·rw [hp]
  replace cP := hid cP
  clear hp hu
  obtain ⟨em, rem, vw, vh⟩ := k
  go_enter Tryz.func65, Tryz.ntmps65
  go_wp2_with (go_at_call 97; (with_reducible refine (cP.out _).mono ?_); rintro e W1 ⟨rfl, hb1⟩; have HB1 := hid ((((((Below.refl w.heap.size w).alloc (Nat.le_refl _) (.cells #[.int .i64 n, .string u] 47)).alloc (by simp) (.cells #[.int .i64 em, .int .i64 rem, .int .i64 vw, .int .i64 vh] 42)).alloc (by simp; omega) (.cells #[.int .i64 0, .int .i64 0] 38))).trans (hb1.mono (by simp; omega))); have hblk := (Blk.new (w := (w.alloc (.cells #[.int .i64 n, .string u] 47)).alloc (.cells #[.int .i64 em, .int .i64 rem, .int .i64 vw, .int .i64 vh] 42)) (t := 38) (cs := #[.int .i64 0, .int .i64 0]) (k := w.heap.size + 1 + 1) (by simp)).below hb1 (by simp); have r1 := hblk.frozen; have r2 := hblk.cell; clear hb1)
  have e := ((hblk.put 0 (.int .i64 0)).put 1 (.int .i64 0)).cell
  refine bodyPost_ret (v := .tuple #[.agg #[.int .i64 0, .int .i64 0], .int .i64 1]) (by simp [results, Tryz.results65, go_sem, e]) rfl ⟨rfl, ?_⟩
  exact (HB1.out.setCell (by simp; omega) _).setCell (by simp; omega) _
 ·rw [hp]
  replace cP := hid cP
  clear hp hu
  obtain ⟨em, rem, vw, vh⟩ := k
  go_enter Tryz.func65, Tryz.ntmps65
  go_wp2_with (go_at_call 97; (with_reducible refine (cP.out _).mono ?_); rintro e W1 ⟨rfl, hb1⟩; have HB1 := hid ((((((Below.refl w.heap.size w).alloc (Nat.le_refl _) (.cells #[.int .i64 n, .string u] 47)).alloc (by simp) (.cells #[.int .i64 em, .int .i64 rem, .int .i64 vw, .int .i64 vh] 42)).alloc (by simp; omega) (.cells #[.int .i64 0, .int .i64 0] 38))).trans (hb1.mono (by simp; omega))); have hblk := (Blk.new (w := (w.alloc (.cells #[.int .i64 n, .string u] 47)).alloc (.cells #[.int .i64 em, .int .i64 rem, .int .i64 vw, .int .i64 vh] 42)) (t := 38) (cs := #[.int .i64 0, .int .i64 0]) (k := w.heap.size + 1 + 1) (by simp)).below hb1 (by simp); have r1 := hblk.frozen; have r2 := hblk.cell; clear hb1)
  have e := ((hblk.put 0 (.int .i64 2)).put 1 (.int .i64 x)).cell
  refine bodyPost_ret (v := .tuple #[.agg #[.int .i64 2, .int .i64 x], .int .i64 0]) (by simp [results, Tryz.results65, go_sem, e]) rfl ⟨rfl, ?_⟩
  exact (HB1.out.setCell (by simp; omega) _).setCell (by simp; omega) _
theorem number_ct (u : ByteArray) (hu : isUnit u) (n : Int) (h0 : -9223372036854775808 <= n) (h9 : n <= 9223372036854775807) (k : Sc) (w : World) :
  Calls Tryz.prog 65 #[.agg #[.int .i64 n, .string u], .agg #[.int .i64 k.em, .int .i64 k.rem, .int .i64 k.vw, .int .i64 k.vh]] w (rt w (resV (numP u n k))) := by
 rcases hu with rfl | hu
 ·exact number_plain n k w
 ·by_cases hp : u = ⟨#[37]⟩
  ·subst hp
   exact number_pct n h0 h9 k w
  ·exact number_len u (by rcases hu with h | h | h | h | h | h <;> first | exact absurd h hp | simp [h]) n k w
end cal
namespace cal
open Go.RowKit base tok dim
theorem shaped_ct (k n : Int) (u : ByteArray) (A : Option Addr) (m cap : Nat) (h : (k = 1 /\ m = 0) ∨ ((k = 2 ∨ k = 3 ∨ k = 4 ∨ k = 6 ∨ k = 7) /\ m = 2) ∨ (k = 8 /\ m = 3)) (w : World) :
  Calls Tryz.prog 64 #[.agg #[.int .i64 k, .int .i64 n, .string u, .slice A m cap]] w (rt w (.bool true)) := by
 rcases h with ⟨rfl, rfl⟩ | ⟨rfl | rfl | rfl | rfl | rfl, rfl⟩ | ⟨rfl, rfl⟩
 all_goals
  go_enter Tryz.func64, Tryz.ntmps64
  go_wp2
  go_ret
  exact ⟨rfl, (Below.refl w.heap.size w).alloc (Nat.le_refl _) _⟩
theorem count_leaf (n : Int) (u : ByteArray) (w : World) :
  Calls Tryz.prog 37 #[.agg #[.int .i64 1, .int .i64 n, .string u, .slice none 0 0]] w (rt w (.tuple #[.int .i64 1, .bool true])) := by
 have cS := hid (fun w => shaped_ct 1 n u none 0 0 (.inl ⟨rfl, rfl⟩) w)
 go_enter Tryz.func37, Tryz.ntmps37
 go_wp2_with (go_at_call 64; (with_reducible refine (cS.out _).mono ?_); rintro e W1 ⟨rfl, hb1⟩; have HB1 := hid (((Below.refl w.heap.size w).alloc (Nat.le_refl _) (.cells #[.int .i64 1, .int .i64 n, .string u, .slice none 0 0] 50)).trans (hb1.mono (by simp))); have hblk := (Blk.new (w := w) (t := 50) (cs := #[.int .i64 1, .int .i64 n, .string u, .slice none 0 0]) (k := w.heap.size) (by simp)).below hb1 (by simp); have r1 := hblk.frozen; have r2 := hblk.cell; clear hb1)
 go_loopw [4, 16] (fun n i wr => n = .int .i64 1 /\ i = .int .i64 0 /\ wr = W1) (fun _ _ _ => 0)
 case atStart => exact ⟨rfl, rfl, rfl⟩
 case round =>
  obtain ⟨rfl, rfl, rfl⟩ := hrel
  go_wp2
  go_ret2
  exact ⟨rfl, HB1.out⟩
theorem value_leaf (n : Int) (h0 : -9223372036854775808 <= n) (h9 : n <= 9223372036854775807) (u : ByteArray) (hu : isUnit u) (k : Sc) (w : World) :
  Calls Tryz.prog 38 #[.agg #[.int .i64 1, .int .i64 n, .string u, .slice none 0 0], .agg #[.int .i64 k.em, .int .i64 k.rem, .int .i64 k.vw, .int .i64 k.vh]] w (rt w (resV (numP u n k))) := by
 have cN := hid (fun w => number_ct u hu n h0 h9 k w)
 obtain ⟨a, b, c, hr⟩ : ∃ a b c, resV (numP u n k) = .tuple #[.agg #[.int .i64 a, .int .i64 b], .int .i64 c] := by
  cases hn : numP u n k
  ·exact ⟨_, _, _, rfl⟩
  ·exact ⟨_, _, _, rfl⟩
 rw [hr] at cN ⊢
 clear h0 h9 hu hr
 obtain ⟨em, rem, vw, vh⟩ := k
 go_enter Tryz.func38, Tryz.ntmps38
 go_wp2_with (go_at_call 65; (with_reducible refine (cN.out _).mono ?_); rintro e W1 ⟨rfl, hb1⟩; have HB1 := hid ((((((Below.refl w.heap.size w).alloc (Nat.le_refl _) (.cells #[.int .i64 1, .int .i64 n, .string u, .slice none 0 0] 50)).alloc (by simp) (.cells #[.int .i64 em, .int .i64 rem, .int .i64 vw, .int .i64 vh] 42)).alloc (by simp; omega) (.cells #[.int .i64 0, .int .i64 0] 38))).trans (hb1.mono (by simp; omega))); have hblk := (Blk.new (w := (w.alloc (.cells #[.int .i64 1, .int .i64 n, .string u, .slice none 0 0] 50)).alloc (.cells #[.int .i64 em, .int .i64 rem, .int .i64 vw, .int .i64 vh] 42)) (t := 38) (cs := #[.int .i64 0, .int .i64 0]) (k := w.heap.size + 1 + 1) (by simp)).below hb1 (by simp); have r1 := hblk.frozen; have r2 := hblk.cell; clear hb1)
 have e := ((hblk.put 0 (.int .i64 a)).put 1 (.int .i64 b)).cell
 refine bodyPost_ret (v := .tuple #[.agg #[.int .i64 a, .int .i64 b], .int .i64 c]) (by simp [results, Tryz.results38, go_sem, e]) rfl ⟨rfl, ?_⟩
 exact (HB1.out.setCell (by simp; omega) _).setCell (by simp; omega) _
end cal
namespace cal
open Go.RowKit base tok dim
end cal
namespace cal
open Go.RowKit base tok dim
theorem alike_mid (c x y z : Int) (b o cap : Nat) (hcap : 3 <= cap) (w : World) (hb : b < w.heap.size)
  (e0 : w.cell? ⟨b, o, none⟩ = some (.int .i64 c)) (e1 : w.cell? ⟨b, o + 1, none⟩ = some (.int .i64 x)) (e2 : w.cell? ⟨b, o + 2, none⟩ = some (.int .i64 c)) (e3 : w.cell? ⟨b, o + 2 + 1, none⟩ = some (.int .i64 y)) (e4 : w.cell? ⟨b, o + 4, none⟩ = some (.int .i64 c)) (e5 : w.cell? ⟨b, o + 4 + 1, none⟩ = some (.int .i64 z)) :
  Calls Tryz.prog 68 #[.int .i64 8, .slice (some ⟨b, o, none⟩) 3 cap] w (rt w (.tuple #[.agg #[.int .i64 c, .int .i64 (clipI (max x (min y z)))], .int .i64 0])) := by
 have cC := hid (fun w => ccut_ct (max x (min y z)) w)
 generalize clipI (max x (min y z)) = R at *
 obtain ⟨M, hM⟩ : ∃ M, min y z = M := ⟨_, rfl⟩
 rw [hM] at cC
 obtain ⟨N, hN⟩ : ∃ N, max x M = N := ⟨_, rfl⟩
 rw [hN] at cC
 have HB0 := hid (show Below w.heap.size w ((w.alloc (.cells #[.int .i64 0, .int .i64 0] 38)).alloc (.cells #[.int .i64 c, .int .i64 x] 38)) from ((Below.refl _ _).alloc (Nat.le_refl _) _).alloc (by simp) _)
 have b1 := hid (show Blk ((w.alloc (.cells #[.int .i64 0, .int .i64 0] 38)).alloc (.cells #[.int .i64 c, .int .i64 x] 38)) (w.heap.size + 1) 38 #[.int .i64 c, .int .i64 x] from Blk.new (by simp))
 have b0 := hid (show Blk ((w.alloc (.cells #[.int .i64 0, .int .i64 0] 38)).alloc (.cells #[.int .i64 c, .int .i64 x] 38)) w.heap.size 38 #[.int .i64 0, .int .i64 0] from (Blk.new rfl).alloc _)
 go_enter Tryz.func68, Tryz.ntmps68
 go_wp2_with fail
 go_loopw [15] (fun i wr => ∃ j : Nat, (j = 0 ∨ j = 1 ∨ j = 2) /\ i = .int .i64 j /\ Blk wr (w.heap.size + 1) 38 #[.int .i64 c, .int .i64 x] /\ Blk wr w.heap.size 38 #[.int .i64 0, .int .i64 0] /\ Below w.heap.size w wr) (fun i _ => 2 - (intOf i).toNat)
 case atStart => exact ⟨0, .inl rfl, rfl, b1.out, b0.out, HB0.out⟩
 case round =>
  obtain ⟨j, hj, rfl, q1, q0, hbw⟩ := hrel
  have f0 := (hbw.cell (p := ⟨b, o, none⟩) hb).trans e0
  have f1 := (hbw.cell (p := ⟨b, o + 1, none⟩) hb).trans e1
  have f2 := (hbw.cell (p := ⟨b, o + 2, none⟩) hb).trans e2
  have f3 := (hbw.cell (p := ⟨b, o + 2 + 1, none⟩) hb).trans e3
  have f4 := (hbw.cell (p := ⟨b, o + 4, none⟩) hb).trans e4
  have f5 := (hbw.cell (p := ⟨b, o + 4 + 1, none⟩) hb).trans e5
  have f4' : wr.cell? ⟨b, o + 2 + 2, none⟩ = some (.int .i64 c) := by rw [show o + 2 + 2 = o + 4 by omega]; exact f4
  have f5' : wr.cell? ⟨b, o + 2 + 2 + 1, none⟩ = some (.int .i64 z) := by rw [show o + 2 + 2 + 1 = o + 4 + 1 by omega]; exact f5
  clear e0 e1 e2 e3 e4 e5
  have hlt1 := q1.lt
  rcases hj with rfl | rfl | rfl
  ·have c1 := fun o => (q1.alloc o).cell
   have c2 := fun o => (q1.alloc o).frozen
   replace q1 := hid q1
   replace q0 := hid q0
   replace hbw := hid hbw
   go_wp2_with fail
   go_roundw
   case rel => exact ⟨1, .inr (.inl rfl), by go_num, q1.out.alloc _, q0.out.alloc _, hbw.out.alloc hbw.out.size _⟩
   case measure => simp [intOf]
  ·have c1 := fun o => (q1.alloc o).cell
   have c2 := fun o => (q1.alloc o).frozen
   replace q1 := hid q1
   replace q0 := hid q0
   replace hbw := hid hbw
   go_wp2_with fail
   go_roundw
   case rel => exact ⟨2, .inr (.inr rfl), by go_num, q1.out.alloc _, q0.out.alloc _, hbw.out.alloc hbw.out.size _⟩
   case measure => simp [intOf]
  ·have c1 := q1.cell
   have c2 := q1.frozen
   have c3 := q0.cell
   have c4 := q0.frozen
   replace q1 := hid q1
   replace q0 := hid q0
   replace hbw := hid hbw
   go_wp2_with fail
   go_region
   have d1 := (q1.out.put 1 (.int .i64 N)).drew.cell
   have d2 := (q1.out.put 1 (.int .i64 N)).drew.frozen
   have d3 := fun v => ((q1.out.put 1 (.int .i64 N)).put 1 v).drew.cell
   have d4 := fun v => ((q0.out.far (p := ⟨w.heap.size + 1, 1, none⟩) (by dsimp only; omega) (.int .i64 N)).far (p := ⟨w.heap.size + 1, 1, none⟩) (by dsimp only; omega) v).drew.frozen
   have qx := hid (((q0.out.far (p := ⟨w.heap.size + 1, 1, none⟩) (by dsimp only; omega) (.int .i64 N)).far (p := ⟨w.heap.size + 1, 1, none⟩) (by dsimp only; omega) (.int .i64 R)))
   clear c1 c2
   go_wp2_with (go_at_call 95; (with_reducible refine (cC.out _).mono ?_); rintro e W1 ⟨rfl, rfl⟩)
   have e := ((qx.out.put 0 (.int .i64 c)).put 1 (.int .i64 R)).drew.cell
   refine bodyPost_ret (v := .tuple #[.agg #[.int .i64 c, .int .i64 R], .int .i64 0]) (by simp [results, Tryz.results68, go_sem, e]) rfl ⟨rfl, ?_⟩
   exact ((((hbw.out.setCell (by simp) _).setCell (by simp) _).setCell (by simp) _).setCell (by simp) _).drew
end cal
namespace cal
open Go.RowKit base tok dim
structure Tm where
 (k n : Int) (u : ByteArray) (a : Option Addr) (l c : Nat)
def Tm.f (t : Tm) : List Value := [.int .i64 t.k, .int .i64 t.n, .string t.u, .slice t.a t.l t.c]
def Tm.v (t : Tm) : Value := .agg #[.int .i64 t.k, .int .i64 t.n, .string t.u, .slice t.a t.l t.c]
def TmAt (w : World) (b o : Nat) (L : List Tm) : Prop := b < w.heap.size /\ ∀ (i : Nat) (t : Tm), L[i]? = some t -> w.cell? ⟨b, o + i * 4, none⟩ = some (.int .i64 t.k) /\ w.cell? ⟨b, o + i * 4 + 1, none⟩ = some (.int .i64 t.n) /\ w.cell? ⟨b, o + i * 4 + 2, none⟩ = some (.string t.u) /\ w.cell? ⟨b, o + i * 4 + 3, none⟩ = some (.slice t.a t.l t.c)
theorem TmAt.on {w w' : World} {b o : Nat} {L : List Tm} (h : TmAt w b o L) (hb : Below w.heap.size w w') : TmAt w' b o L :=
 ⟨Nat.lt_of_lt_of_le h.1 hb.size, fun i t ht => ⟨(hb.cell (p := ⟨b, _, none⟩) h.1).trans (h.2 i t ht).1, (hb.cell (p := ⟨b, _, none⟩) h.1).trans (h.2 i t ht).2.1, (hb.cell (p := ⟨b, _, none⟩) h.1).trans (h.2 i t ht).2.2.1, (hb.cell (p := ⟨b, _, none⟩) h.1).trans (h.2 i t ht).2.2.2⟩⟩
end cal
namespace cal
open Go.RowKit base tok dim
theorem infoV : (Tryz.prog.info? 38).map (fun i => (i.zero, i.size, i.bytes)) = some (some (.agg #[.int .i64 0, .int .i64 0]), 2, 16) := by kernel_rfl
def valF (p : Int × Int) : List Value := [.int .i64 p.1, .int .i64 p.2]
theorem valF_len (p : Int × Int) : (valF p).length = 2 := rfl
theorem snoc_get {α : Type} {acc : List α} {p : α} {q : Nat} {x : α} (h : (acc ++ [p])[q]? = some x) : acc[q]? = some x ∨ (q = acc.length /\ x = p) := by
 rcases Nat.lt_trichotomy q acc.length with h1 | h1 | h1
 ·rw [List.getElem?_append_left h1] at h
  exact .inl h
 ·subst h1
  rw [List.getElem?_concat_length] at h
  exact .inr ⟨rfl, (Option.some.inj h).symm⟩
 ·rw [List.getElem?_eq_none (by simp; omega)] at h
  cases h
theorem value_alk (k n : Int) (u : ByteArray) (b o cap : Nat) (L : List Tm) (hk : k = 2 ∨ k = 3 ∨ k = 6 ∨ k = 7 ∨ k = 8) (hl : L.length = 2 ∨ L.length = 3) (hcap : L.length <= cap) (w : World) (hL : TmAt w b o L) (sc : Sc) (r : Nat -> Option (Int × Int)) (R : Option (Int × Int)) (hN : ∀ q, q < L.length -> r q = none -> R = none)
  (hA : ∀ acc : List (Int × Int), acc.length = L.length -> (∀ q p, acc[q]? = some p -> r q = some p) -> ∃ x y, R = some (x, y) /\ ∀ W g z cp, L.length <= cp -> g < W.heap.size -> (∀ q p, acc[q]? = some p -> W.cell? ⟨g, z + q * 2, none⟩ = some (.int .i64 p.1) /\ W.cell? ⟨g, z + q * 2 + 1, none⟩ = some (.int .i64 p.2)) -> Calls Tryz.prog 68 #[.int .i64 k, .slice (some ⟨g, z, none⟩) L.length cp] W fun e W' => e = .returned (.tuple #[.agg #[.int .i64 x, .int .i64 y], .int .i64 0]) /\ Below W.heap.size W W')
  (hV : ∀ i t, L[i]? = some t -> ∀ W, Below w.heap.size w W -> Calls Tryz.prog 38 #[t.v, .agg #[.int .i64 sc.em, .int .i64 sc.rem, .int .i64 sc.vw, .int .i64 sc.vh]] W fun e W' => e = .returned (resV (r i)) /\ Below W.heap.size W W') :
  Calls Tryz.prog 38 #[.agg #[.int .i64 k, .int .i64 n, .string u, .slice (some ⟨b, o, none⟩) L.length cap], .agg #[.int .i64 sc.em, .int .i64 sc.rem, .int .i64 sc.vw, .int .i64 sc.vh]] w (rt w (resV R)) := by
 obtain ⟨i0, hi, hz0, hz1, hz2⟩ := info_parts infoV
 have Hz0 := hid hz0
 have Hi := hid hi
 have Hz1 := hid hz1
 have Hz2 := hid hz2
 clear hz0 hi hz1 hz2
 obtain ⟨m, hm⟩ : ∃ m, L.length = m := ⟨_, rfl⟩
 have hsz := hid hm
 rw [hm] at hcap hl hN ⊢
 try rw [hm] at hA
 clear hm
 have k1 : (k == 1) = false := by rcases hk with rfl | rfl | rfl | rfl | rfl <;> decide
 have k4 : (k == 4) = false := by rcases hk with rfl | rfl | rfl | rfl | rfl <;> decide
 have k5 : (k == 5) = false := by rcases hk with rfl | rfl | rfl | rfl | rfl <;> decide
 clear hk
 replace hV := hid hV
 replace hL := hid hL
 replace hN := hid hN
 replace hA := hid hA
 obtain ⟨em, rem, vw, vh⟩ := sc
 dsimp only at hV ⊢
 have HW0 := hid (show Below w.heap.size w (((w.alloc (.cells #[.int .i64 k, .int .i64 n, .string u, .slice (some ⟨b, o, none⟩) m cap] 50)).alloc (.cells #[.int .i64 em, .int .i64 rem, .int .i64 vw, .int .i64 vh] 42)).alloc (.cells #[.int .i64 0, .int .i64 0] 38)) from (((Below.refl w.heap.size w).alloc (Nat.le_refl _) _).alloc (by simp) _).alloc (by simp; omega) _)
 have B0 := hid (show Blk (((w.alloc (.cells #[.int .i64 k, .int .i64 n, .string u, .slice (some ⟨b, o, none⟩) m cap] 50)).alloc (.cells #[.int .i64 em, .int .i64 rem, .int .i64 vw, .int .i64 vh] 42)).alloc (.cells #[.int .i64 0, .int .i64 0] 38)) w.heap.size 50 #[.int .i64 k, .int .i64 n, .string u, .slice (some ⟨b, o, none⟩) m cap] from ((Blk.new rfl).alloc _).alloc _)
 have B1 := hid (show Blk (((w.alloc (.cells #[.int .i64 k, .int .i64 n, .string u, .slice (some ⟨b, o, none⟩) m cap] 50)).alloc (.cells #[.int .i64 em, .int .i64 rem, .int .i64 vw, .int .i64 vh] 42)).alloc (.cells #[.int .i64 0, .int .i64 0] 38)) (w.heap.size + 1) 42 #[.int .i64 em, .int .i64 rem, .int .i64 vw, .int .i64 vh] from (Blk.new (by simp)).alloc _)
 have B2 := hid (show Blk (((w.alloc (.cells #[.int .i64 k, .int .i64 n, .string u, .slice (some ⟨b, o, none⟩) m cap] 50)).alloc (.cells #[.int .i64 em, .int .i64 rem, .int .i64 vw, .int .i64 vh] 42)).alloc (.cells #[.int .i64 0, .int .i64 0] 38)) (w.heap.size + 1 + 1) 38 #[.int .i64 0, .int .i64 0] from Blk.new (by simp))
 have HZ : w.heap.size + 3 <= (((w.alloc (.cells #[.int .i64 k, .int .i64 n, .string u, .slice (some ⟨b, o, none⟩) m cap] 50)).alloc (.cells #[.int .i64 em, .int .i64 rem, .int .i64 vw, .int .i64 vh] 42)).alloc (.cells #[.int .i64 0, .int .i64 0] 38)).heap.size := by simp
 replace HZ := hid HZ
 go_enter Tryz.func38, Tryz.ntmps38
 go_wp2_with fail
 generalize hW0 : ((w.alloc (.cells #[.int .i64 k, .int .i64 n, .string u, .slice (some ⟨b, o, none⟩) m cap] 50)).alloc (.cells #[.int .i64 em, .int .i64 rem, .int .i64 vw, .int .i64 vh] 42)).alloc (.cells #[.int .i64 0, .int .i64 0] 38) = W0 at *
 clear hW0
 go_loopw [6, 23] (fun x i wr => ∃ (j : Nat) (acc : List (Int × Int)), j <= m /\ acc.length = j /\ i = .int .i64 j /\ wr.ownsRow (w.heap.size + 3) 38 2 x j (flatR valF acc) /\ Below (w.heap.size + 3) W0 wr /\ ∀ q p, acc[q]? = some p -> r q = some p) (fun _ i _ => m - (intOf i).toNat)
 case atStart => exact ⟨0, [], by omega, rfl, rfl, World.ownsRow_nil _ _ _ _, Below.refl _ _, fun q p h => by simp at h⟩
 case round =>
  obtain ⟨j, acc, hj, hal, rfl, hrow, hbw, hacc⟩ := hrel
  have HBw := hid (HW0.out.trans (hbw.mono (by omega)))
  have q0 := B0.out.below hbw (by omega)
  have q1 := B1.out.below hbw (by omega)
  have q2 := B2.out.below hbw (by omega)
  have hzz := Nat.le_trans HZ.out hbw.size
  replace hbw := hid hbw
  replace hrow := hid hrow
  replace hacc := hid hacc
  replace hal := hid hal
  by_cases hlt : j < m
  ·have hlt' : (j : Int) < (m : Int) := by omega
   obtain ⟨t, ht⟩ : ∃ t, L[j]? = some t := ⟨_, List.getElem?_eq_getElem (by rw [hsz.out]; exact hlt)⟩
   obtain ⟨g0, g1, g2, g3⟩ := (hL.out.on HBw.out).2 j t ht
   have cT := fun W h => hV.out j t ht W h
   obtain ⟨tk, tn, tu, ta, tl, tc⟩ := t
   unfold Tm.v at cT
   dsimp only at g0 g1 g2 g3 cT
   clear ht
   have HBa := hid (HBw.out.alloc HBw.out.size (.cells #[.int .i64 tk, .int .i64 tn, .string tu, .slice ta tl tc] 50))
   have HBb := hid (hbw.out.alloc (by omega) (.cells #[.int .i64 tk, .int .i64 tn, .string tu, .slice ta tl tc] 50))
   have p1 := fun o => (q1.alloc o).cell
   replace q0 := hid q0
   replace q1 := hid q1
   cases hr : r j with
   | none =>
    have hRn := hN.out j hlt hr
    subst hRn
    rw [hr] at cT
    unfold resV at cT
    dsimp only at cT
    replace cT := hid cT
    replace hr := hid hr
    replace q2 := hid q2
    go_wp2_with (go_at_call 38; (with_reducible refine (cT.out _ HBa.out).mono ?_); rintro e W2 ⟨rfl, hb2⟩; have HB2 := hid (HBa.out.trans (hb2.mono HBa.out.size)); have q3 := (q2.out.alloc (.cells #[.int .i64 tk, .int .i64 tn, .string tu, .slice ta tl tc] 50)).below hb2 (by simp; omega); have p3 := q3.cell; have p4 := q3.frozen; have p5 := fun o => (q3.alloc o).cell; have p6 := fun o => (q3.alloc o).frozen; replace q3 := hid q3; clear hb2)
    have e := (((q3.out.alloc (.cells #[.int .i64 0, .int .i64 0] 38)).put 0 (.int .i64 0)).put 1 (.int .i64 0)).cell
    refine bodyPost_ret (v := .tuple #[.agg #[.int .i64 0, .int .i64 0], .int .i64 1]) (by simp [results, Tryz.results38, go_sem, e]) rfl ⟨rfl, ?_⟩
    exact ((HB2.out.alloc HB2.out.size _).setCell (by simp; omega) _).setCell (by simp; omega) _
   | some pv =>
    obtain ⟨c, N⟩ := pv
    rw [hr] at cT
    unfold resV at cT
    dsimp only at cT
    replace cT := hid cT
    replace hr := hid hr
    replace q2 := hid q2
    obtain ⟨a, cp, rfl⟩ := row_form hrow.out
    go_wp2_with (first
     | (go_at_call 38; (with_reducible refine (cT.out _ HBa.out).mono ?_); rintro e W2 ⟨rfl, hb2⟩; have hrow2 := hid (row_on (hrow.out.alloc _) hb2); have HB2 := hid (HBb.out.trans (hb2.mono (by have := HBb.out.size; simp; omega))); have hz2 := hb2.size; rw [World.size_alloc] at hz2; clear hb2)
     | (at_builtin; refine wpList_append_own _ rfl _ _ 112 rfl (w.heap.size + 3) 38 i0 _ 2 16 Tryz.underlying112 Hi.out Hz0.out Hz1.out Hz2.out rfl (by decide) _ _ _ rfl ((hrow2.out.alloc _).alloc _) ⟨W2.heap.size + 1, 0, none⟩ 1 1 [.int .i64 c, .int .i64 N] rfl rfl ?c1 ?c2 ?c3 ?c4 ?c5 ?_))
    case c1 => exact (Blk.new (w := W2.alloc (.cells #[.int .i64 c, .int .i64 N] 38)) (t := 38) (cs := #[.int .i64 c, .int .i64 N]) (by simp)).news
    case c2 => simp [Value.oneCell']
    case c3 => unfold maxLen; omega
    case c4 => omega
    case c5 => simp; omega
    intro v' w3 hown3 hgrow3 hnil3
    have hb3 := hid (below_app ((HB2.out.alloc (by omega) _).alloc (by simp; omega) _) hgrow3 ((hrow2.out.alloc _).alloc _) (Nat.le_refl _) (by simp; omega))
    replace hown3 := hid hown3
    clear hgrow3 hnil3
    go_wp2
    go_roundw
    case rel =>
     refine ⟨j + 1, acc ++ [(c, N)], by omega, by rw [List.length_append, hal.out]; rfl, by go_num, ?_, hb3.out, fun q p hq => ?_⟩
     ·simpa [flatR_snoc, valF] using hown3.out
     ·rcases snoc_get hq with h | ⟨h1, h2⟩
      ·exact hacc.out q p h
      ·subst h1 h2
       rw [hal.out]
       exact hr.out
    case measure => simp [intOf]; omega
  ·obtain rfl : j = m := by omega
   obtain ⟨x, y, hR, cA⟩ := hA.out acc hal.out hacc.out
   obtain ⟨A, cp, rfl, hcp, hrd⟩ := row_rd valF_len hal.out hrow.out
   obtain ⟨g, z, rfl, hg, hcl⟩ := hrd.2 (by omega)
   have cB := hid (cA wr g z cp hcp hg (fun q p hq => ⟨hcl q p hq 0 (by decide), hcl q p hq 1 (by decide)⟩))
   subst hR
   clear cA hrd hcl
   have p1 := q0.cell
   replace q0 := hid q0
   replace q1 := hid q1
   replace q2 := hid q2
   go_wp2_with (go_at_call 68; (with_reducible refine cB.out.mono ?_); rintro e W2 ⟨rfl, hb2⟩; have HB2 := hid (HBw.out.trans (hb2.mono HBw.out.size)); have q3 := q2.out.below hb2 (by omega); have p3 := q3.cell; have p4 := q3.frozen; replace q3 := hid q3; clear hb2)
   have e := ((q3.out.put 0 (.int .i64 x)).put 1 (.int .i64 y)).cell
   refine bodyPost_ret (v := .tuple #[.agg #[.int .i64 x, .int .i64 y], .int .i64 0]) (by simp [results, Tryz.results38, go_sem, e]) rfl ⟨rfl, ?_⟩
   exact (HB2.out.setCell (by simp; omega) _).setCell (by simp; omega) _
end cal
end Go.Proofs.YtlfkkaofgcongaaGreatDoor
