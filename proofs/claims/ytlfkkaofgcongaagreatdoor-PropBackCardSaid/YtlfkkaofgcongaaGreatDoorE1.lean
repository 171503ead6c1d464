/- Contracts and plain law, a bundle. -/
import Derived.Deep.RegionHeld3
import Derived.Lib.Hide
import Derived.Test.YtlfkkaofgcongaaGreatDoorBJ
import Derived.Test.YtlfkkaofgcongaaGreatDoorBC
set_option linter.unusedVariables false
set_option maxRecDepth 100000
set_option maxHeartbeats 16000000
open Go.Lib (hid)
namespace Go.Proofs.YtlfkkaofgcongaaGreatDoor
namespace cal
open Go.RowKit base tok dim
theorem ccut_ct (n : Int) (w : World) :
  Calls Tryz.prog 95 #[.int .i64 n] w fun e w' => e = .returned (.int .i64 (clipI n)) /\ w = w' := by
 go_enter Tryz.func95, Tryz.ntmps95
 go_wp2
 go_ret
 refine ⟨ret_int ?_, rfl⟩
 unfold clipI
 omega
theorem quo_by (a d : Int) (hd : 0 < d) : a / d = if a.tmod d < 0 then a.tdiv d - 1 else a.tdiv d := by
 have h1 := Int.mul_tdiv_add_tmod a d
 have h5 := Int.tmod_lt_of_pos a hd
 have h6 := Int.lt_tmod_of_pos a hd
 split
 ·rename_i h
  have e : a = (a.tmod d + d) + d * (a.tdiv d - 1) := by rw [Int.mul_sub, Int.mul_one]; omega
  conv => lhs; rw [e]
  rw [Int.add_mul_ediv_left _ _ (by omega), Int.ediv_eq_zero_of_lt (by omega) (by omega)]
  omega
 ·conv => lhs; rw [<- h1, Int.add_comm]
  rw [Int.add_mul_ediv_left _ _ (by omega), Int.ediv_eq_zero_of_lt (by omega) (by omega)]
  omega
theorem down10_ct (a : Int) (h0 : -9223372036854775808 <= a) (h9 : a <= 9223372036854775807) (w : World) :
  Calls Tryz.prog 96 #[.int .i64 a, .int .i64 10] w fun e w' => e = .returned (.int .i64 (a / 10)) /\ w = w' := by
 have hq := quo_by a 10 (by decide)
 have h1 := Int.mul_tdiv_add_tmod a 10
 have h5 := Int.tmod_lt_of_pos a (show (0 : Int) < 10 by decide)
 have h6 := Int.lt_tmod_of_pos a (show (0 : Int) < 10 by decide)
 have hs : a < 0 ∨ 0 <= a.tmod 10 := by
  by_cases h : a < 0
  ·exact .inl h
  ·exact .inr (Int.tmod_nonneg _ (by omega))
 have hs2 : 0 <= a ∨ a.tmod 10 <= 0 := by
  by_cases h : 0 <= a
  ·exact .inl h
  ·exact .inr (by have := Int.tmod_nonneg 10 (a := -a) (by omega); rw [Int.neg_tmod] at this; omega)
 have r1 := IntWalk.i64_in (a.tdiv 10) (by omega)
 have r2 := IntWalk.i64_in (a.tdiv 10 - 1) (by omega)
 by_cases hz : a.tmod 10 < 0
 ·rw [if_pos hz] at hq
  have d1 : (a.tmod 10 == 0) = false := by rw [beq_eq_false_iff_ne]; omega
  have d2 : (a.tmod 10 != 0) = true := by rw [bne, d1]; rfl
  have d3 : a < 0 := by omega
  replace hq := hid hq
  clear h1 h5 h6 hs hs2
  go_enter Tryz.func96, Tryz.ntmps96
  go_wp2
  all_goals (go_ret; exact ⟨ret_int hq.out.symm, rfl⟩)
 ·rw [if_neg hz] at hq
  by_cases h00 : a.tmod 10 = 0
  ·replace hq := hid hq
   clear h1 h5 h6 hs hs2
   go_enter Tryz.func96, Tryz.ntmps96
   go_wp2
   all_goals (go_ret; exact ⟨ret_int hq.out.symm, rfl⟩)
  ·have d1 : (a.tmod 10 == 0) = false := by rw [beq_eq_false_iff_ne]; exact h00
   have d2 : (a.tmod 10 != 0) = true := by rw [bne, d1]; rfl
   have d3 : ¬ a < 0 := by omega
   replace hq := hid hq
   clear h1 h5 h6 hs hs2
   go_enter Tryz.func96, Tryz.ntmps96
   go_wp2
   all_goals (go_ret; exact ⟨ret_int hq.out.symm, rfl⟩)
structure Sc where
 (em rem vw vh : Int)
def Sc.v (k : Sc) : Value := .agg #[.int .i64 k.em, .int .i64 k.rem, .int .i64 k.vw, .int .i64 k.vh]
def numP (u : ByteArray) (n : Int) (k : Sc) : Option (Int × Int) :=
 if u = .empty then some (4, clipI n)
 else if u = ⟨#[37]⟩ then some (3, clipI (n / 10))
 else if okP n k.em k.rem k.vw k.vh then
  some (2, if u = ⟨#[112, 120]⟩ then clipI (n * 64 / 1000) else if u = ⟨#[101, 109]⟩ then clipI (n * k.em / 1000) else if u = ⟨#[114, 101, 109]⟩ then clipI (n * k.rem / 1000)
   else if u = ⟨#[118, 119]⟩ then clipI (n * (64 * k.vw) / 100000) else clipI (n * (64 * k.vh) / 100000))
 else none
def resV : Option (Int × Int) -> Value
 | none => .tuple #[.agg #[.int .i64 0, .int .i64 0], .int .i64 1]
 | some (k, n) => .tuple #[.agg #[.int .i64 k, .int .i64 n], .int .i64 0]
theorem clip_bd (x : Int) : -16777216 <= clipI x /\ clipI x <= 16777216 := by unfold clipI; omega
theorem clip_id {x : Int} (h0 : -16777216 <= x) (h1 : x <= 16777216) : clipI x = x := by unfold clipI; omega
theorem numP_bd {u : ByteArray} {n : Int} {k : Sc} {r : Int × Int} (h : numP u n k = some r) : -16777216 <= r.2 /\ r.2 <= 16777216 := by
 unfold numP at h
 repeat' split at h
 all_goals first | (obtain rfl := Option.some.inj h; exact clip_bd _) | cases h
end cal
namespace cal
open Go.RowKit base tok dim
def isUnit (u : ByteArray) : Prop := u = .empty ∨ u = ⟨#[112, 120]⟩ ∨ u = ⟨#[101, 109]⟩ ∨ u = ⟨#[114, 101, 109]⟩ ∨ u = ⟨#[118, 119]⟩ ∨ u = ⟨#[118, 104]⟩ ∨ u = ⟨#[37]⟩
theorem px_any (u : ByteArray) (hu : u = ⟨#[112, 120]⟩ ∨ u = ⟨#[101, 109]⟩ ∨ u = ⟨#[114, 101, 109]⟩ ∨ u = ⟨#[118, 119]⟩ ∨ u = ⟨#[118, 104]⟩) (n : Int) (k : Sc) :
  (numP u n k = none /\ ∀ w, Calls Tryz.prog 97 #[.agg #[.int .i64 n, .string u], .agg #[.int .i64 k.em, .int .i64 k.rem, .int .i64 k.vw, .int .i64 k.vh]] w (rt w (.tuple #[.int .i64 0, .int .i64 1]))) ∨
  ∃ x, numP u n k = some (2, x) /\ ∀ w, Calls Tryz.prog 97 #[.agg #[.int .i64 n, .string u], .agg #[.int .i64 k.em, .int .i64 k.rem, .int .i64 k.vw, .int .i64 k.vh]] w (rt w (.tuple #[.int .i64 x, .int .i64 0])) := by
 cases hk : okP n k.em k.rem k.vw k.vh
 ·refine .inl ⟨?_, fun w => px_bad u n k.em k.rem k.vw k.vh hk w⟩
  rcases hu with rfl | rfl | rfl | rfl | rfl <;> simp [numP, hk] <;> decide
 ·rcases hu with rfl | rfl | rfl | rfl | rfl
  ·exact .inr ⟨_, by simp [numP, hk]; decide, fun w => px_px n _ _ _ _ hk w⟩
  ·exact .inr ⟨_, by simp [numP, hk]; decide, fun w => px_em n _ _ _ _ hk w⟩
  ·exact .inr ⟨_, by simp [numP, hk]; decide, fun w => px_rem n _ _ _ _ hk w⟩
  ·exact .inr ⟨_, by simp [numP, hk]; decide, fun w => px_vw n _ _ _ _ hk w⟩
  ·exact .inr ⟨_, by simp [numP, hk]; decide, fun w => px_vh n _ _ _ _ hk w⟩
theorem number_plain (n : Int) (k : Sc) (w : World) :
  Calls Tryz.prog 65 #[.agg #[.int .i64 n, .string .empty], .agg #[.int .i64 k.em, .int .i64 k.rem, .int .i64 k.vw, .int .i64 k.vh]] w (rt w (.tuple #[.agg #[.int .i64 4, .int .i64 (clipI n)], .int .i64 0])) := by
 have cC := hid (ccut_ct n)
 generalize clipI n = x at *
 obtain ⟨em, rem, vw, vh⟩ := k
 go_enter Tryz.func65, Tryz.ntmps65
 go_wp2_with (go_at_call 95; (with_reducible refine (cC.out _).mono ?_); rintro e W1 ⟨rfl, rfl⟩)
 refine bodyPost_ret (v := .tuple #[.agg #[.int .i64 4, .int .i64 x], .int .i64 0]) (by simp [results, Tryz.results65, go_sem]) rfl ⟨rfl, ?_⟩
 exact (((Below.refl w.heap.size w).alloc (Nat.le_refl _) _).alloc (by simp) _).alloc (by simp; omega) _
theorem number_pct (n : Int) (h0 : -9223372036854775808 <= n) (h9 : n <= 9223372036854775807) (k : Sc) (w : World) :
  Calls Tryz.prog 65 #[.agg #[.int .i64 n, .string ⟨#[37]⟩], .agg #[.int .i64 k.em, .int .i64 k.rem, .int .i64 k.vw, .int .i64 k.vh]] w (rt w (.tuple #[.agg #[.int .i64 3, .int .i64 (clipI (n / 10))], .int .i64 0])) := by
 have cD := hid (down10_ct n h0 h9)
 have cC := hid (ccut_ct (n / 10))
 generalize clipI (n / 10) = x at *
 generalize n / 10 = y at *
 clear h0 h9
 obtain ⟨em, rem, vw, vh⟩ := k
 go_enter Tryz.func65, Tryz.ntmps65
 go_wp2_with (first
  | (go_at_call 96; (with_reducible refine (cD.out _).mono ?_); rintro e W1 ⟨rfl, rfl⟩)
  | (go_at_call 95; (with_reducible refine (cC.out _).mono ?_); rintro e W1 ⟨rfl, rfl⟩))
 refine bodyPost_ret (v := .tuple #[.agg #[.int .i64 3, .int .i64 x], .int .i64 0]) (by simp [results, Tryz.results65, go_sem]) rfl ⟨rfl, ?_⟩
 exact (((Below.refl w.heap.size w).alloc (Nat.le_refl _) _).alloc (by simp) _).alloc (by simp; omega) _
theorem number_len (u : ByteArray) (hu : u = ⟨#[112, 120]⟩ ∨ u = ⟨#[101, 109]⟩ ∨ u = ⟨#[114, 101, 109]⟩ ∨ u = ⟨#[118, 119]⟩ ∨ u = ⟨#[118, 104]⟩) (n : Int) (k : Sc) (w : World) :
  Calls Tryz.prog 65 #[.agg #[.int .i64 n, .string u], .agg #[.int .i64 k.em, .int .i64 k.rem, .int .i64 k.vw, .int .i64 k.vh]] w (rt w (resV (numP u n k))) := by
 have n1 : (u.toList == []) = false := by rcases hu with rfl | rfl | rfl | rfl | rfl <;> (rw [Lib.toList_data]; rfl)
 have n2 : (u.toList == [37]) = false := by rcases hu with rfl | rfl | rfl | rfl | rfl <;> (rw [Lib.toList_data]; rfl)
 have n3 : u.toList.isEmpty = false := by rcases hu with rfl | rfl | rfl | rfl | rfl <;> (rw [Lib.toList_data]; rfl)
 rcases px_any u hu n k with ⟨hp, cP⟩ | ⟨x, hp, cP⟩
 ·rw [hp]
  replace cP := hid cP
  clear hp hu
  obtain ⟨em, rem, vw, vh⟩ := k
  go_enter Tryz.func65, Tryz.ntmps65
  go_wp2_with (go_at_call 97; (with_reducible refine (cP.out _).mono ?_); rintro e W1 ⟨rfl, hb1⟩; have HB1 := hid ((((((Below.refl w.heap.size w).alloc (Nat.le_refl _) (.cells #[.int .i64 n, .string u] 47)).alloc (by simp) (.cells #[.int .i64 em, .int .i64 rem, .int .i64 vw, .int .i64 vh] 42)).alloc (by simp; omega) (.cells #[.int .i64 0, .int .i64 0] 38))).trans (hb1.mono (by simp; omega))); have hblk := (Blk.new (w := (w.alloc (.cells #[.int .i64 n, .string u] 47)).alloc (.cells #[.int .i64 em, .int .i64 rem, .int .i64 vw, .int .i64 vh] 42)) (t := 38) (cs := #[.int .i64 0, .int .i64 0]) (k := w.heap.size + 1 + 1) (by simp)).below hb1 (by simp); have r1 := hblk.frozen; have r2 := hblk.cell; clear hb1)
  have e := ((hblk.put 0 (.int .i64 0)).put 1 (.int .i64 0)).cell
  refine bodyPost_ret (v := .tuple #[.agg #[.int .i64 0, .int .i64 0], .int .i64 1]) (by simp [results, Tryz.results65, go_sem, e]) rfl ⟨rfl, ?_⟩
  exact (HB1.out.setCell (by simp; omega) _).setCell (by simp; omega) _
 ·rw [hp]
  replace cP := hid cP
  clear hp hu
  obtain ⟨em, rem, vw, vh⟩ := k
  go_enter Tryz.func65, Tryz.ntmps65
  go_wp2_with (go_at_call 97; (with_reducible refine (cP.out _).mono ?_); rintro e W1 ⟨rfl, hb1⟩; have HB1 := hid ((((((Below.refl w.heap.size w).alloc (Nat.le_refl _) (.cells #[.int .i64 n, .string u] 47)).alloc (by simp) (.cells #[.int .i64 em, .int .i64 rem, .int .i64 vw, .int .i64 vh] 42)).alloc (by simp; omega) (.cells #[.int .i64 0, .int .i64 0] 38))).trans (hb1.mono (by simp; omega))); have hblk := (Blk.new (w := (w.alloc (.cells #[.int .i64 n, .string u] 47)).alloc (.cells #[.int .i64 em, .int .i64 rem, .int .i64 vw, .int .i64 vh] 42)) (t := 38) (cs := #[.int .i64 0, .int .i64 0]) (k := w.heap.size + 1 + 1) (by simp)).below hb1 (by simp); have r1 := hblk.frozen; have r2 := hblk.cell; clear hb1)
  have e := ((hblk.put 0 (.int .i64 2)).put 1 (.int .i64 x)).cell
  refine bodyPost_ret (v := .tuple #[.agg #[.int .i64 2, .int .i64 x], .int .i64 0]) (by simp [results, Tryz.results65, go_sem, e]) rfl ⟨rfl, ?_⟩
  exact (HB1.out.setCell (by simp; omega) _).setCell (by simp; omega) _
theorem number_ct (u : ByteArray) (hu : isUnit u) (n : Int) (h0 : -9223372036854775808 <= n) (h9 : n <= 9223372036854775807) (k : Sc) (w : World) :
  Calls Tryz.prog 65 #[.agg #[.int .i64 n, .string u], .agg #[.int .i64 k.em, .int .i64 k.rem, .int .i64 k.vw, .int .i64 k.vh]] w (rt w (resV (numP u n k))) := by
 rcases hu with rfl | hu
 ·exact number_plain n k w
 ·by_cases hp : u = ⟨#[37]⟩
  ·subst hp
   exact number_pct n h0 h9 k w
  ·exact number_len u (by rcases hu with h | h | h | h | h | h <;> first | exact absurd h hp | simp [h]) n k w
end cal
namespace cal
open Go.RowKit base tok dim
theorem shaped_ct (k n : Int) (u : ByteArray) (A : Option Addr) (m cap : Nat) (h : (k = 1 /\ m = 0) ∨ ((k = 2 ∨ k = 3 ∨ k = 4 ∨ k = 6 ∨ k = 7) /\ m = 2) ∨ (k = 8 /\ m = 3)) (w : World) :
  Calls Tryz.prog 64 #[.agg #[.int .i64 k, .int .i64 n, .string u, .slice A m cap]] w (rt w (.bool true)) := by
 rcases h with ⟨rfl, rfl⟩ | ⟨rfl | rfl | rfl | rfl | rfl, rfl⟩ | ⟨rfl, rfl⟩
 all_goals
  go_enter Tryz.func64, Tryz.ntmps64
  go_wp2
  go_ret
  exact ⟨rfl, (Below.refl w.heap.size w).alloc (Nat.le_refl _) _⟩
theorem count_leaf (n : Int) (u : ByteArray) (w : World) :
  Calls Tryz.prog 37 #[.agg #[.int .i64 1, .int .i64 n, .string u, .slice none 0 0]] w (rt w (.tuple #[.int .i64 1, .bool true])) := by
 have cS := hid (fun w => shaped_ct 1 n u none 0 0 (.inl ⟨rfl, rfl⟩) w)
 go_enter Tryz.func37, Tryz.ntmps37
 go_wp2_with (go_at_call 64; (with_reducible refine (cS.out _).mono ?_); rintro e W1 ⟨rfl, hb1⟩; have HB1 := hid (((Below.refl w.heap.size w).alloc (Nat.le_refl _) (.cells #[.int .i64 1, .int .i64 n, .string u, .slice none 0 0] 50)).trans (hb1.mono (by simp))); have hblk := (Blk.new (w := w) (t := 50) (cs := #[.int .i64 1, .int .i64 n, .string u, .slice none 0 0]) (k := w.heap.size) (by simp)).below hb1 (by simp); have r1 := hblk.frozen; have r2 := hblk.cell; clear hb1)
 go_loopw [4, 16] (fun n i wr => n = .int .i64 1 /\ i = .int .i64 0 /\ wr = W1) (fun _ _ _ => 0)
 case atStart => exact ⟨rfl, rfl, rfl⟩
 case round =>
  obtain ⟨rfl, rfl, rfl⟩ := hrel
  go_wp2
  go_ret2
  exact ⟨rfl, HB1.out⟩
theorem value_leaf (n : Int) (h0 : -9223372036854775808 <= n) (h9 : n <= 9223372036854775807) (u : ByteArray) (hu : isUnit u) (k : Sc) (w : World) :
  Calls Tryz.prog 38 #[.agg #[.int .i64 1, .int .i64 n, .string u, .slice none 0 0], .agg #[.int .i64 k.em, .int .i64 k.rem, .int .i64 k.vw, .int .i64 k.vh]] w (rt w (resV (numP u n k))) := by
 have cN := hid (fun w => number_ct u hu n h0 h9 k w)
 obtain ⟨a, b, c, hr⟩ : ∃ a b c, resV (numP u n k) = .tuple #[.agg #[.int .i64 a, .int .i64 b], .int .i64 c] := by
  cases hn : numP u n k
  ·exact ⟨_, _, _, rfl⟩
  ·exact ⟨_, _, _, rfl⟩
 rw [hr] at cN ⊢
 clear h0 h9 hu hr
 obtain ⟨em, rem, vw, vh⟩ := k
 go_enter Tryz.func38, Tryz.ntmps38
 go_wp2_with (go_at_call 65; (with_reducible refine (cN.out _).mono ?_); rintro e W1 ⟨rfl, hb1⟩; have HB1 := hid ((((((Below.refl w.heap.size w).alloc (Nat.le_refl _) (.cells #[.int .i64 1, .int .i64 n, .string u, .slice none 0 0] 50)).alloc (by simp) (.cells #[.int .i64 em, .int .i64 rem, .int .i64 vw, .int .i64 vh] 42)).alloc (by simp; omega) (.cells #[.int .i64 0, .int .i64 0] 38))).trans (hb1.mono (by simp; omega))); have hblk := (Blk.new (w := (w.alloc (.cells #[.int .i64 1, .int .i64 n, .string u, .slice none 0 0] 50)).alloc (.cells #[.int .i64 em, .int .i64 rem, .int .i64 vw, .int .i64 vh] 42)) (t := 38) (cs := #[.int .i64 0, .int .i64 0]) (k := w.heap.size + 1 + 1) (by simp)).below hb1 (by simp); have r1 := hblk.frozen; have r2 := hblk.cell; clear hb1)
 have e := ((hblk.put 0 (.int .i64 a)).put 1 (.int .i64 b)).cell
 refine bodyPost_ret (v := .tuple #[.agg #[.int .i64 a, .int .i64 b], .int .i64 c]) (by simp [results, Tryz.results38, go_sem, e]) rfl ⟨rfl, ?_⟩
 exact (HB1.out.setCell (by simp; omega) _).setCell (by simp; omega) _
end cal
namespace cal
open Go.RowKit base tok dim
end cal
namespace cal
open Go.RowKit base tok dim
end cal
end Go.Proofs.YtlfkkaofgcongaaGreatDoor
