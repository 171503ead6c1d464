/- Contracts and plain law, a bundle: Cal0 Cal1 Cal2 Cal3 Cal4 Cal5 Cal6 Cal7 Cal8. -/
import Derived.Deep.RegionHeld3
import Derived.Test.YtaihncbejhnceaaGreatDoorBC

namespace Go.Proofs.YtaihncbejhnceaaGreatDoor.cal
open Go.RowKit Go.Proofs.YtaihncbejhnceaaGreatDoor.base Go.Proofs.YtaihncbejhnceaaGreatDoor.tok Go.Proofs.YtaihncbejhnceaaGreatDoor.dim
set_option linter.unusedVariables false

theorem cut_ct (n : Int) (w : World) :
    Calls Tryz.prog 40 #[.int .i64 n] w fun e w' => e = .returned (.int .i64 (clipI n)) ∧ w = w' := by
  go_enter Tryz.func40, Tryz.ntmps40
  go_wp2
  go_ret
  refine ⟨ret_int ?_, rfl⟩
  unfold clipI
  omega

theorem quo_by (a d : Int) (hd : 0 < d) : a / d = if a.tmod d < 0 then a.tdiv d - 1 else a.tdiv d := by
  have h1 := Int.mul_tdiv_add_tmod a d
  have h5 := Int.tmod_lt_of_pos a hd
  have h6 := Int.lt_tmod_of_pos a hd
  split
  · rename_i h
    have e : a = (a.tmod d + d) + d * (a.tdiv d - 1) := by rw [Int.mul_sub, Int.mul_one]; omega
    conv => lhs; rw [e]
    rw [Int.add_mul_ediv_left _ _ (by omega), Int.ediv_eq_zero_of_lt (by omega) (by omega)]
    omega
  · conv => lhs; rw [← h1, Int.add_comm]
    rw [Int.add_mul_ediv_left _ _ (by omega), Int.ediv_eq_zero_of_lt (by omega) (by omega)]
    omega

set_option maxHeartbeats 1000000 in
theorem down10_ct (a : Int) (h0 : -9223372036854775808 ≤ a) (h9 : a ≤ 9223372036854775807) (w : World) :
    Calls Tryz.prog 41 #[.int .i64 a, .int .i64 10] w fun e w' => e = .returned (.int .i64 (a / 10)) ∧ w = w' := by
  have hq := quo_by a 10 (by decide)
  have h1 := Int.mul_tdiv_add_tmod a 10
  have h5 := Int.tmod_lt_of_pos a (show (0 : Int) < 10 by decide)
  have h6 := Int.lt_tmod_of_pos a (show (0 : Int) < 10 by decide)
  have hs : a < 0 ∨ 0 ≤ a.tmod 10 := by
    by_cases h : a < 0
    · exact .inl h
    · exact .inr (Int.tmod_nonneg _ (by omega))
  have hs2 : 0 ≤ a ∨ a.tmod 10 ≤ 0 := by
    by_cases h : 0 ≤ a
    · exact .inl h
    · exact .inr (by have := Int.tmod_nonneg 10 (a := -a) (by omega); rw [Int.neg_tmod] at this; omega)
  have r1 := IntWalk.i64_in (a.tdiv 10) (by omega)
  have r2 := IntWalk.i64_in (a.tdiv 10 - 1) (by omega)
  by_cases hz : a.tmod 10 < 0
  · rw [if_pos hz] at hq
    have d1 : (a.tmod 10 == 0) = false := by rw [beq_eq_false_iff_ne]; omega
    have d2 : (a.tmod 10 != 0) = true := by rw [bne, d1]; rfl
    have d3 : a < 0 := by omega
    replace hq := Lib.hid hq
    clear h1 h5 h6 hs hs2
    go_enter Tryz.func41, Tryz.ntmps41
    go_wp2
    all_goals (go_ret; exact ⟨ret_int hq.out.symm, rfl⟩)
  · rw [if_neg hz] at hq
    by_cases h00 : a.tmod 10 = 0
    · replace hq := Lib.hid hq
      clear h1 h5 h6 hs hs2
      go_enter Tryz.func41, Tryz.ntmps41
      go_wp2
      all_goals (go_ret; exact ⟨ret_int hq.out.symm, rfl⟩)
    · have d1 : (a.tmod 10 == 0) = false := by rw [beq_eq_false_iff_ne]; exact h00
      have d2 : (a.tmod 10 != 0) = true := by rw [bne, d1]; rfl
      have d3 : ¬ a < 0 := by omega
      replace hq := Lib.hid hq
      clear h1 h5 h6 hs hs2
      go_enter Tryz.func41, Tryz.ntmps41
      go_wp2
      all_goals (go_ret; exact ⟨ret_int hq.out.symm, rfl⟩)

set_option maxHeartbeats 1000000 in
theorem downK_ct (a : Int) (h0 : -4611686018427387904 ≤ a) (h9 : a ≤ 4611686018427387904) (w : World) :
    Calls Tryz.prog 41 #[.int .i64 a, .int .i64 1000] w fun e w' => e = .returned (.int .i64 (a / 1000)) ∧ w = w' := by
  have hq := quo_by a 1000 (by decide)
  have h1 := Int.mul_tdiv_add_tmod a 1000
  have h5 := Int.tmod_lt_of_pos a (show (0 : Int) < 1000 by decide)
  have h6 := Int.lt_tmod_of_pos a (show (0 : Int) < 1000 by decide)
  have hs2 : 0 ≤ a ∨ a.tmod 1000 ≤ 0 := by
    by_cases h : 0 ≤ a
    · exact .inl h
    · exact .inr (by have := Int.tmod_nonneg 1000 (a := -a) (by omega); rw [Int.neg_tmod] at this; omega)
  have r1 := IntWalk.i64_in (a.tdiv 1000) (by omega)
  have r2 := IntWalk.i64_in (a.tdiv 1000 - 1) (by omega)
  by_cases hz : a.tmod 1000 < 0
  · rw [if_pos hz] at hq
    have d1 : (a.tmod 1000 == 0) = false := by rw [beq_eq_false_iff_ne]; omega
    have d2 : (a.tmod 1000 != 0) = true := by rw [bne, d1]; rfl
    have d3 : a < 0 := by
      by_cases h : a < 0
      · exact h
      · have := Int.tmod_nonneg 1000 (a := a) (by omega)
        omega
    replace hq := Lib.hid hq
    clear h1 h5 h6 hs2
    go_enter Tryz.func41, Tryz.ntmps41
    go_wp2
    all_goals (go_ret; exact ⟨ret_int hq.out.symm, rfl⟩)
  · rw [if_neg hz] at hq
    by_cases h00 : a.tmod 1000 = 0
    · replace hq := Lib.hid hq
      clear h1 h5 h6 hs2
      go_enter Tryz.func41, Tryz.ntmps41
      go_wp2
      all_goals (go_ret; exact ⟨ret_int hq.out.symm, rfl⟩)
    · have d1 : (a.tmod 1000 == 0) = false := by rw [beq_eq_false_iff_ne]; exact h00
      have d2 : (a.tmod 1000 != 0) = true := by rw [bne, d1]; rfl
      have d3 : ¬ a < 0 := by omega
      replace hq := Lib.hid hq
      clear h1 h5 h6 hs2
      go_enter Tryz.func41, Tryz.ntmps41
      go_wp2
      all_goals (go_ret; exact ⟨ret_int hq.out.symm, rfl⟩)

/-- a scale -/
structure Sc where
  (em rem vw vh : Int)
def Sc.v (k : Sc) : Value := .agg #[.int .i64 k.em, .int .i64 k.rem, .int .i64 k.vw, .int .i64 k.vh]
/-- what a number of a unit is worth -/
def numP (u : ByteArray) (n : Int) (k : Sc) : Option (Int × Int) :=
  if u = .empty then some (4, clipI n)
  else if u = ⟨#[37]⟩ then some (3, clipI (n / 10))
  else if okP n k.em k.rem k.vw k.vh then
    some (2, if u = ⟨#[112, 120]⟩ then clipI (n * 64 / 1000) else if u = ⟨#[101, 109]⟩ then clipI (n * k.em / 1000) else if u = ⟨#[114, 101, 109]⟩ then clipI (n * k.rem / 1000)
      else if u = ⟨#[118, 119]⟩ then clipI (n * (64 * k.vw) / 100000) else clipI (n * (64 * k.vh) / 100000))
  else none
def resV : Option (Int × Int) → Value
  | none => .tuple #[.agg #[.int .i64 0, .int .i64 0], .int .i64 1]
  | some (k, n) => .tuple #[.agg #[.int .i64 k, .int .i64 n], .int .i64 0]
theorem clip_bd (x : Int) : -16777216 ≤ clipI x ∧ clipI x ≤ 16777216 := by unfold clipI; omega
theorem clip_id {x : Int} (h0 : -16777216 ≤ x) (h1 : x ≤ 16777216) : clipI x = x := by unfold clipI; omega
theorem numP_bd {u : ByteArray} {n : Int} {k : Sc} {r : Int × Int} (h : numP u n k = some r) : -16777216 ≤ r.2 ∧ r.2 ≤ 16777216 := by
  unfold numP at h
  repeat' split at h
  all_goals first | (obtain rfl := Option.some.inj h; exact clip_bd _) | cases h

end Go.Proofs.YtaihncbejhnceaaGreatDoor.cal

namespace Go.Proofs.YtaihncbejhnceaaGreatDoor.cal
open Go.RowKit Go.Proofs.YtaihncbejhnceaaGreatDoor.base Go.Proofs.YtaihncbejhnceaaGreatDoor.tok Go.Proofs.YtaihncbejhnceaaGreatDoor.dim
set_option linter.unusedVariables false

/-- the units that a law names -/
def isUnit (u : ByteArray) : Prop := u = .empty ∨ u = ⟨#[112, 120]⟩ ∨ u = ⟨#[101, 109]⟩ ∨ u = ⟨#[114, 101, 109]⟩ ∨ u = ⟨#[118, 119]⟩ ∨ u = ⟨#[118, 104]⟩ ∨ u = ⟨#[37]⟩

/-- Px where a unit of length is meant -/
theorem px_any (u : ByteArray) (hu : u = ⟨#[112, 120]⟩ ∨ u = ⟨#[101, 109]⟩ ∨ u = ⟨#[114, 101, 109]⟩ ∨ u = ⟨#[118, 119]⟩ ∨ u = ⟨#[118, 104]⟩) (n : Int) (k : Sc) :
    (numP u n k = none ∧ ∀ w, Calls Tryz.prog 42 #[.agg #[.int .i64 n, .string u], .agg #[.int .i64 k.em, .int .i64 k.rem, .int .i64 k.vw, .int .i64 k.vh]] w fun e w' => e = .returned (.tuple #[.int .i64 0, .int .i64 1]) ∧ Below w.heap.size w w') ∨
    ∃ x, numP u n k = some (2, x) ∧ ∀ w, Calls Tryz.prog 42 #[.agg #[.int .i64 n, .string u], .agg #[.int .i64 k.em, .int .i64 k.rem, .int .i64 k.vw, .int .i64 k.vh]] w fun e w' => e = .returned (.tuple #[.int .i64 x, .int .i64 0]) ∧ Below w.heap.size w w' := by
  cases hk : okP n k.em k.rem k.vw k.vh
  · refine .inl ⟨?_, fun w => px_bad u n k.em k.rem k.vw k.vh hk w⟩
    rcases hu with rfl | rfl | rfl | rfl | rfl <;> simp [numP, hk] <;> decide
  · rcases hu with rfl | rfl | rfl | rfl | rfl
    · exact .inr ⟨_, by simp [numP, hk]; decide, fun w => px_px n _ _ _ _ hk w⟩
    · exact .inr ⟨_, by simp [numP, hk]; decide, fun w => px_em n _ _ _ _ hk w⟩
    · exact .inr ⟨_, by simp [numP, hk]; decide, fun w => px_rem n _ _ _ _ hk w⟩
    · exact .inr ⟨_, by simp [numP, hk]; decide, fun w => px_vw n _ _ _ _ hk w⟩
    · exact .inr ⟨_, by simp [numP, hk]; decide, fun w => px_vh n _ _ _ _ hk w⟩

set_option maxRecDepth 100000 in
set_option maxHeartbeats 4000000 in
theorem number_plain (n : Int) (k : Sc) (w : World) :
    Calls Tryz.prog 24 #[.agg #[.int .i64 n, .string .empty], .agg #[.int .i64 k.em, .int .i64 k.rem, .int .i64 k.vw, .int .i64 k.vh]] w fun e w' => e = .returned (.tuple #[.agg #[.int .i64 4, .int .i64 (clipI n)], .int .i64 0]) ∧ Below w.heap.size w w' := by
  have cC := Lib.hid (cut_ct n)
  generalize clipI n = x at *
  obtain ⟨em, rem, vw, vh⟩ := k
  go_enter Tryz.func24, Tryz.ntmps24
  go_wp2_with (go_at_call 40; (with_reducible refine (cC.out _).mono ?_); rintro e W1 ⟨rfl, rfl⟩)
  refine bodyPost_ret (v := .tuple #[.agg #[.int .i64 4, .int .i64 x], .int .i64 0]) (by simp [results, Tryz.results24, go_sem]) rfl ⟨rfl, ?_⟩
  exact (((Below.refl w.heap.size w).alloc (Nat.le_refl _) _).alloc (by simp) _).alloc (by simp; omega) _

set_option maxRecDepth 100000 in
set_option maxHeartbeats 4000000 in
theorem number_pct (n : Int) (h0 : -9223372036854775808 ≤ n) (h9 : n ≤ 9223372036854775807) (k : Sc) (w : World) :
    Calls Tryz.prog 24 #[.agg #[.int .i64 n, .string ⟨#[37]⟩], .agg #[.int .i64 k.em, .int .i64 k.rem, .int .i64 k.vw, .int .i64 k.vh]] w fun e w' => e = .returned (.tuple #[.agg #[.int .i64 3, .int .i64 (clipI (n / 10))], .int .i64 0]) ∧ Below w.heap.size w w' := by
  have cD := Lib.hid (down10_ct n h0 h9)
  have cC := Lib.hid (cut_ct (n / 10))
  generalize clipI (n / 10) = x at *
  generalize n / 10 = y at *
  clear h0 h9
  obtain ⟨em, rem, vw, vh⟩ := k
  go_enter Tryz.func24, Tryz.ntmps24
  go_wp2_with (first
    | (go_at_call 41; (with_reducible refine (cD.out _).mono ?_); rintro e W1 ⟨rfl, rfl⟩)
    | (go_at_call 40; (with_reducible refine (cC.out _).mono ?_); rintro e W1 ⟨rfl, rfl⟩))
  refine bodyPost_ret (v := .tuple #[.agg #[.int .i64 3, .int .i64 x], .int .i64 0]) (by simp [results, Tryz.results24, go_sem]) rfl ⟨rfl, ?_⟩
  exact (((Below.refl w.heap.size w).alloc (Nat.le_refl _) _).alloc (by simp) _).alloc (by simp; omega) _

set_option maxRecDepth 100000 in
set_option maxHeartbeats 4000000 in
theorem number_len (u : ByteArray) (hu : u = ⟨#[112, 120]⟩ ∨ u = ⟨#[101, 109]⟩ ∨ u = ⟨#[114, 101, 109]⟩ ∨ u = ⟨#[118, 119]⟩ ∨ u = ⟨#[118, 104]⟩) (n : Int) (k : Sc) (w : World) :
    Calls Tryz.prog 24 #[.agg #[.int .i64 n, .string u], .agg #[.int .i64 k.em, .int .i64 k.rem, .int .i64 k.vw, .int .i64 k.vh]] w fun e w' => e = .returned (resV (numP u n k)) ∧ Below w.heap.size w w' := by
  have n1 : (u.toList == []) = false := by rcases hu with rfl | rfl | rfl | rfl | rfl <;> (rw [Lib.toList_data]; rfl)
  have n2 : (u.toList == [37]) = false := by rcases hu with rfl | rfl | rfl | rfl | rfl <;> (rw [Lib.toList_data]; rfl)
  have n3 : u.toList.isEmpty = false := by rcases hu with rfl | rfl | rfl | rfl | rfl <;> (rw [Lib.toList_data]; rfl)
  rcases px_any u hu n k with ⟨hp, cP⟩ | ⟨x, hp, cP⟩
  · rw [hp]
    replace cP := Lib.hid cP
    clear hp hu
    obtain ⟨em, rem, vw, vh⟩ := k
    go_enter Tryz.func24, Tryz.ntmps24
    go_wp2_with (go_at_call 42; (with_reducible refine (cP.out _).mono ?_); rintro e W1 ⟨rfl, hb1⟩; have HB1 := Lib.hid ((((((Below.refl w.heap.size w).alloc (Nat.le_refl _) (.cells #[.int .i64 n, .string u] 26)).alloc (by simp) (.cells #[.int .i64 em, .int .i64 rem, .int .i64 vw, .int .i64 vh] 23)).alloc (by simp; omega) (.cells #[.int .i64 0, .int .i64 0] 33))).trans (hb1.mono (by simp; omega))); have hblk := (Blk.new (w := (w.alloc (.cells #[.int .i64 n, .string u] 26)).alloc (.cells #[.int .i64 em, .int .i64 rem, .int .i64 vw, .int .i64 vh] 23)) (t := 33) (cs := #[.int .i64 0, .int .i64 0]) (k := w.heap.size + 1 + 1) (by simp)).below hb1 (by simp); have r1 := hblk.frozen; have r2 := hblk.cell; clear hb1)
    have e := ((hblk.put 0 (.int .i64 0)).put 1 (.int .i64 0)).cell
    refine bodyPost_ret (v := .tuple #[.agg #[.int .i64 0, .int .i64 0], .int .i64 1]) (by simp [results, Tryz.results24, go_sem, e]) rfl ⟨rfl, ?_⟩
    exact (HB1.out.setCell (by simp; omega) _).setCell (by simp; omega) _
  · rw [hp]
    replace cP := Lib.hid cP
    clear hp hu
    obtain ⟨em, rem, vw, vh⟩ := k
    go_enter Tryz.func24, Tryz.ntmps24
    go_wp2_with (go_at_call 42; (with_reducible refine (cP.out _).mono ?_); rintro e W1 ⟨rfl, hb1⟩; have HB1 := Lib.hid ((((((Below.refl w.heap.size w).alloc (Nat.le_refl _) (.cells #[.int .i64 n, .string u] 26)).alloc (by simp) (.cells #[.int .i64 em, .int .i64 rem, .int .i64 vw, .int .i64 vh] 23)).alloc (by simp; omega) (.cells #[.int .i64 0, .int .i64 0] 33))).trans (hb1.mono (by simp; omega))); have hblk := (Blk.new (w := (w.alloc (.cells #[.int .i64 n, .string u] 26)).alloc (.cells #[.int .i64 em, .int .i64 rem, .int .i64 vw, .int .i64 vh] 23)) (t := 33) (cs := #[.int .i64 0, .int .i64 0]) (k := w.heap.size + 1 + 1) (by simp)).below hb1 (by simp); have r1 := hblk.frozen; have r2 := hblk.cell; clear hb1)
    have e := ((hblk.put 0 (.int .i64 2)).put 1 (.int .i64 x)).cell
    refine bodyPost_ret (v := .tuple #[.agg #[.int .i64 2, .int .i64 x], .int .i64 0]) (by simp [results, Tryz.results24, go_sem, e]) rfl ⟨rfl, ?_⟩
    exact (HB1.out.setCell (by simp; omega) _).setCell (by simp; omega) _

theorem number_ct (u : ByteArray) (hu : isUnit u) (n : Int) (h0 : -9223372036854775808 ≤ n) (h9 : n ≤ 9223372036854775807) (k : Sc) (w : World) :
    Calls Tryz.prog 24 #[.agg #[.int .i64 n, .string u], .agg #[.int .i64 k.em, .int .i64 k.rem, .int .i64 k.vw, .int .i64 k.vh]] w fun e w' => e = .returned (resV (numP u n k)) ∧ Below w.heap.size w w' := by
  rcases hu with rfl | hu
  · exact number_plain n k w
  · by_cases hp : u = ⟨#[37]⟩
    · subst hp
      exact number_pct n h0 h9 k w
    · exact number_len u (by rcases hu with h | h | h | h | h | h <;> first | exact absurd h hp | simp [h]) n k w

end Go.Proofs.YtaihncbejhnceaaGreatDoor.cal

namespace Go.Proofs.YtaihncbejhnceaaGreatDoor.cal
open Go.RowKit Go.Proofs.YtaihncbejhnceaaGreatDoor.base Go.Proofs.YtaihncbejhnceaaGreatDoor.tok Go.Proofs.YtaihncbejhnceaaGreatDoor.dim
set_option linter.unusedVariables false

set_option maxRecDepth 100000 in
set_option maxHeartbeats 4000000 in
theorem shaped_ct (k n : Int) (u : ByteArray) (A : Option Addr) (m cap : Nat) (h : (k = 1 ∧ m = 0) ∨ ((k = 2 ∨ k = 3 ∨ k = 4 ∨ k = 6 ∨ k = 7) ∧ m = 2) ∨ (k = 8 ∧ m = 3)) (w : World) :
    Calls Tryz.prog 19 #[.agg #[.int .i64 k, .int .i64 n, .string u, .slice A m cap]] w fun e w' => e = .returned (.bool true) ∧ Below w.heap.size w w' := by
  rcases h with ⟨rfl, rfl⟩ | ⟨rfl | rfl | rfl | rfl | rfl, rfl⟩ | ⟨rfl, rfl⟩
  all_goals
    go_enter Tryz.func19, Tryz.ntmps19
    go_wp2
    go_ret
    exact ⟨rfl, (Below.refl w.heap.size w).alloc (Nat.le_refl _) _⟩

set_option maxRecDepth 100000 in
set_option maxHeartbeats 4000000 in
theorem count_leaf (n : Int) (u : ByteArray) (w : World) :
    Calls Tryz.prog 12 #[.agg #[.int .i64 1, .int .i64 n, .string u, .slice none 0 0]] w fun e w' => e = .returned (.tuple #[.int .i64 1, .bool true]) ∧ Below w.heap.size w w' := by
  have cS := Lib.hid (fun w => shaped_ct 1 n u none 0 0 (.inl ⟨rfl, rfl⟩) w)
  go_enter Tryz.func12, Tryz.ntmps12
  go_wp2_with (go_at_call 19; (with_reducible refine (cS.out _).mono ?_); rintro e W1 ⟨rfl, hb1⟩; have HB1 := Lib.hid (((Below.refl w.heap.size w).alloc (Nat.le_refl _) (.cells #[.int .i64 1, .int .i64 n, .string u, .slice none 0 0] 29)).trans (hb1.mono (by simp))); have hblk := (Blk.new (w := w) (t := 29) (cs := #[.int .i64 1, .int .i64 n, .string u, .slice none 0 0]) (k := w.heap.size) (by simp)).below hb1 (by simp); have r1 := hblk.frozen; have r2 := hblk.cell; clear hb1)
  go_loopw [4, 16] (fun n i wr => n = .int .i64 1 ∧ i = .int .i64 0 ∧ wr = W1) (fun _ _ _ => 0)
  case atStart => exact ⟨rfl, rfl, rfl⟩
  case round =>
    obtain ⟨rfl, rfl, rfl⟩ := hrel
    go_wp2
    go_ret2
    exact ⟨rfl, HB1.out⟩

set_option maxRecDepth 100000 in
set_option maxHeartbeats 4000000 in
theorem value_leaf (n : Int) (h0 : -9223372036854775808 ≤ n) (h9 : n ≤ 9223372036854775807) (u : ByteArray) (hu : isUnit u) (k : Sc) (w : World) :
    Calls Tryz.prog 13 #[.agg #[.int .i64 1, .int .i64 n, .string u, .slice none 0 0], .agg #[.int .i64 k.em, .int .i64 k.rem, .int .i64 k.vw, .int .i64 k.vh]] w fun e w' => e = .returned (resV (numP u n k)) ∧ Below w.heap.size w w' := by
  have cN := Lib.hid (fun w => number_ct u hu n h0 h9 k w)
  obtain ⟨a, b, c, hr⟩ : ∃ a b c, resV (numP u n k) = .tuple #[.agg #[.int .i64 a, .int .i64 b], .int .i64 c] := by
    cases hn : numP u n k
    · exact ⟨_, _, _, rfl⟩
    · exact ⟨_, _, _, rfl⟩
  rw [hr] at cN ⊢
  clear h0 h9 hu hr
  obtain ⟨em, rem, vw, vh⟩ := k
  go_enter Tryz.func13, Tryz.ntmps13
  go_wp2_with (go_at_call 24; (with_reducible refine (cN.out _).mono ?_); rintro e W1 ⟨rfl, hb1⟩; have HB1 := Lib.hid ((((((Below.refl w.heap.size w).alloc (Nat.le_refl _) (.cells #[.int .i64 1, .int .i64 n, .string u, .slice none 0 0] 29)).alloc (by simp) (.cells #[.int .i64 em, .int .i64 rem, .int .i64 vw, .int .i64 vh] 23)).alloc (by simp; omega) (.cells #[.int .i64 0, .int .i64 0] 33))).trans (hb1.mono (by simp; omega))); have hblk := (Blk.new (w := (w.alloc (.cells #[.int .i64 1, .int .i64 n, .string u, .slice none 0 0] 29)).alloc (.cells #[.int .i64 em, .int .i64 rem, .int .i64 vw, .int .i64 vh] 23)) (t := 33) (cs := #[.int .i64 0, .int .i64 0]) (k := w.heap.size + 1 + 1) (by simp)).below hb1 (by simp); have r1 := hblk.frozen; have r2 := hblk.cell; clear hb1)
  have e := ((hblk.put 0 (.int .i64 a)).put 1 (.int .i64 b)).cell
  refine bodyPost_ret (v := .tuple #[.agg #[.int .i64 a, .int .i64 b], .int .i64 c]) (by simp [results, Tryz.results13, go_sem, e]) rfl ⟨rfl, ?_⟩
  exact (HB1.out.setCell (by simp; omega) _).setCell (by simp; omega) _

end Go.Proofs.YtaihncbejhnceaaGreatDoor.cal

namespace Go.Proofs.YtaihncbejhnceaaGreatDoor.cal
open Go.RowKit Go.Proofs.YtaihncbejhnceaaGreatDoor.base Go.Proofs.YtaihncbejhnceaaGreatDoor.tok Go.Proofs.YtaihncbejhnceaaGreatDoor.dim
set_option linter.unusedVariables false

set_option maxRecDepth 100000 in
set_option maxHeartbeats 4000000 in
theorem times_r (k x : Int) (hx : -16777216 ≤ x ∧ x ≤ 16777216) (w : World) :
    Calls Tryz.prog 25 #[.agg #[.int .i64 k, .int .i64 x], .agg #[.int .i64 4, .int .i64 3000]] w fun e w' => e = .returned (.tuple #[.agg #[.int .i64 k, .int .i64 (clipI (x * 3000 / 1000))], .int .i64 0]) ∧ Below w.heap.size w w' := by
  have r1 := IntWalk.i64_in (x * 3000) (by omega)
  have cD := Lib.hid (downK_ct (x * 3000) (by omega) (by omega))
  have cC := Lib.hid (cut_ct (x * 3000 / 1000))
  generalize clipI (x * 3000 / 1000) = R at *
  generalize hD : x * 3000 / 1000 = D at *
  replace hD := Lib.hid hD
  go_enter Tryz.func25, Tryz.ntmps25
  go_wp2_with fail
  generalize hW0 : ((w.alloc (.cells #[.int .i64 k, .int .i64 x] 33)).alloc (.cells #[.int .i64 4, .int .i64 3000] 33)).alloc (.cells #[.int .i64 0, .int .i64 0] 33) = W0
  have HB0 := Lib.hid (show Below w.heap.size w W0 by subst hW0; exact (((Below.refl _ _).alloc (Nat.le_refl _) _).alloc (by simp) _).alloc (by simp; omega) _)
  have HZ : w.heap.size + 3 ≤ W0.heap.size := by subst hW0; simp
  have b0 := Lib.hid (show Blk W0 w.heap.size 33 #[.int .i64 k, .int .i64 x] by subst hW0; exact ((Blk.new rfl).alloc _).alloc _)
  have b1 := Lib.hid (show Blk W0 (w.heap.size + 1) 33 #[.int .i64 4, .int .i64 3000] by subst hW0; exact (Blk.new (by simp)).alloc _)
  have b2 := Lib.hid (show Blk W0 (w.heap.size + 1 + 1) 33 #[.int .i64 0, .int .i64 0] by subst hW0; exact Blk.new (by simp))
  have c0 := b0.out.cell
  have c1 := b1.out.cell
  have c2 := b2.out.cell
  have f2 := b2.out.frozen
  clear hW0
  go_region_held3 (fun w' => (∀ b o, b < w.heap.size + 2 → w'.cell? ⟨b, o, none⟩ = W0.cell? ⟨b, o, none⟩) ∧ Below (w.heap.size + 2) W0 w')
    (first | exact As.beg | assumption | exact As.store (As.store (by assumption) (by dsimp only; omega)) (by dsimp only; omega) | exact As.store (As.store As.beg (by dsimp only; omega)) (by dsimp only; omega))
    (first
      | (go_at_call 41; (with_reducible refine (cD.out _).mono ?_); rintro e W1 ⟨rfl, rfl⟩)
      | (go_at_call 40; (with_reducible refine (cC.out _).mono ?_); rintro e W1 ⟨rfl, rfl⟩))
  all_goals
    rename_i hHeld
    clear hHeld
    have e := ((b2.out.put 0 (.int .i64 k)).put 1 (.int .i64 R)).drew.cell
    go_wp2
    refine bodyPost_ret (v := .tuple #[.agg #[.int .i64 k, .int .i64 R], .int .i64 0]) (by simp [results, Tryz.results25, go_sem, e]) rfl ⟨rfl, ?_⟩
    exact ((HB0.out.setCell (by simp; omega) _).setCell (by simp; omega) _).drew

set_option maxRecDepth 100000 in
set_option maxHeartbeats 4000000 in
theorem times_l (y : Int) (hy : -16777216 ≤ y ∧ y ≤ 16777216) (w : World) :
    Calls Tryz.prog 25 #[.agg #[.int .i64 4, .int .i64 3000], .agg #[.int .i64 4, .int .i64 y]] w fun e w' => e = .returned (.tuple #[.agg #[.int .i64 4, .int .i64 (clipI (3000 * y / 1000))], .int .i64 0]) ∧ Below w.heap.size w w' := by
  have r1 := IntWalk.i64_in (3000 * y) (by omega)
  have cD := Lib.hid (downK_ct (3000 * y) (by omega) (by omega))
  have cC := Lib.hid (cut_ct (3000 * y / 1000))
  generalize clipI (3000 * y / 1000) = R at *
  generalize hD : 3000 * y / 1000 = D at *
  replace hD := Lib.hid hD
  go_enter Tryz.func25, Tryz.ntmps25
  go_wp2_with fail
  generalize hW0 : ((w.alloc (.cells #[.int .i64 4, .int .i64 3000] 33)).alloc (.cells #[.int .i64 4, .int .i64 y] 33)).alloc (.cells #[.int .i64 0, .int .i64 0] 33) = W0
  have HB0 := Lib.hid (show Below w.heap.size w W0 by subst hW0; exact (((Below.refl _ _).alloc (Nat.le_refl _) _).alloc (by simp) _).alloc (by simp; omega) _)
  have HZ : w.heap.size + 3 ≤ W0.heap.size := by subst hW0; simp
  have b0 := Lib.hid (show Blk W0 w.heap.size 33 #[.int .i64 4, .int .i64 3000] by subst hW0; exact ((Blk.new rfl).alloc _).alloc _)
  have b1 := Lib.hid (show Blk W0 (w.heap.size + 1) 33 #[.int .i64 4, .int .i64 y] by subst hW0; exact (Blk.new (by simp)).alloc _)
  have b2 := Lib.hid (show Blk W0 (w.heap.size + 1 + 1) 33 #[.int .i64 0, .int .i64 0] by subst hW0; exact Blk.new (by simp))
  have c0 := b0.out.cell
  have c1 := b1.out.cell
  have c2 := b2.out.cell
  have f2 := b2.out.frozen
  clear hW0
  go_region_held3 (fun w' => (∀ b o, b < w.heap.size + 2 → w'.cell? ⟨b, o, none⟩ = W0.cell? ⟨b, o, none⟩) ∧ Below (w.heap.size + 2) W0 w')
    (first | exact As.beg | assumption | exact As.store (As.store (by assumption) (by dsimp only; omega)) (by dsimp only; omega) | exact As.store (As.store As.beg (by dsimp only; omega)) (by dsimp only; omega))
    (first
      | (go_at_call 41; (with_reducible refine (cD.out _).mono ?_); rintro e W1 ⟨rfl, rfl⟩)
      | (go_at_call 40; (with_reducible refine (cC.out _).mono ?_); rintro e W1 ⟨rfl, rfl⟩))
  all_goals
    rename_i hHeld
    clear hHeld
    have e := ((b2.out.put 0 (.int .i64 4)).put 1 (.int .i64 R)).drew.cell
    go_wp2
    refine bodyPost_ret (v := .tuple #[.agg #[.int .i64 4, .int .i64 R], .int .i64 0]) (by simp [results, Tryz.results25, go_sem, e]) rfl ⟨rfl, ?_⟩
    exact ((HB0.out.setCell (by simp; omega) _).setCell (by simp; omega) _).drew

set_option maxRecDepth 100000 in
set_option maxHeartbeats 4000000 in
theorem times_s (k y : Int) (hk : k ≠ 4) (hy : -16777216 ≤ y ∧ y ≤ 16777216) (w : World) :
    Calls Tryz.prog 25 #[.agg #[.int .i64 4, .int .i64 3000], .agg #[.int .i64 k, .int .i64 y]] w fun e w' => e = .returned (.tuple #[.agg #[.int .i64 k, .int .i64 (clipI (y * 3000 / 1000))], .int .i64 0]) ∧ Below w.heap.size w w' := by
  have r1 := IntWalk.i64_in (y * 3000) (by omega)
  have cD := Lib.hid (downK_ct (y * 3000) (by omega) (by omega))
  have cC := Lib.hid (cut_ct (y * 3000 / 1000))
  generalize clipI (y * 3000 / 1000) = R at *
  generalize hD : y * 3000 / 1000 = D at *
  replace hD := Lib.hid hD
  go_enter Tryz.func25, Tryz.ntmps25
  go_wp2_with fail
  generalize hW0 : ((w.alloc (.cells #[.int .i64 k, .int .i64 y] 33)).alloc (.cells #[.int .i64 4, .int .i64 3000] 33)).alloc (.cells #[.int .i64 0, .int .i64 0] 33) = W0
  have HB0 := Lib.hid (show Below w.heap.size w W0 by subst hW0; exact (((Below.refl _ _).alloc (Nat.le_refl _) _).alloc (by simp) _).alloc (by simp; omega) _)
  have HZ : w.heap.size + 3 ≤ W0.heap.size := by subst hW0; simp
  have b0 := Lib.hid (show Blk W0 w.heap.size 33 #[.int .i64 k, .int .i64 y] by subst hW0; exact ((Blk.new rfl).alloc _).alloc _)
  have b1 := Lib.hid (show Blk W0 (w.heap.size + 1) 33 #[.int .i64 4, .int .i64 3000] by subst hW0; exact (Blk.new (by simp)).alloc _)
  have b2 := Lib.hid (show Blk W0 (w.heap.size + 1 + 1) 33 #[.int .i64 0, .int .i64 0] by subst hW0; exact Blk.new (by simp))
  have c0 := b0.out.cell
  have c1 := b1.out.cell
  have c2 := b2.out.cell
  have f2 := b2.out.frozen
  clear hW0
  go_region_held3 (fun w' => (∀ b o, b < w.heap.size + 2 → w'.cell? ⟨b, o, none⟩ = W0.cell? ⟨b, o, none⟩) ∧ Below (w.heap.size + 2) W0 w')
    (first | exact As.beg | assumption | exact As.store (As.store (by assumption) (by dsimp only; omega)) (by dsimp only; omega) | exact As.store (As.store As.beg (by dsimp only; omega)) (by dsimp only; omega))
    (first
      | (go_at_call 41; (with_reducible refine (cD.out _).mono ?_); rintro e W1 ⟨rfl, rfl⟩)
      | (go_at_call 40; (with_reducible refine (cC.out _).mono ?_); rintro e W1 ⟨rfl, rfl⟩))
  all_goals
    rename_i hHeld
    clear hHeld
    have e := ((b2.out.put 0 (.int .i64 k)).put 1 (.int .i64 R)).drew.cell
    go_wp2
    refine bodyPost_ret (v := .tuple #[.agg #[.int .i64 k, .int .i64 R], .int .i64 0]) (by simp [results, Tryz.results25, go_sem, e]) rfl ⟨rfl, ?_⟩
    exact ((HB0.out.setCell (by simp; omega) _).setCell (by simp; omega) _).drew

end Go.Proofs.YtaihncbejhnceaaGreatDoor.cal

namespace Go.Proofs.YtaihncbejhnceaaGreatDoor.cal
open Go.RowKit Go.Proofs.YtaihncbejhnceaaGreatDoor.base Go.Proofs.YtaihncbejhnceaaGreatDoor.tok Go.Proofs.YtaihncbejhnceaaGreatDoor.dim
set_option linter.unusedVariables false

def opP (k x y : Int) : Int := if k = 2 then x + y else if k = 3 then x - y else if k = 6 then min x y else max x y

set_option maxRecDepth 100000 in
set_option maxHeartbeats 4000000 in
theorem alike_two (k c x y : Int) (hk : k = 2 ∨ k = 3 ∨ k = 6 ∨ k = 7) (hx : -16777216 ≤ x ∧ x ≤ 16777216) (hy : -16777216 ≤ y ∧ y ≤ 16777216) (b o cap : Nat) (hcap : 2 ≤ cap) (w : World) (hb : b < w.heap.size)
    (e0 : w.cell? ⟨b, o, none⟩ = some (.int .i64 c)) (e1 : w.cell? ⟨b, o + 1, none⟩ = some (.int .i64 x)) (e2 : w.cell? ⟨b, o + 2, none⟩ = some (.int .i64 c)) (e3 : w.cell? ⟨b, o + 2 + 1, none⟩ = some (.int .i64 y)) :
    Calls Tryz.prog 27 #[.int .i64 k, .slice (some ⟨b, o, none⟩) 2 cap] w fun e w' => e = .returned (.tuple #[.agg #[.int .i64 c, .int .i64 (clipI (opP k x y))], .int .i64 0]) ∧ Below w.heap.size w w' := by
  obtain ⟨z, hz⟩ : ∃ z, opP k x y = z := ⟨_, rfl⟩
  rw [hz]
  have hz2 : IntKind.i64.wrap z = z := by
    subst hz
    unfold opP
    exact IntWalk.i64_in _ (by repeat' split <;> omega)
  have cC := Lib.hid (fun w => cut_ct z w)
  generalize clipI z = R at *
  have hz3 : (k = 2 ∧ x + y = z) ∨ (k = 3 ∧ x - y = z) ∨ (k = 6 ∧ min x y = z) ∨ (k = 7 ∧ max x y = z) := by
    subst hz
    rcases hk with rfl | rfl | rfl | rfl
    · exact .inl ⟨rfl, rfl⟩
    · exact .inr (.inl ⟨rfl, rfl⟩)
    · exact .inr (.inr (.inl ⟨rfl, rfl⟩))
    · exact .inr (.inr (.inr ⟨rfl, rfl⟩))
  clear hz hk hx hy
  have HB0 := Lib.hid (show Below w.heap.size w ((w.alloc (.cells #[.int .i64 0, .int .i64 0] 33)).alloc (.cells #[.int .i64 c, .int .i64 x] 33)) from ((Below.refl _ _).alloc (Nat.le_refl _) _).alloc (by simp) _)
  have b1 := Lib.hid (show Blk ((w.alloc (.cells #[.int .i64 0, .int .i64 0] 33)).alloc (.cells #[.int .i64 c, .int .i64 x] 33)) (w.heap.size + 1) 33 #[.int .i64 c, .int .i64 x] from Blk.new (by simp))
  have b0 := Lib.hid (show Blk ((w.alloc (.cells #[.int .i64 0, .int .i64 0] 33)).alloc (.cells #[.int .i64 c, .int .i64 x] 33)) w.heap.size 33 #[.int .i64 0, .int .i64 0] from (Blk.new rfl).alloc _)
  rcases hz3 with ⟨rfl, hz3⟩ | ⟨rfl, hz3⟩ | ⟨rfl, hz3⟩ | ⟨rfl, hz3⟩
  all_goals
    go_enter Tryz.func27, Tryz.ntmps27
    go_wp2_with fail
    go_loopw [15] (fun i wr => ∃ j : Nat, (j = 0 ∨ j = 1) ∧ i = .int .i64 j ∧ Blk wr (w.heap.size + 1) 33 #[.int .i64 c, .int .i64 (if j = 0 then x else z)] ∧ Blk wr w.heap.size 33 #[.int .i64 0, .int .i64 0] ∧ Below w.heap.size w wr) (fun i _ => 1 - (intOf i).toNat)
    case atStart => exact ⟨0, .inl rfl, rfl, b1.out, b0.out, HB0.out⟩
    case round =>
      obtain ⟨j, hj, rfl, q1, q0, hbw⟩ := hrel
      have f0 := (hbw.cell (p := ⟨b, o, none⟩) hb).trans e0
      have f1 := (hbw.cell (p := ⟨b, o + 1, none⟩) hb).trans e1
      have f2 := (hbw.cell (p := ⟨b, o + 2, none⟩) hb).trans e2
      have f3 := (hbw.cell (p := ⟨b, o + 2 + 1, none⟩) hb).trans e3
      clear e0 e1 e2 e3
      have hlt1 := q1.lt
      rcases hj with rfl | rfl
      · rw [if_pos rfl] at q1
        have c1 := fun o => (q1.alloc o).cell
        have c2 := fun o => (q1.alloc o).frozen
        replace q1 := Lib.hid q1
        replace q0 := Lib.hid q0
        replace hbw := Lib.hid hbw
        go_wp2_with fail
        go_roundw
        case rel => exact ⟨1, .inr rfl, by go_num, (q1.out.put 1 _).alloc _, (q0.out.far (by dsimp only; omega) _).alloc _, (hbw.out.setCell (by simp) _).alloc (by simpa using hbw.out.size) _⟩
        case measure => simp [intOf]
      · rw [if_neg (by decide)] at q1
        have c1 := q1.cell
        have c2 := q1.frozen
        have c3 := q0.cell
        have c4 := q0.frozen
        have c5 := fun v => (q1.put 1 v).cell
        have c6 := fun v => (q0.far (p := ⟨w.heap.size + 1, 1, none⟩) (by dsimp only; omega) v).frozen
        have qz := q0.far (p := ⟨w.heap.size + 1, 1, none⟩) (by dsimp only; omega) (.int .i64 R)
        replace qz := Lib.hid qz
        replace hbw := Lib.hid hbw
        go_wp2_with (go_at_call 40; (with_reducible refine (cC.out _).mono ?_); rintro e W1 ⟨rfl, rfl⟩)
        have e := ((qz.out.put 0 (.int .i64 c)).put 1 (.int .i64 R)).cell
        refine bodyPost_ret (v := .tuple #[.agg #[.int .i64 c, .int .i64 R], .int .i64 0]) (by simp [results, Tryz.results27, go_sem, e]) rfl ⟨rfl, ?_⟩
        exact ((hbw.out.setCell (by simp) _).setCell (by simp) _).setCell (by simp) _

set_option maxRecDepth 100000 in
set_option maxHeartbeats 4000000 in
theorem alike_mid (c x y z : Int) (b o cap : Nat) (hcap : 3 ≤ cap) (w : World) (hb : b < w.heap.size)
    (e0 : w.cell? ⟨b, o, none⟩ = some (.int .i64 c)) (e1 : w.cell? ⟨b, o + 1, none⟩ = some (.int .i64 x)) (e2 : w.cell? ⟨b, o + 2, none⟩ = some (.int .i64 c)) (e3 : w.cell? ⟨b, o + 2 + 1, none⟩ = some (.int .i64 y)) (e4 : w.cell? ⟨b, o + 4, none⟩ = some (.int .i64 c)) (e5 : w.cell? ⟨b, o + 4 + 1, none⟩ = some (.int .i64 z)) :
    Calls Tryz.prog 27 #[.int .i64 8, .slice (some ⟨b, o, none⟩) 3 cap] w fun e w' => e = .returned (.tuple #[.agg #[.int .i64 c, .int .i64 (clipI (max x (min y z)))], .int .i64 0]) ∧ Below w.heap.size w w' := by
  have cC := Lib.hid (fun w => cut_ct (max x (min y z)) w)
  generalize clipI (max x (min y z)) = R at *
  obtain ⟨M, hM⟩ : ∃ M, min y z = M := ⟨_, rfl⟩
  rw [hM] at cC
  obtain ⟨N, hN⟩ : ∃ N, max x M = N := ⟨_, rfl⟩
  rw [hN] at cC
  have HB0 := Lib.hid (show Below w.heap.size w ((w.alloc (.cells #[.int .i64 0, .int .i64 0] 33)).alloc (.cells #[.int .i64 c, .int .i64 x] 33)) from ((Below.refl _ _).alloc (Nat.le_refl _) _).alloc (by simp) _)
  have b1 := Lib.hid (show Blk ((w.alloc (.cells #[.int .i64 0, .int .i64 0] 33)).alloc (.cells #[.int .i64 c, .int .i64 x] 33)) (w.heap.size + 1) 33 #[.int .i64 c, .int .i64 x] from Blk.new (by simp))
  have b0 := Lib.hid (show Blk ((w.alloc (.cells #[.int .i64 0, .int .i64 0] 33)).alloc (.cells #[.int .i64 c, .int .i64 x] 33)) w.heap.size 33 #[.int .i64 0, .int .i64 0] from (Blk.new rfl).alloc _)
  go_enter Tryz.func27, Tryz.ntmps27
  go_wp2_with fail
  go_loopw [15] (fun i wr => ∃ j : Nat, (j = 0 ∨ j = 1 ∨ j = 2) ∧ i = .int .i64 j ∧ Blk wr (w.heap.size + 1) 33 #[.int .i64 c, .int .i64 x] ∧ Blk wr w.heap.size 33 #[.int .i64 0, .int .i64 0] ∧ Below w.heap.size w wr) (fun i _ => 2 - (intOf i).toNat)
  case atStart => exact ⟨0, .inl rfl, rfl, b1.out, b0.out, HB0.out⟩
  case round =>
    obtain ⟨j, hj, rfl, q1, q0, hbw⟩ := hrel
    have f0 := (hbw.cell (p := ⟨b, o, none⟩) hb).trans e0
    have f1 := (hbw.cell (p := ⟨b, o + 1, none⟩) hb).trans e1
    have f2 := (hbw.cell (p := ⟨b, o + 2, none⟩) hb).trans e2
    have f3 := (hbw.cell (p := ⟨b, o + 2 + 1, none⟩) hb).trans e3
    have f4 := (hbw.cell (p := ⟨b, o + 4, none⟩) hb).trans e4
    have f5 := (hbw.cell (p := ⟨b, o + 4 + 1, none⟩) hb).trans e5
    have f4' : wr.cell? ⟨b, o + 2 + 2, none⟩ = some (.int .i64 c) := by rw [show o + 2 + 2 = o + 4 by omega]; exact f4
    have f5' : wr.cell? ⟨b, o + 2 + 2 + 1, none⟩ = some (.int .i64 z) := by rw [show o + 2 + 2 + 1 = o + 4 + 1 by omega]; exact f5
    clear e0 e1 e2 e3 e4 e5
    have hlt1 := q1.lt
    rcases hj with rfl | rfl | rfl
    · have c1 := fun o => (q1.alloc o).cell
      have c2 := fun o => (q1.alloc o).frozen
      replace q1 := Lib.hid q1
      replace q0 := Lib.hid q0
      replace hbw := Lib.hid hbw
      go_wp2_with fail
      go_roundw
      case rel => exact ⟨1, .inr (.inl rfl), by go_num, q1.out.alloc _, q0.out.alloc _, hbw.out.alloc hbw.out.size _⟩
      case measure => simp [intOf]
    · have c1 := fun o => (q1.alloc o).cell
      have c2 := fun o => (q1.alloc o).frozen
      replace q1 := Lib.hid q1
      replace q0 := Lib.hid q0
      replace hbw := Lib.hid hbw
      go_wp2_with fail
      go_roundw
      case rel => exact ⟨2, .inr (.inr rfl), by go_num, q1.out.alloc _, q0.out.alloc _, hbw.out.alloc hbw.out.size _⟩
      case measure => simp [intOf]
    · have c1 := q1.cell
      have c2 := q1.frozen
      have c3 := q0.cell
      have c4 := q0.frozen
      replace q1 := Lib.hid q1
      replace q0 := Lib.hid q0
      replace hbw := Lib.hid hbw
      go_wp2_with fail
      go_region
      have d1 := (q1.out.put 1 (.int .i64 N)).drew.cell
      have d2 := (q1.out.put 1 (.int .i64 N)).drew.frozen
      have d3 := fun v => ((q1.out.put 1 (.int .i64 N)).put 1 v).drew.cell
      have d4 := fun v => ((q0.out.far (p := ⟨w.heap.size + 1, 1, none⟩) (by dsimp only; omega) (.int .i64 N)).far (p := ⟨w.heap.size + 1, 1, none⟩) (by dsimp only; omega) v).drew.frozen
      have qx := Lib.hid (((q0.out.far (p := ⟨w.heap.size + 1, 1, none⟩) (by dsimp only; omega) (.int .i64 N)).far (p := ⟨w.heap.size + 1, 1, none⟩) (by dsimp only; omega) (.int .i64 R)))
      clear c1 c2
      go_wp2_with (go_at_call 40; (with_reducible refine (cC.out _).mono ?_); rintro e W1 ⟨rfl, rfl⟩)
      have e := ((qx.out.put 0 (.int .i64 c)).put 1 (.int .i64 R)).drew.cell
      refine bodyPost_ret (v := .tuple #[.agg #[.int .i64 c, .int .i64 R], .int .i64 0]) (by simp [results, Tryz.results27, go_sem, e]) rfl ⟨rfl, ?_⟩
      exact ((((hbw.out.setCell (by simp) _).setCell (by simp) _).setCell (by simp) _).setCell (by simp) _).drew

end Go.Proofs.YtaihncbejhnceaaGreatDoor.cal

namespace Go.Proofs.YtaihncbejhnceaaGreatDoor.cal
open Go.RowKit Go.Proofs.YtaihncbejhnceaaGreatDoor.base Go.Proofs.YtaihncbejhnceaaGreatDoor.tok Go.Proofs.YtaihncbejhnceaaGreatDoor.dim
set_option linter.unusedVariables false

/-- a term as it lies in four cells -/
structure Tm where
  (k n : Int) (u : ByteArray) (a : Option Addr) (l c : Nat)
def Tm.f (t : Tm) : List Value := [.int .i64 t.k, .int .i64 t.n, .string t.u, .slice t.a t.l t.c]
def Tm.v (t : Tm) : Value := .agg #[.int .i64 t.k, .int .i64 t.n, .string t.u, .slice t.a t.l t.c]
def leafT (n : Int) (u : ByteArray) : Tm := ⟨1, n, u, none, 0, 0⟩
/-- they lie in a row -/
def TmAt (w : World) (b o : Nat) (L : List Tm) : Prop := b < w.heap.size ∧ ∀ (i : Nat) (t : Tm), L[i]? = some t → w.cell? ⟨b, o + i * 4, none⟩ = some (.int .i64 t.k) ∧ w.cell? ⟨b, o + i * 4 + 1, none⟩ = some (.int .i64 t.n) ∧ w.cell? ⟨b, o + i * 4 + 2, none⟩ = some (.string t.u) ∧ w.cell? ⟨b, o + i * 4 + 3, none⟩ = some (.slice t.a t.l t.c)
theorem TmAt.on {w w' : World} {b o : Nat} {L : List Tm} (h : TmAt w b o L) (hb : Below w.heap.size w w') : TmAt w' b o L :=
  ⟨Nat.lt_of_lt_of_le h.1 hb.size, fun i t ht => ⟨(hb.cell (p := ⟨b, _, none⟩) h.1).trans (h.2 i t ht).1, (hb.cell (p := ⟨b, _, none⟩) h.1).trans (h.2 i t ht).2.1, (hb.cell (p := ⟨b, _, none⟩) h.1).trans (h.2 i t ht).2.2.1, (hb.cell (p := ⟨b, _, none⟩) h.1).trans (h.2 i t ht).2.2.2⟩⟩

def cntS (c : Nat → Nat) : Nat → Nat
  | 0 => 1
  | i + 1 => cntS c i + c i
theorem cntS_le (c : Nat → Nat) (hc : ∀ i, c i ≤ 9) : ∀ i, cntS c i ≤ 1 + 9 * i
  | 0 => by simp [cntS]
  | i + 1 => by have := cntS_le c hc i; have := hc i; simp only [cntS]; omega

set_option maxRecDepth 100000 in
set_option maxHeartbeats 4000000 in
theorem count_node (k n : Int) (u : ByteArray) (b o cap : Nat) (L : List Tm) (hs : ((k = 2 ∨ k = 3 ∨ k = 4 ∨ k = 6 ∨ k = 7) ∧ L.length = 2) ∨ (k = 8 ∧ L.length = 3)) (hcap : L.length ≤ cap) (w : World) (hL : TmAt w b o L) (c : Nat → Nat) (hc : ∀ i, c i ≤ 9)
    (hC : ∀ i t, L[i]? = some t → ∀ W, Below w.heap.size w W → Calls Tryz.prog 12 #[t.v] W fun e W' => e = .returned (.tuple #[.int .i64 (c i), .bool true]) ∧ Below W.heap.size W W') :
    Calls Tryz.prog 12 #[.agg #[.int .i64 k, .int .i64 n, .string u, .slice (some ⟨b, o, none⟩) L.length cap]] w fun e w' => e = .returned (.tuple #[.int .i64 (cntS c L.length), .bool true]) ∧ Below w.heap.size w w' := by
  obtain ⟨m, hm⟩ : ∃ m, L.length = m := ⟨_, rfl⟩
  have hsz := Lib.hid hm
  rw [hm] at hs hcap ⊢
  have cS := Lib.hid (fun w => shaped_ct k n u (some ⟨b, o, none⟩) m cap (.inr hs) w)
  have hl3 : m ≤ 3 := by omega
  clear hs hm
  replace hC := Lib.hid hC
  replace hL := Lib.hid hL
  have hsum := Lib.hid (cntS_le c hc)
  replace hc := Lib.hid hc
  go_enter Tryz.func12, Tryz.ntmps12
  go_wp2_with (go_at_call 19; (with_reducible refine (cS.out _).mono ?_); rintro e W1 ⟨rfl, hb1⟩; have HB1 := Lib.hid (((Below.refl w.heap.size w).alloc (Nat.le_refl _) (.cells #[.int .i64 k, .int .i64 n, .string u, .slice (some ⟨b, o, none⟩) m cap] 29)).trans (hb1.mono (by simp))); have hblk := (Blk.new (w := w) (t := 29) (cs := #[.int .i64 k, .int .i64 n, .string u, .slice (some ⟨b, o, none⟩) m cap]) (k := w.heap.size) (by simp)).below hb1 (by simp); have r1 := hblk.frozen; have r2 := hblk.cell; clear hb1)
  go_loopw [4, 16] (fun n i wr => ∃ j : Nat, j ≤ m ∧ n = .int .i64 (cntS c j) ∧ i = .int .i64 j ∧ Below w.heap.size w wr) (fun _ i _ => m - (intOf i).toNat)
  case atStart => exact ⟨0, by omega, rfl, rfl, HB1.out⟩
  case round =>
    obtain ⟨j, hj, rfl, rfl, hbw⟩ := hrel
    replace hbw := Lib.hid hbw
    have s0 := hsum.out j
    by_cases hlt : j < m
    · have hlt' : (j : Int) < (m : Int) := by omega
      obtain ⟨t, ht⟩ : ∃ t, L[j]? = some t := ⟨_, List.getElem?_eq_getElem (by rw [hsz.out]; exact hlt)⟩
      obtain ⟨g0, g1, g2, g3⟩ := (hL.out.on hbw.out).2 j t ht
      have cT := fun W h => hC.out j t ht W h
      obtain ⟨tk, tn, tu, ta, tl, tc⟩ := t
      unfold Tm.v at cT
      dsimp only at g0 g1 g2 g3 cT
      replace cT := Lib.hid cT
      have s1 := hc.out j
      have s2 := Lib.hid (show cntS c (j + 1) = cntS c j + c j from rfl)
      clear ht
      generalize cntS c j = sj at *
      generalize c j = cj at *
      have HBa := Lib.hid (hbw.out.alloc hbw.out.size (.cells #[.int .i64 tk, .int .i64 tn, .string tu, .slice ta tl tc] 29))
      go_wp2_with (go_at_call 12; (with_reducible refine (cT.out _ HBa.out).mono ?_); rintro e W2 ⟨rfl, hb2⟩; have HB2 := Lib.hid (HBa.out.trans (hb2.mono HBa.out.size)); clear hb2)
      go_roundw
      case rel => exact ⟨j + 1, by omega, by rw [s2.out]; go_num, by go_num, HB2.out⟩
      case measure => simp [intOf]; omega
    · obtain rfl : j = m := by omega
      go_wp2
      go_ret2
      exact ⟨rfl, hbw.out⟩

end Go.Proofs.YtaihncbejhnceaaGreatDoor.cal

namespace Go.Proofs.YtaihncbejhnceaaGreatDoor.cal
open Go.RowKit Go.Proofs.YtaihncbejhnceaaGreatDoor.base Go.Proofs.YtaihncbejhnceaaGreatDoor.tok Go.Proofs.YtaihncbejhnceaaGreatDoor.dim
set_option linter.unusedVariables false

theorem infoV : (Tryz.prog.info? 33).map (fun i => (i.zero, i.size, i.bytes)) = some (some (.agg #[.int .i64 0, .int .i64 0]), 2, 16) := by kernel_rfl
def valF (p : Int × Int) : List Value := [.int .i64 p.1, .int .i64 p.2]
theorem valF_len (p : Int × Int) : (valF p).length = 2 := rfl
theorem snoc_get {α : Type} {acc : List α} {p : α} {q : Nat} {x : α} (h : (acc ++ [p])[q]? = some x) : acc[q]? = some x ∨ (q = acc.length ∧ x = p) := by
  rcases Nat.lt_trichotomy q acc.length with h1 | h1 | h1
  · rw [List.getElem?_append_left h1] at h
    exact .inl h
  · subst h1
    rw [List.getElem?_concat_length] at h
    exact .inr ⟨rfl, (Option.some.inj h).symm⟩
  · rw [List.getElem?_eq_none (by simp; omega)] at h
    cases h

set_option maxRecDepth 100000 in
set_option maxHeartbeats 4000000 in
theorem value_alk (k n : Int) (u : ByteArray) (b o cap : Nat) (L : List Tm) (hk : k = 2 ∨ k = 3 ∨ k = 6 ∨ k = 7 ∨ k = 8) (hl : L.length = 2 ∨ L.length = 3) (hcap : L.length ≤ cap) (w : World) (hL : TmAt w b o L) (sc : Sc) (r : Nat → Option (Int × Int)) (R : Option (Int × Int)) (hN : ∀ q, q < L.length → r q = none → R = none)
    (hA : ∀ acc : List (Int × Int), acc.length = L.length → (∀ q p, acc[q]? = some p → r q = some p) → ∃ x y, R = some (x, y) ∧ ∀ W g z cp, L.length ≤ cp → g < W.heap.size → (∀ q p, acc[q]? = some p → W.cell? ⟨g, z + q * 2, none⟩ = some (.int .i64 p.1) ∧ W.cell? ⟨g, z + q * 2 + 1, none⟩ = some (.int .i64 p.2)) → Calls Tryz.prog 27 #[.int .i64 k, .slice (some ⟨g, z, none⟩) L.length cp] W fun e W' => e = .returned (.tuple #[.agg #[.int .i64 x, .int .i64 y], .int .i64 0]) ∧ Below W.heap.size W W')
    (hV : ∀ i t, L[i]? = some t → ∀ W, Below w.heap.size w W → Calls Tryz.prog 13 #[t.v, .agg #[.int .i64 sc.em, .int .i64 sc.rem, .int .i64 sc.vw, .int .i64 sc.vh]] W fun e W' => e = .returned (resV (r i)) ∧ Below W.heap.size W W') :
    Calls Tryz.prog 13 #[.agg #[.int .i64 k, .int .i64 n, .string u, .slice (some ⟨b, o, none⟩) L.length cap], .agg #[.int .i64 sc.em, .int .i64 sc.rem, .int .i64 sc.vw, .int .i64 sc.vh]] w fun e w' => e = .returned (resV R) ∧ Below w.heap.size w w' := by
  obtain ⟨i0, hi, hz0, hz1, hz2⟩ := info_parts infoV
  have Hz0 := Lib.hid hz0
  have Hi := Lib.hid hi
  have Hz1 := Lib.hid hz1
  have Hz2 := Lib.hid hz2
  clear hz0 hi hz1 hz2
  obtain ⟨m, hm⟩ : ∃ m, L.length = m := ⟨_, rfl⟩
  have hsz := Lib.hid hm
  rw [hm] at hcap hl hN ⊢
  try rw [hm] at hA
  clear hm
  have k1 : (k == 1) = false := by rcases hk with rfl | rfl | rfl | rfl | rfl <;> decide
  have k4 : (k == 4) = false := by rcases hk with rfl | rfl | rfl | rfl | rfl <;> decide
  have k5 : (k == 5) = false := by rcases hk with rfl | rfl | rfl | rfl | rfl <;> decide
  clear hk
  replace hV := Lib.hid hV
  replace hL := Lib.hid hL
  replace hN := Lib.hid hN
  replace hA := Lib.hid hA
  obtain ⟨em, rem, vw, vh⟩ := sc
  dsimp only at hV ⊢
  have HW0 := Lib.hid (show Below w.heap.size w (((w.alloc (.cells #[.int .i64 k, .int .i64 n, .string u, .slice (some ⟨b, o, none⟩) m cap] 29)).alloc (.cells #[.int .i64 em, .int .i64 rem, .int .i64 vw, .int .i64 vh] 23)).alloc (.cells #[.int .i64 0, .int .i64 0] 33)) from (((Below.refl w.heap.size w).alloc (Nat.le_refl _) _).alloc (by simp) _).alloc (by simp; omega) _)
  have B0 := Lib.hid (show Blk (((w.alloc (.cells #[.int .i64 k, .int .i64 n, .string u, .slice (some ⟨b, o, none⟩) m cap] 29)).alloc (.cells #[.int .i64 em, .int .i64 rem, .int .i64 vw, .int .i64 vh] 23)).alloc (.cells #[.int .i64 0, .int .i64 0] 33)) w.heap.size 29 #[.int .i64 k, .int .i64 n, .string u, .slice (some ⟨b, o, none⟩) m cap] from ((Blk.new rfl).alloc _).alloc _)
  have B1 := Lib.hid (show Blk (((w.alloc (.cells #[.int .i64 k, .int .i64 n, .string u, .slice (some ⟨b, o, none⟩) m cap] 29)).alloc (.cells #[.int .i64 em, .int .i64 rem, .int .i64 vw, .int .i64 vh] 23)).alloc (.cells #[.int .i64 0, .int .i64 0] 33)) (w.heap.size + 1) 23 #[.int .i64 em, .int .i64 rem, .int .i64 vw, .int .i64 vh] from (Blk.new (by simp)).alloc _)
  have B2 := Lib.hid (show Blk (((w.alloc (.cells #[.int .i64 k, .int .i64 n, .string u, .slice (some ⟨b, o, none⟩) m cap] 29)).alloc (.cells #[.int .i64 em, .int .i64 rem, .int .i64 vw, .int .i64 vh] 23)).alloc (.cells #[.int .i64 0, .int .i64 0] 33)) (w.heap.size + 1 + 1) 33 #[.int .i64 0, .int .i64 0] from Blk.new (by simp))
  have HZ : w.heap.size + 3 ≤ (((w.alloc (.cells #[.int .i64 k, .int .i64 n, .string u, .slice (some ⟨b, o, none⟩) m cap] 29)).alloc (.cells #[.int .i64 em, .int .i64 rem, .int .i64 vw, .int .i64 vh] 23)).alloc (.cells #[.int .i64 0, .int .i64 0] 33)).heap.size := by simp
  replace HZ := Lib.hid HZ
  go_enter Tryz.func13, Tryz.ntmps13
  go_wp2_with fail
  generalize hW0 : ((w.alloc (.cells #[.int .i64 k, .int .i64 n, .string u, .slice (some ⟨b, o, none⟩) m cap] 29)).alloc (.cells #[.int .i64 em, .int .i64 rem, .int .i64 vw, .int .i64 vh] 23)).alloc (.cells #[.int .i64 0, .int .i64 0] 33) = W0 at *
  clear hW0
  go_loopw [6, 23] (fun x i wr => ∃ (j : Nat) (acc : List (Int × Int)), j ≤ m ∧ acc.length = j ∧ i = .int .i64 j ∧ wr.ownsRow (w.heap.size + 3) 33 2 x j (flatR valF acc) ∧ Below (w.heap.size + 3) W0 wr ∧ ∀ q p, acc[q]? = some p → r q = some p) (fun _ i _ => m - (intOf i).toNat)
  case atStart => exact ⟨0, [], by omega, rfl, rfl, World.ownsRow_nil _ _ _ _, Below.refl _ _, fun q p h => by simp at h⟩
  case round =>
    obtain ⟨j, acc, hj, hal, rfl, hrow, hbw, hacc⟩ := hrel
    have HBw := Lib.hid (HW0.out.trans (hbw.mono (by omega)))
    have q0 := B0.out.below hbw (by omega)
    have q1 := B1.out.below hbw (by omega)
    have q2 := B2.out.below hbw (by omega)
    have hzz := Nat.le_trans HZ.out hbw.size
    replace hbw := Lib.hid hbw
    replace hrow := Lib.hid hrow
    replace hacc := Lib.hid hacc
    replace hal := Lib.hid hal
    by_cases hlt : j < m
    · have hlt' : (j : Int) < (m : Int) := by omega
      obtain ⟨t, ht⟩ : ∃ t, L[j]? = some t := ⟨_, List.getElem?_eq_getElem (by rw [hsz.out]; exact hlt)⟩
      obtain ⟨g0, g1, g2, g3⟩ := (hL.out.on HBw.out).2 j t ht
      have cT := fun W h => hV.out j t ht W h
      obtain ⟨tk, tn, tu, ta, tl, tc⟩ := t
      unfold Tm.v at cT
      dsimp only at g0 g1 g2 g3 cT
      clear ht
      have HBa := Lib.hid (HBw.out.alloc HBw.out.size (.cells #[.int .i64 tk, .int .i64 tn, .string tu, .slice ta tl tc] 29))
      have HBb := Lib.hid (hbw.out.alloc (by omega) (.cells #[.int .i64 tk, .int .i64 tn, .string tu, .slice ta tl tc] 29))
      have p1 := fun o => (q1.alloc o).cell
      replace q0 := Lib.hid q0
      replace q1 := Lib.hid q1
      cases hr : r j with
      | none =>
        have hRn := hN.out j hlt hr
        subst hRn
        rw [hr] at cT
        unfold resV at cT
        dsimp only at cT
        replace cT := Lib.hid cT
        replace hr := Lib.hid hr
        replace q2 := Lib.hid q2
        go_wp2_with (go_at_call 13; (with_reducible refine (cT.out _ HBa.out).mono ?_); rintro e W2 ⟨rfl, hb2⟩; have HB2 := Lib.hid (HBa.out.trans (hb2.mono HBa.out.size)); have q3 := (q2.out.alloc (.cells #[.int .i64 tk, .int .i64 tn, .string tu, .slice ta tl tc] 29)).below hb2 (by simp; omega); have p3 := q3.cell; have p4 := q3.frozen; have p5 := fun o => (q3.alloc o).cell; have p6 := fun o => (q3.alloc o).frozen; replace q3 := Lib.hid q3; clear hb2)
        have e := (((q3.out.alloc (.cells #[.int .i64 0, .int .i64 0] 33)).put 0 (.int .i64 0)).put 1 (.int .i64 0)).cell
        refine bodyPost_ret (v := .tuple #[.agg #[.int .i64 0, .int .i64 0], .int .i64 1]) (by simp [results, Tryz.results13, go_sem, e]) rfl ⟨rfl, ?_⟩
        exact ((HB2.out.alloc HB2.out.size _).setCell (by simp; omega) _).setCell (by simp; omega) _
      | some pv =>
        obtain ⟨c, N⟩ := pv
        rw [hr] at cT
        unfold resV at cT
        dsimp only at cT
        replace cT := Lib.hid cT
        replace hr := Lib.hid hr
        replace q2 := Lib.hid q2
        obtain ⟨a, cp, rfl⟩ := row_form hrow.out
        go_wp2_with (first
          | (go_at_call 13; (with_reducible refine (cT.out _ HBa.out).mono ?_); rintro e W2 ⟨rfl, hb2⟩; have hrow2 := Lib.hid (row_on (hrow.out.alloc _) hb2); have HB2 := Lib.hid (HBb.out.trans (hb2.mono (by have := HBb.out.size; simp; omega))); have hz2 := hb2.size; rw [World.size_alloc] at hz2; clear hb2)
          | (at_builtin; refine wpList_append_own _ rfl _ _ 60 rfl (w.heap.size + 3) 33 i0 _ 2 16 Tryz.underlying60 Hi.out Hz0.out Hz1.out Hz2.out rfl (by decide) _ _ _ rfl ((hrow2.out.alloc _).alloc _) ⟨W2.heap.size + 1, 0, none⟩ 1 1 [.int .i64 c, .int .i64 N] rfl rfl ?c1 ?c2 ?c3 ?c4 ?c5 ?_))
        case c1 => exact (Blk.new (w := W2.alloc (.cells #[.int .i64 c, .int .i64 N] 33)) (t := 33) (cs := #[.int .i64 c, .int .i64 N]) (by simp)).news
        case c2 => simp [Value.oneCell']
        case c3 => unfold maxLen; omega
        case c4 => omega
        case c5 => simp; omega
        intro v' w3 hown3 hgrow3 hnil3
        have hb3 := Lib.hid (below_app ((HB2.out.alloc (by omega) _).alloc (by simp; omega) _) hgrow3 ((hrow2.out.alloc _).alloc _) (Nat.le_refl _) (by simp; omega))
        replace hown3 := Lib.hid hown3
        clear hgrow3 hnil3
        go_wp2
        go_roundw
        case rel =>
          refine ⟨j + 1, acc ++ [(c, N)], by omega, by rw [List.length_append, hal.out]; rfl, by go_num, ?_, hb3.out, fun q p hq => ?_⟩
          · simpa [flatR_snoc, valF] using hown3.out
          · rcases snoc_get hq with h | ⟨h1, h2⟩
            · exact hacc.out q p h
            · subst h1 h2
              rw [hal.out]
              exact hr.out
        case measure => simp [intOf]; omega
    · obtain rfl : j = m := by omega
      obtain ⟨x, y, hR, cA⟩ := hA.out acc hal.out hacc.out
      obtain ⟨A, cp, rfl, hcp, hrd⟩ := row_rd valF_len hal.out hrow.out
      obtain ⟨g, z, rfl, hg, hcl⟩ := hrd.2 (by omega)
      have cB := Lib.hid (cA wr g z cp hcp hg (fun q p hq => ⟨hcl q p hq 0 (by decide), hcl q p hq 1 (by decide)⟩))
      subst hR
      clear cA hrd hcl
      have p1 := q0.cell
      replace q0 := Lib.hid q0
      replace q1 := Lib.hid q1
      replace q2 := Lib.hid q2
      go_wp2_with (go_at_call 27; (with_reducible refine cB.out.mono ?_); rintro e W2 ⟨rfl, hb2⟩; have HB2 := Lib.hid (HBw.out.trans (hb2.mono HBw.out.size)); have q3 := q2.out.below hb2 (by omega); have p3 := q3.cell; have p4 := q3.frozen; replace q3 := Lib.hid q3; clear hb2)
      have e := ((q3.out.put 0 (.int .i64 x)).put 1 (.int .i64 y)).cell
      refine bodyPost_ret (v := .tuple #[.agg #[.int .i64 x, .int .i64 y], .int .i64 0]) (by simp [results, Tryz.results13, go_sem, e]) rfl ⟨rfl, ?_⟩
      exact (HB2.out.setCell (by simp; omega) _).setCell (by simp; omega) _

end Go.Proofs.YtaihncbejhnceaaGreatDoor.cal

namespace Go.Proofs.YtaihncbejhnceaaGreatDoor.cal
open Go.RowKit Go.Proofs.YtaihncbejhnceaaGreatDoor.base Go.Proofs.YtaihncbejhnceaaGreatDoor.tok Go.Proofs.YtaihncbejhnceaaGreatDoor.dim
set_option linter.unusedVariables false

theorem G_beg {h g : Nat} {w : World} : (∀ o, w.drew.cell? ⟨g, o, none⟩ = w.cell? ⟨g, o, none⟩) ∧ Below h w w.drew := ⟨fun _ => rfl, (Below.refl _ _).drew⟩
theorem G_on {h g : Nat} {W0 w w' : World} (k : Below w.heap.size w w') (hS : (∀ o, w.cell? ⟨g, o, none⟩ = W0.cell? ⟨g, o, none⟩) ∧ Below h W0 w) (hg : g < W0.heap.size) (hh : h ≤ W0.heap.size) : (∀ o, w'.cell? ⟨g, o, none⟩ = W0.cell? ⟨g, o, none⟩) ∧ Below h W0 w' :=
  ⟨fun o => (k.cell (p := ⟨g, o, none⟩) (Nat.lt_of_lt_of_le hg hS.2.size)).trans (hS.1 o), hS.2.trans (k.mono (Nat.le_trans hh hS.2.size))⟩
theorem G_store {h g : Nat} {W0 w : World} {p : Addr} {v : Value} (hS : (∀ o, w.cell? ⟨g, o, none⟩ = W0.cell? ⟨g, o, none⟩) ∧ Below h W0 w) (hp : h ≤ p.block) (hne : p.block ≠ g) : (∀ o, (w.setCell p v).cell? ⟨g, o, none⟩ = W0.cell? ⟨g, o, none⟩) ∧ Below h W0 (w.setCell p v) :=
  ⟨fun o => (World.cell?_setCell_other w p ⟨g, o, none⟩ v (by intro e; subst e; exact hne rfl)).trans (hS.1 o), hS.2.setCell hp v⟩

set_option maxRecDepth 100000 in
set_option maxHeartbeats 4000000 in
theorem value_mul (k n : Int) (u : ByteArray) (b o cap : Nat) (L : List Tm) (hk : k = 4) (hl : L.length = 2) (hcap : L.length ≤ cap) (w : World) (hL : TmAt w b o L) (sc : Sc) (r : Nat → Option (Int × Int)) (R : Option (Int × Int)) (hN : ∀ q, q < L.length → r q = none → R = none)
    (hA : ∀ p q : Int × Int, r 0 = some p → r 1 = some q → ∃ x y, R = some (x, y) ∧ ∀ W, Calls Tryz.prog 25 #[.agg #[.int .i64 p.1, .int .i64 p.2], .agg #[.int .i64 q.1, .int .i64 q.2]] W fun e W' => e = .returned (.tuple #[.agg #[.int .i64 x, .int .i64 y], .int .i64 0]) ∧ Below W.heap.size W W')
    (hV : ∀ i t, L[i]? = some t → ∀ W, Below w.heap.size w W → Calls Tryz.prog 13 #[t.v, .agg #[.int .i64 sc.em, .int .i64 sc.rem, .int .i64 sc.vw, .int .i64 sc.vh]] W fun e W' => e = .returned (resV (r i)) ∧ Below W.heap.size W W') :
    Calls Tryz.prog 13 #[.agg #[.int .i64 k, .int .i64 n, .string u, .slice (some ⟨b, o, none⟩) L.length cap], .agg #[.int .i64 sc.em, .int .i64 sc.rem, .int .i64 sc.vw, .int .i64 sc.vh]] w fun e w' => e = .returned (resV R) ∧ Below w.heap.size w w' := by
  obtain ⟨i0, hi, hz0, hz1, hz2⟩ := info_parts infoV
  have Hz0 := Lib.hid hz0
  have Hi := Lib.hid hi
  have Hz1 := Lib.hid hz1
  have Hz2 := Lib.hid hz2
  clear hz0 hi hz1 hz2
  obtain ⟨m, hm⟩ : ∃ m, L.length = m := ⟨_, rfl⟩
  have hsz := Lib.hid hm
  rw [hm] at hcap hl hN ⊢
  try rw [hm] at hA
  clear hm
  have k1 : (k == 1) = false := by subst hk; decide
  have k4 : (k == 4) = true := by subst hk; decide
  have hl2 : 2 ≤ m := by omega
  have hl3 : m ≤ 2 := by omega
  replace hl := Lib.hid hl
  clear hk
  replace hV := Lib.hid hV
  replace hL := Lib.hid hL
  replace hN := Lib.hid hN
  replace hA := Lib.hid hA
  obtain ⟨em, rem, vw, vh⟩ := sc
  dsimp only at hV ⊢
  have HW0 := Lib.hid (show Below w.heap.size w (((w.alloc (.cells #[.int .i64 k, .int .i64 n, .string u, .slice (some ⟨b, o, none⟩) m cap] 29)).alloc (.cells #[.int .i64 em, .int .i64 rem, .int .i64 vw, .int .i64 vh] 23)).alloc (.cells #[.int .i64 0, .int .i64 0] 33)) from (((Below.refl w.heap.size w).alloc (Nat.le_refl _) _).alloc (by simp) _).alloc (by simp; omega) _)
  have B0 := Lib.hid (show Blk (((w.alloc (.cells #[.int .i64 k, .int .i64 n, .string u, .slice (some ⟨b, o, none⟩) m cap] 29)).alloc (.cells #[.int .i64 em, .int .i64 rem, .int .i64 vw, .int .i64 vh] 23)).alloc (.cells #[.int .i64 0, .int .i64 0] 33)) w.heap.size 29 #[.int .i64 k, .int .i64 n, .string u, .slice (some ⟨b, o, none⟩) m cap] from ((Blk.new rfl).alloc _).alloc _)
  have B1 := Lib.hid (show Blk (((w.alloc (.cells #[.int .i64 k, .int .i64 n, .string u, .slice (some ⟨b, o, none⟩) m cap] 29)).alloc (.cells #[.int .i64 em, .int .i64 rem, .int .i64 vw, .int .i64 vh] 23)).alloc (.cells #[.int .i64 0, .int .i64 0] 33)) (w.heap.size + 1) 23 #[.int .i64 em, .int .i64 rem, .int .i64 vw, .int .i64 vh] from (Blk.new (by simp)).alloc _)
  have B2 := Lib.hid (show Blk (((w.alloc (.cells #[.int .i64 k, .int .i64 n, .string u, .slice (some ⟨b, o, none⟩) m cap] 29)).alloc (.cells #[.int .i64 em, .int .i64 rem, .int .i64 vw, .int .i64 vh] 23)).alloc (.cells #[.int .i64 0, .int .i64 0] 33)) (w.heap.size + 1 + 1) 33 #[.int .i64 0, .int .i64 0] from Blk.new (by simp))
  have HZ : w.heap.size + 3 ≤ (((w.alloc (.cells #[.int .i64 k, .int .i64 n, .string u, .slice (some ⟨b, o, none⟩) m cap] 29)).alloc (.cells #[.int .i64 em, .int .i64 rem, .int .i64 vw, .int .i64 vh] 23)).alloc (.cells #[.int .i64 0, .int .i64 0] 33)).heap.size := by simp
  replace HZ := Lib.hid HZ
  go_enter Tryz.func13, Tryz.ntmps13
  go_wp2_with fail
  generalize hW0 : ((w.alloc (.cells #[.int .i64 k, .int .i64 n, .string u, .slice (some ⟨b, o, none⟩) m cap] 29)).alloc (.cells #[.int .i64 em, .int .i64 rem, .int .i64 vw, .int .i64 vh] 23)).alloc (.cells #[.int .i64 0, .int .i64 0] 33) = W0 at *
  clear hW0
  go_loopw [6, 23] (fun x i wr => ∃ (j : Nat) (acc : List (Int × Int)), j ≤ m ∧ acc.length = j ∧ i = .int .i64 j ∧ wr.ownsRow (w.heap.size + 3) 33 2 x j (flatR valF acc) ∧ Below (w.heap.size + 3) W0 wr ∧ ∀ q p, acc[q]? = some p → r q = some p) (fun _ i _ => m - (intOf i).toNat)
  case atStart => exact ⟨0, [], by omega, rfl, rfl, World.ownsRow_nil _ _ _ _, Below.refl _ _, fun q p h => by simp at h⟩
  case round =>
    obtain ⟨j, acc, hj, hal, rfl, hrow, hbw, hacc⟩ := hrel
    have HBw := Lib.hid (HW0.out.trans (hbw.mono (by omega)))
    have q0 := B0.out.below hbw (by omega)
    have q1 := B1.out.below hbw (by omega)
    have q2 := B2.out.below hbw (by omega)
    have hzz := Nat.le_trans HZ.out hbw.size
    replace hbw := Lib.hid hbw
    replace hrow := Lib.hid hrow
    replace hacc := Lib.hid hacc
    replace hal := Lib.hid hal
    by_cases hlt : j < m
    · have hlt' : (j : Int) < (m : Int) := by omega
      obtain ⟨t, ht⟩ : ∃ t, L[j]? = some t := ⟨_, List.getElem?_eq_getElem (by rw [hsz.out]; exact hlt)⟩
      obtain ⟨g0, g1, g2, g3⟩ := (hL.out.on HBw.out).2 j t ht
      have cT := fun W h => hV.out j t ht W h
      obtain ⟨tk, tn, tu, ta, tl, tc⟩ := t
      unfold Tm.v at cT
      dsimp only at g0 g1 g2 g3 cT
      clear ht
      have HBa := Lib.hid (HBw.out.alloc HBw.out.size (.cells #[.int .i64 tk, .int .i64 tn, .string tu, .slice ta tl tc] 29))
      have HBb := Lib.hid (hbw.out.alloc (by omega) (.cells #[.int .i64 tk, .int .i64 tn, .string tu, .slice ta tl tc] 29))
      have p1 := fun o => (q1.alloc o).cell
      replace q0 := Lib.hid q0
      replace q1 := Lib.hid q1
      cases hr : r j with
      | none =>
        have hRn := hN.out j hlt hr
        subst hRn
        rw [hr] at cT
        unfold resV at cT
        dsimp only at cT
        replace cT := Lib.hid cT
        replace hr := Lib.hid hr
        replace q2 := Lib.hid q2
        go_wp2_with (go_at_call 13; (with_reducible refine (cT.out _ HBa.out).mono ?_); rintro e W2 ⟨rfl, hb2⟩; have HB2 := Lib.hid (HBa.out.trans (hb2.mono HBa.out.size)); have q3 := (q2.out.alloc (.cells #[.int .i64 tk, .int .i64 tn, .string tu, .slice ta tl tc] 29)).below hb2 (by simp; omega); have p3 := q3.cell; have p4 := q3.frozen; have p5 := fun o => (q3.alloc o).cell; have p6 := fun o => (q3.alloc o).frozen; replace q3 := Lib.hid q3; clear hb2)
        have e := (((q3.out.alloc (.cells #[.int .i64 0, .int .i64 0] 33)).put 0 (.int .i64 0)).put 1 (.int .i64 0)).cell
        refine bodyPost_ret (v := .tuple #[.agg #[.int .i64 0, .int .i64 0], .int .i64 1]) (by simp [results, Tryz.results13, go_sem, e]) rfl ⟨rfl, ?_⟩
        exact ((HB2.out.alloc HB2.out.size _).setCell (by simp; omega) _).setCell (by simp; omega) _
      | some pv =>
        obtain ⟨c, N⟩ := pv
        rw [hr] at cT
        unfold resV at cT
        dsimp only at cT
        replace cT := Lib.hid cT
        replace hr := Lib.hid hr
        replace q2 := Lib.hid q2
        obtain ⟨a, cp, rfl⟩ := row_form hrow.out
        go_wp2_with (first
          | (go_at_call 13; (with_reducible refine (cT.out _ HBa.out).mono ?_); rintro e W2 ⟨rfl, hb2⟩; have hrow2 := Lib.hid (row_on (hrow.out.alloc _) hb2); have HB2 := Lib.hid (HBb.out.trans (hb2.mono (by have := HBb.out.size; simp; omega))); have hz2 := hb2.size; rw [World.size_alloc] at hz2; clear hb2)
          | (at_builtin; refine wpList_append_own _ rfl _ _ 60 rfl (w.heap.size + 3) 33 i0 _ 2 16 Tryz.underlying60 Hi.out Hz0.out Hz1.out Hz2.out rfl (by decide) _ _ _ rfl ((hrow2.out.alloc _).alloc _) ⟨W2.heap.size + 1, 0, none⟩ 1 1 [.int .i64 c, .int .i64 N] rfl rfl ?c1 ?c2 ?c3 ?c4 ?c5 ?_))
        case c1 => exact (Blk.new (w := W2.alloc (.cells #[.int .i64 c, .int .i64 N] 33)) (t := 33) (cs := #[.int .i64 c, .int .i64 N]) (by simp)).news
        case c2 => simp [Value.oneCell']
        case c3 => unfold maxLen; omega
        case c4 => omega
        case c5 => simp; omega
        intro v' w3 hown3 hgrow3 hnil3
        have hb3 := Lib.hid (below_app ((HB2.out.alloc (by omega) _).alloc (by simp; omega) _) hgrow3 ((hrow2.out.alloc _).alloc _) (Nat.le_refl _) (by simp; omega))
        replace hown3 := Lib.hid hown3
        clear hgrow3 hnil3
        go_wp2
        go_roundw
        case rel =>
          refine ⟨j + 1, acc ++ [(c, N)], by omega, by rw [List.length_append, hal.out]; rfl, by go_num, ?_, hb3.out, fun q p hq => ?_⟩
          · simpa [flatR_snoc, valF] using hown3.out
          · rcases snoc_get hq with h | ⟨h1, h2⟩
            · exact hacc.out q p h
            · subst h1 h2
              rw [hal.out]
              exact hr.out
        case measure => simp [intOf]; omega
    · obtain rfl : j = m := by omega
      obtain ⟨A, cp, rfl, hcp, hrd⟩ := row_rd valF_len hal.out hrow.out
      obtain ⟨g, z, rfl, hg, hcl⟩ := hrd.2 (by omega)
      obtain ⟨va, vb, rfl⟩ : ∃ va vb, acc = [va, vb] := by
        have h := hal.out
        rw [hl.out] at h
        match acc, h with
        | [va, vb], _ => exact ⟨va, vb, rfl⟩
      obtain ⟨x, y, hR, cA⟩ := hA.out va vb (hacc.out 0 va rfl) (hacc.out 1 vb rfl)
      have l0 : wr.cell? ⟨g, z, none⟩ = some (.int .i64 va.1) := by have := hcl 0 va rfl 0 (by decide); simpa [valF] using this
      have l1 : wr.cell? ⟨g, z + 1, none⟩ = some (.int .i64 va.2) := by have := hcl 0 va rfl 1 (by decide); simpa [valF] using this
      have l2 : wr.cell? ⟨g, z + 2, none⟩ = some (.int .i64 vb.1) := by have := hcl 1 vb rfl 0 (by decide); simpa [valF] using this
      have l3 : wr.cell? ⟨g, z + 2 + 1, none⟩ = some (.int .i64 vb.2) := by have := hcl 1 vb rfl 1 (by decide); simpa [valF] using this
      have hgb : w.heap.size + 3 ≤ g := by
        rcases hrow.out.2 with ⟨h, _⟩ | ⟨g', cap', cur, h, _⟩
        · cases h
        · have hv := hrow.out.lt g' (by rw [h]; rfl)
          cases h
          exact hv.1
      subst hR
      obtain ⟨v1, v2⟩ := va
      obtain ⟨v3, v4⟩ := vb
      dsimp only at l0 l1 l2 l3 cA
      replace cA := Lib.hid cA
      clear hrd hcl
      have p1 := q0.cell
      replace q0 := Lib.hid q0
      replace q1 := Lib.hid q1
      have q2c := q2.frozen
      have q2d := q2.cell
      replace q2 := Lib.hid q2
      have y0 : 0 < j := by omega
      have y1 : (1 : Int) < (j : Int) := by omega
      have ZG : w.heap.size + 2 ≤ wr.heap.size := by omega
      go_wp2_with fail
      go_region_held3 (fun w' => (∀ o, w'.cell? ⟨g, o, none⟩ = wr.cell? ⟨g, o, none⟩) ∧ Below (w.heap.size + 2) wr w')
        (first | exact G_beg | assumption | exact G_on hb2 (by assumption) hg ZG | exact G_store (G_store (by assumption) (by dsimp only; omega) (by dsimp only; omega)) (by dsimp only; omega) (by dsimp only; omega))
        ((go_at_call 25; (with_reducible refine (cA.out _).mono ?_); rintro e W2 ⟨rfl, hb2⟩; have q3 := q2.out.drew.below hb2 (by simp; omega); have p3 := q3.cell; have p4 := q3.frozen; replace q3 := Lib.hid q3; have HB2 := Lib.hid (HBw.out.drew.trans (hb2.mono (by have := HBw.out.size; simpa using this)))))
      all_goals
        rename_i hHeld
        clear hHeld
        have e := ((q3.out.put 0 (.int .i64 x)).put 1 (.int .i64 y)).cell
        go_wp2
        refine bodyPost_ret (v := .tuple #[.agg #[.int .i64 x, .int .i64 y], .int .i64 0]) (by simp [results, Tryz.results13, go_sem, e]) rfl ⟨rfl, ?_⟩
        exact (HB2.out.setCell (by simp; omega) _).setCell (by simp; omega) _

end Go.Proofs.YtaihncbejhnceaaGreatDoor.cal

namespace Go.Proofs.YtaihncbejhnceaaGreatDoor.cal
open Go.RowKit Go.Proofs.YtaihncbejhnceaaGreatDoor.base Go.Proofs.YtaihncbejhnceaaGreatDoor.tok Go.Proofs.YtaihncbejhnceaaGreatDoor.dim
set_option linter.unusedVariables false

/-- so many terms, worth that, from this world on -/
def Knows (w : World) (sc : Sc) (t : Tm) (c : Nat) (r : Option (Int × Int)) : Prop :=
  (∀ W, Below w.heap.size w W → Calls Tryz.prog 12 #[t.v] W fun e W' => e = .returned (.tuple #[.int .i64 c, .bool true]) ∧ Below W.heap.size W W') ∧
  (∀ W, Below w.heap.size w W → Calls Tryz.prog 13 #[t.v, .agg #[.int .i64 sc.em, .int .i64 sc.rem, .int .i64 sc.vw, .int .i64 sc.vh]] W fun e W' => e = .returned (resV r) ∧ Below W.heap.size W W') ∧
  (∀ p, r = some p → -16777216 ≤ p.2 ∧ p.2 ≤ 16777216)
theorem Knows.on {w w' : World} {sc : Sc} {t : Tm} {c : Nat} {r : Option (Int × Int)} (h : Knows w sc t c r) (hb : Below w.heap.size w w') : Knows w' sc t c r :=
  ⟨fun W hW => h.1 W (hb.trans (hW.mono hb.size)), fun W hW => h.2.1 W (hb.trans (hW.mono hb.size)), h.2.2⟩
theorem Knows.leaf (w : World) (sc : Sc) (n : Int) (h0 : -9223372036854775808 ≤ n) (h9 : n ≤ 9223372036854775807) (u : ByteArray) (hu : isUnit u) : Knows w sc (leafT n u) 1 (numP u n sc) :=
  ⟨fun W _ => count_leaf n u W, fun W _ => value_leaf n h0 h9 u hu sc W, fun p hp => numP_bd hp⟩

def twoP (k : Int) (r0 r1 : Option (Int × Int)) : Option (Int × Int) :=
  match r0, r1 with
  | some p, some q => some (p.1, clipI (opP k p.2 q.2))
  | _, _ => none
theorem two_acc {acc : List (Int × Int)} {r0 r1 : Option (Int × Int)} (h : acc.length = 2) (hr : ∀ q p, acc[q]? = some p → (fun i : Nat => if i = 0 then r0 else r1) q = some p) : ∃ p q, acc = [p, q] ∧ r0 = some p ∧ r1 = some q := by
  match acc, h with
  | [p, q], _ => exact ⟨p, q, rfl, hr 0 p rfl, hr 1 q rfl⟩
theorem two_at {α : Type} {t0 t1 t : α} {i : Nat} (h : ([t0, t1] : List α)[i]? = some t) : (i = 0 ∧ t = t0) ∨ (i = 1 ∧ t = t1) := by
  match i with
  | 0 => exact .inl ⟨rfl, (Option.some.inj h).symm⟩
  | 1 => exact .inr ⟨rfl, (Option.some.inj h).symm⟩
  | i + 2 => simp at h
theorem Knows.two {w : World} {sc : Sc} (k n : Int) (u : ByteArray) (b o cap : Nat) (hcap : 2 ≤ cap) (t0 t1 : Tm) (c0 c1 : Nat) (r0 r1 : Option (Int × Int)) (hk : k = 2 ∨ k = 3 ∨ k = 6 ∨ k = 7) (hL : TmAt w b o [t0, t1]) (h0 : Knows w sc t0 c0 r0) (h1 : Knows w sc t1 c1 r1) (hc0 : c0 ≤ 9) (hc1 : c1 ≤ 9)
    (hs : ∀ p q, r0 = some p → r1 = some q → p.1 = q.1) : Knows w sc ⟨k, n, u, some ⟨b, o, none⟩, 2, cap⟩ (1 + c0 + c1) (twoP k r0 r1) := by
  refine ⟨fun W hW => ?_, fun W hW => ?_, fun p hp => ?_⟩
  · have h := count_node k n u b o cap [t0, t1] (.inl ⟨by omega, rfl⟩) hcap W (hL.on hW) (fun i => if i = 0 then c0 else c1) (fun i => by split <;> assumption)
      (fun i t ht V hV => by
        rcases two_at ht with ⟨rfl, rfl⟩ | ⟨rfl, rfl⟩
        · exact h0.1 V (hW.trans (hV.mono hW.size))
        · exact h1.1 V (hW.trans (hV.mono hW.size)))
    have e : ((cntS (fun i => if i = 0 then c0 else c1) [t0, t1].length : Nat) : Int) = ((1 + c0 + c1 : Nat) : Int) := rfl
    rw [e] at h
    exact h
  · exact value_alk k n u b o cap [t0, t1] (by omega) (.inl rfl) hcap W (hL.on hW) sc (fun i => if i = 0 then r0 else r1) (twoP k r0 r1)
      (fun q hq hr => by
        match q, hq with
        | 0, _ => have : r0 = none := hr; subst this; rfl
        | 1, _ => have : r1 = none := hr; subst this; cases r0 <;> rfl)
      (fun acc hal hac => by
        obtain ⟨p, q, rfl, e0, e1⟩ := two_acc hal hac
        refine ⟨p.1, clipI (opP k p.2 q.2), by subst e0 e1; rfl, fun V g z cp hcp hg hcl => ?_⟩
        have a0 := hcl 0 p rfl
        have a1 := hcl 1 q rfl
        rw [Nat.zero_mul, Nat.add_zero] at a0
        rw [Nat.one_mul, ← hs p q e0 e1] at a1
        exact alike_two k p.1 p.2 q.2 hk (h0.2.2 p e0) (h1.2.2 q e1) g z cp hcp V hg a0.1 a0.2 a1.1 a1.2)
      (fun i t ht V hV => by
        rcases two_at ht with ⟨rfl, rfl⟩ | ⟨rfl, rfl⟩
        · exact h0.2.1 V (hW.trans (hV.mono hW.size))
        · exact h1.2.1 V (hW.trans (hV.mono hW.size)))
  · unfold twoP at hp
    split at hp
    · obtain rfl := Option.some.inj hp
      exact clip_bd _
    · cases hp

def midP (r0 r1 r2 : Option (Int × Int)) : Option (Int × Int) :=
  match r0, r1, r2 with
  | some p, some q, some s => some (p.1, clipI (max p.2 (min q.2 s.2)))
  | _, _, _ => none
theorem three_at {α : Type} {t0 t1 t2 t : α} {i : Nat} (h : ([t0, t1, t2] : List α)[i]? = some t) : (i = 0 ∧ t = t0) ∨ (i = 1 ∧ t = t1) ∨ (i = 2 ∧ t = t2) := by
  match i with
  | 0 => exact .inl ⟨rfl, (Option.some.inj h).symm⟩
  | 1 => exact .inr (.inl ⟨rfl, (Option.some.inj h).symm⟩)
  | 2 => exact .inr (.inr ⟨rfl, (Option.some.inj h).symm⟩)
  | i + 3 => simp at h
theorem Knows.mid {w : World} {sc : Sc} (n : Int) (u : ByteArray) (b o cap : Nat) (hcap : 3 ≤ cap) (t0 t1 t2 : Tm) (r0 r1 r2 : Option (Int × Int)) (hL : TmAt w b o [t0, t1, t2]) (h0 : Knows w sc t0 1 r0) (h1 : Knows w sc t1 1 r1) (h2 : Knows w sc t2 1 r2)
    (hs : ∀ p q s, r0 = some p → r1 = some q → r2 = some s → p.1 = q.1 ∧ p.1 = s.1) : Knows w sc ⟨8, n, u, some ⟨b, o, none⟩, 3, cap⟩ 4 (midP r0 r1 r2) := by
  refine ⟨fun W hW => ?_, fun W hW => ?_, fun p hp => ?_⟩
  · have h := count_node 8 n u b o cap [t0, t1, t2] (.inr ⟨rfl, rfl⟩) hcap W (hL.on hW) (fun i => 1) (fun i => by decide)
      (fun i t ht V hV => by
        rcases three_at ht with ⟨rfl, rfl⟩ | ⟨rfl, rfl⟩ | ⟨rfl, rfl⟩
        · exact h0.1 V (hW.trans (hV.mono hW.size))
        · exact h1.1 V (hW.trans (hV.mono hW.size))
        · exact h2.1 V (hW.trans (hV.mono hW.size)))
    exact h
  · exact value_alk 8 n u b o cap [t0, t1, t2] (by omega) (.inr rfl) hcap W (hL.on hW) sc (fun i => if i = 0 then r0 else if i = 1 then r1 else r2) (midP r0 r1 r2)
      (fun q hq hr => by
        match q, hq with
        | 0, _ => have : r0 = none := hr; subst this; rfl
        | 1, _ => have : r1 = none := hr; subst this; cases r0 <;> rfl
        | 2, _ => have : r2 = none := hr; subst this; cases r0 <;> cases r1 <;> rfl)
      (fun acc hal hac => by
        match acc, hal with
        | [p, q, s], _ =>
          have e0 : r0 = some p := hac 0 p rfl
          have e1 : r1 = some q := hac 1 q rfl
          have e2 : r2 = some s := hac 2 s rfl
          refine ⟨p.1, clipI (max p.2 (min q.2 s.2)), by subst e0 e1 e2; rfl, fun V g z cp hcp hg hcl => ?_⟩
          have a0 := hcl 0 p rfl
          have a1 := hcl 1 q rfl
          have a2 := hcl 2 s rfl
          rw [Nat.zero_mul, Nat.add_zero] at a0
          rw [Nat.one_mul, ← (hs p q s e0 e1 e2).1] at a1
          rw [← (hs p q s e0 e1 e2).2] at a2
          exact alike_mid p.1 p.2 q.2 s.2 g z cp hcp V hg a0.1 a0.2 a1.1 a1.2 a2.1 a2.2)
      (fun i t ht V hV => by
        rcases three_at ht with ⟨rfl, rfl⟩ | ⟨rfl, rfl⟩ | ⟨rfl, rfl⟩
        · exact h0.2.1 V (hW.trans (hV.mono hW.size))
        · exact h1.2.1 V (hW.trans (hV.mono hW.size))
        · exact h2.2.1 V (hW.trans (hV.mono hW.size)))
  · unfold midP at hp
    split at hp
    · obtain rfl := Option.some.inj hp
      exact clip_bd _
    · cases hp

def mulP (r : Option (Int × Int)) : Option (Int × Int) :=
  match r with
  | some p => some (p.1, clipI (p.2 * 3000 / 1000))
  | none => none
theorem mulP_bd {r : Option (Int × Int)} {p : Int × Int} (hp : mulP r = some p) : -16777216 ≤ p.2 ∧ p.2 ≤ 16777216 := by
  unfold mulP at hp
  split at hp
  · obtain rfl := Option.some.inj hp
    exact clip_bd _
  · cases hp
theorem Knows.mulR {w : World} {sc : Sc} (n : Int) (u : ByteArray) (b o cap : Nat) (hcap : 2 ≤ cap) (t0 t1 : Tm) (r0 : Option (Int × Int)) (hL : TmAt w b o [t0, t1]) (h0 : Knows w sc t0 1 r0) (h1 : Knows w sc t1 1 (some (4, 3000))) : Knows w sc ⟨4, n, u, some ⟨b, o, none⟩, 2, cap⟩ 3 (mulP r0) := by
  refine ⟨fun W hW => ?_, fun W hW => ?_, fun p hp => mulP_bd hp⟩
  · exact count_node 4 n u b o cap [t0, t1] (.inl ⟨by omega, rfl⟩) hcap W (hL.on hW) (fun i => 1) (fun i => by decide)
      (fun i t ht V hV => by
        rcases two_at ht with ⟨rfl, rfl⟩ | ⟨rfl, rfl⟩
        · exact h0.1 V (hW.trans (hV.mono hW.size))
        · exact h1.1 V (hW.trans (hV.mono hW.size)))
  · exact value_mul 4 n u b o cap [t0, t1] rfl rfl hcap W (hL.on hW) sc (fun i => if i = 0 then r0 else some (4, 3000)) (mulP r0)
      (fun q hq hr => by
        match q, hq with
        | 0, _ => have : r0 = none := hr; subst this; rfl
        | 1, _ => cases hr)
      (fun p q e0 e1 => by
        have f0 : r0 = some p := e0
        have f1 : (4, 3000) = q := Option.some.inj e1
        clear e0 e1
        subst f0 f1
        exact ⟨p.1, clipI (p.2 * 3000 / 1000), rfl, fun V => times_r p.1 p.2 (h0.2.2 p rfl) V⟩)
      (fun i t ht V hV => by
        rcases two_at ht with ⟨rfl, rfl⟩ | ⟨rfl, rfl⟩
        · exact h0.2.1 V (hW.trans (hV.mono hW.size))
        · exact h1.2.1 V (hW.trans (hV.mono hW.size)))
theorem Knows.mulL {w : World} {sc : Sc} (n : Int) (u : ByteArray) (b o cap : Nat) (hcap : 2 ≤ cap) (t0 t1 : Tm) (r1 : Option (Int × Int)) (hL : TmAt w b o [t0, t1]) (h0 : Knows w sc t0 1 (some (4, 3000))) (h1 : Knows w sc t1 1 r1) : Knows w sc ⟨4, n, u, some ⟨b, o, none⟩, 2, cap⟩ 3 (mulP r1) := by
  refine ⟨fun W hW => ?_, fun W hW => ?_, fun p hp => mulP_bd hp⟩
  · exact count_node 4 n u b o cap [t0, t1] (.inl ⟨by omega, rfl⟩) hcap W (hL.on hW) (fun i => 1) (fun i => by decide)
      (fun i t ht V hV => by
        rcases two_at ht with ⟨rfl, rfl⟩ | ⟨rfl, rfl⟩
        · exact h0.1 V (hW.trans (hV.mono hW.size))
        · exact h1.1 V (hW.trans (hV.mono hW.size)))
  · exact value_mul 4 n u b o cap [t0, t1] rfl rfl hcap W (hL.on hW) sc (fun i => if i = 0 then some (4, 3000) else r1) (mulP r1)
      (fun q hq hr => by
        match q, hq with
        | 0, _ => cases hr
        | 1, _ => have : r1 = none := hr; subst this; rfl)
      (fun p q e0 e1 => by
        have f0 : (4, 3000) = p := Option.some.inj e0
        have f1 : r1 = some q := e1
        clear e0 e1
        subst f0 f1
        obtain ⟨c, y⟩ := q
        have hb := h1.2.2 (c, y) rfl
        by_cases hc : c = 4
        · subst hc
          refine ⟨4, clipI (y * 3000 / 1000), rfl, fun V => ?_⟩
          have := times_l y hb V
          rwa [Int.mul_comm 3000 y] at this
        · exact ⟨c, clipI (y * 3000 / 1000), rfl, fun V => times_s c y hc hb V⟩)
      (fun i t ht V hV => by
        rcases two_at ht with ⟨rfl, rfl⟩ | ⟨rfl, rfl⟩
        · exact h0.2.1 V (hW.trans (hV.mono hW.size))
        · exact h1.2.1 V (hW.trans (hV.mono hW.size)))

set_option maxRecDepth 100000 in
set_option maxHeartbeats 4000000 in
theorem Value_ct (t : Tm) (c : Nat) (sc : Sc) (r : Option (Int × Int)) (w : World) (h : Knows w sc t c r) :
    Calls Tryz.prog 9 #[.agg #[.int .i64 t.k, .int .i64 t.n, .string t.u, .slice t.a t.l t.c], .agg #[.int .i64 sc.em, .int .i64 sc.rem, .int .i64 sc.vw, .int .i64 sc.vh]] w fun e w' => e = .returned (resV r) ∧ Below w.heap.size w w' := by
  obtain ⟨hC, hV, -⟩ := h
  obtain ⟨x, y, z, hr⟩ : ∃ x y z, resV r = .tuple #[.agg #[.int .i64 x, .int .i64 y], .int .i64 z] := by
    cases r with
    | none => exact ⟨_, _, _, rfl⟩
    | some p => exact ⟨_, _, _, rfl⟩
  rw [hr] at hV ⊢
  clear hr
  obtain ⟨k, n, u, a, l, cc⟩ := t
  obtain ⟨em, rem, vw, vh⟩ := sc
  unfold Tm.v at hC hV
  dsimp only at hC hV ⊢
  have cC := Lib.hid hC
  have cV := Lib.hid hV
  clear hC hV
  have HB0 := Lib.hid (show Below w.heap.size w (((w.alloc (.cells #[.int .i64 k, .int .i64 n, .string u, .slice a l cc] 29)).alloc (.cells #[.int .i64 em, .int .i64 rem, .int .i64 vw, .int .i64 vh] 23)).alloc (.cells #[.int .i64 0, .int .i64 0] 33)) from (((Below.refl w.heap.size w).alloc (Nat.le_refl _) _).alloc (by simp) _).alloc (by simp; omega) _)
  have B0 := Lib.hid (show Blk (((w.alloc (.cells #[.int .i64 k, .int .i64 n, .string u, .slice a l cc] 29)).alloc (.cells #[.int .i64 em, .int .i64 rem, .int .i64 vw, .int .i64 vh] 23)).alloc (.cells #[.int .i64 0, .int .i64 0] 33)) w.heap.size 29 #[.int .i64 k, .int .i64 n, .string u, .slice a l cc] from ((Blk.new rfl).alloc _).alloc _)
  have B1 := Lib.hid (show Blk (((w.alloc (.cells #[.int .i64 k, .int .i64 n, .string u, .slice a l cc] 29)).alloc (.cells #[.int .i64 em, .int .i64 rem, .int .i64 vw, .int .i64 vh] 23)).alloc (.cells #[.int .i64 0, .int .i64 0] 33)) (w.heap.size + 1) 23 #[.int .i64 em, .int .i64 rem, .int .i64 vw, .int .i64 vh] from (Blk.new (by simp)).alloc _)
  have B2 := Lib.hid (show Blk (((w.alloc (.cells #[.int .i64 k, .int .i64 n, .string u, .slice a l cc] 29)).alloc (.cells #[.int .i64 em, .int .i64 rem, .int .i64 vw, .int .i64 vh] 23)).alloc (.cells #[.int .i64 0, .int .i64 0] 33)) (w.heap.size + 1 + 1) 33 #[.int .i64 0, .int .i64 0] from Blk.new (by simp))
  go_enter Tryz.func9, Tryz.ntmps9
  go_wp2_with (first
    | (go_at_call 12; (with_reducible refine (cC.out _ HB0.out).mono ?_); rintro e W1 ⟨rfl, hb1⟩; have HB1 := Lib.hid (HB0.out.trans (hb1.mono (by simp <;> omega))); have q0 := B0.out.below hb1 (by simp <;> omega); have q1 := B1.out.below hb1 (by simp <;> omega); have q2 := Lib.hid (B2.out.below hb1 (by simp)); have p0 := q0.cell; have p1 := q1.cell; clear hb1)
    | (go_at_call 13; (with_reducible refine (cV.out _ HB1.out).mono ?_); rintro e W2 ⟨rfl, hb2⟩; have HB2 := Lib.hid (HB1.out.trans (hb2.mono HB1.out.size)); have q3 := q2.out.below hb2 q2.out.lt; have p2 := q3.cell; have p3 := q3.frozen; clear hb2))
  have e := ((q3.put 0 (.int .i64 x)).put 1 (.int .i64 y)).cell
  refine bodyPost_ret (v := .tuple #[.agg #[.int .i64 x, .int .i64 y], .int .i64 z]) (by simp [results, Tryz.results9, go_sem, e]) rfl ⟨rfl, ?_⟩
  exact (HB2.out.setCell (by simp; omega) _).setCell (by simp; omega) _

end Go.Proofs.YtaihncbejhnceaaGreatDoor.cal
