/- Contracts of the functions beneath the Anim laws. -/
import Derived.Test.YtchmpdibbklpfaaAnim0
namespace Go.Proofs.Ytchmpdibbklpfaa.anim
open Go.RowKit Go.Proofs.Ytchmpdibbklpfaa.base

set_option maxHeartbeats 1000000 in
theorem bend_ct (a b k : Int) (w : World) (a0 : 0 ≤ a) (a1 : a ≤ 1000) (b0 : 0 ≤ b) (b1 : b ≤ 1000) (k0 : 0 ≤ k) (k1 : k ≤ 4096) :
    Calls Try.prog 34 #[.int .i64 a, .int .i64 b, .int .i64 k] w fun e w' => e = .returned (.int .i64 (bendI a b k)) ∧ w = w' := by
  have j0 : 0 ≤ 4096 - k := by omega
  have j1 : 4096 - k ≤ 4096 := by omega
  have t0 : 0 ≤ 3 * (4096 - k) := by omega
  have t1 : 3 * (4096 - k) ≤ 12288 := by omega
  obtain ⟨u0, u1⟩ := mulb t0 t1 j0 j1
  obtain ⟨v0, v1⟩ := mulb u0 u1 k0 k1
  obtain ⟨w0, w1⟩ := mulb v0 v1 a0 a1
  obtain ⟨x0, x1⟩ := mulb t0 t1 k0 k1
  obtain ⟨y0, y1⟩ := mulb x0 x1 k0 k1
  obtain ⟨z0, z1⟩ := mulb y0 y1 b0 b1
  obtain ⟨r0, r1⟩ := mulb k0 k1 k0 k1
  obtain ⟨s0, s1⟩ := mulb r0 r1 k0 k1
  have Hf := Lib.hid (show bendI a b k = (3 * (4096 - k) * (4096 - k) * k * a + 3 * (4096 - k) * k * k * b + k * k * k * 1000) / 68719476736 from rfl)
  go_enter Try.func34, Try.ntmps34
  go_wp2
  go_ret
  exact ⟨by rw [Hf.out]; rfl, rfl⟩

set_option maxHeartbeats 1000000 in
theorem in_ct (n lo hi : Int) (w : World) :
    Calls Try.prog 24 #[.int .i64 n, .int .i64 lo, .int .i64 hi] w fun e w' => e = .returned (.bool (inB n lo hi)) ∧ w = w' := by
  by_cases h : lo ≤ n
  · have Hf := Lib.hid (show inB n lo hi = decide (n ≤ hi) by simp [inB, h])
    go_enter Try.func24, Try.ntmps24
    go_wp2
    go_ret
    exact ⟨by rw [Hf.out]; rfl, rfl⟩
  · have Hf := Lib.hid (show inB n lo hi = false by simp [inB, h])
    go_enter Try.func24, Try.ntmps24
    go_wp2
    go_ret
    exact ⟨by rw [Hf.out]; rfl, rfl⟩

set_option maxHeartbeats 1000000 in
theorem part_ct (a b t : Int) (w : World) (a0 : -16777216 ≤ a) (a1 : a ≤ 16777216) (b0 : -16777216 ≤ b) (b1 : b ≤ 16777216) (t0 : 0 ≤ t) (t1 : t ≤ 1000) :
    Calls Try.prog 26 #[.int .i64 a, .int .i64 b, .int .i64 t] w fun e w' => e = .returned (.int .i64 (partI a b t)) ∧ w = w' := by
  have m1 : (b - a) * t ≤ 33554432 * 1000 := by
    have := Int.mul_le_mul_of_nonneg_right (show b - a ≤ 33554432 by omega) t0
    omega
  have m0 : -(33554432 * 1000) ≤ (b - a) * t := by
    have := Int.mul_le_mul_of_nonneg_right (show -33554432 ≤ b - a by omega) t0
    omega
  rcases Int.lt_or_le ((b - a) * t) 0 with hx | hx
  · have q := tq _ hx
    have r := tr _ hx
    have q1 : -33554432 ≤ ((b - a) * t).tdiv 1000 := by rw [q]; omega
    have q2 : ((b - a) * t).tdiv 1000 ≤ 0 := by rw [q]; omega
    by_cases hr : ((b - a) * t).tmod 1000 < 0
    · have Hf := Lib.hid (show partI a b t = a + (((b - a) * t).tdiv 1000 - 1) by unfold partI; omega)
      clear q r
      go_enter Try.func26, Try.ntmps26
      go_wp2
      go_ret
      exact ⟨by rw [Hf.out]; rfl, rfl⟩
    · have Hf := Lib.hid (show partI a b t = a + ((b - a) * t).tdiv 1000 by unfold partI; omega)
      clear q r
      go_enter Try.func26, Try.ntmps26
      go_wp2
      go_ret
      exact ⟨by rw [Hf.out]; rfl, rfl⟩
  · have Hf := Lib.hid (show partI a b t = a + (b - a) * t / 1000 from rfl)
    go_enter Try.func26, Try.ntmps26
    go_wp2
    go_ret
    exact ⟨by rw [Hf.out]; rfl, rfl⟩

set_option maxHeartbeats 1000000 in
theorem cut_ct (n : Int) (w : World) :
    Calls Try.prog 27 #[.int .i64 n] w fun e w' => e = .returned (.int .i64 (cutI n)) ∧ w = w' := by
  by_cases h1 : n < -16777216
  · have Hf := Lib.hid (show cutI n = -16777216 by unfold cutI; omega)
    go_enter Try.func27, Try.ntmps27
    go_wp2
    go_ret
    exact ⟨by rw [Hf.out]; rfl, rfl⟩
  · by_cases h2 : 16777216 < n
    · have Hf := Lib.hid (show cutI n = 16777216 by unfold cutI; omega)
      go_enter Try.func27, Try.ntmps27
      go_wp2
      go_ret
      exact ⟨by rw [Hf.out]; rfl, rfl⟩
    · have Hf := Lib.hid (show cutI n = n by unfold cutI; omega)
      go_enter Try.func27, Try.ntmps27
      go_wp2
      go_ret
      exact ⟨by rw [Hf.out]; rfl, rfl⟩

theorem run_eq_int (d : Nat) (w : World) (a b : Int) : (Op.equalIn (d + 1) 3 (.int .i64 a) (.int .i64 b)).run Try.prog w = .ok (a == b) w := by
  simp [Op.equalIn, run_underlying Try.underlying3]

set_option maxRecDepth 100000 in
theorem run_eq4 (n : Nat) (w : World) (a b c d e f g h : Int) :
    (Op.equalIn (n + 1 + 1) 27 (.agg #[.int .i64 a, .int .i64 b, .int .i64 c, .int .i64 d]) (.agg #[.int .i64 e, .int .i64 f, .int .i64 g, .int .i64 h])).run Try.prog w = .ok (a == e && b == f && c == g && d == h) w := by
  rw [Op.equalIn]
  rw [Sem.run_bind, run_underlying Try.underlying27]
  simp only [Result.andThen_ok]
  rw [Sem.run_bind]
  have hs : ∀ w, (sizeOf 3).run Try.prog w = .ok 1 w := fun w => by kernel_rfl
  rw [hs]
  simp only [Result.andThen_ok]
  have hp : ∀ (x0 x1 x2 x3 : Value) (w : World), (part 3 #[x0, x1, x2, x3] (0 * 1)).run Try.prog w = .ok x0 w ∧ (part 3 #[x0, x1, x2, x3] (1 * 1)).run Try.prog w = .ok x1 w ∧ (part 3 #[x0, x1, x2, x3] (2 * 1)).run Try.prog w = .ok x2 w ∧ (part 3 #[x0, x1, x2, x3] (3 * 1)).run Try.prog w = .ok x3 w := by
    intro x0 x1 x2 x3 w
    refine ⟨?_, ?_, ?_, ?_⟩ <;> kernel_rfl
  simp only [Std.Legacy.Range.forIn_eq_forIn_range', Std.Legacy.Range.size]
  simp only [show List.range' 0 ((4 - 0 + 1 - 1) / 1) 1 = [0, 1, 2, 3] from rfl, List.forIn_cons, List.forIn_nil]
  cases h1 : a == e <;> cases h2 : b == f <;> cases h3 : c == g <;> cases h4 : d == h <;>
    simp [Sem.run_bind, hp, run_eq_int, h1, h2, h3, h4, Result.andThen_ok]

end Go.Proofs.Ytchmpdibbklpfaa.anim
