/- Contracts and plain law, a bundle: Bits Col0 Col1 Col2 Col3 Col4 Col5. -/
import Derived.Laws.BitsAllLaws
import Derived.Test.YtaihncbejhnceaaDoorBA
import Derived.Test.YtaihncbejhnceaaDoorBB
import Derived.Test.YtaihncbejhnceaaDoorShelf2
import Derived.Test.YtaihncbejhnceaaDoorBK

namespace Go.Proofs.YtaihncbejhnceaaDoor.base
open Go.RowKit

theorem i64_or_nat (a b : Nat) (ha : a < 1099511627776) (hb : b < 1099511627776) : bits .or .i64 (a : Int) (b : Int) = ((a ||| b : Nat) : Int) := by
  have hx : a ||| b < 2 ^ 40 := Nat.or_lt_two_pow ha hb
  have hx' : a ||| b < 1099511627776 := hx
  show IntKind.i64.wrap ((BitVec.ofInt 64 (a : Int) ||| BitVec.ofInt 64 (b : Int)).toNat : Int) = _
  have e : (BitVec.ofInt 64 (a : Int) ||| BitVec.ofInt 64 (b : Int)).toNat = a ||| b := by
    rw [BitVec.toNat_or, ofInt_u64 a (by omega), ofInt_u64 b (by omega)]
  rw [e]
  clear e
  generalize a ||| b = c at *
  exact IntWalk.i64_in _ (by omega)

/-- a byte behind another number -/
theorem or_byte (x p : Int) (x0 : 0 ≤ x) (x1 : x ≤ 16777215) (p0 : 0 ≤ p) (p1 : p ≤ 255) : bits BinOp.or IntKind.i64 (x * 256) p = x * 256 + p := by
  obtain ⟨X, rfl⟩ := Int.eq_ofNat_of_zero_le x0
  obtain ⟨Q, rfl⟩ := Int.eq_ofNat_of_zero_le p0
  have h := i64_or_nat (X * 256) Q (by omega) (by omega)
  rw [nat_join 8 (X * 256) Q (by omega) (by omega)] at h
  simpa using h

theorem or_zero (p : Int) (p0 : 0 ≤ p) (p1 : p ≤ 255) : bits BinOp.or IntKind.i64 0 p = p := by
  have h := or_byte 0 p (by decide) (by decide) p0 p1
  simpa using h

theorem and_byte (x : Int) (h0 : 0 ≤ x) (h1 : x < 4294967296) : wrap64 (bits BinOp.and IntKind.u32 x 255) = x % 256 := by
  rw [u32_and x 255 h0 h1 (by decide) (by decide)]
  have e : x.toNat &&& (255 : Int).toNat = x.toNat % 256 := nat_mask8 _
  rw [e]
  have e2 : ((x.toNat % 256 : Nat) : Int) = x % 256 := by omega
  rw [e2]
  exact IntWalk.wrap64_in _ (by omega)

end Go.Proofs.YtaihncbejhnceaaDoor.base

namespace Go.Proofs.YtaihncbejhnceaaDoor.col
open Go.RowKit
set_option linter.unusedVariables false

/-- a byte of a color, so many above the lowest -/
def byteP (c : Int) : Nat → Int
  | 0 => c % 256
  | 1 => c / 256 % 256
  | 2 => c / 65536 % 256
  | _ => c / 16777216 % 256
theorem byte_le (c : Int) (i : Nat) : 0 ≤ byteP c i ∧ byteP c i ≤ 255 := by
  unfold byteP
  split <;> omega
def fadeP (c n : Int) : Int := c - c % 256 + c % 256 * (min (max n 0) 1000) / 1000
theorem fade_byte (c n : Int) (h0 : 0 ≤ c) : 0 ≤ c % 256 * (min (max n 0) 1000) / 1000 ∧ c % 256 * (min (max n 0) 1000) / 1000 ≤ c % 256 := by
  have ha : 0 ≤ c % 256 := by omega
  generalize c % 256 = a at *
  have hk : 0 ≤ min (max n 0) 1000 ∧ min (max n 0) 1000 ≤ 1000 := by omega
  generalize min (max n 0) 1000 = k at *
  have h1 : 0 ≤ a * k := Int.mul_nonneg ha hk.1
  have h2 : a * k ≤ a * 1000 := Int.mul_le_mul_of_nonneg_left hk.2 ha
  omega
theorem fade_mod (c n : Int) (h0 : 0 ≤ c) : fadeP c n % 256 = c % 256 * (min (max n 0) 1000) / 1000 ∧ fadeP c n / 256 = c / 256 ∧ 0 ≤ fadeP c n := by
  have h := fade_byte c n h0
  unfold fadeP
  generalize c % 256 * (min (max n 0) 1000) / 1000 = q at *
  omega
theorem fade_mono (c n m : Int) (h0 : 0 ≤ c) (h : n ≤ m) : fadeP c n % 256 ≤ fadeP c m % 256 := by
  rw [(fade_mod c n h0).1, (fade_mod c m h0).1]
  have ha : 0 ≤ c % 256 := by omega
  have hk : min (max n 0) 1000 ≤ min (max m 0) 1000 := by omega
  exact Int.ediv_le_ediv (by decide) (Int.mul_le_mul_of_nonneg_left hk ha)
theorem fade_all (c : Int) (h0 : 0 ≤ c) : fadeP c 1000 = c := by
  unfold fadeP
  have : c % 256 * (min (max 1000 0) 1000) / 1000 = c % 256 := by
    rw [show (min (max (1000 : Int) 0) 1000) = 1000 by decide, Int.mul_ediv_cancel _ (by decide)]
  omega
theorem fade_none (c : Int) (h0 : 0 ≤ c) : fadeP c 0 % 256 = 0 := by
  rw [(fade_mod c 0 h0).1, show (min (max (0 : Int) 0) 1000) = 0 by decide, Int.mul_zero]
  rfl

/-- how much two hide together -/
def allP (a b : Int) : Int := a + b - a * b / 255
theorem all_bd (a b : Int) (ha : 0 ≤ a ∧ a ≤ 255) (hb : 0 ≤ b ∧ b ≤ 255) : a ≤ allP a b ∧ b ≤ allP a b ∧ allP a b ≤ 255 ∧ 0 ≤ allP a b ∧ 255 * a + 255 * b - a * b ≤ 255 * allP a b := by
  unfold allP
  have h1 : a * b ≤ a * 255 := Int.mul_le_mul_of_nonneg_left hb.2 ha.1
  have h2 : a * b ≤ 255 * b := Int.mul_le_mul_of_nonneg_right ha.2 hb.1
  have h3 : 0 ≤ a * b := Int.mul_nonneg ha.1 hb.1
  have h4 : 0 ≤ (255 - a) * (255 - b) := Int.mul_nonneg (by omega) (by omega)
  have h5 : (255 - a) * (255 - b) = 65025 - 255 * a - 255 * b + a * b := by
    rw [Int.sub_mul, Int.mul_sub, Int.mul_sub]; omega
  generalize a * b = p at *
  omega
/-- one part of both -/
def mixP (a b A B : Int) : Int := min ((A * a * 255 + B * b * (255 - a)) / (allP a b * 255)) 255
theorem mix_bd (a b A B : Int) (ha : 0 ≤ a ∧ a ≤ 255) (hb : 0 ≤ b ∧ b ≤ 255) (hA : 0 ≤ A ∧ A ≤ 255) (hB : 0 ≤ B ∧ B ≤ 255) (hall : 0 < allP a b) : 0 ≤ mixP a b A B ∧ mixP a b A B ≤ max A B := by
  have hb5 := (all_bd a b ha hb).2.2.2.2
  have n1 : 0 ≤ A * a := Int.mul_nonneg hA.1 ha.1
  have n2 : 0 ≤ B * b * (255 - a) := Int.mul_nonneg (Int.mul_nonneg hB.1 hb.1) (by omega)
  have hM : 0 ≤ max A B := by omega
  have m1 : A * a ≤ max A B * a := Int.mul_le_mul_of_nonneg_right (by omega) ha.1
  have m2 : B * b ≤ max A B * b := Int.mul_le_mul_of_nonneg_right (by omega) hb.1
  have m3 : B * b * (255 - a) ≤ max A B * b * (255 - a) := Int.mul_le_mul_of_nonneg_right m2 (by omega)
  have m4 : max A B * (255 * a + 255 * b - a * b) ≤ max A B * (255 * allP a b) := Int.mul_le_mul_of_nonneg_left hb5 hM
  have e1 : max A B * (255 * a + 255 * b - a * b) = max A B * a * 255 + max A B * b * (255 - a) := by
    generalize max A B = M
    rw [Int.mul_sub, Int.mul_add, Int.mul_sub (M * b) 255 a, Int.mul_assoc M b a, Int.mul_comm b a]
    rw [show M * (255 * a) = M * a * 255 by rw [Int.mul_comm 255 a, Int.mul_assoc], show M * (255 * b) = M * b * 255 by rw [Int.mul_comm 255 b, Int.mul_assoc]]
    omega
  have num : A * a * 255 + B * b * (255 - a) ≤ max A B * (allP a b * 255) := by
    rw [Int.mul_comm (allP a b) 255]
    omega
  have hd : 0 < allP a b * 255 := by omega
  have q0 : 0 ≤ (A * a * 255 + B * b * (255 - a)) / (allP a b * 255) := Int.ediv_nonneg (by omega) (by omega)
  have q1 : (A * a * 255 + B * b * (255 - a)) / (allP a b * 255) ≤ max A B := by
    have := Int.ediv_le_ediv hd num
    rwa [Int.mul_ediv_cancel _ (by omega)] at this
  unfold mixP
  omega
theorem mix_full (b A B : Int) (hb : 0 ≤ b ∧ b ≤ 255) (hA : 0 ≤ A ∧ A ≤ 255) : mixP 255 b A B = A := by
  have h1 : allP 255 b = 255 := by unfold allP; rw [Int.mul_comm, Int.mul_ediv_cancel _ (by decide)]; omega
  unfold mixP
  rw [h1, show (255 : Int) - 255 = 0 by decide, Int.mul_zero, Int.add_zero, Int.mul_assoc, Int.mul_ediv_cancel _ (by decide)]
  omega
theorem mix_clear (b A B : Int) (hb : 0 < b ∧ b ≤ 255) (hB : 0 ≤ B ∧ B ≤ 255) : mixP 0 b A B = B := by
  have h1 : allP 0 b = b := by unfold allP; rw [Int.zero_mul]; omega
  unfold mixP
  rw [h1, Int.mul_zero, Int.zero_mul, Int.zero_add, show (255 : Int) - 0 = 255 by decide, Int.mul_assoc, Int.mul_ediv_cancel _ (by omega)]
  omega
def overP (t u : Int) : Int :=
  if allP (byteP t 0) (byteP u 0) = 0 then 0 else
  ((mixP (byteP t 0) (byteP u 0) (byteP t 3) (byteP u 3) * 256 + mixP (byteP t 0) (byteP u 0) (byteP t 2) (byteP u 2)) * 256 + mixP (byteP t 0) (byteP u 0) (byteP t 1) (byteP u 1)) * 256 + allP (byteP t 0) (byteP u 0)
theorem byte_sum (c : Int) (h : 0 ≤ c ∧ c < 4294967296) : ((byteP c 3 * 256 + byteP c 2) * 256 + byteP c 1) * 256 + byteP c 0 = c := by
  unfold byteP
  simp only
  omega
/-- what hides wholly is itself -/
theorem over_full (t u : Int) (ht : 0 ≤ t ∧ t < 4294967296) (h255 : t % 256 = 255) : overP t u = t := by
  have h0 : byteP t 0 = 255 := h255
  have hb := byte_le u 0
  have h1 : allP 255 (byteP u 0) = 255 := by unfold allP; rw [Int.mul_comm, Int.mul_ediv_cancel _ (by decide)]; omega
  have hs := byte_sum t ht
  unfold overP
  rw [h0, h1, if_neg (by decide), mix_full _ _ _ hb (byte_le t 3), mix_full _ _ _ hb (byte_le t 2), mix_full _ _ _ hb (byte_le t 1)]
  rw [h0] at hs
  exact hs
/-- what is clear shows what is under it -/
theorem over_clear (t u : Int) (hu : 0 ≤ u ∧ u < 4294967296) (h0 : t % 256 = 0) : overP t u = if u % 256 = 0 then 0 else u := by
  have ht : byteP t 0 = 0 := h0
  have hb := byte_le u 0
  have h1 : allP 0 (byteP u 0) = byteP u 0 := by unfold allP; rw [Int.zero_mul]; omega
  have hs := byte_sum u hu
  have hx : byteP u 0 = u % 256 := rfl
  unfold overP
  rw [ht, h1]
  by_cases hz : u % 256 = 0
  · rw [if_pos (by omega), if_pos hz]
  · rw [if_neg (by omega), if_neg hz, mix_clear _ _ _ ⟨by omega, hb.2⟩ (byte_le u 3), mix_clear _ _ _ ⟨by omega, hb.2⟩ (byte_le u 2), mix_clear _ _ _ ⟨by omega, hb.2⟩ (byte_le u 1)]
    exact hs
/-- neither clearer, nor brighter than both -/
theorem over_bytes (t u : Int) : max (t % 256) (u % 256) ≤ overP t u % 256 ∧ overP t u / 256 % 256 ≤ max (t / 256 % 256) (u / 256 % 256) ∧ overP t u / 65536 % 256 ≤ max (t / 65536 % 256) (u / 65536 % 256) ∧ overP t u / 16777216 % 256 ≤ max (t / 16777216 % 256) (u / 16777216 % 256) ∧ 0 ≤ overP t u ∧ overP t u < 4294967296 := by
  have ha := byte_le t 0
  have hb := byte_le u 0
  have hall := all_bd _ _ ha hb
  have e0 : byteP t 0 = t % 256 := rfl
  have f0 : byteP u 0 = u % 256 := rfl
  have e1 : byteP t 1 = t / 256 % 256 := rfl
  have f1 : byteP u 1 = u / 256 % 256 := rfl
  have e2 : byteP t 2 = t / 65536 % 256 := rfl
  have f2 : byteP u 2 = u / 65536 % 256 := rfl
  have e3 : byteP t 3 = t / 16777216 % 256 := rfl
  have f3 : byteP u 3 = u / 16777216 % 256 := rfl
  by_cases hz : allP (byteP t 0) (byteP u 0) = 0
  · unfold overP
    rw [if_pos hz]
    omega
  · have m3 := mix_bd _ _ _ _ ha hb (byte_le t 3) (byte_le u 3) (by omega)
    have m2 := mix_bd _ _ _ _ ha hb (byte_le t 2) (byte_le u 2) (by omega)
    have m1 := mix_bd _ _ _ _ ha hb (byte_le t 1) (byte_le u 1) (by omega)
    have b3 := byte_le t 3
    have b2 := byte_le t 2
    have b1 := byte_le t 1
    have c3 := byte_le u 3
    have c2 := byte_le u 2
    have c1 := byte_le u 1
    unfold overP
    rw [if_neg hz]
    generalize mixP (byteP t 0) (byteP u 0) (byteP t 3) (byteP u 3) = x3 at *
    generalize mixP (byteP t 0) (byteP u 0) (byteP t 2) (byteP u 2) = x2 at *
    generalize mixP (byteP t 0) (byteP u 0) (byteP t 1) (byteP u 1) = x1 at *
    generalize allP (byteP t 0) (byteP u 0) = x0 at *
    rw [← e1, ← e2, ← e3, ← f1, ← f2, ← f3, ← e0, ← f0]
    clear e0 e1 e2 e3 f0 f1 f2 f3
    generalize byteP t 0 = p0 at *
    generalize byteP t 1 = p1 at *
    generalize byteP t 2 = p2 at *
    generalize byteP t 3 = p3 at *
    generalize byteP u 0 = r0 at *
    generalize byteP u 1 = r1 at *
    generalize byteP u 2 = r2 at *
    generalize byteP u 3 = r3 at *
    omega

end Go.Proofs.YtaihncbejhnceaaDoor.col

namespace Go.Proofs.YtaihncbejhnceaaDoor.col
open Go.RowKit Go.Proofs.YtaihncbejhnceaaDoor.base
set_option linter.unusedVariables false

def c32 (c : Int) : Int := IntKind.u32.wrap c
theorem c32_bd (c : Int) : 0 ≤ c32 c ∧ c32 c < 4294967296 := by
  unfold c32
  simp [IntKind.wrap, IntKind.bits, IntKind.signed]; omega

set_option maxRecDepth 100000 in
set_option maxHeartbeats 1000000 in
theorem part_ct (c : Int) (n : Nat) (hn : n ≤ 3) (w : World) : Calls Tryd.prog 54 #[.int .i64 c, .int .i64 n] w fun e w' => e = .returned (.int .i64 (byteP (c32 c) n)) ∧ w = w' := by
  have hb := c32_bd c
  unfold c32 at *
  generalize hx : IntKind.u32.wrap c = x at *
  match n, hn with
  | 0, _ =>
    have e := and_byte x hb.1 hb.2
    show Calls Tryd.prog 54 #[.int .i64 c, .int .i64 0] w _
    go_enter Tryd.func54, Tryd.ntmps54
    go_wp2
    go_ret
    exact ⟨by rw [e]; rfl, rfl⟩
  | 1, _ =>
    have e := and_byte (x / 256) (by omega) (by omega)
    show Calls Tryd.prog 54 #[.int .i64 c, .int .i64 1] w _
    go_enter Tryd.func54, Tryd.ntmps54
    go_wp2
    go_ret
    exact ⟨by rw [e]; rfl, rfl⟩
  | 2, _ =>
    have e := and_byte (x / 65536) (by omega) (by omega)
    show Calls Tryd.prog 54 #[.int .i64 c, .int .i64 2] w _
    go_enter Tryd.func54, Tryd.ntmps54
    go_wp2
    go_ret
    exact ⟨by rw [e]; rfl, rfl⟩
  | 3, _ =>
    have e := and_byte (x / 16777216) (by omega) (by omega)
    show Calls Tryd.prog 54 #[.int .i64 c, .int .i64 3] w _
    go_enter Tryd.func54, Tryd.ntmps54
    go_wp2
    go_ret
    exact ⟨by rw [e]; rfl, rfl⟩
  | n + 4, h => omega

theorem part0 (c : Int) (w : World) : Calls Tryd.prog 54 #[.int .i64 c, .int .i64 0] w fun e w' => e = .returned (.int .i64 (byteP (c32 c) 0)) ∧ w = w' := part_ct c 0 (by decide) w
theorem part1 (c : Int) (w : World) : Calls Tryd.prog 54 #[.int .i64 c, .int .i64 1] w fun e w' => e = .returned (.int .i64 (byteP (c32 c) 1)) ∧ w = w' := part_ct c 1 (by decide) w
theorem part2 (c : Int) (w : World) : Calls Tryd.prog 54 #[.int .i64 c, .int .i64 2] w fun e w' => e = .returned (.int .i64 (byteP (c32 c) 2)) ∧ w = w' := part_ct c 2 (by decide) w
theorem part3 (c : Int) (w : World) : Calls Tryd.prog 54 #[.int .i64 c, .int .i64 3] w fun e w' => e = .returned (.int .i64 (byteP (c32 c) 3)) ∧ w = w' := part_ct c 3 (by decide) w

theorem nat_high (X : Nat) (h : X < 4294967296) : X &&& 4294967040 = X / 256 * 256 := by
  have e1 : X / 256 * 256 = (X >>> 8) <<< 8 := by rw [Nat.shiftRight_eq_div_pow, Nat.shiftLeft_eq]
  have e2 : (4294967040 : Nat) = (2 ^ 24 - 1) <<< 8 := by decide
  rw [e1, e2]
  apply Nat.eq_of_testBit_eq
  intro i
  rw [Nat.testBit_and, Nat.testBit_shiftLeft, Nat.testBit_shiftLeft, Nat.testBit_shiftRight, Nat.testBit_two_pow_sub_one]
  by_cases h8 : 8 ≤ i
  · rw [decide_eq_true (show i ≥ 8 from h8), Bool.true_and, Bool.true_and, show 8 + (i - 8) = i by omega]
    by_cases h32 : i - 8 < 24
    · rw [decide_eq_true h32, Bool.and_true]
    · rw [Nat.testBit_lt_two_pow (Nat.lt_of_lt_of_le h (show 2 ^ 32 ≤ 2 ^ i from Nat.pow_le_pow_right (by decide) (by omega))), Bool.false_and]
  · rw [decide_eq_false (show ¬ i ≥ 8 from h8), Bool.false_and, Bool.false_and, Bool.and_false]
theorem andNot_byte (x : Int) (h0 : 0 ≤ x) (h1 : x < 4294967296) : wrap64 (bits BinOp.andNot IntKind.u32 x 255) = x / 256 * 256 := by
  rw [u32_andNot x 255 h0 h1 (by decide) (by decide), show (4294967295 - (255 : Int).toNat) = 4294967040 by decide, nat_high _ (by omega)]
  have : ((x.toNat / 256 * 256 : Nat) : Int) = x / 256 * 256 := by omega
  rw [this]
  exact IntWalk.wrap64_in _ (by omega)

set_option maxRecDepth 100000 in
set_option maxHeartbeats 1000000 in
theorem fade_ct (c n : Int) (w : World) : Calls Tryd.prog 27 #[.int .i64 c, .int .i64 n] w fun e w' => e = .returned (.int .i64 (fadeP (c32 c) n)) ∧ w = w' := by
  have cP := part0 c
  have hb := c32_bd c
  have e0 : byteP (c32 c) 0 = c32 c % 256 := rfl
  rw [e0] at cP
  have hA := andNot_byte (c32 c) hb.1 hb.2
  have hOr : ∀ k : Int, 0 ≤ k → k ≤ 1000 → fadeP (c32 c) k = bits BinOp.or IntKind.i64 (c32 c / 256 * 256) (c32 c % 256 * k / 1000) := fun k h0 h1 => by
    have hq := fade_byte (c32 c) k hb.1
    rw [show min (max k 0) 1000 = k by omega] at hq
    unfold fadeP
    rw [or_byte (c32 c / 256) _ (by omega) (by omega) hq.1 (by omega), show min (max k 0) 1000 = k by omega]
    omega
  have hk : (fadeP (c32 c) n = fadeP (c32 c) 0 ∧ n < 0) ∨ (0 ≤ n ∧ n ≤ 1000) ∨ (fadeP (c32 c) n = fadeP (c32 c) 1000 ∧ 1000 < n) := by
    by_cases h1 : n < 0
    · exact .inl ⟨by unfold fadeP; rw [show min (max n 0) 1000 = min (max 0 0) 1000 by omega], h1⟩
    · by_cases h2 : n ≤ 1000
      · exact .inr (.inl ⟨by omega, h2⟩)
      · exact .inr (.inr ⟨by unfold fadeP; rw [show min (max n 0) 1000 = min (max 1000 0) 1000 by omega], by omega⟩)
  replace cP := Lib.hid cP
  have HOr := Lib.hid hOr
  have hx0 : 0 ≤ c32 c % 256 ∧ c32 c % 256 ≤ 255 := by omega
  clear hOr e0
  unfold c32 at *
  generalize hx : IntKind.u32.wrap c = x at *
  rcases hk with ⟨hf, h1⟩ | ⟨h1, h2⟩ | ⟨hf, h1⟩
  · have hmm : min (max n 0) 1000 = 0 := by omega
    have hz0 : x % 256 * 0 / 1000 = 0 := by rw [Int.mul_zero]; rfl
    rw [hf, HOr.out 0 (by decide) (by decide), hz0]
    clear hf
    go_enter Tryd.func27, Tryd.ntmps27
    go_wp2_with ((go_at_call 54; (with_reducible refine (cP.out _).mono ?_); rintro e W1 ⟨rfl, rfl⟩))
    go_ret
    exact ⟨rfl, rfl⟩
  · have hmm : min (max n 0) 1000 = n := by omega
    rw [HOr.out n h1 h2]
    have hm1 : 0 ≤ x % 256 * n := Int.mul_nonneg hx0.1 h1
    have hm2 : x % 256 * n ≤ 255 * n := Int.mul_le_mul_of_nonneg_right hx0.2 h1
    generalize hy : x % 256 * n = y at *
    go_enter Tryd.func27, Tryd.ntmps27
    go_wp2_with ((go_at_call 54; (with_reducible refine (cP.out _).mono ?_); rintro e W1 ⟨rfl, rfl⟩))
    go_ret
    exact ⟨rfl, rfl⟩
  · have hmm : min (max n 0) 1000 = 1000 := by omega
    rw [hf, HOr.out 1000 (by decide) (by decide), Int.mul_ediv_cancel _ (by decide)]
    clear hf
    go_enter Tryd.func27, Tryd.ntmps27
    go_wp2_with ((go_at_call 54; (with_reducible refine (cP.out _).mono ?_); rintro e W1 ⟨rfl, rfl⟩))
    go_ret
    exact ⟨rfl, rfl⟩

end Go.Proofs.YtaihncbejhnceaaDoor.col

namespace Go.Proofs.YtaihncbejhnceaaDoor.col
open Go.RowKit Go.Proofs.YtaihncbejhnceaaDoor.base
set_option linter.unusedVariables false

/-- one round's numbers -/
structure Small (a b A B : Int) : Prop where
  p1 : 0 ≤ A * a ∧ A * a ≤ 65025
  p2 : 0 ≤ B * b ∧ B * b ≤ 65025
  p3 : 0 ≤ B * b * (255 - a) ∧ B * b * (255 - a) ≤ 16581375
theorem small (a b A B : Int) (ha : 0 ≤ a ∧ a ≤ 255) (hb : 0 ≤ b ∧ b ≤ 255) (hA : 0 ≤ A ∧ A ≤ 255) (hB : 0 ≤ B ∧ B ≤ 255) : Small a b A B := by
  have h1 : 0 ≤ A * a := Int.mul_nonneg hA.1 ha.1
  have h2 : A * a ≤ 255 * a := Int.mul_le_mul_of_nonneg_right hA.2 ha.1
  have h3 : 0 ≤ B * b := Int.mul_nonneg hB.1 hb.1
  have h4 : B * b ≤ 255 * b := Int.mul_le_mul_of_nonneg_right hB.2 hb.1
  have h5 : 0 ≤ B * b * (255 - a) := Int.mul_nonneg h3 (by omega)
  have h6 : B * b * (255 - a) ≤ 65025 * (255 - a) := Int.mul_le_mul_of_nonneg_right (by omega) (by omega)
  exact ⟨by omega, by omega, by omega⟩

def outF (x3 x2 x1 : Int) : Nat → Int
  | 0 => 0
  | 1 => x3
  | 2 => x3 * 256 + x2
  | _ => (x3 * 256 + x2) * 256 + x1

set_option maxRecDepth 100000 in
set_option maxHeartbeats 2000000 in
theorem over_ct (t u : Int) (w : World) : Calls Tryd.prog 28 #[.int .i64 t, .int .i64 u] w fun e w' => e = .returned (.int .i64 (overP (c32 t) (c32 u))) ∧ w = w' := by
  have ct0 := Lib.hid (part0 t)
  have ct1 := Lib.hid (part1 t)
  have ct2 := Lib.hid (part2 t)
  have ct3 := Lib.hid (part3 t)
  have cu0 := Lib.hid (part0 u)
  have cu1 := Lib.hid (part1 u)
  have cu2 := Lib.hid (part2 u)
  have cu3 := Lib.hid (part3 u)
  have ha := byte_le (c32 t) 0
  have hb := byte_le (c32 u) 0
  have hA3 := byte_le (c32 t) 3
  have hA2 := byte_le (c32 t) 2
  have hA1 := byte_le (c32 t) 1
  have hB3 := byte_le (c32 u) 3
  have hB2 := byte_le (c32 u) 2
  have hB1 := byte_le (c32 u) 1
  unfold overP
  generalize byteP (c32 t) 0 = a at *
  generalize byteP (c32 u) 0 = b at *
  generalize byteP (c32 t) 1 = A1 at *
  generalize byteP (c32 t) 2 = A2 at *
  generalize byteP (c32 t) 3 = A3 at *
  generalize byteP (c32 u) 1 = B1 at *
  generalize byteP (c32 u) 2 = B2 at *
  generalize byteP (c32 u) 3 = B3 at *
  have hall := all_bd a b ha hb
  have hab0 : 0 ≤ a * b := Int.mul_nonneg ha.1 hb.1
  have hab1 : a * b ≤ 255 * b := Int.mul_le_mul_of_nonneg_right ha.2 hb.1
  have hall2 : a + b - a * b / 255 = allP a b := rfl
  have sm3 := small a b A3 B3 ha hb hA3 hB3
  have sm2 := small a b A2 B2 ha hb hA2 hB2
  have sm1 := small a b A1 B1 ha hb hA1 hB1
  by_cases hz : allP a b = 0
  · rw [if_pos hz]
    clear ct1 ct2 ct3 cu1 cu2 cu3 sm1 sm2 sm3
    generalize hp : a * b = p at *
    have hx : a + b - p / 255 = 0 := by omega
    go_enter Tryd.func28, Tryd.ntmps28
    go_wp2_with (first
      | (go_at_call 54; (with_reducible refine (ct0.out _).mono ?_); rintro e W1 ⟨rfl, rfl⟩)
      | (go_at_call 54; (with_reducible refine (cu0.out _).mono ?_); rintro e W1 ⟨rfl, rfl⟩))
    go_ret
    exact ⟨rfl, rfl⟩
  rw [if_neg hz]
  have m3 := mix_bd a b A3 B3 ha hb hA3 hB3 (by omega)
  have m2 := mix_bd a b A2 B2 ha hb hA2 hB2 (by omega)
  have m1 := mix_bd a b A1 B1 ha hb hA1 hB1 (by omega)
  have b3 : 0 ≤ mixP a b A3 B3 ∧ mixP a b A3 B3 ≤ 255 := by omega
  have b2 : 0 ≤ mixP a b A2 B2 ∧ mixP a b A2 B2 ≤ 255 := by omega
  have b1 : 0 ≤ mixP a b A1 B1 ∧ mixP a b A1 B1 ≤ 255 := by omega
  have d3 : min ((A3 * a * 255 + B3 * b * (255 - a)) / (allP a b * 255)) 255 = mixP a b A3 B3 := rfl
  have d2 : min ((A2 * a * 255 + B2 * b * (255 - a)) / (allP a b * 255)) 255 = mixP a b A2 B2 := rfl
  have d1 : min ((A1 * a * 255 + B1 * b * (255 - a)) / (allP a b * 255)) 255 = mixP a b A1 B1 := rfl
  clear m1 m2 m3
  generalize mixP a b A3 B3 = x3 at *
  generalize mixP a b A2 B2 = x2 at *
  generalize mixP a b A1 B1 = x1 at *
  have hN0 : 0 < allP a b := by omega
  have hN1 : allP a b ≤ 255 := hall.2.2.1
  generalize allP a b = N at *
  generalize hp : a * b = p at *
  have HN := Lib.hid hall
  have or3 := or_zero x3 b3.1 b3.2
  have or2 := or_byte x3 x2 b3.1 (by omega) b2.1 b2.2
  have or1 := or_byte (x3 * 256 + x2) x1 (by omega) (by omega) b1.1 b1.2
  have or0 := or_byte ((x3 * 256 + x2) * 256 + x1) N (by omega) (by omega) (by omega) (by omega)
  obtain ⟨⟨p31, p32⟩, ⟨p33, p34⟩, p35, p36⟩ := sm3
  obtain ⟨⟨p21, p22⟩, ⟨p23, p24⟩, p25, p26⟩ := sm2
  obtain ⟨⟨p11, p12⟩, ⟨p13, p14⟩, p15, p16⟩ := sm1
  clear hall
  have hzb : (N == 0) = false := by simpa using hz
  have i0 : ∀ w, (Instr.index 96 (.agg #[.int .i64 3, .int .i64 2, .int .i64 1]) (.int .i64 0)).run Tryd.prog w = .ok (.int .i64 3) w := fun _ => by kernel_rfl
  have i1 : ∀ w, (Instr.index 96 (.agg #[.int .i64 3, .int .i64 2, .int .i64 1]) (.int .i64 1)).run Tryd.prog w = .ok (.int .i64 2) w := fun _ => by kernel_rfl
  have i2 : ∀ w, (Instr.index 96 (.agg #[.int .i64 3, .int .i64 2, .int .i64 1]) (.int .i64 2)).run Tryd.prog w = .ok (.int .i64 1) w := fun _ => by kernel_rfl
  go_enter Tryd.func28, Tryd.ntmps28
  go_wp2_with (first
    | (go_at_call 54; (with_reducible refine (ct0.out _).mono ?_); rintro e W1 ⟨rfl, rfl⟩)
    | (go_at_call 54; (with_reducible refine (cu0.out _).mono ?_); rintro e W1 ⟨rfl, rfl⟩))
  go_loopw [8, 27] (fun o k wr => ∃ m : Nat, m ≤ 3 ∧ wr = w ∧ k = .int .i64 m ∧ o = .int .i64 (outF x3 x2 x1 m)) (fun _ k _ => 3 - (intOf k).toNat)
  case atStart => exact ⟨0, by decide, rfl, rfl, rfl⟩
  case round =>
    obtain ⟨m, hm, rfl, hk, ho⟩ := hrel
    have hcase : (m = 0 ∧ u27 = .int .i64 0 ∧ u8 = .int .i64 0) ∨ (m = 1 ∧ u27 = .int .i64 1 ∧ u8 = .int .i64 x3) ∨ (m = 2 ∧ u27 = .int .i64 2 ∧ u8 = .int .i64 (x3 * 256 + x2)) ∨ (m = 3 ∧ u27 = .int .i64 3 ∧ u8 = .int .i64 ((x3 * 256 + x2) * 256 + x1)) := by
      rcases m with _ | _ | _ | _ | m
      · exact .inl ⟨rfl, hk, ho⟩
      · exact .inr (.inl ⟨rfl, hk, ho⟩)
      · exact .inr (.inr (.inl ⟨rfl, hk, ho⟩))
      · exact .inr (.inr (.inr ⟨rfl, hk, ho⟩))
      · omega
    clear hk ho hm
    rcases hcase with ⟨rfl, rfl, rfl⟩ | ⟨rfl, rfl, rfl⟩ | ⟨rfl, rfl, rfl⟩ | ⟨rfl, rfl, rfl⟩
    · by_cases hq : 255 < (A3 * a * 255 + B3 * b * (255 - a)) / (N * 255)
      · have hx : x3 = 255 := by omega
        go_wp2_with (first
          | (go_at_call 54; (with_reducible refine (ct3.out _).mono ?_); rintro e W1 ⟨rfl, rfl⟩)
          | (go_at_call 54; (with_reducible refine (cu3.out _).mono ?_); rintro e W1 ⟨rfl, rfl⟩))
        go_roundw
        case rel =>
          refine ⟨1, by decide, by first | rfl | trivial, rfl, ?_⟩
          simp only [outF]
          rw [← or3, hx]
        case measure => simp [intOf]
      · have hx := Lib.hid (show (A3 * a * 255 + B3 * b * (255 - a)) / (N * 255) = x3 by omega)
        go_wp2_with (first
          | (go_at_call 54; (with_reducible refine (ct3.out _).mono ?_); rintro e W1 ⟨rfl, rfl⟩)
          | (go_at_call 54; (with_reducible refine (cu3.out _).mono ?_); rintro e W1 ⟨rfl, rfl⟩))
        go_roundw
        case rel =>
          refine ⟨1, by decide, by first | rfl | trivial, rfl, ?_⟩
          simp only [outF]
          all_goals first | rw [hx.out, or3] | rw [hx.out]
        case measure => simp [intOf]
    · by_cases hq : 255 < (A2 * a * 255 + B2 * b * (255 - a)) / (N * 255)
      · have hx : x2 = 255 := by omega
        go_wp2_with (first
          | (go_at_call 54; (with_reducible refine (ct2.out _).mono ?_); rintro e W1 ⟨rfl, rfl⟩)
          | (go_at_call 54; (with_reducible refine (cu2.out _).mono ?_); rintro e W1 ⟨rfl, rfl⟩))
        go_roundw
        case rel =>
          refine ⟨2, by decide, by first | rfl | trivial, rfl, ?_⟩
          simp only [outF]
          rw [← or2, hx]
        case measure => simp [intOf]
      · have hx := Lib.hid (show (A2 * a * 255 + B2 * b * (255 - a)) / (N * 255) = x2 by omega)
        go_wp2_with (first
          | (go_at_call 54; (with_reducible refine (ct2.out _).mono ?_); rintro e W1 ⟨rfl, rfl⟩)
          | (go_at_call 54; (with_reducible refine (cu2.out _).mono ?_); rintro e W1 ⟨rfl, rfl⟩))
        go_roundw
        case rel =>
          refine ⟨2, by decide, by first | rfl | trivial, rfl, ?_⟩
          simp only [outF]
          all_goals first | rw [hx.out, or2] | rw [hx.out]
        case measure => simp [intOf]
    · by_cases hq : 255 < (A1 * a * 255 + B1 * b * (255 - a)) / (N * 255)
      · have hx : x1 = 255 := by omega
        go_wp2_with (first
          | (go_at_call 54; (with_reducible refine (ct1.out _).mono ?_); rintro e W1 ⟨rfl, rfl⟩)
          | (go_at_call 54; (with_reducible refine (cu1.out _).mono ?_); rintro e W1 ⟨rfl, rfl⟩))
        go_roundw
        case rel =>
          refine ⟨3, by decide, by first | rfl | trivial, rfl, ?_⟩
          simp only [outF]
          rw [← or1, hx]
        case measure => simp [intOf]
      · have hx := Lib.hid (show (A1 * a * 255 + B1 * b * (255 - a)) / (N * 255) = x1 by omega)
        go_wp2_with (first
          | (go_at_call 54; (with_reducible refine (ct1.out _).mono ?_); rintro e W1 ⟨rfl, rfl⟩)
          | (go_at_call 54; (with_reducible refine (cu1.out _).mono ?_); rintro e W1 ⟨rfl, rfl⟩))
        go_roundw
        case rel =>
          refine ⟨3, by decide, by first | rfl | trivial, rfl, ?_⟩
          simp only [outF]
          all_goals first | rw [hx.out, or1] | rw [hx.out]
        case measure => simp [intOf]
    · go_wp2_with fail
      go_ret
      exact ⟨rfl, rfl⟩

end Go.Proofs.YtaihncbejhnceaaDoor.col

namespace Go.Proofs.YtaihncbejhnceaaDoor.col
open Go.RowKit Go.Proofs.YtaihncbejhnceaaDoor.base Go.Proofs.YtaihncbejhnceaaDoor.tok
set_option linter.unusedVariables false

/-- a sign that a small hex digit is, and what it counts -/
def hexB (c : UInt8) : Bool := (decide (48 ≤ nv c) && decide (nv c ≤ 57)) || (decide (97 ≤ nv c) && decide (nv c ≤ 102))
def hexI (c : UInt8) : Int := if nv c ≤ 57 then nv c - 48 else nv c - 87
def hexV (l : Bs) : Int := l.foldl (fun n c => n * 16 + hexI c) 0
theorem hexV_succ {l : Bs} {k : Nat} (h : k < l.length) : hexV (l.take (k + 1)) = hexV (l.take k) * 16 + hexI l[k] := by
  unfold hexV
  rw [List.take_succ_eq_append_getElem h, List.foldl_append]
  rfl
theorem hexI_bd {c : UInt8} (h : hexB c = true) : 0 ≤ hexI c ∧ hexI c ≤ 15 := by
  unfold hexB at h
  unfold hexI
  simp only [Bool.or_eq_true, Bool.and_eq_true, decide_eq_true_eq] at h
  split <;> omega
theorem hexV_bd : ∀ (k : Nat) (l : Bs), l.all hexB = true → k ≤ l.length → k ≤ 8 → 0 ≤ hexV (l.take k) ∧ hexV (l.take k) < 16 ^ k
  | 0, l, _, _, _ => by simp [hexV]
  | k + 1, l, ha, hk, h8 => by
    obtain ⟨h1, h2⟩ := hexV_bd k l ha (by omega) (by omega)
    have hb := hexI_bd (List.all_eq_true.1 ha l[k] (List.getElem_mem _))
    rw [hexV_succ (by omega), Int.pow_succ]
    generalize hexV (l.take k) = x at *
    generalize (16 : Int) ^ k = p at *
    omega
theorem or32_fact : ∀ n : Fin 256, 97 ≤ n.val → n.val ≤ 102 → bits BinOp.or IntKind.u8 (n.val : Int) 32 = n.val := by decide +kernel
theorem or32 (n : Int) (h0 : 97 ≤ n) (h1 : n ≤ 102) : bits BinOp.or IntKind.u8 n 32 = n := by
  obtain ⟨k, rfl⟩ := Int.eq_ofNat_of_zero_le (show 0 ≤ n by omega)
  exact or32_fact ⟨k, by omega⟩ (by show 97 ≤ k; omega) (by show k ≤ 102; omega)

theorem p16 (k : Nat) (h : k ≤ 7) : (16 : Int) ^ k ≤ 268435456 := by
  have : ∀ k : Fin 8, (16 : Int) ^ k.val ≤ 268435456 := by decide
  exact this ⟨k, by omega⟩

set_option maxRecDepth 100000 in
set_option maxHeartbeats 4000000 in
theorem parse16_ct (l : Bs) (h0 : 1 ≤ l.length) (h8 : l.length ≤ 8) (ha : l.all hexB = true) (w : World) :
    Calls Tryd.prog 152 #[.string (bs l), .int .i64 16, .int .i64 64] w fun e w' => e = .returned (.tuple #[.int .u64 (hexV l), .nilIface]) ∧ Below w.heap.size w w' := by
  have hne : (bs l).toList.isEmpty = false := by rw [bs_toList]; cases l with | nil => simp at h0 | cons a b => rfl
  have hsz : (bs l).size = l.length := rfl
  have w64 : IntKind.u64.wrap 16 = 16 := rfl
  have w65 : IntKind.u64.wrap (IntKind.u64.wrap 18446744073709551616 - 1) = 18446744073709551615 := rfl
  go_enter Tryd.func152, Tryd.ntmps152
  go_wp2_with fail
  obtain ⟨cp, W1, hcv, hb1, hz1, hby, hfy⟩ := bytes_of (bs l) w
  rw [hcv]
  simp only [Result.andThen]
  rw [Oper.upon_value]
  have HB1 := Lib.hid hb1
  have HBy := Lib.hid hby
  clear hcv hby hfy hb1
  go_wp2_with fail
  go_loopw [12, 13, 101] (fun z n i wr => ∃ k : Nat, k ≤ l.length ∧ z = .bool false ∧ i = .int .i64 k ∧ n = .int .u64 (hexV (l.take k)) ∧ wr = W1) (fun _ _ i _ => l.length - (intOf i).toNat)
  case atStart => exact ⟨0, by omega, rfl, rfl, rfl, rfl⟩
  case round =>
    obtain ⟨k, hk, rfl, rfl, rfl, rfl⟩ := hrel
    by_cases hlt : k < l.length
    · have hlt' : (k : Int) < ((bs l).size : Int) := by omega
      have hc := HBy.out k l[k] (List.getElem?_eq_getElem hlt)
      have hX := hexV_bd k l ha hk (by omega)
      have hst := hexV_succ hlt
      have hB := List.all_eq_true.1 ha l[k] (List.getElem_mem _)
      have hI := hexI_bd hB
      have hp := p16 k (by omega)
      unfold hexB at hB
      simp only [Bool.or_eq_true, Bool.and_eq_true, decide_eq_true_eq] at hB
      have hIe : hexI l[k] = if nv l[k] ≤ 57 then nv l[k] - 48 else nv l[k] - 87 := rfl
      generalize hexI l[k] = d at *
      have hy : 0 ≤ hexV (l.take k) ∧ hexV (l.take k) < 268435456 := by omega
      generalize hexV (l.take k) = y at *
      have Hst := Lib.hid hst
      clear hX hp hst
      by_cases hd : nv l[k] ≤ 57
      · have hx48 : 48 ≤ nv l[k] := by omega
        rw [if_pos hd] at hIe
        clear hB
        generalize nv l[k] = x at *
        subst hIe
        go_wp2_with fail
        go_roundw
        case rel => exact ⟨k + 1, by omega, rfl, by go_num, by rw [Hst.out], trivial⟩
        case measure => simp [intOf]; omega
      · have hx97 : 97 ≤ nv l[k] := by omega
        have hx102 : nv l[k] ≤ 102 := by omega
        have hor := or32 (nv l[k]) hx97 hx102
        rw [if_neg hd] at hIe
        clear hB
        generalize nv l[k] = x at *
        subst hIe
        have hdd : x - 97 + 10 = x - 87 := by omega
        go_wp2_with (go_at_call 184; (with_reducible refine (Tryd.internal_strconv_lower _ _).mono ?_); rintro e W2 ⟨rfl, rfl⟩)
        go_roundw
        case rel => exact ⟨k + 1, by omega, rfl, by go_num, by rw [Hst.out], trivial⟩
        case measure => simp [intOf]; omega
    · obtain rfl : k = l.length := by omega
      rw [List.take_length]
      go_wp2_with fail
      go_ret2
      exact ⟨rfl, HB1.out⟩

end Go.Proofs.YtaihncbejhnceaaDoor.col

namespace Go.Proofs.YtaihncbejhnceaaDoor.col
open Go.RowKit Go.Proofs.YtaihncbejhnceaaDoor.base Go.Proofs.YtaihncbejhnceaaDoor.tok
set_option linter.unusedVariables false

set_option maxRecDepth 100000 in
set_option maxHeartbeats 2000000 in
theorem low_ct (s : ByteArray) (hs : s.size ≤ 140737488355328) (w : World) : Calls Tryd.prog 57 #[.string s] w fun e w' => e = .returned (.string (bs (s.data.toList.map lowB))) ∧ Below w.heap.size w w' := by
  have hz := Lib.hid (Lib.size_eq s)
  go_enter Tryd.func57, Tryd.ntmps57
  go_wp2_with fail
  obtain ⟨cp, W1, hcv, hb1, hz1, hby, hfy⟩ := bytes_of s w
  rw [hcv]
  simp only [Result.andThen]
  rw [Oper.upon_value]
  have hB0 := Lib.hid (show BytesAt W1 w.heap.size s.data.toList from ⟨hby, fun j hj => hfy j (by rw [hz.out]; exact hj)⟩)
  replace hb1 := Lib.hid hb1
  clear hcv hby hfy
  go_wp2_with fail
  go_loopw [10] (fun i wr => ∃ k : Nat, k ≤ s.size ∧ i = .int .i64 k ∧ BytesAt wr w.heap.size (lowAt s.data.toList k) ∧ W1.grownBy wr (some w.heap.size)) (fun i _ => s.size - (intOf i).toNat)
  case atStart => exact ⟨0, by omega, rfl, by simpa [lowAt] using hB0.out, World.grownBy.refl _ _⟩
  case round =>
    obtain ⟨k, hk, rfl, hby, hgr⟩ := hrel
    replace hgr := Lib.hid hgr
    by_cases hlt : k < s.size
    · have hlt' : (k : Int) < (s.size : Int) := by omega
      obtain ⟨c, hc⟩ : ∃ c, s.data.toList[k]? = some c := ⟨s.data.toList[k]'(by rw [← Lib.size_eq]; exact hlt), List.getElem?_eq_getElem _⟩
      have hkl : k < (lowAt s.data.toList k).length := by rw [lowAt_len, ← Lib.size_eq]; exact hlt
      have hcell := hby.1 k c (lowAt_get hc)
      have hfr := hby.2 k hkl
      have hst := Lib.hid (lowAt_step hc)
      have hsm := Lib.hid (set_same (lowAt_get hc))
      have hby' := Lib.hid hby
      have c0 := nv_nn c
      have c1 := nv_lt c
      clear hc hby
      by_cases h1 : 65 ≤ nv c
      · by_cases h2 : nv c ≤ 90
        · have hlo := Lib.hid (lowB_great ⟨h1, h2⟩)
          generalize hx : nv c = x at *
          replace hx := Lib.hid hx
          go_wp2_with fail
          go_roundw
          case rel =>
            refine ⟨k + 1, by omega, by go_num, ?_, hgr.out.trans (grown_set _ _ _ _)⟩
            rw [hst.out]
            exact hby'.out.put hkl hlo.out.symm
          case measure => simp [intOf]; omega
        · have hlo := Lib.hid (lowB_other (c := c) (fun h => h2 h.2))
          generalize hx : nv c = x at *
          replace hx := Lib.hid hx
          go_wp2_with fail
          go_roundw
          case rel => exact ⟨k + 1, by omega, by go_num, by rw [hst.out, hlo.out, hsm.out]; exact hby'.out, hgr.out⟩
          case measure => simp [intOf]; omega
      · have hlo := Lib.hid (lowB_other (c := c) (fun h => h1 h.1))
        generalize hx : nv c = x at *
        replace hx := Lib.hid hx
        go_wp2_with fail
        go_roundw
        case rel => exact ⟨k + 1, by omega, by go_num, by rw [hst.out, hlo.out, hsm.out]; exact hby'.out, hgr.out⟩
        case measure => simp [intOf]; omega
    · obtain rfl : k = s.size := by omega
      have hfin : lowAt s.data.toList s.size = s.data.toList.map lowB := by rw [Lib.size_eq]; exact lowAt_end _
      have hln : (s.data.toList.map lowB).length = s.size := by rw [List.length_map, Lib.size_eq]
      have hcv : ∀ cap, (convert 62 9 (.slice (some ⟨w.heap.size, 0, none⟩) s.size cap)).run Tryd.prog wr = .ok (.string (bs (s.data.toList.map lowB))) wr := fun cap => by
        have := run_convert_bytes_back wr 62 9 5 ⟨w.heap.size, 0, none⟩ cap (s.data.toList.map lowB) Tryd.underlying62 Tryd.underlying5 Tryd.underlying9 (fun j hj => by
          rw [add_zero_block]
          have hb2 := hby.1
          rw [hfin] at hb2
          exact hb2 j _ (List.getElem?_eq_getElem hj))
        rw [hln] at this
        exact this
      have hB := Lib.hid (below_grow hb1.out hgr.out (Nat.le_refl _) (by have := hb1.out.size; omega))
      clear hby hfin hln
      go_wp2
      go_ret
      exact ⟨rfl, hB.out⟩


theorem parse_ct (l : Bs) (h0 : 1 ≤ l.length) (h8 : l.length ≤ 8) (ha : l.all hexB = true) (w : World) :
    Calls Tryd.prog 97 #[.string (bs l), .int .i64 16, .int .i64 64] w fun e w' => e = .returned (.tuple #[.int .u64 (hexV l), .nilIface]) ∧ Below w.heap.size w w' := by
  have c1 := Lib.hid (parse16_ct l h0 h8 ha)
  clear h0 h8 ha
  go_enter Tryd.func97, Tryd.ntmps97
  go_wp2_with (go_at_call 152; (with_reducible refine (c1.out _).mono ?_); rintro e W1 ⟨rfl, hb1⟩; have HB1 := Lib.hid hb1; clear hb1)
  go_ret2
  exact ⟨rfl, HB1.out⟩

theorem named_ct (l : Bs) (w : World) :
    Calls Tryd.prog 58 #[.string (bs (35 :: l))] w fun e w' => e = .returned (.tuple #[.int .i64 0, .bool false]) ∧ w = w' := by
  have n0 : ((bs (35 :: l)).toList == [98, 108, 97, 99, 107]) = false := by rw [bs_toList]; rfl
  have n1 : ((bs (35 :: l)).toList == [115, 105, 108, 118, 101, 114]) = false := by rw [bs_toList]; rfl
  have n2 : ((bs (35 :: l)).toList == [103, 114, 97, 121]) = false := by rw [bs_toList]; rfl
  have n3 : ((bs (35 :: l)).toList == [119, 104, 105, 116, 101]) = false := by rw [bs_toList]; rfl
  have n4 : ((bs (35 :: l)).toList == [109, 97, 114, 111, 111, 110]) = false := by rw [bs_toList]; rfl
  have n5 : ((bs (35 :: l)).toList == [114, 101, 100]) = false := by rw [bs_toList]; rfl
  have n6 : ((bs (35 :: l)).toList == [112, 117, 114, 112, 108, 101]) = false := by rw [bs_toList]; rfl
  have n7 : ((bs (35 :: l)).toList == [102, 117, 99, 104, 115, 105, 97]) = false := by rw [bs_toList]; rfl
  have n8 : ((bs (35 :: l)).toList == [103, 114, 101, 101, 110]) = false := by rw [bs_toList]; rfl
  have n9 : ((bs (35 :: l)).toList == [108, 105, 109, 101]) = false := by rw [bs_toList]; rfl
  have n10 : ((bs (35 :: l)).toList == [111, 108, 105, 118, 101]) = false := by rw [bs_toList]; rfl
  have n11 : ((bs (35 :: l)).toList == [121, 101, 108, 108, 111, 119]) = false := by rw [bs_toList]; rfl
  have n12 : ((bs (35 :: l)).toList == [110, 97, 118, 121]) = false := by rw [bs_toList]; rfl
  have n13 : ((bs (35 :: l)).toList == [98, 108, 117, 101]) = false := by rw [bs_toList]; rfl
  have n14 : ((bs (35 :: l)).toList == [116, 101, 97, 108]) = false := by rw [bs_toList]; rfl
  have n15 : ((bs (35 :: l)).toList == [97, 113, 117, 97]) = false := by rw [bs_toList]; rfl
  have n16 : ((bs (35 :: l)).toList == [111, 114, 97, 110, 103, 101]) = false := by rw [bs_toList]; rfl
  go_enter Tryd.func58, Tryd.ntmps58
  go_wp2
  go_ret2
  exact ⟨rfl, rfl⟩

abbrev hexSet : Bs := [48, 49, 50, 51, 52, 53, 54, 55, 56, 57, 97, 98, 99, 100, 101, 102]
theorem hexSet_has (b : UInt8) : hexSet.contains b = hexB b := by
  revert b
  refine fun b => all_bytes (P := fun b => hexSet.contains b = hexB b) ?_ b
  decide +kernel
theorem drop_all (p : UInt8 → Bool) : ∀ l : Bs, (∀ x ∈ l, p x = true) → l.dropWhile p = []
  | [], _ => rfl
  | c :: l, h => by rw [List.dropWhile_cons_of_pos (h c (by simp)), drop_all p l (fun x hx => h x (by simp [hx]))]
theorem trim_hex (l : Bs) (ha : l.all hexB = true) : Lib.trimS l hexSet = [] := by
  unfold Lib.trimS Lib.trimRightS
  have h : (l.reverse.dropWhile (hexSet.contains ·)) = [] := by
    refine drop_all _ _ fun x hx => ?_
    rw [hexSet_has]
    exact List.all_eq_true.1 ha x (List.mem_reverse.1 hx)
  rw [h]
  rfl
theorem trim_ct (l : Bs) (h9 : l.length ≤ 100) (ha : l.all hexB = true) (w : World) :
    Calls Tryd.prog 95 #[.string (bs l), .string ⟨#[48, 49, 50, 51, 52, 53, 54, 55, 56, 57, 97, 98, 99, 100, 101, 102]⟩] w fun e w' => e = .returned (.string (bs [])) ∧ Below w.heap.size w w' := by
  have h := Any.strings_Trim_laid Tryd.lays160 (by kernel_rfl) (bs l) (bs hexSet) w (by rw [bs_size]; omega) (by decide) (ascii_of_all (by decide))
  rw [show (bs l).data.toList = l from rfl, show (bs hexSet).data.toList = hexSet from rfl, trim_hex l ha] at h
  exact h

/-- what a short one means -/
def dblS (l : Bs) : Bs := l.flatMap fun c => [c, c]
theorem dbl_succ {l : Bs} {k : Nat} (h : k < l.length) : dblS (l.take (k + 1)) = dblS (l.take k) ++ [l[k], l[k]] := by
  unfold dblS
  rw [List.take_succ_eq_append_getElem h, List.flatMap_append]
  rfl
theorem dbl_len : ∀ l : Bs, (dblS l).length = 2 * l.length
  | [] => rfl
  | c :: l => by
    have := dbl_len l
    have e : dblS (c :: l) = c :: c :: dblS l := rfl
    rw [e]
    simp only [List.length_cons]
    omega
theorem dbl_all : ∀ l : Bs, l.all hexB = true → (dblS l).all hexB = true
  | [], _ => rfl
  | c :: l, h => by
    have e : dblS (c :: l) = c :: c :: dblS l := rfl
    rw [List.all_cons, Bool.and_eq_true] at h
    rw [e, List.all_cons, List.all_cons, h.1, dbl_all l h.2]
    rfl
theorem rep_ct (c : UInt8) (w : World) : Calls Tryd.prog 96 #[.string (bs [c]), .int .i64 2] w fun e w' => e = .returned (.string (bs [c, c])) ∧ Below w.heap.size w w' :=
  Tryd.strings_Repeat (bs [c]) 2 w (by decide) (by show 1 * 2 ≤ 140737488355328; decide)
/-- .. and with all that it hides -/
def fullS (l : Bs) : Bs := if l.length = 6 then l ++ [102, 102] else l
def hexF (l : Bs) : Bs := fullS (if l.length = 3 ∨ l.length = 4 then dblS l else l)
theorem hexV_small (l : Bs) (ha : l.all hexB = true) (h8 : l.length ≤ 8) : 0 ≤ hexV l ∧ hexV l < 4294967296 := by
  have h := hexV_bd l.length l ha (Nat.le_refl _) h8
  rw [List.take_length] at h
  have hp : (16 : Int) ^ l.length ≤ 4294967296 := by
    have : ∀ k : Fin 9, (16 : Int) ^ k.val ≤ 4294967296 := by decide
    exact this ⟨l.length, by omega⟩
  omega

set_option maxRecDepth 100000 in
set_option maxHeartbeats 4000000 in
theorem hex_long (l : Bs) (h8 : l.length = 6 ∨ l.length = 8) (ha : l.all hexB = true) (w : World) :
    Calls Tryd.prog 60 #[.string (bs l)] w fun e w' => e = .returned (.tuple #[.int .i64 (hexV (fullS l)), .bool true]) ∧ Below w.heap.size w w' := by
  have cT := Lib.hid (fun w => trim_ct l (by omega) ha w)
  have hbe : (bs ([] : Bs)).toList.isEmpty = true := by rw [bs_toList]; rfl
  have hsz : (bs l).size = l.length := rfl
  rcases h8 with h8 | h8
  · have hff : bs l ++ ⟨#[102, 102]⟩ = bs (l ++ [102, 102]) := ByteArray.ext (by simp [bs, ByteArray.data_append])
    have ha2 : (l ++ [102, 102]).all hexB = true := by rw [List.all_append, ha]; rfl
    have hl2 : (l ++ [102, 102]).length = 8 := by rw [List.length_append, h8]; rfl
    have cP := fun w => parse_ct (l ++ [102, 102]) (by omega) (by omega) ha2 w
    rw [← hff] at cP
    have hV := hexV_small _ ha2 (by omega)
    rw [show fullS l = l ++ [102, 102] by rw [fullS, if_pos h8]]
    generalize hexV (l ++ [102, 102]) = x at *
    replace cP := Lib.hid cP
    have hs2 : (bs l ++ ⟨#[102, 102]⟩ : ByteArray).size = 8 := by rw [hff]; exact hl2
    clear ha ha2 hff hl2
    rw [h8] at hsz
    go_enter Tryd.func60, Tryd.ntmps60
    go_wp2_with (first
      | (go_at_call 95; (with_reducible refine (cT.out _).mono ?_); rintro e W1 ⟨rfl, hb1⟩; have HB1 := Lib.hid hb1; clear hb1)
      | (go_at_call 97; (with_reducible refine (cP.out _).mono ?_); rintro e W2 ⟨rfl, hb2⟩; have HB2 := Lib.hid (HB1.out.trans (hb2.mono HB1.out.size)); clear hb2))
    go_ret2
    exact ⟨rfl, HB2.out⟩
  · have cP := fun w => parse_ct l (by omega) (by omega) ha w
    have hV := hexV_small _ ha (by omega)
    rw [show fullS l = l by rw [fullS, if_neg (by omega)]]
    generalize hexV l = x at *
    replace cP := Lib.hid cP
    clear ha
    rw [h8] at hsz
    go_enter Tryd.func60, Tryd.ntmps60
    go_wp2_with (first
      | (go_at_call 95; (with_reducible refine (cT.out _).mono ?_); rintro e W1 ⟨rfl, hb1⟩; have HB1 := Lib.hid hb1; clear hb1)
      | (go_at_call 97; (with_reducible refine (cP.out _).mono ?_); rintro e W2 ⟨rfl, hb2⟩; have HB2 := Lib.hid (HB1.out.trans (hb2.mono HB1.out.size)); clear hb2))
    go_ret2
    exact ⟨rfl, HB2.out⟩

theorem bstr_ct (B b : Nat) (l : List UInt8) (w : World) (h : IsB B b l w) (hBw : B ≤ w.heap.size) :
    Calls Tryd.prog 36 #[.pointer (some ⟨b, 0, none⟩)] w fun e w' => e = .returned (.string (bs l)) ∧ Below B w w' := builderString_ct B b l w h hBw
theorem one_extract (l : Bs) (k : Nat) (h : k < l.length) : (bs l).extract k (k + 1) = bs [l[k]] := by
  apply ByteArray.ext
  have e : ((bs l).extract k (k + 1)).data.toList = [l[k]] := by
    rw [Lib.extract_data, Nat.add_sub_cancel_left]
    show (l.drop k).take 1 = [l[k]]
    rw [List.drop_eq_getElem_cons h]
    rfl
  exact Array.ext' e

set_option maxRecDepth 100000 in
set_option maxHeartbeats 4000000 in
theorem hex_short (l : Bs) (h8 : l.length = 3 ∨ l.length = 4) (ha : l.all hexB = true) (w : World) :
    Calls Tryd.prog 60 #[.string (bs l)] w fun e w' => e = .returned (.tuple #[.int .i64 (hexV (fullS (dblS l))), .bool true]) ∧ Below w.heap.size w w' := by
  have cT := Lib.hid (fun w => trim_ct l (by omega) ha w)
  have hbe : (bs ([] : Bs)).toList.isEmpty = true := by rw [bs_toList]; rfl
  have hsz : (bs l).size = l.length := rfl
  have hd := dbl_len l
  have had := dbl_all l ha
  have hl4 : l.length ≤ 4 := by omega
  have hfl : (fullS (dblS l)).length = 8 ∧ (fullS (dblS l)).all hexB = true ∧ ((l.length = 3 ∧ bs (dblS l) ++ ⟨#[102, 102]⟩ = bs (fullS (dblS l))) ∨ (l.length = 4 ∧ bs (dblS l) = bs (fullS (dblS l)))) := by
    unfold fullS
    rcases h8 with h8 | h8
    · rw [if_pos (by omega)]
      exact ⟨by rw [List.length_append]; simp; omega, by rw [List.all_append, had]; rfl, .inl ⟨h8, ByteArray.ext (by simp [bs, ByteArray.data_append])⟩⟩
    · rw [if_neg (by omega)]
      exact ⟨by omega, had, .inr ⟨h8, rfl⟩⟩
  obtain ⟨hf1, hf2, hf3⟩ := hfl
  have cP := fun w => parse_ct (fullS (dblS l)) (by omega) (by omega) hf2 w
  have hV := hexV_small _ hf2 (by omega)
  have hs2 : (bs (fullS (dblS l))).size = 8 := hf1
  generalize fullS (dblS l) = F at *
  generalize hexV F = x at *
  clear hf1 hf2 had
  rcases hf3 with ⟨h3, hff⟩ | ⟨h3, hff⟩
  all_goals (
  clear h8
  rw [← hff] at cP hs2
  replace cP := Lib.hid cP
  have hds : (bs (dblS l)).size = 2 * l.length := hd
  rw [h3] at hsz hds
  clear hff hd
  go_enter Tryd.func60, Tryd.ntmps60
  go_wp2_with ((go_at_call 95; (with_reducible refine (cT.out _).mono ?_); rintro e W1 ⟨rfl, hb1⟩; have HB1 := Lib.hid hb1; clear hb1))
  go_loopw [21] (fun i wr => ∃ k : Nat, k ≤ l.length ∧ i = .int .i64 k ∧ IsB w.heap.size W1.heap.size (dblS (l.take k)) wr ∧ Below w.heap.size w wr) (fun i _ => l.length - (intOf i).toNat)
  case atStart => exact ⟨0, by omega, rfl, IsB.new W1 _ HB1.out.size, HB1.out.alloc HB1.out.size _⟩
  case round =>
    obtain ⟨k, hk, rfl, hisb, hbel⟩ := hrel
    have HIs := Lib.hid hisb
    have HBl := Lib.hid hbel
    have hz := hbel.size
    have hkl : (dblS (l.take k)).length ≤ 8 := by rw [dbl_len, List.length_take]; omega
    clear hisb hbel
    by_cases hlt : k < l.length
    · have hlt' : (k : Int) < ((bs l).size : Int) := by rw [bs_size]; omega
      rw [hsz] at hlt'
      have hex : (bs l).extract k (k + 1) = bs [l[k]] := one_extract l k hlt
      have cR := Lib.hid (rep_ct l[k])
      have Hst := Lib.hid (dbl_succ hlt)
      go_wp2_with (first
        | (go_at_call 96; (with_reducible refine (cR.out _).mono ?_); rintro e W2 ⟨rfl, hb2⟩; have HB2 := Lib.hid (HBl.out.trans (hb2.mono hz)); have HI2 := Lib.hid (HIs.out.on hb2); clear hb2)
        | (go_at_call 71; (with_reducible refine (writeString_ct _ _ _ _ _ HI2.out (by rw [bs_size]; simp; omega) HB2.out.size).mono ?_); rintro e W3 ⟨rfl, hi3, hb3⟩; have HI3 := Lib.hid hi3; have HB3 := Lib.hid (HB2.out.trans hb3); clear hi3 hb3))
      go_roundw
      case rel => exact ⟨k + 1, by omega, by go_num, by rw [Hst.out]; exact HI3.out, HB3.out⟩
      case measure => simp [intOf]; omega
    · obtain rfl : k = l.length := by omega
      have HI := Lib.hid (show IsB w.heap.size W1.heap.size (dblS l) wr by have := HIs.out; rwa [List.take_length] at this)
      go_wp2_with (first
        | (go_at_call 36; (with_reducible refine (bstr_ct _ _ _ _ HI.out HBl.out.size).mono ?_); rintro e W2 ⟨rfl, hb2⟩; have HB2 := Lib.hid (HBl.out.trans hb2); clear hb2)
        | (go_at_call 97; (with_reducible refine (cP.out _).mono ?_); rintro e W3 ⟨rfl, hb3⟩; have HB3 := Lib.hid (HB2.out.trans (hb3.mono HB2.out.size)); clear hb3))
      go_ret2
      exact ⟨rfl, HB3.out⟩)

end Go.Proofs.YtaihncbejhnceaaDoor.col

namespace Go.Proofs.YtaihncbejhnceaaDoor.col
open Go.RowKit Go.Proofs.YtaihncbejhnceaaDoor.base Go.Proofs.YtaihncbejhnceaaDoor.tok
set_option linter.unusedVariables false

theorem hex_ct (l : Bs) (h8 : l.length = 3 ∨ l.length = 4 ∨ l.length = 6 ∨ l.length = 8) (ha : l.all hexB = true) (w : World) :
    Calls Tryd.prog 60 #[.string (bs l)] w fun e w' => e = .returned (.tuple #[.int .i64 (hexV (hexF l)), .bool true]) ∧ Below w.heap.size w w' := by
  unfold hexF
  by_cases h : l.length = 3 ∨ l.length = 4
  · rw [if_pos h]
    exact hex_short l h ha w
  · rw [if_neg h]
    exact hex_long l (by omega) ha w

theorem cut_hash (l : Bs) (w : World) : Calls Tryd.prog 59 #[.string (bs (35 :: l)), .string ⟨#[35]⟩] w fun e w' => e = .returned (.tuple #[.string (bs l), .bool true]) ∧ w = w' := by
  have h := Tryd.strings_CutPrefix (bs (35 :: l)) ⟨#[35]⟩ w
  have e1 : Lib.hasPrefix (35 :: l) [35] = true := by simp [Lib.hasPrefix]
  have e2 : Lib.trimPrefix (35 :: l) [35] = l := by simp [Lib.trimPrefix, Lib.hasPrefix]
  rw [show (bs (35 :: l)).data.toList = 35 :: l from rfl, show ((⟨#[35]⟩ : ByteArray)).data.toList = [35] from rfl, e1, e2] at h
  exact h.mono fun e w' ⟨he, hw⟩ => ⟨he, hw.symm⟩

set_option maxRecDepth 100000 in
set_option maxHeartbeats 4000000 in
theorem read_ct (s l : Bs) (hs : s.map lowB = 35 :: l) (h8 : l.length = 3 ∨ l.length = 4 ∨ l.length = 6 ∨ l.length = 8) (ha : l.all hexB = true) (w : World) :
    Calls Tryd.prog 30 #[.string (bs s)] w fun e w' => e = .returned (.tuple #[.int .i64 (hexV (hexF l)), .int .i64 0]) ∧ Below w.heap.size w w' := by
  have hlen : s.length = l.length + 1 := by have := congrArg List.length hs; simpa using this
  have cL := fun w => low_ct (bs s) (by rw [bs_size]; omega) w
  rw [show (bs s).data.toList = s from rfl, hs] at cL
  have cN := Lib.hid (named_ct l)
  have cC := Lib.hid (cut_hash l)
  have cH := Lib.hid (hex_ct l h8 ha)
  replace cL := Lib.hid cL
  have hT : ((bs (35 :: l)).toList == [116, 114, 97, 110, 115, 112, 97, 114, 101, 110, 116]) = false := by rw [bs_toList]; rfl
  generalize hexV (hexF l) = x at *
  clear hlen h8 ha
  go_enter Tryd.func30, Tryd.ntmps30
  go_wp2_with (first
    | (go_at_call 57; (with_reducible refine (cL.out _).mono ?_); rintro e W1 ⟨rfl, hb1⟩; have HB1 := Lib.hid hb1; clear hb1)
    | (go_at_call 58; (with_reducible refine (cN.out _).mono ?_); rintro e W2 ⟨rfl, rfl⟩)
    | (go_at_call 59; (with_reducible refine (cC.out _).mono ?_); rintro e W3 ⟨rfl, rfl⟩)
    | (go_at_call 60; (with_reducible refine (cH.out _).mono ?_); rintro e W4 ⟨rfl, hb4⟩; have HB4 := Lib.hid (HB1.out.trans (hb4.mono HB1.out.size)); clear hb4))
  go_ret2
  exact ⟨rfl, HB4.out⟩

set_option maxRecDepth 100000 in
set_option maxHeartbeats 4000000 in
theorem red_ct (w : World) : Calls Tryd.prog 26 #[] w fun e w' => e = .returned (.bool true) ∧ Below w.heap.size w w' := by
  have c1 : ∀ w, Calls Tryd.prog 30 #[.string ⟨#[35, 70, 48, 48]⟩] w fun e w' => e = .returned (.tuple #[.int .i64 4278190335, .int .i64 0]) ∧ Below w.heap.size w w' := fun w => by
    have h := read_ct [35, 70, 48, 48] [102, 48, 48] (by decide) (by decide) (by decide) w
    have e : hexV (hexF [102, 48, 48]) = 4278190335 := by decide
    rwa [e] at h
  replace c1 := Lib.hid c1
  go_enter Tryd.func26, Tryd.ntmps26
  go_wp2_with (go_at_call 30; (with_reducible refine (c1.out _).mono ?_); rintro e W1 ⟨rfl, hb1⟩; have HB1 := Lib.hid hb1; clear hb1)
  go_ret
  exact ⟨rfl, HB1.out⟩

end Go.Proofs.YtaihncbejhnceaaDoor.col
