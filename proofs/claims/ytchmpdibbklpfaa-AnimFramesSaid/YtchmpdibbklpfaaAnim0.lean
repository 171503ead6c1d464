/- The plain mathematics of chapter ANIM: easings, mixing, frames. No program. -/
import Derived.Test.YtchmpdibbklpfaaBits
namespace Go.Proofs.Ytchmpdibbklpfaa.anim

/-- bounds of a product -/
theorem mulb {x y X Y : Int} (h0 : 0 ≤ x) (h1 : x ≤ X) (k0 : 0 ≤ y) (k1 : y ≤ Y) : 0 ≤ x * y ∧ x * y ≤ X * Y :=
  ⟨Int.mul_nonneg h0 k0, Int.mul_le_mul h1 k1 k0 (Int.le_trans h0 h1)⟩

def inB (n lo hi : Int) : Bool := decide (lo ≤ n) && decide (n ≤ hi)
theorem inB_iff (n lo hi : Int) : inB n lo hi = true ↔ lo ≤ n ∧ n ≤ hi := by simp [inB]

/-- a curve's number at a place from 0 to 4096 -/
def bendN (a b k : Int) : Int := 3 * (4096 - k) * (4096 - k) * k * a + 3 * (4096 - k) * k * k * b + k * k * k * 1000
def bendI (a b k : Int) : Int := bendN a b k / 68719476736

/-- a right easing -/
def easingB (kind c0 c1 c2 c3 n : Int) : Bool :=
  if kind = 1 then (c0 == 0 && c1 == 0 && c2 == 0 && c3 == 0 && n == 0)
  else if kind = 3 then (inB n 1 1000 && (c0 == 0 && c1 == 0 && c2 == 0 && c3 == 0))
  else if kind = 2 then (inB c0 0 1000 && inB c1 0 1000 && inB c2 0 1000 && inB c3 0 1000 && n == 0)
  else false

/-- the first place at which a curve is not below t -/
def firstN (a b t : Int) : Nat := ((List.range 4097).find? (fun i : Nat => decide (t ≤ bendI a b (i : Int)))).getD 4096

def firstK (a b t : Int) : Int := (firstN a b t : Nat)

def easedI (kind c0 c1 c2 c3 n t : Int) : Int :=
  if kind = 3 then t * n / 1000 * 1000 / n
  else if kind = 2 then bendI c1 c3 (firstK c0 c2 t)
  else t

theorem mul_low {a X : Int} (h0 : 0 ≤ a) (h1 : a ≤ 1000) : 0 ≤ a * X ∨ 1000 * X ≤ a * X := by
  rcases Int.le_total 0 X with h | h
  · exact .inl (Int.mul_nonneg h0 h)
  · exact .inr (Int.mul_le_mul_of_nonpos_right h1 h)

/-- never back: from one place to the next -/
theorem bendN_step (a b k : Int) (a0 : 0 ≤ a) (a1 : a ≤ 1000) (b0 : 0 ≤ b) (b1 : b ≤ 1000) (k0 : 0 ≤ k) (k1 : k + 1 ≤ 4096) : bendN a b k ≤ bendN a b (k + 1) := by
  have e : bendN a b (k + 1) = bendN a b k + a * (50331648 - 24576 * (2 * k + 1) + 3 * (3 * (k * k) + 3 * k + 1)) + b * (12288 * (2 * k + 1) - 3 * (3 * (k * k) + 3 * k + 1)) + 1000 * (3 * (k * k) + 3 * k + 1) := by
    unfold bendN
    grind
  have f1 : 0 ≤ (4095 - 2 * k) * (4095 - 2 * k) := by rcases Int.le_total 0 (4095 - 2 * k) with h | h; exact Int.mul_nonneg h h; exact Int.mul_nonneg_of_nonpos_of_nonpos h h
  have f2 : 0 ≤ k * (4095 - k) := Int.mul_nonneg k0 (by omega)
  have f3 : 0 ≤ (4095 - k) * (4095 - k) := Int.mul_nonneg (by omega) (by omega)
  have f4 : 0 ≤ k * k := Int.mul_nonneg k0 k0
  have g1 : (4095 - 2 * k) * (4095 - 2 * k) = 16769025 - 16380 * k + 4 * (k * k) := by grind
  have g2 : k * (4095 - k) = 4095 * k - k * k := by grind
  have g3 : (4095 - k) * (4095 - k) = 16769025 - 8190 * k + k * k := by grind
  rw [g1] at f1; rw [g2] at f2; rw [g3] at f3
  rw [e]
  clear e g1 g2 g3
  generalize k * k = s at *
  rcases mul_low (X := 50331648 - 24576 * (2 * k + 1) + 3 * (3 * s + 3 * k + 1)) a0 a1 with h | h <;> rcases mul_low (X := 12288 * (2 * k + 1) - 3 * (3 * s + 3 * k + 1)) b0 b1 with h' | h' <;>
    generalize a * (50331648 - 24576 * (2 * k + 1) + 3 * (3 * s + 3 * k + 1)) = u at * <;> generalize b * (12288 * (2 * k + 1) - 3 * (3 * s + 3 * k + 1)) = v at * <;> omega

theorem bendN_mono (a b : Int) (a0 : 0 ≤ a) (a1 : a ≤ 1000) (b0 : 0 ≤ b) (b1 : b ≤ 1000) : ∀ (d : Nat) (k : Int), 0 ≤ k → k + d ≤ 4096 → bendN a b k ≤ bendN a b (k + d) := by
  intro d
  induction d with
  | zero => intro k _ _; simp
  | succ d ih =>
    intro k k0 k1
    have h1 := ih k k0 (by omega)
    have h2 := bendN_step a b (k + d) a0 a1 b0 b1 (by omega) (by omega)
    have e : k + ((d + 1 : Nat) : Int) = k + d + 1 := by omega
    rw [e]
    omega

theorem bendI_mono {a b k l : Int} (a0 : 0 ≤ a) (a1 : a ≤ 1000) (b0 : 0 ≤ b) (b1 : b ≤ 1000) (k0 : 0 ≤ k) (kl : k ≤ l) (l1 : l ≤ 4096) : bendI a b k ≤ bendI a b l := by
  have h := bendN_mono a b a0 a1 b0 b1 (l - k).toNat k k0 (by omega)
  have e : k + ((l - k).toNat : Int) = l := by omega
  rw [e] at h
  unfold bendI
  exact Int.ediv_le_ediv (by decide) h

theorem bendI_zero (a b : Int) : bendI a b 0 = 0 := by simp [bendI, bendN]
theorem bendI_all (a b : Int) : bendI a b 4096 = 1000 := by simp [bendI, bendN]
theorem bendI_range {a b k : Int} (a0 : 0 ≤ a) (a1 : a ≤ 1000) (b0 : 0 ≤ b) (b1 : b ≤ 1000) (k0 : 0 ≤ k) (k1 : k ≤ 4096) : 0 ≤ bendI a b k ∧ bendI a b k ≤ 1000 := by
  have h1 := bendI_mono a0 a1 b0 b1 (Int.le_refl 0) k0 k1
  have h2 := bendI_mono a0 a1 b0 b1 k0 k1 (Int.le_refl 4096)
  rw [bendI_zero] at h1
  rw [bendI_all] at h2
  exact ⟨h1, h2⟩

/-- the last step is a true one -/
theorem bendI_last {a b k : Int} (a0 : 0 ≤ a) (a1 : a ≤ 1000) (b0 : 0 ≤ b) (b1 : b ≤ 1000) (k0 : 0 ≤ k) (k1 : k < 4096) : bendI a b k < 1000 := by
  have h := bendI_mono a0 a1 b0 b1 k0 (show k ≤ 4095 by omega) (by decide)
  have h2 : bendI a b 4095 < 1000 := by
    unfold bendI bendN
    omega
  omega

theorem firstN_spec {a b t : Int} (t1 : t ≤ 1000) : firstN a b t ≤ 4096 ∧ t ≤ bendI a b (firstN a b t : Nat) ∧ ∀ i : Nat, i < firstN a b t → bendI a b i < t := by
  unfold firstN
  cases h : (List.range 4097).find? (fun i : Nat => decide (t ≤ bendI a b (i : Int))) with
  | none =>
    rw [List.find?_eq_none] at h
    have := h 4096 (by simp)
    have e : ((4096 : Nat) : Int) = 4096 := rfl
    simp only [e, bendI_all] at this
    simp at this
    omega
  | some n =>
    have h1 := List.find?_some h
    have h2 := List.mem_of_find?_eq_some h
    simp only [Option.getD_some]
    simp at h1 h2
    refine ⟨by omega, h1, fun i hi => ?_⟩
    rw [List.find?_range_eq_some] at h
    have := h.2.2 i hi
    simpa using this

theorem firstN_unique {a b t : Int} {n : Nat} (t1 : t ≤ 1000) (h1 : t ≤ bendI a b n) (h2 : ∀ i : Nat, i < n → bendI a b i < t) : firstN a b t = n := by
  obtain ⟨_, q1, q2⟩ := firstN_spec (a := a) (b := b) t1
  rcases Nat.lt_trichotomy (firstN a b t) n with h | h | h
  · have := h2 _ h; omega
  · exact h
  · have := q2 _ h; omega

theorem firstN_mono {a b s t : Int} (h : s ≤ t) (t1 : t ≤ 1000) : firstN a b s ≤ firstN a b t := by
  obtain ⟨_, _, p⟩ := firstN_spec (a := a) (b := b) (Int.le_trans h t1)
  obtain ⟨_, q, _⟩ := firstN_spec (a := a) (b := b) t1
  rcases Nat.lt_or_ge (firstN a b t) (firstN a b s) with h' | h'
  · have := p _ h'
    omega
  · exact h'

/-- what easing and t must be -/
structure Right (kind c0 c1 c2 c3 n : Int) : Prop where
  steps : kind = 3 → 1 ≤ n ∧ n ≤ 1000
  curve : kind = 2 → (0 ≤ c0 ∧ c0 ≤ 1000) ∧ (0 ≤ c1 ∧ c1 ≤ 1000) ∧ (0 ≤ c2 ∧ c2 ≤ 1000) ∧ (0 ≤ c3 ∧ c3 ≤ 1000)

theorem easingB_right {kind c0 c1 c2 c3 n : Int} (h : easingB kind c0 c1 c2 c3 n = true) : Right kind c0 c1 c2 c3 n := by
  constructor
  · intro hk
    subst hk
    simp [easingB, inB] at h
    omega
  · intro hk
    subst hk
    simp [easingB, inB] at h
    omega

theorem stepsI_mono {n s t : Int} (n0 : 1 ≤ n) (h : s ≤ t) : s * n / 1000 * 1000 / n ≤ t * n / 1000 * 1000 / n := by
  have h1 : s * n ≤ t * n := Int.mul_le_mul_of_nonneg_right h (by omega)
  have h2 : s * n / 1000 ≤ t * n / 1000 := Int.ediv_le_ediv (by decide) h1
  exact Int.ediv_le_ediv (by omega) (by omega)

theorem easedI_mono {kind c0 c1 c2 c3 n s t : Int} (r : Right kind c0 c1 c2 c3 n) (h : s ≤ t) (t1 : t ≤ 1000) : easedI kind c0 c1 c2 c3 n s ≤ easedI kind c0 c1 c2 c3 n t := by
  unfold easedI
  split
  · rename_i hk; exact stepsI_mono (r.steps hk).1 h
  · split
    · rename_i hk
      obtain ⟨h0, h1, h2, h3⟩ := r.curve hk
      have hm := firstN_mono (a := c0) (b := c2) h t1
      have hl := (firstN_spec (a := c0) (b := c2) t1).1
      exact bendI_mono h1.1 h1.2 h3.1 h3.2 (by unfold firstK; omega) (by unfold firstK; omega) (by unfold firstK; omega)
    · exact h

theorem easedI_zero {kind c0 c1 c2 c3 n : Int} : easedI kind c0 c1 c2 c3 n 0 = 0 := by
  unfold easedI
  split
  · simp
  · split
    · have h : firstN c0 c2 0 = 0 := firstN_unique (by decide) (by simp [bendI_zero]) (fun i hi => by omega)
      simp [firstK, h, bendI_zero]
    · rfl

theorem easedI_all {kind c0 c1 c2 c3 n : Int} (r : Right kind c0 c1 c2 c3 n) : easedI kind c0 c1 c2 c3 n 1000 = 1000 := by
  unfold easedI
  split
  · rename_i hk
    have h1 := (r.steps hk).1
    have e1 : 1000 * n / 1000 = n := by omega
    rw [e1, Int.mul_comm n 1000]
    exact Int.mul_ediv_cancel _ (by omega)
  · split
    · rename_i hk
      obtain ⟨h0, h1, h2, h3⟩ := r.curve hk
      have h : firstN c0 c2 1000 = 4096 := firstN_unique (by decide) (by rw [show ((4096 : Nat) : Int) = 4096 from rfl, bendI_all]; decide) (fun i hi => bendI_last h0.1 h0.2 h2.1 h2.2 (by omega) (by omega))
      rw [firstK, h, show ((4096 : Nat) : Int) = 4096 from rfl, bendI_all]
    · rfl

theorem easedI_range {kind c0 c1 c2 c3 n t : Int} (r : Right kind c0 c1 c2 c3 n) (t0 : 0 ≤ t) (t1 : t ≤ 1000) : 0 ≤ easedI kind c0 c1 c2 c3 n t ∧ easedI kind c0 c1 c2 c3 n t ≤ 1000 := by
  have h1 := easedI_mono r t0 t1
  have h2 := easedI_mono r t1 (Int.le_refl _)
  rw [easedI_zero] at h1
  rw [easedI_all r] at h2
  exact ⟨h1, h2⟩

/-- a number of thousandths on the way from one number to another one -/
def partI (a b t : Int) : Int := a + (b - a) * t / 1000
def cutI (n : Int) : Int := min (max n (-16777216)) 16777216

theorem partI_range {a b t A B : Int} (a0 : A ≤ a) (a1 : a ≤ B) (b0 : A ≤ b) (b1 : b ≤ B) (t0 : 0 ≤ t) (t1 : t ≤ 1000) : A ≤ partI a b t ∧ partI a b t ≤ B := by
  unfold partI
  rcases Int.le_total a b with h | h
  · have h1 : 0 ≤ (b - a) * t := Int.mul_nonneg (by omega) t0
    have h2 : (b - a) * t ≤ (b - a) * 1000 := Int.mul_le_mul_of_nonneg_left t1 (by omega)
    omega
  · have h1 : (b - a) * t ≤ 0 := Int.mul_nonpos_of_nonpos_of_nonneg (by omega) t0
    have h2 : (b - a) * 1000 ≤ (b - a) * t := Int.mul_le_mul_of_nonpos_left (by omega) t1
    omega
theorem partI_same (a t : Int) : partI a a t = a := by simp [partI]
theorem partI_zero (a b : Int) : partI a b 0 = a := by simp [partI]
theorem partI_all (a b : Int) : partI a b 1000 = b := by unfold partI; omega

/-- between both -/
theorem partI_between {a b t : Int} (t0 : 0 ≤ t) (t1 : t ≤ 1000) : min a b ≤ partI a b t ∧ partI a b t ≤ max a b :=
  partI_range (by omega) (by omega) (by omega) (by omega) t0 t1

def clampT (t : Int) : Int := min (max t 0) 1000
def byteI (n d : Int) : Int := n % 4294967296 / d % 256
theorem byteI_range (n d : Int) : 0 ≤ byteI n d ∧ byteI n d ≤ 255 := by unfold byteI; omega
def mixC (a b t : Int) : Int := ((partI (byteI a 16777216) (byteI b 16777216) t * 256 + partI (byteI a 65536) (byteI b 65536) t) * 256 + partI (byteI a 256) (byteI b 256) t) * 256 + partI (byteI a 1) (byteI b 1) t

/-- a value mixed of two: its kind, its number -/
def mixK (ka kb t : Int) : Int := if ka = kb ∧ 2 ≤ ka ∧ ka ≤ 4 then ka else if ka = 5 ∧ kb = 5 then 5 else if clampT t < 500 then ka else kb
def mixN (ka na kb nb t : Int) : Int := if ka = kb ∧ 2 ≤ ka ∧ ka ≤ 4 then partI (cutI na) (cutI nb) (clampT t) else if ka = 5 ∧ kb = 5 then mixC na nb (clampT t) else if clampT t < 500 then na else nb

theorem tq (x : Int) (h : x < 0) : x.tdiv 1000 = -((-x) / 1000) := by
  have e : x = -(-x) := by omega
  rw [e, Int.neg_tdiv, Int.tdiv_eq_ediv_of_nonneg (by omega)]
  simp
theorem tr (x : Int) (h : x < 0) : x.tmod 1000 = -((-x) % 1000) := by
  have e : x = -(-x) := by omega
  rw [e, Int.neg_tmod, Int.tmod_eq_emod_of_nonneg (by omega)]
  simp

end Go.Proofs.Ytchmpdibbklpfaa.anim
