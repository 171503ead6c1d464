/- The plain law of frames: at a frame's own time a change says that frame's value. No walk. -/
import Derived.Test.YtchmpdibbklpfaaAnimTurned
namespace Go.Proofs.Ytchmpdibbklpfaa.anim.framed
open Go.RowKit Go.Proofs.Ytchmpdibbklpfaa.base Go.Proofs.Ytchmpdibbklpfaa.anim.turned
set_option linter.unusedVariables false

/-- the values that the law lets through -/
def Fine (k n : Int) : Prop := ¬ ((2 ≤ k ∧ k ≤ 4) ∧ (16777216 < n ∨ n < -16777216)) ∧ ¬ (k = 5 ∧ (n < 0 ∨ 4294967295 < n))

theorem mix_zero {k n : Int} (k' n' : Int) (h : Fine k n) : mixK k k' 0 = k ∧ mixN k n k' n' 0 = n := by
  obtain ⟨h1, h2⟩ := h
  have hc : clampT 0 = 0 := by decide
  unfold mixK mixN
  rw [hc]
  by_cases c1 : k = k' ∧ 2 ≤ k ∧ k ≤ 4
  · rw [if_pos c1, if_pos c1]
    refine ⟨rfl, ?_⟩
    have e : cutI n = n := by unfold cutI; omega
    rw [e, partI, Int.mul_zero]
    omega
  · rw [if_neg c1, if_neg c1]
    by_cases c2 : k = 5 ∧ k' = 5
    · rw [if_pos c2, if_pos c2]
      refine ⟨c2.1.symm, ?_⟩
      simp only [mixC, partI, Int.mul_zero, byteI]
      have := c2.1
      omega
    · rw [if_neg c2, if_neg c2, if_pos (by decide), if_pos (by decide)]
      exact ⟨rfl, rfl⟩

/-- what the law makes of a change -/
def fw (d : AnimD) (k : Int) : AnimD := { d with len := 1000 * k }

theorem upTo_at : ∀ {l : List FrameD} {f : FrameD}, rising f.pl l = true → ∀ {i : Nat} {g : FrameD}, (f :: l)[i]? = some g → upTo g.pl f l = (g, l[i]?)
  | [], f, _, i, g, hg => by
    cases i with
    | zero => simp at hg; subst hg; rfl
    | succ i => simp at hg
  | a :: l, f, h, i, g, hg => by
    have h0 := h
    simp only [rising, Bool.and_eq_true, decide_eq_true_eq] at h
    obtain ⟨h1, h2⟩ := h
    cases i with
    | zero =>
      simp at hg
      subst hg
      simp only [upTo]
      rw [if_neg (by omega)]
      rfl
    | succ i =>
      have hg' : (a :: l)[i]? = some g := by simpa using hg
      have hb := (rising_bound l a h2 g (List.mem_of_getElem? hg')).1
      simp only [upTo]
      rw [if_pos hb, upTo_at h2 hg']
      simp

theorem rising_next : ∀ {l : List FrameD} {f : FrameD}, rising f.pl l = true → ∀ {i : Nat} {g h : FrameD}, (f :: l)[i]? = some g → l[i]? = some h → g.pl < h.pl
  | [], f, _, i, g, h, hg, hh => by simp at hh
  | a :: l, f, hr, i, g, h, hg, hh => by
    simp only [rising, Bool.and_eq_true, decide_eq_true_eq] at hr
    cases i with
    | zero => simp at hg hh; subst hg hh; exact hr.1
    | succ i => exact rising_next hr.2 (i := i) (by simpa using hg) (by simpa using hh)

theorem last_at {l : List FrameD} {f : FrameD} {i : Nat} {g : FrameD} (hg : (f :: l)[i]? = some g) (hi : i + 1 = (f :: l).length) : l.getLastD f = g ∧ l[i]? = none := by
  simp at hi
  refine ⟨?_, by simp [hi]⟩
  subst hi
  rw [List.getLastD_eq_getLast?, List.getLast?_eq_getElem?]
  cases hl : l.length with
  | zero => obtain rfl : l = [] := List.length_eq_zero_iff.1 hl; simp at hg; simp [hg]
  | succ n => rw [hl] at hg; simp at hg; simp [hg]

theorem frames_at {d : AnimD} {k : Int} (ok : checkE (fw d k) = 0) (k0 : 1 ≤ k) (k1 : k ≤ 1000) {i : Nat} {g : FrameD} (hi : d.F[i]? = some g) (hlen : d.F.length = d.fl) (hf : Fine g.k g.n)
    (hpass : ¬ (i + 1 = d.fl ∧ g.pl * k < d.times * (1000 * k) ∧ d.turn = false)) :
    (0 ≤ g.pl ∧ g.pl ≤ 1000) ∧ rightE [fw d k] (d.from_ + g.pl * k) = 0 ∧ atV [fw d k] (0, 0) (d.from_ + g.pl * k) = if i + 1 = d.fl ∧ d.times = 1 ∧ d.stays = false then (0, 0) else (g.k, g.n) := by
  obtain ⟨⟨f0, f1⟩, ln, ⟨t0, t1⟩, ez, f, l, hF, p0, hri, hla, l2, l10⟩ := okA ok
  have hF' : d.F = f :: l := hF
  have f0' : 0 ≤ d.from_ := f0
  have f1' : d.from_ ≤ 100000000 := f1
  have t0' : 1 ≤ d.times := t0
  have t1' : d.times ≤ 1000 := t1
  have hri' := hri
  rw [hF'] at hi hlen
  have hb := rising_bound l f hri g (List.mem_of_getElem? hi)
  rw [p0, hla] at hb
  obtain ⟨b0, b1⟩ := hb
  have m0 : 0 ≤ g.pl * k := Int.mul_nonneg b0 (by omega)
  have m1 : g.pl * k ≤ 1000 * k := Int.mul_le_mul_of_nonneg_right b1 (by omega)
  have hR : rightE [fw d k] (d.from_ + g.pl * k) = 0 := by
    rw [rightE_one, if_pos ok, (inB_iff _ _ _).2 ⟨by omega, by omega⟩]
    rfl
  refine ⟨⟨b0, b1⟩, hR, ?_⟩
  rw [atV, if_pos hR]
  simp only [List.foldl_cons, List.foldl_nil, stepP]
  have hend : endI (fw d k) = d.from_ + d.times * (1000 * k) := rfl
  have hfr : (fw d k).from_ = d.from_ := rfl
  have htm : (1000 * k) ≤ d.times * (1000 * k) := by
    have := Int.mul_le_mul_of_nonneg_right t0' (show 0 ≤ 1000 * k by omega)
    omega
  by_cases hL : i + 1 = d.fl
  · obtain ⟨hg, hn⟩ := last_at hi (by omega)
    have hp : g.pl = 1000 := by rw [← hg]; exact hla
    by_cases h1 : d.times = 1
    · have ht : tellsP (fw d k) (d.from_ + g.pl * k) = ((g.k, g.n), d.stays) := by
        simp only [tellsP, hend, hfr]
        rw [if_neg (by omega), if_pos (by rw [h1, hp]; omega)]
        simp only [hF]
        have e : ((fw d k).turn && (fw d k).times % 2 == 0) = false := by simp [fw, h1]
        rw [e, hg]
        rfl
      rw [ht]
      cases hs : d.stays
      · simp [hL, h1]
      · simp [hL, h1]
    · have h2 : 2 ≤ d.times := by omega
      have h2' : 2 * (1000 * k) ≤ d.times * (1000 * k) := Int.mul_le_mul_of_nonneg_right h2 (by omega)
      have htu : d.turn = true := by
        cases h : d.turn with
        | true => rfl
        | false => exact absurd ⟨hL, by rw [hp]; omega, h⟩ hpass
      have e2 : placeI (fw d k) (d.from_ + g.pl * k) = 1000 := by
        have e : d.from_ + g.pl * k - d.from_ = 1 * (1000 * k) := by rw [hp]; omega
        simp only [placeI, fw, e, Int.mul_emod_left, Int.mul_ediv_cancel _ (show (1000 * k) ≠ 0 by omega), htu]
        simp
      have ht : tellsP (fw d k) (d.from_ + g.pl * k) = ((g.k, g.n), true) := by
        simp only [tellsP, hend, hfr]
        rw [if_neg (by omega), if_neg (by rw [hp]; omega), e2]
        simp only [framesP, hF]
        rw [← hp, upTo_at hri hi, hn]
      rw [ht]
      simp [h1]
  · obtain ⟨h, hh⟩ : ∃ h, l[i]? = some h := ⟨_, List.getElem?_eq_getElem (by
      have := (List.getElem?_eq_some_iff.1 hi).1
      simp at hlen this
      omega)⟩
    have hlt := rising_next hri hi hh
    have hhb := (rising_bound l f hri h (List.mem_of_getElem? (i := i + 1) (by simpa using hh))).2
    rw [hla] at hhb
    have m2 : g.pl * k < 1000 * k := Int.mul_lt_mul_of_pos_right (by omega) (by omega)
    have e2 : placeI (fw d k) (d.from_ + g.pl * k) = g.pl := by
      have e : d.from_ + g.pl * k - d.from_ = g.pl * k := by omega
      have e1 : g.pl * k * 1000 / (1000 * k) = g.pl := by
        rw [show g.pl * k * 1000 = g.pl * (1000 * k) by grind]
        exact Int.mul_ediv_cancel _ (by omega)
      simp only [placeI, fw, e, Int.emod_eq_of_lt m0 m2, Int.ediv_eq_zero_of_lt m0 m2, e1]
      simp
    have ht : tellsP (fw d k) (d.from_ + g.pl * k) = ((g.k, g.n), true) := by
      simp only [tellsP, hend, hfr]
      rw [if_neg (by omega), if_neg (by omega), e2]
      simp only [framesP, hF]
      rw [upTo_at hri hi, hh]
      simp only [Int.sub_self, Int.zero_mul, Int.zero_ediv, easedI_zero]
      obtain ⟨q1, q2⟩ := mix_zero h.k h.n hf
      rw [q1, q2]
    rw [ht]
    simp [hL]

end Go.Proofs.Ytchmpdibbklpfaa.anim.framed
