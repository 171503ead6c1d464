/- The plain law of waking: up to the hour that Wake names nothing changes. No walk. -/
import Derived.Test.YtchmpdibbklpfaaAnimTurned
namespace Go.Proofs.Ytchmpdibbklpfaa.anim.wakes
open Go.RowKit Go.Proofs.Ytchmpdibbklpfaa.base
set_option linter.unusedVariables false

/-- what a wake's answer must be as to one change -/
def Good (now wh : Int) (is : Bool) (d : AnimD) : Prop :=
  (now < d.from_ → is = true ∧ wh ≤ d.from_) ∧ (d.from_ ≤ now → now < endI d → is = true ∧ wh ≤ now + 1)

/-- .. after k changes -/
def Outer (L : List AnimD) (k : Nat) (now wh : Int) (is : Bool) : Prop := (is = true → now < wh ∧ wh ≤ 300000000000) ∧ ∀ e ∈ L.take k, Good now wh is e

/-- .. and i candidates of the next one -/
def Inner (L : List AnimD) (k : Nat) (d : AnimD) (i : Nat) (now wh : Int) (is : Bool) : Prop :=
  Outer L k now wh is ∧ (1 ≤ i → now < d.from_ → is = true ∧ wh ≤ d.from_) ∧ (3 ≤ i → d.from_ ≤ now → now < endI d → is = true ∧ wh ≤ now + 1)

def Woke (L : List AnimD) (now wh : Int) (is : Bool) : Prop :=
  (rightE L now ≠ 0 → wh = 0 ∧ is = false) ∧ (rightE L now = 0 → (is = true → now < wh ∧ wh ≤ 300000000000) ∧ ∀ d ∈ L, Good now wh is d)

theorem Good.later {now wh c : Int} {is : Bool} {d : AnimD} (g : Good now wh is d) (hw : is = false ∨ c < wh) : Good now c true d := by
  obtain ⟨g1, g2⟩ := g
  refine ⟨fun h => ?_, fun h h' => ?_⟩
  · obtain ⟨h1, h2⟩ := g1 h
    rcases hw with hw | hw
    · rw [h1] at hw; cases hw
    · exact ⟨rfl, by omega⟩
  · obtain ⟨h1, h2⟩ := g2 h h'
    rcases hw with hw | hw
    · rw [h1] at hw; cases hw
    · exact ⟨rfl, by omega⟩

theorem Inner.start {L : List AnimD} {k : Nat} {now wh : Int} {is : Bool} (h : Outer L k now wh is) (d : AnimD) : Inner L k d 0 now wh is := ⟨h, fun h => by omega, fun h => by omega⟩

theorem Inner.take {L : List AnimD} {k i : Nat} {d : AnimD} {now wh c : Int} {is : Bool} (h : Inner L k d i now wh is) (hc : now < c) (hm : c ≤ 300000000000) (hw : is = false ∨ c < wh) (h0 : i = 0 → c = d.from_) (h2 : i = 2 → c = now + 1) : Inner L k d (i + 1) now c true := by
  obtain ⟨⟨a1, a2⟩, a3, a4⟩ := h
  refine ⟨⟨fun _ => ⟨hc, hm⟩, fun e he => (a2 e he).later hw⟩, fun _ h => ⟨rfl, ?_⟩, fun hi h h' => ⟨rfl, ?_⟩⟩
  · by_cases hi : i = 0
    · have := h0 hi; omega
    · obtain ⟨h1, h2⟩ := a3 (by omega) h
      rcases hw with hw | hw
      · rw [h1] at hw; cases hw
      · omega
  · by_cases hi2 : i = 2
    · have := h2 hi2; omega
    · obtain ⟨h1, h2⟩ := a4 (by omega) h h'
      rcases hw with hw | hw
      · rw [h1] at hw; cases hw
      · omega

theorem Inner.skip {L : List AnimD} {k i : Nat} {d : AnimD} {now wh : Int} {is : Bool} (h : Inner L k d i now wh is) (h0 : i = 0 → now < d.from_ → is = true ∧ wh ≤ d.from_) (h2 : i = 2 → d.from_ ≤ now → now < endI d → is = true ∧ wh ≤ now + 1) : Inner L k d (i + 1) now wh is := by
  obtain ⟨a1, a3, a4⟩ := h
  refine ⟨a1, fun _ h => ?_, fun hi h h' => ?_⟩
  · by_cases hi : i = 0
    · exact h0 hi h
    · exact a3 (by omega) h
  · by_cases hi2 : i = 2
    · exact h2 hi2 h h'
    · exact a4 (by omega) h h'

theorem Inner.done {L : List AnimD} {k : Nat} {d : AnimD} {now wh : Int} {is : Bool} (h : Inner L k d 3 now wh is) (hd : L[k]? = some d) : Outer L (k + 1) now wh is := by
  obtain ⟨⟨a1, a2⟩, a3, a4⟩ := h
  obtain ⟨hl, he⟩ := List.getElem?_eq_some_iff.1 hd
  refine ⟨a1, fun e hm => ?_⟩
  rw [List.take_succ_eq_append_getElem hl, he] at hm
  rcases List.mem_append.1 hm with hm | hm
  · exact a2 e hm
  · simp at hm
    subst hm
    exact ⟨a3 (by omega), a4 (by omega)⟩

theorem Outer.end {L : List AnimD} {now wh : Int} {is : Bool} (h : Outer L L.length now wh is) (hr : rightE L now = 0) : Woke L now wh is :=
  ⟨fun h' => absurd hr h', fun _ => ⟨h.1, fun d hd => h.2 d (by rwa [List.take_length])⟩⟩

theorem tells_alike {d : AnimD} {now m wh : Int} {is : Bool} (g : Good now wh is d) (ok : OkA d) (h0 : now ≤ m) (h1 : is = true → m < wh) : tellsP d now = tellsP d m := by
  obtain ⟨_, ⟨l0, _⟩, ⟨t0, _⟩, _, _⟩ := ok
  have h2 : 0 ≤ d.times * d.len := Int.mul_nonneg (by omega) (by omega)
  have he : endI d = d.from_ + d.times * d.len := rfl
  rcases Int.lt_or_le now d.from_ with h | h
  · obtain ⟨g1, g2⟩ := g.1 h
    have := h1 g1
    simp only [tellsP]
    rw [if_pos h, if_pos (by omega)]
  · rcases Int.lt_or_le now (endI d) with h' | h'
    · obtain ⟨g1, g2⟩ := g.2 h h'
      have := h1 g1
      obtain rfl : m = now := by omega
      rfl
    · simp only [tellsP]
      rw [if_neg (by omega), if_pos h', if_neg (by omega), if_pos (by omega)]

theorem fold_alike : ∀ {L : List AnimD} {now m : Int} (base : Int × Int), (∀ d ∈ L, tellsP d now = tellsP d m) → L.foldl (stepP now) base = L.foldl (stepP m) base
  | [], _, _, _, _ => rfl
  | d :: L, now, m, base, h => by
    have e : stepP now base d = stepP m base d := by simp only [stepP, h d (by simp)]
    simp only [List.foldl_cons, e]
    exact fold_alike _ fun d hd => h d (by simp [hd])

theorem at_alike {L : List AnimD} {now m wh : Int} {is : Bool} (h : Woke L now wh is) (hr : rightE L now = 0) (hm : rightE L m = 0) (h0 : now ≤ m) (h1 : is = true → m < wh) (base : Int × Int) : atV L base now = atV L base m := by
  obtain ⟨_, r2, _⟩ := right_ok hr
  rw [atV, atV, if_pos hr, if_pos hm]
  refine fold_alike base fun d hd => tells_alike ((h.2 hr).2 d hd) ?_ h0 h1
  obtain ⟨i, hi, he⟩ := List.mem_iff_getElem.1 hd
  exact okA (r2 i d (by rw [← he]; exact List.getElem?_eq_getElem hi))

end Go.Proofs.Ytchmpdibbklpfaa.anim.wakes
