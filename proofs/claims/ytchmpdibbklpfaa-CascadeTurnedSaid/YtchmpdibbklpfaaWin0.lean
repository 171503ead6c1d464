/- The plain law of winning: one entry for each name, none weaker than what it was chosen from. No walk. -/
import Derived.Test.YtchmpdibbklpfaaCas1
namespace Go.Proofs.Ytchmpdibbklpfaa.win
open Go.RowKit Go.Proofs.Ytchmpdibbklpfaa.base Go.Proofs.Ytchmpdibbklpfaa.cas
set_option linter.unusedVariables false

structure GD where
  nm : ByteArray
  vl : ByteArray
  o : Int
  i : Bool
  w : Int
  p : Int
deriving DecidableEq

abbrev GD.cells (d : GD) : Array Value := #[.string d.nm, .string d.vl, .int .i64 d.o, .bool d.i, .int .i64 d.w, .int .i64 d.p]
def GD.cmp (d e : GD) : Int := cmpG d.o d.i d.w d.p e.o e.i e.w e.p

theorem cmp_lt (d e : GD) : d.cmp e < 0 ↔ rankOf d.o d.i < rankOf e.o e.i ∨ (rankOf d.o d.i = rankOf e.o e.i ∧ (d.w < e.w ∨ (d.w = e.w ∧ d.p < e.p))) := by
  have h := lt_eq d.o d.i d.w d.p e.o e.i e.w e.p
  unfold lt at h
  rw [decide_eq_decide] at h
  exact h

def idxOf (acc : List GD) (n : ByteArray) : Option Nat := acc.findIdx? fun e => decide (e.nm = n)

def winStep (acc : List GD) (d : GD) : List GD :=
  match idxOf acc d.nm with
  | none => acc ++ [d]
  | some i => if 0 ≤ d.cmp (acc.getD i d) then acc.set i d else acc

/-- what holds of the winners acc of L -/
structure Won (L acc : List GD) : Prop where
  one : ∀ (i j : Nat) (a b : GD), acc[i]? = some a → acc[j]? = some b → a.nm = b.nm → i = j
  from_ : ∀ e ∈ acc, e ∈ L
  has : ∀ d ∈ L, ∃ e ∈ acc, e.nm = d.nm ∧ ¬ e.cmp d < 0
  few : acc.length ≤ L.length

theorem Won.nil : Won [] [] := ⟨by simp, by simp, by simp, by simp⟩

theorem Won.uniq {L acc : List GD} (h : Won L acc) {a b : GD} (ha : a ∈ acc) (hb : b ∈ acc) (hn : a.nm = b.nm) : a = b := by
  obtain ⟨i, hi⟩ := List.mem_iff_getElem?.1 ha
  obtain ⟨j, hj⟩ := List.mem_iff_getElem?.1 hb
  obtain rfl := h.one i j a b hi hj hn
  rw [hi] at hj
  exact Option.some.inj hj

theorem idx_none {acc : List GD} {n : ByteArray} (h : idxOf acc n = none) : ∀ e ∈ acc, e.nm ≠ n := by
  unfold idxOf at h
  rw [List.findIdx?_eq_none_iff] at h
  intro e he
  simpa using h e he

theorem idx_some {acc : List GD} {n : ByteArray} {i : Nat} (h : idxOf acc n = some i) : ∃ e, acc[i]? = some e ∧ e.nm = n := by
  unfold idxOf at h
  rw [List.findIdx?_eq_some_iff_getElem] at h
  obtain ⟨hi, h1, -⟩ := h
  exact ⟨acc[i], List.getElem?_eq_getElem hi, by simpa using h1⟩

theorem Won.step {L acc : List GD} (h : Won L acc) (d : GD) : Won (L ++ [d]) (winStep acc d) := by
  unfold winStep
  cases hx : idxOf acc d.nm with
  | none =>
    have hn := idx_none hx
    refine ⟨fun i j a b hi hj hab => ?_, fun e he => ?_, fun d' hd' => ?_, by have := h.few; simp; omega⟩
    · rw [List.getElem?_append] at hi hj
      split at hi <;> split at hj
      · exact h.one i j a b hi hj hab
      · rename_i h1 h2
        have hj' : j - acc.length = 0 ∧ d = b := by
          cases hk : j - acc.length with
          | zero => rw [hk] at hj; exact ⟨rfl, by simpa using hj⟩
          | succ k => rw [hk] at hj; simp at hj
        exact absurd (by rw [hab, ← hj'.2]) (hn a (List.mem_of_getElem? hi))
      · rename_i h1 h2
        have hi' : i - acc.length = 0 ∧ d = a := by
          cases hk : i - acc.length with
          | zero => rw [hk] at hi; exact ⟨rfl, by simpa using hi⟩
          | succ k => rw [hk] at hi; simp at hi
        exact absurd (by rw [← hab, ← hi'.2]) (hn b (List.mem_of_getElem? hj))
      · have h1 := (List.getElem?_eq_some_iff.1 hi).1
        have h2 := (List.getElem?_eq_some_iff.1 hj).1
        simp at h1 h2
        omega
    · rcases List.mem_append.1 he with he | he
      · exact List.mem_append_left _ (h.from_ e he)
      · exact List.mem_append_right _ he
    · rcases List.mem_append.1 hd' with hd' | hd'
      · obtain ⟨e, he, h1, h2⟩ := h.has d' hd'
        exact ⟨e, List.mem_append_left _ he, h1, h2⟩
      · simp at hd'
        subst hd'
        exact ⟨d', by simp, rfl, by rw [cmp_lt]; omega⟩
  | some i =>
    obtain ⟨e, he, hn⟩ := idx_some hx
    have hg : acc.getD i d = e := by simp [he]
    have hil := (List.getElem?_eq_some_iff.1 he).1
    simp only [hg]
    by_cases hc : 0 ≤ d.cmp e
    · rw [if_pos hc]
      have hc' : ¬ d.cmp e < 0 := by omega
      refine ⟨fun j k a b hj hk hab => ?_, fun e' he' => ?_, fun d' hd' => ?_, by have := h.few; simp; omega⟩
      · rw [List.getElem?_set] at hj hk
        by_cases h1 : i = j
        · by_cases h2 : i = k
          · omega
          · subst h1
            rw [if_neg h2] at hk
            simp [hil] at hj
            subst hj
            exact h.one i k e b he hk (by rw [hn, hab])
        · rw [if_neg h1] at hj
          by_cases h2 : i = k
          · subst h2
            simp [hil] at hk
            subst hk
            exact h.one j i a e hj he (by rw [hn, hab])
          · rw [if_neg h2] at hk
            exact h.one j k a b hj hk hab
      · rcases List.mem_or_eq_of_mem_set he' with h1 | h1
        · exact List.mem_append_left _ (h.from_ e' h1)
        · simp [h1]
      · have hdm : d ∈ acc.set i d := List.mem_set hil d
        rcases List.mem_append.1 hd' with hd' | hd'
        · obtain ⟨e', he', h1, h2⟩ := h.has d' hd'
          by_cases h3 : e'.nm = d.nm
          · obtain rfl := h.uniq he' (List.mem_of_getElem? he) (by rw [h3, hn])
            refine ⟨d, hdm, by rw [← h3, h1], ?_⟩
            rw [cmp_lt] at h2 hc' ⊢
            omega
          · obtain ⟨k, hk⟩ := List.mem_iff_getElem?.1 he'
            have hki : i ≠ k := fun h4 => by
              subst h4
              rw [he] at hk
              exact h3 (by rw [← Option.some.inj hk, hn])
            exact ⟨e', List.mem_iff_getElem?.2 ⟨k, by rw [List.getElem?_set, if_neg hki]; exact hk⟩, h1, h2⟩
        · simp at hd'
          subst hd'
          exact ⟨d', hdm, rfl, by rw [cmp_lt]; omega⟩
    · rw [if_neg hc]
      refine ⟨h.one, fun e' he' => List.mem_append_left _ (h.from_ e' he'), fun d' hd' => ?_, by have := h.few; simp; omega⟩
      rcases List.mem_append.1 hd' with hd' | hd'
      · exact h.has d' hd'
      · simp at hd'
        subst hd'
        refine ⟨e, List.mem_of_getElem? he, hn, ?_⟩
        have hc2 : d'.cmp e < 0 := by omega
        rw [cmp_lt] at hc2 ⊢
        omega

def winP (L : List GD) : List GD := L.foldl winStep []

theorem won_fold : ∀ (R L acc : List GD), Won L acc → Won (L ++ R) (R.foldl winStep acc)
  | [], L, acc, h => by simpa using h
  | d :: R, L, acc, h => by
    have := won_fold R (L ++ [d]) (winStep acc d) (h.step d)
    simpa using this

theorem won (L : List GD) : Won L (winP L) := by
  have h := won_fold L [] [] Won.nil
  rwa [List.nil_append] at h

/-- no two at one place -/
def Apart (L : List GD) : Prop := ∀ a ∈ L, ∀ b ∈ L, a.p = b.p → a = b

theorem turned_mem {L R A B : List GD} (hL : Won L A) (hR : Won R B) (hp : Apart L) (hm : ∀ e, e ∈ L ↔ e ∈ R) : ∀ a ∈ A, a ∈ B := by
  intro a ha
  have haL := hL.from_ a ha
  obtain ⟨e, he, h1, h2⟩ := hR.has a ((hm a).1 haL)
  have heL := (hm e).2 (hR.from_ e he)
  obtain ⟨a', ha', h3, h4⟩ := hL.has e heL
  obtain rfl := hL.uniq ha' ha (by rw [h3, h1])
  rw [cmp_lt] at h2 h4
  obtain rfl := hp a' haL e heL (by omega)
  exact he

theorem sub_length : ∀ {A B : List GD}, (∀ (i j : Nat) (a b : GD), A[i]? = some a → A[j]? = some b → a.nm = b.nm → i = j) → (∀ a ∈ A, a ∈ B) → A.length ≤ B.length
  | [], B, _, _ => by simp
  | a :: A, B, h1, h2 => by
    have hb := h2 a (by simp)
    have ih := @sub_length A (B.erase a) (fun i j x y hi hj hxy => by
      have := h1 (i + 1) (j + 1) x y (by simpa using hi) (by simpa using hj) hxy
      omega) (fun x hx => by
      have hne : x ≠ a := fun hxa => by
        obtain ⟨k, hk⟩ := List.mem_iff_getElem?.1 hx
        have := h1 (k + 1) 0 x a (by simpa using hk) (by simp) (by rw [hxa])
        omega
      exact (List.mem_erase_of_ne hne).2 (h2 x (by simp [hx])))
    rw [List.length_erase_of_mem hb] at ih
    have := List.length_pos_of_mem hb
    simp
    omega

theorem turned_alike {L : List GD} (hp : Apart L) : (∀ a ∈ winP L, a ∈ winP L.reverse) ∧ (winP L).length = (winP L.reverse).length := by
  have h1 := won L
  have h2 := won L.reverse
  have hm : ∀ e, e ∈ L ↔ e ∈ L.reverse := fun e => by simp
  have hp2 : Apart L.reverse := fun a ha b hb => hp a (by simpa using ha) b (by simpa using hb)
  have m1 := turned_mem h1 h2 hp hm
  have m2 := turned_mem h2 h1 hp2 (fun e => (hm e).symm)
  have l1 := sub_length h1.one m1
  have l2 := sub_length h2.one m2
  exact ⟨m1, by omega⟩

end Go.Proofs.Ytchmpdibbklpfaa.win
