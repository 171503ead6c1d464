/- A token by itself: what a prefix of a text is cut into. No walk. -/
import Derived.Test.YtphdmdncboegjaaDoorTok21
namespace Go.Proofs.YtphdmdncboegjaaDoor.tok
open Go.RowKit Go.Proofs.YtphdmdncboegjaaDoor.base
set_option linter.unusedVariables false

/-! ### Names -/
theorem esc_take {l : Bs} {m : Nat} (h : escP (l.take m) = true) : escP l = true := by
  match l, m, h with
  | [], _, h => simpa using h
  | [c], 0, h => simp [escP] at h
  | [c], m + 1, h => simp [escP] at h
  | c :: d :: r, 0, h => simp [escP] at h
  | c :: d :: r, 1, h => simp [escP] at h
  | c :: d :: r, m + 2, h => simpa [escP] using h
theorem esc_take2 {l : Bs} {m : Nat} (hm : 2 ≤ m) : escP (l.take m) = escP l := by
  match l, m, hm with
  | [], _, _ => simp
  | [c], m + 2, _ => simp [escP]
  | c :: d :: r, m + 2, _ => simp [escP]

theorem name_cons1 (c : UInt8) : nameP [c] = if signI (nv c) then ([c], 1) else ([], 0) := by rw [nameP]
theorem name_cons2 (c d : UInt8) (r : Bs) : nameP (c :: d :: r) = if escP (c :: d :: r) then (d :: (nameP r).1, (nameP r).2 + 2) else if signI (nv c) then (c :: (nameP (d :: r)).1, (nameP (d :: r)).2 + 1) else ([], 0) := by rw [nameP]
theorem name_nil : nameP [] = ([], 0) := by rw [nameP]

/-- a name is read the same of any prefix that holds it -/
theorem name_take : ∀ (n : Nat) (l : Bs) (m : Nat), l.length ≤ n → (nameP l).2 ≤ m → nameP (l.take m) = nameP l
  | 0, l, m, h, hm => by
    obtain rfl := List.eq_nil_of_length_eq_zero (Nat.le_zero.1 h)
    simp
  | n + 1, [], m, h, hm => by simp
  | n + 1, [c], m, h, hm => by
    rw [name_cons1] at hm ⊢
    by_cases hs : signI (nv c) = true
    · rw [if_pos hs] at hm ⊢
      obtain ⟨k, rfl⟩ : ∃ k, m = k + 1 := ⟨m - 1, by simp at hm; omega⟩
      simp [name_cons1, hs]
    · rw [if_neg hs]
      cases m with
      | zero => simp [name_nil]
      | succ m => simp [name_cons1, hs]
  | n + 1, c :: d :: r, m, h, hm => by
    rw [name_cons2] at hm ⊢
    by_cases he : escP (c :: d :: r) = true
    · rw [if_pos he] at hm ⊢
      obtain ⟨k, rfl⟩ : ∃ k, m = k + 2 := ⟨m - 2, by simp at hm; omega⟩
      have ih := name_take n r k (by simp at h; omega) (by simp at hm; omega)
      have he2 : escP (c :: d :: r.take k) = true := by simpa [escP] using he
      simp only [List.take_succ_cons]
      rw [name_cons2, if_pos he2, ih]
    · rw [if_neg he] at hm ⊢
      by_cases hs : signI (nv c) = true
      · rw [if_pos hs] at hm ⊢
        obtain ⟨k, rfl⟩ : ∃ k, m = k + 1 := ⟨m - 1, by simp at hm; omega⟩
        have ih := name_take n (d :: r) k (by simp at h ⊢; omega) (by simp at hm; omega)
        have he2 : ¬ escP ((c :: d :: r).take (k + 1)) = true := fun h2 => he (esc_take h2)
        cases k with
        | zero =>
          simp only [Nat.zero_add, List.take_succ_cons, List.take_zero] at ih ⊢
          rw [name_cons1, if_pos hs]
          rw [name_nil] at ih
          rw [← ih]
        | succ k =>
          simp only [List.take_succ_cons] at ih he2 ⊢
          rw [name_cons2, if_neg he2, if_pos hs, ih]
      · rw [if_neg hs]
        match m with
        | 0 => simp [name_nil]
        | 1 => simp [name_cons1, hs]
        | k + 2 =>
          have he2 : ¬ escP ((c :: d :: r).take (k + 2)) = true := fun h2 => he (esc_take h2)
          simp only [List.take_succ_cons] at he2 ⊢
          rw [name_cons2, if_neg he2, if_neg hs]
theorem name_take' (l : Bs) (m : Nat) (hm : (nameP l).2 ≤ m) : nameP (l.take m) = nameP l := name_take _ l m (Nat.le_refl _) hm

/-- .. and so does a name begin it -/
theorem begins_take {l : Bs} {m : Nat} (h : beginsP l = true) (hm : (nameP l).2 ≤ m) : beginsP (l.take m) = true := by
  match l, h, hm with
  | [c], h, hm =>
    have := name_pos h
    obtain ⟨k, rfl⟩ : ∃ k, m = k + 1 := ⟨m - 1, by omega⟩
    simpa using h
  | c :: d :: r, h, hm =>
    rw [name_cons2] at hm
    by_cases he : escP (c :: d :: r) = true
    · rw [if_pos he] at hm
      obtain ⟨k, rfl⟩ : ∃ k, m = k + 2 := ⟨m - 2, by simp at hm; omega⟩
      have he2 : escP (c :: d :: r.take k) = true := by simpa [escP] using he
      have h45 : ¬ nv c = 45 := by
        simp [escP] at he
        omega
      simp only [List.take_succ_cons, beginsP, if_neg h45, he2, Bool.or_true]
    · rw [if_neg he] at hm
      simp only [beginsP] at h
      by_cases h45 : nv c = 45
      · have hs : signI (nv c) = true := by simp [signI, h45]
        rw [if_pos hs] at hm
        rw [if_pos h45] at h
        obtain ⟨k, rfl⟩ : ∃ k, m = k + 1 := ⟨m - 1, by simp at hm; omega⟩
        have hd : signI (nv d) = true ∨ escP (d :: r) = true := by
          simp only [Bool.or_eq_true, decide_eq_true_eq] at h
          rcases h with (h | h) | h
          · left; simp [signI, h]
          · left; simp [signI, h]
          · right; exact h
        have hp : 0 < (nameP (d :: r)).2 := by
          cases r with
          | nil =>
            rw [name_cons1]
            rcases hd with hd | hd
            · simp [hd]
            · simp [escP] at hd
          | cons e r =>
            rw [name_cons2]
            split
            · simp
            · rename_i hne
              rcases hd with hd | hd
              · simp [hd]
              · exact absurd hd hne
        simp at hm
        obtain ⟨j, rfl⟩ : ∃ j, k = j + 1 := ⟨k - 1, by omega⟩
        simp only [List.take_succ_cons, beginsP, if_pos h45]
        simp only [Bool.or_eq_true, decide_eq_true_eq] at h ⊢
        rcases h with h | h
        · exact Or.inl h
        · right
          cases r with
          | nil => simp [escP] at h
          | cons e r =>
            have hj : 1 ≤ j := by
              rw [name_cons2, if_pos h] at hm
              simp at hm
              omega
            obtain ⟨i, rfl⟩ : ∃ i, j = i + 1 := ⟨j - 1, by omega⟩
            simpa [escP] using h
      · rw [if_neg h45] at h
        simp only [Bool.or_eq_true] at h
        have hst : startsI (nv c) = true := h.resolve_right he
        have hs : signI (nv c) = true := by simp [signI, hst]
        rw [if_pos hs] at hm
        obtain ⟨k, rfl⟩ : ∃ k, m = k + 1 := ⟨m - 1, by simp at hm; omega⟩
        cases k with
        | zero => simp [beginsP, hst]
        | succ k => simp [beginsP, h45, hst]

end Go.Proofs.YtphdmdncboegjaaDoor.tok
