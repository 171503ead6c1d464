/- Contracts and plain law, a bundle: DimL1 TokL1 TokL2 TokL3 DimL2 DimT Door LaidG LaidT Rul0 Rul1 Rul2 Rul3 Rul4 TokE Med0 Med3. -/
import Derived.Lib.TrimByte
import Derived.Lib.LaidTab
import Derived.HandedShaped
import Derived.Shelf.Vars
import Derived.Lay
import Derived.LaidOnce
import Derived.SevenTiedAt
import Derived.Lib.LaidU8
import Derived.Shelf.Abstract
import Derived.Test.YtmjbaimccbkmpaaGreatDoorBD
import Derived.Test.YtmjbaimccbkmpaaGreatDoorShelf
import Derived.Test.YtmjbaimccbkmpaaGreatDoorBA
import Derived.Test.YtmjbaimccbkmpaaGreatDoorRows

namespace Go.Proofs.YtmjbaimccbkmpaaGreatDoor.dim
open Go.RowKit Go.Proofs.YtmjbaimccbkmpaaGreatDoor.base Go.Proofs.YtmjbaimccbkmpaaGreatDoor.tok
set_option linter.unusedVariables false

/-- the digits behind the point -/
def fracP (r : Nat) : Bs := Lib.trimRightB [UInt8.ofNat (48 + r / 100), UInt8.ofNat (48 + r / 10 % 10), UInt8.ofNat (48 + r % 10)] 48

set_option maxRecDepth 100000 in
theorem frac_all : ∀ r : Fin 1000, (fracP r.val).getD 0 48 = UInt8.ofNat (48 + r.val / 100) ∧ (fracP r.val).getD 1 48 = UInt8.ofNat (48 + r.val / 10 % 10) ∧ (fracP r.val).getD 2 48 = UInt8.ofNat (48 + r.val % 10) ∧ (fracP r.val).all (fun c => digI (nv c)) = true := by
  decide +kernel
theorem frac_is {r : Nat} (h : r < 1000) : (fracP r).getD 0 48 = UInt8.ofNat (48 + r / 100) ∧ (fracP r).getD 1 48 = UInt8.ofNat (48 + r / 10 % 10) ∧ (fracP r).getD 2 48 = UInt8.ofNat (48 + r % 10) ∧ ∀ c ∈ fracP r, digI (nv c) = true := by
  obtain ⟨h0, h1, h2, h3⟩ := frac_all ⟨r, h⟩
  exact ⟨h0, h1, h2, fun c hc => List.all_eq_true.1 h3 c hc⟩

/-- what stands behind the whole digits -/
def pointP (fr : Bs) : Bs := if fr = [] then [] else 46 :: fr
/-- the text of a number without its sign -/
def plainP (m : Nat) : Bs := Lib.decDigits (m / 1000) ++ pointP (fracP (m % 1000))

theorem not_dig46 : digI (nv 46) = false := by decide

/-- what the sum of the digits is -/
theorem sum_is {m : Nat} (hm : m ≤ 1000000000) : addD (addD (addD ((Lib.decDigits (m / 1000)).foldl addD 0) ((fracP (m % 1000)).getD 0 48)) ((fracP (m % 1000)).getD 1 48)) ((fracP (m % 1000)).getD 2 48) = (m : Int) := by
  obtain ⟨h0, h1, h2, -⟩ := frac_is (r := m % 1000) (by omega)
  have a1 := addD_dig (n := ((m / 1000 : Nat) : Int)) (k := m % 1000 / 100) (by omega) (by omega)
  have a2 := addD_dig (n := 10 * ((m / 1000 : Nat) : Int) + ((m % 1000 / 100 : Nat) : Int)) (k := m % 1000 / 10 % 10) (by omega) (by omega)
  have a3 := addD_dig (n := 10 * (10 * ((m / 1000 : Nat) : Int) + ((m % 1000 / 100 : Nat) : Int)) + ((m % 1000 / 10 % 10 : Nat) : Int)) (k := m % 1000 % 10) (by omega) (by omega)
  rw [h0, h1, h2, dec_fold _ (by omega), a1, a2, a3]
  omega

theorem number_at (s u : Bs) (m : Nat) (hm : m ≤ 1000000000) (neg : Bool) (hu : ∀ c, u.head? = some c → digI (nv c) = false ∧ ¬ nv c = 46)
    (hs : (s = [] ∧ neg = false) ∨ (s = [45] ∧ neg = true)) :
    numberP (s ++ (plainP m ++ u)) = (if neg then -(m : Int) else (m : Int), s.length + (plainP m).length) := by
  have hW := dec_digs (m / 1000)
  have hWn := dec_ne (m / 1000)
  have hS := sum_is hm
  obtain ⟨-, -, -, hF⟩ := frac_is (r := m % 1000) (by omega)
  unfold plainP
  generalize Lib.decDigits (m / 1000) = W at *
  generalize fracP (m % 1000) = fr at *
  obtain ⟨c, W', rfl⟩ := List.exists_cons_of_ne_nil hWn
  have hc := hW c (by simp)
  simp [digI] at hc
  have hsign : signAt (s ++ (c :: W' ++ pointP fr ++ u)) = s.length ∧ negP (s ++ (c :: W' ++ pointP fr ++ u)) = neg := by
    rcases hs with ⟨rfl, rfl⟩ | ⟨rfl, rfl⟩
    · refine ⟨?_, ?_⟩
      · show (if nv c = 43 ∨ nv c = 45 then 1 else 0) = 0
        rw [if_neg (by omega)]
      · show decide (nv c = 45) = false
        exact decide_eq_false (by omega)
    · exact ⟨rfl, rfl⟩
  obtain ⟨h1, h2⟩ := hsign
  have hrest : ∀ x, (pointP fr ++ u).head? = some x → digI (nv x) = false := by
    intro x hx
    unfold pointP at hx
    split at hx
    · exact (hu x (by simpa using hx)).1
    · obtain rfl : (46 : UInt8) = x := by simpa using hx
      exact not_dig46
  have d1 : (s ++ (c :: W' ++ pointP fr ++ u)).drop s.length = (c :: W') ++ (pointP fr ++ u) := by
    rw [List.drop_left, List.append_assoc]
  have h3 := digits_app (c :: W') (pointP fr ++ u) hW hrest
  have d2 : (s ++ (c :: W' ++ pointP fr ++ u)).drop (s.length + (c :: W').length) = pointP fr ++ u := by
    rw [← List.drop_drop, d1, List.drop_left]
  have h4 : behindP (pointP fr ++ u) = fr.length := by
    unfold pointP
    split
    · rename_i h
      subst h
      cases u with
      | nil => rfl
      | cons x r =>
        show (if nv x = 46 then digitsP r else 0) = 0
        rw [if_neg (hu x rfl).2]
    · show (if nv (46 : UInt8) = 46 then digitsP (fr ++ u) else 0) = fr.length
      rw [if_pos (by decide)]
      exact digits_app fr u hF (fun x hx => (hu x hx).1)
  have d3 : ((s ++ (c :: W' ++ pointP fr ++ u)).drop (s.length + (c :: W').length + 1)).take fr.length = fr := by
    rw [← List.drop_drop, d2]
    unfold pointP
    split
    · rename_i h
      subst h
      rfl
    · simp
  have hsum : sumP (s ++ (c :: W' ++ pointP fr ++ u)) s.length (c :: W').length fr.length = (m : Int) := by
    unfold sumP
    rw [d1, List.take_left, d3]
    exact hS
  have hlen : (pointP fr).length = if fr.length = 0 then 0 else 1 + fr.length := by
    unfold pointP
    cases fr with
    | nil => rfl
    | cons x r => simp; omega
  unfold numberP
  rw [h1, h2, d1, h3, d2, h4]
  unfold numAt
  rw [if_neg (by simp), hsum]
  simp only [List.length_append, hlen]
  rw [Nat.add_assoc]

end Go.Proofs.YtmjbaimccbkmpaaGreatDoor.dim

namespace Go.Proofs.YtmjbaimccbkmpaaGreatDoor.tok
open Go.RowKit Go.Proofs.YtmjbaimccbkmpaaGreatDoor.base
set_option linter.unusedVariables false

/-! ### Names -/
theorem esc_take {l : Bs} {m : Nat} (h : escP (l.take m) = true) : escP l = true := by
  match l, m, h with
  | [], _, h => simpa using h
  | [c], 0, h => simp [escP] at h
  | [c], m + 1, h => simp [escP] at h
  | c :: d :: r, 0, h => simp [escP] at h
  | c :: d :: r, 1, h => simp [escP] at h
  | c :: d :: r, m + 2, h => simpa [escP] using h
theorem esc_take2 {l : Bs} {m : Nat} (hm : 2 ≤ m) : escP (l.take m) = escP l := by
  match l, m, hm with
  | [], _, _ => simp
  | [c], m + 2, _ => simp [escP]
  | c :: d :: r, m + 2, _ => simp [escP]

theorem name_cons1 (c : UInt8) : nameP [c] = if signI (nv c) then ([c], 1) else ([], 0) := by rw [nameP]
theorem name_cons2 (c d : UInt8) (r : Bs) : nameP (c :: d :: r) = if escP (c :: d :: r) then (d :: (nameP r).1, (nameP r).2 + 2) else if signI (nv c) then (c :: (nameP (d :: r)).1, (nameP (d :: r)).2 + 1) else ([], 0) := by rw [nameP]
theorem name_nil : nameP [] = ([], 0) := by rw [nameP]

/-- a name is read the same of any prefix that holds it -/
theorem name_take : ∀ (n : Nat) (l : Bs) (m : Nat), l.length ≤ n → (nameP l).2 ≤ m → nameP (l.take m) = nameP l
  | 0, l, m, h, hm => by
    obtain rfl := List.eq_nil_of_length_eq_zero (Nat.le_zero.1 h)
    simp
  | n + 1, [], m, h, hm => by simp
  | n + 1, [c], m, h, hm => by
    rw [name_cons1] at hm ⊢
    by_cases hs : signI (nv c) = true
    · rw [if_pos hs] at hm ⊢
      obtain ⟨k, rfl⟩ : ∃ k, m = k + 1 := ⟨m - 1, by simp at hm; omega⟩
      simp [name_cons1, hs]
    · rw [if_neg hs]
      cases m with
      | zero => simp [name_nil]
      | succ m => simp [name_cons1, hs]
  | n + 1, c :: d :: r, m, h, hm => by
    rw [name_cons2] at hm ⊢
    by_cases he : escP (c :: d :: r) = true
    · rw [if_pos he] at hm ⊢
      obtain ⟨k, rfl⟩ : ∃ k, m = k + 2 := ⟨m - 2, by simp at hm; omega⟩
      have ih := name_take n r k (by simp at h; omega) (by simp at hm; omega)
      have he2 : escP (c :: d :: r.take k) = true := by simpa [escP] using he
      simp only [List.take_succ_cons]
      rw [name_cons2, if_pos he2, ih]
    · rw [if_neg he] at hm ⊢
      by_cases hs : signI (nv c) = true
      · rw [if_pos hs] at hm ⊢
        obtain ⟨k, rfl⟩ : ∃ k, m = k + 1 := ⟨m - 1, by simp at hm; omega⟩
        have ih := name_take n (d :: r) k (by simp at h ⊢; omega) (by simp at hm; omega)
        have he2 : ¬ escP ((c :: d :: r).take (k + 1)) = true := fun h2 => he (esc_take h2)
        cases k with
        | zero =>
          simp only [Nat.zero_add, List.take_succ_cons, List.take_zero] at ih ⊢
          rw [name_cons1, if_pos hs]
          rw [name_nil] at ih
          rw [← ih]
        | succ k =>
          simp only [List.take_succ_cons] at ih he2 ⊢
          rw [name_cons2, if_neg he2, if_pos hs, ih]
      · rw [if_neg hs]
        match m with
        | 0 => simp [name_nil]
        | 1 => simp [name_cons1, hs]
        | k + 2 =>
          have he2 : ¬ escP ((c :: d :: r).take (k + 2)) = true := fun h2 => he (esc_take h2)
          simp only [List.take_succ_cons] at he2 ⊢
          rw [name_cons2, if_neg he2, if_neg hs]
theorem name_take' (l : Bs) (m : Nat) (hm : (nameP l).2 ≤ m) : nameP (l.take m) = nameP l := name_take _ l m (Nat.le_refl _) hm

/-- .. and so does a name begin it -/
theorem begins_take {l : Bs} {m : Nat} (h : beginsP l = true) (hm : (nameP l).2 ≤ m) : beginsP (l.take m) = true := by
  match l, h, hm with
  | [c], h, hm =>
    have := name_pos h
    obtain ⟨k, rfl⟩ : ∃ k, m = k + 1 := ⟨m - 1, by omega⟩
    simpa using h
  | c :: d :: r, h, hm =>
    rw [name_cons2] at hm
    by_cases he : escP (c :: d :: r) = true
    · rw [if_pos he] at hm
      obtain ⟨k, rfl⟩ : ∃ k, m = k + 2 := ⟨m - 2, by simp at hm; omega⟩
      have he2 : escP (c :: d :: r.take k) = true := by simpa [escP] using he
      have h45 : ¬ nv c = 45 := by
        simp [escP] at he
        omega
      simp only [List.take_succ_cons, beginsP, if_neg h45, he2, Bool.or_true]
    · rw [if_neg he] at hm
      simp only [beginsP] at h
      by_cases h45 : nv c = 45
      · have hs : signI (nv c) = true := by simp [signI, h45]
        rw [if_pos hs] at hm
        rw [if_pos h45] at h
        obtain ⟨k, rfl⟩ : ∃ k, m = k + 1 := ⟨m - 1, by simp at hm; omega⟩
        have hd : signI (nv d) = true ∨ escP (d :: r) = true := by
          simp only [Bool.or_eq_true, decide_eq_true_eq] at h
          rcases h with (h | h) | h
          · left; simp [signI, h]
          · left; simp [signI, h]
          · right; exact h
        have hp : 0 < (nameP (d :: r)).2 := by
          cases r with
          | nil =>
            rw [name_cons1]
            rcases hd with hd | hd
            · simp [hd]
            · simp [escP] at hd
          | cons e r =>
            rw [name_cons2]
            split
            · simp
            · rename_i hne
              rcases hd with hd | hd
              · simp [hd]
              · exact absurd hd hne
        simp at hm
        obtain ⟨j, rfl⟩ : ∃ j, k = j + 1 := ⟨k - 1, by omega⟩
        simp only [List.take_succ_cons, beginsP, if_pos h45]
        simp only [Bool.or_eq_true, decide_eq_true_eq] at h ⊢
        rcases h with h | h
        · exact Or.inl h
        · right
          cases r with
          | nil => simp [escP] at h
          | cons e r =>
            have hj : 1 ≤ j := by
              rw [name_cons2, if_pos h] at hm
              simp at hm
              omega
            obtain ⟨i, rfl⟩ : ∃ i, j = i + 1 := ⟨j - 1, by omega⟩
            simpa [escP] using h
      · rw [if_neg h45] at h
        simp only [Bool.or_eq_true] at h
        have hst : startsI (nv c) = true := h.resolve_right he
        have hs : signI (nv c) = true := by simp [signI, hst]
        rw [if_pos hs] at hm
        obtain ⟨k, rfl⟩ : ∃ k, m = k + 1 := ⟨m - 1, by simp at hm; omega⟩
        cases k with
        | zero => simp [beginsP, hst]
        | succ k => simp [beginsP, h45, hst]

end Go.Proofs.YtmjbaimccbkmpaaGreatDoor.tok

namespace Go.Proofs.YtmjbaimccbkmpaaGreatDoor.tok
open Go.RowKit Go.Proofs.YtmjbaimccbkmpaaGreatDoor.base
set_option linter.unusedVariables false

theorem while_take (p : UInt8 → Bool) : ∀ (l : Bs) (k : Nat), ((l.take k).takeWhile p).length = min (l.takeWhile p).length k
  | [], k => by simp
  | c :: l, 0 => by simp
  | c :: l, k + 1 => by
    simp only [List.take_succ_cons, List.takeWhile_cons]
    cases p c
    · simp
    · simp only [if_true, List.length_cons]
      rw [while_take p l k]
      omega
theorem digits_take (l : Bs) (k : Nat) : digitsP (l.take k) = min (digitsP l) k := while_take _ l k
theorem space_take (l : Bs) (k : Nat) : spaceP (l.take k) = min (spaceP l) k := while_take _ l k
theorem sign_take {l : Bs} {m : Nat} (hm : 0 < m) : signAt (l.take m) = signAt l ∧ negP (l.take m) = negP l := by
  obtain ⟨k, rfl⟩ : ∃ k, m = k + 1 := ⟨m - 1, by omega⟩
  cases l with
  | nil => simp
  | cons c r => exact ⟨rfl, rfl⟩
theorem behind_take0 {x : Bs} (h : behindP x = 0) (k : Nat) : behindP (x.take k) = 0 := by
  cases x with
  | nil => simp [behindP]
  | cons c t =>
    cases k with
    | zero => simp [behindP]
    | succ k =>
      simp only [List.take_succ_cons, behindP] at h ⊢
      split
      · rename_i h46
        rw [if_pos h46] at h
        rw [digits_take, h]
        simp
      · rfl
theorem behind_take1 {x : Bs} {k : Nat} (h : behindP x ≠ 0) (hk : 1 + behindP x ≤ k) : behindP (x.take k) = behindP x := by
  cases x with
  | nil => simp [behindP] at h
  | cons c t =>
    obtain ⟨j, rfl⟩ : ∃ j, k = j + 1 := ⟨k - 1, by omega⟩
    simp only [List.take_succ_cons, behindP] at h hk ⊢
    split
    · rename_i h46
      rw [if_pos h46] at hk
      rw [digits_take]
      omega
    · rfl

theorem num_end (l : Bs) (f wh be : Nat) (neg : Bool) : (numAt l f wh be neg).2 = if wh + be = 0 then 0 else f + wh + if be = 0 then 0 else 1 + be := by
  unfold numAt
  split <;> rfl

/-- a number is read the same of any prefix that holds it -/
theorem number_take {l : Bs} {m : Nat} (h0 : 0 < (numberP l).2) (hm : (numberP l).2 ≤ m) : numberP (l.take m) = numberP l := by
  obtain ⟨hs, hn⟩ := sign_take (l := l) (m := m) (by omega)
  have he := num_end l (signAt l) (digitsP (l.drop (signAt l))) (behindP (l.drop (signAt l + digitsP (l.drop (signAt l))))) (negP l)
  unfold numberP at h0 hm ⊢
  rw [he] at h0 hm
  rw [hs, hn]
  generalize signAt l = f at *
  generalize hwh : digitsP (l.drop f) = wh at *
  generalize hbe : behindP (l.drop (f + wh)) = be at *
  have hz : ¬ wh + be = 0 := by
    intro hz
    rw [if_pos hz] at h0
    omega
  rw [if_neg hz] at hm h0
  have hm2 : f + wh ≤ m := by split at hm <;> omega
  have e1 : digitsP ((l.take m).drop f) = wh := by
    rw [List.drop_take, digits_take, hwh]
    omega
  rw [e1]
  have e2 : behindP ((l.take m).drop (f + wh)) = be := by
    rw [List.drop_take]
    by_cases hb : be = 0
    · rw [hb]
      exact behind_take0 (by rw [hbe, hb]) _
    · rw [if_neg hb] at hm
      rw [behind_take1 (by rw [hbe]; exact hb) (by rw [hbe]; omega), hbe]
  rw [e2]
  unfold numAt
  rw [if_neg hz, if_neg hz]
  have e3 : sumP (l.take m) f wh be = sumP l f wh be := by
    unfold sumP
    have a1 : ((l.take m).drop f).take wh = (l.drop f).take wh := by
      rw [List.drop_take, List.take_take, Nat.min_eq_left (by omega)]
    have a2 : ((l.take m).drop (f + wh + 1)).take be = (l.drop (f + wh + 1)).take be := by
      by_cases hb : be = 0
      · rw [hb]; simp
      · rw [if_neg hb] at hm
        rw [List.drop_take, List.take_take, Nat.min_eq_left (by omega)]
    rw [a1, a2]
  rw [e3]

/-- what is no number has no prefix that is one -/
theorem number_take0 {l : Bs} (h0 : (numberP l).2 = 0) (m : Nat) : (numberP (l.take m)).2 = 0 := by
  cases m with
  | zero => rfl
  | succ m =>
    obtain ⟨hs, hn⟩ := sign_take (l := l) (m := m + 1) (by omega)
    have he := num_end l (signAt l) (digitsP (l.drop (signAt l))) (behindP (l.drop (signAt l + digitsP (l.drop (signAt l))))) (negP l)
    unfold numberP at h0 ⊢
    rw [he] at h0
    rw [hs, hn, num_end]
    generalize signAt l = f at *
    generalize hwh : digitsP (l.drop f) = wh at *
    generalize hbe : behindP (l.drop (f + wh)) = be at *
    have hz : wh + be = 0 := by
      rcases Nat.eq_zero_or_pos (wh + be) with h | h
      · exact h
      · rw [if_neg (by omega)] at h0
        split at h0 <;> omega
    have hwz : wh = 0 := by omega
    have e1 : digitsP ((l.take (m + 1)).drop f) = 0 := by
      rw [List.drop_take, digits_take, hwh, hwz]
      simp
    rw [e1]
    have e2 : behindP ((l.take (m + 1)).drop (f + 0)) = 0 := by
      rw [List.drop_take]
      have : behindP (l.drop (f + 0)) = 0 := by
        rw [hwz] at hbe
        rw [hbe]
        omega
      exact behind_take0 this _
    rw [e2]
    simp

theorem textR_nil (q : UInt8) : textR q [] = (6, 0, []) := by rw [textR]
theorem textR_one (q c : UInt8) : textR q [c] = if nv c = nv q then (5, 1, []) else if nv c = 10 then (6, 0, []) else (6, 1, [c]) := by rw [textR]
theorem textR_two (q c d : UInt8) (r : Bs) : textR q (c :: d :: r) = if nv c = nv q then (5, 1, []) else if nv c = 10 then (6, 0, []) else
      if nv c = 92 then ((textR q r).1, (textR q r).2.1 + 2, d :: (textR q r).2.2) else ((textR q (d :: r)).1, (textR q (d :: r)).2.1 + 1, c :: (textR q (d :: r)).2.2) := by rw [textR]
/-- what is between quotes is read the same without what follows -/
theorem textR_take (q : UInt8) : ∀ (n : Nat) (l : Bs), l.length ≤ n → textR q (l.take (textR q l).2.1) = textR q l
  | 0, l, h => by
    obtain rfl := List.eq_nil_of_length_eq_zero (Nat.le_zero.1 h)
    simp
  | n + 1, [], h => by simp
  | n + 1, [c], h => by
    rw [textR_one]
    split
    · rename_i hq
      simp [textR_one, hq]
    · split
      · simp [textR_nil]
      · rename_i hq hn
        simp [textR_one, hq, hn]
  | n + 1, c :: d :: r, h => by
    rw [textR_two]
    split
    · rename_i hq
      simp [textR_one, hq]
    · rename_i hq
      split
      · simp [textR_nil]
      · rename_i hn
        split
        · rename_i hb
          have ih := textR_take q n r (by simp at h; omega)
          simp only [List.take_succ_cons]
          rw [textR_two, if_neg hq, if_neg hn, if_pos hb, ih]
        · rename_i hb
          have ih := textR_take q n (d :: r) (by simp at h ⊢; omega)
          simp only [List.take_succ_cons]
          generalize textR q (d :: r) = T at *
          obtain ⟨k, j, v⟩ := T
          simp only at ih ⊢
          cases j with
          | zero =>
            simp only [List.take_zero] at ih ⊢
            rw [textR_nil] at ih
            rw [textR_one, if_neg hq, if_neg hn]
            simp only [Prod.mk.injEq] at ih
            obtain ⟨rfl, _, rfl⟩ := ih
            rfl
          | succ j =>
            simp only [List.take_succ_cons] at ih ⊢
            rw [textR_two, if_neg hq, if_neg hn, if_neg hb, ih]

theorem prefix_take {l sub : Bs} {m : Nat} (h : sub.isPrefixOf (l.take m) = true) : sub.isPrefixOf l = true := by
  rw [List.isPrefixOf_iff_prefix] at h ⊢
  exact h.trans (List.take_prefix _ _)
/-- the place of a remark's end, in the remark alone -/
theorem index_take {s : Bs} {i : Nat} (h : Lib.index s [42, 47] = (i : Int)) : Lib.index (s.take (i + 2)) [42, 47] = (i : Int) := by
  rcases Lib.index_spec s [42, 47] with ⟨h1, _⟩ | ⟨j, hj, hjl, hocc, hno⟩
  · omega
  · obtain rfl : j = i := by omega
    have hr := Lib.index_room s [42, 47] (by omega)
    simp only [List.length_cons, List.length_nil] at hr
    refine Lib.index_first (by rw [List.length_take]; omega) ?_ (fun k hk => ?_)
    · unfold Lib.occAt at hocc ⊢
      rw [List.drop_take, Nat.add_sub_cancel_left]
      rw [List.isPrefixOf_iff_prefix] at hocc ⊢
      obtain ⟨t, ht⟩ := hocc
      rw [← ht]
      simp
    · have := hno k hk
      unfold Lib.occAt at this ⊢
      cases hp : List.isPrefixOf [42, 47] ((s.take (j + 2)).drop k)
      · rfl
      · rw [List.drop_take] at hp
        rw [prefix_take hp] at this
        cases this

end Go.Proofs.YtmjbaimccbkmpaaGreatDoor.tok

namespace Go.Proofs.YtmjbaimccbkmpaaGreatDoor.tok
open Go.RowKit Go.Proofs.YtmjbaimccbkmpaaGreatDoor.base
set_option linter.unusedVariables false

/-- of a prefix that is not empty: what its first sign tells -/
theorem space_zero {l : Bs} (h : spaceP l = 0) (m : Nat) : spaceP (l.take m) = 0 := by rw [space_take, h]; simp
theorem hasP_take {l p : Bs} (h : Lib.hasPrefix l p = false) (m : Nat) : Lib.hasPrefix (l.take m) p = false := by
  cases h2 : Lib.hasPrefix (l.take m) p
  · rfl
  · unfold Lib.hasPrefix at h h2
    rw [prefix_take h2] at h
    cases h
theorem quote_take {l : Bs} {m : Nat} (hm : 0 < m) : quoteP (l.take m) = quoteP l := by
  obtain ⟨k, rfl⟩ : ∃ k, m = k + 1 := ⟨m - 1, by omega⟩
  cases l <;> rfl
theorem one_take {l : Bs} {m : Nat} (hm : 0 < m) : oneK (l.take m) = oneK l := by
  obtain ⟨k, rfl⟩ : ∃ k, m = k + 1 := ⟨m - 1, by omega⟩
  cases l <;> rfl
theorem hash_head {l : Bs} {c : UInt8} (h : l.head? = some c) (hc : ¬ nv c = 35) : hashP l = false := by
  match l, h with
  | [a], _ => rfl
  | a :: b :: r, h =>
    obtain rfl : a = c := by simpa using h
    simp [hashP, hc]
theorem at_head {l : Bs} {c : UInt8} (h : l.head? = some c) (hc : ¬ nv c = 64) : atP l = false := by
  match l, h with
  | a :: r, h =>
    obtain rfl : a = c := by simpa using h
    simp [atP, hc]
theorem quote_head {l : Bs} {c : UInt8} (h : l.head? = some c) (hq : quoteP l = true) : nv c = 39 ∨ nv c = 34 := by
  match l, h with
  | a :: r, h =>
    obtain rfl : a = c := by simpa using h
    simpa [quoteP] using hq
theorem head_take {l : Bs} {m : Nat} (hm : 0 < m) : (l.take m).head? = l.head? := by
  obtain ⟨k, rfl⟩ : ∃ k, m = k + 1 := ⟨m - 1, by omega⟩
  cases l <;> rfl
theorem head_some {l : Bs} (h : l ≠ []) : ∃ c, l.head? = some c := by
  cases l with
  | nil => exact absurd rfl h
  | cons c r => exact ⟨c, rfl⟩
theorem take_all {l : Bs} {m : Nat} : (l.take m).take m = l.take m := by rw [List.take_take, Nat.min_self]

theorem first_self (l : Bs) (h0 : l ≠ []) : firstP (firstP l).raw = firstP l := by
  have hl : 0 < l.length := List.length_pos_iff.2 h0
  obtain ⟨c, hc⟩ := head_some h0
  generalize hF : firstP l = F
  rw [firstP] at hF
  by_cases hsp : 0 < spaceP l
  · rw [if_pos hsp] at hF
    subst hF
    simp only
    have hs2 : spaceP (l.take (spaceP l)) = spaceP l := by rw [space_take]; omega
    rw [firstP, if_pos (by rw [hs2]; exact hsp), hs2, take_all]
  rw [if_neg hsp] at hF
  have hsz : spaceP l = 0 := by omega
  by_cases hn : Lib.hasPrefix l [47, 42] = true
  · rw [if_pos hn] at hF
    subst hF
    by_cases hi : 0 ≤ Lib.index (l.drop 2) [42, 47]
    · obtain ⟨i, hi2⟩ := Int.eq_ofNat_of_zero_le hi
      have hr := Lib.index_room (l.drop 2) [42, 47] hi
      rw [hi2, List.length_drop] at hr
      simp only [List.length_cons, List.length_nil] at hr
      have e : noteP l = ⟨9, l.take (i + 4), [], 0⟩ := by
        unfold noteP
        rw [if_pos hi, hi2]
        rfl
      rw [e]
      simp only
      have hn2 : Lib.hasPrefix (l.take (i + 4)) [47, 42] = true := by
        match l, hn, hr with
        | a :: b :: r, hn, _ =>
          simp only [Lib.hasPrefix, List.take_succ_cons, List.isPrefixOf] at hn ⊢
          exact hn
        | [a], hn, hr => simp at hr; omega
        | [], hn, hr => simp at hr; omega
      have hix : Lib.index ((l.take (i + 4)).drop 2) [42, 47] = (i : Int) := by
        rw [List.drop_take]
        exact index_take hi2
      rw [firstP, if_neg (by rw [space_zero hsz]; omega), if_pos hn2]
      unfold noteP
      rw [hix, if_pos (by omega)]
      simp only [Int.toNat_natCast]
      rw [take_all]
    · have e : noteP l = ⟨9, l, [], 0⟩ := by
        unfold noteP
        rw [if_neg hi]
      rw [e]
      simp only
      rw [firstP, if_neg hsp, if_pos hn, e]
  have hn' : Lib.hasPrefix l [47, 42] = false := by simpa using hn
  rw [if_neg hn] at hF
  by_cases hq : quoteP l = true
  · rw [if_pos hq] at hF
    subst hF
    match l, h0, hq, hsz, hn' with
    | q :: r, _, hq, hsz, hn' =>
      simp only [textP]
      have ht := textR_take q _ r (Nat.le_refl _)
      generalize hT : textR q r = T at *
      obtain ⟨k, n, v⟩ := T
      simp only at ht ⊢
      have hq2 : quoteP ((q :: r).take (1 + n)) = true := by rw [quote_take (by omega)]; exact hq
      rw [firstP, if_neg (by rw [space_zero hsz]; omega), if_neg (by rw [hasP_take hn']; simp), if_pos hq2]
      rw [Nat.add_comm 1 n, List.take_succ_cons]
      simp only [textP, ht]
      congr 1
      rw [Nat.add_comm 1 n, List.take_succ_cons, List.take_take, Nat.min_self]
  rw [if_neg hq] at hF
  have hq' : quoteP l = false := by simpa using hq
  by_cases hh : hashP l = true
  · rw [if_pos hh] at hF
    subst hF
    match l, h0, hh, hsz, hn', hq', hc with
    | [a], _, hh, _, _, _, _ => simp [hashP] at hh
    | a :: b :: r, _, hh, hsz, hn', hq', hc =>
      simp only [hashP, Bool.and_eq_true, decide_eq_true_eq, Bool.or_eq_true] at hh
      obtain ⟨ha, hb⟩ := hh
      have hpos : 0 < (nameP (b :: r)).2 := by
        cases r with
        | nil =>
          rw [name_cons1]
          rcases hb with hb | hb
          · simp [hb]
          · simp [escP] at hb
        | cons e r =>
          rw [name_cons2]
          split
          · simp
          · rename_i hne
            rcases hb with hb | hb
            · simp [hb]
            · exact absurd hb hne
      have hnt := name_take' (b :: r) (nameP (b :: r)).2 (Nat.le_refl _)
      have hsz2 := space_zero hsz (1 + (nameP (b :: r)).2)
      have hn2 := hasP_take hn' (1 + (nameP (b :: r)).2)
      have hq2 : quoteP ((a :: b :: r).take (1 + (nameP (b :: r)).2)) = false := by rw [quote_take (by omega)]; exact hq'
      simp only [namedP, List.drop_succ_cons, List.drop_zero]
      generalize hN : nameP (b :: r) = N at *
      obtain ⟨v, n⟩ := N
      simp only at hpos hnt hsz2 hn2 hq2 ⊢
      obtain ⟨j, rfl⟩ : ∃ j, n = j + 1 := ⟨n - 1, by omega⟩
      have hh2 : hashP ((a :: b :: r).take (1 + (j + 1))) = true := by
        rw [Nat.add_comm 1 (j + 1)]
        simp only [List.take_succ_cons, hashP, Bool.and_eq_true, decide_eq_true_eq, Bool.or_eq_true]
        refine ⟨ha, ?_⟩
        rcases hb with hb | hb
        · exact Or.inl hb
        · right
          cases r with
          | nil => simp [escP] at hb
          | cons e r =>
            have h2 : 2 ≤ j + 1 := by
              rw [name_cons2, if_pos hb] at hN
              have := congrArg Prod.snd hN
              simp at this
              omega
            obtain ⟨i, rfl⟩ : ∃ i, j = i + 1 := ⟨j - 1, by omega⟩
            simpa [escP] using hb
      rw [firstP, if_neg (by rw [hsz2]; omega), if_neg (by rw [hn2]; simp), if_neg (by rw [hq2]; simp), if_pos hh2]
      have e1 : ((a :: b :: r).take (1 + (j + 1))).drop 1 = (b :: r).take (j + 1) := by rw [Nat.add_comm 1 (j + 1), List.take_succ_cons]; rfl
      simp only [namedP, e1, hnt]
      rw [take_all]
  rw [if_neg hh] at hF
  have hh' : hashP l = false := by simpa using hh
  by_cases ha : atP l = true
  · rw [if_pos ha] at hF
    subst hF
    match l, h0, ha, hsz, hn', hq', hh' with
    | a :: r, _, ha, hsz, hn', hq', hh' =>
      simp only [atP, Bool.and_eq_true, decide_eq_true_eq] at ha
      obtain ⟨ha, hb⟩ := ha
      have hpos := name_pos hb
      have hnt := name_take' r (nameP r).2 (Nat.le_refl _)
      have hbt := begins_take hb (Nat.le_refl _)
      have hsz2 := space_zero hsz (1 + (nameP r).2)
      have hn2 := hasP_take hn' (1 + (nameP r).2)
      have hq2 : quoteP ((a :: r).take (1 + (nameP r).2)) = false := by rw [quote_take (by omega)]; exact hq'
      simp only [namedP, List.drop_succ_cons, List.drop_zero]
      generalize hN : nameP r = N at *
      obtain ⟨v, n⟩ := N
      simp only at hpos hnt hbt hsz2 hn2 hq2 ⊢
      have hhd : ((a :: r).take (1 + n)).head? = some a := by rw [head_take (by omega)]; rfl
      have hh2 := hash_head hhd (by omega : ¬ nv a = 35)
      have e1 : ((a :: r).take (1 + n)) = a :: r.take n := by rw [Nat.add_comm 1 n, List.take_succ_cons]
      have ha2 : atP ((a :: r).take (1 + n)) = true := by
        rw [e1]
        simp only [atP, Bool.and_eq_true, decide_eq_true_eq]
        exact ⟨ha, hbt⟩
      rw [firstP, if_neg (by rw [hsz2]; omega), if_neg (by rw [hn2]; simp), if_neg (by rw [hq2]; simp), if_neg (by rw [hh2]; simp), if_pos ha2]
      have e2 : ((a :: r).take (1 + n)).drop 1 = r.take n := by rw [e1]; rfl
      simp only [namedP, e2, hnt]
      rw [take_all]
  rw [if_neg ha] at hF
  by_cases hnum : 0 < (numberP l).2
  · rw [if_pos hnum] at hF
    subst hF
    obtain ⟨x1, x2, x3, x4⟩ := number_no' hc hnum
    -- whatever prefix holds the number
    have key : ∀ m, (numberP l).2 ≤ m → firstP (l.take m) = numTkP (l.take m) (numberP l).1 (numberP l).2 := by
      intro m hm
      have hm0 : 0 < m := by omega
      have hhd : (l.take m).head? = some c := by rw [head_take hm0]; exact hc
      have hq2 : quoteP (l.take m) = false := by rw [quote_take hm0]; exact hq'
      have hnt := number_take hnum hm
      rw [firstP, if_neg (by rw [space_zero hsz]; omega), if_neg (by rw [hasP_take hn']; simp), if_neg (by rw [hq2]; simp), if_neg (by rw [hash_head hhd x1]; simp), if_neg (by rw [at_head hhd x2]; simp), hnt, if_pos hnum]
    generalize numberP l = N at *
    obtain ⟨nm, n⟩ := N
    simp only at hnum key ⊢
    have hd : ∀ m, n ≤ m → (l.take m).drop n = (l.drop n).take (m - n) := fun m _ => by rw [List.drop_take]
    unfold numTkP
    by_cases hp : Lib.hasPrefix (l.drop n) [37] = true
    · rw [if_pos hp]
      simp only
      rw [key (n + 1) (by omega)]
      unfold numTkP
      have hp2 : Lib.hasPrefix ((l.take (n + 1)).drop n) [37] = true := by
        rw [hd _ (by omega), Nat.add_sub_cancel_left]
        generalize l.drop n = x at *
        match x, hp with
        | a :: r, hp => simpa [Lib.hasPrefix, List.isPrefixOf] using hp
        | [], hp => simp [Lib.hasPrefix, List.isPrefixOf] at hp
      rw [if_pos hp2, take_all]
    · rw [if_neg hp]
      have hp' : Lib.hasPrefix (l.drop n) [37] = false := by simpa using hp
      by_cases hb : beginsP (l.drop n) = true
      · rw [if_pos hb]
        simp only
        rw [key (n + (nameP (l.drop n)).2) (by omega)]
        unfold numTkP
        have e1 : (l.take (n + (nameP (l.drop n)).2)).drop n = (l.drop n).take (nameP (l.drop n)).2 := by rw [hd _ (by omega), Nat.add_sub_cancel_left]
        rw [e1, if_neg (by rw [hasP_take hp']; simp), if_pos (begins_take hb (Nat.le_refl _)), name_take' _ _ (Nat.le_refl _), take_all]
      · rw [if_neg hb]
        simp only
        rw [key n (Nat.le_refl _)]
        unfold numTkP
        have e1 : (l.take n).drop n = [] := by rw [List.drop_take]; simp
        rw [e1, if_neg (by decide), if_neg (by decide), take_all]
  rw [if_neg hnum] at hF
  have hnum' : (numberP l).2 = 0 := by omega
  by_cases hb : beginsP l = true
  · rw [if_pos hb] at hF
    subst hF
    obtain ⟨x1, x2, x3, x4⟩ := begins_no' hc hb
    have hpos := name_pos hb
    have key : ∀ m, (nameP l).2 ≤ m → firstP (l.take m) = wordP (l.take m) := by
      intro m hm
      have hm0 : 0 < m := by omega
      have hhd : (l.take m).head? = some c := by rw [head_take hm0]; exact hc
      have hq2 : quoteP (l.take m) = false := by rw [quote_take hm0]; exact hq'
      rw [firstP, if_neg (by rw [space_zero hsz]; omega), if_neg (by rw [hasP_take hn']; simp), if_neg (by rw [hq2]; simp), if_neg (by rw [hash_head hhd x1]; simp), if_neg (by rw [at_head hhd x2]; simp), if_neg (by rw [number_take0 hnum' m]; omega), if_pos (begins_take hb hm)]
    have hle := nameP_le _ l (Nat.le_refl _)
    have hnl : (namedP 1 l 0).raw.length = (nameP l).2 := by
      simp only [namedP, List.drop_zero, Nat.zero_add, List.length_take]
      omega
    have hnm : ∀ m, (nameP l).2 ≤ m → namedP 1 (l.take m) 0 = namedP 1 l 0 := by
      intro m hm
      simp only [namedP, List.drop_zero, Nat.zero_add]
      rw [name_take' l m hm, List.take_take, Nat.min_eq_left hm]
    unfold wordP
    rw [hnl]
    by_cases hp : Lib.hasPrefix (l.drop (nameP l).2) [40] = true
    · rw [if_pos hp]
      simp only
      rw [key _ (by omega)]
      unfold wordP
      rw [hnm _ (by omega), hnl]
      have hp2 : Lib.hasPrefix ((l.take ((nameP l).2 + 1)).drop (nameP l).2) [40] = true := by
        rw [List.drop_take, Nat.add_sub_cancel_left]
        generalize l.drop (nameP l).2 = x at *
        match x, hp with
        | a :: r, hp => simpa [Lib.hasPrefix, List.isPrefixOf] using hp
        | [], hp => simp [Lib.hasPrefix, List.isPrefixOf] at hp
      rw [if_pos hp2, take_all]
    · rw [if_neg hp]
      have hraw : (namedP 1 l 0).raw = l.take (nameP l).2 := by simp [namedP]
      rw [hraw, key _ (Nat.le_refl _)]
      unfold wordP
      rw [hnm _ (Nat.le_refl _), hnl]
      have e1 : (l.take (nameP l).2).drop (nameP l).2 = [] := by rw [List.drop_take]; simp
      rw [e1, if_neg (by decide)]
  · rw [if_neg hb] at hF
    subst hF
    simp only
    have hhd : (l.take 1).head? = some c := by rw [head_take (by omega)]; exact hc
    have e1 : l.take 1 = [c] := by
      match l, hc with
      | a :: r, hc =>
        obtain rfl : a = c := by simpa using hc
        rfl
    have hq2 : quoteP (l.take 1) = false := by rw [quote_take (by omega)]; exact hq'
    have hh2 : hashP (l.take 1) = false := by rw [e1]; rfl
    have ha2 : atP (l.take 1) = false := by rw [e1]; simp [atP, beginsP]
    have hb2 : ¬ beginsP (l.take 1) = true := by
      intro h
      apply hb
      match l, hc with
      | [a], _ => exact h
      | a :: d :: r, hc =>
        simp only [List.take_succ_cons, List.take_zero, beginsP] at h
        simp only [beginsP]
        have h45 : ¬ nv a = 45 := fun e => by
          rw [e] at h
          simp [startsI] at h
        rw [if_neg h45, h]
        rfl
    rw [firstP, if_neg (by rw [space_zero hsz]; omega), if_neg (by rw [hasP_take hn']; simp), if_neg (by rw [hq2]; simp), if_neg (by rw [hh2]; simp), if_neg (by rw [ha2]; simp), if_neg (by rw [number_take0 hnum' 1]; omega), if_neg hb2, one_take (by omega), take_all]

theorem cut_self (l : Bs) (h0 : l ≠ []) : cutP (firstP l).raw = [firstP l] := by
  have hp := (first_pre l h0).2
  have hne : (firstP l).raw ≠ [] := fun e => by rw [e] at hp; simp at hp
  rw [cutP_cons hne, first_self l h0, List.drop_length, cutP_nil]
theorem cut_alone : ∀ (n : Nat) (l : Bs), l.length ≤ n → ∀ t ∈ cutP l, cutP t.raw = [t]
  | 0, l, h, t, ht => by
    obtain rfl := List.eq_nil_of_length_eq_zero (Nat.le_zero.1 h)
    rw [cutP_nil] at ht
    cases ht
  | n + 1, l, h, t, ht => by
    by_cases h0 : l = []
    · subst h0
      rw [cutP_nil] at ht
      cases ht
    · rw [cutP_cons h0] at ht
      rcases List.mem_cons.1 ht with rfl | ht
      · exact cut_self l h0
      · have hp := (first_pre l h0).2
        exact cut_alone n _ (by rw [List.length_drop]; omega) t ht

end Go.Proofs.YtmjbaimccbkmpaaGreatDoor.tok

namespace Go.Proofs.YtmjbaimccbkmpaaGreatDoor.dim
open Go.RowKit Go.Proofs.YtmjbaimccbkmpaaGreatDoor.base Go.Proofs.YtmjbaimccbkmpaaGreatDoor.tok
set_option linter.unusedVariables false

theorem unit_names {u : Bs} (h : u ∈ unitsL) : u = [] ∨ u = [37] ∨ (Lib.hasPrefix u [37] = false ∧ beginsP u = true ∧ nameP u = (u, u.length) ∧ u.map lowB = u) := by
  simp only [unitsL, List.mem_cons, List.not_mem_nil, or_false] at h
  rcases h with rfl | rfl | rfl | rfl | rfl | rfl | rfl
  · exact .inl rfl
  · exact .inr (.inr ⟨by decide, by decide, by rw [nameP, if_neg (by decide), if_pos (by decide), nameP, if_pos (by decide)]; rfl, by decide⟩)
  · exact .inr (.inr ⟨by decide, by decide, by rw [nameP, if_neg (by decide), if_pos (by decide), nameP, if_pos (by decide)]; rfl, by decide⟩)
  · exact .inr (.inr ⟨by decide, by decide, by rw [nameP, if_neg (by decide), if_pos (by decide), nameP, if_neg (by decide), if_pos (by decide), nameP, if_pos (by decide)]; rfl, by decide⟩)
  · exact .inr (.inr ⟨by decide, by decide, by rw [nameP, if_neg (by decide), if_pos (by decide), nameP, if_pos (by decide)]; rfl, by decide⟩)
  · exact .inr (.inr ⟨by decide, by decide, by rw [nameP, if_neg (by decide), if_pos (by decide), nameP, if_pos (by decide)]; rfl, by decide⟩)
  · exact .inr (.inl rfl)
theorem unit_head {u : Bs} (h : u ∈ unitsL) : ∀ c, u.head? = some c → digI (nv c) = false ∧ ¬ nv c = 46 := by
  simp only [unitsL, List.mem_cons, List.not_mem_nil, or_false] at h
  intro c hc
  rcases h with rfl | rfl | rfl | rfl | rfl | rfl | rfl <;> simp at hc <;> subst hc <;> exact ⟨by decide, by decide⟩

theorem space_head {l : Bs} {c : UInt8} (h : l.head? = some c) (hc : 33 ≤ nv c) : spaceP l = 0 := by
  cases l with
  | nil => cases h
  | cons a r =>
    obtain rfl : a = c := by simpa using h
    have hb : blankB a = false := by
      cases hb : blankB a
      · rfl
      · exfalso
        simp only [blankB, List.contains_eq_mem, List.mem_cons, List.not_mem_nil, or_false, decide_eq_true_eq] at hb
        rcases hb with rfl | rfl | rfl | rfl | rfl <;> revert hc <;> decide
    unfold spaceP
    rw [List.takeWhile_cons_of_neg (by simp [hb])]
    rfl
theorem prefix_head {l : Bs} {c : UInt8} (h : l.head? = some c) (hc : ¬ nv c = 47) : Lib.hasPrefix l [47, 42] = false := by
  cases l with
  | nil => cases h
  | cons a r =>
    obtain rfl : a = c := by simpa using h
    have ha : ((47 : UInt8) == a) = false := by
      rw [beq_eq_false_iff_ne]
      rintro rfl
      exact hc rfl
    unfold Lib.hasPrefix
    rw [List.isPrefixOf_cons_cons, ha]
    rfl

theorem text_cut (s u : Bs) (m : Nat) (hm : m ≤ 1000000000) (neg : Bool) (hu : u ∈ unitsL) (hs : (s = [] ∧ neg = false) ∨ (s = [45] ∧ neg = true)) :
    cutP (s ++ (plainP m ++ u)) = [⟨7, s ++ (plainP m ++ u), u, if neg then -(m : Int) else (m : Int)⟩] := by
  have hnum := number_at s u m hm neg (unit_head hu) hs
  obtain ⟨c, W, hW⟩ := List.exists_cons_of_ne_nil (dec_ne (m / 1000))
  have hcd := dec_digs (m / 1000) c (by rw [hW]; simp)
  simp [digI] at hcd
  have hhead : ∃ x, (s ++ (plainP m ++ u)).head? = some x ∧ (nv x = 45 ∨ (48 ≤ nv x ∧ nv x ≤ 57)) := by
    rcases hs with ⟨rfl, -⟩ | ⟨rfl, -⟩
    · refine ⟨c, ?_, .inr hcd⟩
      unfold plainP
      rw [hW]
      rfl
    · exact ⟨45, rfl, .inl rfl⟩
  have hpos : 0 < (plainP m).length := by
    unfold plainP
    rw [hW]
    simp
  obtain ⟨x, hx, hxr⟩ := hhead
  have hdrop : (s ++ (plainP m ++ u)).drop (s.length + (plainP m).length) = u := by
    rw [← List.append_assoc, ← List.length_append, List.drop_left]
  have hlen : (s ++ (plainP m ++ u)).length = s.length + (plainP m).length + u.length := by
    simp only [List.length_append]
    omega
  generalize hL : s ++ (plainP m ++ u) = l at *
  have hn0 : 0 < s.length + (plainP m).length := by omega
  generalize s.length + (plainP m).length = n at *

  have hne : l ≠ [] := by
    rintro rfl
    cases hx
  have hq : quoteP l = false := by
    cases hq : quoteP l
    · rfl
    · have := quote_head hx hq
      omega
  have hf : firstP l = ⟨7, l, u, if neg then -(m : Int) else (m : Int)⟩ := by
    have htk : 0 < n → firstP l = numTkP l (if neg then -(m : Int) else (m : Int)) n := by
      intro h0
      rw [firstP, if_neg (by rw [space_head hx (by omega)]; omega), if_neg (by rw [prefix_head hx (by omega)]; decide), if_neg (by rw [hq]; decide), if_neg (by rw [hash_head hx (by omega)]; decide),
        if_neg (by rw [at_head hx (by omega)]; decide), hnum, if_pos h0]
    rw [htk hn0]
    unfold numTkP
    rw [hdrop]
    rcases unit_names hu with rfl | rfl | ⟨h1, h2, h3, h4⟩
    · rw [if_neg (by decide), if_neg (by decide), List.take_of_length_le (by rw [hlen]; simp)]
    · rw [if_pos (by decide), List.take_of_length_le (by rw [hlen]; simp)]
    · rw [if_neg (by rw [h1]; decide), if_pos h2, h3]
      simp only
      rw [h4, List.take_of_length_le (by omega)]
  rw [cutP_cons hne, hf]
  simp [cutP_nil]

end Go.Proofs.YtmjbaimccbkmpaaGreatDoor.dim

namespace Go.Proofs.YtmjbaimccbkmpaaGreatDoor.dim
open Go.RowKit Go.Proofs.YtmjbaimccbkmpaaGreatDoor.base Go.Proofs.YtmjbaimccbkmpaaGreatDoor.tok
set_option linter.unusedVariables false

theorem grow_below (w : World) (k : Nat) (os : Array Obj) : Below w.heap.size w (Go.Sort.grow (w.drewN k) os) := by
  refine ⟨rfl, rfl, rfl, ?_, fun i hi => ?_⟩
  · simp [Go.Sort.grow]
  · simp only [Go.Sort.grow]
    rw [Array.getElem?_append_left (by simpa using hi)]
    rfl

/-- the table of powers is there -/
def PowAt (w : World) : Prop := 2 < w.heap.size ∧ Lib.TabIs Tryz.prog w "internal/strconv.uint64pow10" .u64 Lib.pow10Tab

theorem PowAt.on {w w' : World} (h : PowAt w) (hb : Below w.heap.size w w') : PowAt w' := by
  refine ⟨Nat.lt_of_lt_of_le h.1 hb.size, ?_⟩
  have hg : Tryz.prog.globalNamed "internal/strconv.uint64pow10" = some 2 := by kernel_rfl
  have h2 := h.2
  unfold Lib.TabIs World.var? at h2 ⊢
  rw [hg] at h2 ⊢
  simp only [Option.bind_some] at h2 ⊢
  rw [hb.block _ h.1]
  exact h2

theorem itoa_ct (n : Int) (h0 : -9223372036854775808 ≤ n) (h1 : n ≤ 9223372036854775807) (w : World) (hT : PowAt w) :
    Calls Tryz.prog 22 #[.int .i64 n] w fun e w' => e = .returned (.string (bs (Lib.itoa n))) ∧ Below w.heap.size w w' :=
  (Tryz.strconv_Itoa n h0 h1 w hT.2).mono fun e w' ⟨he, k, os, hw⟩ => ⟨he, by rw [hw]; exact grow_below w k os⟩

theorem trimR_ct (s : ByteArray) (w : World) (hs : s.size ≤ 9223372036854775807) :
    Calls Tryz.prog 23 #[.string s, .string ⟨#[48]⟩] w fun e w' => e = .returned (.string (bs (Lib.trimRightB s.data.toList 48))) ∧ w' = w :=
  Tryz.strings_TrimRight_one s 48 (by decide) w hs


/-- what dim.Text tells -/
def textD (m : Nat) (neg : Bool) (u : Bs) : Bs := (if neg then [45] else []) ++ (plainP m ++ u)

end Go.Proofs.YtmjbaimccbkmpaaGreatDoor.dim

namespace Go.Proofs.YtmjbaimccbkmpaaGreatDoor.base
open Go.RowKit Go.ChangeShapes Go.WideShapes Go.ChangeAt
set_option linter.unusedVariables false

theorem ownD : ownKnob Tryz.prog.godebug = none := by kernel_rfl
theorem laidOutD : laidOutB Tryz.prog = true := by kernel_rfl

/-- the library's MaxLen holds some number -/
theorem maxLen_of {W : World} (h : W.ShapedOpen Tryz.prog) : ∃ m, W.cell? ⟨1, 0, none⟩ = some (.int .i64 m) :=
  cell_of_shapedOpen_int (zero := #[.int .i64 0]) (t := 3) h (of_decide_eq_true (by kernel_rfl)) (by kernel_rfl) rfl (by kernel_rfl) (by kernel_rfl) Tryz.underlying3

section
variable {H : Type} {enc : TypeId × Value → H}
/-- the wrap: what is listed, and the world's shape -/
theorem returns_door {a : Assume} {C : Checked} {os : Os} {f : FuncId} {fn : Func} {s : ChangeSpec} {conds : List PathCond} {apart fresh handsOn again : Bool} {X : World → Array Value → Prop}
    (hX : ∀ (w w' : World) (args : Array Value), w.heap = w'.heap → X w args → X w' args)
    (own : ownKnob C.prog.godebug = none) (started : os.Started) (noInit : C.prog.inits.idxOf? f = none) (hfn : C.prog.funcs[f]? = some fn)
    (witness : ∃ (w : World) (tape : Tape) (i : Input), w.os = os ∧ (w.forCall tape i).Shaped C.prog ∧ i.vars = [] ∧ Input.okWide C.prog (w.forCall tape i) .any w.heap.size f i ∧
      ((s.pre enc C.prog fn conds apart (w.forCall tape i).memory i.args ∧ X (w.forCall tape i).memory i.args) ∧ sizedMet enc C.prog fn (OpenSpec.ofChange s) apart (w.forCall tape i).memory i.args) ∧ a.holds C.prog (lone (Frame.enter C.prog f i.args .normal) [] (w.forCall tape i)))
    (contract : ∀ (W : World) (base : Nat) (args : Array Value) (ds gs : List (DataW H)) (before : List MemPlace),
      (∀ (j : Nat) t v, fn.params[j]? = some t → args[j]? = some v → Value.okWide C.prog W .any base t v) →
      DataW.Whole enc C.prog fn.params.toList s.vars apart W args.toList ds gs before →
      (DataW.weightsEach C.prog (fn.params.toList ++ s.plain.varTypes C.prog) (ds ++ gs)).all (· ≤ reachBytes) = true → X W args →
      W.ShapedOpen C.prog →
      Calls C.prog f args W fun e W' => ∃ v, e = .returned v ∧ s.post enc C.prog fn apart fresh handsOn again W args v W') :
    ReturnsInHanded a C os f .any (fun w args => (s.pre enc C.prog fn conds apart w args ∧ X w args) ∧ sizedMet enc C.prog fn (OpenSpec.ofChange s) apart w args) (s.post enc C.prog fn apart fresh handsOn again) := by
  refine returnsInHanded_of_calls own started noInit witness ?_
  intro w tape i _ hsh _ hok hpre hholds
  obtain ⟨_, _, _, fn', hfn', _, _, _, _, hval⟩ := hok
  have e : fn' = fn := Option.some.inj (hfn'.symm.trans hfn)
  subst e
  obtain ⟨⟨⟨ds, gs, before, hw, hc⟩, hx⟩, hz⟩ := hpre
  have hw' := DataW.Whole.of_heap (w' := w.forCall tape i) (by rfl) hw
  refine (contract (w.forCall tape i) w.heap.size i.args ds gs before hval hw' (hz.weights hw) (hX _ _ _ (by rfl) hx) hsh).mono fun e W' ⟨v, he, hp⟩ => ?_
  subst he
  exact ChangeSpec.post_blind hp
end

end Go.Proofs.YtmjbaimccbkmpaaGreatDoor.base

namespace Go.Proofs.YtmjbaimccbkmpaaGreatDoor.base
open Go.RowKit Go.ChangeShapes Go.WideShapes Go.ChangeAt
set_option linter.unusedVariables false

theorem tab_of_reads {P : Program} {w : World} {name : String} {g : Nat} {t e : TypeId} {n : Nat} {k : IntKind} {zs : List Int} (hn : P.globalNamed name = some g) (hy : (P.globals[g]?).map (·.type) = some t)
    (ht : P.underlying t = some (.array n e)) (he : P.underlying e = some (.int k)) (hce : P.cellsOf e = 1) (hct : P.cellsOf t = n) (h : Lib.VarReads P w name (Lib.tabData k zs)) : Lib.TabIs P w name k zs := by
  obtain ⟨g', t', cs, fuel, p, hg, hty, hvar, hd⟩ := h
  obtain rfl := Option.some.inj (hn.symm.trans hg)
  obtain rfl := Option.some.inj (hy.symm.trans hty)
  unfold Lib.TabIs
  rw [hvar, ← Lib.cells_of_tab ht he hce hct hd]

end Go.Proofs.YtmjbaimccbkmpaaGreatDoor.base

namespace Go.Proofs.YtmjbaimccbkmpaaGreatDoor.base
open Go.RowKit Go.ChangeShapes Go.WideShapes Go.ChangeAt
set_option linter.unusedVariables false

end Go.Proofs.YtmjbaimccbkmpaaGreatDoor.base
namespace Go.Proofs.YtmjbaimccbkmpaaGreatDoor.dim
open Go.RowKit Go.Proofs.YtmjbaimccbkmpaaGreatDoor.base Go.ChangeShapes Go.WideShapes Go.ChangeAt
set_option maxRecDepth 100000 in
theorem pow_of {w : World} {l : List (String × DataW Unit)} (h : laidMet Tryz.prog l w) (hm : ("internal/strconv.uint64pow10", Rows.laid_internal_strconv_uint64pow10) ∈ l) : PowAt w := by
  have ht := tab_of_reads (P := Tryz.prog) (g := 2) (k := .u64) (zs := Lib.pow10Tab) (by kernel_rfl) (by kernel_rfl) Tryz.underlying154 Tryz.underlying140 (by kernel_rfl) (by kernel_rfl) (Lib.laidMet.reads h hm)
  refine ⟨?_, ht⟩
  have hc := ht.cell (g := 2) (by kernel_rfl) 0 (by decide)
  exact World.block_lt_of_cell? w _ hc
end Go.Proofs.YtmjbaimccbkmpaaGreatDoor.dim

namespace Go.Proofs.YtmjbaimccbkmpaaGreatDoor.rul
open Go.RowKit Go.Proofs.YtmjbaimccbkmpaaGreatDoor.base Go.Proofs.YtmjbaimccbkmpaaGreatDoor.tok
set_option linter.unusedVariables false

def silP (t : Tk) : Bool := decide (t.k = 8) || decide (t.k = 9)
def opensP (t : Tk) : Bool := decide (t.k = 10) || decide (t.k = 2)
def rawP (t : Tk) (k : Int) (s : Bs) : Bool := decide (t.k = k) && decide (t.raw = s)
def semiP (t : Tk) : Bool := rawP t 12 [59]
def colonP (t : Tk) : Bool := rawP t 12 [58]
def markP (t : Tk) : Bool := rawP t 12 [33]
def braceP (t : Tk) : Bool := rawP t 10 [123]
def badP (t : Tk) : Bool := decide (t.k = 6)
def closerP (r : Bs) : Bs := if r.getLast? = some 91 then [93] else if r.getLast? = some 123 then [125] else [41]

/-- one that is asked of a token's kind: it is one of two -/
abbrev Asks (f : FuncId) (p : Tk → Bool) : Prop := ∀ (t : Tk) (w : World), Calls Tryz.prog f #[.agg t.cells] w fun e w' => e = .returned (.bool (p t)) ∧ Below w.heap.size w w'

theorem last_at {r : Bs} (h : r ≠ []) : ∃ hlt : (bs r).size - 1 < (bs r).size, r.getLast? = some ((bs r)[(bs r).size - 1]'hlt) := by
  have hp := List.length_pos_iff.2 h
  have h1 : (bs r).size - 1 < (bs r).size := by rw [bs_size]; omega
  refine ⟨h1, ?_⟩
  rw [List.getLast?_eq_some_getLast h, List.getLast_eq_getElem h]
  rfl
theorem byte_is {c : UInt8} {n : Nat} (hn : n < 256) : ((c.toNat : Int) == (n : Int)) = decide (c = UInt8.ofNat n) := by
  rw [Bool.eq_iff_iff]
  simp only [beq_iff_eq, decide_eq_true_eq]
  constructor
  · intro h
    apply UInt8.toNat_inj.1
    rw [UInt8.toNat_ofNat']
    omega
  · rintro rfl
    rw [UInt8.toNat_ofNat']
    omega

end Go.Proofs.YtmjbaimccbkmpaaGreatDoor.rul

namespace Go.Proofs.YtmjbaimccbkmpaaGreatDoor.rul
open Go.RowKit Go.Proofs.YtmjbaimccbkmpaaGreatDoor.base Go.Proofs.YtmjbaimccbkmpaaGreatDoor.tok
set_option linter.unusedVariables false

theorem add0 (a : Addr) : a.add 0 = a := rfl
/-- where a slice that is cut from i on begins -/
def addrAt (k : Nat) (A : Option Addr) (cap i : Nat) : Option Addr := if cap = i then A else A.map (·.add (i * k))
theorem addr_zero (k : Nat) (A : Option Addr) (cap : Nat) : addrAt k A cap 0 = A := by
  unfold addrAt
  split
  · rfl
  · rw [Nat.zero_mul]; cases A <;> rfl

section
variable {P : Program} {T e : TypeId} {k : Nat}
theorem slice_from (hT : P.underlying T = some (.slice e)) (hs : ∀ w, (sizeOf e).run P w = .ok k w) (A : Option Addr) (n cap : Nat) (i : Int) (h0 : 0 ≤ i) (h1 : i ≤ n) (w : World) :
    (Instr.slice T (.slice A n cap) (some (.int .i64 i)) none none).run P w = .ok (.slice (addrAt k A cap i.toNat) (n - i.toNat) (cap - i.toNat)) w := by
  simp [Instr.slice, Instr.sliceBounds, Instr.sliceBound, run_underlying hT, hs, asIntOf, h0, h1, go_sem, addrAt]
theorem slice_upto (hT : P.underlying T = some (.slice e)) (hs : ∀ w, (sizeOf e).run P w = .ok k w) (A : Option Addr) (n cap : Nat) (j : Int) (h0 : 0 ≤ j) (h1 : j ≤ cap) (w : World) :
    (Instr.slice T (.slice A n cap) none (some (.int .i64 j)) none).run P w = .ok (.slice A j.toNat cap) w := by
  simp [Instr.slice, Instr.sliceBounds, Instr.sliceBound, run_underlying hT, hs, asIntOf, h0, h1, go_sem]
theorem slice_both (hT : P.underlying T = some (.slice e)) (hs : ∀ w, (sizeOf e).run P w = .ok k w) (A : Option Addr) (n cap : Nat) (i j : Int) (h0 : 0 ≤ i) (h1 : i ≤ j) (h2 : j ≤ cap) (w : World) :
    (Instr.slice T (.slice A n cap) (some (.int .i64 i)) (some (.int .i64 j)) none).run P w = .ok (.slice (addrAt k A cap i.toNat) (j.toNat - i.toNat) (cap - i.toNat)) w := by
  have h3 : 0 ≤ j := by omega
  have h5 : ¬ max j 0 < i := by omega
  simp [Instr.slice, Instr.sliceBounds, Instr.sliceBound, run_underlying hT, hs, asIntOf, h2, h3, go_sem, addrAt]
  simp [h0, h5]
end

theorem rd_cut {α : Type} {k : Nat} {f : α → List Value} {w : World} {B : Nat} {A : Option Addr} {n cap i m : Nat} {L : List α} (h : Rd k f w B A n L) (hc : n ≤ cap) (hm : i + m ≤ n) : Rd k f w B (addrAt k A cap i) m ((L.drop i).take m) := by
  refine ⟨by rw [List.length_take, List.length_drop, h.1]; omega, fun h0 => ?_⟩
  obtain ⟨b, off, rfl, hlt, hx⟩ := h.2 (by omega)
  refine ⟨b, off + i * k, ?_, hlt, fun j d hd x hx2 => ?_⟩
  · unfold addrAt
    rw [if_neg (by omega)]
    simp only [Option.map_some, Option.some.injEq]
    unfold Addr.add
    split
    · rename_i hz; rw [hz]; rfl
    · rfl
  · have hj := (List.getElem?_eq_some_iff.1 hd).1
    rw [List.length_take, List.length_drop] at hj
    rw [List.getElem?_take_of_lt (by omega), List.getElem?_drop] at hd
    rw [← hx (i + j) d hd x hx2, Nat.add_mul]
    congr 2
    omega
theorem rd_from {α : Type} {k : Nat} {f : α → List Value} {w : World} {B : Nat} {A : Option Addr} {n cap i : Nat} {L : List α} (h : Rd k f w B A n L) (hc : n ≤ cap) (hi : i ≤ n) : Rd k f w B (addrAt k A cap i) (n - i) (L.drop i) := by
  have := rd_cut h (i := i) (m := n - i) hc (by omega)
  rwa [List.take_of_length_le (by rw [List.length_drop, h.1]; omega)] at this

/-! ### A stack of texts -/
abbrev strV (l : Bs) : Value := .string (bs l)
theorem infoS : (Tryz.prog.info? 9).map (fun i => (i.zero, i.size, i.bytes)) = some (some (.string .empty), 1, 16) := by kernel_rfl
/-- the row without its last ones -/
theorem owns_less {w : World} {base : Nat} {e : TypeId} {a : Option Addr} {n m cap : Nat} {xs : List Value} (h : w.ownsRow base e 1 (.slice a n cap) n xs) (hm : m ≤ n) (h0 : 0 < n) : w.ownsRow base e 1 (.slice a m cap) m (xs.take m) := by
  refine ⟨by rw [List.length_take, h.1]; omega, ?_⟩
  rcases h.2 with ⟨hv, hz⟩ | ⟨g, cap', cur, hv, hb, hg, hc, hcm, hs, ht⟩
  · omega
  · injection hv with h1 h2 h3
    subst h1 h3
    refine .inr ⟨g, cap, cur, rfl, hb, hg, by omega, hcm, hs, ?_⟩
    rw [← ht, List.take_take]
    congr 1
    omega
/-- a row that was just built -/
theorem owns_new {w : World} {base : Nat} {e : TypeId} {x : Value} (hb : base ≤ w.heap.size) : (w.alloc (.cells #[x] e)).ownsRow base e 1 (.slice (some ⟨w.heap.size, 0, none⟩) 1 1) 1 [x] :=
  ⟨rfl, .inr ⟨w.heap.size, 1, #[x], rfl, hb, heap_alloc_new w _, Nat.le_refl _, by decide, rfl, rfl⟩⟩
theorem owns_at {w : World} {base : Nat} {e : TypeId} {a : Option Addr} {n cap : Nat} {xs : List Value} {i : Nat} {x : Value} (h : w.ownsRow base e 1 (.slice a n cap) n xs) (hx : xs[i]? = some x) : ∃ g, a = some ⟨g, 0, none⟩ ∧ g < w.heap.size ∧ base ≤ g ∧ n ≤ cap ∧ w.cell? ⟨g, i, none⟩ = some x := by
  have hi := (List.getElem?_eq_some_iff.1 hx).1
  rw [h.1] at hi
  rcases h.2 with ⟨hv, hz⟩ | ⟨g, cap', cur, hv, hb, hg, hc, _⟩
  · omega
  · injection hv with h1 h2 h3
    subst h1 h3
    have hl := h.lt g rfl
    exact ⟨g, rfl, hl.2, hb, hc, (h.cellAt i hi).trans hx⟩

end Go.Proofs.YtmjbaimccbkmpaaGreatDoor.rul

namespace Go.Proofs.YtmjbaimccbkmpaaGreatDoor.rul
open Go.RowKit Go.Proofs.YtmjbaimccbkmpaaGreatDoor.base Go.Proofs.YtmjbaimccbkmpaaGreatDoor.tok
set_option linter.unusedVariables false

/-- where what is open closes (the one on top stands last): behind which token -/
def blkP : List Bs → List Tk → Nat → Option Nat
  | _, [], _ => none
  | st, t :: L, i => if opensP t then blkP (st ++ [closerP t.raw]) L (i + 1)
    else if t.k = 11 ∧ st.getLast? = some t.raw then (if st.dropLast = [] then some (i + 1) else blkP st.dropLast L (i + 1))
    else blkP st L (i + 1)
def blkR (n : Nat) : Option Nat → Nat × Bool
  | some e => (e, true)
  | none => (n, false)
/-- the block that begins at a place -/
def blockP (L : List Tk) (i : Nat) : Nat × Bool := blkR L.length (match L[i]? with | some t => blkP [closerP t.raw] (L.drop (i + 1)) (i + 1) | none => none)

theorem blk_open {st : List Bs} {L : List Tk} {i : Nat} {t : Tk} (h : L[i]? = some t) (ho : opensP t = true) : blkP st (L.drop i) i = blkP (st ++ [closerP t.raw]) (L.drop (i + 1)) (i + 1) := by
  obtain ⟨hl, he⟩ := List.getElem?_eq_some_iff.1 h
  rw [List.drop_eq_getElem_cons hl, he, blkP, if_pos ho]
theorem blk_pop {st : List Bs} {L : List Tk} {i : Nat} {t : Tk} (h : L[i]? = some t) (ho : opensP t = false) (hk : t.k = 11) (hr : st.getLast? = some t.raw) : blkP st (L.drop i) i = if st.dropLast = [] then some (i + 1) else blkP st.dropLast (L.drop (i + 1)) (i + 1) := by
  obtain ⟨hl, he⟩ := List.getElem?_eq_some_iff.1 h
  rw [List.drop_eq_getElem_cons hl, he, blkP, if_neg (by simp [ho]), if_pos ⟨hk, hr⟩]
theorem blk_skip {st : List Bs} {L : List Tk} {i : Nat} {t : Tk} (h : L[i]? = some t) (ho : opensP t = false) (hk : ¬ (t.k = 11 ∧ st.getLast? = some t.raw)) : blkP st (L.drop i) i = blkP st (L.drop (i + 1)) (i + 1) := by
  obtain ⟨hl, he⟩ := List.getElem?_eq_some_iff.1 h
  rw [List.drop_eq_getElem_cons hl, he, blkP, if_neg (by simp [ho]), if_neg hk]

def BlkRel (w : World) (L : List Tk) (R : Option Nat) (v x : Value) (wr : World) : Prop :=
  ∃ (i : Nat) (st : List Bs) (top : Bs), i ≤ L.length ∧ x = .int .i64 i ∧ st.length ≤ i ∧ blkP (st ++ [top]) (L.drop i) i = R ∧ wr.ownsRow w.heap.size 9 1 v (st.length + 1) ((st ++ [top]).map strV) ∧ Below w.heap.size w wr

/-- the cells of a token, while others make memory -/
theorem tok_on {w w' : World} {b o : Nat} {k n : Int} {r v : Bs} (hb : Below w.heap.size w w') (hlt : b < w.heap.size) (e0 : w.cell? ⟨b, o, none⟩ = some (.int .i64 k)) (e1 : w.cell? ⟨b, o + 1, none⟩ = some (.string (bs r))) (e2 : w.cell? ⟨b, o + 2, none⟩ = some (.string (bs v))) (e3 : w.cell? ⟨b, o + 3, none⟩ = some (.int .i64 n)) :
    w'.cell? ⟨b, o, none⟩ = some (.int .i64 k) ∧ w'.cell? ⟨b, o + 1, none⟩ = some (.string (bs r)) ∧ w'.cell? ⟨b, o + 2, none⟩ = some (.string (bs v)) ∧ w'.cell? ⟨b, o + 3, none⟩ = some (.int .i64 n) :=
  ⟨(hb.cell (p := ⟨b, o, none⟩) hlt).trans e0, (hb.cell (p := ⟨b, o + 1, none⟩) hlt).trans e1, (hb.cell (p := ⟨b, o + 2, none⟩) hlt).trans e2, (hb.cell (p := ⟨b, o + 3, none⟩) hlt).trans e3⟩

theorem owns_drewN {w : World} {base : Nat} {e : TypeId} {size : Nat} {v : Value} {n : Nat} {xs : List Value} (h : w.ownsRow base e size v n xs) (k : Nat) : (w.drewN k).ownsRow base e size v n xs := h
/-- what is asked of a token, field by field -/
theorem asks_at {f : FuncId} {p : Tk → Bool} (h : Asks f p) {k n : Int} {r v : Bs} {c : Bool} (hc : p ⟨k, r, v, n⟩ = c) (w : World) : Calls Tryz.prog f #[.agg #[.int .i64 k, .string (bs r), .string (bs v), .int .i64 n]] w fun e w' => e = .returned (.bool c) ∧ Below w.heap.size w w' := by
  subst hc
  exact h ⟨k, r, v, n⟩ w
end Go.Proofs.YtmjbaimccbkmpaaGreatDoor.rul

namespace Go.Proofs.YtmjbaimccbkmpaaGreatDoor.rul
open Go.RowKit Go.Proofs.YtmjbaimccbkmpaaGreatDoor.base Go.Proofs.YtmjbaimccbkmpaaGreatDoor.tok
set_option linter.unusedVariables false

/-- how many tokens close what is open -/
def closeP : List Bs → List Tk → Option Nat
  | _, [] => none
  | st, t :: L => if opensP t then (closeP (st ++ [closerP t.raw]) L).map (· + 1)
    else if t.k = 11 ∧ st.getLast? = some t.raw then (if st.dropLast = [] then some 1 else (closeP st.dropLast L).map (· + 1))
    else (closeP st L).map (· + 1)
theorem blk_close : ∀ (L : List Tk) (st : List Bs) (i : Nat), blkP st L i = (closeP st L).map (i + ·)
  | [], st, i => by simp [blkP, closeP]
  | t :: L, st, i => by
    unfold blkP closeP
    split
    · rw [blk_close L]; cases closeP (st ++ [closerP t.raw]) L <;> simp; omega
    · split
      · split
        · simp
        · rw [blk_close L]; cases closeP st.dropLast L <;> simp; omega
      · rw [blk_close L]; cases closeP st L <;> simp; omega
theorem close_le : ∀ (L : List Tk) (st : List Bs) (e : Nat), closeP st L = some e → 1 ≤ e ∧ e ≤ L.length
  | [], st, e, h => by simp [closeP] at h
  | t :: L, st, e, h => by
    unfold closeP at h
    split at h
    · obtain ⟨x, hx, rfl⟩ := Option.map_eq_some_iff.1 h
      have := close_le L _ x hx
      simp; omega
    · split at h
      · split at h
        · simp at h; subst h; simp
        · obtain ⟨x, hx, rfl⟩ := Option.map_eq_some_iff.1 h
          have := close_le L _ x hx
          simp; omega
      · obtain ⟨x, hx, rfl⟩ := Option.map_eq_some_iff.1 h
        have := close_le L _ x hx
        simp; omega
/-- how many tokens a block has that a token begins; does it end? -/
def blkLen (t : Tk) (L : List Tk) : Nat := match closeP [closerP t.raw] L with | some e => e + 1 | none => L.length + 1
def blkOk (t : Tk) (L : List Tk) : Bool := (closeP [closerP t.raw] L).isSome
theorem blkLen_bd (t : Tk) (L : List Tk) : 1 ≤ blkLen t L ∧ blkLen t L ≤ L.length + 1 := by
  unfold blkLen
  cases h : closeP [closerP t.raw] L with
  | none => simp
  | some e => have := close_le L _ e h; simp; omega
theorem block_is {L : List Tk} {i : Nat} {t : Tk} (h : L[i]? = some t) : blockP L i = (i + blkLen t (L.drop (i + 1)), blkOk t (L.drop (i + 1))) := by
  have hl := (List.getElem?_eq_some_iff.1 h).1
  unfold blockP blkLen blkOk
  rw [h]
  simp only [blk_close]
  cases closeP [closerP t.raw] (L.drop (i + 1)) with
  | none => simp [blkR, List.length_drop]; omega
  | some e => simp [blkR]; omega

/-- the first token outside of blocks for which it is so -/
def findP (p : Tk → Bool) : List Tk → Nat
  | [] => 0
  | t :: L => if p t then 0 else if opensP t then blkLen t L + findP p ((t :: L).drop (blkLen t L)) else 1 + findP p L
termination_by L => L.length
decreasing_by
  · have := blkLen_bd t L; simp; omega
  · simp
theorem findP_nil (p : Tk → Bool) : findP p [] = 0 := by rw [findP]
theorem findP_cons (p : Tk → Bool) (t : Tk) (L : List Tk) : findP p (t :: L) = if p t then 0 else if opensP t then blkLen t L + findP p ((t :: L).drop (blkLen t L)) else 1 + findP p L := by rw [findP]
theorem findP_le (p : Tk → Bool) : ∀ (n : Nat) (L : List Tk), L.length ≤ n → findP p L ≤ L.length
  | 0, L, h => by
    obtain rfl := List.eq_nil_of_length_eq_zero (Nat.le_zero.1 h)
    rw [findP_nil]; exact Nat.le_refl _
  | n + 1, [], h => by rw [findP_nil]; exact Nat.le_refl _
  | n + 1, t :: L, h => by
    rw [findP_cons]
    have hb := blkLen_bd t L
    simp only [List.length_cons] at h ⊢
    split
    · omega
    · split
      · have := findP_le p n ((t :: L).drop (blkLen t L)) (by rw [List.length_drop, List.length_cons]; omega)
        rw [List.length_drop, List.length_cons] at this
        omega
      · have := findP_le p n L (by omega)
        omega
theorem drop_at {L : List Tk} {i : Nat} {t : Tk} (h : L[i]? = some t) : L.drop i = t :: L.drop (i + 1) := by
  obtain ⟨hl, he⟩ := List.getElem?_eq_some_iff.1 h
  rw [List.drop_eq_getElem_cons hl, he]

end Go.Proofs.YtmjbaimccbkmpaaGreatDoor.rul

namespace Go.Proofs.YtmjbaimccbkmpaaGreatDoor.rul
open Go.RowKit Go.Proofs.YtmjbaimccbkmpaaGreatDoor.base Go.Proofs.YtmjbaimccbkmpaaGreatDoor.tok
set_option linter.unusedVariables false

/-- a slice of tokens -/
def TS (w : World) (v : Value) (L : List Tk) : Prop := ∃ A cap, v = .slice A L.length cap ∧ L.length ≤ cap ∧ TRd w w.heap.size A L.length L
theorem TS.on {w w' : World} {v : Value} {L : List Tk} (h : TS w v L) (hb : Below w.heap.size w w') : TS w' v L := by
  obtain ⟨A, cap, rfl, hc, hr⟩ := h
  exact ⟨A, cap, rfl, hc, Rd.keep hr hb hb.size⟩
theorem ts_cut {w : World} {A : Option Addr} {cap n i m : Nat} {L : List Tk} (h : TRd w w.heap.size A n L) (hc : n ≤ cap) (hm : i + m ≤ n) : TS w (.slice (addrAt 4 A cap i) m (cap - i)) ((L.drop i).take m) := by
  have hl : ((L.drop i).take m).length = m := by rw [List.length_take, List.length_drop, h.1]; omega
  refine ⟨addrAt 4 A cap i, cap - i, by rw [hl], by omega, ?_⟩
  rw [hl]
  exact rd_cut h hc hm
theorem ts_upto {w : World} {A : Option Addr} {cap n m : Nat} {L : List Tk} (h : TRd w w.heap.size A n L) (hc : n ≤ cap) (hm : m ≤ n) : TS w (.slice A m cap) (L.take m) := by
  have := ts_cut h hc (i := 0) (m := m) (by omega)
  rwa [addr_zero, Nat.sub_zero, List.drop_zero] at this
theorem ts_from {w : World} {A : Option Addr} {cap n i : Nat} {L : List Tk} (h : TRd w w.heap.size A n L) (hc : n ≤ cap) (hi : i ≤ n) : TS w (.slice (addrAt 4 A cap i) (n - i) (cap - i)) (L.drop i) := by
  have := ts_cut h hc (i := i) (m := n - i) (by omega)
  rwa [List.take_of_length_le (by rw [List.length_drop, h.1]; omega)] at this

/-- without what is silent at both ends -/
def endP (L : List Tk) : List Tk := (L.reverse.dropWhile silP).reverse
def solidP (L : List Tk) : List Tk := endP (L.dropWhile silP)
theorem endP_snoc (L : List Tk) (t : Tk) : endP (L ++ [t]) = if silP t then endP L else L ++ [t] := by
  unfold endP
  rw [List.reverse_append]
  simp only [List.reverse_cons, List.reverse_nil, List.nil_append, List.singleton_append, List.dropWhile_cons]
  split <;> simp
theorem endP_nil : endP [] = [] := rfl

def lenOf : Value → Nat
  | .slice _ n _ => n
  | _ => 0

end Go.Proofs.YtmjbaimccbkmpaaGreatDoor.rul

namespace Go.Proofs.YtmjbaimccbkmpaaGreatDoor.tok
open Go.RowKit Go.Proofs.YtmjbaimccbkmpaaGreatDoor.base
set_option linter.unusedVariables false

def nameE : Nat → Bs → Bs × Nat
  | 0, _ => ([], 0)
  | n + 1, c :: d :: r => if escP (c :: d :: r) then (match nameE n r with | (a, b) => (d :: a, b + 2)) else if signI (nv c) then (match nameE n (d :: r) with | (a, b) => (c :: a, b + 1)) else ([], 0)
  | _ + 1, [c] => if signI (nv c) then ([c], 1) else ([], 0)
  | _ + 1, [] => ([], 0)
theorem nameE_eq : ∀ (n : Nat) (l : Bs), l.length ≤ n → nameE n l = nameP l
  | 0, l, h => by
    obtain rfl := List.eq_nil_of_length_eq_zero (Nat.le_zero.1 h)
    rw [nameP]; rfl
  | n + 1, [], _ => by rw [nameP]; rfl
  | n + 1, [c], _ => by rw [nameP]; rfl
  | n + 1, c :: d :: r, h => by
    have h1 := nameE_eq n r (by simp at h; omega)
    have h2 := nameE_eq n (d :: r) (by simp at h ⊢; omega)
    rw [nameP, nameE, h1, h2]
def textE (q : UInt8) : Nat → Bs → Int × Nat × Bs
  | 0, _ => (6, 0, [])
  | _ + 1, [] => (6, 0, [])
  | _ + 1, [c] => if nv c = nv q then (5, 1, []) else if nv c = 10 then (6, 0, []) else (6, 1, [c])
  | n + 1, c :: d :: r => if nv c = nv q then (5, 1, []) else if nv c = 10 then (6, 0, []) else
      if nv c = 92 then (match textE q n r with | (a, b, x) => (a, b + 2, d :: x)) else (match textE q n (d :: r) with | (a, b, x) => (a, b + 1, c :: x))
theorem textE_eq (q : UInt8) : ∀ (n : Nat) (l : Bs), l.length ≤ n → textE q n l = textR q l
  | 0, l, h => by
    obtain rfl := List.eq_nil_of_length_eq_zero (Nat.le_zero.1 h)
    rw [textR]; rfl
  | n + 1, [], _ => by rw [textR]; rfl
  | n + 1, [c], _ => by rw [textR]; rfl
  | n + 1, c :: d :: r, h => by
    have h1 := textE_eq q n r (by simp at h; omega)
    have h2 := textE_eq q n (d :: r) (by simp at h ⊢; omega)
    rw [textR, textE, h1, h2]
def namedE (k : Int) (l : Bs) (a : Nat) : Tk := match nameE l.length (l.drop a) with | (x, m) => ⟨k, l.take (a + m), x, 0⟩
theorem namedE_eq (k : Int) (l : Bs) (a : Nat) : namedE k l a = namedP k l a := by
  unfold namedE namedP
  rw [nameE_eq l.length (l.drop a) (by rw [List.length_drop]; omega)]
def textEP : Bs → Tk
  | [] => ⟨6, [], [], 0⟩
  | q :: r => match textE q r.length r with | (a, b, x) => ⟨a, (q :: r).take (1 + b), if a = 5 then x else [], 0⟩
theorem textEP_eq : ∀ l, textEP l = textP l
  | [] => rfl
  | q :: r => by
    simp only [textEP, textP]
    rw [textE_eq q r.length r (Nat.le_refl _)]
def numTkE (l : Bs) (num : Int) (n : Nat) : Tk :=
  if Lib.hasPrefix (l.drop n) [37] then ⟨7, l.take (n + 1), [37], num⟩
  else if beginsP (l.drop n) then (match nameE l.length (l.drop n) with | (x, m) => ⟨7, l.take (n + m), x.map lowB, num⟩)
  else ⟨7, l.take n, [], num⟩
theorem numTkE_eq (l : Bs) (num : Int) (n : Nat) : numTkE l num n = numTkP l num n := by
  unfold numTkE numTkP
  rw [nameE_eq l.length (l.drop n) (by rw [List.length_drop]; omega)]
def wordE (l : Bs) : Tk := match namedE 1 l 0 with
  | ⟨k, r, v, n⟩ => if Lib.hasPrefix (l.drop r.length) [40] then ⟨2, l.take (r.length + 1), v, n⟩ else ⟨k, r, v, n⟩
theorem wordE_eq (l : Bs) : wordE l = wordP l := by
  unfold wordE wordP
  rw [namedE_eq]
def firstE (l : Bs) : Tk :=
  if 0 < spaceP l then ⟨8, l.take (spaceP l), [], 0⟩ else
  if Lib.hasPrefix l [47, 42] then noteP l else
  if quoteP l then textEP l else
  if hashP l then namedE 4 l 1 else
  if atP l then namedE 3 l 1 else
  if 0 < (numberP l).2 then numTkE l (numberP l).1 (numberP l).2 else
  if beginsP l then wordE l else ⟨oneK l, l.take 1, [], 0⟩
theorem firstE_eq (l : Bs) : firstE l = firstP l := by
  unfold firstE firstP
  rw [textEP_eq, namedE_eq, namedE_eq, numTkE_eq, wordE_eq]
def cutE : Nat → Bs → List Tk
  | 0, _ => []
  | n + 1, l => match l with
    | [] => []
    | c :: r => match firstE (c :: r) with
      | ⟨k, w, v, m⟩ => ⟨k, w, v, m⟩ :: cutE n ((c :: r).drop w.length)
theorem cutE_eq : ∀ (n : Nat) (l : Bs), l.length ≤ n → cutE n l = cutP l
  | 0, l, h => by
    obtain rfl := List.eq_nil_of_length_eq_zero (Nat.le_zero.1 h)
    rw [cutP_nil]; rfl
  | n + 1, [], _ => by rw [cutP_nil]; rfl
  | n + 1, c :: r, h => by
    have hp := (first_pre (c :: r) (by simp)).2
    have h1 := cutE_eq n ((c :: r).drop (firstP (c :: r)).raw.length) (by rw [List.length_drop]; omega)
    rw [cutP_cons (by simp), ← h1]
    show (match firstE (c :: r) with | ⟨k, w, v, m⟩ => (⟨k, w, v, m⟩ : Tk) :: cutE n ((c :: r).drop w.length)) = _
    rw [firstE_eq]
/-- a text's tokens, computed -/
theorem cut_eval {l : Bs} {L : List Tk} (h : cutE l.length l = L) : cutP l = L := by rw [← cutE_eq l.length l (Nat.le_refl _), h]

end Go.Proofs.YtmjbaimccbkmpaaGreatDoor.tok

namespace Go.Proofs.YtmjbaimccbkmpaaGreatDoor.med
open Go.RowKit Go.Proofs.YtmjbaimccbkmpaaGreatDoor.base Go.Proofs.YtmjbaimccbkmpaaGreatDoor.tok Go.Proofs.YtmjbaimccbkmpaaGreatDoor.rul
set_option linter.unusedVariables false

/-- a feature, a query -/
structure Fe where
  k : Int
  n : Int
deriving DecidableEq
structure Qu where
  no : Bool
  fs : List Fe
deriving DecidableEq

def wordsL : List Bs := [[],
  [97, 108, 108],
  [115, 99, 114, 101, 101, 110],
  [112, 114, 105, 110, 116],
  [109, 105, 110, 45, 119, 105, 100, 116, 104],
  [109, 97, 120, 45, 119, 105, 100, 116, 104],
  [109, 105, 110, 45, 104, 101, 105, 103, 104, 116],
  [109, 97, 120, 45, 104, 101, 105, 103, 104, 116],
  [112, 114, 101, 102, 101, 114, 115, 45, 99, 111, 108, 111, 114, 45, 115, 99, 104, 101, 109, 101, 58, 100, 97, 114, 107],
  [112, 114, 101, 102, 101, 114, 115, 45, 99, 111, 108, 111, 114, 45, 115, 99, 104, 101, 109, 101, 58, 108, 105, 103, 104, 116],
  [111, 114, 105, 101, 110, 116, 97, 116, 105, 111, 110, 58, 112, 111, 114, 116, 114, 97, 105, 116],
  [111, 114, 105, 101, 110, 116, 97, 116, 105, 111, 110, 58, 108, 97, 110, 100, 115, 99, 97, 112, 101]]
/-- what is shown of the four last ones -/
def shownL : List Bs := [[112, 114, 101, 102, 101, 114, 115, 45, 99, 111, 108, 111, 114, 45, 115, 99, 104, 101, 109, 101, 58, 32, 100, 97, 114, 107],
  [112, 114, 101, 102, 101, 114, 115, 45, 99, 111, 108, 111, 114, 45, 115, 99, 104, 101, 109, 101, 58, 32, 108, 105, 103, 104, 116],
  [111, 114, 105, 101, 110, 116, 97, 116, 105, 111, 110, 58, 32, 112, 111, 114, 116, 114, 97, 105, 116],
  [111, 114, 105, 101, 110, 116, 97, 116, 105, 111, 110, 58, 32, 108, 97, 110, 100, 115, 99, 97, 112, 101]]
def kindF : List Bs → Nat → Bs → Int
  | [], _, _ => 12
  | x :: L, i, w => if 0 < i ∧ x = w then (i : Int) else kindF L (i + 1) w
def kindP (w : Bs) : Int := kindF wordsL 0 w
def unk : Fe := ⟨12, 0⟩
def wordK (k : Int) : Bs := (wordsL[k.toNat]?).getD []
def shownK (k : Int) : Bs := (shownL[k.toNat - 8]?).getD []
def featT (f : Fe) : Bs :=
  if 1 ≤ f.k ∧ f.k ≤ 3 then wordK f.k
  else if 4 ≤ f.k ∧ f.k ≤ 7 then [40] ++ wordK f.k ++ [58, 32] ++ Lib.itoa f.n ++ [112, 120, 41]
  else if 8 ≤ f.k ∧ f.k ≤ 11 then [40] ++ shownK f.k ++ [41]
  else [40, 63, 41]
def andT : Bs := [32, 97, 110, 100, 32]
def notT : Bs := [110, 111, 116, 32]
def queT (q : Qu) : Bs := (if q.no then notT else []) ++ Lib.join (q.fs.map featT) andT
def textP (Q : List Qu) : Bs := Lib.join (Q.map queT) [44, 32]

def solP (L : List Tk) : List Tk := L.filter (fun t => !silP t)
def wordT (t : Tk) : Bs := if t.k = 1 then t.val.map lowB else []
/-- the number in front of a unit of two letters; if it is none, or too great: none -/
def digs (l : Bs) : Bool := l.all fun c => digI (nv c)
def numF (l : Bs) : Option Int := if digs l then (match Lib.atoiAll l with | .ok v => if v ≤ 1000000 then some v else none | _ => none) else none
def featP : List Tk → Fe
  | [a, b, c] =>
    if b.raw = [58] then
      if 4 ≤ kindP (wordT a) ∧ kindP (wordT a) ≤ 7 then
        if c.k = 7 ∧ c.val = [112, 120] then (match numF (c.raw.take (c.raw.length - 2)) with | some n => ⟨kindP (wordT a), n⟩ | none => unk) else unk
      else if 8 ≤ kindP (wordT a ++ [58] ++ wordT c) then ⟨kindP (wordT a ++ [58] ++ wordT c), 0⟩ else unk
    else unk
  | _ => unk
theorem feat_three (a b c : Tk) : featP [a, b, c] =
    if b.raw = [58] then
      if 4 ≤ kindP (wordT a) ∧ kindP (wordT a) ≤ 7 then
        if c.k = 7 ∧ c.val = [112, 120] then (match numF (c.raw.take (c.raw.length - 2)) with | some n => ⟨kindP (wordT a), n⟩ | none => unk) else unk
      else if 8 ≤ kindP (wordT a ++ [58] ++ wordT c) then ⟨kindP (wordT a ++ [58] ++ wordT c), 0⟩ else unk
    else unk := rfl
theorem feat_no3 {L : List Tk} (h : L.length ≠ 3) : featP L = unk := by
  unfold featP
  split
  · simp at h
  · rfl
theorem feat_nocolon {a b c : Tk} (h : ¬ b.raw = [58]) : featP [a, b, c] = unk := by rw [feat_three, if_neg h]
theorem feat_num {a b c : Tk} {n : Int} (h : b.raw = [58]) (hk : 4 ≤ kindP (wordT a) ∧ kindP (wordT a) ≤ 7) (hc : c.k = 7 ∧ c.val = [112, 120]) (hn : numF (c.raw.take (c.raw.length - 2)) = some n) : featP [a, b, c] = ⟨kindP (wordT a), n⟩ := by
  rw [feat_three, if_pos h, if_pos hk, if_pos hc, hn]
theorem feat_nonum {a b c : Tk} (h : b.raw = [58]) (hk : 4 ≤ kindP (wordT a) ∧ kindP (wordT a) ≤ 7) (hc : c.k = 7 ∧ c.val = [112, 120]) (hn : numF (c.raw.take (c.raw.length - 2)) = none) : featP [a, b, c] = unk := by
  rw [feat_three, if_pos h, if_pos hk, if_pos hc, hn]
theorem feat_nopx {a b c : Tk} (h : b.raw = [58]) (hk : 4 ≤ kindP (wordT a) ∧ kindP (wordT a) ≤ 7) (hc : ¬ (c.k = 7 ∧ c.val = [112, 120])) : featP [a, b, c] = unk := by
  rw [feat_three, if_pos h, if_pos hk, if_neg hc]
theorem feat_two {a b c : Tk} (h : b.raw = [58]) (hk : ¬ (4 ≤ kindP (wordT a) ∧ kindP (wordT a) ≤ 7)) (h8 : 8 ≤ kindP (wordT a ++ [58] ++ wordT c)) : featP [a, b, c] = ⟨kindP (wordT a ++ [58] ++ wordT c), 0⟩ := by
  rw [feat_three, if_pos h, if_neg hk, if_pos h8]
theorem feat_no2 {a b c : Tk} (h : b.raw = [58]) (hk : ¬ (4 ≤ kindP (wordT a) ∧ kindP (wordT a) ≤ 7)) (h8 : ¬ 8 ≤ kindP (wordT a ++ [58] ++ wordT c)) : featP [a, b, c] = unk := by
  rw [feat_three, if_pos h, if_neg hk, if_neg h8]
/-- what is behind the first feature -/
def behindT (L : List Tk) (f : Fe) (g : List Tk → Option (List Fe)) : Option (List Fe) :=
  match L with
  | [] => some [f]
  | a :: R => if wordT a = [97, 110, 100] then (g R).map (f :: ·) else none
def featsG : Nat → List Tk → Option (List Fe)
  | 0, _ => none
  | _ + 1, [] => none
  | n + 1, t :: M =>
    if t.raw = [40] then
      if blkOk t M then behindT ((t :: M).drop (blkLen t M)) (featP (((t :: M).take (blkLen t M - 1)).drop 1)) (featsG n)
      else none
    else if 3 < kindP (wordT t) then none
    else behindT M ⟨kindP (wordT t), 0⟩ (featsG n)
def featsP (L : List Tk) : Option (List Fe) := featsG L.length L
theorem behind_congr {X : List Tk} {f : Fe} {g h : List Tk → Option (List Fe)} (H : ∀ R, R.length < X.length → g R = h R) : behindT X f g = behindT X f h := by
  unfold behindT
  split
  · rfl
  · rw [H _ (by simp)]
theorem feats_fuel : ∀ (n m : Nat) (L : List Tk), L.length ≤ n → L.length ≤ m → featsG n L = featsG m L
  | 0, 0, _, _, _ => rfl
  | 0, m + 1, [], _, _ => rfl
  | n + 1, 0, [], _, _ => rfl
  | n + 1, m + 1, [], _, _ => rfl
  | 0, m + 1, t :: M, h, _ => by simp at h
  | n + 1, 0, t :: M, _, h => by simp at h
  | n + 1, m + 1, t :: M, h1, h2 => by
    simp only [List.length_cons] at h1 h2
    have hb := blkLen_bd t M
    unfold featsG
    rw [behind_congr (X := (t :: M).drop (blkLen t M)) (g := featsG n) (h := featsG m) (fun R hR => feats_fuel n m R (by rw [List.length_drop, List.length_cons] at hR; omega) (by rw [List.length_drop, List.length_cons] at hR; omega)),
      behind_congr (X := M) (g := featsG n) (h := featsG m) (fun R hR => feats_fuel n m R (by omega) (by omega))]
theorem feats_nil : featsP [] = none := rfl
theorem feats_cons (t : Tk) (M : List Tk) : featsP (t :: M) = if t.raw = [40] then
      if blkOk t M then behindT ((t :: M).drop (blkLen t M)) (featP (((t :: M).take (blkLen t M - 1)).drop 1)) featsP
      else none
    else if 3 < kindP (wordT t) then none
    else behindT M ⟨kindP (wordT t), 0⟩ featsP := by
  have hb := blkLen_bd t M
  show featsG (M.length + 1) (t :: M) = _
  rw [featsG, behind_congr (X := (t :: M).drop (blkLen t M)) (g := featsG M.length) (h := featsP) (fun R hR => feats_fuel _ _ R (by rw [List.length_drop, List.length_cons] at hR; omega) (Nat.le_refl _)),
    behind_congr (X := M) (g := featsG M.length) (h := featsP) (fun R hR => feats_fuel _ _ R (by omega) (Nat.le_refl _))]
theorem feats_blk {t : Tk} {M : List Tk} (h : t.raw = [40]) (ho : blkOk t M = true) : featsP (t :: M) = behindT ((t :: M).drop (blkLen t M)) (featP (((t :: M).take (blkLen t M - 1)).drop 1)) featsP := by
  rw [feats_cons, if_pos h, if_pos ho]
theorem feats_open {t : Tk} {M : List Tk} (h : t.raw = [40]) (ho : blkOk t M = false) : featsP (t :: M) = none := by rw [feats_cons, if_pos h, ho]; rfl
theorem feats_bad {t : Tk} {M : List Tk} (h : ¬ t.raw = [40]) (hk : 3 < kindP (wordT t)) : featsP (t :: M) = none := by rw [feats_cons, if_neg h, if_pos hk]
theorem feats_word {t : Tk} {M : List Tk} (h : ¬ t.raw = [40]) (hk : ¬ 3 < kindP (wordT t)) : featsP (t :: M) = behindT M ⟨kindP (wordT t), 0⟩ featsP := by
  rw [feats_cons, if_neg h, if_neg hk]
def notP : List Tk → Bool
  | [] => false
  | t :: _ => decide (wordT t = [110, 111, 116])
def queP (L : List Tk) : Option Qu := (featsP (if notP L then L.drop 1 else L)).map fun fs => ⟨notP L, fs⟩
def piecesF : List Tk → List Tk → List (List Tk)
  | [], cur => [cur]
  | t :: M, cur => if opensP t then piecesF ((t :: M).drop (blkLen t M)) (cur ++ (t :: M).take (blkLen t M))
    else if t.k = 12 ∧ t.raw = [44] then cur :: piecesF M []
    else piecesF M (cur ++ [t])
termination_by L => L.length
decreasing_by
  · have := blkLen_bd t M
    simp only [List.length_drop, List.length_cons]
    omega
  · simp
  · simp
theorem pieces_nil (cur : List Tk) : piecesF [] cur = [cur] := by rw [piecesF]
theorem pieces_open {t : Tk} {M cur : List Tk} (h : opensP t = true) : piecesF (t :: M) cur = piecesF ((t :: M).drop (blkLen t M)) (cur ++ (t :: M).take (blkLen t M)) := by rw [piecesF, if_pos h]
theorem pieces_comma {t : Tk} {M cur : List Tk} (h : opensP t = false) (hc : t.k = 12 ∧ t.raw = [44]) : piecesF (t :: M) cur = cur :: piecesF M [] := by rw [piecesF, if_neg (by simp [h]), if_pos hc]
theorem pieces_other {t : Tk} {M cur : List Tk} (h : opensP t = false) (hc : ¬ (t.k = 12 ∧ t.raw = [44])) : piecesF (t :: M) cur = piecesF M (cur ++ [t]) := by rw [piecesF, if_neg (by simp [h]), if_neg hc]
def badQ : Qu := ⟨false, [unk]⟩
def tokQ (L : List Tk) : List Qu := if L = [] then [⟨false, [⟨1, 0⟩]⟩] else (piecesF L []).map fun p => (queP p).getD badQ
theorem tokQ_ne {L : List Tk} (h : L ≠ []) : tokQ L = (piecesF L []).map fun p => (queP p).getD badQ := if_neg h
def readP (s : Bs) : Option (List Qu) := if 400 < s.length then none else some (tokQ (solP (cutP s)))

/-- on what it is shown -/
structure En where
  w : Int
  h : Int
  dark : Bool
  pr : Bool
def isP (f : Fe) (e : En) : Option Bool :=
  if f.k = 1 then some true else if f.k = 2 then some (!e.pr) else if f.k = 3 then some e.pr
  else if f.k = 4 then some (decide (f.n ≤ e.w)) else if f.k = 5 then some (decide (e.w ≤ f.n))
  else if f.k = 6 then some (decide (f.n ≤ e.h)) else if f.k = 7 then some (decide (e.h ≤ f.n))
  else if f.k = 8 then some e.dark else if f.k = 9 then some (!e.dark)
  else if f.k = 10 then some (decide (e.w ≤ e.h)) else if f.k = 11 then some (decide (e.h < e.w)) else none
def soP (f : Fe) (e : En) : Int := match isP f e with | none => 0 | some true => 1 | some false => -1
def minF (e : En) : List Fe → Int → Int
  | [], n => n
  | f :: L, n => minF e L (min n (soP f e))
def allP (q : Qu) (e : En) : Int := if q.no then - minF e q.fs 1 else minF e q.fs 1
def anyQ (Q : List Qu) (e : En) : Bool := Q.any fun q => decide (allP q e = 1)
def envOk (e : En) : Bool := decide (1 ≤ e.w ∧ e.w ≤ 4000 ∧ 1 ≤ e.h ∧ e.h ≤ 4000)

end Go.Proofs.YtmjbaimccbkmpaaGreatDoor.med

namespace Go.Proofs.YtmjbaimccbkmpaaGreatDoor.med
open Go.RowKit Go.Proofs.YtmjbaimccbkmpaaGreatDoor.base Go.Proofs.YtmjbaimccbkmpaaGreatDoor.tok Go.Proofs.YtmjbaimccbkmpaaGreatDoor.rul
set_option linter.unusedVariables false

/-- media.words as it is laid -/
def WordsAt (w : World) : Prop := ∀ (i : Nat) (s : Bs), wordsL[i]? = some s → w.cell? ⟨0, i, none⟩ = some (.string (bs s))
theorem WordsAt.lt {w : World} (h : WordsAt w) : 0 < w.heap.size := World.block_lt_of_cell? w _ (h 0 [] rfl)
theorem WordsAt.on {w w' : World} (h : WordsAt w) (hb : Below w.heap.size w w') : WordsAt w' := fun i s hs => (hb.cell (p := ⟨0, i, none⟩) h.lt).trans (h i s hs)
abbrev wordsA : Array Value := #[.string (bs []), .string (bs [97, 108, 108]), .string (bs [115, 99, 114, 101, 101, 110]), .string (bs [112, 114, 105, 110, 116]), .string (bs [109, 105, 110, 45, 119, 105, 100, 116, 104]), .string (bs [109, 97, 120, 45, 119, 105, 100, 116, 104]), .string (bs [109, 105, 110, 45, 104, 101, 105, 103, 104, 116]), .string (bs [109, 97, 120, 45, 104, 101, 105, 103, 104, 116]), .string (bs [112, 114, 101, 102, 101, 114, 115, 45, 99, 111, 108, 111, 114, 45, 115, 99, 104, 101, 109, 101, 58, 100, 97, 114, 107]), .string (bs [112, 114, 101, 102, 101, 114, 115, 45, 99, 111, 108, 111, 114, 45, 115, 99, 104, 101, 109, 101, 58, 108, 105, 103, 104, 116]), .string (bs [111, 114, 105, 101, 110, 116, 97, 116, 105, 111, 110, 58, 112, 111, 114, 116, 114, 97, 105, 116]), .string (bs [111, 114, 105, 101, 110, 116, 97, 116, 105, 111, 110, 58, 108, 97, 110, 100, 115, 99, 97, 112, 101])]
theorem words_at (r : Nat) (h : r < 12) : ∃ s, wordsL[r]? = some s ∧ ∀ w, (Instr.index 99 (.agg wordsA) (.int .i64 (r : Int))).run Tryz.prog w = .ok (.string (bs s)) w := by
  have hr : r = 0 ∨ r = 1 ∨ r = 2 ∨ r = 3 ∨ r = 4 ∨ r = 5 ∨ r = 6 ∨ r = 7 ∨ r = 8 ∨ r = 9 ∨ r = 10 ∨ r = 11 := by omega
  rcases hr with rfl | rfl | rfl | rfl | rfl | rfl | rfl | rfl | rfl | rfl | rfl | rfl <;> exact ⟨_, rfl, fun _ => by kernel_rfl⟩
theorem kind_step {i : Nat} {s w : Bs} (h : wordsL[i]? = some s) : kindF (wordsL.drop i) i w = if 0 < i ∧ s = w then (i : Int) else kindF (wordsL.drop (i + 1)) (i + 1) w := by
  obtain ⟨hl, he⟩ := List.getElem?_eq_some_iff.1 h
  rw [List.drop_eq_getElem_cons hl, he, kindF]

set_option maxRecDepth 100000 in
set_option maxHeartbeats 2000000 in
theorem mkind_ct (s : Bs) (w : World) (hW : WordsAt w) : Calls Tryz.prog 44 #[.string (bs s)] w fun e w' => e = .returned (.int .i64 (kindP s)) ∧ w = w' := by
  have c0 := hW 0 [] rfl
  have c1 := hW 1 [97, 108, 108] rfl
  have c2 := hW 2 [115, 99, 114, 101, 101, 110] rfl
  have c3 := hW 3 [112, 114, 105, 110, 116] rfl
  have c4 := hW 4 [109, 105, 110, 45, 119, 105, 100, 116, 104] rfl
  have c5 := hW 5 [109, 97, 120, 45, 119, 105, 100, 116, 104] rfl
  have c6 := hW 6 [109, 105, 110, 45, 104, 101, 105, 103, 104, 116] rfl
  have c7 := hW 7 [109, 97, 120, 45, 104, 101, 105, 103, 104, 116] rfl
  have c8 := hW 8 [112, 114, 101, 102, 101, 114, 115, 45, 99, 111, 108, 111, 114, 45, 115, 99, 104, 101, 109, 101, 58, 100, 97, 114, 107] rfl
  have c9 := hW 9 [112, 114, 101, 102, 101, 114, 115, 45, 99, 111, 108, 111, 114, 45, 115, 99, 104, 101, 109, 101, 58, 108, 105, 103, 104, 116] rfl
  have c10 := hW 10 [111, 114, 105, 101, 110, 116, 97, 116, 105, 111, 110, 58, 112, 111, 114, 116, 114, 97, 105, 116] rfl
  have c11 := hW 11 [111, 114, 105, 101, 110, 116, 97, 116, 105, 111, 110, 58, 108, 97, 110, 100, 115, 99, 97, 112, 101] rfl
  unfold kindP
  generalize hR : kindF wordsL 0 s = R
  have HR := Lib.hid hR
  clear hR hW
  go_enter Tryz.func44, Tryz.ntmps44
  go_wp2_with fail
  clear c0 c1 c2 c3 c4 c5 c6 c7 c8 c9 c10 c11
  go_loopw [6] (fun x wr => w = wr ∧ ∃ i : Nat, i ≤ 12 ∧ x = .int .i64 i ∧ kindF (wordsL.drop i) i s = R) (fun x _ => 12 - (intOf x).toNat)
  case atStart => exact ⟨rfl, 0, by omega, rfl, HR.out⟩
  case round =>
    obtain ⟨rfl, i, hi, rfl, hinv⟩ := hrel
    have HInv := Lib.hid hinv
    clear hinv HR
    by_cases hlt : i < 12
    · have hz : (i : Int) < 12 := by omega
      obtain ⟨x, hx, ha⟩ := words_at i hlt
      have HStep := Lib.hid (kind_step (w := s) hx)
      clear hx
      unfold wordsA at ha
      by_cases h0 : i = 0
      · have hp : ¬ (0 : Int) < (i : Int) := by omega
        have HNew := Lib.hid (show kindF (wordsL.drop (i + 1)) (i + 1) s = R by rw [← HInv.out, HStep.out, if_neg (by omega)])
        clear h0
        go_wp2_with fail
        go_roundw
        case rel => exact ⟨trivial, i + 1, by omega, by go_num, HNew.out⟩
        case measure => simp [intOf]; omega
      · have hp : (0 : Int) < (i : Int) := by omega
        by_cases hs : x = s
        · subst hs
          have b1 : ((bs x).toList == (bs x).toList) = true := by simp
          have HFin := Lib.hid (show R = (i : Int) by rw [← HInv.out, HStep.out, if_pos ⟨by omega, rfl⟩])
          go_wp2_with fail
          go_ret
          exact ⟨by rw [HFin.out]; rfl, rfl⟩
        · have b1 : ((bs x).toList == (bs s).toList) = false := by rw [bs_toList, bs_toList]; simpa using hs
          have HNew := Lib.hid (show kindF (wordsL.drop (i + 1)) (i + 1) s = R by rw [← HInv.out, HStep.out, if_neg (fun h => hs h.2)])
          clear hs
          go_wp2_with fail
          go_roundw
          case rel => exact ⟨trivial, i + 1, by omega, by go_num, HNew.out⟩
          case measure => simp [intOf]; omega
    · obtain rfl : i = 12 := by omega
      have HFin := Lib.hid (show R = 12 by rw [← HInv.out]; rfl)
      go_wp2_with fail
      go_ret
      exact ⟨by rw [HFin.out]; rfl, rfl⟩

set_option maxRecDepth 100000 in
set_option maxHeartbeats 2000000 in
theorem mlow_ct (s : ByteArray) (hs : s.size ≤ 140737488355328) (w : World) : Calls Tryz.prog 72 #[.string s] w fun e w' => e = .returned (.string (bs (s.data.toList.map lowB))) ∧ Below w.heap.size w w' := by
  have hz := Lib.hid (Lib.size_eq s)
  go_enter Tryz.func72, Tryz.ntmps72
  go_wp2_with fail
  obtain ⟨cp, W1, hcv, hb1, hz1, hby, hfy⟩ := bytes_of s w
  rw [hcv]
  simp only [Result.andThen]
  rw [Oper.upon_value]
  have hB0 := Lib.hid (show BytesAt W1 w.heap.size s.data.toList from ⟨hby, fun j hj => hfy j (by rw [hz.out]; exact hj)⟩)
  replace hb1 := Lib.hid hb1
  clear hcv hby hfy
  go_wp2_with fail
  go_loopw [10] (fun i wr => ∃ k : Nat, k ≤ s.size ∧ i = .int .i64 k ∧ BytesAt wr w.heap.size (lowAt s.data.toList k) ∧ W1.grownBy wr (some w.heap.size)) (fun i _ => s.size - (intOf i).toNat)
  case atStart => exact ⟨0, by omega, rfl, by simpa [lowAt] using hB0.out, World.grownBy.refl _ _⟩
  case round =>
    obtain ⟨k, hk, rfl, hby, hgr⟩ := hrel
    replace hgr := Lib.hid hgr
    by_cases hlt : k < s.size
    · have hlt' : (k : Int) < (s.size : Int) := by omega
      obtain ⟨c, hc⟩ : ∃ c, s.data.toList[k]? = some c := ⟨s.data.toList[k]'(by rw [← Lib.size_eq]; exact hlt), List.getElem?_eq_getElem _⟩
      have hkl : k < (lowAt s.data.toList k).length := by rw [lowAt_len, ← Lib.size_eq]; exact hlt
      have hcell := hby.1 k c (lowAt_get hc)
      have hfr := hby.2 k hkl
      have hst := Lib.hid (lowAt_step hc)
      have hsm := Lib.hid (set_same (lowAt_get hc))
      have hby' := Lib.hid hby
      have c0 := nv_nn c
      have c1 := nv_lt c
      clear hc hby
      by_cases h1 : 65 ≤ nv c
      · by_cases h2 : nv c ≤ 90
        · have hlo := Lib.hid (lowB_great ⟨h1, h2⟩)
          generalize hx : nv c = x at *
          replace hx := Lib.hid hx
          go_wp2_with fail
          go_roundw
          case rel =>
            refine ⟨k + 1, by omega, by go_num, ?_, hgr.out.trans (grown_set _ _ _ _)⟩
            rw [hst.out]
            exact hby'.out.put hkl hlo.out.symm
          case measure => simp [intOf]; omega
        · have hlo := Lib.hid (lowB_other (c := c) (fun h => h2 h.2))
          generalize hx : nv c = x at *
          replace hx := Lib.hid hx
          go_wp2_with fail
          go_roundw
          case rel => exact ⟨k + 1, by omega, by go_num, by rw [hst.out, hlo.out, hsm.out]; exact hby'.out, hgr.out⟩
          case measure => simp [intOf]; omega
      · have hlo := Lib.hid (lowB_other (c := c) (fun h => h1 h.1))
        generalize hx : nv c = x at *
        replace hx := Lib.hid hx
        go_wp2_with fail
        go_roundw
        case rel => exact ⟨k + 1, by omega, by go_num, by rw [hst.out, hlo.out, hsm.out]; exact hby'.out, hgr.out⟩
        case measure => simp [intOf]; omega
    · obtain rfl : k = s.size := by omega
      have hfin : lowAt s.data.toList s.size = s.data.toList.map lowB := by rw [Lib.size_eq]; exact lowAt_end _
      have hln : (s.data.toList.map lowB).length = s.size := by rw [List.length_map, Lib.size_eq]
      have hcv : ∀ cap, (convert 34 9 (.slice (some ⟨w.heap.size, 0, none⟩) s.size cap)).run Tryz.prog wr = .ok (.string (bs (s.data.toList.map lowB))) wr := fun cap => by
        have := run_convert_bytes_back wr 34 9 5 ⟨w.heap.size, 0, none⟩ cap (s.data.toList.map lowB) Tryz.underlying34 Tryz.underlying5 Tryz.underlying9 (fun j hj => by
          rw [add_zero_block]
          have hb2 := hby.1
          rw [hfin] at hb2
          exact hb2 j _ (List.getElem?_eq_getElem hj))
        rw [hln] at this
        exact this
      have hB := Lib.hid (below_grow hb1.out hgr.out (Nat.le_refl _) (by have := hb1.out.size; omega))
      clear hby hfin hln
      go_wp2
      go_ret
      exact ⟨rfl, hB.out⟩


/-- what product tells of the reader's world -/

theorem low_len (l : Bs) : (l.map lowB).length = l.length := List.length_map _
set_option maxRecDepth 100000 in
theorem mword_ct (t : Tk) (ht : t.val.length ≤ 1000000) (w : World) : Calls Tryz.prog 43 #[.agg t.cells] w fun e w' => e = .returned (.string (bs (wordT t))) ∧ Below w.heap.size w w' := by
  obtain ⟨k, r, v, n⟩ := t
  simp only at ht
  simp only [Tk.cells]
  have hb := Lib.hid (show Below w.heap.size w (w.alloc (.cells #[.int .i64 k, .string (bs r), .string (bs v), .int .i64 n] 81)) from (Below.refl _ _).alloc (Nat.le_refl _) _)
  by_cases h1 : k = 1
  · subst h1
    have HR := Lib.hid (show wordT ⟨1, r, v, n⟩ = v.map lowB from if_pos rfl)
    have cL := Lib.hid (fun w => mlow_ct (bs v) (by rw [bs_size]; omega) w)
    clear ht
    go_enter Tryz.func43, Tryz.ntmps43
    go_wp2_with (go_at_call 72; (with_reducible refine (cL.out _).mono ?_); rintro e W1 ⟨rfl, hb1⟩; have HB1 := Lib.hid (hb.out.trans (hb1.mono (by simp))); clear hb1)
    go_ret
    exact ⟨by rw [HR.out]; rfl, HB1.out⟩
  · have b1 : (k == 1) = false := by simpa using h1
    have b2 : (k != 1) = true := by simpa using h1
    have HR := Lib.hid (show wordT ⟨k, r, v, n⟩ = [] from if_neg h1)
    clear h1
    go_enter Tryz.func43, Tryz.ntmps43
    go_wp2_with fail
    go_ret
    exact ⟨by rw [HR.out]; rfl, hb.out⟩

end Go.Proofs.YtmjbaimccbkmpaaGreatDoor.med
