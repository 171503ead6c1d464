/- A token by itself: numbers, texts, remarks, blanks of a prefix. No walk. -/
import Derived.Test.YtphdmdncboegjaaDoorTokL1
namespace Go.Proofs.YtphdmdncboegjaaDoor.tok
open Go.RowKit Go.Proofs.YtphdmdncboegjaaDoor.base
set_option linter.unusedVariables false

theorem while_take (p : UInt8 → Bool) : ∀ (l : Bs) (k : Nat), ((l.take k).takeWhile p).length = min (l.takeWhile p).length k
  | [], k => by simp
  | c :: l, 0 => by simp
  | c :: l, k + 1 => by
    simp only [List.take_succ_cons, List.takeWhile_cons]
    cases p c
    · simp
    · simp only [if_true, List.length_cons]
      rw [while_take p l k]
      omega
theorem digits_take (l : Bs) (k : Nat) : digitsP (l.take k) = min (digitsP l) k := while_take _ l k
theorem space_take (l : Bs) (k : Nat) : spaceP (l.take k) = min (spaceP l) k := while_take _ l k
theorem sign_take {l : Bs} {m : Nat} (hm : 0 < m) : signAt (l.take m) = signAt l ∧ negP (l.take m) = negP l := by
  obtain ⟨k, rfl⟩ : ∃ k, m = k + 1 := ⟨m - 1, by omega⟩
  cases l with
  | nil => simp
  | cons c r => exact ⟨rfl, rfl⟩
theorem behind_take0 {x : Bs} (h : behindP x = 0) (k : Nat) : behindP (x.take k) = 0 := by
  cases x with
  | nil => simp [behindP]
  | cons c t =>
    cases k with
    | zero => simp [behindP]
    | succ k =>
      simp only [List.take_succ_cons, behindP] at h ⊢
      split
      · rename_i h46
        rw [if_pos h46] at h
        rw [digits_take, h]
        simp
      · rfl
theorem behind_take1 {x : Bs} {k : Nat} (h : behindP x ≠ 0) (hk : 1 + behindP x ≤ k) : behindP (x.take k) = behindP x := by
  cases x with
  | nil => simp [behindP] at h
  | cons c t =>
    obtain ⟨j, rfl⟩ : ∃ j, k = j + 1 := ⟨k - 1, by omega⟩
    simp only [List.take_succ_cons, behindP] at h hk ⊢
    split
    · rename_i h46
      rw [if_pos h46] at hk
      rw [digits_take]
      omega
    · rfl

theorem num_end (l : Bs) (f wh be : Nat) (neg : Bool) : (numAt l f wh be neg).2 = if wh + be = 0 then 0 else f + wh + if be = 0 then 0 else 1 + be := by
  unfold numAt
  split <;> rfl

/-- a number is read the same of any prefix that holds it -/
theorem number_take {l : Bs} {m : Nat} (h0 : 0 < (numberP l).2) (hm : (numberP l).2 ≤ m) : numberP (l.take m) = numberP l := by
  obtain ⟨hs, hn⟩ := sign_take (l := l) (m := m) (by omega)
  have he := num_end l (signAt l) (digitsP (l.drop (signAt l))) (behindP (l.drop (signAt l + digitsP (l.drop (signAt l))))) (negP l)
  unfold numberP at h0 hm ⊢
  rw [he] at h0 hm
  rw [hs, hn]
  generalize signAt l = f at *
  generalize hwh : digitsP (l.drop f) = wh at *
  generalize hbe : behindP (l.drop (f + wh)) = be at *
  have hz : ¬ wh + be = 0 := by
    intro hz
    rw [if_pos hz] at h0
    omega
  rw [if_neg hz] at hm h0
  have hm2 : f + wh ≤ m := by split at hm <;> omega
  have e1 : digitsP ((l.take m).drop f) = wh := by
    rw [List.drop_take, digits_take, hwh]
    omega
  rw [e1]
  have e2 : behindP ((l.take m).drop (f + wh)) = be := by
    rw [List.drop_take]
    by_cases hb : be = 0
    · rw [hb]
      exact behind_take0 (by rw [hbe, hb]) _
    · rw [if_neg hb] at hm
      rw [behind_take1 (by rw [hbe]; exact hb) (by rw [hbe]; omega), hbe]
  rw [e2]
  unfold numAt
  rw [if_neg hz, if_neg hz]
  have e3 : sumP (l.take m) f wh be = sumP l f wh be := by
    unfold sumP
    have a1 : ((l.take m).drop f).take wh = (l.drop f).take wh := by
      rw [List.drop_take, List.take_take, Nat.min_eq_left (by omega)]
    have a2 : ((l.take m).drop (f + wh + 1)).take be = (l.drop (f + wh + 1)).take be := by
      by_cases hb : be = 0
      · rw [hb]; simp
      · rw [if_neg hb] at hm
        rw [List.drop_take, List.take_take, Nat.min_eq_left (by omega)]
    rw [a1, a2]
  rw [e3]

/-- what is no number has no prefix that is one -/
theorem number_take0 {l : Bs} (h0 : (numberP l).2 = 0) (m : Nat) : (numberP (l.take m)).2 = 0 := by
  cases m with
  | zero => rfl
  | succ m =>
    obtain ⟨hs, hn⟩ := sign_take (l := l) (m := m + 1) (by omega)
    have he := num_end l (signAt l) (digitsP (l.drop (signAt l))) (behindP (l.drop (signAt l + digitsP (l.drop (signAt l))))) (negP l)
    unfold numberP at h0 ⊢
    rw [he] at h0
    rw [hs, hn, num_end]
    generalize signAt l = f at *
    generalize hwh : digitsP (l.drop f) = wh at *
    generalize hbe : behindP (l.drop (f + wh)) = be at *
    have hz : wh + be = 0 := by
      rcases Nat.eq_zero_or_pos (wh + be) with h | h
      · exact h
      · rw [if_neg (by omega)] at h0
        split at h0 <;> omega
    have hwz : wh = 0 := by omega
    have e1 : digitsP ((l.take (m + 1)).drop f) = 0 := by
      rw [List.drop_take, digits_take, hwh, hwz]
      simp
    rw [e1]
    have e2 : behindP ((l.take (m + 1)).drop (f + 0)) = 0 := by
      rw [List.drop_take]
      have : behindP (l.drop (f + 0)) = 0 := by
        rw [hwz] at hbe
        rw [hbe]
        omega
      exact behind_take0 this _
    rw [e2]
    simp

theorem textR_nil (q : UInt8) : textR q [] = (6, 0, []) := by rw [textR]
theorem textR_one (q c : UInt8) : textR q [c] = if nv c = nv q then (5, 1, []) else if nv c = 10 then (6, 0, []) else (6, 1, [c]) := by rw [textR]
theorem textR_two (q c d : UInt8) (r : Bs) : textR q (c :: d :: r) = if nv c = nv q then (5, 1, []) else if nv c = 10 then (6, 0, []) else
      if nv c = 92 then ((textR q r).1, (textR q r).2.1 + 2, d :: (textR q r).2.2) else ((textR q (d :: r)).1, (textR q (d :: r)).2.1 + 1, c :: (textR q (d :: r)).2.2) := by rw [textR]
/-- what is between quotes is read the same without what follows -/
theorem textR_take (q : UInt8) : ∀ (n : Nat) (l : Bs), l.length ≤ n → textR q (l.take (textR q l).2.1) = textR q l
  | 0, l, h => by
    obtain rfl := List.eq_nil_of_length_eq_zero (Nat.le_zero.1 h)
    simp
  | n + 1, [], h => by simp
  | n + 1, [c], h => by
    rw [textR_one]
    split
    · rename_i hq
      simp [textR_one, hq]
    · split
      · simp [textR_nil]
      · rename_i hq hn
        simp [textR_one, hq, hn]
  | n + 1, c :: d :: r, h => by
    rw [textR_two]
    split
    · rename_i hq
      simp [textR_one, hq]
    · rename_i hq
      split
      · simp [textR_nil]
      · rename_i hn
        split
        · rename_i hb
          have ih := textR_take q n r (by simp at h; omega)
          simp only [List.take_succ_cons]
          rw [textR_two, if_neg hq, if_neg hn, if_pos hb, ih]
        · rename_i hb
          have ih := textR_take q n (d :: r) (by simp at h ⊢; omega)
          simp only [List.take_succ_cons]
          generalize textR q (d :: r) = T at *
          obtain ⟨k, j, v⟩ := T
          simp only at ih ⊢
          cases j with
          | zero =>
            simp only [List.take_zero] at ih ⊢
            rw [textR_nil] at ih
            rw [textR_one, if_neg hq, if_neg hn]
            simp only [Prod.mk.injEq] at ih
            obtain ⟨rfl, _, rfl⟩ := ih
            rfl
          | succ j =>
            simp only [List.take_succ_cons] at ih ⊢
            rw [textR_two, if_neg hq, if_neg hn, if_neg hb, ih]

theorem prefix_take {l sub : Bs} {m : Nat} (h : sub.isPrefixOf (l.take m) = true) : sub.isPrefixOf l = true := by
  rw [List.isPrefixOf_iff_prefix] at h ⊢
  exact h.trans (List.take_prefix _ _)
/-- the place of a remark's end, in the remark alone -/
theorem index_take {s : Bs} {i : Nat} (h : Lib.index s [42, 47] = (i : Int)) : Lib.index (s.take (i + 2)) [42, 47] = (i : Int) := by
  rcases Lib.index_spec s [42, 47] with ⟨h1, _⟩ | ⟨j, hj, hjl, hocc, hno⟩
  · omega
  · obtain rfl : j = i := by omega
    have hr := Lib.index_room s [42, 47] (by omega)
    simp only [List.length_cons, List.length_nil] at hr
    refine Lib.index_first (by rw [List.length_take]; omega) ?_ (fun k hk => ?_)
    · unfold Lib.occAt at hocc ⊢
      rw [List.drop_take, Nat.add_sub_cancel_left]
      rw [List.isPrefixOf_iff_prefix] at hocc ⊢
      obtain ⟨t, ht⟩ := hocc
      rw [← ht]
      simp
    · have := hno k hk
      unfold Lib.occAt at this ⊢
      cases hp : List.isPrefixOf [42, 47] ((s.take (j + 2)).drop k)
      · rfl
      · rw [List.drop_take] at hp
        rw [prefix_take hp] at this
        cases this

end Go.Proofs.YtphdmdncboegjaaDoor.tok
