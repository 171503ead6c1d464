/- Contracts and plain law, a bundle. -/
import Derived.Lib.Hide
import Derived.Test.YtlfkkaofgcongaaGreatDoorBC
set_option linter.unusedVariables false
set_option maxRecDepth 100000
set_option maxHeartbeats 16000000
open Go.Lib (hid)
namespace Go.Proofs.YtlfkkaofgcongaaGreatDoor
namespace tok
open Go.RowKit base
theorem esc_take {l : Bs} {m : Nat} (h : escP (l.take m) = true) : escP l = true := by
 match l, m, h with
 | [], _, h => simpa using h
 | [c], 0, h => simp [escP] at h
 | [c], m + 1, h => simp [escP] at h
 | c :: d :: r, 0, h => simp [escP] at h
 | c :: d :: r, 1, h => simp [escP] at h
 | c :: d :: r, m + 2, h => simpa [escP] using h
theorem name_cons1 (c : UInt8) : nameP [c] = if signI (nv c) then ([c], 1) else ([], 0) := by rw [nameP]
theorem name_cons2 (c d : UInt8) (r : Bs) : nameP (c :: d :: r) = if escP (c :: d :: r) then (d :: (nameP r).1, (nameP r).2 + 2) else if signI (nv c) then (c :: (nameP (d :: r)).1, (nameP (d :: r)).2 + 1) else ([], 0) := by rw [nameP]
theorem name_nil : nameP [] = ([], 0) := by rw [nameP]
theorem name_take : ∀ (n : Nat) (l : Bs) (m : Nat), l.length <= n -> (nameP l).2 <= m -> nameP (l.take m) = nameP l
 | 0, l, m, h, hm => by
  obtain rfl := List.eq_nil_of_length_eq_zero (Nat.le_zero.1 h)
  simp
 | n + 1, [], m, h, hm => by simp
 | n + 1, [c], m, h, hm => by
  rw [name_cons1] at hm ⊢
  by_cases hs : signI (nv c) = true
  ·rw [if_pos hs] at hm ⊢
   obtain ⟨k, rfl⟩ : ∃ k, m = k + 1 := ⟨m - 1, by simp at hm; omega⟩
   simp [name_cons1, hs]
  ·rw [if_neg hs]
   cases m with
   | zero => simp [name_nil]
   | succ m => simp [name_cons1, hs]
 | n + 1, c :: d :: r, m, h, hm => by
  rw [name_cons2] at hm ⊢
  by_cases he : escP (c :: d :: r) = true
  ·rw [if_pos he] at hm ⊢
   obtain ⟨k, rfl⟩ : ∃ k, m = k + 2 := ⟨m - 2, by simp at hm; omega⟩
   have ih := name_take n r k (by simp at h; omega) (by simp at hm; omega)
   have he2 : escP (c :: d :: r.take k) = true := by simpa [escP] using he
   simp only [List.take_succ_cons]
   rw [name_cons2, if_pos he2, ih]
  ·rw [if_neg he] at hm ⊢
   by_cases hs : signI (nv c) = true
   ·rw [if_pos hs] at hm ⊢
    obtain ⟨k, rfl⟩ : ∃ k, m = k + 1 := ⟨m - 1, by simp at hm; omega⟩
    have ih := name_take n (d :: r) k (by simp at h ⊢; omega) (by simp at hm; omega)
    have he2 : ¬ escP ((c :: d :: r).take (k + 1)) = true := fun h2 => he (esc_take h2)
    cases k with
    | zero =>
     simp only [Nat.zero_add, List.take_succ_cons, List.take_zero] at ih ⊢
     rw [name_cons1, if_pos hs]
     rw [name_nil] at ih
     rw [<- ih]
    | succ k =>
     simp only [List.take_succ_cons] at ih he2 ⊢
     rw [name_cons2, if_neg he2, if_pos hs, ih]
   ·rw [if_neg hs]
    match m with
    | 0 => simp [name_nil]
    | 1 => simp [name_cons1, hs]
    | k + 2 =>
     have he2 : ¬ escP ((c :: d :: r).take (k + 2)) = true := fun h2 => he (esc_take h2)
     simp only [List.take_succ_cons] at he2 ⊢
     rw [name_cons2, if_neg he2, if_neg hs]
theorem name_take' (l : Bs) (m : Nat) (hm : (nameP l).2 <= m) : nameP (l.take m) = nameP l := name_take _ l m (Nat.le_refl _) hm
theorem begins_take {l : Bs} {m : Nat} (h : beginsP l = true) (hm : (nameP l).2 <= m) : beginsP (l.take m) = true := by
 match l, h, hm with
 | [c], h, hm =>
  have := name_pos h
  obtain ⟨k, rfl⟩ : ∃ k, m = k + 1 := ⟨m - 1, by omega⟩
  simpa using h
 | c :: d :: r, h, hm =>
  rw [name_cons2] at hm
  by_cases he : escP (c :: d :: r) = true
  ·rw [if_pos he] at hm
   obtain ⟨k, rfl⟩ : ∃ k, m = k + 2 := ⟨m - 2, by simp at hm; omega⟩
   have he2 : escP (c :: d :: r.take k) = true := by simpa [escP] using he
   have h45 : ¬ nv c = 45 := by
    simp [escP] at he
    omega
   simp only [List.take_succ_cons, beginsP, if_neg h45, he2, Bool.or_true]
  ·rw [if_neg he] at hm
   simp only [beginsP] at h
   by_cases h45 : nv c = 45
   ·have hs : signI (nv c) = true := by simp [signI, h45]
    rw [if_pos hs] at hm
    rw [if_pos h45] at h
    obtain ⟨k, rfl⟩ : ∃ k, m = k + 1 := ⟨m - 1, by simp at hm; omega⟩
    have hd : signI (nv d) = true ∨ escP (d :: r) = true := by
     simp only [Bool.or_eq_true, decide_eq_true_eq] at h
     rcases h with (h | h) | h
     ·left; simp [signI, h]
     ·left; simp [signI, h]
     ·right; exact h
    have hp : 0 < (nameP (d :: r)).2 := by
     cases r with
     | nil =>
      rw [name_cons1]
      rcases hd with hd | hd
      ·simp [hd]
      ·simp [escP] at hd
     | cons e r =>
      rw [name_cons2]
      split
      ·simp
      ·rename_i hne
       rcases hd with hd | hd
       ·simp [hd]
       ·exact absurd hd hne
    simp at hm
    obtain ⟨j, rfl⟩ : ∃ j, k = j + 1 := ⟨k - 1, by omega⟩
    simp only [List.take_succ_cons, beginsP, if_pos h45]
    simp only [Bool.or_eq_true, decide_eq_true_eq] at h ⊢
    rcases h with h | h
    ·exact Or.inl h
    ·right
     cases r with
     | nil => simp [escP] at h
     | cons e r =>
      have hj : 1 <= j := by
       rw [name_cons2, if_pos h] at hm
       simp at hm
       omega
      obtain ⟨i, rfl⟩ : ∃ i, j = i + 1 := ⟨j - 1, by omega⟩
      simpa [escP] using h
   ·rw [if_neg h45] at h
    simp only [Bool.or_eq_true] at h
    have hst : startsI (nv c) = true := h.resolve_right he
    have hs : signI (nv c) = true := by simp [signI, hst]
    rw [if_pos hs] at hm
    obtain ⟨k, rfl⟩ : ∃ k, m = k + 1 := ⟨m - 1, by simp at hm; omega⟩
    cases k with
    | zero => simp [beginsP, hst]
    | succ k => simp [beginsP, h45, hst]
end tok
namespace tok
open Go.RowKit base
theorem while_take (p : UInt8 -> Bool) : ∀ (l : Bs) (k : Nat), ((l.take k).takeWhile p).length = min (l.takeWhile p).length k
 | [], k => by simp
 | c :: l, 0 => by simp
 | c :: l, k + 1 => by
  simp only [List.take_succ_cons, List.takeWhile_cons]
  cases p c
  ·simp
  ·simp only [if_true, List.length_cons]
   rw [while_take p l k]
   omega
theorem digits_take (l : Bs) (k : Nat) : digitsP (l.take k) = min (digitsP l) k := while_take _ l k
theorem space_take (l : Bs) (k : Nat) : spaceP (l.take k) = min (spaceP l) k := while_take _ l k
theorem sign_take {l : Bs} {m : Nat} (hm : 0 < m) : signAt (l.take m) = signAt l /\ negP (l.take m) = negP l := by
 obtain ⟨k, rfl⟩ : ∃ k, m = k + 1 := ⟨m - 1, by omega⟩
 cases l with
 | nil => simp
 | cons c r => exact ⟨rfl, rfl⟩
theorem behind_take0 {x : Bs} (h : behindP x = 0) (k : Nat) : behindP (x.take k) = 0 := by
 cases x with
 | nil => simp [behindP]
 | cons c t =>
  cases k with
  | zero => simp [behindP]
  | succ k =>
   simp only [List.take_succ_cons, behindP] at h ⊢
   split
   ·rename_i h46
    rw [if_pos h46] at h
    rw [digits_take, h]
    simp
   ·rfl
theorem behind_take1 {x : Bs} {k : Nat} (h : behindP x ≠ 0) (hk : 1 + behindP x <= k) : behindP (x.take k) = behindP x := by
 cases x with
 | nil => simp [behindP] at h
 | cons c t =>
  obtain ⟨j, rfl⟩ : ∃ j, k = j + 1 := ⟨k - 1, by omega⟩
  simp only [List.take_succ_cons, behindP] at h hk ⊢
  split
  ·rename_i h46
   rw [if_pos h46] at hk
   rw [digits_take]
   omega
  ·rfl
theorem num_end (l : Bs) (f wh be : Nat) (neg : Bool) : (numAt l f wh be neg).2 = if wh + be = 0 then 0 else f + wh + if be = 0 then 0 else 1 + be := by
 unfold numAt
 split <;> rfl
theorem number_take {l : Bs} {m : Nat} (h0 : 0 < (numberP l).2) (hm : (numberP l).2 <= m) : numberP (l.take m) = numberP l := by
 obtain ⟨hs, hn⟩ := sign_take (l := l) (m := m) (by omega)
 have he := num_end l (signAt l) (digitsP (l.drop (signAt l))) (behindP (l.drop (signAt l + digitsP (l.drop (signAt l))))) (negP l)
 unfold numberP at h0 hm ⊢
 rw [he] at h0 hm
 rw [hs, hn]
 generalize signAt l = f at *
 generalize hwh : digitsP (l.drop f) = wh at *
 generalize hbe : behindP (l.drop (f + wh)) = be at *
 have hz : ¬ wh + be = 0 := by
  intro hz
  rw [if_pos hz] at h0
  omega
 rw [if_neg hz] at hm h0
 have hm2 : f + wh <= m := by split at hm <;> omega
 have e1 : digitsP ((l.take m).drop f) = wh := by
  rw [List.drop_take, digits_take, hwh]
  omega
 rw [e1]
 have e2 : behindP ((l.take m).drop (f + wh)) = be := by
  rw [List.drop_take]
  by_cases hb : be = 0
  ·rw [hb]
   exact behind_take0 (by rw [hbe, hb]) _
  ·rw [if_neg hb] at hm
   rw [behind_take1 (by rw [hbe]; exact hb) (by rw [hbe]; omega), hbe]
 rw [e2]
 unfold numAt
 rw [if_neg hz, if_neg hz]
 have e3 : sumP (l.take m) f wh be = sumP l f wh be := by
  unfold sumP
  have a1 : ((l.take m).drop f).take wh = (l.drop f).take wh := by
   rw [List.drop_take, List.take_take, Nat.min_eq_left (by omega)]
  have a2 : ((l.take m).drop (f + wh + 1)).take be = (l.drop (f + wh + 1)).take be := by
   by_cases hb : be = 0
   ·rw [hb]; simp
   ·rw [if_neg hb] at hm
    rw [List.drop_take, List.take_take, Nat.min_eq_left (by omega)]
  rw [a1, a2]
 rw [e3]
theorem number_take0 {l : Bs} (h0 : (numberP l).2 = 0) (m : Nat) : (numberP (l.take m)).2 = 0 := by
 cases m with
 | zero => rfl
 | succ m =>
  obtain ⟨hs, hn⟩ := sign_take (l := l) (m := m + 1) (by omega)
  have he := num_end l (signAt l) (digitsP (l.drop (signAt l))) (behindP (l.drop (signAt l + digitsP (l.drop (signAt l))))) (negP l)
  unfold numberP at h0 ⊢
  rw [he] at h0
  rw [hs, hn, num_end]
  generalize signAt l = f at *
  generalize hwh : digitsP (l.drop f) = wh at *
  generalize hbe : behindP (l.drop (f + wh)) = be at *
  have hz : wh + be = 0 := by
   rcases Nat.eq_zero_or_pos (wh + be) with h | h
   ·exact h
   ·rw [if_neg (by omega)] at h0
    split at h0 <;> omega
  have hwz : wh = 0 := by omega
  have e1 : digitsP ((l.take (m + 1)).drop f) = 0 := by
   rw [List.drop_take, digits_take, hwh, hwz]
   simp
  rw [e1]
  have e2 : behindP ((l.take (m + 1)).drop (f + 0)) = 0 := by
   rw [List.drop_take]
   have : behindP (l.drop (f + 0)) = 0 := by
    rw [hwz] at hbe
    rw [hbe]
    omega
   exact behind_take0 this _
  rw [e2]
  simp
theorem textR_nil (q : UInt8) : textR q [] = (6, 0, []) := by rw [textR]
theorem textR_one (q c : UInt8) : textR q [c] = if nv c = nv q then (5, 1, []) else if nv c = 10 then (6, 0, []) else (6, 1, [c]) := by rw [textR]
theorem textR_two (q c d : UInt8) (r : Bs) : textR q (c :: d :: r) = if nv c = nv q then (5, 1, []) else if nv c = 10 then (6, 0, []) else
   if nv c = 92 then ((textR q r).1, (textR q r).2.1 + 2, d :: (textR q r).2.2) else ((textR q (d :: r)).1, (textR q (d :: r)).2.1 + 1, c :: (textR q (d :: r)).2.2) := by rw [textR]
theorem textR_take (q : UInt8) : ∀ (n : Nat) (l : Bs), l.length <= n -> textR q (l.take (textR q l).2.1) = textR q l
 | 0, l, h => by
  obtain rfl := List.eq_nil_of_length_eq_zero (Nat.le_zero.1 h)
  simp
 | n + 1, [], h => by simp
 | n + 1, [c], h => by
  rw [textR_one]
  split
  ·rename_i hq
   simp [textR_one, hq]
  ·split
   ·simp [textR_nil]
   ·rename_i hq hn
    simp [textR_one, hq, hn]
 | n + 1, c :: d :: r, h => by
  rw [textR_two]
  split
  ·rename_i hq
   simp [textR_one, hq]
  ·rename_i hq
   split
   ·simp [textR_nil]
   ·rename_i hn
    split
    ·rename_i hb
     have ih := textR_take q n r (by simp at h; omega)
     simp only [List.take_succ_cons]
     rw [textR_two, if_neg hq, if_neg hn, if_pos hb, ih]
    ·rename_i hb
     have ih := textR_take q n (d :: r) (by simp at h ⊢; omega)
     simp only [List.take_succ_cons]
     generalize textR q (d :: r) = T at *
     obtain ⟨k, j, v⟩ := T
     simp only at ih ⊢
     cases j with
     | zero =>
      simp only [List.take_zero] at ih ⊢
      rw [textR_nil] at ih
      rw [textR_one, if_neg hq, if_neg hn]
      simp only [Prod.mk.injEq] at ih
      obtain ⟨rfl, _, rfl⟩ := ih
      rfl
     | succ j =>
      simp only [List.take_succ_cons] at ih ⊢
      rw [textR_two, if_neg hq, if_neg hn, if_neg hb, ih]
theorem prefix_take {l sub : Bs} {m : Nat} (h : sub.isPrefixOf (l.take m) = true) : sub.isPrefixOf l = true := by
 rw [List.isPrefixOf_iff_prefix] at h ⊢
 exact h.trans (List.take_prefix _ _)
theorem index_take {s : Bs} {i : Nat} (h : Lib.index s [42, 47] = (i : Int)) : Lib.index (s.take (i + 2)) [42, 47] = (i : Int) := by
 rcases Lib.index_spec s [42, 47] with ⟨h1, _⟩ | ⟨j, hj, hjl, hocc, hno⟩
 ·omega
 ·obtain rfl : j = i := by omega
  have hr := Lib.index_room s [42, 47] (by omega)
  simp only [List.length_cons, List.length_nil] at hr
  refine Lib.index_first (by rw [List.length_take]; omega) ?_ (fun k hk => ?_)
  ·unfold Lib.occAt at hocc ⊢
   rw [List.drop_take, Nat.add_sub_cancel_left]
   rw [List.isPrefixOf_iff_prefix] at hocc ⊢
   obtain ⟨t, ht⟩ := hocc
   rw [<- ht]
   simp
  ·have := hno k hk
   unfold Lib.occAt at this ⊢
   cases hp : List.isPrefixOf [42, 47] ((s.take (j + 2)).drop k)
   ·rfl
   ·rw [List.drop_take] at hp
    rw [prefix_take hp] at this
    cases this
end tok
namespace tok
open Go.RowKit base
theorem space_zero {l : Bs} (h : spaceP l = 0) (m : Nat) : spaceP (l.take m) = 0 := by rw [space_take, h]; simp
theorem hasP_take {l p : Bs} (h : Lib.hasPrefix l p = false) (m : Nat) : Lib.hasPrefix (l.take m) p = false := by
 cases h2 : Lib.hasPrefix (l.take m) p
 ·rfl
 ·unfold Lib.hasPrefix at h h2
  rw [prefix_take h2] at h
  cases h
theorem quote_take {l : Bs} {m : Nat} (hm : 0 < m) : quoteP (l.take m) = quoteP l := by
 obtain ⟨k, rfl⟩ : ∃ k, m = k + 1 := ⟨m - 1, by omega⟩
 cases l <;> rfl
theorem one_take {l : Bs} {m : Nat} (hm : 0 < m) : oneK (l.take m) = oneK l := by
 obtain ⟨k, rfl⟩ : ∃ k, m = k + 1 := ⟨m - 1, by omega⟩
 cases l <;> rfl
theorem hash_head {l : Bs} {c : UInt8} (h : l.head? = some c) (hc : ¬ nv c = 35) : hashP l = false := by
 match l, h with
 | [a], _ => rfl
 | a :: b :: r, h =>
  obtain rfl : a = c := by simpa using h
  simp [hashP, hc]
theorem at_head {l : Bs} {c : UInt8} (h : l.head? = some c) (hc : ¬ nv c = 64) : atP l = false := by
 match l, h with
 | a :: r, h =>
  obtain rfl : a = c := by simpa using h
  simp [atP, hc]
theorem quote_head {l : Bs} {c : UInt8} (h : l.head? = some c) (hq : quoteP l = true) : nv c = 39 ∨ nv c = 34 := by
 match l, h with
 | a :: r, h =>
  obtain rfl : a = c := by simpa using h
  simpa [quoteP] using hq
theorem head_take {l : Bs} {m : Nat} (hm : 0 < m) : (l.take m).head? = l.head? := by
 obtain ⟨k, rfl⟩ : ∃ k, m = k + 1 := ⟨m - 1, by omega⟩
 cases l <;> rfl
theorem head_some {l : Bs} (h : l ≠ []) : ∃ c, l.head? = some c := by
 cases l with
 | nil => exact absurd rfl h
 | cons c r => exact ⟨c, rfl⟩
theorem take_all {l : Bs} {m : Nat} : (l.take m).take m = l.take m := by rw [List.take_take, Nat.min_self]
theorem first_self (l : Bs) (h0 : l ≠ []) : firstP (firstP l).raw = firstP l := by
 have hl : 0 < l.length := List.length_pos_iff.2 h0
 obtain ⟨c, hc⟩ := head_some h0
 generalize hF : firstP l = F
 rw [firstP] at hF
 by_cases hsp : 0 < spaceP l
 ·rw [if_pos hsp] at hF
  subst hF
  simp only
  have hs2 : spaceP (l.take (spaceP l)) = spaceP l := by rw [space_take]; omega
  rw [firstP, if_pos (by rw [hs2]; exact hsp), hs2, take_all]
 rw [if_neg hsp] at hF
 have hsz : spaceP l = 0 := by omega
 by_cases hn : Lib.hasPrefix l [47, 42] = true
 ·rw [if_pos hn] at hF
  subst hF
  by_cases hi : 0 <= Lib.index (l.drop 2) [42, 47]
  ·obtain ⟨i, hi2⟩ := Int.eq_ofNat_of_zero_le hi
   have hr := Lib.index_room (l.drop 2) [42, 47] hi
   rw [hi2, List.length_drop] at hr
   simp only [List.length_cons, List.length_nil] at hr
   have e : noteP l = ⟨9, l.take (i + 4), [], 0⟩ := by
    unfold noteP
    rw [if_pos hi, hi2]
    rfl
   rw [e]
   simp only
   have hn2 : Lib.hasPrefix (l.take (i + 4)) [47, 42] = true := by
    match l, hn, hr with
    | a :: b :: r, hn, _ =>
     simp only [Lib.hasPrefix, List.take_succ_cons, List.isPrefixOf] at hn ⊢
     exact hn
    | [a], hn, hr => simp at hr; omega
    | [], hn, hr => simp at hr; omega
   have hix : Lib.index ((l.take (i + 4)).drop 2) [42, 47] = (i : Int) := by
    rw [List.drop_take]
    exact index_take hi2
   rw [firstP, if_neg (by rw [space_zero hsz]; omega), if_pos hn2]
   unfold noteP
   rw [hix, if_pos (by omega)]
   simp only [Int.toNat_natCast]
   rw [take_all]
  ·have e : noteP l = ⟨9, l, [], 0⟩ := by
    unfold noteP
    rw [if_neg hi]
   rw [e]
   simp only
   rw [firstP, if_neg hsp, if_pos hn, e]
 have hn' : Lib.hasPrefix l [47, 42] = false := by simpa using hn
 rw [if_neg hn] at hF
 by_cases hq : quoteP l = true
 ·rw [if_pos hq] at hF
  subst hF
  match l, h0, hq, hsz, hn' with
  | q :: r, _, hq, hsz, hn' =>
   simp only [textP]
   have ht := textR_take q _ r (Nat.le_refl _)
   generalize hT : textR q r = T at *
   obtain ⟨k, n, v⟩ := T
   simp only at ht ⊢
   have hq2 : quoteP ((q :: r).take (1 + n)) = true := by rw [quote_take (by omega)]; exact hq
   rw [firstP, if_neg (by rw [space_zero hsz]; omega), if_neg (by rw [hasP_take hn']; simp), if_pos hq2]
   rw [Nat.add_comm 1 n, List.take_succ_cons]
   simp only [textP, ht]
   congr 1
   rw [Nat.add_comm 1 n, List.take_succ_cons, List.take_take, Nat.min_self]
 rw [if_neg hq] at hF
 have hq' : quoteP l = false := by simpa using hq
 by_cases hh : hashP l = true
 ·rw [if_pos hh] at hF
  subst hF
  match l, h0, hh, hsz, hn', hq', hc with
  | [a], _, hh, _, _, _, _ => simp [hashP] at hh
  | a :: b :: r, _, hh, hsz, hn', hq', hc =>
   simp only [hashP, Bool.and_eq_true, decide_eq_true_eq, Bool.or_eq_true] at hh
   obtain ⟨ha, hb⟩ := hh
   have hpos : 0 < (nameP (b :: r)).2 := by
    cases r with
    | nil =>
     rw [name_cons1]
     rcases hb with hb | hb
     ·simp [hb]
     ·simp [escP] at hb
    | cons e r =>
     rw [name_cons2]
     split
     ·simp
     ·rename_i hne
      rcases hb with hb | hb
      ·simp [hb]
      ·exact absurd hb hne
   have hnt := name_take' (b :: r) (nameP (b :: r)).2 (Nat.le_refl _)
   have hsz2 := space_zero hsz (1 + (nameP (b :: r)).2)
   have hn2 := hasP_take hn' (1 + (nameP (b :: r)).2)
   have hq2 : quoteP ((a :: b :: r).take (1 + (nameP (b :: r)).2)) = false := by rw [quote_take (by omega)]; exact hq'
   simp only [namedP, List.drop_succ_cons, List.drop_zero]
   generalize hN : nameP (b :: r) = N at *
   obtain ⟨v, n⟩ := N
   simp only at hpos hnt hsz2 hn2 hq2 ⊢
   obtain ⟨j, rfl⟩ : ∃ j, n = j + 1 := ⟨n - 1, by omega⟩
   have hh2 : hashP ((a :: b :: r).take (1 + (j + 1))) = true := by
    rw [Nat.add_comm 1 (j + 1)]
    simp only [List.take_succ_cons, hashP, Bool.and_eq_true, decide_eq_true_eq, Bool.or_eq_true]
    refine ⟨ha, ?_⟩
    rcases hb with hb | hb
    ·exact Or.inl hb
    ·right
     cases r with
     | nil => simp [escP] at hb
     | cons e r =>
      have h2 : 2 <= j + 1 := by
       rw [name_cons2, if_pos hb] at hN
       have := congrArg Prod.snd hN
       simp at this
       omega
      obtain ⟨i, rfl⟩ : ∃ i, j = i + 1 := ⟨j - 1, by omega⟩
      simpa [escP] using hb
   rw [firstP, if_neg (by rw [hsz2]; omega), if_neg (by rw [hn2]; simp), if_neg (by rw [hq2]; simp), if_pos hh2]
   have e1 : ((a :: b :: r).take (1 + (j + 1))).drop 1 = (b :: r).take (j + 1) := by rw [Nat.add_comm 1 (j + 1), List.take_succ_cons]; rfl
   simp only [namedP, e1, hnt]
   rw [take_all]
 rw [if_neg hh] at hF
 have hh' : hashP l = false := by simpa using hh
 by_cases ha : atP l = true
 ·rw [if_pos ha] at hF
  subst hF
  match l, h0, ha, hsz, hn', hq', hh' with
  | a :: r, _, ha, hsz, hn', hq', hh' =>
   simp only [atP, Bool.and_eq_true, decide_eq_true_eq] at ha
   obtain ⟨ha, hb⟩ := ha
   have hpos := name_pos hb
   have hnt := name_take' r (nameP r).2 (Nat.le_refl _)
   have hbt := begins_take hb (Nat.le_refl _)
   have hsz2 := space_zero hsz (1 + (nameP r).2)
   have hn2 := hasP_take hn' (1 + (nameP r).2)
   have hq2 : quoteP ((a :: r).take (1 + (nameP r).2)) = false := by rw [quote_take (by omega)]; exact hq'
   simp only [namedP, List.drop_succ_cons, List.drop_zero]
   generalize hN : nameP r = N at *
   obtain ⟨v, n⟩ := N
   simp only at hpos hnt hbt hsz2 hn2 hq2 ⊢
   have hhd : ((a :: r).take (1 + n)).head? = some a := by rw [head_take (by omega)]; rfl
   have hh2 := hash_head hhd (by omega : ¬ nv a = 35)
   have e1 : ((a :: r).take (1 + n)) = a :: r.take n := by rw [Nat.add_comm 1 n, List.take_succ_cons]
   have ha2 : atP ((a :: r).take (1 + n)) = true := by
    rw [e1]
    simp only [atP, Bool.and_eq_true, decide_eq_true_eq]
    exact ⟨ha, hbt⟩
   rw [firstP, if_neg (by rw [hsz2]; omega), if_neg (by rw [hn2]; simp), if_neg (by rw [hq2]; simp), if_neg (by rw [hh2]; simp), if_pos ha2]
   have e2 : ((a :: r).take (1 + n)).drop 1 = r.take n := by rw [e1]; rfl
   simp only [namedP, e2, hnt]
   rw [take_all]
 rw [if_neg ha] at hF
 by_cases hnum : 0 < (numberP l).2
 ·rw [if_pos hnum] at hF
  subst hF
  obtain ⟨x1, x2, x3, x4⟩ := number_no' hc hnum
  have key : ∀ m, (numberP l).2 <= m -> firstP (l.take m) = numTkP (l.take m) (numberP l).1 (numberP l).2 := by
   intro m hm
   have hm0 : 0 < m := by omega
   have hhd : (l.take m).head? = some c := by rw [head_take hm0]; exact hc
   have hq2 : quoteP (l.take m) = false := by rw [quote_take hm0]; exact hq'
   have hnt := number_take hnum hm
   rw [firstP, if_neg (by rw [space_zero hsz]; omega), if_neg (by rw [hasP_take hn']; simp), if_neg (by rw [hq2]; simp), if_neg (by rw [hash_head hhd x1]; simp), if_neg (by rw [at_head hhd x2]; simp), hnt, if_pos hnum]
  generalize numberP l = N at *
  obtain ⟨nm, n⟩ := N
  simp only at hnum key ⊢
  have hd : ∀ m, n <= m -> (l.take m).drop n = (l.drop n).take (m - n) := fun m _ => by rw [List.drop_take]
  unfold numTkP
  by_cases hp : Lib.hasPrefix (l.drop n) [37] = true
  ·rw [if_pos hp]
   simp only
   rw [key (n + 1) (by omega)]
   unfold numTkP
   have hp2 : Lib.hasPrefix ((l.take (n + 1)).drop n) [37] = true := by
    rw [hd _ (by omega), Nat.add_sub_cancel_left]
    generalize l.drop n = x at *
    match x, hp with
    | a :: r, hp => simpa [Lib.hasPrefix, List.isPrefixOf] using hp
    | [], hp => simp [Lib.hasPrefix, List.isPrefixOf] at hp
   rw [if_pos hp2, take_all]
  ·rw [if_neg hp]
   have hp' : Lib.hasPrefix (l.drop n) [37] = false := by simpa using hp
   by_cases hb : beginsP (l.drop n) = true
   ·rw [if_pos hb]
    simp only
    rw [key (n + (nameP (l.drop n)).2) (by omega)]
    unfold numTkP
    have e1 : (l.take (n + (nameP (l.drop n)).2)).drop n = (l.drop n).take (nameP (l.drop n)).2 := by rw [hd _ (by omega), Nat.add_sub_cancel_left]
    rw [e1, if_neg (by rw [hasP_take hp']; simp), if_pos (begins_take hb (Nat.le_refl _)), name_take' _ _ (Nat.le_refl _), take_all]
   ·rw [if_neg hb]
    simp only
    rw [key n (Nat.le_refl _)]
    unfold numTkP
    have e1 : (l.take n).drop n = [] := by rw [List.drop_take]; simp
    rw [e1, if_neg (by decide), if_neg (by decide), take_all]
 rw [if_neg hnum] at hF
 have hnum' : (numberP l).2 = 0 := by omega
 by_cases hb : beginsP l = true
 ·rw [if_pos hb] at hF
  subst hF
  obtain ⟨x1, x2, x3, x4⟩ := begins_no' hc hb
  have hpos := name_pos hb
  have key : ∀ m, (nameP l).2 <= m -> firstP (l.take m) = wordP (l.take m) := by
   intro m hm
   have hm0 : 0 < m := by omega
   have hhd : (l.take m).head? = some c := by rw [head_take hm0]; exact hc
   have hq2 : quoteP (l.take m) = false := by rw [quote_take hm0]; exact hq'
   rw [firstP, if_neg (by rw [space_zero hsz]; omega), if_neg (by rw [hasP_take hn']; simp), if_neg (by rw [hq2]; simp), if_neg (by rw [hash_head hhd x1]; simp), if_neg (by rw [at_head hhd x2]; simp), if_neg (by rw [number_take0 hnum' m]; omega), if_pos (begins_take hb hm)]
  have hle := nameP_le _ l (Nat.le_refl _)
  have hnl : (namedP 1 l 0).raw.length = (nameP l).2 := by
   simp only [namedP, List.drop_zero, Nat.zero_add, List.length_take]
   omega
  have hnm : ∀ m, (nameP l).2 <= m -> namedP 1 (l.take m) 0 = namedP 1 l 0 := by
   intro m hm
   simp only [namedP, List.drop_zero, Nat.zero_add]
   rw [name_take' l m hm, List.take_take, Nat.min_eq_left hm]
  unfold wordP
  rw [hnl]
  by_cases hp : Lib.hasPrefix (l.drop (nameP l).2) [40] = true
  ·rw [if_pos hp]
   simp only
   rw [key _ (by omega)]
   unfold wordP
   rw [hnm _ (by omega), hnl]
   have hp2 : Lib.hasPrefix ((l.take ((nameP l).2 + 1)).drop (nameP l).2) [40] = true := by
    rw [List.drop_take, Nat.add_sub_cancel_left]
    generalize l.drop (nameP l).2 = x at *
    match x, hp with
    | a :: r, hp => simpa [Lib.hasPrefix, List.isPrefixOf] using hp
    | [], hp => simp [Lib.hasPrefix, List.isPrefixOf] at hp
   rw [if_pos hp2, take_all]
  ·rw [if_neg hp]
   have hraw : (namedP 1 l 0).raw = l.take (nameP l).2 := by simp [namedP]
   rw [hraw, key _ (Nat.le_refl _)]
   unfold wordP
   rw [hnm _ (Nat.le_refl _), hnl]
   have e1 : (l.take (nameP l).2).drop (nameP l).2 = [] := by rw [List.drop_take]; simp
   rw [e1, if_neg (by decide)]
 ·rw [if_neg hb] at hF
  subst hF
  simp only
  have hhd : (l.take 1).head? = some c := by rw [head_take (by omega)]; exact hc
  have e1 : l.take 1 = [c] := by
   match l, hc with
   | a :: r, hc =>
    obtain rfl : a = c := by simpa using hc
    rfl
  have hq2 : quoteP (l.take 1) = false := by rw [quote_take (by omega)]; exact hq'
  have hh2 : hashP (l.take 1) = false := by rw [e1]; rfl
  have ha2 : atP (l.take 1) = false := by rw [e1]; simp [atP, beginsP]
  have hb2 : ¬ beginsP (l.take 1) = true := by
   intro h
   apply hb
   match l, hc with
   | [a], _ => exact h
   | a :: d :: r, hc =>
    simp only [List.take_succ_cons, List.take_zero, beginsP] at h
    simp only [beginsP]
    have h45 : ¬ nv a = 45 := fun e => by
     rw [e] at h
     simp [startsI] at h
    rw [if_neg h45, h]
    rfl
  rw [firstP, if_neg (by rw [space_zero hsz]; omega), if_neg (by rw [hasP_take hn']; simp), if_neg (by rw [hq2]; simp), if_neg (by rw [hh2]; simp), if_neg (by rw [ha2]; simp), if_neg (by rw [number_take0 hnum' 1]; omega), if_neg hb2, one_take (by omega), take_all]
theorem cut_self (l : Bs) (h0 : l ≠ []) : cutP (firstP l).raw = [firstP l] := by
 have hp := (first_pre l h0).2
 have hne : (firstP l).raw ≠ [] := fun e => by rw [e] at hp; simp at hp
 rw [cutP_cons hne, first_self l h0, List.drop_length, cutP_nil]
theorem cut_alone : ∀ (n : Nat) (l : Bs), l.length <= n -> ∀ t ∈ cutP l, cutP t.raw = [t]
 | 0, l, h, t, ht => by
  obtain rfl := List.eq_nil_of_length_eq_zero (Nat.le_zero.1 h)
  rw [cutP_nil] at ht
  cases ht
 | n + 1, l, h, t, ht => by
  by_cases h0 : l = []
  ·subst h0
   rw [cutP_nil] at ht
   cases ht
  ·rw [cutP_cons h0] at ht
   rcases List.mem_cons.1 ht with rfl | ht
   ·exact cut_self l h0
   ·have hp := (first_pre l h0).2
    exact cut_alone n _ (by rw [List.length_drop]; omega) t ht
end tok
namespace tok
open Go.RowKit base
theorem esc_blank (c : UInt8) (m : Bs) (h : ¬ nv c = 92) : escP (c :: 32 :: m) = false := by simp [escP, h]
theorem esc_32 (m : Bs) : escP (32 :: m) = false := by
 cases m with
 | nil => rfl
 | cons d m => rfl
theorem sign_92 {c : UInt8} (h : nv c = 92) : signI (nv c) = false := by rw [h]; rfl
theorem nv92 {c : UInt8} (h : nv c = 92) : c = 92 := by
 apply UInt8.toNat_inj.1
 simp only [nv] at h
 have : (92 : UInt8).toNat = 92 := rfl
 omega
theorem nv_eq {c : UInt8} {n : Nat} (hn : n < 256) (h : nv c = n) : c = UInt8.ofNat n := by
 apply UInt8.toNat_inj.1
 rw [UInt8.toNat_ofNat']
 simp only [nv] at h
 omega
theorem textR_le (q : UInt8) : ∀ (n : Nat) (r : Bs), r.length <= n -> (textR q r).2.1 <= r.length
 | 0, r, h => by
  obtain rfl := List.eq_nil_of_length_eq_zero (Nat.le_zero.1 h)
  rw [textR_nil]
  simp
 | n + 1, [], h => by rw [textR_nil]; simp
 | n + 1, [c], h => by
  rw [textR_one]
  split
  ·simp
  ·split <;> simp
 | n + 1, c :: d :: r, h => by
  rw [textR_two]
  split
  ·simp
  ·split
   ·simp
   ·split
    ·have := textR_le q n r (by simp at h; omega)
     simp; omega
    ·have := textR_le q n (d :: r) (by simp at h ⊢; omega)
     simp at this ⊢; omega
theorem textR_kind (q : UInt8) : ∀ (n : Nat) (r : Bs), r.length <= n -> (textR q r).1 = 5 ∨ (textR q r).1 = 6
 | 0, r, h => by
  obtain rfl := List.eq_nil_of_length_eq_zero (Nat.le_zero.1 h)
  rw [textR_nil]
  simp
 | n + 1, [], h => by rw [textR_nil]; simp
 | n + 1, [c], h => by
  rw [textR_one]
  split
  ·simp
  ·split <;> simp
 | n + 1, c :: d :: r, h => by
  rw [textR_two]
  split
  ·simp
  ·split
   ·simp
   ·split
    ·exact textR_kind q n r (by simp at h; omega)
    ·exact textR_kind q n (d :: r) (by simp at h ⊢; omega)
theorem index_ext (s m : Bs) (h : 0 <= Lib.index s [42, 47]) : Lib.index (s ++ m) [42, 47] = Lib.index s [42, 47] := by
 rcases Lib.index_spec s [42, 47] with ⟨h1, _⟩ | ⟨j, hj, hjl, hocc, hno⟩
 ·omega
 ·have hr := Lib.index_room s [42, 47] (by omega)
  simp only [List.length_cons, List.length_nil] at hr
  rw [hj]
  refine Lib.index_first (by simp; omega) ?_ (fun k hk => ?_)
  ·unfold Lib.occAt at hocc ⊢
   rw [List.drop_append_of_le_length hjl]
   rw [List.isPrefixOf_iff_prefix] at hocc ⊢
   exact hocc.trans (List.prefix_append _ _)
  ·have := hno k hk
   unfold Lib.occAt at this ⊢
   cases hp : List.isPrefixOf [42, 47] ((s ++ m).drop k)
   ·rfl
   ·rw [List.drop_append_of_le_length (by omega)] at hp
    rw [List.isPrefixOf_iff_prefix] at hp
    have hp2 := List.prefix_of_prefix_length_le hp (List.prefix_append (s.drop k) m) (by simp; omega)
    rw [<- List.isPrefixOf_iff_prefix] at hp2
    rw [hp2] at this
    cases this
end tok
namespace tok
open Go.RowKit base
def Ends (l : Bs) : Prop := ∀ t, (cutP l).getLast? = some t -> ¬ t.k = 6 /\ ¬ t.k = 9 /\ ¬ t.k = 8
theorem cut_ne {r : Bs} (h : r ≠ []) : cutP r ≠ [] := by rw [cutP_cons h]; simp
theorem ends_rest {l : Bs} (h0 : l ≠ []) (hE : Ends l) : (l.drop (firstP l).raw.length = [] -> ¬ (firstP l).k = 6 /\ ¬ (firstP l).k = 9 /\ ¬ (firstP l).k = 8) /\ (l.drop (firstP l).raw.length ≠ [] -> Ends (l.drop (firstP l).raw.length)) := by
 refine ⟨fun h => hE _ ?_, fun h t ht => hE t ?_⟩
 ·rw [cutP_cons h0, h, cutP_nil]
  rfl
 ·rw [cutP_cons h0]
  obtain ⟨a, al, hx⟩ := List.exists_cons_of_ne_nil (cut_ne h)
  rw [hx] at ht ⊢
  rw [List.getLast?_cons_cons]
  exact ht
theorem first_92 : firstP [92] = ⟨6, [92], [], 0⟩ := by
 rw [firstP, if_neg (by decide), if_neg (by decide), if_neg (by decide), if_neg (by decide), if_neg (by decide), if_neg (by decide), if_neg (by decide)]
 rfl
theorem cut_92 : cutP [92] = [⟨6, [92], [], 0⟩] := by
 rw [cutP_cons (by decide), first_92]
 simp [cutP_nil]
theorem first_4592 : firstP [45, 92] = ⟨12, [45], [], 0⟩ := by
 rw [firstP, if_neg (by decide), if_neg (by decide), if_neg (by decide), if_neg (by decide), if_neg (by decide), if_neg (by decide), if_neg (by decide)]
 rfl
theorem cut_4592 : cutP [45, 92] = [⟨12, [45], [], 0⟩, ⟨6, [92], [], 0⟩] := by
 rw [cutP_cons (by decide), first_4592]
 simp [cut_92]
theorem first_3592 : firstP [35, 92] = ⟨12, [35], [], 0⟩ := by
 rw [firstP, if_neg (by decide), if_neg (by decide), if_neg (by decide), if_neg (by decide), if_neg (by decide), if_neg (by decide), if_neg (by decide)]
 rfl
theorem first_6492 : firstP [64, 92] = ⟨12, [64], [], 0⟩ := by
 rw [firstP, if_neg (by decide), if_neg (by decide), if_neg (by decide), if_neg (by decide), if_neg (by decide), if_neg (by decide), if_neg (by decide)]
 rfl
theorem first_644592 : firstP [64, 45, 92] = ⟨12, [64], [], 0⟩ := by
 rw [firstP, if_neg (by decide), if_neg (by decide), if_neg (by decide), if_neg (by decide), if_neg (by decide), if_neg (by decide), if_neg (by decide)]
 rfl
theorem no_92 {l : Bs} (h : Ends l) : l ≠ [92] := fun e => by
 subst e
 have := h ⟨6, [92], [], 0⟩ (by rw [cut_92]; rfl)
 exact this.1 rfl
theorem no_4592 {l : Bs} (h : Ends l) : l ≠ [45, 92] := fun e => by
 subst e
 have := h ⟨6, [92], [], 0⟩ (by rw [cut_4592]; rfl)
 exact this.1 rfl
theorem no_3592 {l : Bs} (h : Ends l) : l ≠ [35, 92] := fun e => by
 subst e
 have := h ⟨6, [92], [], 0⟩ (by rw [cutP_cons (by decide), first_3592]; simp [cut_92])
 exact this.1 rfl
theorem no_6492 {l : Bs} (h : Ends l) : l ≠ [64, 92] := fun e => by
 subst e
 have := h ⟨6, [92], [], 0⟩ (by rw [cutP_cons (by decide), first_6492]; simp [cut_92])
 exact this.1 rfl
theorem no_644592 {l : Bs} (h : Ends l) : l ≠ [64, 45, 92] := fun e => by
 subst e
 have := h ⟨6, [92], [], 0⟩ (by rw [cutP_cons (by decide), first_644592]; simp [cut_4592])
 exact this.1 rfl
theorem while_len (p : UInt8 -> Bool) (x : Bs) : ∀ l : Bs, (l.takeWhile p).length < l.length -> ((l ++ x).takeWhile p).length = (l.takeWhile p).length
 | [], h => by simp at h
 | c :: l, h => by
  simp only [List.cons_append, List.takeWhile_cons] at h ⊢
  cases hp : p c
  ·rfl
  ·rw [hp] at h
   simp only [if_true, List.length_cons] at h ⊢
   rw [while_len p x l (by omega)]
theorem space_ext {l : Bs} (x : Bs) (h : spaceP l < l.length) : spaceP (l ++ x) = spaceP l := while_len _ x l h
theorem quote_ext (x : Bs) {l : Bs} (h0 : l ≠ []) : quoteP (l ++ x) = quoteP l := by
 cases l with
 | nil => exact absurd rfl h0
 | cons a r => rfl
theorem one_ext (x : Bs) {l : Bs} (h0 : l ≠ []) : oneK (l ++ x) = oneK l := by
 cases l with
 | nil => exact absurd rfl h0
 | cons a r => rfl
theorem take_ext (x : Bs) {l : Bs} {k : Nat} (h : k <= l.length) : (l ++ x).take k = l.take k := List.take_append_of_le_length h
theorem drop_ext (x : Bs) {l : Bs} {k : Nat} (h : k <= l.length) : (l ++ x).drop k = l.drop k ++ x := List.drop_append_of_le_length h
end tok
namespace tok.st
open Go.RowKit base tok
def Stop (c : UInt8) : Prop := signI (nv c) = false /\ ¬ nv c = 92 /\ ¬ nv c = 46 /\ ¬ nv c = 37 /\ ¬ nv c = 40 /\ ¬ nv c = 42
instance (c : UInt8) : Decidable (Stop c) := by unfold Stop; exact inferInstance
theorem Stop.starts {s : UInt8} (h : Stop s) : startsI (nv s) = false := by
 have := h.1
 simp only [signI, Bool.or_eq_false_iff] at this
 exact this.1.1
theorem Stop.digit {s : UInt8} (h : Stop s) : digI (nv s) = false := by
 have := h.1
 simp only [signI, Bool.or_eq_false_iff] at this
 exact this.1.2
theorem Stop.minus {s : UInt8} (h : Stop s) : ¬ nv s = 45 := by
 have := h.1
 simp only [signI, Bool.or_eq_false_iff, decide_eq_false_iff_not] at this
 exact this.2
theorem Stop.ne {s : UInt8} {c : UInt8} (h : ¬ nv s = nv c) : (c == s) = false := by
 rw [beq_eq_false_iff_ne]
 intro e
 subst e
 exact h rfl
theorem esc_blank (s c : UInt8) (m : Bs) (h : ¬ nv c = 92) : escP (c :: s :: m) = false := by simp [escP, h]
theorem esc_32 {s : UInt8} (hS : Stop s) (m : Bs) : escP (s :: m) = false := by
 cases m with
 | nil => rfl
 | cons d m => simp [escP, hS.2.1]
theorem name_blank {s : UInt8} (hS : Stop s) (m : Bs) : nameP (s :: m) = ([], 0) := by
 cases m with
 | nil => rw [name_cons1, if_neg (by rw [hS.1]; simp)]
 | cons d m =>
  rw [name_cons2, if_neg (by rw [esc_32 hS]; simp), if_neg (by rw [hS.1]; simp)]
theorem begins_blank {s : UInt8} (hS : Stop s) (m : Bs) : beginsP (s :: m) = false := by
 cases m with
 | nil => exact hS.starts
 | cons d m =>
  simp only [beginsP]
  rw [if_neg hS.minus, esc_32 hS, hS.starts]
  rfl
theorem name_ext {s : UInt8} (hS : Stop s) (m : Bs) : ∀ (n : Nat) (y : Bs), y.length <= n -> y.drop (nameP y).2 ≠ [92] -> nameP (y ++ s :: m) = nameP y
 | 0, y, h, hd => by
  obtain rfl := List.eq_nil_of_length_eq_zero (Nat.le_zero.1 h)
  rw [List.nil_append, name_blank hS, name_nil]
 | n + 1, [], h, hd => by rw [List.nil_append, name_blank hS, name_nil]
 | n + 1, [c], h, hd => by
  rw [name_cons1] at hd
  simp only [List.cons_append, List.nil_append]
  rw [name_cons2, name_cons1]
  by_cases hs : signI (nv c) = true
  ·have h92 : ¬ nv c = 92 := fun e => by rw [sign_92 e] at hs; cases hs
   rw [if_neg (by rw [esc_blank s c m h92]; simp), if_pos hs, if_pos hs, name_blank hS]
  ·rw [if_neg hs] at hd
   have h92 : ¬ nv c = 92 := fun e => hd (by rw [nv92 e]; rfl)
   rw [if_neg (by rw [esc_blank s c m h92]; simp), if_neg hs, if_neg hs]
 | n + 1, c :: d :: r, h, hd => by
  rw [name_cons2] at hd ⊢
  simp only [List.cons_append]
  rw [name_cons2]
  have he : escP (c :: d :: (r ++ s :: m)) = escP (c :: d :: r) := rfl
  rw [he]
  by_cases h1 : escP (c :: d :: r) = true
  ·rw [if_pos h1] at hd ⊢
   rw [if_pos h1, name_ext hS m n r (by simp at h; omega) (by simpa using hd)]
  ·rw [if_neg h1] at hd ⊢
   rw [if_neg h1]
   by_cases hs : signI (nv c) = true
   ·rw [if_pos hs] at hd ⊢
    rw [if_pos hs]
    have ih := name_ext hS m n (d :: r) (by simp at h ⊢; omega) (by simpa using hd)
    rw [List.cons_append] at ih
    rw [ih]
   ·rw [if_neg hs, if_neg hs]
theorem name_ext' {s : UInt8} (hS : Stop s) (m : Bs) {y : Bs} (h : y.drop (nameP y).2 ≠ [92]) : nameP (y ++ s :: m) = nameP y := name_ext hS m _ y (Nat.le_refl _) h
theorem begins_ext {s : UInt8} (hS : Stop s) (m : Bs) {r : Bs} (h1 : r ≠ [92]) (h2 : r ≠ [45, 92]) : beginsP (r ++ s :: m) = beginsP r := by
 match r, h1, h2 with
 | [], _, _ => exact begins_blank hS m
 | [c], h1, _ =>
  simp only [List.cons_append, List.nil_append, beginsP]
  have h92 : ¬ nv c = 92 := fun e => h1 (by rw [nv92 e])
  by_cases h45 : nv c = 45
  ·rw [if_pos h45, esc_32 hS, h45, hS.starts, decide_eq_false hS.minus]
   rfl
  ·rw [if_neg h45, esc_blank s c m h92]
   simp
 | c :: d :: r, _, h2 =>
  simp only [List.cons_append, beginsP]
  by_cases h45 : nv c = 45
  ·rw [if_pos h45, if_pos h45]
   cases r with
   | nil =>
    have h92 : ¬ nv d = 92 := fun e => h2 (by rw [nv92 e, nv_eq (n := 45) (by decide) h45]; rfl)
    simp only [List.nil_append]
    rw [esc_blank s d m h92]
    rfl
   | cons e r => rfl
  ·rw [if_neg h45, if_neg h45]
   rfl
theorem while_app {s : UInt8} (p : UInt8 -> Bool) (m : Bs) (h : p s = false) : ∀ y : Bs, ((y ++ s :: m).takeWhile p).length = (y.takeWhile p).length
 | [] => by simp [h]
 | c :: y => by
  simp only [List.cons_append, List.takeWhile_cons]
  cases p c
  ·rfl
  ·simp only [if_true, List.length_cons]
   rw [while_app p m h y]
theorem digits_ext {s : UInt8} (hS : Stop s) (m y : Bs) : digitsP (y ++ s :: m) = digitsP y := while_app _ m hS.digit y
theorem behind_ext {s : UInt8} (hS : Stop s) (m y : Bs) : behindP (y ++ s :: m) = behindP y := by
 cases y with
 | nil =>
  simp only [List.nil_append, behindP]
  rw [if_neg hS.2.2.1]
 | cons c t =>
  simp only [List.cons_append, behindP, digits_ext hS]
theorem number_ext {s : UInt8} (hS : Stop s) (m : Bs) {l : Bs} (h0 : l ≠ []) : numberP (l ++ s :: m) = numberP l := by
 have hs : signAt (l ++ s :: m) = signAt l /\ negP (l ++ s :: m) = negP l := by
  cases l with
  | nil => exact absurd rfl h0
  | cons c r => exact ⟨rfl, rfl⟩
 obtain ⟨_, hsl⟩ := signAt_le l
 unfold numberP
 rw [hs.1, hs.2]
 generalize signAt l = f at *
 have e1 : digitsP ((l ++ s :: m).drop f) = digitsP (l.drop f) := by rw [List.drop_append_of_le_length hsl, digits_ext hS]
 rw [e1]
 have hw := digits_le (l.drop f)
 rw [List.length_drop] at hw
 generalize digitsP (l.drop f) = wh at *
 have e2 : behindP ((l ++ s :: m).drop (f + wh)) = behindP (l.drop (f + wh)) := by rw [List.drop_append_of_le_length (by omega), behind_ext hS]
 rw [e2]
 have hb := behind_le (l.drop (f + wh))
 rw [List.length_drop] at hb
 generalize behindP (l.drop (f + wh)) = be at *
 unfold numAt
 have e3 : sumP (l ++ s :: m) f wh be = sumP l f wh be := by
  unfold sumP
  have a1 : ((l ++ s :: m).drop f).take wh = (l.drop f).take wh := by
   rw [List.drop_append_of_le_length hsl, List.take_append_of_le_length (by rw [List.length_drop]; omega)]
  have a2 : ((l ++ s :: m).drop (f + wh + 1)).take be = (l.drop (f + wh + 1)).take be := by
   rcases hb with hb | hb
   ·rw [hb]; simp
   ·rw [List.drop_append_of_le_length (by omega), List.take_append_of_le_length (by rw [List.length_drop]; omega)]
  rw [a1, a2]
 rw [e3]
theorem textR_ext (q s : UInt8) (m : Bs) : ∀ (n : Nat) (r : Bs), r.length <= n -> ((textR q r).2.1 < r.length ∨ (textR q r).1 = 5) -> textR q (r ++ s :: m) = textR q r
 | 0, r, h, hc => by
  obtain rfl := List.eq_nil_of_length_eq_zero (Nat.le_zero.1 h)
  rw [textR_nil] at hc
  simp at hc
 | n + 1, [], h, hc => by
  rw [textR_nil] at hc
  simp at hc
 | n + 1, [c], h, hc => by
  rw [textR_one] at hc ⊢
  simp only [List.cons_append, List.nil_append]
  rw [textR_two]
  split
  ·rfl
  ·split
   ·rfl
   ·rename_i h1 h2
    rw [if_neg h1, if_neg h2] at hc
    simp at hc
 | n + 1, c :: d :: r, h, hc => by
  rw [textR_two] at hc ⊢
  simp only [List.cons_append]
  rw [textR_two]
  split
  ·rfl
  ·rename_i h1
   split
   ·rfl
   ·rename_i h2
    rw [if_neg h1, if_neg h2] at hc
    split
    ·rename_i h3
     rw [if_pos h3] at hc
     rw [textR_ext q s m n r (by simp at h; omega) (by simp only [List.length_cons] at hc; omega)]
    ·rename_i h3
     rw [if_neg h3] at hc
     have ih := textR_ext q s m n (d :: r) (by simp at h ⊢; omega) (by simp only [List.length_cons] at hc ⊢; omega)
     rw [List.cons_append] at ih
     rw [ih]
theorem hp2_ext {s : UInt8} (hS : Stop s) (m : Bs) {l : Bs} (h0 : l ≠ []) : Lib.hasPrefix (l ++ s :: m) [47, 42] = Lib.hasPrefix l [47, 42] := by
 match l, h0 with
 | [a], _ =>
  simp only [Lib.hasPrefix, List.cons_append, List.nil_append, List.isPrefixOf, Stop.ne (c := 42) hS.2.2.2.2.2]
  cases (47 == a) <;> rfl
 | a :: b :: r, _ => rfl
theorem hp1_ext {s : UInt8} (hS : Stop s) (m y : Bs) (c : UInt8) (hc : (c == s) = false) : Lib.hasPrefix (y ++ s :: m) [c] = Lib.hasPrefix y [c] := by
 cases y with
 | nil => simp [Lib.hasPrefix, List.isPrefixOf, hc]
 | cons a r => rfl
theorem hash_ext {s : UInt8} (hS : Stop s) (m : Bs) {l : Bs} (h0 : l ≠ []) (h : l ≠ [35, 92]) : hashP (l ++ s :: m) = hashP l := by
 match l, h0, h with
 | [a], _, _ =>
  simp only [List.cons_append, List.nil_append, hashP, esc_32 hS, hS.1]
  simp
 | [a, b], _, h =>
  simp only [List.cons_append, List.nil_append, hashP]
  by_cases h35 : nv a = 35
  ·have h92 : ¬ nv b = 92 := fun e => h (by rw [nv92 e, nv_eq (n := 35) (by decide) h35]; rfl)
   rw [esc_blank s b m h92]
   rfl
  ·simp [h35]
 | a :: b :: c :: r, _, _ => rfl
theorem at_ext {s : UInt8} (hS : Stop s) (m : Bs) {l : Bs} (h0 : l ≠ []) (h1 : l ≠ [64, 92]) (h2 : l ≠ [64, 45, 92]) : atP (l ++ s :: m) = atP l := by
 match l, h0, h1, h2 with
 | a :: r, _, h1, h2 =>
  simp only [List.cons_append, atP]
  by_cases h64 : nv a = 64
  ·have ha := nv_eq (n := 64) (by decide) h64
   rw [begins_ext hS m (fun e => h1 (by rw [e, ha]; rfl)) (fun e => h2 (by rw [e, ha]; rfl))]
  ·simp [h64]
theorem first_ext {s : UInt8} (hS : Stop s) (m : Bs) {l : Bs} (h0 : l ≠ []) (hE : Ends l) : firstP (l ++ s :: m) = firstP l := by
 have hl : 0 < l.length := List.length_pos_iff.2 h0
 obtain ⟨hR1, hR2⟩ := ends_rest h0 hE
 have hne : l ++ s :: m ≠ [] := by simp
 generalize hF : firstP l = F at *
 rw [firstP] at hF
 by_cases hsp : 0 < spaceP l
 ·rw [if_pos hsp] at hF
  subst hF
  have hle := space_le l
  have hlen : (l.take (spaceP l)).length = spaceP l := by rw [List.length_take]; omega
  simp only [hlen] at hR1
  have hlt : spaceP l < l.length := by
   rcases Nat.lt_or_ge (spaceP l) l.length with h | h
   ·exact h
   ·exact ((hR1 (List.drop_eq_nil_of_le h)).2.2 (by trivial)).elim
  rw [firstP, space_ext _ hlt, if_pos hsp, take_ext _ hle]
 rw [if_neg hsp] at hF
 have hsz : spaceP l = 0 := by omega
 have e0 : spaceP (l ++ s :: m) = 0 := by rw [space_ext _ (by omega), hsz]
 rw [firstP, e0, if_neg (by omega), hp2_ext hS m h0]
 by_cases hn : Lib.hasPrefix l [47, 42] = true
 ·rw [if_pos hn] at hF
  rw [if_pos hn]
  subst hF
  have h2 : 2 <= l.length := by
   match l, hn with
   | [], hn => simp [Lib.hasPrefix, List.isPrefixOf] at hn
   | [a], hn => simp [Lib.hasPrefix, List.isPrefixOf] at hn
   | a :: b :: r, _ => simp
  by_cases hi : 0 <= Lib.index (l.drop 2) [42, 47]
  ·have hr := Lib.index_room (l.drop 2) [42, 47] hi
   rw [List.length_drop] at hr
   simp only [List.length_cons, List.length_nil] at hr
   unfold noteP
   rw [drop_ext _ h2, index_ext _ _ hi, if_pos hi, if_pos hi, take_ext _ (by omega)]
  ·exfalso
   have e : noteP l = ⟨9, l, [], 0⟩ := by unfold noteP; rw [if_neg hi]
   rw [e] at hR1
   exact (hR1 (by simp)).2.1 rfl
 rw [if_neg hn] at hF
 rw [if_neg hn, quote_ext _ h0]
 by_cases hq : quoteP l = true
 ·rw [if_pos hq] at hF
  rw [if_pos hq]
  subst hF
  match l, h0, hR1 with
  | q :: r, _, hR1 =>
   simp only [textP, List.cons_append] at hR1 ⊢
   have hle := textR_le q _ r (Nat.le_refl _)
   have hk := textR_kind q _ r (Nat.le_refl _)
   have hc : (textR q r).2.1 < r.length ∨ (textR q r).1 = 5 := by
    rcases hk with hk | hk
    ·exact Or.inr hk
    ·rcases Nat.lt_or_ge (textR q r).2.1 r.length with h | h
     ·exact Or.inl h
     ·exfalso
      refine (hR1 (List.drop_eq_nil_of_le ?_)).1 hk
      rw [List.length_take]
      simp
      omega
   rw [textR_ext q s m _ r (Nat.le_refl _) hc]
   congr 1
   rw [Nat.add_comm 1, List.take_succ_cons, List.take_succ_cons, take_ext _ hle]
 rw [if_neg hq] at hF
 rw [if_neg hq, hash_ext hS m h0 (no_3592 hE)]
 have named : ∀ (k : Int) (a : Nat), a <= l.length -> F = namedP k l a -> namedP k (l ++ s :: m) a = namedP k l a := by
  intro k a ha e
  have hle := nameP_le _ (l.drop a) (Nat.le_refl _)
  rw [List.length_drop] at hle
  have hrest : (l.drop a).drop (nameP (l.drop a)).2 ≠ [92] := by
   rw [List.drop_drop]
   have hlen : F.raw.length = a + (nameP (l.drop a)).2 := by
    rw [e]
    simp only [namedP, List.length_take]
    omega
   rw [hlen] at hR2
   intro e92
   exact no_92 (hR2 (by rw [e92]; simp)) e92
  simp only [namedP]
  rw [drop_ext _ ha, name_ext' hS m hrest, take_ext _ (by omega)]
 by_cases hh : hashP l = true
 ·rw [if_pos hh] at hF
  rw [if_pos hh, named 4 1 (by omega) hF.symm, hF]
 rw [if_neg hh] at hF
 rw [if_neg hh, at_ext hS m h0 (no_6492 hE) (no_644592 hE)]
 by_cases ha : atP l = true
 ·rw [if_pos ha] at hF
  rw [if_pos ha, named 3 1 (by omega) hF.symm, hF]
 rw [if_neg ha] at hF
 rw [if_neg ha, number_ext hS m h0]
 by_cases hnum : 0 < (numberP l).2
 ·rw [if_pos hnum] at hF
  rw [if_pos hnum]
  have hnl := numberP_le l
  generalize numberP l = N at *
  obtain ⟨nm, n⟩ := N
  simp only at hnum hF hnl ⊢
  unfold numTkP at hF ⊢
  rw [drop_ext _ hnl, hp1_ext hS m _ 37 (Stop.ne (c := 37) hS.2.2.2.1)]
  by_cases hp : Lib.hasPrefix (l.drop n) [37] = true
  ·rw [if_pos hp] at hF ⊢
   have := hp_roomc hp
   rw [take_ext _ (by omega), hF]
  ·rw [if_neg hp] at hF ⊢
   have hsafe : l.drop n ≠ [92] /\ l.drop n ≠ [45, 92] := by
    constructor
    ·intro e
     rw [e, if_neg (by decide)] at hF
     subst hF
     simp only [List.length_take, Nat.min_eq_left hnl] at hR2
     exact no_92 (hR2 (by rw [e]; simp)) e
    ·intro e
     rw [e, if_neg (by decide)] at hF
     subst hF
     simp only [List.length_take, Nat.min_eq_left hnl] at hR2
     exact no_4592 (hR2 (by rw [e]; simp)) e
   rw [begins_ext hS m hsafe.1 hsafe.2]
   by_cases hb : beginsP (l.drop n) = true
   ·rw [if_pos hb] at hF ⊢
    have hle := nameP_le _ (l.drop n) (Nat.le_refl _)
    rw [List.length_drop] at hle
    have hrest : (l.drop n).drop (nameP (l.drop n)).2 ≠ [92] := by
     rw [List.drop_drop]
     have hlen : F.raw.length = n + (nameP (l.drop n)).2 := by
      rw [<- hF]
      simp only [List.length_take]
      omega
     rw [hlen] at hR2
     intro e92
     exact no_92 (hR2 (by rw [e92]; simp)) e92
    rw [name_ext' hS m hrest, take_ext _ (by omega), hF]
   ·rw [if_neg hb] at hF ⊢
    rw [take_ext _ hnl, hF]
 rw [if_neg hnum] at hF
 rw [if_neg hnum, begins_ext hS m (no_92 hE) (no_4592 hE)]
 by_cases hb : beginsP l = true
 ·rw [if_pos hb] at hF
  rw [if_pos hb]
  have hle := nameP_le _ l (Nat.le_refl _)
  have hnl : (namedP 1 l 0).raw.length = (nameP l).2 := by
   simp only [namedP, List.drop_zero, Nat.zero_add, List.length_take]
   omega
  have hrest : l.drop (nameP l).2 ≠ [92] := by
   intro e92
   unfold wordP at hF
   rw [hnl, e92, if_neg (by decide)] at hF
   rw [<- hF, hnl] at hR2
   exact no_92 (hR2 (by rw [e92]; simp)) e92
  have e1 : namedP 1 (l ++ s :: m) 0 = namedP 1 l 0 := by
   simp only [namedP, List.drop_zero, Nat.zero_add]
   rw [name_ext' hS m hrest, take_ext _ hle]
  unfold wordP at hF ⊢
  rw [e1, hnl, drop_ext _ hle, hp1_ext hS m _ 40 (Stop.ne (c := 40) hS.2.2.2.2.1)]
  rw [hnl] at hF
  by_cases hp : Lib.hasPrefix (l.drop (nameP l).2) [40] = true
  ·rw [if_pos hp] at hF ⊢
   have := hp_roomc hp
   rw [take_ext _ (by omega), hF]
  ·rw [if_neg hp] at hF ⊢
   exact hF
 ·rw [if_neg hb] at hF
  rw [if_neg hb, one_ext _ h0, take_ext _ (by omega), hF]
theorem cut_apart {s : UInt8} (hS : Stop s) (m : Bs) : ∀ (n : Nat) (l : Bs), l.length <= n -> l ≠ [] -> Ends l -> cutP (l ++ s :: m) = cutP l ++ cutP (s :: m)
 | 0, l, h, h0, _ => absurd (List.eq_nil_of_length_eq_zero (Nat.le_zero.1 h)) h0
 | n + 1, l, h, h0, hE => by
  have hp := (first_pre l h0).2
  have hrw := first_raw l h0
  obtain ⟨hR1, hR2⟩ := ends_rest h0 hE
  have hrl : (firstP l).raw.length <= l.length := by
   rw [hrw, List.length_take]
   omega
  rw [cutP_cons (show l ++ s :: m ≠ [] by simp), first_ext hS m h0 hE, cutP_cons h0, drop_ext _ hrl]
  by_cases hr : l.drop (firstP l).raw.length = []
  ·rw [hr, cutP_nil]
   rfl
  ·rw [cut_apart hS m n _ (by rw [List.length_drop]; omega) hr (hR2 hr)]
   rfl
end tok.st
namespace tok
open Go.RowKit base
def nameE : Nat -> Bs -> Bs × Nat
 | 0, _ => ([], 0)
 | n + 1, c :: d :: r => if escP (c :: d :: r) then (match nameE n r with | (a, b) => (d :: a, b + 2)) else if signI (nv c) then (match nameE n (d :: r) with | (a, b) => (c :: a, b + 1)) else ([], 0)
 | _ + 1, [c] => if signI (nv c) then ([c], 1) else ([], 0)
 | _ + 1, [] => ([], 0)
theorem nameE_eq : ∀ (n : Nat) (l : Bs), l.length <= n -> nameE n l = nameP l
 | 0, l, h => by
  obtain rfl := List.eq_nil_of_length_eq_zero (Nat.le_zero.1 h)
  rw [nameP]; rfl
 | n + 1, [], _ => by rw [nameP]; rfl
 | n + 1, [c], _ => by rw [nameP]; rfl
 | n + 1, c :: d :: r, h => by
  have h1 := nameE_eq n r (by simp at h; omega)
  have h2 := nameE_eq n (d :: r) (by simp at h ⊢; omega)
  rw [nameP, nameE, h1, h2]
def textE (q : UInt8) : Nat -> Bs -> Int × Nat × Bs
 | 0, _ => (6, 0, [])
 | _ + 1, [] => (6, 0, [])
 | _ + 1, [c] => if nv c = nv q then (5, 1, []) else if nv c = 10 then (6, 0, []) else (6, 1, [c])
 | n + 1, c :: d :: r => if nv c = nv q then (5, 1, []) else if nv c = 10 then (6, 0, []) else
   if nv c = 92 then (match textE q n r with | (a, b, x) => (a, b + 2, d :: x)) else (match textE q n (d :: r) with | (a, b, x) => (a, b + 1, c :: x))
theorem textE_eq (q : UInt8) : ∀ (n : Nat) (l : Bs), l.length <= n -> textE q n l = textR q l
 | 0, l, h => by
  obtain rfl := List.eq_nil_of_length_eq_zero (Nat.le_zero.1 h)
  rw [textR]; rfl
 | n + 1, [], _ => by rw [textR]; rfl
 | n + 1, [c], _ => by rw [textR]; rfl
 | n + 1, c :: d :: r, h => by
  have h1 := textE_eq q n r (by simp at h; omega)
  have h2 := textE_eq q n (d :: r) (by simp at h ⊢; omega)
  rw [textR, textE, h1, h2]
def namedE (k : Int) (l : Bs) (a : Nat) : Tk := match nameE l.length (l.drop a) with | (x, m) => ⟨k, l.take (a + m), x, 0⟩
theorem namedE_eq (k : Int) (l : Bs) (a : Nat) : namedE k l a = namedP k l a := by
 unfold namedE namedP
 rw [nameE_eq l.length (l.drop a) (by rw [List.length_drop]; omega)]
def textEP : Bs -> Tk
 | [] => ⟨6, [], [], 0⟩
 | q :: r => match textE q r.length r with | (a, b, x) => ⟨a, (q :: r).take (1 + b), if a = 5 then x else [], 0⟩
theorem textEP_eq : ∀ l, textEP l = textP l
 | [] => rfl
 | q :: r => by
  simp only [textEP, textP]
  rw [textE_eq q r.length r (Nat.le_refl _)]
def numTkE (l : Bs) (num : Int) (n : Nat) : Tk :=
 if Lib.hasPrefix (l.drop n) [37] then ⟨7, l.take (n + 1), [37], num⟩
 else if beginsP (l.drop n) then (match nameE l.length (l.drop n) with | (x, m) => ⟨7, l.take (n + m), x.map lowB, num⟩)
 else ⟨7, l.take n, [], num⟩
theorem numTkE_eq (l : Bs) (num : Int) (n : Nat) : numTkE l num n = numTkP l num n := by
 unfold numTkE numTkP
 rw [nameE_eq l.length (l.drop n) (by rw [List.length_drop]; omega)]
def wordE (l : Bs) : Tk := match namedE 1 l 0 with
 | ⟨k, r, v, n⟩ => if Lib.hasPrefix (l.drop r.length) [40] then ⟨2, l.take (r.length + 1), v, n⟩ else ⟨k, r, v, n⟩
theorem wordE_eq (l : Bs) : wordE l = wordP l := by
 unfold wordE wordP
 rw [namedE_eq]
def firstE (l : Bs) : Tk :=
 if 0 < spaceP l then ⟨8, l.take (spaceP l), [], 0⟩ else
 if Lib.hasPrefix l [47, 42] then noteP l else
 if quoteP l then textEP l else
 if hashP l then namedE 4 l 1 else
 if atP l then namedE 3 l 1 else
 if 0 < (numberP l).2 then numTkE l (numberP l).1 (numberP l).2 else
 if beginsP l then wordE l else ⟨oneK l, l.take 1, [], 0⟩
theorem firstE_eq (l : Bs) : firstE l = firstP l := by
 unfold firstE firstP
 rw [textEP_eq, namedE_eq, namedE_eq, numTkE_eq, wordE_eq]
def cutE : Nat -> Bs -> List Tk
 | 0, _ => []
 | n + 1, l => match l with
  | [] => []
  | c :: r => match firstE (c :: r) with
   | ⟨k, w, v, m⟩ => ⟨k, w, v, m⟩ :: cutE n ((c :: r).drop w.length)
theorem cutE_eq : ∀ (n : Nat) (l : Bs), l.length <= n -> cutE n l = cutP l
 | 0, l, h => by
  obtain rfl := List.eq_nil_of_length_eq_zero (Nat.le_zero.1 h)
  rw [cutP_nil]; rfl
 | n + 1, [], _ => by rw [cutP_nil]; rfl
 | n + 1, c :: r, h => by
  have hp := (first_pre (c :: r) (by simp)).2
  have h1 := cutE_eq n ((c :: r).drop (firstP (c :: r)).raw.length) (by rw [List.length_drop]; omega)
  rw [cutP_cons (by simp), <- h1]
  show (match firstE (c :: r) with | ⟨k, w, v, m⟩ => (⟨k, w, v, m⟩ : Tk) :: cutE n ((c :: r).drop w.length)) = _
  rw [firstE_eq]
theorem cut_eval {l : Bs} {L : List Tk} (h : cutE l.length l = L) : cutP l = L := by rw [<- cutE_eq l.length l (Nat.le_refl _), h]
end tok
namespace tc
open Go.RowKit base tok
def Solo (c : UInt8) : Prop := blankB c = false /\ ¬ nv c = 47 /\ ¬ nv c = 39 /\ ¬ nv c = 34 /\ ¬ nv c = 35 /\ ¬ nv c = 64 /\ ¬ nv c = 43 /\ ¬ nv c = 45 /\ ¬ nv c = 46 /\ digI (nv c) = false /\ startsI (nv c) = false /\ ¬ nv c = 92
instance (c : UInt8) : Decidable (Solo c) := by unfold Solo; infer_instance
theorem first_solo {c : UInt8} (r : Bs) (h : Solo c) : firstP (c :: r) = ⟨oneK [c], [c], [], 0⟩ := by
 obtain ⟨hb, h47, h39, h34, h35, h64, h43, h45, h46, hd, hst, h92⟩ := h
 have hsp : ¬ 0 < spaceP (c :: r) := by
  unfold spaceP
  rw [List.takeWhile_cons_of_neg (by simp [hb])]
  simp
 have hn : ¬ Lib.hasPrefix (c :: r) [47, 42] = true := by
  have : ¬ 47 = c := fun e => h47 (by rw [<- e]; rfl)
  simp [Lib.hasPrefix, List.isPrefixOf, this]
 have hq : ¬ quoteP (c :: r) = true := by simp [quoteP, h39, h34]
 have hh : ¬ hashP (c :: r) = true := by cases r <;> simp [hashP, h35]
 have ha : ¬ atP (c :: r) = true := by simp [atP, h64]
 have hnum : ¬ 0 < (numberP (c :: r)).2 := by rw [number_no h43 h45 h46 hd]; simp
 have hbg : ¬ beginsP (c :: r) = true := by
  cases r with
  | nil => simp [beginsP, hst]
  | cons d r => simp [beginsP, hst, h45, escP, h92]
 rw [firstP, if_neg hsp, if_neg hn, if_neg hq, if_neg hh, if_neg ha, if_neg hnum, if_neg hbg]
 rfl
theorem cut_solo {c : UInt8} (r : Bs) (h : Solo c) : cutP (c :: r) = ⟨oneK [c], [c], [], 0⟩ :: cutP r := by
 rw [cutP_cons (by simp), first_solo r h]
 rfl
theorem cut_gaps (sp : Bs) (h0 : sp ≠ []) (h : ∀ x ∈ sp, blankB x = true) (c : UInt8) (hc : blankB c = false) (m : Bs) : cutP (sp ++ c :: m) = ⟨8, sp, [], 0⟩ :: cutP (c :: m) := by
 have hsp : spaceP (sp ++ c :: m) = sp.length := by
  unfold spaceP
  have key : ∀ l : Bs, (∀ x ∈ l, blankB x = true) -> ((l ++ c :: m).takeWhile blankB) = l := by
   intro l
   induction l with
   | nil => intro _; rw [List.nil_append, List.takeWhile_cons_of_neg (by simp [hc])]
   | cons a l ih =>
    intro hl
    rw [List.cons_append, List.takeWhile_cons_of_pos (hl a (by simp)), ih (fun x hx => hl x (by simp [hx]))]
  rw [key sp h]
 have hp := List.length_pos_iff.2 h0
 have hf : firstP (sp ++ c :: m) = ⟨8, sp, [], 0⟩ := by
  rw [firstP, hsp, if_pos hp, List.take_left]
 rw [cutP_cons (by simp [h0]), hf]
 simp only [List.drop_left]
def Stops (m : Bs) : Prop := m = [] ∨ ∃ s r, m = s :: r /\ st.Stop s
theorem Stops.nil : Stops [] := .inl rfl
theorem Stops.cons {s : UInt8} {r : Bs} (h : st.Stop s) : Stops (s :: r) := .inr ⟨s, r, rfl, h⟩
theorem apart {l m : Bs} (h0 : l ≠ []) (hE : tok.Ends l) (hm : Stops m) : cutP (l ++ m) = cutP l ++ cutP m := by
 rcases hm with rfl | ⟨s, r, rfl, hS⟩
 ·rw [List.append_nil, cutP_nil, List.append_nil]
 ·exact st.cut_apart hS r _ l (Nat.le_refl _) h0 hE
theorem ends_one {l : Bs} {t : Tk} (h : cutP l = [t]) (hk : ¬ t.k = 6 /\ ¬ t.k = 9 /\ ¬ t.k = 8) : tok.Ends l := fun x hx => by
 rw [h] at hx
 obtain rfl : t = x := by simpa using hx
 exact hk
theorem one_app {l m : Bs} {t : Tk} (h : cutP l = [t]) (hk : ¬ t.k = 6 /\ ¬ t.k = 9 /\ ¬ t.k = 8) (hm : Stops m) : cutP (l ++ m) = t :: cutP m := by
 have h0 : l ≠ [] := fun e => by rw [e, cutP_nil] at h; cases h
 rw [apart h0 (ends_one h hk) hm, h]
 rfl
theorem cut_sp {m : Bs} {c : UInt8} {r : Bs} (h : m = c :: r) (hc : blankB c = false) : cutP (32 :: m) = ⟨8, [32], [], 0⟩ :: cutP m := by
 subst h
 exact cut_gaps [32] (by decide) (by decide) c hc r
end tc
end Go.Proofs.YtlfkkaofgcongaaGreatDoor
