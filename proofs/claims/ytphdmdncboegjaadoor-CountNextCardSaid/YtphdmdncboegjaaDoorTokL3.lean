/- A token by itself is cut into just that token. No walk. -/
import Derived.Test.YtphdmdncboegjaaDoorTokL2
namespace Go.Proofs.YtphdmdncboegjaaDoor.tok
open Go.RowKit Go.Proofs.YtphdmdncboegjaaDoor.base
set_option linter.unusedVariables false

/-- of a prefix that is not empty: what its first sign tells -/
theorem space_zero {l : Bs} (h : spaceP l = 0) (m : Nat) : spaceP (l.take m) = 0 := by rw [space_take, h]; simp
theorem hasP_take {l p : Bs} (h : Lib.hasPrefix l p = false) (m : Nat) : Lib.hasPrefix (l.take m) p = false := by
  cases h2 : Lib.hasPrefix (l.take m) p
  · rfl
  · unfold Lib.hasPrefix at h h2
    rw [prefix_take h2] at h
    cases h
theorem quote_take {l : Bs} {m : Nat} (hm : 0 < m) : quoteP (l.take m) = quoteP l := by
  obtain ⟨k, rfl⟩ : ∃ k, m = k + 1 := ⟨m - 1, by omega⟩
  cases l <;> rfl
theorem one_take {l : Bs} {m : Nat} (hm : 0 < m) : oneK (l.take m) = oneK l := by
  obtain ⟨k, rfl⟩ : ∃ k, m = k + 1 := ⟨m - 1, by omega⟩
  cases l <;> rfl
theorem hash_head {l : Bs} {c : UInt8} (h : l.head? = some c) (hc : ¬ nv c = 35) : hashP l = false := by
  match l, h with
  | [a], _ => rfl
  | a :: b :: r, h =>
    obtain rfl : a = c := by simpa using h
    simp [hashP, hc]
theorem at_head {l : Bs} {c : UInt8} (h : l.head? = some c) (hc : ¬ nv c = 64) : atP l = false := by
  match l, h with
  | a :: r, h =>
    obtain rfl : a = c := by simpa using h
    simp [atP, hc]
theorem quote_head {l : Bs} {c : UInt8} (h : l.head? = some c) (hq : quoteP l = true) : nv c = 39 ∨ nv c = 34 := by
  match l, h with
  | a :: r, h =>
    obtain rfl : a = c := by simpa using h
    simpa [quoteP] using hq
theorem head_take {l : Bs} {m : Nat} (hm : 0 < m) : (l.take m).head? = l.head? := by
  obtain ⟨k, rfl⟩ : ∃ k, m = k + 1 := ⟨m - 1, by omega⟩
  cases l <;> rfl
theorem head_some {l : Bs} (h : l ≠ []) : ∃ c, l.head? = some c := by
  cases l with
  | nil => exact absurd rfl h
  | cons c r => exact ⟨c, rfl⟩
theorem take_all {l : Bs} {m : Nat} : (l.take m).take m = l.take m := by rw [List.take_take, Nat.min_self]

theorem first_self (l : Bs) (h0 : l ≠ []) : firstP (firstP l).raw = firstP l := by
  have hl : 0 < l.length := List.length_pos_iff.2 h0
  obtain ⟨c, hc⟩ := head_some h0
  generalize hF : firstP l = F
  rw [firstP] at hF
  by_cases hsp : 0 < spaceP l
  · rw [if_pos hsp] at hF
    subst hF
    simp only
    have hs2 : spaceP (l.take (spaceP l)) = spaceP l := by rw [space_take]; omega
    rw [firstP, if_pos (by rw [hs2]; exact hsp), hs2, take_all]
  rw [if_neg hsp] at hF
  have hsz : spaceP l = 0 := by omega
  by_cases hn : Lib.hasPrefix l [47, 42] = true
  · rw [if_pos hn] at hF
    subst hF
    by_cases hi : 0 ≤ Lib.index (l.drop 2) [42, 47]
    · obtain ⟨i, hi2⟩ := Int.eq_ofNat_of_zero_le hi
      have hr := Lib.index_room (l.drop 2) [42, 47] hi
      rw [hi2, List.length_drop] at hr
      simp only [List.length_cons, List.length_nil] at hr
      have e : noteP l = ⟨9, l.take (i + 4), [], 0⟩ := by
        unfold noteP
        rw [if_pos hi, hi2]
        rfl
      rw [e]
      simp only
      have hn2 : Lib.hasPrefix (l.take (i + 4)) [47, 42] = true := by
        match l, hn, hr with
        | a :: b :: r, hn, _ =>
          simp only [Lib.hasPrefix, List.take_succ_cons, List.isPrefixOf] at hn ⊢
          exact hn
        | [a], hn, hr => simp at hr; omega
        | [], hn, hr => simp at hr; omega
      have hix : Lib.index ((l.take (i + 4)).drop 2) [42, 47] = (i : Int) := by
        rw [List.drop_take]
        exact index_take hi2
      rw [firstP, if_neg (by rw [space_zero hsz]; omega), if_pos hn2]
      unfold noteP
      rw [hix, if_pos (by omega)]
      simp only [Int.toNat_natCast]
      rw [take_all]
    · have e : noteP l = ⟨9, l, [], 0⟩ := by
        unfold noteP
        rw [if_neg hi]
      rw [e]
      simp only
      rw [firstP, if_neg hsp, if_pos hn, e]
  have hn' : Lib.hasPrefix l [47, 42] = false := by simpa using hn
  rw [if_neg hn] at hF
  by_cases hq : quoteP l = true
  · rw [if_pos hq] at hF
    subst hF
    match l, h0, hq, hsz, hn' with
    | q :: r, _, hq, hsz, hn' =>
      simp only [textP]
      have ht := textR_take q _ r (Nat.le_refl _)
      generalize hT : textR q r = T at *
      obtain ⟨k, n, v⟩ := T
      simp only at ht ⊢
      have hq2 : quoteP ((q :: r).take (1 + n)) = true := by rw [quote_take (by omega)]; exact hq
      rw [firstP, if_neg (by rw [space_zero hsz]; omega), if_neg (by rw [hasP_take hn']; simp), if_pos hq2]
      rw [Nat.add_comm 1 n, List.take_succ_cons]
      simp only [textP, ht]
      congr 1
      rw [Nat.add_comm 1 n, List.take_succ_cons, List.take_take, Nat.min_self]
  rw [if_neg hq] at hF
  have hq' : quoteP l = false := by simpa using hq
  by_cases hh : hashP l = true
  · rw [if_pos hh] at hF
    subst hF
    match l, h0, hh, hsz, hn', hq', hc with
    | [a], _, hh, _, _, _, _ => simp [hashP] at hh
    | a :: b :: r, _, hh, hsz, hn', hq', hc =>
      simp only [hashP, Bool.and_eq_true, decide_eq_true_eq, Bool.or_eq_true] at hh
      obtain ⟨ha, hb⟩ := hh
      have hpos : 0 < (nameP (b :: r)).2 := by
        cases r with
        | nil =>
          rw [name_cons1]
          rcases hb with hb | hb
          · simp [hb]
          · simp [escP] at hb
        | cons e r =>
          rw [name_cons2]
          split
          · simp
          · rename_i hne
            rcases hb with hb | hb
            · simp [hb]
            · exact absurd hb hne
      have hnt := name_take' (b :: r) (nameP (b :: r)).2 (Nat.le_refl _)
      have hsz2 := space_zero hsz (1 + (nameP (b :: r)).2)
      have hn2 := hasP_take hn' (1 + (nameP (b :: r)).2)
      have hq2 : quoteP ((a :: b :: r).take (1 + (nameP (b :: r)).2)) = false := by rw [quote_take (by omega)]; exact hq'
      simp only [namedP, List.drop_succ_cons, List.drop_zero]
      generalize hN : nameP (b :: r) = N at *
      obtain ⟨v, n⟩ := N
      simp only at hpos hnt hsz2 hn2 hq2 ⊢
      obtain ⟨j, rfl⟩ : ∃ j, n = j + 1 := ⟨n - 1, by omega⟩
      have hh2 : hashP ((a :: b :: r).take (1 + (j + 1))) = true := by
        rw [Nat.add_comm 1 (j + 1)]
        simp only [List.take_succ_cons, hashP, Bool.and_eq_true, decide_eq_true_eq, Bool.or_eq_true]
        refine ⟨ha, ?_⟩
        rcases hb with hb | hb
        · exact Or.inl hb
        · right
          cases r with
          | nil => simp [escP] at hb
          | cons e r =>
            have h2 : 2 ≤ j + 1 := by
              rw [name_cons2, if_pos hb] at hN
              have := congrArg Prod.snd hN
              simp at this
              omega
            obtain ⟨i, rfl⟩ : ∃ i, j = i + 1 := ⟨j - 1, by omega⟩
            simpa [escP] using hb
      rw [firstP, if_neg (by rw [hsz2]; omega), if_neg (by rw [hn2]; simp), if_neg (by rw [hq2]; simp), if_pos hh2]
      have e1 : ((a :: b :: r).take (1 + (j + 1))).drop 1 = (b :: r).take (j + 1) := by rw [Nat.add_comm 1 (j + 1), List.take_succ_cons]; rfl
      simp only [namedP, e1, hnt]
      rw [take_all]
  rw [if_neg hh] at hF
  have hh' : hashP l = false := by simpa using hh
  by_cases ha : atP l = true
  · rw [if_pos ha] at hF
    subst hF
    match l, h0, ha, hsz, hn', hq', hh' with
    | a :: r, _, ha, hsz, hn', hq', hh' =>
      simp only [atP, Bool.and_eq_true, decide_eq_true_eq] at ha
      obtain ⟨ha, hb⟩ := ha
      have hpos := name_pos hb
      have hnt := name_take' r (nameP r).2 (Nat.le_refl _)
      have hbt := begins_take hb (Nat.le_refl _)
      have hsz2 := space_zero hsz (1 + (nameP r).2)
      have hn2 := hasP_take hn' (1 + (nameP r).2)
      have hq2 : quoteP ((a :: r).take (1 + (nameP r).2)) = false := by rw [quote_take (by omega)]; exact hq'
      simp only [namedP, List.drop_succ_cons, List.drop_zero]
      generalize hN : nameP r = N at *
      obtain ⟨v, n⟩ := N
      simp only at hpos hnt hbt hsz2 hn2 hq2 ⊢
      have hhd : ((a :: r).take (1 + n)).head? = some a := by rw [head_take (by omega)]; rfl
      have hh2 := hash_head hhd (by omega : ¬ nv a = 35)
      have e1 : ((a :: r).take (1 + n)) = a :: r.take n := by rw [Nat.add_comm 1 n, List.take_succ_cons]
      have ha2 : atP ((a :: r).take (1 + n)) = true := by
        rw [e1]
        simp only [atP, Bool.and_eq_true, decide_eq_true_eq]
        exact ⟨ha, hbt⟩
      rw [firstP, if_neg (by rw [hsz2]; omega), if_neg (by rw [hn2]; simp), if_neg (by rw [hq2]; simp), if_neg (by rw [hh2]; simp), if_pos ha2]
      have e2 : ((a :: r).take (1 + n)).drop 1 = r.take n := by rw [e1]; rfl
      simp only [namedP, e2, hnt]
      rw [take_all]
  rw [if_neg ha] at hF
  by_cases hnum : 0 < (numberP l).2
  · rw [if_pos hnum] at hF
    subst hF
    obtain ⟨x1, x2, x3, x4⟩ := number_no' hc hnum
    -- whatever prefix holds the number
    have key : ∀ m, (numberP l).2 ≤ m → firstP (l.take m) = numTkP (l.take m) (numberP l).1 (numberP l).2 := by
      intro m hm
      have hm0 : 0 < m := by omega
      have hhd : (l.take m).head? = some c := by rw [head_take hm0]; exact hc
      have hq2 : quoteP (l.take m) = false := by rw [quote_take hm0]; exact hq'
      have hnt := number_take hnum hm
      rw [firstP, if_neg (by rw [space_zero hsz]; omega), if_neg (by rw [hasP_take hn']; simp), if_neg (by rw [hq2]; simp), if_neg (by rw [hash_head hhd x1]; simp), if_neg (by rw [at_head hhd x2]; simp), hnt, if_pos hnum]
    generalize numberP l = N at *
    obtain ⟨nm, n⟩ := N
    simp only at hnum key ⊢
    have hd : ∀ m, n ≤ m → (l.take m).drop n = (l.drop n).take (m - n) := fun m _ => by rw [List.drop_take]
    unfold numTkP
    by_cases hp : Lib.hasPrefix (l.drop n) [37] = true
    · rw [if_pos hp]
      simp only
      rw [key (n + 1) (by omega)]
      unfold numTkP
      have hp2 : Lib.hasPrefix ((l.take (n + 1)).drop n) [37] = true := by
        rw [hd _ (by omega), Nat.add_sub_cancel_left]
        generalize l.drop n = x at *
        match x, hp with
        | a :: r, hp => simpa [Lib.hasPrefix, List.isPrefixOf] using hp
        | [], hp => simp [Lib.hasPrefix, List.isPrefixOf] at hp
      rw [if_pos hp2, take_all]
    · rw [if_neg hp]
      have hp' : Lib.hasPrefix (l.drop n) [37] = false := by simpa using hp
      by_cases hb : beginsP (l.drop n) = true
      · rw [if_pos hb]
        simp only
        rw [key (n + (nameP (l.drop n)).2) (by omega)]
        unfold numTkP
        have e1 : (l.take (n + (nameP (l.drop n)).2)).drop n = (l.drop n).take (nameP (l.drop n)).2 := by rw [hd _ (by omega), Nat.add_sub_cancel_left]
        rw [e1, if_neg (by rw [hasP_take hp']; simp), if_pos (begins_take hb (Nat.le_refl _)), name_take' _ _ (Nat.le_refl _), take_all]
      · rw [if_neg hb]
        simp only
        rw [key n (Nat.le_refl _)]
        unfold numTkP
        have e1 : (l.take n).drop n = [] := by rw [List.drop_take]; simp
        rw [e1, if_neg (by decide), if_neg (by decide), take_all]
  rw [if_neg hnum] at hF
  have hnum' : (numberP l).2 = 0 := by omega
  by_cases hb : beginsP l = true
  · rw [if_pos hb] at hF
    subst hF
    obtain ⟨x1, x2, x3, x4⟩ := begins_no' hc hb
    have hpos := name_pos hb
    have key : ∀ m, (nameP l).2 ≤ m → firstP (l.take m) = wordP (l.take m) := by
      intro m hm
      have hm0 : 0 < m := by omega
      have hhd : (l.take m).head? = some c := by rw [head_take hm0]; exact hc
      have hq2 : quoteP (l.take m) = false := by rw [quote_take hm0]; exact hq'
      rw [firstP, if_neg (by rw [space_zero hsz]; omega), if_neg (by rw [hasP_take hn']; simp), if_neg (by rw [hq2]; simp), if_neg (by rw [hash_head hhd x1]; simp), if_neg (by rw [at_head hhd x2]; simp), if_neg (by rw [number_take0 hnum' m]; omega), if_pos (begins_take hb hm)]
    have hle := nameP_le _ l (Nat.le_refl _)
    have hnl : (namedP 1 l 0).raw.length = (nameP l).2 := by
      simp only [namedP, List.drop_zero, Nat.zero_add, List.length_take]
      omega
    have hnm : ∀ m, (nameP l).2 ≤ m → namedP 1 (l.take m) 0 = namedP 1 l 0 := by
      intro m hm
      simp only [namedP, List.drop_zero, Nat.zero_add]
      rw [name_take' l m hm, List.take_take, Nat.min_eq_left hm]
    unfold wordP
    rw [hnl]
    by_cases hp : Lib.hasPrefix (l.drop (nameP l).2) [40] = true
    · rw [if_pos hp]
      simp only
      rw [key _ (by omega)]
      unfold wordP
      rw [hnm _ (by omega), hnl]
      have hp2 : Lib.hasPrefix ((l.take ((nameP l).2 + 1)).drop (nameP l).2) [40] = true := by
        rw [List.drop_take, Nat.add_sub_cancel_left]
        generalize l.drop (nameP l).2 = x at *
        match x, hp with
        | a :: r, hp => simpa [Lib.hasPrefix, List.isPrefixOf] using hp
        | [], hp => simp [Lib.hasPrefix, List.isPrefixOf] at hp
      rw [if_pos hp2, take_all]
    · rw [if_neg hp]
      have hraw : (namedP 1 l 0).raw = l.take (nameP l).2 := by simp [namedP]
      rw [hraw, key _ (Nat.le_refl _)]
      unfold wordP
      rw [hnm _ (Nat.le_refl _), hnl]
      have e1 : (l.take (nameP l).2).drop (nameP l).2 = [] := by rw [List.drop_take]; simp
      rw [e1, if_neg (by decide)]
  · rw [if_neg hb] at hF
    subst hF
    simp only
    have hhd : (l.take 1).head? = some c := by rw [head_take (by omega)]; exact hc
    have e1 : l.take 1 = [c] := by
      match l, hc with
      | a :: r, hc =>
        obtain rfl : a = c := by simpa using hc
        rfl
    have hq2 : quoteP (l.take 1) = false := by rw [quote_take (by omega)]; exact hq'
    have hh2 : hashP (l.take 1) = false := by rw [e1]; rfl
    have ha2 : atP (l.take 1) = false := by rw [e1]; simp [atP, beginsP]
    have hb2 : ¬ beginsP (l.take 1) = true := by
      intro h
      apply hb
      match l, hc with
      | [a], _ => exact h
      | a :: d :: r, hc =>
        simp only [List.take_succ_cons, List.take_zero, beginsP] at h
        simp only [beginsP]
        have h45 : ¬ nv a = 45 := fun e => by
          rw [e] at h
          simp [startsI] at h
        rw [if_neg h45, h]
        rfl
    rw [firstP, if_neg (by rw [space_zero hsz]; omega), if_neg (by rw [hasP_take hn']; simp), if_neg (by rw [hq2]; simp), if_neg (by rw [hh2]; simp), if_neg (by rw [ha2]; simp), if_neg (by rw [number_take0 hnum' 1]; omega), if_neg hb2, one_take (by omega), take_all]

theorem cut_self (l : Bs) (h0 : l ≠ []) : cutP (firstP l).raw = [firstP l] := by
  have hp := (first_pre l h0).2
  have hne : (firstP l).raw ≠ [] := fun e => by rw [e] at hp; simp at hp
  rw [cutP_cons hne, first_self l h0, List.drop_length, cutP_nil]
theorem cut_alone : ∀ (n : Nat) (l : Bs), l.length ≤ n → ∀ t ∈ cutP l, cutP t.raw = [t]
  | 0, l, h, t, ht => by
    obtain rfl := List.eq_nil_of_length_eq_zero (Nat.le_zero.1 h)
    rw [cutP_nil] at ht
    cases ht
  | n + 1, l, h, t, ht => by
    by_cases h0 : l = []
    · subst h0
      rw [cutP_nil] at ht
      cases ht
    · rw [cutP_cons h0] at ht
      rcases List.mem_cons.1 ht with rfl | ht
      · exact cut_self l h0
      · have hp := (first_pre l h0).2
        exact cut_alone n _ (by rw [List.length_drop]; omega) t ht

end Go.Proofs.YtphdmdncboegjaaDoor.tok
