/- A blank parts: two texts with one between are cut as each by itself, and the blank. No walk. -/
import Derived.Test.YtphdmdncboegjaaDoorTokL4
namespace Go.Proofs.YtphdmdncboegjaaDoor.tok
open Go.RowKit Go.Proofs.YtphdmdncboegjaaDoor.base
set_option linter.unusedVariables false

/-- its last token is whole, and no blank -/
def Ends (l : Bs) : Prop := ∀ t, (cutP l).getLast? = some t → ¬ t.k = 6 ∧ ¬ t.k = 9 ∧ ¬ t.k = 8

theorem cut_ne {r : Bs} (h : r ≠ []) : cutP r ≠ [] := by rw [cutP_cons h]; simp
theorem ends_rest {l : Bs} (h0 : l ≠ []) (hE : Ends l) : (l.drop (firstP l).raw.length = [] → ¬ (firstP l).k = 6 ∧ ¬ (firstP l).k = 9 ∧ ¬ (firstP l).k = 8) ∧ (l.drop (firstP l).raw.length ≠ [] → Ends (l.drop (firstP l).raw.length)) := by
  refine ⟨fun h => hE _ ?_, fun h t ht => hE t ?_⟩
  · rw [cutP_cons h0, h, cutP_nil]
    rfl
  · rw [cutP_cons h0]
    obtain ⟨a, al, hx⟩ := List.exists_cons_of_ne_nil (cut_ne h)
    rw [hx] at ht ⊢
    rw [List.getLast?_cons_cons]
    exact ht
theorem first_92 : firstP [92] = ⟨6, [92], [], 0⟩ := by
  rw [firstP, if_neg (by decide), if_neg (by decide), if_neg (by decide), if_neg (by decide), if_neg (by decide), if_neg (by decide), if_neg (by decide)]
  rfl
theorem cut_92 : cutP [92] = [⟨6, [92], [], 0⟩] := by
  rw [cutP_cons (by decide), first_92]
  simp [cutP_nil]
theorem first_4592 : firstP [45, 92] = ⟨12, [45], [], 0⟩ := by
  rw [firstP, if_neg (by decide), if_neg (by decide), if_neg (by decide), if_neg (by decide), if_neg (by decide), if_neg (by decide), if_neg (by decide)]
  rfl
theorem cut_4592 : cutP [45, 92] = [⟨12, [45], [], 0⟩, ⟨6, [92], [], 0⟩] := by
  rw [cutP_cons (by decide), first_4592]
  simp [cut_92]
theorem first_3592 : firstP [35, 92] = ⟨12, [35], [], 0⟩ := by
  rw [firstP, if_neg (by decide), if_neg (by decide), if_neg (by decide), if_neg (by decide), if_neg (by decide), if_neg (by decide), if_neg (by decide)]
  rfl
theorem first_6492 : firstP [64, 92] = ⟨12, [64], [], 0⟩ := by
  rw [firstP, if_neg (by decide), if_neg (by decide), if_neg (by decide), if_neg (by decide), if_neg (by decide), if_neg (by decide), if_neg (by decide)]
  rfl
theorem first_644592 : firstP [64, 45, 92] = ⟨12, [64], [], 0⟩ := by
  rw [firstP, if_neg (by decide), if_neg (by decide), if_neg (by decide), if_neg (by decide), if_neg (by decide), if_neg (by decide), if_neg (by decide)]
  rfl
theorem no_92 {l : Bs} (h : Ends l) : l ≠ [92] := fun e => by
  subst e
  have := h ⟨6, [92], [], 0⟩ (by rw [cut_92]; rfl)
  exact this.1 rfl
theorem no_4592 {l : Bs} (h : Ends l) : l ≠ [45, 92] := fun e => by
  subst e
  have := h ⟨6, [92], [], 0⟩ (by rw [cut_4592]; rfl)
  exact this.1 rfl
theorem no_3592 {l : Bs} (h : Ends l) : l ≠ [35, 92] := fun e => by
  subst e
  have := h ⟨6, [92], [], 0⟩ (by rw [cutP_cons (by decide), first_3592]; simp [cut_92])
  exact this.1 rfl
theorem no_6492 {l : Bs} (h : Ends l) : l ≠ [64, 92] := fun e => by
  subst e
  have := h ⟨6, [92], [], 0⟩ (by rw [cutP_cons (by decide), first_6492]; simp [cut_92])
  exact this.1 rfl
theorem no_644592 {l : Bs} (h : Ends l) : l ≠ [64, 45, 92] := fun e => by
  subst e
  have := h ⟨6, [92], [], 0⟩ (by rw [cutP_cons (by decide), first_644592]; simp [cut_4592])
  exact this.1 rfl

theorem while_len (p : UInt8 → Bool) (x : Bs) : ∀ l : Bs, (l.takeWhile p).length < l.length → ((l ++ x).takeWhile p).length = (l.takeWhile p).length
  | [], h => by simp at h
  | c :: l, h => by
    simp only [List.cons_append, List.takeWhile_cons] at h ⊢
    cases hp : p c
    · rfl
    · rw [hp] at h
      simp only [if_true, List.length_cons] at h ⊢
      rw [while_len p x l (by omega)]
theorem space_ext {l : Bs} (x : Bs) (h : spaceP l < l.length) : spaceP (l ++ x) = spaceP l := while_len _ x l h
theorem hp2_ext (m : Bs) {l : Bs} (h0 : l ≠ []) : Lib.hasPrefix (l ++ 32 :: m) [47, 42] = Lib.hasPrefix l [47, 42] := by
  match l, h0 with
  | [a], _ =>
    simp only [Lib.hasPrefix, List.cons_append, List.nil_append, List.isPrefixOf]
    cases (47 == a) <;> rfl
  | a :: b :: r, _ => rfl
theorem hp1_ext (m y : Bs) (c : UInt8) (hc : (c == 32) = false) : Lib.hasPrefix (y ++ 32 :: m) [c] = Lib.hasPrefix y [c] := by
  cases y with
  | nil => simp [Lib.hasPrefix, List.isPrefixOf, hc]
  | cons a r => rfl
theorem quote_ext (x : Bs) {l : Bs} (h0 : l ≠ []) : quoteP (l ++ x) = quoteP l := by
  cases l with
  | nil => exact absurd rfl h0
  | cons a r => rfl
theorem one_ext (x : Bs) {l : Bs} (h0 : l ≠ []) : oneK (l ++ x) = oneK l := by
  cases l with
  | nil => exact absurd rfl h0
  | cons a r => rfl
theorem hash_ext (m : Bs) {l : Bs} (h0 : l ≠ []) (h : l ≠ [35, 92]) : hashP (l ++ 32 :: m) = hashP l := by
  match l, h0, h with
  | [a], _, _ =>
    simp only [List.cons_append, List.nil_append, hashP, esc_32]
    simp [signI, startsI, digI, nv]
  | [a, b], _, h =>
    simp only [List.cons_append, List.nil_append, hashP]
    by_cases h35 : nv a = 35
    · have h92 : ¬ nv b = 92 := fun e => h (by rw [nv92 e, nv_eq (n := 35) (by decide) h35]; rfl)
      rw [esc_blank b m h92]
      rfl
    · simp [h35]
  | a :: b :: c :: r, _, _ => rfl
theorem at_ext (m : Bs) {l : Bs} (h0 : l ≠ []) (h1 : l ≠ [64, 92]) (h2 : l ≠ [64, 45, 92]) : atP (l ++ 32 :: m) = atP l := by
  match l, h0, h1, h2 with
  | a :: r, _, h1, h2 =>
    simp only [List.cons_append, atP]
    by_cases h64 : nv a = 64
    · have ha := nv_eq (n := 64) (by decide) h64
      rw [begins_ext m (fun e => h1 (by rw [e, ha]; rfl)) (fun e => h2 (by rw [e, ha]; rfl))]
    · simp [h64]
theorem take_ext (x : Bs) {l : Bs} {k : Nat} (h : k ≤ l.length) : (l ++ x).take k = l.take k := List.take_append_of_le_length h
theorem drop_ext (x : Bs) {l : Bs} {k : Nat} (h : k ≤ l.length) : (l ++ x).drop k = l.drop k ++ x := List.drop_append_of_le_length h

theorem first_ext (m : Bs) {l : Bs} (h0 : l ≠ []) (hE : Ends l) : firstP (l ++ 32 :: m) = firstP l := by
  have hl : 0 < l.length := List.length_pos_iff.2 h0
  obtain ⟨hR1, hR2⟩ := ends_rest h0 hE
  have hne : l ++ 32 :: m ≠ [] := by simp
  generalize hF : firstP l = F at *
  rw [firstP] at hF
  by_cases hsp : 0 < spaceP l
  · rw [if_pos hsp] at hF
    subst hF
    have hle := space_le l
    have hlen : (l.take (spaceP l)).length = spaceP l := by rw [List.length_take]; omega
    simp only [hlen] at hR1
    have hlt : spaceP l < l.length := by
      rcases Nat.lt_or_ge (spaceP l) l.length with h | h
      · exact h
      · exact ((hR1 (List.drop_eq_nil_of_le h)).2.2 (by trivial)).elim
    rw [firstP, space_ext _ hlt, if_pos hsp, take_ext _ hle]
  rw [if_neg hsp] at hF
  have hsz : spaceP l = 0 := by omega
  have e0 : spaceP (l ++ 32 :: m) = 0 := by rw [space_ext _ (by omega), hsz]
  rw [firstP, e0, if_neg (by omega), hp2_ext m h0]
  by_cases hn : Lib.hasPrefix l [47, 42] = true
  · rw [if_pos hn] at hF
    rw [if_pos hn]
    subst hF
    have h2 : 2 ≤ l.length := by
      match l, hn with
      | [], hn => simp [Lib.hasPrefix, List.isPrefixOf] at hn
      | [a], hn => simp [Lib.hasPrefix, List.isPrefixOf] at hn
      | a :: b :: r, _ => simp
    by_cases hi : 0 ≤ Lib.index (l.drop 2) [42, 47]
    · have hr := Lib.index_room (l.drop 2) [42, 47] hi
      rw [List.length_drop] at hr
      simp only [List.length_cons, List.length_nil] at hr
      unfold noteP
      rw [drop_ext _ h2, index_ext _ _ hi, if_pos hi, if_pos hi, take_ext _ (by omega)]
    · exfalso
      have e : noteP l = ⟨9, l, [], 0⟩ := by unfold noteP; rw [if_neg hi]
      rw [e] at hR1
      exact (hR1 (by simp)).2.1 rfl
  rw [if_neg hn] at hF
  rw [if_neg hn, quote_ext _ h0]
  by_cases hq : quoteP l = true
  · rw [if_pos hq] at hF
    rw [if_pos hq]
    subst hF
    match l, h0, hR1 with
    | q :: r, _, hR1 =>
      simp only [textP, List.cons_append] at hR1 ⊢
      have hle := textR_le q _ r (Nat.le_refl _)
      have hk := textR_kind q _ r (Nat.le_refl _)
      have hc : (textR q r).2.1 < r.length ∨ (textR q r).1 = 5 := by
        rcases hk with hk | hk
        · exact Or.inr hk
        · rcases Nat.lt_or_ge (textR q r).2.1 r.length with h | h
          · exact Or.inl h
          · exfalso
            refine (hR1 (List.drop_eq_nil_of_le ?_)).1 hk
            rw [List.length_take]
            simp
            omega
      rw [textR_ext q m _ r (Nat.le_refl _) hc]
      congr 1
      rw [Nat.add_comm 1, List.take_succ_cons, List.take_succ_cons, take_ext _ hle]
  rw [if_neg hq] at hF
  rw [if_neg hq, hash_ext m h0 (no_3592 hE)]
  -- a name behind so many signs
  have named : ∀ (k : Int) (a : Nat), a ≤ l.length → F = namedP k l a → namedP k (l ++ 32 :: m) a = namedP k l a := by
    intro k a ha e
    have hle := nameP_le _ (l.drop a) (Nat.le_refl _)
    rw [List.length_drop] at hle
    have hrest : (l.drop a).drop (nameP (l.drop a)).2 ≠ [92] := by
      rw [List.drop_drop]
      have hlen : F.raw.length = a + (nameP (l.drop a)).2 := by
        rw [e]
        simp only [namedP, List.length_take]
        omega
      rw [hlen] at hR2
      intro e92
      exact no_92 (hR2 (by rw [e92]; simp)) e92
    simp only [namedP]
    rw [drop_ext _ ha, name_ext' m hrest, take_ext _ (by omega)]
  by_cases hh : hashP l = true
  · rw [if_pos hh] at hF
    rw [if_pos hh, named 4 1 (by omega) hF.symm, hF]
  rw [if_neg hh] at hF
  rw [if_neg hh, at_ext m h0 (no_6492 hE) (no_644592 hE)]
  by_cases ha : atP l = true
  · rw [if_pos ha] at hF
    rw [if_pos ha, named 3 1 (by omega) hF.symm, hF]
  rw [if_neg ha] at hF
  rw [if_neg ha, number_ext m h0]
  by_cases hnum : 0 < (numberP l).2
  · rw [if_pos hnum] at hF
    rw [if_pos hnum]
    have hnl := numberP_le l
    generalize numberP l = N at *
    obtain ⟨nm, n⟩ := N
    simp only at hnum hF hnl ⊢
    unfold numTkP at hF ⊢
    rw [drop_ext _ hnl, hp1_ext m _ 37 rfl]
    by_cases hp : Lib.hasPrefix (l.drop n) [37] = true
    · rw [if_pos hp] at hF ⊢
      have := hp_roomc hp
      rw [take_ext _ (by omega), hF]
    · rw [if_neg hp] at hF ⊢
      have hsafe : l.drop n ≠ [92] ∧ l.drop n ≠ [45, 92] := by
        constructor
        · intro e
          rw [e, if_neg (by decide)] at hF
          subst hF
          simp only [List.length_take, Nat.min_eq_left hnl] at hR2
          exact no_92 (hR2 (by rw [e]; simp)) e
        · intro e
          rw [e, if_neg (by decide)] at hF
          subst hF
          simp only [List.length_take, Nat.min_eq_left hnl] at hR2
          exact no_4592 (hR2 (by rw [e]; simp)) e
      rw [begins_ext m hsafe.1 hsafe.2]
      by_cases hb : beginsP (l.drop n) = true
      · rw [if_pos hb] at hF ⊢
        have hle := nameP_le _ (l.drop n) (Nat.le_refl _)
        rw [List.length_drop] at hle
        have hrest : (l.drop n).drop (nameP (l.drop n)).2 ≠ [92] := by
          rw [List.drop_drop]
          have hlen : F.raw.length = n + (nameP (l.drop n)).2 := by
            rw [← hF]
            simp only [List.length_take]
            omega
          rw [hlen] at hR2
          intro e92
          exact no_92 (hR2 (by rw [e92]; simp)) e92
        rw [name_ext' m hrest, take_ext _ (by omega), hF]
      · rw [if_neg hb] at hF ⊢
        rw [take_ext _ hnl, hF]
  rw [if_neg hnum] at hF
  rw [if_neg hnum, begins_ext m (no_92 hE) (no_4592 hE)]
  by_cases hb : beginsP l = true
  · rw [if_pos hb] at hF
    rw [if_pos hb]
    have hle := nameP_le _ l (Nat.le_refl _)
    have hnl : (namedP 1 l 0).raw.length = (nameP l).2 := by
      simp only [namedP, List.drop_zero, Nat.zero_add, List.length_take]
      omega
    have hrest : l.drop (nameP l).2 ≠ [92] := by
      intro e92
      unfold wordP at hF
      rw [hnl, e92, if_neg (by decide)] at hF
      rw [← hF, hnl] at hR2
      exact no_92 (hR2 (by rw [e92]; simp)) e92
    have e1 : namedP 1 (l ++ 32 :: m) 0 = namedP 1 l 0 := by
      simp only [namedP, List.drop_zero, Nat.zero_add]
      rw [name_ext' m hrest, take_ext _ hle]
    unfold wordP at hF ⊢
    rw [e1, hnl, drop_ext _ hle, hp1_ext m _ 40 rfl]
    rw [hnl] at hF
    by_cases hp : Lib.hasPrefix (l.drop (nameP l).2) [40] = true
    · rw [if_pos hp] at hF ⊢
      have := hp_roomc hp
      rw [take_ext _ (by omega), hF]
    · rw [if_neg hp] at hF ⊢
      exact hF
  · rw [if_neg hb] at hF
    rw [if_neg hb, one_ext _ h0, take_ext _ (by omega), hF]

theorem cut_apart (m : Bs) : ∀ (n : Nat) (l : Bs), l.length ≤ n → l ≠ [] → Ends l → cutP (l ++ 32 :: m) = cutP l ++ cutP (32 :: m)
  | 0, l, h, h0, _ => absurd (List.eq_nil_of_length_eq_zero (Nat.le_zero.1 h)) h0
  | n + 1, l, h, h0, hE => by
    have hp := (first_pre l h0).2
    have hrw := first_raw l h0
    obtain ⟨hR1, hR2⟩ := ends_rest h0 hE
    have hrl : (firstP l).raw.length ≤ l.length := by
      rw [hrw, List.length_take]
      omega
    rw [cutP_cons (show l ++ 32 :: m ≠ [] by simp), first_ext m h0 hE, cutP_cons h0, drop_ext _ hrl]
    by_cases hr : l.drop (firstP l).raw.length = []
    · rw [hr, cutP_nil]
      rfl
    · rw [cut_apart m n _ (by rw [List.length_drop]; omega) hr (hR2 hr)]
      rfl

/-- the blank, ahead of what begins with none -/
theorem cut_blank {m : Bs} (h0 : m ≠ []) (hk : ¬ (firstP m).k = 8) : cutP (32 :: m) = ⟨8, [32], [], 0⟩ :: cutP m := by
  have hsp : spaceP m = 0 := by
    rcases Nat.eq_zero_or_pos (spaceP m) with h | h
    · exact h
    · rw [firstP, if_pos h] at hk
      exact absurd rfl hk
  have h1 : spaceP (32 :: m) = 1 := by
    unfold spaceP at hsp ⊢
    rw [List.takeWhile_cons_of_pos (by decide)]
    simp [hsp]
  have hf : firstP (32 :: m) = ⟨8, [32], [], 0⟩ := by
    rw [firstP, h1, if_pos (by omega)]
    rfl
  rw [cutP_cons (by simp), hf]
  rfl

end Go.Proofs.YtphdmdncboegjaaDoor.tok
