/- Contracts and plain law, a bundle: TokL5 TokS0 TokS1 TkB RulS0 VarK VarM VarN VarO WVarTurned. -/
import Derived.Test.YtmjbaimccbkmpaaDoorBE
import Derived.Test.YtmjbaimccbkmpaaDoorBI
import Derived.Test.YtmjbaimccbkmpaaDoorBG

namespace Go.Proofs.YtmjbaimccbkmpaaDoor.tok
open Go.RowKit Go.Proofs.YtmjbaimccbkmpaaDoor.base
set_option linter.unusedVariables false

/-- its last token is whole, and no blank -/
def Ends (l : Bs) : Prop := ∀ t, (cutP l).getLast? = some t → ¬ t.k = 6 ∧ ¬ t.k = 9 ∧ ¬ t.k = 8

theorem cut_ne {r : Bs} (h : r ≠ []) : cutP r ≠ [] := by rw [cutP_cons h]; simp
theorem ends_rest {l : Bs} (h0 : l ≠ []) (hE : Ends l) : (l.drop (firstP l).raw.length = [] → ¬ (firstP l).k = 6 ∧ ¬ (firstP l).k = 9 ∧ ¬ (firstP l).k = 8) ∧ (l.drop (firstP l).raw.length ≠ [] → Ends (l.drop (firstP l).raw.length)) := by
  refine ⟨fun h => hE _ ?_, fun h t ht => hE t ?_⟩
  · rw [cutP_cons h0, h, cutP_nil]
    rfl
  · rw [cutP_cons h0]
    obtain ⟨a, al, hx⟩ := List.exists_cons_of_ne_nil (cut_ne h)
    rw [hx] at ht ⊢
    rw [List.getLast?_cons_cons]
    exact ht
theorem first_92 : firstP [92] = ⟨6, [92], [], 0⟩ := by
  rw [firstP, if_neg (by decide), if_neg (by decide), if_neg (by decide), if_neg (by decide), if_neg (by decide), if_neg (by decide), if_neg (by decide)]
  rfl
theorem cut_92 : cutP [92] = [⟨6, [92], [], 0⟩] := by
  rw [cutP_cons (by decide), first_92]
  simp [cutP_nil]
theorem first_4592 : firstP [45, 92] = ⟨12, [45], [], 0⟩ := by
  rw [firstP, if_neg (by decide), if_neg (by decide), if_neg (by decide), if_neg (by decide), if_neg (by decide), if_neg (by decide), if_neg (by decide)]
  rfl
theorem cut_4592 : cutP [45, 92] = [⟨12, [45], [], 0⟩, ⟨6, [92], [], 0⟩] := by
  rw [cutP_cons (by decide), first_4592]
  simp [cut_92]
theorem first_3592 : firstP [35, 92] = ⟨12, [35], [], 0⟩ := by
  rw [firstP, if_neg (by decide), if_neg (by decide), if_neg (by decide), if_neg (by decide), if_neg (by decide), if_neg (by decide), if_neg (by decide)]
  rfl
theorem first_6492 : firstP [64, 92] = ⟨12, [64], [], 0⟩ := by
  rw [firstP, if_neg (by decide), if_neg (by decide), if_neg (by decide), if_neg (by decide), if_neg (by decide), if_neg (by decide), if_neg (by decide)]
  rfl
theorem first_644592 : firstP [64, 45, 92] = ⟨12, [64], [], 0⟩ := by
  rw [firstP, if_neg (by decide), if_neg (by decide), if_neg (by decide), if_neg (by decide), if_neg (by decide), if_neg (by decide), if_neg (by decide)]
  rfl
theorem no_92 {l : Bs} (h : Ends l) : l ≠ [92] := fun e => by
  subst e
  have := h ⟨6, [92], [], 0⟩ (by rw [cut_92]; rfl)
  exact this.1 rfl
theorem no_4592 {l : Bs} (h : Ends l) : l ≠ [45, 92] := fun e => by
  subst e
  have := h ⟨6, [92], [], 0⟩ (by rw [cut_4592]; rfl)
  exact this.1 rfl
theorem no_3592 {l : Bs} (h : Ends l) : l ≠ [35, 92] := fun e => by
  subst e
  have := h ⟨6, [92], [], 0⟩ (by rw [cutP_cons (by decide), first_3592]; simp [cut_92])
  exact this.1 rfl
theorem no_6492 {l : Bs} (h : Ends l) : l ≠ [64, 92] := fun e => by
  subst e
  have := h ⟨6, [92], [], 0⟩ (by rw [cutP_cons (by decide), first_6492]; simp [cut_92])
  exact this.1 rfl
theorem no_644592 {l : Bs} (h : Ends l) : l ≠ [64, 45, 92] := fun e => by
  subst e
  have := h ⟨6, [92], [], 0⟩ (by rw [cutP_cons (by decide), first_644592]; simp [cut_4592])
  exact this.1 rfl

theorem while_len (p : UInt8 → Bool) (x : Bs) : ∀ l : Bs, (l.takeWhile p).length < l.length → ((l ++ x).takeWhile p).length = (l.takeWhile p).length
  | [], h => by simp at h
  | c :: l, h => by
    simp only [List.cons_append, List.takeWhile_cons] at h ⊢
    cases hp : p c
    · rfl
    · rw [hp] at h
      simp only [if_true, List.length_cons] at h ⊢
      rw [while_len p x l (by omega)]
theorem space_ext {l : Bs} (x : Bs) (h : spaceP l < l.length) : spaceP (l ++ x) = spaceP l := while_len _ x l h
theorem hp2_ext (m : Bs) {l : Bs} (h0 : l ≠ []) : Lib.hasPrefix (l ++ 32 :: m) [47, 42] = Lib.hasPrefix l [47, 42] := by
  match l, h0 with
  | [a], _ =>
    simp only [Lib.hasPrefix, List.cons_append, List.nil_append, List.isPrefixOf]
    cases (47 == a) <;> rfl
  | a :: b :: r, _ => rfl
theorem hp1_ext (m y : Bs) (c : UInt8) (hc : (c == 32) = false) : Lib.hasPrefix (y ++ 32 :: m) [c] = Lib.hasPrefix y [c] := by
  cases y with
  | nil => simp [Lib.hasPrefix, List.isPrefixOf, hc]
  | cons a r => rfl
theorem quote_ext (x : Bs) {l : Bs} (h0 : l ≠ []) : quoteP (l ++ x) = quoteP l := by
  cases l with
  | nil => exact absurd rfl h0
  | cons a r => rfl
theorem one_ext (x : Bs) {l : Bs} (h0 : l ≠ []) : oneK (l ++ x) = oneK l := by
  cases l with
  | nil => exact absurd rfl h0
  | cons a r => rfl
theorem hash_ext (m : Bs) {l : Bs} (h0 : l ≠ []) (h : l ≠ [35, 92]) : hashP (l ++ 32 :: m) = hashP l := by
  match l, h0, h with
  | [a], _, _ =>
    simp only [List.cons_append, List.nil_append, hashP, esc_32]
    simp [signI, startsI, digI, nv]
  | [a, b], _, h =>
    simp only [List.cons_append, List.nil_append, hashP]
    by_cases h35 : nv a = 35
    · have h92 : ¬ nv b = 92 := fun e => h (by rw [nv92 e, nv_eq (n := 35) (by decide) h35]; rfl)
      rw [esc_blank b m h92]
      rfl
    · simp [h35]
  | a :: b :: c :: r, _, _ => rfl
theorem at_ext (m : Bs) {l : Bs} (h0 : l ≠ []) (h1 : l ≠ [64, 92]) (h2 : l ≠ [64, 45, 92]) : atP (l ++ 32 :: m) = atP l := by
  match l, h0, h1, h2 with
  | a :: r, _, h1, h2 =>
    simp only [List.cons_append, atP]
    by_cases h64 : nv a = 64
    · have ha := nv_eq (n := 64) (by decide) h64
      rw [begins_ext m (fun e => h1 (by rw [e, ha]; rfl)) (fun e => h2 (by rw [e, ha]; rfl))]
    · simp [h64]
theorem take_ext (x : Bs) {l : Bs} {k : Nat} (h : k ≤ l.length) : (l ++ x).take k = l.take k := List.take_append_of_le_length h
theorem drop_ext (x : Bs) {l : Bs} {k : Nat} (h : k ≤ l.length) : (l ++ x).drop k = l.drop k ++ x := List.drop_append_of_le_length h

theorem first_ext (m : Bs) {l : Bs} (h0 : l ≠ []) (hE : Ends l) : firstP (l ++ 32 :: m) = firstP l := by
  have hl : 0 < l.length := List.length_pos_iff.2 h0
  obtain ⟨hR1, hR2⟩ := ends_rest h0 hE
  have hne : l ++ 32 :: m ≠ [] := by simp
  generalize hF : firstP l = F at *
  rw [firstP] at hF
  by_cases hsp : 0 < spaceP l
  · rw [if_pos hsp] at hF
    subst hF
    have hle := space_le l
    have hlen : (l.take (spaceP l)).length = spaceP l := by rw [List.length_take]; omega
    simp only [hlen] at hR1
    have hlt : spaceP l < l.length := by
      rcases Nat.lt_or_ge (spaceP l) l.length with h | h
      · exact h
      · exact ((hR1 (List.drop_eq_nil_of_le h)).2.2 (by trivial)).elim
    rw [firstP, space_ext _ hlt, if_pos hsp, take_ext _ hle]
  rw [if_neg hsp] at hF
  have hsz : spaceP l = 0 := by omega
  have e0 : spaceP (l ++ 32 :: m) = 0 := by rw [space_ext _ (by omega), hsz]
  rw [firstP, e0, if_neg (by omega), hp2_ext m h0]
  by_cases hn : Lib.hasPrefix l [47, 42] = true
  · rw [if_pos hn] at hF
    rw [if_pos hn]
    subst hF
    have h2 : 2 ≤ l.length := by
      match l, hn with
      | [], hn => simp [Lib.hasPrefix, List.isPrefixOf] at hn
      | [a], hn => simp [Lib.hasPrefix, List.isPrefixOf] at hn
      | a :: b :: r, _ => simp
    by_cases hi : 0 ≤ Lib.index (l.drop 2) [42, 47]
    · have hr := Lib.index_room (l.drop 2) [42, 47] hi
      rw [List.length_drop] at hr
      simp only [List.length_cons, List.length_nil] at hr
      unfold noteP
      rw [drop_ext _ h2, index_ext _ _ hi, if_pos hi, if_pos hi, take_ext _ (by omega)]
    · exfalso
      have e : noteP l = ⟨9, l, [], 0⟩ := by unfold noteP; rw [if_neg hi]
      rw [e] at hR1
      exact (hR1 (by simp)).2.1 rfl
  rw [if_neg hn] at hF
  rw [if_neg hn, quote_ext _ h0]
  by_cases hq : quoteP l = true
  · rw [if_pos hq] at hF
    rw [if_pos hq]
    subst hF
    match l, h0, hR1 with
    | q :: r, _, hR1 =>
      simp only [textP, List.cons_append] at hR1 ⊢
      have hle := textR_le q _ r (Nat.le_refl _)
      have hk := textR_kind q _ r (Nat.le_refl _)
      have hc : (textR q r).2.1 < r.length ∨ (textR q r).1 = 5 := by
        rcases hk with hk | hk
        · exact Or.inr hk
        · rcases Nat.lt_or_ge (textR q r).2.1 r.length with h | h
          · exact Or.inl h
          · exfalso
            refine (hR1 (List.drop_eq_nil_of_le ?_)).1 hk
            rw [List.length_take]
            simp
            omega
      rw [textR_ext q m _ r (Nat.le_refl _) hc]
      congr 1
      rw [Nat.add_comm 1, List.take_succ_cons, List.take_succ_cons, take_ext _ hle]
  rw [if_neg hq] at hF
  rw [if_neg hq, hash_ext m h0 (no_3592 hE)]
  -- a name behind so many signs
  have named : ∀ (k : Int) (a : Nat), a ≤ l.length → F = namedP k l a → namedP k (l ++ 32 :: m) a = namedP k l a := by
    intro k a ha e
    have hle := nameP_le _ (l.drop a) (Nat.le_refl _)
    rw [List.length_drop] at hle
    have hrest : (l.drop a).drop (nameP (l.drop a)).2 ≠ [92] := by
      rw [List.drop_drop]
      have hlen : F.raw.length = a + (nameP (l.drop a)).2 := by
        rw [e]
        simp only [namedP, List.length_take]
        omega
      rw [hlen] at hR2
      intro e92
      exact no_92 (hR2 (by rw [e92]; simp)) e92
    simp only [namedP]
    rw [drop_ext _ ha, name_ext' m hrest, take_ext _ (by omega)]
  by_cases hh : hashP l = true
  · rw [if_pos hh] at hF
    rw [if_pos hh, named 4 1 (by omega) hF.symm, hF]
  rw [if_neg hh] at hF
  rw [if_neg hh, at_ext m h0 (no_6492 hE) (no_644592 hE)]
  by_cases ha : atP l = true
  · rw [if_pos ha] at hF
    rw [if_pos ha, named 3 1 (by omega) hF.symm, hF]
  rw [if_neg ha] at hF
  rw [if_neg ha, number_ext m h0]
  by_cases hnum : 0 < (numberP l).2
  · rw [if_pos hnum] at hF
    rw [if_pos hnum]
    have hnl := numberP_le l
    generalize numberP l = N at *
    obtain ⟨nm, n⟩ := N
    simp only at hnum hF hnl ⊢
    unfold numTkP at hF ⊢
    rw [drop_ext _ hnl, hp1_ext m _ 37 rfl]
    by_cases hp : Lib.hasPrefix (l.drop n) [37] = true
    · rw [if_pos hp] at hF ⊢
      have := hp_roomc hp
      rw [take_ext _ (by omega), hF]
    · rw [if_neg hp] at hF ⊢
      have hsafe : l.drop n ≠ [92] ∧ l.drop n ≠ [45, 92] := by
        constructor
        · intro e
          rw [e, if_neg (by decide)] at hF
          subst hF
          simp only [List.length_take, Nat.min_eq_left hnl] at hR2
          exact no_92 (hR2 (by rw [e]; simp)) e
        · intro e
          rw [e, if_neg (by decide)] at hF
          subst hF
          simp only [List.length_take, Nat.min_eq_left hnl] at hR2
          exact no_4592 (hR2 (by rw [e]; simp)) e
      rw [begins_ext m hsafe.1 hsafe.2]
      by_cases hb : beginsP (l.drop n) = true
      · rw [if_pos hb] at hF ⊢
        have hle := nameP_le _ (l.drop n) (Nat.le_refl _)
        rw [List.length_drop] at hle
        have hrest : (l.drop n).drop (nameP (l.drop n)).2 ≠ [92] := by
          rw [List.drop_drop]
          have hlen : F.raw.length = n + (nameP (l.drop n)).2 := by
            rw [← hF]
            simp only [List.length_take]
            omega
          rw [hlen] at hR2
          intro e92
          exact no_92 (hR2 (by rw [e92]; simp)) e92
        rw [name_ext' m hrest, take_ext _ (by omega), hF]
      · rw [if_neg hb] at hF ⊢
        rw [take_ext _ hnl, hF]
  rw [if_neg hnum] at hF
  rw [if_neg hnum, begins_ext m (no_92 hE) (no_4592 hE)]
  by_cases hb : beginsP l = true
  · rw [if_pos hb] at hF
    rw [if_pos hb]
    have hle := nameP_le _ l (Nat.le_refl _)
    have hnl : (namedP 1 l 0).raw.length = (nameP l).2 := by
      simp only [namedP, List.drop_zero, Nat.zero_add, List.length_take]
      omega
    have hrest : l.drop (nameP l).2 ≠ [92] := by
      intro e92
      unfold wordP at hF
      rw [hnl, e92, if_neg (by decide)] at hF
      rw [← hF, hnl] at hR2
      exact no_92 (hR2 (by rw [e92]; simp)) e92
    have e1 : namedP 1 (l ++ 32 :: m) 0 = namedP 1 l 0 := by
      simp only [namedP, List.drop_zero, Nat.zero_add]
      rw [name_ext' m hrest, take_ext _ hle]
    unfold wordP at hF ⊢
    rw [e1, hnl, drop_ext _ hle, hp1_ext m _ 40 rfl]
    rw [hnl] at hF
    by_cases hp : Lib.hasPrefix (l.drop (nameP l).2) [40] = true
    · rw [if_pos hp] at hF ⊢
      have := hp_roomc hp
      rw [take_ext _ (by omega), hF]
    · rw [if_neg hp] at hF ⊢
      exact hF
  · rw [if_neg hb] at hF
    rw [if_neg hb, one_ext _ h0, take_ext _ (by omega), hF]

theorem cut_apart (m : Bs) : ∀ (n : Nat) (l : Bs), l.length ≤ n → l ≠ [] → Ends l → cutP (l ++ 32 :: m) = cutP l ++ cutP (32 :: m)
  | 0, l, h, h0, _ => absurd (List.eq_nil_of_length_eq_zero (Nat.le_zero.1 h)) h0
  | n + 1, l, h, h0, hE => by
    have hp := (first_pre l h0).2
    have hrw := first_raw l h0
    obtain ⟨hR1, hR2⟩ := ends_rest h0 hE
    have hrl : (firstP l).raw.length ≤ l.length := by
      rw [hrw, List.length_take]
      omega
    rw [cutP_cons (show l ++ 32 :: m ≠ [] by simp), first_ext m h0 hE, cutP_cons h0, drop_ext _ hrl]
    by_cases hr : l.drop (firstP l).raw.length = []
    · rw [hr, cutP_nil]
      rfl
    · rw [cut_apart m n _ (by rw [List.length_drop]; omega) hr (hR2 hr)]
      rfl

/-- the blank, ahead of what begins with none -/
theorem cut_blank {m : Bs} (h0 : m ≠ []) (hk : ¬ (firstP m).k = 8) : cutP (32 :: m) = ⟨8, [32], [], 0⟩ :: cutP m := by
  have hsp : spaceP m = 0 := by
    rcases Nat.eq_zero_or_pos (spaceP m) with h | h
    · exact h
    · rw [firstP, if_pos h] at hk
      exact absurd rfl hk
  have h1 : spaceP (32 :: m) = 1 := by
    unfold spaceP at hsp ⊢
    rw [List.takeWhile_cons_of_pos (by decide)]
    simp [hsp]
  have hf : firstP (32 :: m) = ⟨8, [32], [], 0⟩ := by
    rw [firstP, h1, if_pos (by omega)]
    rfl
  rw [cutP_cons (by simp), hf]
  rfl

end Go.Proofs.YtmjbaimccbkmpaaDoor.tok

namespace Go.Proofs.YtmjbaimccbkmpaaDoor.tok.st
open Go.RowKit Go.Proofs.YtmjbaimccbkmpaaDoor.base Go.Proofs.YtmjbaimccbkmpaaDoor.tok
set_option linter.unusedVariables false

/-- a sign that goes on with no token ahead of it -/
def Stop (c : UInt8) : Prop := signI (nv c) = false ∧ ¬ nv c = 92 ∧ ¬ nv c = 46 ∧ ¬ nv c = 37 ∧ ¬ nv c = 40 ∧ ¬ nv c = 42
instance (c : UInt8) : Decidable (Stop c) := by unfold Stop; exact inferInstance
theorem Stop.starts {s : UInt8} (h : Stop s) : startsI (nv s) = false := by
  have := h.1
  simp only [signI, Bool.or_eq_false_iff] at this
  exact this.1.1
theorem Stop.digit {s : UInt8} (h : Stop s) : digI (nv s) = false := by
  have := h.1
  simp only [signI, Bool.or_eq_false_iff] at this
  exact this.1.2
theorem Stop.minus {s : UInt8} (h : Stop s) : ¬ nv s = 45 := by
  have := h.1
  simp only [signI, Bool.or_eq_false_iff, decide_eq_false_iff_not] at this
  exact this.2
theorem Stop.ne {s : UInt8} {c : UInt8} (h : ¬ nv s = nv c) : (c == s) = false := by
  rw [beq_eq_false_iff_ne]
  intro e
  subst e
  exact h rfl


theorem esc_blank (s c : UInt8) (m : Bs) (h : ¬ nv c = 92) : escP (c :: s :: m) = false := by simp [escP, h]
theorem esc_32 {s : UInt8} (hS : Stop s) (m : Bs) : escP (s :: m) = false := by
  cases m with
  | nil => rfl
  | cons d m => simp [escP, hS.2.1]
theorem name_blank {s : UInt8} (hS : Stop s) (m : Bs) : nameP (s :: m) = ([], 0) := by
  cases m with
  | nil => rw [name_cons1, if_neg (by rw [hS.1]; simp)]
  | cons d m =>
    rw [name_cons2, if_neg (by rw [esc_32 hS]; simp), if_neg (by rw [hS.1]; simp)]
theorem begins_blank {s : UInt8} (hS : Stop s) (m : Bs) : beginsP (s :: m) = false := by
  cases m with
  | nil => exact hS.starts
  | cons d m =>
    simp only [beginsP]
    rw [if_neg hS.minus, esc_32 hS, hS.starts]
    rfl

theorem name_ext {s : UInt8} (hS : Stop s) (m : Bs) : ∀ (n : Nat) (y : Bs), y.length ≤ n → y.drop (nameP y).2 ≠ [92] → nameP (y ++ s :: m) = nameP y
  | 0, y, h, hd => by
    obtain rfl := List.eq_nil_of_length_eq_zero (Nat.le_zero.1 h)
    rw [List.nil_append, name_blank hS, name_nil]
  | n + 1, [], h, hd => by rw [List.nil_append, name_blank hS, name_nil]
  | n + 1, [c], h, hd => by
    rw [name_cons1] at hd
    simp only [List.cons_append, List.nil_append]
    rw [name_cons2, name_cons1]
    by_cases hs : signI (nv c) = true
    · have h92 : ¬ nv c = 92 := fun e => by rw [sign_92 e] at hs; cases hs
      rw [if_neg (by rw [esc_blank s c m h92]; simp), if_pos hs, if_pos hs, name_blank hS]
    · rw [if_neg hs] at hd
      have h92 : ¬ nv c = 92 := fun e => hd (by rw [nv92 e]; rfl)
      rw [if_neg (by rw [esc_blank s c m h92]; simp), if_neg hs, if_neg hs]
  | n + 1, c :: d :: r, h, hd => by
    rw [name_cons2] at hd ⊢
    simp only [List.cons_append]
    rw [name_cons2]
    have he : escP (c :: d :: (r ++ s :: m)) = escP (c :: d :: r) := rfl
    rw [he]
    by_cases h1 : escP (c :: d :: r) = true
    · rw [if_pos h1] at hd ⊢
      rw [if_pos h1, name_ext hS m n r (by simp at h; omega) (by simpa using hd)]
    · rw [if_neg h1] at hd ⊢
      rw [if_neg h1]
      by_cases hs : signI (nv c) = true
      · rw [if_pos hs] at hd ⊢
        rw [if_pos hs]
        have ih := name_ext hS m n (d :: r) (by simp at h ⊢; omega) (by simpa using hd)
        rw [List.cons_append] at ih
        rw [ih]
      · rw [if_neg hs, if_neg hs]
theorem name_ext' {s : UInt8} (hS : Stop s) (m : Bs) {y : Bs} (h : y.drop (nameP y).2 ≠ [92]) : nameP (y ++ s :: m) = nameP y := name_ext hS m _ y (Nat.le_refl _) h

theorem begins_ext {s : UInt8} (hS : Stop s) (m : Bs) {r : Bs} (h1 : r ≠ [92]) (h2 : r ≠ [45, 92]) : beginsP (r ++ s :: m) = beginsP r := by
  match r, h1, h2 with
  | [], _, _ => exact begins_blank hS m
  | [c], h1, _ =>
    simp only [List.cons_append, List.nil_append, beginsP]
    have h92 : ¬ nv c = 92 := fun e => h1 (by rw [nv92 e])
    by_cases h45 : nv c = 45
    · rw [if_pos h45, esc_32 hS, h45, hS.starts, decide_eq_false hS.minus]
      rfl
    · rw [if_neg h45, esc_blank s c m h92]
      simp
  | c :: d :: r, _, h2 =>
    simp only [List.cons_append, beginsP]
    by_cases h45 : nv c = 45
    · rw [if_pos h45, if_pos h45]
      cases r with
      | nil =>
        have h92 : ¬ nv d = 92 := fun e => h2 (by rw [nv92 e, nv_eq (n := 45) (by decide) h45]; rfl)
        simp only [List.nil_append]
        rw [esc_blank s d m h92]
        rfl
      | cons e r => rfl
    · rw [if_neg h45, if_neg h45]
      rfl

theorem while_app {s : UInt8} (p : UInt8 → Bool) (m : Bs) (h : p s = false) : ∀ y : Bs, ((y ++ s :: m).takeWhile p).length = (y.takeWhile p).length
  | [] => by simp [h]
  | c :: y => by
    simp only [List.cons_append, List.takeWhile_cons]
    cases p c
    · rfl
    · simp only [if_true, List.length_cons]
      rw [while_app p m h y]
theorem digits_ext {s : UInt8} (hS : Stop s) (m y : Bs) : digitsP (y ++ s :: m) = digitsP y := while_app _ m hS.digit y
theorem behind_ext {s : UInt8} (hS : Stop s) (m y : Bs) : behindP (y ++ s :: m) = behindP y := by
  cases y with
  | nil =>
    simp only [List.nil_append, behindP]
    rw [if_neg hS.2.2.1]
  | cons c t =>
    simp only [List.cons_append, behindP, digits_ext hS]

theorem number_ext {s : UInt8} (hS : Stop s) (m : Bs) {l : Bs} (h0 : l ≠ []) : numberP (l ++ s :: m) = numberP l := by
  have hs : signAt (l ++ s :: m) = signAt l ∧ negP (l ++ s :: m) = negP l := by
    cases l with
    | nil => exact absurd rfl h0
    | cons c r => exact ⟨rfl, rfl⟩
  obtain ⟨_, hsl⟩ := signAt_le l
  unfold numberP
  rw [hs.1, hs.2]
  generalize signAt l = f at *
  have e1 : digitsP ((l ++ s :: m).drop f) = digitsP (l.drop f) := by rw [List.drop_append_of_le_length hsl, digits_ext hS]
  rw [e1]
  have hw := digits_le (l.drop f)
  rw [List.length_drop] at hw
  generalize digitsP (l.drop f) = wh at *
  have e2 : behindP ((l ++ s :: m).drop (f + wh)) = behindP (l.drop (f + wh)) := by rw [List.drop_append_of_le_length (by omega), behind_ext hS]
  rw [e2]
  have hb := behind_le (l.drop (f + wh))
  rw [List.length_drop] at hb
  generalize behindP (l.drop (f + wh)) = be at *
  unfold numAt
  have e3 : sumP (l ++ s :: m) f wh be = sumP l f wh be := by
    unfold sumP
    have a1 : ((l ++ s :: m).drop f).take wh = (l.drop f).take wh := by
      rw [List.drop_append_of_le_length hsl, List.take_append_of_le_length (by rw [List.length_drop]; omega)]
    have a2 : ((l ++ s :: m).drop (f + wh + 1)).take be = (l.drop (f + wh + 1)).take be := by
      rcases hb with hb | hb
      · rw [hb]; simp
      · rw [List.drop_append_of_le_length (by omega), List.take_append_of_le_length (by rw [List.length_drop]; omega)]
    rw [a1, a2]
  rw [e3]

theorem textR_ext (q s : UInt8) (m : Bs) : ∀ (n : Nat) (r : Bs), r.length ≤ n → ((textR q r).2.1 < r.length ∨ (textR q r).1 = 5) → textR q (r ++ s :: m) = textR q r
  | 0, r, h, hc => by
    obtain rfl := List.eq_nil_of_length_eq_zero (Nat.le_zero.1 h)
    rw [textR_nil] at hc
    simp at hc
  | n + 1, [], h, hc => by
    rw [textR_nil] at hc
    simp at hc
  | n + 1, [c], h, hc => by
    rw [textR_one] at hc ⊢
    simp only [List.cons_append, List.nil_append]
    rw [textR_two]
    split
    · rfl
    · split
      · rfl
      · rename_i h1 h2
        rw [if_neg h1, if_neg h2] at hc
        simp at hc
  | n + 1, c :: d :: r, h, hc => by
    rw [textR_two] at hc ⊢
    simp only [List.cons_append]
    rw [textR_two]
    split
    · rfl
    · rename_i h1
      split
      · rfl
      · rename_i h2
        rw [if_neg h1, if_neg h2] at hc
        split
        · rename_i h3
          rw [if_pos h3] at hc
          rw [textR_ext q s m n r (by simp at h; omega) (by simp only [List.length_cons] at hc; omega)]
        · rename_i h3
          rw [if_neg h3] at hc
          have ih := textR_ext q s m n (d :: r) (by simp at h ⊢; omega) (by simp only [List.length_cons] at hc ⊢; omega)
          rw [List.cons_append] at ih
          rw [ih]
theorem hp2_ext {s : UInt8} (hS : Stop s) (m : Bs) {l : Bs} (h0 : l ≠ []) : Lib.hasPrefix (l ++ s :: m) [47, 42] = Lib.hasPrefix l [47, 42] := by
  match l, h0 with
  | [a], _ =>
    simp only [Lib.hasPrefix, List.cons_append, List.nil_append, List.isPrefixOf, Stop.ne (c := 42) hS.2.2.2.2.2]
    cases (47 == a) <;> rfl
  | a :: b :: r, _ => rfl
theorem hp1_ext {s : UInt8} (hS : Stop s) (m y : Bs) (c : UInt8) (hc : (c == s) = false) : Lib.hasPrefix (y ++ s :: m) [c] = Lib.hasPrefix y [c] := by
  cases y with
  | nil => simp [Lib.hasPrefix, List.isPrefixOf, hc]
  | cons a r => rfl
theorem hash_ext {s : UInt8} (hS : Stop s) (m : Bs) {l : Bs} (h0 : l ≠ []) (h : l ≠ [35, 92]) : hashP (l ++ s :: m) = hashP l := by
  match l, h0, h with
  | [a], _, _ =>
    simp only [List.cons_append, List.nil_append, hashP, esc_32 hS, hS.1]
    simp
  | [a, b], _, h =>
    simp only [List.cons_append, List.nil_append, hashP]
    by_cases h35 : nv a = 35
    · have h92 : ¬ nv b = 92 := fun e => h (by rw [nv92 e, nv_eq (n := 35) (by decide) h35]; rfl)
      rw [esc_blank s b m h92]
      rfl
    · simp [h35]
  | a :: b :: c :: r, _, _ => rfl
theorem at_ext {s : UInt8} (hS : Stop s) (m : Bs) {l : Bs} (h0 : l ≠ []) (h1 : l ≠ [64, 92]) (h2 : l ≠ [64, 45, 92]) : atP (l ++ s :: m) = atP l := by
  match l, h0, h1, h2 with
  | a :: r, _, h1, h2 =>
    simp only [List.cons_append, atP]
    by_cases h64 : nv a = 64
    · have ha := nv_eq (n := 64) (by decide) h64
      rw [begins_ext hS m (fun e => h1 (by rw [e, ha]; rfl)) (fun e => h2 (by rw [e, ha]; rfl))]
    · simp [h64]
theorem first_ext {s : UInt8} (hS : Stop s) (m : Bs) {l : Bs} (h0 : l ≠ []) (hE : Ends l) : firstP (l ++ s :: m) = firstP l := by
  have hl : 0 < l.length := List.length_pos_iff.2 h0
  obtain ⟨hR1, hR2⟩ := ends_rest h0 hE
  have hne : l ++ s :: m ≠ [] := by simp
  generalize hF : firstP l = F at *
  rw [firstP] at hF
  by_cases hsp : 0 < spaceP l
  · rw [if_pos hsp] at hF
    subst hF
    have hle := space_le l
    have hlen : (l.take (spaceP l)).length = spaceP l := by rw [List.length_take]; omega
    simp only [hlen] at hR1
    have hlt : spaceP l < l.length := by
      rcases Nat.lt_or_ge (spaceP l) l.length with h | h
      · exact h
      · exact ((hR1 (List.drop_eq_nil_of_le h)).2.2 (by trivial)).elim
    rw [firstP, space_ext _ hlt, if_pos hsp, take_ext _ hle]
  rw [if_neg hsp] at hF
  have hsz : spaceP l = 0 := by omega
  have e0 : spaceP (l ++ s :: m) = 0 := by rw [space_ext _ (by omega), hsz]
  rw [firstP, e0, if_neg (by omega), hp2_ext hS m h0]
  by_cases hn : Lib.hasPrefix l [47, 42] = true
  · rw [if_pos hn] at hF
    rw [if_pos hn]
    subst hF
    have h2 : 2 ≤ l.length := by
      match l, hn with
      | [], hn => simp [Lib.hasPrefix, List.isPrefixOf] at hn
      | [a], hn => simp [Lib.hasPrefix, List.isPrefixOf] at hn
      | a :: b :: r, _ => simp
    by_cases hi : 0 ≤ Lib.index (l.drop 2) [42, 47]
    · have hr := Lib.index_room (l.drop 2) [42, 47] hi
      rw [List.length_drop] at hr
      simp only [List.length_cons, List.length_nil] at hr
      unfold noteP
      rw [drop_ext _ h2, index_ext _ _ hi, if_pos hi, if_pos hi, take_ext _ (by omega)]
    · exfalso
      have e : noteP l = ⟨9, l, [], 0⟩ := by unfold noteP; rw [if_neg hi]
      rw [e] at hR1
      exact (hR1 (by simp)).2.1 rfl
  rw [if_neg hn] at hF
  rw [if_neg hn, quote_ext _ h0]
  by_cases hq : quoteP l = true
  · rw [if_pos hq] at hF
    rw [if_pos hq]
    subst hF
    match l, h0, hR1 with
    | q :: r, _, hR1 =>
      simp only [textP, List.cons_append] at hR1 ⊢
      have hle := textR_le q _ r (Nat.le_refl _)
      have hk := textR_kind q _ r (Nat.le_refl _)
      have hc : (textR q r).2.1 < r.length ∨ (textR q r).1 = 5 := by
        rcases hk with hk | hk
        · exact Or.inr hk
        · rcases Nat.lt_or_ge (textR q r).2.1 r.length with h | h
          · exact Or.inl h
          · exfalso
            refine (hR1 (List.drop_eq_nil_of_le ?_)).1 hk
            rw [List.length_take]
            simp
            omega
      rw [textR_ext q s m _ r (Nat.le_refl _) hc]
      congr 1
      rw [Nat.add_comm 1, List.take_succ_cons, List.take_succ_cons, take_ext _ hle]
  rw [if_neg hq] at hF
  rw [if_neg hq, hash_ext hS m h0 (no_3592 hE)]
  -- a name behind so many signs
  have named : ∀ (k : Int) (a : Nat), a ≤ l.length → F = namedP k l a → namedP k (l ++ s :: m) a = namedP k l a := by
    intro k a ha e
    have hle := nameP_le _ (l.drop a) (Nat.le_refl _)
    rw [List.length_drop] at hle
    have hrest : (l.drop a).drop (nameP (l.drop a)).2 ≠ [92] := by
      rw [List.drop_drop]
      have hlen : F.raw.length = a + (nameP (l.drop a)).2 := by
        rw [e]
        simp only [namedP, List.length_take]
        omega
      rw [hlen] at hR2
      intro e92
      exact no_92 (hR2 (by rw [e92]; simp)) e92
    simp only [namedP]
    rw [drop_ext _ ha, name_ext' hS m hrest, take_ext _ (by omega)]
  by_cases hh : hashP l = true
  · rw [if_pos hh] at hF
    rw [if_pos hh, named 4 1 (by omega) hF.symm, hF]
  rw [if_neg hh] at hF
  rw [if_neg hh, at_ext hS m h0 (no_6492 hE) (no_644592 hE)]
  by_cases ha : atP l = true
  · rw [if_pos ha] at hF
    rw [if_pos ha, named 3 1 (by omega) hF.symm, hF]
  rw [if_neg ha] at hF
  rw [if_neg ha, number_ext hS m h0]
  by_cases hnum : 0 < (numberP l).2
  · rw [if_pos hnum] at hF
    rw [if_pos hnum]
    have hnl := numberP_le l
    generalize numberP l = N at *
    obtain ⟨nm, n⟩ := N
    simp only at hnum hF hnl ⊢
    unfold numTkP at hF ⊢
    rw [drop_ext _ hnl, hp1_ext hS m _ 37 (Stop.ne (c := 37) hS.2.2.2.1)]
    by_cases hp : Lib.hasPrefix (l.drop n) [37] = true
    · rw [if_pos hp] at hF ⊢
      have := hp_roomc hp
      rw [take_ext _ (by omega), hF]
    · rw [if_neg hp] at hF ⊢
      have hsafe : l.drop n ≠ [92] ∧ l.drop n ≠ [45, 92] := by
        constructor
        · intro e
          rw [e, if_neg (by decide)] at hF
          subst hF
          simp only [List.length_take, Nat.min_eq_left hnl] at hR2
          exact no_92 (hR2 (by rw [e]; simp)) e
        · intro e
          rw [e, if_neg (by decide)] at hF
          subst hF
          simp only [List.length_take, Nat.min_eq_left hnl] at hR2
          exact no_4592 (hR2 (by rw [e]; simp)) e
      rw [begins_ext hS m hsafe.1 hsafe.2]
      by_cases hb : beginsP (l.drop n) = true
      · rw [if_pos hb] at hF ⊢
        have hle := nameP_le _ (l.drop n) (Nat.le_refl _)
        rw [List.length_drop] at hle
        have hrest : (l.drop n).drop (nameP (l.drop n)).2 ≠ [92] := by
          rw [List.drop_drop]
          have hlen : F.raw.length = n + (nameP (l.drop n)).2 := by
            rw [← hF]
            simp only [List.length_take]
            omega
          rw [hlen] at hR2
          intro e92
          exact no_92 (hR2 (by rw [e92]; simp)) e92
        rw [name_ext' hS m hrest, take_ext _ (by omega), hF]
      · rw [if_neg hb] at hF ⊢
        rw [take_ext _ hnl, hF]
  rw [if_neg hnum] at hF
  rw [if_neg hnum, begins_ext hS m (no_92 hE) (no_4592 hE)]
  by_cases hb : beginsP l = true
  · rw [if_pos hb] at hF
    rw [if_pos hb]
    have hle := nameP_le _ l (Nat.le_refl _)
    have hnl : (namedP 1 l 0).raw.length = (nameP l).2 := by
      simp only [namedP, List.drop_zero, Nat.zero_add, List.length_take]
      omega
    have hrest : l.drop (nameP l).2 ≠ [92] := by
      intro e92
      unfold wordP at hF
      rw [hnl, e92, if_neg (by decide)] at hF
      rw [← hF, hnl] at hR2
      exact no_92 (hR2 (by rw [e92]; simp)) e92
    have e1 : namedP 1 (l ++ s :: m) 0 = namedP 1 l 0 := by
      simp only [namedP, List.drop_zero, Nat.zero_add]
      rw [name_ext' hS m hrest, take_ext _ hle]
    unfold wordP at hF ⊢
    rw [e1, hnl, drop_ext _ hle, hp1_ext hS m _ 40 (Stop.ne (c := 40) hS.2.2.2.2.1)]
    rw [hnl] at hF
    by_cases hp : Lib.hasPrefix (l.drop (nameP l).2) [40] = true
    · rw [if_pos hp] at hF ⊢
      have := hp_roomc hp
      rw [take_ext _ (by omega), hF]
    · rw [if_neg hp] at hF ⊢
      exact hF
  · rw [if_neg hb] at hF
    rw [if_neg hb, one_ext _ h0, take_ext _ (by omega), hF]

theorem cut_apart {s : UInt8} (hS : Stop s) (m : Bs) : ∀ (n : Nat) (l : Bs), l.length ≤ n → l ≠ [] → Ends l → cutP (l ++ s :: m) = cutP l ++ cutP (s :: m)
  | 0, l, h, h0, _ => absurd (List.eq_nil_of_length_eq_zero (Nat.le_zero.1 h)) h0
  | n + 1, l, h, h0, hE => by
    have hp := (first_pre l h0).2
    have hrw := first_raw l h0
    obtain ⟨hR1, hR2⟩ := ends_rest h0 hE
    have hrl : (firstP l).raw.length ≤ l.length := by
      rw [hrw, List.length_take]
      omega
    rw [cutP_cons (show l ++ s :: m ≠ [] by simp), first_ext hS m h0 hE, cutP_cons h0, drop_ext _ hrl]
    by_cases hr : l.drop (firstP l).raw.length = []
    · rw [hr, cutP_nil]
      rfl
    · rw [cut_apart hS m n _ (by rw [List.length_drop]; omega) hr (hR2 hr)]
      rfl

end Go.Proofs.YtmjbaimccbkmpaaDoor.tok.st

namespace Go.Proofs.YtmjbaimccbkmpaaDoor.tok.st
open Go.RowKit Go.Proofs.YtmjbaimccbkmpaaDoor.base Go.Proofs.YtmjbaimccbkmpaaDoor.tok
set_option linter.unusedVariables false

theorem textR_more (q : UInt8) : ∀ (n : Nat) (l : Bs) (m : Nat), l.length ≤ n → (textR q l).2.1 ≤ m → textR q (l.take m) = textR q l
  | 0, l, m, h, hm => by
    obtain rfl := List.eq_nil_of_length_eq_zero (Nat.le_zero.1 h)
    simp
  | n + 1, [], m, h, hm => by simp
  | n + 1, [c], m, h, hm => by
    cases m with
    | succ m => simp
    | zero =>
      rw [textR_one] at hm ⊢
      by_cases hq : nv c = nv q
      · rw [if_pos hq] at hm; simp at hm
      · rw [if_neg hq] at hm ⊢
        by_cases hn : nv c = 10
        · rw [if_pos hn]; simp [textR_nil]
        · rw [if_neg hn] at hm; simp at hm
  | n + 1, c :: d :: r, m, h, hm => by
    rw [textR_two] at hm ⊢
    by_cases hq : nv c = nv q
    · rw [if_pos hq] at hm ⊢
      match m, hm with
      | 1, _ => simp [textR_one, hq]
      | k + 2, _ =>
        simp only [List.take_succ_cons]
        rw [textR_two, if_pos hq]
    · rw [if_neg hq] at hm ⊢
      by_cases hn : nv c = 10
      · rw [if_pos hn] at hm ⊢
        match m with
        | 0 => simp [textR_nil]
        | 1 => simp only [List.take_succ_cons, List.take_zero]; rw [textR_one, if_neg hq, if_pos hn]
        | k + 2 =>
          simp only [List.take_succ_cons]
          rw [textR_two, if_neg hq, if_pos hn]
      · rw [if_neg hn] at hm ⊢
        by_cases hb : nv c = 92
        · rw [if_pos hb] at hm ⊢
          obtain ⟨k, rfl⟩ : ∃ k, m = k + 2 := ⟨m - 2, by simp at hm; omega⟩
          have ih := textR_more q n r k (by simp at h; omega) (by simp at hm; omega)
          simp only [List.take_succ_cons]
          rw [textR_two, if_neg hq, if_neg hn, if_pos hb, ih]
        · rw [if_neg hb] at hm ⊢
          obtain ⟨k, rfl⟩ : ∃ k, m = k + 1 := ⟨m - 1, by simp at hm; omega⟩
          have ih := textR_more q n (d :: r) k (by simp at h ⊢; omega) (by simp at hm; omega)
          simp only [List.take_succ_cons]
          cases k with
          | zero =>
            simp only [List.take_zero] at ih ⊢
            rw [textR_nil] at ih
            rw [textR_one, if_neg hq, if_neg hn, ← ih]
          | succ k =>
            simp only [List.take_succ_cons] at ih ⊢
            rw [textR_two, if_neg hq, if_neg hn, if_neg hb, ih]

theorem index_more {s : Bs} {i m : Nat} (h : Lib.index s [42, 47] = (i : Int)) (hm : i + 2 ≤ m) : Lib.index (s.take m) [42, 47] = (i : Int) := by
  have h1 := index_take h
  have e : s.take m = s.take (i + 2) ++ (s.take m).drop (i + 2) := by
    conv => lhs; rw [← List.take_append_drop (i + 2) (s.take m)]
    rw [List.take_take, Nat.min_eq_left hm]
  rw [e, index_ext _ _ (by rw [h1]; omega), h1]

theorem tt {α : Type} {l : List α} {k m : Nat} (h : k ≤ m) : (l.take m).take k = l.take k := by rw [List.take_take, Nat.min_eq_left h]
theorem hp_more {x : Bs} {c : UInt8} {k : Nat} (h : Lib.hasPrefix x [c] = true) (hk : 1 ≤ k) : Lib.hasPrefix (x.take k) [c] = true := by
  obtain ⟨j, rfl⟩ : ∃ j, k = j + 1 := ⟨k - 1, by omega⟩
  match x, h with
  | a :: r, h => simpa [Lib.hasPrefix, List.isPrefixOf] using h
  | [], h => simp [Lib.hasPrefix, List.isPrefixOf] at h
/-- what begins with no name has no prefix that begins with one -/
theorem begins_not {l : Bs} (h : ¬ beginsP l = true) (m : Nat) : ¬ beginsP (l.take m) = true := by
  intro h2
  apply h
  match l, m, h2 with
  | [], m, h2 => simpa using h2
  | [c], 0, h2 => simp [beginsP] at h2
  | [c], m + 1, h2 => simpa using h2
  | c :: d :: r, 0, h2 => simp [beginsP] at h2
  | c :: d :: r, 1, h2 =>
    simp only [List.take_succ_cons, List.take_zero, beginsP] at h2
    simp only [beginsP]
    have h45 : ¬ nv c = 45 := fun e => by
      rw [e] at h2
      simp [startsI] at h2
    rw [if_neg h45, h2]
    rfl
  | c :: d :: r, m + 2, h2 =>
    simp only [List.take_succ_cons, beginsP] at h2 ⊢
    by_cases h45 : nv c = 45
    · rw [if_pos h45] at h2 ⊢
      simp only [Bool.or_eq_true] at h2 ⊢
      rcases h2 with h2 | h2
      · exact Or.inl h2
      · exact Or.inr (esc_take (m := m + 1) (by simpa using h2))
    · rw [if_neg h45] at h2 ⊢
      exact h2
theorem hash_not {l : Bs} (h : hashP l = false) (m : Nat) : hashP (l.take m) = false := by
  cases h2 : hashP (l.take m)
  · rfl
  · rw [← h]
    match l, m, h2 with
    | [], m, h2 => simp [hashP] at h2
    | [c], 0, h2 => simp [hashP] at h2
    | [c], m + 1, h2 => simp [hashP] at h2
    | c :: d :: r, 0, h2 => simp [hashP] at h2
    | c :: d :: r, 1, h2 => simp [hashP] at h2
    | c :: d :: r, m + 2, h2 =>
      simp only [List.take_succ_cons, hashP, Bool.and_eq_true, Bool.or_eq_true] at h2 ⊢
      refine (Bool.and_eq_true _ _ ▸ ⟨h2.1, ?_⟩ : _ = true).symm
      rw [Bool.or_eq_true]
      rcases h2.2 with h3 | h3
      · exact Or.inl h3
      · exact Or.inr (esc_take (m := m + 1) (by simpa using h3))
theorem at_not {l : Bs} (h : atP l = false) (m : Nat) : atP (l.take m) = false := by
  cases h2 : atP (l.take m)
  · rfl
  · rw [← h]
    match l, m, h2 with
    | [], m, h2 => simp [atP] at h2
    | c :: r, 0, h2 => simp [atP] at h2
    | c :: r, m + 1, h2 =>
      simp only [List.take_succ_cons, atP, Bool.and_eq_true] at h2 ⊢
      refine (Bool.and_eq_true _ _ ▸ ⟨h2.1, ?_⟩ : _ = true).symm
      by_cases hb : beginsP r = true
      · exact hb
      · exact absurd h2.2 (begins_not hb m)
theorem note_more {l : Bs} {m : Nat} (hm : 2 ≤ m) (h : Lib.hasPrefix l [47, 42] = true) : Lib.hasPrefix (l.take m) [47, 42] = true := by
  obtain ⟨j, rfl⟩ : ∃ j, m = j + 2 := ⟨m - 2, by omega⟩
  match l, h with
  | a :: b :: r, h => simpa [Lib.hasPrefix, List.isPrefixOf] using h
  | [a], h => simp [Lib.hasPrefix, List.isPrefixOf] at h
  | [], h => simp [Lib.hasPrefix, List.isPrefixOf] at h

theorem first_take (l : Bs) (h0 : l ≠ []) (m : Nat) (hm : (firstP l).raw.length ≤ m) : firstP (l.take m) = firstP l := by
  rcases Nat.lt_or_ge l.length m with hbig | hbig
  · rw [List.take_of_length_le (by omega)]
  have hl : 0 < l.length := List.length_pos_iff.2 h0
  have hm0 : 0 < m := Nat.lt_of_lt_of_le (first_pre l h0).2 hm
  obtain ⟨c, hc⟩ := head_some h0
  generalize hF : firstP l = F at *
  rw [firstP] at hF
  by_cases hsp : 0 < spaceP l
  · rw [if_pos hsp] at hF
    subst hF
    have hle := space_le l
    simp only [List.length_take, Nat.min_eq_left hle] at hm
    have hs2 : spaceP (l.take m) = spaceP l := by rw [space_take]; omega
    rw [firstP, if_pos (by rw [hs2]; exact hsp), hs2, tt hm]
  rw [if_neg hsp] at hF
  have hsz : spaceP l = 0 := by omega
  have hsz2 : ¬ 0 < spaceP (l.take m) := by rw [space_zero hsz]; omega
  by_cases hn : Lib.hasPrefix l [47, 42] = true
  · rw [if_pos hn] at hF
    subst hF
    have h2 : 2 ≤ l.length := by
      match l, hn with
      | [], hn => simp [Lib.hasPrefix, List.isPrefixOf] at hn
      | [a], hn => simp [Lib.hasPrefix, List.isPrefixOf] at hn
      | a :: b :: r, _ => simp
    by_cases hi : 0 ≤ Lib.index (l.drop 2) [42, 47]
    · obtain ⟨i, hi2⟩ := Int.eq_ofNat_of_zero_le hi
      have hr := Lib.index_room (l.drop 2) [42, 47] hi
      rw [hi2, List.length_drop] at hr
      simp only [List.length_cons, List.length_nil] at hr
      have e : noteP l = ⟨9, l.take (i + 4), [], 0⟩ := by
        unfold noteP
        rw [if_pos hi, hi2]
        rfl
      rw [e] at hm ⊢
      simp only [List.length_take] at hm
      have hm4 : i + 4 ≤ m := by omega
      have hix : Lib.index ((l.take m).drop 2) [42, 47] = (i : Int) := by
        rw [List.drop_take]
        exact index_more hi2 (by omega)
      rw [firstP, if_neg hsz2, if_pos (note_more (by omega) hn)]
      unfold noteP
      rw [hix, if_pos (by omega)]
      simp only [Int.toNat_natCast]
      rw [tt hm4]
    · have e : noteP l = ⟨9, l, [], 0⟩ := by
        unfold noteP
        rw [if_neg hi]
      rw [e] at hm ⊢
      simp only at hm
      rw [List.take_of_length_le hm, firstP, if_neg hsp, if_pos hn, e]
  have hn' : Lib.hasPrefix l [47, 42] = false := by simpa using hn
  have hn2 : ¬ Lib.hasPrefix (l.take m) [47, 42] = true := by rw [hasP_take hn']; simp
  rw [if_neg hn] at hF
  by_cases hq : quoteP l = true
  · rw [if_pos hq] at hF
    subst hF
    have hq2 : quoteP (l.take m) = true := by rw [quote_take hm0]; exact hq
    rw [firstP, if_neg hsz2, if_neg hn2, if_pos hq2]
    obtain ⟨j, rfl⟩ : ∃ j, m = j + 1 := ⟨m - 1, by omega⟩
    cases l with
    | nil => exact absurd rfl h0
    | cons q r =>
      simp only [textP, List.take_succ_cons, List.length_take, List.length_cons] at hm ⊢
      have hle := textR_le q _ r (Nat.le_refl _)
      have ht := textR_more q _ r j (Nat.le_refl _) (by omega)
      rw [ht]
      congr 1
      rw [Nat.add_comm 1, List.take_succ_cons, List.take_succ_cons, tt (by omega)]
  rw [if_neg hq] at hF
  have hq' : quoteP l = false := by simpa using hq
  have hq2 : ¬ quoteP (l.take m) = true := by rw [quote_take hm0, hq']; simp
  -- a name behind so many signs
  have named : ∀ (k : Int) (a : Nat), a ≤ l.length → F = namedP k l a → a + (nameP (l.drop a)).2 ≤ m ∧ namedP k (l.take m) a = namedP k l a := by
    intro k a ha e
    have hle := nameP_le _ (l.drop a) (Nat.le_refl _)
    rw [List.length_drop] at hle
    have hlen : F.raw.length = a + (nameP (l.drop a)).2 := by
      rw [e]
      simp only [namedP, List.length_take]
      omega
    rw [hlen] at hm
    refine ⟨hm, ?_⟩
    simp only [namedP]
    rw [List.drop_take, name_take' _ _ (by omega), tt hm]
  by_cases hh : hashP l = true
  · rw [if_pos hh] at hF
    obtain ⟨hm1, he⟩ := named 4 1 (by omega) hF.symm
    have hh2 : hashP (l.take m) = true := by
      match l, hh with
      | a :: b :: r, hh =>
        simp only [hashP, Bool.and_eq_true, decide_eq_true_eq, Bool.or_eq_true] at hh
        obtain ⟨ha, hb⟩ := hh
        simp only [List.drop_succ_cons, List.drop_zero] at hm1
        have hpos : 0 < (nameP (b :: r)).2 ∧ (escP (b :: r) = true → 2 ≤ (nameP (b :: r)).2) := by
          cases r with
          | nil =>
            rw [name_cons1]
            rcases hb with hb | hb
            · simp [hb, escP]
            · simp [escP] at hb
          | cons e r =>
            rw [name_cons2]
            by_cases hne : escP (b :: e :: r) = true
            · rw [if_pos hne]; simp
            · rw [if_neg hne]
              rcases hb with hb | hb
              · simp [hb, hne]
              · exact absurd hb hne
        obtain ⟨j, rfl⟩ : ∃ j, m = j + 2 := ⟨m - 2, by omega⟩
        simp only [List.take_succ_cons, hashP, Bool.and_eq_true, decide_eq_true_eq, Bool.or_eq_true]
        refine ⟨ha, ?_⟩
        rcases hb with hb | hb
        · exact Or.inl hb
        · right
          have h2 := hpos.2 hb
          rw [← hb, show b :: r.take j = (b :: r).take (j + 1) by rfl]
          exact esc_take2 (by omega)
    rw [firstP, if_neg hsz2, if_neg hn2, if_neg hq2, if_pos hh2, he, hF]
  rw [if_neg hh] at hF
  have hh' : hashP l = false := by simpa using hh
  have hh2 : ¬ hashP (l.take m) = true := by rw [hash_not hh']; simp
  by_cases ha : atP l = true
  · rw [if_pos ha] at hF
    obtain ⟨hm1, he⟩ := named 3 1 (by omega) hF.symm
    have ha2 : atP (l.take m) = true := by
      match l, ha with
      | a :: r, ha =>
        simp only [atP, Bool.and_eq_true, decide_eq_true_eq] at ha
        obtain ⟨j, rfl⟩ : ∃ j, m = j + 1 := ⟨m - 1, by omega⟩
        simp only [List.drop_succ_cons, List.drop_zero] at hm1
        simp only [List.take_succ_cons, atP, Bool.and_eq_true, decide_eq_true_eq]
        exact ⟨ha.1, begins_take ha.2 (by omega)⟩
    rw [firstP, if_neg hsz2, if_neg hn2, if_neg hq2, if_neg hh2, if_pos ha2, he, hF]
  rw [if_neg ha] at hF
  have ha' : atP l = false := by simpa using ha
  have ha2 : ¬ atP (l.take m) = true := by rw [at_not ha']; simp
  by_cases hnum : 0 < (numberP l).2
  · rw [if_pos hnum] at hF
    have hnl := numberP_le l
    have hmn : (numberP l).2 ≤ m := by
      have : (numberP l).2 ≤ F.raw.length := by
        rw [← hF]
        unfold numTkP
        split
        · rename_i hp
          have := hp_roomc hp
          simp only [List.length_take]; omega
        · split
          · simp only [List.length_take]; omega
          · simp only [List.length_take]; omega
      omega
    have hnt := number_take hnum hmn
    rw [firstP, if_neg hsz2, if_neg hn2, if_neg hq2, if_neg hh2, if_neg ha2, hnt, if_pos hnum]
    generalize numberP l = N at *
    obtain ⟨nm, n⟩ := N
    simp only at hnum hF hnl hmn ⊢
    unfold numTkP at hF ⊢
    have hd : (l.take m).drop n = (l.drop n).take (m - n) := by rw [List.drop_take]
    by_cases hp : Lib.hasPrefix (l.drop n) [37] = true
    · rw [if_pos hp] at hF
      have := hp_roomc hp
      rw [← hF] at hm ⊢
      simp only [List.length_take] at hm
      rw [hd, if_pos (hp_more hp (by omega)), tt (by omega)]
    · rw [if_neg hp] at hF
      have hp' : Lib.hasPrefix (l.drop n) [37] = false := by simpa using hp
      rw [hd, if_neg (by rw [hasP_take hp']; simp)]
      by_cases hb : beginsP (l.drop n) = true
      · rw [if_pos hb] at hF
        have hle := nameP_le _ (l.drop n) (Nat.le_refl _)
        rw [List.length_drop] at hle
        rw [← hF] at hm ⊢
        simp only [List.length_take] at hm
        rw [if_pos (begins_take hb (by omega)), name_take' _ _ (by omega), tt (by omega)]
      · rw [if_neg hb] at hF
        rw [if_neg (begins_not hb _), ← hF, tt hmn]
  rw [if_neg hnum] at hF
  have hnum' : (numberP l).2 = 0 := by omega
  have hnum2 : ¬ 0 < (numberP (l.take m)).2 := by rw [number_take0 hnum' m]; omega
  by_cases hb : beginsP l = true
  · rw [if_pos hb] at hF
    have hle := nameP_le _ l (Nat.le_refl _)
    have hnl : (namedP 1 l 0).raw.length = (nameP l).2 := by
      simp only [namedP, List.drop_zero, Nat.zero_add, List.length_take]
      omega
    have hmn : (nameP l).2 ≤ m := by
      have : (nameP l).2 ≤ F.raw.length := by
        rw [← hF]
        unfold wordP
        split
        · rename_i hp
          rw [hnl] at hp
          have := hp_roomc hp
          simp only [List.length_take, hnl]; omega
        · rw [hnl]; exact Nat.le_refl _
      omega
    have hnm : namedP 1 (l.take m) 0 = namedP 1 l 0 := by
      simp only [namedP, List.drop_zero, Nat.zero_add]
      rw [name_take' l m hmn, tt hmn]
    rw [firstP, if_neg hsz2, if_neg hn2, if_neg hq2, if_neg hh2, if_neg ha2, if_neg hnum2, if_pos (begins_take hb hmn)]
    unfold wordP at hF ⊢
    rw [hnl] at hF
    rw [hnm, hnl]
    have hd : (l.take m).drop (nameP l).2 = (l.drop (nameP l).2).take (m - (nameP l).2) := by rw [List.drop_take]
    by_cases hp : Lib.hasPrefix (l.drop (nameP l).2) [40] = true
    · rw [if_pos hp] at hF
      have := hp_roomc hp
      rw [← hF] at hm ⊢
      simp only [List.length_take] at hm
      rw [hd, if_pos (hp_more hp (by omega)), tt (by omega)]
    · rw [if_neg hp] at hF
      have hp' : Lib.hasPrefix (l.drop (nameP l).2) [40] = false := by simpa using hp
      rw [hd, if_neg (by rw [hasP_take hp']; simp), hF]
  · rw [if_neg hb] at hF
    rw [firstP, if_neg hsz2, if_neg hn2, if_neg hq2, if_neg hh2, if_neg ha2, if_neg hnum2, if_neg (begins_not hb m), one_take hm0, tt hm0, hF]

/-- a piece of a text that is just its first tokens is cut into these -/
theorem cut_piece : ∀ (seg : List Tk) (p Y : Bs) (L : List Tk), textOf seg = p → cutP (p ++ Y) = seg ++ L → cutP p = seg
  | [], p, Y, L, hp, h => by
    subst hp
    exact cutP_nil
  | t :: seg, p, Y, L, hp, h => by
    have hpt : p = t.raw ++ textOf seg := hp.symm
    have hne : p ++ Y ≠ [] := fun e => by rw [e, cutP_nil] at h; cases h
    rw [cutP_cons hne] at h
    injection h with h1 h2
    have hpos := (first_pre _ hne).2
    rw [h1] at hpos h2
    have hle : t.raw.length ≤ p.length := by rw [hpt]; simp
    have hp0 : p ≠ [] := fun e => by rw [e] at hle; simp at hle; rw [hle] at hpos; simp at hpos
    have hf : firstP p = t := by
      have := first_take (p ++ Y) hne p.length (by rw [h1]; exact hle)
      rw [List.take_left] at this
      rw [this, h1]
    rw [cutP_cons hp0, hf]
    congr 1
    have hd : p.drop t.raw.length = textOf seg := by rw [hpt, List.drop_left]
    rw [hd]
    refine cut_piece seg (textOf seg) Y L rfl ?_
    rw [← hd, ← List.drop_append_of_le_length hle]
    exact h2

end Go.Proofs.YtmjbaimccbkmpaaDoor.tok.st

namespace Go.Proofs.YtmjbaimccbkmpaaDoor.rul
open Go.RowKit Go.Proofs.YtmjbaimccbkmpaaDoor.base Go.Proofs.YtmjbaimccbkmpaaDoor.tok
set_option linter.unusedVariables false

abbrev tkB : Tk := ⟨8, [32], [], 0⟩
theorem stop_32 : st.Stop 32 := by unfold st.Stop; decide

end Go.Proofs.YtmjbaimccbkmpaaDoor.rul

namespace Go.Proofs.YtmjbaimccbkmpaaDoor.rul
open Go.RowKit Go.Proofs.YtmjbaimccbkmpaaDoor.base Go.Proofs.YtmjbaimccbkmpaaDoor.tok
set_option linter.unusedVariables false

theorem nil_or_snoc (L : List Tk) : L = [] ∨ ∃ K t, L = K ++ [t] := by
  rcases List.eq_nil_or_concat L with h | ⟨K, t, h⟩
  · exact .inl h
  · exact .inr ⟨K, t, by rw [h, List.concat_eq_append]⟩
theorem drop_none (p : Tk → Bool) : ∀ (L : List Tk), L.dropWhile p = [] → ∀ t ∈ L, p t = true
  | [], _, t, h => by cases h
  | a :: L, h, t, ht => by
    by_cases ha : p a = true
    · rw [List.dropWhile_cons_of_pos ha] at h
      rcases List.mem_cons.1 ht with rfl | ht
      · exact ha
      · exact drop_none p L h t ht
    · rw [List.dropWhile_cons_of_neg ha] at h
      cases h
theorem take_mem (p : Tk → Bool) : ∀ (L : List Tk) (t : Tk), t ∈ L.takeWhile p → p t = true
  | [], t, h => by cases h
  | a :: L, t, h => by
    by_cases ha : p a = true
    · rw [List.takeWhile_cons_of_pos ha] at h
      rcases List.mem_cons.1 h with rfl | h
      · exact ha
      · exact take_mem p L t h
    · rw [List.takeWhile_cons_of_neg ha] at h
      cases h
/-- one blank for what is silent in a row; is one there? -/
def sqF : Bool → List Tk → List Tk
  | _, [] => []
  | f, t :: L => if silP t then (if f then sqF true L else tkB :: sqF true L) else t :: sqF false L

theorem sq_cons (f : Bool) (t : Tk) (L : List Tk) : sqF f (t :: L) = if silP t then (if f then sqF true L else tkB :: sqF true L) else t :: sqF false L := by rw [sqF]
theorem text_app (A B : List Tk) : textOf (A ++ B) = textOf A ++ textOf B := by simp [textOf]
theorem text_cons (t : Tk) (L : List Tk) : textOf (t :: L) = t.raw ++ textOf L := by simp [textOf]
theorem text_nil : textOf [] = [] := rfl

/-- does neither end be silent? -/
def Solid (V : List Tk) : Prop := (∀ t, V.head? = some t → silP t = false) ∧ ∀ t, V.getLast? = some t → silP t = false
theorem solid_id {V : List Tk} (h : Solid V) : solidP V = V := by
  have h1 : V.dropWhile silP = V := by
    cases V with
    | nil => rfl
    | cons t L => rw [List.dropWhile_cons_of_neg (by simpa using h.1 t rfl)]
  unfold solidP
  rw [h1]
  rcases nil_or_snoc V with rfl | ⟨L, t, rfl⟩
  · rfl
  · rw [endP_snoc, if_neg (by simpa using h.2 t (by simp))]
theorem drop_head (L : List Tk) : ∀ t, (L.dropWhile silP).head? = some t → silP t = false := by
  intro t ht
  induction L with
  | nil => simp at ht
  | cons a L ih =>
    by_cases ha : silP a = true
    · rw [List.dropWhile_cons_of_pos ha] at ht; exact ih ht
    · rw [List.dropWhile_cons_of_neg ha] at ht
      obtain rfl : a = t := by simpa using ht
      simpa using ha
theorem endP_last : ∀ (n : Nat) (L : List Tk), L.length ≤ n → (∀ t, (endP L).getLast? = some t → silP t = false) ∧ ∃ B, L = endP L ++ B ∧ ∀ t ∈ B, silP t = true := by
  intro n
  induction n with
  | zero =>
    intro L h
    obtain rfl := List.eq_nil_of_length_eq_zero (Nat.le_zero.1 h)
    exact ⟨fun t ht => by simp [endP_nil] at ht, [], rfl, fun t ht => by cases ht⟩
  | succ n ih =>
    intro L h
    rcases nil_or_snoc L with rfl | ⟨K, t, rfl⟩
    · exact ⟨fun t ht => by simp [endP_nil] at ht, [], rfl, fun t ht => by cases ht⟩
    · obtain ⟨h1, B, h2, h3⟩ := ih K (by simp at h; omega)
      rw [endP_snoc]
      by_cases ht : silP t = true
      · rw [if_pos ht]
        refine ⟨h1, B ++ [t], ?_, ?_⟩
        · rw [← List.append_assoc, ← h2]
        · intro x hx
          rcases List.mem_append.1 hx with hx | hx
          · exact h3 x hx
          · obtain rfl : x = t := by simpa using hx
            exact ht
      · rw [if_neg ht]
        refine ⟨fun x hx => ?_, [], by simp, fun x hx => by cases hx⟩
        obtain rfl : t = x := by simpa using hx
        simpa using ht
theorem drop_split (L : List Tk) : ∃ A, L = A ++ L.dropWhile silP ∧ ∀ t ∈ A, silP t = true :=
  ⟨L.takeWhile silP, (List.takeWhile_append_dropWhile).symm, fun t ht => take_mem silP L t ht⟩
theorem solid_split (L : List Tk) : Solid (solidP L) ∧ ∃ A B, L = A ++ solidP L ++ B ∧ (∀ t ∈ A, silP t = true) ∧ ∀ t ∈ B, silP t = true := by
  obtain ⟨A, hA, hA2⟩ := drop_split L
  obtain ⟨h1, B, hB, hB2⟩ := endP_last _ (L.dropWhile silP) (Nat.le_refl _)
  refine ⟨⟨fun t ht => ?_, h1⟩, A, B, ?_, hA2, hB2⟩
  · have hd := drop_head L
    unfold solidP at ht
    cases he : endP (L.dropWhile silP) with
    | nil => rw [he] at ht; simp at ht
    | cons a K =>
      rw [he] at ht
      obtain rfl : a = t := by simpa using ht
      refine hd a ?_
      rw [hB, he]
      rfl
  · unfold solidP
    rw [List.append_assoc, ← hB]
    exact hA

theorem sq_seg : ∀ (seg rest : List Tk), (∀ t ∈ seg, silP t = false) → ∀ f, seg ≠ [] → sqF f (seg ++ rest) = seg ++ sqF false rest
  | [], rest, h, f, h0 => absurd rfl h0
  | t :: seg, rest, h, f, _ => by
    have ht : ¬ silP t = true := by simp [h t (by simp)]
    rw [List.cons_append, sqF, if_neg ht, List.cons_append]
    congr 1
    by_cases hs : seg = []
    · subst hs; rfl
    · exact sq_seg seg rest (fun x hx => h x (by simp [hx])) false hs
theorem sq_drop : ∀ (L : List Tk), sqF true L = sqF true (L.dropWhile silP)
  | [] => rfl
  | t :: L => by
    by_cases ht : silP t = true
    · rw [List.dropWhile_cons_of_pos ht, sqF, if_pos ht, if_pos rfl]
      exact sq_drop L
    · rw [List.dropWhile_cons_of_neg ht]
theorem sq_same {L : List Tk} (h : ∀ t, L.head? = some t → silP t = false) (f : Bool) : sqF f L = sqF false L := by
  cases L with
  | nil => rfl
  | cons t L =>
    have ht : ¬ silP t = true := by simp [h t rfl]
    rw [sqF, sqF, if_neg ht, if_neg ht]
theorem sq_app {c : Tk} (hc : silP c = false) (L : List Tk) : ∀ (I : List Tk) (f : Bool), sqF f (I ++ c :: L) = sqF f I ++ c :: sqF false L
  | [], f => by rw [List.nil_append, sq_cons, if_neg (by simp [hc])]; rfl
  | t :: I, f => by
    rw [List.cons_append, sqF, sqF]
    split
    · split
      · exact sq_app hc L I true
      · rw [sq_app hc L I true]; rfl
    · rw [sq_app hc L I false]; rfl
theorem sq_again : ∀ (L : List Tk) (f : Bool), sqF f (sqF f L) = sqF f L
  | [], f => rfl
  | t :: L, f => by
    have hb : silP tkB = true := rfl
    rw [sqF]
    by_cases ht : silP t = true
    · rw [if_pos ht]
      cases f with
      | true => simp only [if_true]; exact sq_again L true
      | false =>
        simp only [Bool.false_eq_true, if_false]
        rw [sqF, if_pos hb, if_neg (by decide), sq_again L true]
    · rw [if_neg ht, sqF, if_neg ht, sq_again L false]
theorem sq_filter : ∀ (L : List Tk) (f : Bool), (sqF f L).filter (fun t => !silP t) = L.filter (fun t => !silP t)
  | [], f => rfl
  | t :: L, f => by
    rw [sqF]
    by_cases ht : silP t = true
    · rw [if_pos ht, List.filter_cons_of_neg (by simp [ht])]
      split
      · exact sq_filter L true
      · rw [List.filter_cons_of_neg (by decide)]; exact sq_filter L true
    · rw [if_neg ht, List.filter_cons_of_pos (by simp [ht]), List.filter_cons_of_pos (by simp [ht]), sq_filter L false]
theorem sq_solid {V : List Tk} (h : Solid V) : Solid (sqF false V) := by
  constructor
  · intro t ht
    cases V with
    | nil => simp [sqF] at ht
    | cons a L =>
      have ha := h.1 a rfl
      rw [sqF, if_neg (by simp [ha])] at ht
      obtain rfl : a = t := by simpa using ht
      exact ha
  · intro t ht
    rcases nil_or_snoc V with rfl | ⟨L, a, rfl⟩
    · simp [sqF] at ht
    · have ha := h.2 a (by simp)
      rw [sq_app ha [] L false] at ht
      simp only [sqF, List.getLast?_append, List.getLast?_singleton, Option.some_or] at ht
      obtain rfl : a = t := by simpa using ht
      exact ha
theorem sq_nil {V : List Tk} (h : Solid V) (he : sqF false V = []) : V = [] := by
  cases V with
  | nil => rfl
  | cons a L =>
    rw [sqF, if_neg (by simp [h.1 a rfl])] at he
    cases he

/-- the text that is told of tokens -/
theorem head_sq : ∀ (L : List Tk) (out : Bs) (gap : Bool), out ≠ [] → (∀ t, L.getLast? = some t → silP t = false) → (L = [] → gap = false) →
    headF L out gap = out ++ textOf (if gap then tkB :: sqF true L else sqF false L)
  | [], out, gap, h0, hl, hg => by
    rw [hg rfl]
    simp [headF, sqF, text_nil]
  | t :: L, out, gap, h0, hl, hg => by
    have hlt : ∀ x, L.getLast? = some x → silP x = false := fun x hx => hl x (by
      cases L with
      | nil => simp at hx
      | cons a K => rw [List.getLast?_cons_cons]; exact hx)
    by_cases ht : silP t = true
    · have hL : L ≠ [] := fun e => by
        subst e
        have := hl t rfl
        rw [ht] at this; cases this
      have hd : decide (0 < out.length) = true := by
        have := List.length_pos_iff.2 h0
        simpa using this
      rw [headF, if_pos ht, hd, head_sq L out true h0 hlt (fun e => absurd e hL)]
      cases gap with
      | true => simp only [if_true]; rw [sqF, if_pos ht, if_pos rfl]
      | false => simp only [if_true, Bool.false_eq_true, if_false]; rw [sqF, if_pos ht, if_neg (by decide)]
    · rw [headF, if_neg ht]
      cases gap with
      | true =>
        simp only [if_true]
        rw [head_sq L _ false (by simp) hlt (fun _ => rfl)]
        simp only [Bool.false_eq_true, if_false]
        rw [sqF, if_neg ht, text_cons, text_cons]
        simp
      | false =>
        simp only [Bool.false_eq_true, if_false]
        rw [head_sq L _ false (by simp [h0]) hlt (fun _ => rfl)]
        simp only [Bool.false_eq_true, if_false]
        rw [sqF, if_neg ht, text_cons]
        simp
theorem head_is {V : List Tk} (h : Solid V) (hr : ∀ t ∈ V, t.raw ≠ []) : headP V = textOf (sqF false V) := by
  unfold headP
  cases V with
  | nil => rfl
  | cons t L =>
    have ht : ¬ silP t = true := by simp [h.1 t rfl]
    rw [headF, if_neg ht, sqF, if_neg ht, text_cons]
    simp only [Bool.false_eq_true, if_false, List.nil_append]
    rw [head_sq L t.raw false (hr t (by simp)) (fun x hx => h.2 x (by
      cases L with
      | nil => simp at hx
      | cons a K => rw [List.getLast?_cons_cons]; exact hx)) (fun _ => rfl)]
    rfl

/-- the rest of a text that is cut -/
theorem cut_tail : ∀ (pre L : List Tk) (x : Bs), cutP x = pre ++ L → cutP (textOf L) = L
  | [], L, x, h => by
    have h1 : textOf L = x := by
      have := cut_text x
      rwa [h] at this
    rw [h1, h]
    rfl
  | t :: pre, L, x, h => by
    have hne : x ≠ [] := fun e => by rw [e, cutP_nil] at h; cases h
    rw [cutP_cons hne] at h
    injection h with _ h2
    exact cut_tail pre L _ h2

theorem take_all (V : List Tk) : ∀ t ∈ V.takeWhile (fun t => !silP t), silP t = false := fun t ht => by
  have := take_mem _ V t ht
  simpa using this
theorem recut {s : UInt8} (hS : st.Stop s) (m : Bs) : ∀ (n : Nat) (V post : List Tk), V.length ≤ n → cutP (textOf (V ++ post)) = V ++ post → (∀ t ∈ V, ¬ t.k = 6) → Solid V → V ≠ [] →
    cutP (textOf (sqF false V) ++ s :: m) = sqF false V ++ cutP (s :: m)
  | 0, V, post, hn, hc, hb, hs, h0 => absurd (List.eq_nil_of_length_eq_zero (Nat.le_zero.1 hn)) h0
  | n + 1, V, post, hn, hc, hb, hs, h0 => by
    have hsplit : V = V.takeWhile (fun t => !silP t) ++ V.dropWhile (fun t => !silP t) := List.takeWhile_append_dropWhile.symm
    have hall := take_all V
    have hseg0 : V.takeWhile (fun t => !silP t) ≠ [] := by
      cases V with
      | nil => exact absurd rfl h0
      | cons a L =>
        rw [List.takeWhile_cons_of_pos (by simp [hs.1 a rfl])]
        simp
    have hrest : ∀ b r, V.dropWhile (fun t => !silP t) = b :: r → silP b = true := by
      intro b r hbr
      have hx := List.head?_dropWhile_not (fun t => !silP t) V
      rw [hbr] at hx
      simpa using hx
    generalize V.takeWhile (fun t => !silP t) = seg at *
    generalize V.dropWhile (fun t => !silP t) = rest at *
    subst hsplit
    have hp : cutP (textOf seg) = seg := st.cut_piece seg (textOf seg) (textOf (rest ++ post)) (rest ++ post) rfl (by
      rw [← text_app, ← List.append_assoc]
      rw [hc, List.append_assoc])
    have hp0 : textOf seg ≠ [] := fun e => by
      rw [e, cutP_nil] at hp
      exact hseg0 hp.symm
    have hE : tok.Ends (textOf seg) := by
      intro t ht
      rw [hp] at ht
      have hm := List.mem_of_getLast? ht
      have h1 := hall t hm
      have h2 := hb t (List.mem_append_left _ hm)
      simp only [silP, Bool.or_eq_false_iff, decide_eq_false_iff_not] at h1
      exact ⟨h2, h1.2, h1.1⟩
    rw [sq_seg seg rest hall false hseg0]
    cases rest with
    | nil =>
      simp only [sqF, List.append_nil]
      rw [st.cut_apart hS m _ (textOf seg) (Nat.le_refl _) hp0 hE, hp]
    | cons b r =>
      have hbs := hrest b r rfl
      have hV' : r.dropWhile silP ≠ [] := fun e => by
        have hall2 : ∀ t ∈ b :: r, silP t = true := fun t ht => by
          rcases List.mem_cons.1 ht with rfl | ht
          · exact hbs
          · exact drop_none silP r e t ht
        obtain ⟨z, hz⟩ : ∃ z, (b :: r).getLast? = some z := ⟨_, List.getLast?_eq_some_getLast (by simp)⟩
        have h1 := hs.2 z (by rw [List.getLast?_append, hz]; rfl)
        rw [hall2 z (List.mem_of_getLast? hz)] at h1
        cases h1
      obtain ⟨A, hA, hA2⟩ := drop_split r
      have hV'l : (r.dropWhile silP).length ≤ n := by
        have h1 := congrArg List.length hA
        have h2 := List.length_pos_iff.2 hseg0
        simp only [List.length_append, List.length_cons] at h1 hn
        omega
      have hsol : Solid (r.dropWhile silP) := by
        refine ⟨drop_head r, fun t ht => hs.2 t ?_⟩
        rw [List.getLast?_append, show b :: r = (b :: A) ++ r.dropWhile silP by rw [List.cons_append, ← hA], List.getLast?_append, ht]
        rfl
      have hmem : ∀ t ∈ r.dropWhile silP, ¬ t.k = 6 := fun t ht => hb t (List.mem_append_right _ (List.mem_cons_of_mem _ ((List.dropWhile_sublist silP).subset ht)))
      have hcut : cutP (textOf (r.dropWhile silP ++ post)) = r.dropWhile silP ++ post := by
        refine cut_tail (seg ++ b :: A) _ _ (hc.trans ?_)
        rw [List.append_assoc, List.append_assoc, List.cons_append, List.cons_append, ← List.append_assoc A, ← hA]
      have ih := recut hS m n (r.dropWhile silP) post hV'l hcut hmem hsol hV'
      have hsq : sqF false (b :: r) = tkB :: sqF false (r.dropWhile silP) := by
        rw [sqF, if_pos hbs, if_neg (by decide), sq_drop r, sq_same hsol.1 true]
      rw [hsq]
      generalize r.dropWhile silP = V' at *
      have hX : cutP (32 :: (textOf (sqF false V') ++ s :: m)) = tkB :: (sqF false V' ++ cutP (s :: m)) := by
        rw [← ih]
        refine cut_blank (by simp) ?_
        intro hk
        have hne : textOf (sqF false V') ++ s :: m ≠ [] := by simp
        rw [cutP_cons hne] at ih
        cases hq : sqF false V' with
        | nil => exact hV' (sq_nil hsol hq)
        | cons a K =>
          rw [hq] at ih hk
          injection ih with h1 h2
          have := (sq_solid hsol).1 a (by rw [hq]; rfl)
          rw [← h1] at this
          simp only [silP, hk, decide_true, Bool.true_or] at this
          cases this
      rw [text_app, text_cons]
      show cutP (textOf seg ++ ([32] ++ textOf (sqF false V')) ++ s :: m) = _
      rw [List.append_assoc, List.append_assoc, List.singleton_append]
      rw [st.cut_apart stop_32 _ _ (textOf seg) (Nat.le_refl _) hp0 hE, hp, hX]
      simp

end Go.Proofs.YtmjbaimccbkmpaaDoor.rul

namespace Go.Proofs.YtmjbaimccbkmpaaDoor.vrs
open Go.RowKit Go.Proofs.YtmjbaimccbkmpaaDoor.base Go.Proofs.YtmjbaimccbkmpaaDoor.tok Go.Proofs.YtmjbaimccbkmpaaDoor.rul
set_option linter.unusedVariables false

/-- on a set of names that nothing leaves, two lists that tell the same have the same rings -/
theorem ring_same {R R' : List Vr} {Q : Bs → Prop} (hs : ∀ a, Q a → valP R a = valP R' a) (hc : ∀ a b, Q a → Stp R a b → Q b) {n : Bs} (hn : Q n) : Ring R n ↔ Ring R' n := by
  have e : ∀ a b, Q a → (Stp R a b ↔ Stp R' a b) := fun a b ha => by
    unfold Stp
    rw [hs a ha]
  constructor
  · intro h C h1 h2
    exact (h (fun x => Q x ∧ C x) (fun x hx => ⟨hc n x hn hx, h1 x ((e n x hn).1 hx)⟩) (fun x y ⟨qx, cx⟩ hxy => ⟨hc x y qx hxy, h2 x y cx ((e x y qx).1 hxy)⟩)).2
  · intro h C h1 h2
    exact (h (fun x => Q x ∧ C x) (fun x hx => ⟨hc n x hn ((e n x hn).2 hx), h1 x ((e n x hn).2 hx)⟩) (fun x y ⟨qx, cx⟩ hxy => ⟨hc x y qx ((e x y qx).2 hxy), h2 x y cx ((e x y qx).2 hxy)⟩)).2
theorem last_app (R S : List Vr) (n : Bs) (h : ∀ v ∈ S, v.1 ≠ n) : lastP (R ++ S) n = lastP R n := by
  unfold lastP
  rw [List.reverse_append, List.find?_append]
  have : S.reverse.find? (fun p => decide (p.1 = n)) = none := by
    rw [List.find?_eq_none]
    intro x hx
    simpa using h x (List.mem_reverse.1 hx)
  rw [this]
  rfl
theorem last_rev {R : List Vr} (h : Uq R) (n : Bs) : lastP R.reverse n = lastP R n := by
  have hr : Uq R.reverse := by
    unfold Uq
    rw [List.pairwise_reverse]
    exact h.imp fun hab => fun e => hab e.symm
  rcases Classical.em (∃ v ∈ R, v.1 = n) with ⟨v, hv, rfl⟩ | hno
  · rw [last_uq h hv, last_uq hr (List.mem_reverse.2 hv)]
  · rw [last_no (fun v hv e => hno ⟨v, hv, e⟩), last_no (fun v hv e => hno ⟨v, List.mem_reverse.1 hv, e⟩)]
/-- the rings of a list hang on no order -/
theorem ring_rev {R : List Vr} (h : Uq R) (n : Bs) : Ring R.reverse n ↔ Ring R n :=
  ring_same (Q := fun _ => True) (fun a _ => by unfold valP; rw [last_rev h]) (fun _ _ _ _ => trivial) trivial
theorem waits_rev (L : List Vr) (v : Vr) : waitsP L.reverse v = waitsP L v := by
  unfold waitsP
  congr 1
  funext n
  rw [List.any_reverse]
theorem left_rev (p : Bs → Bool) (R : List Vr) : leftP p R.reverse = (leftP p R).reverse := by
  unfold leftP
  rw [List.filter_reverse]
theorem left_app (p : Bs → Bool) (R S : List Vr) (h : ∀ v ∈ S, p v.1 = true) : leftP p (R ++ S) = leftP p R := by
  unfold leftP
  have e : S.filter (fun v => !p v.1) = [] := List.filter_eq_nil_iff.2 (fun v hv => by rw [h v hv]; simp)
  rw [List.filter_append, e, List.append_nil]
theorem out_app (K R S : List Vr) (h : ∀ v ∈ S, ∀ u ∈ K, u.1 ≠ v.1) : outP K (R ++ S) = outP K R := by
  unfold outP
  rw [List.filterMap_append]
  have : S.filterMap (fun v => (lastP K v.1).map fun s => (v.1, s)) = [] := by
    rw [List.filterMap_eq_nil_iff]
    intro v hv
    rw [last_no (h v hv)]
    rfl
  rw [this, List.append_nil]
/-- what is known has a name of what was left -/
theorem in_names (L : List Vr) : ∀ (M K N : List Vr), ∀ q ∈ (M.foldl (inStep L) (K, N)).1, q ∈ K ∨ ∃ u ∈ M, u.1 = q.1
  | [], K, N, q, hq => .inl hq
  | v :: M, K, N, q, hq => by
    rw [List.foldl_cons, inStep] at hq
    split at hq
    · rcases in_names L M _ _ q hq with h | ⟨u, hu, e⟩
      · exact .inl h
      · exact .inr ⟨u, List.mem_cons_of_mem _ hu, e⟩
    · rcases in_names L M _ _ q hq with h | ⟨u, hu, e⟩
      · obtain ⟨r, is, hf⟩ : ∃ r is, fillP K v.2 = (r, is) := ⟨_, _, rfl⟩
        cases is with
        | false => rw [addK_not hf] at h; exact .inl h
        | true =>
          rw [addK_is hf] at h
          rcases List.mem_append.1 h with h | h
          · exact .inl h
          · exact .inr ⟨v, List.mem_cons_self .., by rw [List.mem_singleton.1 h]⟩
      · exact .inr ⟨u, List.mem_cons_of_mem _ hu, e⟩
theorem res_names : ∀ (d : Nat) (K L : List Vr), ∀ q ∈ resF d K L, q ∈ K ∨ ∃ u ∈ L, u.1 = q.1
  | 0, K, L, q, hq => .inl hq
  | d + 1, K, L, q, hq => by
    rw [resF] at hq
    split at hq
    · exact .inl hq
    · rcases res_names d _ _ q hq with h | ⟨u, hu, e⟩
      · exact in_names L L K [] q h
      · exact .inr ⟨u, (inP_sub L K).subset hu, e⟩

/-! ### a name without a backslash is a part of its text -/
theorem esc_no {c d : UInt8} {r : Bs} (h : c ≠ 92) : escP (c :: d :: r) = false := by
  have h2 : ¬ nv c = 92 := fun e => h (UInt8.toNat_inj.1 (by simp only [nv] at e; have : c.toNat = 92 := by omega
                                                             exact this))
  show (decide (nv c = 92) && decide (nv d ≠ 10)) = false
  rw [decide_eq_false h2, Bool.false_and]
theorem name_plain : ∀ (n : Nat) (l : Bs), l.length ≤ n → 92 ∉ l → (nameP l).1 = l.take (nameP l).2
  | 0, l, h, _ => by
    obtain rfl := List.eq_nil_of_length_eq_zero (Nat.le_zero.1 h)
    simp [nameP]
  | n + 1, [], h, _ => by simp [nameP]
  | n + 1, [c], h, _ => by
    rw [nameP]
    split <;> simp
  | n + 1, c :: d :: r, h, hno => by
    have hc : c ≠ 92 := fun e => hno (e ▸ List.mem_cons_self ..)
    have ih := name_plain n (d :: r) (by simpa using h) (fun hm => hno (List.mem_cons_of_mem _ hm))
    rw [nameP, esc_no hc]
    simp only [Bool.false_eq_true, if_false]
    split
    · simp only [List.take_succ_cons, ← ih]
    · simp

theorem first_name {l : Bs} (h : (firstP l).k = 1) : (firstP l).val = (nameP l).1 := by
  unfold firstP at h ⊢
  split at h
  · exact absurd h (by simp)
  · rename_i h1
    rw [if_neg h1]
    split at h
    · exact absurd h (by simp [noteP])
    · rename_i h2
      rw [if_neg h2]
      split at h
      · exfalso
        match l, h with
        | [], h => exact absurd h (by simp [textP])
        | c :: r, h =>
          simp only [textP] at h
          have := textR_kind c _ r (Nat.le_refl _)
          omega
      · rename_i h3
        rw [if_neg h3]
        split at h
        · exact absurd h (by simp [namedP])
        · rename_i h4
          rw [if_neg h4]
          split at h
          · exact absurd h (by simp [namedP])
          · rename_i h5
            rw [if_neg h5]
            split at h
            · exfalso
              revert h
              simp only [numTkP]
              split
              · simp
              · split <;> simp
            · rename_i h6
              rw [if_neg h6]
              split at h
              · rename_i h7
                rw [if_pos h7]
                unfold wordP at h ⊢
                split at h
                · exact absurd h (by simp)
                · rename_i h8
                  rw [if_neg h8]
                  rfl
              · exfalso
                revert h
                unfold oneK
                split
                · split
                  · simp
                  · split
                    · simp
                    · split <;> simp
                · simp

theorem name_part : ∀ (n : Nat) (l : Bs), l.length ≤ n → 92 ∉ l → ∀ t ∈ cutP l, t.k = 1 → ∃ a b, l = a ++ t.val ++ b
  | 0, l, h, _, t, ht, _ => by
    obtain rfl := List.eq_nil_of_length_eq_zero (Nat.le_zero.1 h)
    rw [cutP_nil] at ht
    exact absurd ht List.not_mem_nil
  | n + 1, l, h, hno, t, ht, hk => by
    by_cases h0 : l = []
    · subst h0
      rw [cutP_nil] at ht
      exact absurd ht List.not_mem_nil
    · rw [cutP_cons h0] at ht
      have hp := (first_pre l h0).2
      have hl : 0 < l.length := List.length_pos_iff.2 h0
      rcases List.mem_cons.1 ht with rfl | ht
      · refine ⟨[], l.drop (nameP l).2, ?_⟩
        rw [first_name hk, name_plain _ l (Nat.le_refl _) hno, List.nil_append, List.take_append_drop]
      · obtain ⟨a, b, e⟩ := name_part n _ (by rw [List.length_drop]; omega) (fun hm => hno (List.mem_of_mem_drop hm)) t ht hk
        refine ⟨l.take (firstP l).raw.length ++ a, b, ?_⟩
        have := List.take_append_drop (firstP l).raw.length l
        rw [e] at this
        simpa using this.symm
theorem next_kind {L : List Tk} {x : Bs} (h : x ∈ nextP L) : ∃ t ∈ L, t.k = 1 ∧ x = t.val := by
  unfold nextP at h
  split at h
  · exact (List.not_mem_nil h).elim
  · rename_i t M e
    split at h
    · rename_i hk
      exact ⟨t, (List.dropWhile_suffix silP).subset (by rw [e]; exact List.mem_cons_self ..), hk, List.mem_singleton.1 h⟩
    · exact (List.not_mem_nil h).elim
theorem onL_kind {x : Bs} : ∀ {L : List Tk}, x ∈ onL L → ∃ t ∈ L, t.k = 1 ∧ x = t.val
  | [], h => (List.not_mem_nil h).elim
  | t :: L, h => by
    rw [onL] at h
    rcases List.mem_append.1 h with h | h
    · split at h
      · obtain ⟨u, hu, e⟩ := next_kind h
        exact ⟨u, List.mem_cons_of_mem _ hu, e⟩
      · exact (List.not_mem_nil h).elim
    · obtain ⟨u, hu, e⟩ := onL_kind h
      exact ⟨u, List.mem_cons_of_mem _ hu, e⟩
/-- a name on which a value without a backslash hangs is a part of the value -/
theorem on_part {s x : Bs} (h : x ∈ onP s) (hno : 92 ∉ s) : ∃ a b, s = a ++ x ++ b := by
  obtain ⟨t, ht, hk, rfl⟩ := onL_kind h
  exact name_part _ s (Nat.le_refl _) hno t ht hk

theorem hasT_iff {u : Bs} : ∀ {l : Bs}, hasT u l = true ↔ ∃ a b, l = a ++ u ++ b
  | [] => by
    rw [hasT, List.isEmpty_iff]
    constructor
    · rintro rfl; exact ⟨[], [], rfl⟩
    · rintro ⟨a, b, e⟩
      have := congrArg List.length e
      simp at this
      exact List.eq_nil_of_length_eq_zero (by omega)
  | c :: r => by
    rw [hasT, Bool.or_eq_true, List.isPrefixOf_iff_prefix, hasT_iff (l := r)]
    constructor
    · rintro (⟨b, e⟩ | ⟨a, b, e⟩)
      · exact ⟨[], b, e.symm⟩
      · exact ⟨c :: a, b, by rw [e]; rfl⟩
    · rintro ⟨a, b, e⟩
      cases a with
      | nil => exact .inl ⟨b, e.symm⟩
      | cons x a =>
        injection e with h1 h2
        exact .inr ⟨a, b, h2⟩
theorem hasT_part {u s a x b : Bs} (h : s = a ++ x ++ b) (hx : hasT u x = true) : hasT u s = true := by
  obtain ⟨c, d, rfl⟩ := hasT_iff.1 hx
  exact hasT_iff.2 ⟨a ++ c, d ++ b, by rw [h]; simp⟩
/-- a value that holds no such text hangs on no name that holds it -/
theorem on_free {u s x : Bs} (h : x ∈ onP s) (hno : 92 ∉ s) (hu : hasT u s = false) : hasT u x = false := by
  obtain ⟨a, b, e⟩ := on_part h hno
  cases hx : hasT u x with
  | false => rfl
  | true => rw [hasT_part e hx] at hu; cases hu

theorem cnt_app {V S : List Vr} (hu : Uq (cntP V ++ S)) (hp : ∀ v ∈ S, Lib.hasPrefix v.1 [45, 45] = true) (hl : (cntP V ++ S).length ≤ 20) : cntP (V ++ S) = cntP V ++ S := by
  show (V ++ S).foldl cntStep [] = _
  rw [List.foldl_append]
  exact cnt_id S (cntP V) hu hp hl

end Go.Proofs.YtmjbaimccbkmpaaDoor.vrs

namespace Go.Proofs.YtmjbaimccbkmpaaDoor.vrs
open Go.RowKit Go.Proofs.YtmjbaimccbkmpaaDoor.base Go.Proofs.YtmjbaimccbkmpaaDoor.tok Go.Proofs.YtmjbaimccbkmpaaDoor.rul
set_option linter.unusedVariables false

/-- ring -/
def ringT : Bs := [114, 105, 110, 103]
/-- the name of ring i: two hyphens, ring, a letter -/
def ringN (i : Nat) : Bs := [45, 45, 114, 105, 110, 103] ++ [UInt8.ofNat (97 + i)]
/-- the value that asks for ring i -/
def ringV (i : Nat) : Bs := [120, 32, 118, 97, 114, 40, 45, 45, 121, 44, 32, 118, 97, 114, 40, 45, 45, 114, 105, 110, 103] ++ [UInt8.ofNat (97 + i)] ++ [41, 41]
def ringL (i : Nat) : List Tk := [⟨1, [120], [120], 0⟩, ⟨8, [32], [], 0⟩, ⟨2, [118, 97, 114, 40], [118, 97, 114], 0⟩, ⟨1, [45, 45, 121], [45, 45, 121], 0⟩, ⟨12, [44], [], 0⟩, ⟨8, [32], [], 0⟩, ⟨2, [118, 97, 114, 40], [118, 97, 114], 0⟩, ⟨1, ringN i, ringN i, 0⟩, ⟨11, [41], [], 0⟩, ⟨11, [41], [], 0⟩]
def ringS (k : Nat) : List Vr := (List.range (k + 1)).map fun i => (ringN i, ringV ((i + 1) % (k + 1)))

set_option maxRecDepth 100000 in
theorem cut_ring0 : cutP (ringV 0) = ringL 0 := cut_eval (by decide +kernel)
set_option maxRecDepth 100000 in
theorem cut_ring1 : cutP (ringV 1) = ringL 1 := cut_eval (by decide +kernel)
set_option maxRecDepth 100000 in
theorem cut_ring2 : cutP (ringV 2) = ringL 2 := cut_eval (by decide +kernel)
set_option maxRecDepth 100000 in
theorem cut_ring3 : cutP (ringV 3) = ringL 3 := cut_eval (by decide +kernel)
theorem onL_ring0 : ringN 0 ∈ onL (ringL 0) := by decide +kernel
theorem onL_ring1 : ringN 1 ∈ onL (ringL 1) := by decide +kernel
theorem onL_ring2 : ringN 2 ∈ onL (ringL 2) := by decide +kernel
theorem onL_ring3 : ringN 3 ∈ onL (ringL 3) := by decide +kernel
theorem on_ring {i : Nat} (h : i < 4) : ringN i ∈ onP (ringV i) := by
  unfold onP
  match i, h with
  | 0, _ => rw [cut_ring0]; exact onL_ring0
  | 1, _ => rw [cut_ring1]; exact onL_ring1
  | 2, _ => rw [cut_ring2]; exact onL_ring2
  | 3, _ => rw [cut_ring3]; exact onL_ring3
theorem has_ringN (i : Nat) : hasT ringT (ringN i) = true := hasT_iff.2 ⟨[45, 45], [UInt8.ofNat (97 + i)], rfl⟩
theorem ringN_inj {i j : Nat} (hi : i < 4) (hj : j < 4) (h : ringN i = ringN j) : i = j := by
  have h2 : UInt8.ofNat (97 + i) = UInt8.ofNat (97 + j) := by
    unfold ringN at h
    have := List.append_cancel_left h
    injection this
  have := congrArg UInt8.toNat h2
  simp at this
  omega
theorem ringS_mem {k : Nat} {v : Vr} (h : v ∈ ringS k) : ∃ i, i ≤ k ∧ v = (ringN i, ringV ((i + 1) % (k + 1))) := by
  unfold ringS at h
  obtain ⟨i, hi, rfl⟩ := List.mem_map.1 h
  exact ⟨i, by have := List.mem_range.1 hi; omega, rfl⟩
theorem ringS_has {k i : Nat} (h : i ≤ k) : (ringN i, ringV ((i + 1) % (k + 1))) ∈ ringS k := List.mem_map.2 ⟨i, List.mem_range.2 (by omega), rfl⟩
theorem ringS_uq {k : Nat} (hk : k < 4) : Uq (ringS k) := by
  unfold ringS Uq
  rw [List.pairwise_map]
  refine List.Pairwise.imp_of_mem (fun {a b} ha hb hab => ?_) (List.nodup_range (n := k + 1))
  intro e
  have h1 := List.mem_range.1 ha
  have h2 := List.mem_range.1 hb
  exact hab (ringN_inj (by omega) (by omega) e)
theorem ringS_pre (k : Nat) : ∀ v ∈ ringS k, Lib.hasPrefix v.1 [45, 45] = true := fun v hv => by
  obtain ⟨i, -, rfl⟩ := ringS_mem hv
  rfl
theorem ringS_len (k : Nat) : (ringS k).length = k + 1 := by simp [ringS]
theorem ringS_val (k : Nat) : ∀ v ∈ ringS k, v.2.length ≤ 400 := fun v hv => by
  obtain ⟨i, -, rfl⟩ := ringS_mem hv
  show (ringV _).length ≤ 400
  simp [ringV]

/-- each name of the ring hangs on itself -/
theorem ring_in {R : List Vr} {k : Nat} (hk : k < 4) (hv : ∀ i, i ≤ k → lastP R (ringN i) = some (ringV ((i + 1) % (k + 1)))) {i : Nat} (hi : i ≤ k) : Ring R (ringN i) := by
  have st : ∀ i, i ≤ k → Stp R (ringN i) (ringN ((i + 1) % (k + 1))) := fun i hi => by
    unfold Stp valP
    rw [hv i hi]
    exact on_ring (by have := Nat.mod_lt (i + 1) (show k + 1 > 0 by omega); omega)
  have key : ∀ j, Rch R (ringN i) (ringN ((i + 1 + j) % (k + 1))) := fun j => by
    induction j with
    | zero => exact Rch.one (st i hi)
    | succ j ih =>
      have h := st ((i + 1 + j) % (k + 1)) (by have := Nat.mod_lt (i + 1 + j) (show k + 1 > 0 by omega); omega)
      have e : ((i + 1 + j) % (k + 1) + 1) % (k + 1) = (i + 1 + (j + 1)) % (k + 1) := by
        rw [Nat.mod_add_mod, Nat.add_assoc (i + 1)]
      rw [e] at h
      exact ih.step h
  have h := key k
  have e : (i + 1 + k) % (k + 1) = i := by
    rw [show i + 1 + k = i + (k + 1) by omega, Nat.add_mod_right, Nat.mod_eq_of_lt (by omega)]
  rw [e] at h
  exact h

theorem last_behind {R S : List Vr} (h : Uq S) {v : Vr} (hv : v ∈ S) : lastP (R ++ S) v.1 = some v.2 := by
  have h2 := last_uq h hv
  unfold lastP at h2 ⊢
  rw [List.reverse_append, List.find?_append]
  cases e : S.reverse.find? (fun p => decide (p.1 = v.1)) with
  | none => rw [e] at h2; cases h2
  | some x => rw [e] at h2; exact h2

theorem cntP_short (V : List Vr) : (cntP V).length ≤ V.length := by
  have key : ∀ (V out : List Vr), (V.foldl cntStep out).length ≤ out.length + V.length := by
    intro V
    induction V with
    | nil => exact fun out => Nat.le_refl _
    | cons v V ih =>
      intro out
      have h1 : (cntStep out v).length ≤ out.length + 1 := by
        unfold cntStep
        split
        · split
          · rw [List.length_set]; omega
          · split
            · rw [List.length_append, List.length_singleton]; omega
            · omega
        · omega
      have := ih (cntStep out v)
      rw [List.foldl_cons, List.length_cons]
      omega
  have h := key V []
  rw [List.length_nil, Nat.zero_add] at h
  exact h

/-- of names and values that hold no such text: with a ring behind they are told as without -/
theorem ring_out {V : List Vr} {k : Nat} {p q : Bs → Bool} (hk : k < 4) (hl : V.length ≤ 15) (hV : ∀ v ∈ V, hasT ringT v.2 = false ∧ 92 ∉ v.2 ∧ hasT ringT v.1 = false)
    (hp : ∀ n, p n = true ↔ Ring (cntP (V ++ ringS k)) n) (hq : ∀ n, q n = true ↔ Ring (cntP V) n) : resP p (cntP (V ++ ringS k)) = resP q (cntP V) := by
  have hC : ∀ v ∈ cntP V, hasT ringT v.2 = false ∧ 92 ∉ v.2 ∧ hasT ringT v.1 = false := fun v hv => hV v (cnt_mem v hv)
  have hlen : (cntP V).length ≤ 15 := Nat.le_trans (cntP_short V) hl
  have hne : ∀ v ∈ ringS k, ∀ u ∈ cntP V, u.1 ≠ v.1 := fun v hv u hu e => by
    obtain ⟨i, -, rfl⟩ := ringS_mem hv
    have h1 := (hC u hu).2.2
    rw [e] at h1
    have h2 := has_ringN i
    rw [h1] at h2
    cases h2
  have hu : Uq (cntP V ++ ringS k) := List.pairwise_append.2 ⟨cnt_uq V, ringS_uq hk, fun a ha b hb => hne b hb a ha⟩
  have e1 : cntP (V ++ ringS k) = cntP V ++ ringS k := cnt_app hu (ringS_pre k) (by rw [List.length_append, ringS_len]; omega)
  rw [e1] at hp ⊢
  have hin : ∀ v ∈ ringS k, p v.1 = true := fun v hv => by
    obtain ⟨i, hi, rfl⟩ := ringS_mem hv
    exact (hp _).2 (ring_in hk (fun j hj => last_behind (ringS_uq hk) (ringS_has hj)) hi)
  have hsame : ∀ n, hasT ringT n = false → p n = q n := fun n hn => by
    rw [Bool.eq_iff_iff, hp, hq]
    have hval : ∀ a, hasT ringT a = false → valP (cntP V ++ ringS k) a = valP (cntP V) a := fun a ha => by
      unfold valP
      rw [last_app]
      intro v hv e
      obtain ⟨i, -, rfl⟩ := ringS_mem hv
      rw [← e, has_ringN i] at ha
      cases ha
    refine ring_same (Q := fun a => hasT ringT a = false) hval (fun a b ha hs => ?_) hn
    unfold Stp at hs
    rw [hval a ha] at hs
    unfold valP at hs
    cases e : lastP (cntP V) a with
    | none => rw [e] at hs; exact absurd (show b ∈ onP [] from hs) (by rw [on_nil]; simp)
    | some s =>
      rw [e] at hs
      have h3 := hC _ (last_mem e)
      exact on_free (s := s) hs h3.2.1 h3.1
  have e2 : leftP p (cntP V ++ ringS k) = leftP q (cntP V) := by
    rw [left_app p _ _ hin]
    unfold leftP
    exact List.filter_congr fun v hv => by rw [hsame v.1 (hC v hv).2.2]
  unfold resP
  rw [e2]
  refine out_app _ _ _ (fun v hv u hu => ?_)
  rcases res_names _ _ _ u hu with h | ⟨w, hw, e⟩
  · exact absurd h List.not_mem_nil
  · rw [← e]
    exact hne v hv w (List.mem_filter.1 hw).1

end Go.Proofs.YtmjbaimccbkmpaaDoor.vrs

namespace Go.Proofs.YtmjbaimccbkmpaaDoor.vrs
open Go.RowKit Go.Proofs.YtmjbaimccbkmpaaDoor.base Go.Proofs.YtmjbaimccbkmpaaDoor.tok Go.Proofs.YtmjbaimccbkmpaaDoor.rul
set_option linter.unusedVariables false

theorem stop_semi : st.Stop 59 := by unfold st.Stop; decide
/-! ### a bad token of a text without a line's end is its last one -/
theorem nv_ten {c : UInt8} (h : nv c = 10) : c = 10 := by
  apply UInt8.toNat_inj.1
  simp only [nv] at h
  show c.toNat = 10
  omega
theorem textR_bad (q : UInt8) : ∀ (n : Nat) (r : Bs), r.length ≤ n → 10 ∉ r → (textR q r).1 = 6 → (textR q r).2.1 = r.length
  | 0, r, h, _, _ => by
    obtain rfl := List.eq_nil_of_length_eq_zero (Nat.le_zero.1 h)
    rw [textR]; rfl
  | n + 1, [], h, _, _ => by rw [textR]; rfl
  | n + 1, [c], h, hno, hk => by
    have hc : ¬ nv c = 10 := fun e => hno (List.mem_singleton.2 (nv_ten e).symm)
    rw [textR] at hk ⊢
    split at hk
    · exact absurd hk (by decide)
    · rename_i h1
      rw [if_neg h1, if_neg hc]
      rfl
  | n + 1, c :: d :: r, h, hno, hk => by
    have hc : ¬ nv c = 10 := fun e => hno (by rw [nv_ten e]; exact List.mem_cons_self ..)
    rw [textR] at hk ⊢
    by_cases h1 : nv c = nv q
    · rw [if_pos h1] at hk
      exact absurd hk (by decide)
    · rw [if_neg h1, if_neg hc] at hk ⊢
      by_cases h2 : nv c = 92
      · rw [if_pos h2] at hk ⊢
        have := textR_bad q n r (by simp at h; omega) (fun hm => hno (List.mem_cons_of_mem _ (List.mem_cons_of_mem _ hm))) hk
        show (textR q r).2.1 + 2 = _
        simp [this]
      · rw [if_neg h2] at hk ⊢
        have := textR_bad q n (d :: r) (by simpa using h) (fun hm => hno (List.mem_cons_of_mem _ hm)) hk
        show (textR q (d :: r)).2.1 + 1 = _
        rw [this]; rfl
theorem first_bad {l : Bs} (hno : 10 ∉ l) (h0 : l ≠ []) (h : (firstP l).k = 6) : (firstP l).raw = l := by
  unfold firstP at h ⊢
  split at h
  · exact absurd h (by simp)
  · rename_i h1
    rw [if_neg h1]
    split at h
    · exact absurd h (by simp [noteP])
    · rename_i h2
      rw [if_neg h2]
      split at h
      · rename_i h3
        rw [if_pos h3]
        match l, h, h0, hno with
        | [], h, h0, _ => exact absurd rfl h0
        | c :: r, h, h0, hno =>
          simp only [textP] at h ⊢
          have := textR_bad c _ r (Nat.le_refl _) (fun hm => hno (List.mem_cons_of_mem _ hm)) h
          rw [this]
          exact List.take_of_length_le (by simp; omega)
      · rename_i h3
        rw [if_neg h3]
        split at h
        · exact absurd h (by simp [namedP])
        · rename_i h4
          rw [if_neg h4]
          split at h
          · exact absurd h (by simp [namedP])
          · rename_i h5
            rw [if_neg h5]
            split at h
            · exfalso
              revert h
              simp only [numTkP]
              split
              · simp
              · split <;> simp
            · rename_i h6
              rw [if_neg h6]
              split at h
              · exfalso
                revert h
                unfold wordP
                split
                · simp
                · simp [namedP]
              · rename_i h7
                rw [if_neg h7]
                match l, h, h0, hno, h7 with
                | [], h, h0, _, _ => exact absurd rfl h0
                | [c], h, h0, hno, h7 => rfl
                | c :: d :: r, h, h0, hno, h7 =>
                  exfalso
                  have hc : nv c = 92 := by
                    simp only [oneK] at h
                    split at h
                    · exact absurd h (by decide)
                    · split at h
                      · exact absurd h (by decide)
                      · split at h
                        · assumption
                        · exact absurd h (by decide)
                  have hd : nv d ≠ 10 := fun e => hno (by rw [nv_ten e]; exact List.mem_cons_of_mem _ (List.mem_cons_self ..))
                  apply h7
                  rw [beginsP, if_neg (by omega), escP, decide_eq_true hc, decide_eq_true hd, Bool.true_and, Bool.or_true]
/-- what is bad ends it -/
def Good (s : Bs) : Prop := ∀ A t B, cutP s = A ++ t :: B → t.k = 6 → B = []
theorem good_plain : ∀ (n : Nat) (l : Bs), l.length ≤ n → 10 ∉ l → Good l
  | 0, l, h, _ => by
    obtain rfl := List.eq_nil_of_length_eq_zero (Nat.le_zero.1 h)
    intro A t B e
    rw [cutP_nil] at e
    cases A <;> cases e
  | n + 1, l, h, hno => by
    by_cases h0 : l = []
    · subst h0
      intro A t B e
      rw [cutP_nil] at e
      cases A <;> cases e
    · have hp := (first_pre l h0).2
      have hl : 0 < l.length := List.length_pos_iff.2 h0
      intro A t B e hk
      rw [cutP_cons h0] at e
      cases A with
      | nil =>
        injection e with e1 e2
        rw [← e1] at hk
        have := first_bad hno h0 hk
        rw [← e2, this, List.drop_length, cutP_nil]
      | cons a A =>
        injection e with e1 e2
        exact good_plain n _ (by rw [List.length_drop]; omega) (fun hm => hno (List.mem_of_mem_drop hm)) A t B e2 hk

/-! ### the names of a piece are names of the whole -/
theorem next_app {L : List Tk} (M : List Tk) {x : Bs} (h : x ∈ nextP L) : x ∈ nextP (L ++ M) := by
  unfold nextP at h ⊢
  cases e : L.dropWhile silP with
  | nil => rw [e] at h; exact absurd h List.not_mem_nil
  | cons t K =>
    rw [List.dropWhile_append, e]
    simp only [List.isEmpty_cons, Bool.false_eq_true, if_false, List.cons_append]
    rw [e] at h
    exact h
theorem onL_app {M : List Tk} {x : Bs} : ∀ {L : List Tk}, x ∈ onL L → x ∈ onL (L ++ M)
  | [], h => absurd h List.not_mem_nil
  | t :: L, h => by
    rw [onL] at h
    rw [List.cons_append, onL]
    rcases List.mem_append.1 h with h | h
    · refine List.mem_append_left _ ?_
      by_cases hv : isVarP t = true
      · rw [if_pos hv] at h ⊢
        exact next_app M h
      · rw [if_neg hv] at h
        exact absurd h List.not_mem_nil
    · exact List.mem_append_right _ (onL_app h)
theorem onL_suf {M : List Tk} {x : Bs} (h : x ∈ onL M) : ∀ (L : List Tk), x ∈ onL (L ++ M)
  | [] => h
  | t :: L => by
    rw [List.cons_append, onL]
    exact List.mem_append_right _ (onL_suf h L)
theorem silP_not {t : Tk} (h : silP t = true) : isVarP t = false := by
  unfold isVarP
  unfold silP at h
  rw [Bool.or_eq_true, decide_eq_true_eq, decide_eq_true_eq] at h
  rw [decide_eq_false (by omega), Bool.false_and]
theorem next_sq : ∀ (L : List Tk) (f : Bool), nextP (sqF f L) = nextP L
  | [], f => by rw [sqF]
  | t :: L, f => by
    rw [sq_cons]
    by_cases hs : silP t = true
    · rw [if_pos hs]
      have e : nextP (t :: L) = nextP L := by unfold nextP; rw [List.dropWhile_cons_of_pos hs]
      cases f
      · have e2 : nextP (tkB :: sqF true L) = nextP (sqF true L) := by unfold nextP; rw [List.dropWhile_cons_of_pos (by rfl)]
        rw [if_neg (by decide), e2, e, next_sq L]
      · rw [if_pos rfl, e, next_sq L]
    · rw [if_neg hs]
      unfold nextP
      rw [List.dropWhile_cons_of_neg hs, List.dropWhile_cons_of_neg hs]
theorem onL_sq : ∀ (L : List Tk) (f : Bool), onL (sqF f L) = onL L
  | [], f => by rw [sqF]
  | t :: L, f => by
    rw [sq_cons]
    by_cases hs : silP t = true
    · have hv := silP_not hs
      rw [if_pos hs, onL, hv]
      cases f
      · rw [if_neg (by decide), onL, silP_not (t := tkB) rfl, onL_sq L]
        rfl
      · rw [if_pos rfl, onL_sq L]
        rfl
    · rw [if_neg hs, onL, onL, onL_sq L, next_sq]

/-! ### what Head tells of a piece -/
theorem headF_sil : ∀ (B : List Tk) (out : Bs) (gap : Bool), (∀ t ∈ B, silP t = true) → headF B out gap = out
  | [], out, gap, _ => by rw [headF]
  | t :: B, out, gap, h => by
    rw [headF, if_pos (h t (List.mem_cons_self ..))]
    exact headF_sil B _ _ (fun x hx => h x (List.mem_cons_of_mem _ hx))
theorem headF_end {B : List Tk} (hB : ∀ t ∈ B, silP t = true) : ∀ (L : List Tk) (out : Bs) (gap : Bool), headF (L ++ B) out gap = headF L out gap
  | [], out, gap => by rw [List.nil_append, headF_sil B out gap hB, headF]
  | t :: L, out, gap => by
    rw [List.cons_append, headF, headF]
    split
    · exact headF_end hB L _ _
    · exact headF_end hB L _ _
theorem headF_front {M : List Tk} : ∀ (A : List Tk), (∀ t ∈ A, silP t = true) → headF (A ++ M) [] false = headF M [] false
  | [], _ => rfl
  | t :: A, h => by
    rw [List.cons_append, headF, if_pos (h t (List.mem_cons_self ..))]
    exact headF_front A (fun x hx => h x (List.mem_cons_of_mem _ hx))
theorem head_solid (L : List Tk) (hr : ∀ t ∈ L, t.raw ≠ []) : headP L = textOf (sqF false (solidP L)) := by
  obtain ⟨hs, A, B, e, hA, hB⟩ := solid_split L
  rw [← head_is hs (fun t ht => hr t (by rw [e]; simp [ht]))]
  unfold headP
  conv => lhs; rw [e, List.append_assoc, headF_front A hA, headF_end hB]
theorem sq_mem : ∀ (L : List Tk) (f : Bool) (t : Tk), t ∈ sqF f L → t = tkB ∨ t ∈ L
  | [], f, t, h => by rw [sqF] at h; exact absurd h List.not_mem_nil
  | a :: L, f, t, h => by
    rw [sq_cons] at h
    split at h
    · split at h
      · exact (sq_mem L _ t h).imp id (List.mem_cons_of_mem _)
      · rcases List.mem_cons.1 h with h | h
        · exact .inl h
        · exact (sq_mem L _ t h).imp id (List.mem_cons_of_mem _)
    · rcases List.mem_cons.1 h with h | h
      · exact .inr (h ▸ List.mem_cons_self ..)
      · exact (sq_mem L _ t h).imp id (List.mem_cons_of_mem _)
/-- of a piece of a good text, with more behind: Head's text is good, and hangs on no other names -/
theorem head_on {s : Bs} (hg : Good s) {A V B : List Tk} (e : cutP s = A ++ V ++ B) (hB : B ≠ []) : Good (headP V) ∧ ∀ x ∈ onP (headP V), x ∈ onP s := by
  have hraw : ∀ t ∈ V, t.raw ≠ [] := fun t ht => cut_full s t (by rw [e]; simp [ht])
  have hk : ∀ t ∈ V, ¬ t.k = 6 := fun t ht h6 => by
    obtain ⟨V1, V2, rfl⟩ := List.append_of_mem ht
    have := hg (A ++ V1) t (V2 ++ B) (by rw [e]; simp) h6
    exact hB (List.append_eq_nil_iff.1 this).2
  have hh := head_solid V hraw
  obtain ⟨hs, A2, B2, e2, hA2, hB2⟩ := solid_split V
  generalize solidP V = U at *
  have hcut : cutP (headP V) = sqF false U := by
    rw [hh]
    by_cases h0 : U = []
    · subst h0
      rw [sqF]
      exact cutP_nil
    · have h1 : cutP (textOf (U ++ (B2 ++ B))) = U ++ (B2 ++ B) := cut_tail (A ++ A2) _ s (by rw [e, e2]; simp)
      have h2 := recut stop_semi [] _ U (B2 ++ B) (Nat.le_refl _) h1 (fun t ht => hk t (by rw [e2]; simp [ht])) hs h0
      exact st.cut_piece (sqF false U) _ [59] (cutP [59]) rfl h2
  refine ⟨fun A3 t B3 e3 h6 => ?_, fun x hx => ?_⟩
  · rw [hcut] at e3
    rcases sq_mem U false t (by rw [e3]; simp) with h | h
    · rw [h] at h6; exact absurd h6 (by decide)
    · exact absurd h6 (hk t (by rw [e2]; simp [h]))
  · unfold onP at hx ⊢
    rw [hcut, onL_sq] at hx
    rw [e, e2]
    exact onL_app (onL_suf (onL_app (onL_suf hx A2)) A)

/-! ### a value hangs on its names only -/
theorem fillG_same {P Q : List Tk → Bs × Bool} : ∀ (n : Nat) (L : List Tk), L.length ≤ n → (∀ A t M, L = A ++ t :: M → isVarP t = true → blkOk t M = true → P (((t :: M).take (blkLen t M - 1)).drop 1) = Q (((t :: M).take (blkLen t M - 1)).drop 1)) → ∀ b, fillG P L b = fillG Q L b
  | n, [], _, _, b => by rw [fillG_nil, fillG_nil]
  | 0, t :: L, h, _, b => by simp at h
  | n + 1, t :: L, h, hpq, b => by
    simp only [List.length_cons] at h
    cases hv : isVarP t
    · rw [fillG_other hv, fillG_other hv]
      exact fillG_same n L (by omega) (fun A u M e => hpq (t :: A) u M (by rw [e]; rfl)) _
    · cases ho : blkOk t L
      · rw [fillG_open hv ho, fillG_open hv ho]
      · obtain ⟨s, is, hs⟩ : ∃ s is, P (((t :: L).take (blkLen t L - 1)).drop 1) = (s, is) := ⟨_, _, rfl⟩
        have hs2 := (hpq [] t L rfl hv ho).symm.trans hs
        cases is
        · rw [fillG_none hv ho hs, fillG_none hv ho hs2]
        · by_cases hm : 400 < (b ++ s).length
          · rw [fillG_much hv ho hs hm, fillG_much hv ho hs2 hm]
          · rw [fillG_put hv ho hs hm, fillG_put hv ho hs2 hm]
            have hb := blkLen_bd t L
            refine fillG_same n _ (by rw [List.length_drop, List.length_cons]; omega) (fun A u M e => hpq ((t :: L).take (blkLen t L) ++ A) u M ?_) _
            rw [List.append_assoc, ← e, List.take_append_drop]
theorem ask_next {L : List Tk} {n : Bs} {o : Option (List Tk)} (h : askP L = some (n, o)) : n ∈ nextP L := by
  unfold askP at h
  unfold nextP
  split at h
  · cases h
  · rename_i t L2 e
    rw [e]
    split at h
    · rename_i hk
      simp only [if_pos hk]
      split at h
      · injection h with h; injection h with h1 h2; rw [h1]; exact List.mem_singleton.2 rfl
      · split at h
        · injection h with h; injection h with h1 h2; rw [h1]; exact List.mem_singleton.2 rfl
        · cases h
    · cases h
theorem fill_hangs : ∀ (d : Nat) (K K2 : List Vr) (s : Bs), Good s → (∀ n ∈ onP s, lastP K n = lastP K2 n) → fillF d K s = fillF d K2 s
  | 0, K, K2, s, _, _ => rfl
  | d + 1, K, K2, s, hg, hn => by
    unfold fillF
    by_cases hl : 400 < s.length
    · rw [if_pos hl, if_pos hl]
    · rw [if_neg hl, if_neg hl]
      refine fillG_same _ _ (Nat.le_refl _) (fun A t M e hv ho => ?_) []
      have hb := blkLen_bd t M
      have hb2 := blk_too ho
      have hM : ((t :: M).take (blkLen t M - 1)).drop 1 = M.take (blkLen t M - 2) := by
        rw [show blkLen t M - 1 = (blkLen t M - 2) + 1 by omega, List.take_succ_cons]
        rfl
      rw [hM]
      have hrest : M.drop (blkLen t M - 2) ≠ [] := fun e => by
        have := congrArg List.length e
        rw [List.length_drop] at this
        simp at this
        omega
      have hMs := (List.take_append_drop (blkLen t M - 2) M).symm
      generalize M.take (blkLen t M - 2) = I at *
      generalize M.drop (blkLen t M - 2) = R at *
      subst hMs
      have hname : ∀ n o, askP I = some (n, o) → n ∈ onP s := fun n o h => by
        unfold onP
        rw [e]
        refine onL_suf ?_ A
        rw [onL, hv]
        exact List.mem_append_left _ (next_app R (ask_next h))
      unfold putG
      cases ha : askP I with
      | none => rfl
      | some z =>
        obtain ⟨n, o⟩ := z
        simp only
        rw [hn n (hname n o ha)]
        cases lastP K2 n with
        | some v => rfl
        | none =>
          cases o with
          | none => rfl
          | some L4 =>
            obtain ⟨m, rfl, hm⟩ := ask_short ha
            have e4 : cutP s = (A ++ t :: I.take (m + 1)) ++ I.drop (m + 1) ++ R := by
              rw [e]
              simp
            obtain ⟨h1, h2⟩ := head_on hg e4 hrest
            exact fill_hangs d K K2 _ h1 (fun x hx => hn x (h2 x hx))

end Go.Proofs.YtmjbaimccbkmpaaDoor.vrs

namespace Go.Proofs.YtmjbaimccbkmpaaDoor.vrs
open Go.RowKit Go.Proofs.YtmjbaimccbkmpaaDoor.base Go.Proofs.YtmjbaimccbkmpaaDoor.tok Go.Proofs.YtmjbaimccbkmpaaDoor.rul
set_option linter.unusedVariables false

theorem last_or (R S : List Vr) (n : Bs) : lastP (R ++ S) n = (lastP S n).or (lastP R n) := by
  unfold lastP
  rw [List.reverse_append, List.find?_append]
  cases S.reverse.find? (fun p => decide (p.1 = n)) <;> rfl
def addF (L K : List Vr) (v : Vr) : Option Vr := if waitsP L v then none else if (fillP K v.2).2 then some (v.1, (fillP K v.2).1) else none
theorem in_is {L K : List Vr} : ∀ (M S N : List Vr), (∀ v ∈ M, Good v.2) → (∀ v ∈ M, v ∈ L) → (∀ u ∈ S, ∃ w ∈ L, w.1 = u.1) → (M.foldl (inStep L) (K ++ S, N)).1 = K ++ (S ++ M.filterMap (addF L K))
  | [], S, N, _, _, _ => by simp
  | v :: M, S, N, hg, hM, hS => by
    have hgd := hg v (List.mem_cons_self ..)
    have hv := hM v (List.mem_cons_self ..)
    have hg2 : ∀ v ∈ M, Good v.2 := fun x hx => hg x (List.mem_cons_of_mem _ hx)
    have hM2 : ∀ v ∈ M, v ∈ L := fun x hx => hM x (List.mem_cons_of_mem _ hx)
    rw [List.foldl_cons, inStep]
    cases hw : waitsP L v with
    | true =>
      rw [if_pos rfl, in_is M S _ hg2 hM2 hS]
      have e : addF L K v = none := by unfold addF; rw [hw]; rfl
      rw [List.filterMap_cons_none e]
    | false =>
      rw [if_neg (by decide)]
      have hf : fillP (K ++ S) v.2 = fillP K v.2 := fill_hangs _ _ _ _ hgd (fun n hn => last_app K S n (fun u hu e => by
        obtain ⟨w, hw1, hw2⟩ := hS u hu
        unfold waitsP at hw
        have := List.any_eq_false.1 hw n hn
        exact this (List.any_eq_true.2 ⟨w, hw1, decide_eq_true (hw2.trans e)⟩)))
      obtain ⟨r, is, hr⟩ : ∃ r is, fillP K v.2 = (r, is) := ⟨_, _, rfl⟩
      cases is with
      | false =>
        have e : addF L K v = none := by unfold addF; rw [hw, hr]; rfl
        rw [show (addK (K ++ S, N).1 v) = K ++ S from addK_not (hf.trans hr), in_is M S _ hg2 hM2 hS, List.filterMap_cons_none e]
      | true =>
        have e : addF L K v = some (v.1, r) := by unfold addF; rw [hw, hr]; rfl
        rw [show (addK (K ++ S, N).1 v) = K ++ (S ++ [(v.1, r)]) from (addK_is (hf.trans hr)).trans (List.append_assoc ..), in_is M _ _ hg2 hM2 (fun u hu => by
          rcases List.mem_append.1 hu with hu | hu
          · exact hS u hu
          · rw [List.mem_singleton.1 hu]; exact ⟨v, hv, rfl⟩), List.filterMap_cons_some e, List.append_assoc]
        rfl
theorem fm_congr {α β : Type} {f g : α → Option β} : ∀ {L : List α}, (∀ x ∈ L, f x = g x) → L.filterMap f = L.filterMap g
  | [], _ => rfl
  | x :: L, h => by
    have ih := fm_congr (L := L) (fun y hy => h y (List.mem_cons_of_mem _ hy))
    rw [List.filterMap_cons, List.filterMap_cons, h x (List.mem_cons_self ..), ih]
theorem addF_rev {L K K2 : List Vr} {v : Vr} (hg : Good v.2) (h : ∀ n, lastP K n = lastP K2 n) : addF L.reverse K2 v = addF L K v := by
  unfold addF fillP
  rw [waits_rev, fill_hangs 401 K2 K v.2 hg (fun n _ => (h n).symm)]
theorem addF_uq {L K : List Vr} : ∀ {M : List Vr}, Uq M → Uq (M.filterMap (addF L K))
  | [], _ => List.Pairwise.nil
  | u :: M, h => by
    obtain ⟨h1, h2⟩ := List.pairwise_cons.1 h
    have ih := addF_uq (L := L) (K := K) h2
    have nm : ∀ {v w : Vr}, addF L K v = some w → w.1 = v.1 := fun {v w} e => by
      unfold addF at e
      split at e
      · cases e
      · split at e
        · injection e with e; rw [← e]
        · cases e
    cases e : addF L K u with
    | none => rw [List.filterMap_cons_none e]; exact ih
    | some w =>
      rw [List.filterMap_cons_some e]
      refine List.pairwise_cons.2 ⟨fun b hb => ?_, ih⟩
      obtain ⟨x, hx, hxb⟩ := List.mem_filterMap.1 hb
      rw [nm e, nm hxb]
      exact h1 x hx
theorem res_rev : ∀ (d : Nat) (K K2 L : List Vr), Uq L → (∀ v ∈ L, Good v.2) → (∀ n, lastP K n = lastP K2 n) → ∀ n, lastP (resF d K L) n = lastP (resF d K2 L.reverse) n
  | 0, K, K2, L, _, _, h, n => h n
  | d + 1, K, K2, L, hu, hg, h, n => by
    by_cases h0 : L = []
    · subst h0
      rw [List.reverse_nil, res_nil, res_nil]
      exact h n
    · rw [res_cons h0, res_cons (fun e => h0 (List.reverse_eq_nil_iff.1 e))]
      have e1 : (inP L K).1 = K ++ L.filterMap (addF L K) := by
        have := in_is (L := L) (K := K) L [] [] hg (fun v hv => hv) (fun u hu => absurd hu List.not_mem_nil)
        rw [List.append_nil] at this
        exact this
      have e2 : (inP L.reverse K2).1 = K2 ++ (L.filterMap (addF L K)).reverse := by
        have := in_is (L := L.reverse) (K := K2) L.reverse [] [] (fun v hv => hg v (List.mem_reverse.1 hv)) (fun v hv => hv) (fun u hu => absurd hu List.not_mem_nil)
        rw [List.append_nil] at this
        refine this.trans ?_
        rw [List.nil_append, List.filterMap_reverse]
        congr 2
        exact fm_congr (fun v hv => addF_rev (hg v hv) h)
      have e3 : (inP L K).2 = L.filter (waitsP L) := by unfold inP; rw [in_next, List.nil_append]
      have e4 : (inP L.reverse K2).2 = (L.filter (waitsP L)).reverse := by
        unfold inP
        rw [in_next, List.nil_append, List.filter_reverse]
        congr 1
        exact List.filter_congr (fun v _ => waits_rev L v)
      rw [e1, e2, e3, e4]
      exact res_rev d _ _ _ (hu.sublist List.filter_sublist) (fun v hv => hg v (List.mem_filter.1 hv).1) (fun n => by
        rw [last_or, last_or, last_rev (addF_uq hu), h n]) n
theorem out_rev {K K2 R : List Vr} (h : ∀ n, lastP K n = lastP K2 n) : outP K2 R.reverse = (outP K R).reverse := by
  unfold outP
  rw [List.filterMap_reverse]
  congr 1
  exact fm_congr (fun v _ => by rw [h])
theorem cnt_is : ∀ (M out : List Vr), Uq (out ++ M) → (out ++ M).length ≤ 20 → M.foldl cntStep out = out ++ M.filter (fun v => Lib.hasPrefix v.1 [45, 45])
  | [], out, _, _ => (List.append_nil out).symm
  | v :: M, out, hu, hl => by
    rw [List.foldl_cons]
    have e : out ++ v :: M = (out ++ [v]) ++ M := by simp
    cases hp : Lib.hasPrefix v.1 [45, 45] with
    | false =>
      rw [cnt_no hp, cnt_is M out (hu.sublist (List.Sublist.append (List.Sublist.refl _) (List.sublist_cons_self ..))) (by simp at hl ⊢; omega), List.filter_cons_of_neg (by simp [hp])]
    | true =>
      have h1 : idxF (sameN v) out 0 = -1 := by
        rcases idxF_is (sameN v) out 0 with ⟨k, x, -, h2, h3⟩ | ⟨h1, -⟩
        · unfold sameN at h3
          exact absurd (of_decide_eq_true h3) ((List.pairwise_append.1 hu).2.2 x (List.mem_of_getElem? h2) v (List.mem_cons_self ..))
        · exact h1
      rw [cnt_add hp h1 (by simp at hl; omega), cnt_is M (out ++ [v]) (e ▸ hu) (e ▸ hl), List.filter_cons_of_pos (by simp [hp]), List.append_assoc]
      rfl
theorem uq_rev {V : List Vr} (h : Uq V) : Uq V.reverse := by
  unfold Uq
  rw [List.pairwise_reverse]
  exact h.imp fun hab => fun e => hab e.symm
theorem cnt_rev {V : List Vr} (h : Uq V) (hl : V.length ≤ 20) : cntP V.reverse = (cntP V).reverse := by
  have e1 := cnt_is V [] (by simpa using h) (by simpa using hl)
  have e2 := cnt_is V.reverse [] (by simpa using uq_rev h) (by simpa using hl)
  unfold cntP
  rw [e1, e2, List.nil_append, List.nil_append, List.filter_reverse]
/-- turned round it is the same turned round -/
theorem turned {p q : Bs → Bool} {V : List Vr} (hu : Uq V) (hl : V.length ≤ 20) (hg : ∀ v ∈ V, 10 ∉ v.2) (hp : ∀ n, p n = true ↔ Ring (cntP V) n) (hq : ∀ n, q n = true ↔ Ring (cntP V.reverse) n) :
    resP q (cntP V.reverse) = (resP p (cntP V)).reverse := by
  rw [cnt_rev hu hl] at hq ⊢
  have hpq : q = p := funext fun n => by rw [Bool.eq_iff_iff, hp, hq, ring_rev (cnt_uq V)]
  unfold resP
  rw [hpq, left_rev, List.length_reverse]
  refine out_rev (fun n => ?_)
  exact res_rev _ [] [] _ ((cnt_uq V).sublist List.filter_sublist) (fun v hv => good_plain _ _ (Nat.le_refl _) (hg v (cnt_mem v (List.mem_filter.1 hv).1))) (fun _ => rfl) n

end Go.Proofs.YtmjbaimccbkmpaaDoor.vrs

namespace Go.Proofs.YtmjbaimccbkmpaaDoor.vrs
open Go.RowKit Go.Proofs.YtmjbaimccbkmpaaDoor.base Go.Proofs.YtmjbaimccbkmpaaDoor.tok Go.Proofs.YtmjbaimccbkmpaaDoor.rul
set_option linter.unusedVariables false

def UqF (V : List Vr) (j : Nat) : Prop := ∀ (a b : Nat) (x y : Vr), a < b → j ≤ b → V[a]? = some x → V[b]? = some y → x.1 ≠ y.1
theorem uqF_all {V : List Vr} (h : UqF V 0) : Uq V := by
  unfold Uq
  rw [List.pairwise_iff_getElem]
  exact fun i j hi hj hij => h i j _ _ hij (Nat.zero_le _) (List.getElem?_eq_getElem hi) (List.getElem?_eq_getElem hj)
theorem uqF_end (V : List Vr) : UqF V V.length := fun a b x y _ h2 _ h4 => by
  have := (List.getElem?_eq_some_iff.1 h4).1
  omega
theorem uqF_step {V : List Vr} {i : Nat} {y : Vr} (h : UqF V (i + 1)) (hy : V[i]? = some y) (hn : ∀ (a : Nat) (x : Vr), a < i → V[a]? = some x → x.1 ≠ y.1) : UqF V i := fun a b x z h1 h2 h3 h4 => by
  rcases Nat.eq_or_lt_of_le h2 with rfl | h2
  · obtain rfl : y = z := Option.some.inj (hy.symm.trans h4)
    exact hn a x h1 h3
  · exact h a b x z h1 h2 h3 h4
theorem rev_drop {V : List Vr} {i : Nat} {y : Vr} (hy : V[i]? = some y) : (V.drop i).reverse = (V.drop (i + 1)).reverse ++ [y] := by
  obtain ⟨hl, he⟩ := List.getElem?_eq_some_iff.1 hy
  rw [List.drop_eq_getElem_cons hl, he, List.reverse_cons]
theorem all_drop {V : List Vr} {i : Nat} {y : Vr} {Q : Vr → Prop} (h : ∀ v ∈ V.drop (i + 1), Q v) (hy : V[i]? = some y) (hq : Q y) : ∀ v ∈ V.drop i, Q v := fun v hv => by
  obtain ⟨hl, he⟩ := List.getElem?_eq_some_iff.1 hy
  rw [List.drop_eq_getElem_cons hl, he] at hv
  rcases List.mem_cons.1 hv with rfl | hv
  · exact hq
  · exact h v hv

def TurnRel (w : World) (V : List Vr) (v x : Value) (wr : World) : Prop :=
  ∃ (j : Nat) (L : List Vr), j ≤ V.length ∧ x = .int .i64 ((j : Int) - 1) ∧ L = (V.drop j).reverse ∧ (∀ v ∈ V.drop j, 10 ∉ v.2) ∧ UqF V j ∧ wr.ownsRow w.heap.size 26 2 v L.length (flatR vc L) ∧ Below w.heap.size w wr
def BackRel (w : World) (V : List Vr) (v x : Value) (wr : World) : Prop :=
  ∃ (j : Nat) (L : List Vr), j ≤ V.length ∧ x = .int .i64 ((j : Int) - 1) ∧ L = (V.drop j).reverse ∧ wr.ownsRow w.heap.size 26 2 v L.length (flatR vc L) ∧ Below w.heap.size w wr
theorem hasB_ct (c : UInt8) (v : Bs) (hv : v.length ≤ 1100000) (W1 : World) : Calls Tryd.prog 9 #[.string (bs v), .string (bs [c])] W1 fun e w' => e = .returned (.bool (decide (c ∈ v))) ∧ Below W1.heap.size W1 w' := by
  have := hasText_ct v [c] (by simp) (by omega) (by simp) W1
  rw [hasT_one] at this
  exact this

set_option maxRecDepth 100000 in
set_option maxHeartbeats 16000000 in
theorem turned_at (A : Option Addr) (cap : Nat) (V : List Vr) (w : World) (hn : V.length ≤ 1000000000) (hcap : V.length ≤ cap) (hv : ∀ q ∈ V, q.2.length ≤ 1100000) (hI : VRd w w.heap.size A V.length V) (hF : FoldAt w) (hm : MaxL w) :
    Calls Tryd.prog 6 #[.slice A V.length cap] w fun e w' => e = .returned (.bool true) ∧ Below w.heap.size w w' := by
  obtain ⟨i0, hi, hz0, hz1, hz2⟩ := info_parts infoV
  have Hz0 := Lib.hid hz0
  have Hi := Lib.hid hi
  have Hz1 := Lib.hid hz1
  have Hz2 := Lib.hid hz2
  clear hz0 hi hz1 hz2
  have cP := Lib.hid (fact_ct w hF hm)
  obtain ⟨m, hm1⟩ : ∃ m : Nat, min V.length 15 = m := ⟨_, rfl⟩
  have hml : m ≤ V.length := by omega
  have hm15 : m ≤ 15 := by omega
  have hmz : min (V.length : Int) 15 = (m : Int) := by omega
  have hsl := fun w => slice_upto (P := Tryd.prog) (k := 2) Tryd.underlying27 Tryd.sizeOf26 A V.length cap (m : Int) (by omega) (by omega) w
  simp only [Int.toNat_natCast] at hsl
  have HTk := Lib.hid (hI.first hml)
  have htl : (V.take m).length = m := by rw [List.length_take]; omega
  have hvt : ∀ q ∈ V.take m, q.2.length ≤ 1100000 := fun q hq => hv q (List.mem_of_mem_take hq)
  generalize V.take m = T at *
  clear hm1 hI hv
  subst htl
  obtain ⟨p, hp⟩ := ring_dec (cntP T)
  obtain ⟨TR, hTR⟩ : ∃ TR, T.reverse = TR := ⟨_, rfl⟩
  have hTRl : TR.length ≤ 15 := by rw [← hTR, List.length_reverse]; exact hm15
  obtain ⟨q, hq⟩ := ring_dec (cntP TR)
  have HTurn := Lib.hid (fun hu hg => turned (V := T) hu (by omega) hg hp (by rw [hTR]; exact hq))
  have cR1 := Lib.hid (fun (W : World) (h : Below w.heap.size w W) (hI2 : VRd W W.heap.size A T.length T) => resolveD_ct A cap T p hp w W h (by omega) hvt hI2 hF hm)
  have cR2 := Lib.hid (fun (A2 : Option Addr) (c2 : Nat) (W : World) (h : Below w.heap.size w W) (hI2 : VRd W W.heap.size A2 TR.length TR) => resolveD_ct A2 c2 TR q hq w W h (by omega) (fun v hv => hvt v (List.mem_reverse.1 (by rw [hTR]; exact hv))) hI2 hF hm)
  rw [hTR] at HTurn
  have HTR := Lib.hid hTR
  have hlen1 : (resP p (cntP T)).length ≤ 20 := Nat.le_trans (out_len _ _) (cntP_len _)
  generalize resP p (cntP T) = a at *
  have hlen2 : (resP q (cntP TR)).length ≤ 20 := Nat.le_trans (out_len _ _) (cntP_len _)
  generalize resP q (cntP TR) = b at *
  have HVt := Lib.hid hvt
  clear hF hm hvt hp hq hTR
  have q0 : IntKind.i64.wrap ((T.length : Int) - 1) = (T.length : Int) - 1 := IntWalk.i64_in _ (by omega)
  go_enter Tryd.func6, Tryd.ntmps6
  go_wp2_with (go_at_call 7; (with_reducible refine (cP.out).mono ?_); rintro e W1 ⟨rfl, hb1⟩; have HB1 := Lib.hid hb1; clear hb1)
  go_loopw [4, 5] (fun v x wr => TurnRel W1 T v x wr) (fun _ x _ => (intOf x + 1).toNat)
  case atStart => exact ⟨T.length, [], Nat.le_refl _, rfl, by rw [List.drop_length]; rfl, by rw [List.drop_length]; exact fun v h => absurd h List.not_mem_nil, uqF_end T, World.ownsRow_nil _ _ _ _, Below.refl _ _⟩
  case round =>
    obtain ⟨WO, hWO⟩ : ∃ WO, WO = wr := ⟨_, rfl⟩
    subst hWO
    obtain ⟨j, L, hj, rfl, hL, hno, huq, hrow, hbel⟩ := hrel
    have hLl : L.length ≤ 15 := by rw [hL, List.length_reverse, List.length_drop]; omega
    have HL := Lib.hid hL
    obtain ⟨AO, cO, rfl⟩ := row_form hrow
    have HNo := Lib.hid hno
    have HUq := Lib.hid huq
    have HRow := Lib.hid hrow
    have HBl := Lib.hid hbel
    have HBw := Lib.hid (HB1.out.trans (hbel.mono HB1.out.size))
    clear hno huq hrow hbel hL
    cases j with
    | succ i =>
      have e1 : ((i + 1 : Nat) : Int) - 1 = (i : Int) := by omega
      rw [e1]
      have hlt : i < T.length := by omega
      have hlt' : (i : Int) < (T.length : Int) := by omega
      have h0 : (0 : Int) ≤ (i : Int) := by omega
      have q1 : IntKind.i64.wrap ((i : Int) - 1) = (i : Int) - 1 := IntWalk.i64_in _ (by omega)
      obtain ⟨b1, off, y, rfl, hbb, hd, c0, c1⟩ := VRd.var (HTk.out.keep HBw.out HBw.out.size) hlt
      have HD := Lib.hid hd
      have hyl := HVt.out y (List.mem_of_getElem? hd)
      have cN := Lib.hid (show ∀ W1, Calls Tryd.prog 9 #[.string (bs y.2), .string ⟨#[10]⟩] W1 fun e w' => e = .returned (.bool (decide ((10 : UInt8) ∈ y.2))) ∧ Below W1.heap.size W1 w' from hasB_ct 10 y.2 hyl)
      have cRr := Lib.hid (show ∀ W1, Calls Tryd.prog 9 #[.string (bs y.2), .string ⟨#[13]⟩] W1 fun e w' => e = .returned (.bool (decide ((13 : UInt8) ∈ y.2))) ∧ Below W1.heap.size W1 w' from hasB_ct 13 y.2 hyl)
      have cFf := Lib.hid (show ∀ W1, Calls Tryd.prog 9 #[.string (bs y.2), .string ⟨#[12]⟩] W1 fun e w' => e = .returned (.bool (decide ((12 : UInt8) ∈ y.2))) ∧ Below W1.heap.size W1 w' from hasB_ct 12 y.2 hyl)
      have hcs : decide ((10 : UInt8) ∈ y.2) = true ∨ (decide ((10 : UInt8) ∈ y.2) = false ∧ decide ((13 : UInt8) ∈ y.2) = true) ∨ (decide ((10 : UInt8) ∈ y.2) = false ∧ decide ((13 : UInt8) ∈ y.2) = false ∧ decide ((12 : UInt8) ∈ y.2) = true) ∨ (decide ((10 : UInt8) ∈ y.2) = false ∧ decide ((13 : UInt8) ∈ y.2) = false ∧ decide ((12 : UInt8) ∈ y.2) = false) := by
        cases decide ((10 : UInt8) ∈ y.2) <;> cases decide ((13 : UInt8) ∈ y.2) <;> cases decide ((12 : UInt8) ∈ y.2) <;> simp
      have H10 := Lib.hid (show decide ((10 : UInt8) ∈ y.2) = false → 10 ∉ y.2 from fun h => of_decide_eq_false h)
      generalize decide ((10 : UInt8) ∈ y.2) = d10 at *
      generalize decide ((13 : UInt8) ∈ y.2) = d13 at *
      generalize decide ((12 : UInt8) ∈ y.2) = d12 at *
      obtain ⟨yn, yv⟩ := y
      simp only at c0 c1 cN cRr cFf H10
      clear hd hyl
      rcases hcs with rfl | ⟨rfl, rfl⟩ | ⟨rfl, rfl, rfl⟩ | ⟨rfl, rfl, rfl⟩
      case inr.inr.inr =>
        go_upto_region 9 with (go_at_call 9; first
          | ((with_reducible refine (cN.out _).mono ?_); rintro e W2 ⟨rfl, hb2⟩; have HB2 := Lib.hid hb2; replace c0 := (hb2.cell hbb).trans c0; replace c1 := (hb2.cell hbb).trans c1; replace hbb := Nat.lt_of_lt_of_le hbb hb2.size; clear hb2)
          | ((with_reducible refine (cRr.out _).mono ?_); rintro e W3 ⟨rfl, hb3⟩; have HB3 := Lib.hid (HB2.out.trans (hb3.mono HB2.out.size)); replace c0 := (hb3.cell hbb).trans c0; replace c1 := (hb3.cell hbb).trans c1; replace hbb := Nat.lt_of_lt_of_le hbb hb3.size; clear hb3)
          | ((with_reducible refine (cFf.out _).mono ?_); rintro e W4 ⟨rfl, hb4⟩; have HB4 := Lib.hid (HB3.out.trans (hb4.mono HB3.out.size)); replace c0 := (hb4.cell hbb).trans c0; replace c1 := (hb4.cell hbb).trans c1; replace hbb := Nat.lt_of_lt_of_le hbb hb4.size; clear hb4))
        have HRow4 := Lib.hid (row_on HRow.out HB4.out)
        have HBw4 := Lib.hid (HBw.out.trans (HB4.out.mono HBw.out.size))
        have HBl4 := Lib.hid (HBl.out.trans (HB4.out.mono HBl.out.size))
        have HNo2 := Lib.hid (all_drop (Q := fun v : Vr => 10 ∉ v.2) HNo.out HD.out (H10.out trivial))
        clear HB2 HB3 HB4 HRow HBw HBl cN cRr cFf H10 HNo
        go_wp2_with fail
        go_loopw [6] (fun x wq => ∃ k : Nat, k ≤ i ∧ x = .int .i64 k ∧ (∀ (a : Nat) (x : Vr), a < k → T[a]? = some x → x.1 ≠ yn) ∧ Below W4.heap.size W4 wq) (fun x _ => i - (intOf x).toNat)
        case atStart => exact ⟨0, Nat.zero_le _, rfl, fun a x h => absurd h (Nat.not_lt_zero _), Below.refl _ _⟩
        case round =>
          obtain ⟨k, hk, rfl, hne, hb5⟩ := hrel
          have HNe := Lib.hid hne
          have HB5 := Lib.hid hb5
          have HBw5 := Lib.hid (HBw4.out.trans (hb5.mono HBw4.out.size))
          have HBl5 := Lib.hid (HBl4.out.trans (hb5.mono HBl4.out.size))
          replace c0 := (hb5.cell hbb).trans c0
          replace c1 := (hb5.cell hbb).trans c1
          by_cases hlk : k < i
          · have hlk' : (k : Int) < (i : Int) := by omega
            have hlk2 : (k : Int) < (T.length : Int) := by omega
            have q2 : IntKind.i64.wrap ((k : Int) + 1) = (k : Int) + 1 := IntWalk.i64_in _ (by omega)
            obtain ⟨b2, off2, x, hA, hbb2, hd2, d0, d1⟩ := VRd.var (HTk.out.keep HBw5.out HBw5.out.size) (show k < T.length by omega)
            cases hA
            have HD2 := Lib.hid hd2
            obtain ⟨xn, xv⟩ := x
            simp only at d0 d1
            clear hd2 hb5 hne
            by_cases e : xn = yn
            · subst e
              go_wp2_with fail
              go_quiet (fail)
              go_wp2_with fail
              go_ret
              exact ⟨rfl, Go.Proofs.YtmjbaimccbkmpaaDoor.base.below_drewN HBw5.out _⟩
            · have hq2 : ((bs xn).toList == (bs yn).toList) = false := by
                rw [bs_toList, bs_toList, beq_eq_false_iff_ne]
                exact e
              have HNe2 := Lib.hid (show ∀ (a : Nat) (x : Vr), a < k + 1 → T[a]? = some x → x.1 ≠ yn from fun a x h1 h2 => by
                rcases Nat.lt_succ_iff_lt_or_eq.1 h1 with h1 | rfl
                · exact HNe.out a x h1 h2
                · obtain rfl := Option.some.inj (h2.symm.trans HD2.out)
                  exact e)
              clear e
              go_wp2_with fail
              go_quiet (fail)
              go_wp2_with fail
              go_roundw
              case rel => exact ⟨k + 1, by omega, by go_num, HNe2.out, Go.Proofs.YtmjbaimccbkmpaaDoor.base.below_drewN HB5.out _⟩
              case measure => simp [intOf]; omega
          · obtain rfl : k = i := by omega
            have HUq2 := Lib.hid (uqF_step HUq.out HD.out HNe.out)
            have HRow5 := Lib.hid (row_on HRow4.out hb5)
            have hs5 := HBl5.out.size
            clear hb5 hne HNe
            go_wp2_with (at_builtin; refine wpList_append_own_at _ rfl _ _ 27 rfl W1.heap.size 26 i0 (.agg #[.string .empty, .string .empty]) 2 32 Tryd.underlying27 Hi.out Hz0.out Hz1.out Hz2.out rfl (by decide) _ _ _ rfl (HRow5.out.alloc _) ⟨wr.heap.size, 0, none⟩ 1 1 [.string (bs yn), .string (bs yv)] rfl rfl ?c1 ?c2 ?c3 ?c4 ?c5 ?_)
            case c1 => exact (Blk.new (w := wr) (t := 26) (cs := #[.string (bs yn), .string (bs yv)]) rfl).news
            case c2 => simp [Value.oneCell']
            case c3 => unfold maxLen; omega
            case c4 => omega
            case c5 => simp; omega
            intro v' w6 hown6 hgrow6 hnil6 hblk6
            have HB6 := Lib.hid (below_app (HBl5.out.alloc HBl5.out.size (.cells #[.string (bs yn), .string (bs yv)] 26)) hgrow6 (HRow5.out.alloc _) (Nat.le_refl _) (by simp; omega))
            obtain ⟨g', cap', rfl⟩ := row_form hown6
            rw [show flatR vc L ++ [Value.string (bs yn), Value.string (bs yv)] = flatR vc (L ++ [(yn, yv)]) from flat_snoc L (yn, yv)] at hown6
            replace hown6 := Lib.hid hown6
            have HL2 := Lib.hid (show L ++ [(yn, yv)] = (T.drop k).reverse by rw [rev_drop HD.out, ← HL.out])
            clear hgrow6 hnil6 hblk6
            go_wp2
            go_roundw
            case rel => exact ⟨k, L ++ [(yn, yv)], by omega, by go_num, HL2.out, HNo2.out, HUq2.out, by simpa using hown6.out, HB6.out⟩
            case measure => simp [intOf]
      all_goals
        go_wp2_with (go_at_call 9; first
          | ((with_reducible refine (cN.out _).mono ?_); rintro e W2 ⟨rfl, hb2⟩; have HB2 := Lib.hid hb2; have HB4 := Lib.hid HB2.out; replace c0 := (hb2.cell hbb).trans c0; replace c1 := (hb2.cell hbb).trans c1; replace hbb := Nat.lt_of_lt_of_le hbb hb2.size; clear hb2)
          | ((with_reducible refine (cRr.out _).mono ?_); rintro e W3 ⟨rfl, hb3⟩; have HB3 := Lib.hid (HB2.out.trans (hb3.mono HB2.out.size)); have HB4 := Lib.hid HB3.out; replace c0 := (hb3.cell hbb).trans c0; replace c1 := (hb3.cell hbb).trans c1; replace hbb := Nat.lt_of_lt_of_le hbb hb3.size; clear hb3)
          | ((with_reducible refine (cFf.out _).mono ?_); rintro e W4 ⟨rfl, hb4⟩; have HB4 := Lib.hid (HB3.out.trans (hb4.mono HB3.out.size)); clear hb4))
        go_ret
        exact ⟨rfl, HBw.out.trans (HB4.out.mono HBw.out.size)⟩
    | zero =>
      have HTu := HTurn.out (uqF_all HUq.out) (by have := HNo.out; rwa [List.drop_zero] at this)
      obtain rfl : L = TR := by rw [HL.out, List.drop_zero]; exact HTR.out
      have HBa := Lib.hid HTu
      have e1 : ((0 : Nat) : Int) - 1 = -1 := rfl
      rw [e1]
      have cA := Lib.hid (cR1.out WO HBw.out (HTk.out.keep HBw.out HBw.out.size))
      have q1 : IntKind.i64.wrap ((b.length : Int) - 1) = (b.length : Int) - 1 := IntWalk.i64_in _ (by omega)
      clear HTu HTurn HL HTR HUq HNo HTk hsl hmz hml hn hcap
      go_wp2_with (first
        | (go_at_call 10; first
          | ((with_reducible refine (cA.out).mono ?_); rintro e W2 ⟨⟨A2, c2, rfl, hc2, hr2⟩, hb2⟩; have HR2 := Lib.hid hr2; have HB2 := Lib.hid (HBw.out.trans (hb2.mono HBw.out.size)); have cB := Lib.hid (cR2.out AO cO W2 HB2.out (row_vr (row_on HRow.out hb2))); clear hb2 hr2)
          | ((with_reducible refine (cB.out).mono ?_); rintro e W3 ⟨⟨A3, c3, rfl, hc3, hr3⟩, hb3⟩; have HR3 := Lib.hid hr3; have HB3 := Lib.hid (HB2.out.trans (hb3.mono HB2.out.size)); have HR2' := Lib.hid (HR2.out.keep hb3 hb3.size); clear hb3 hr3)))
      go_loopw [9, 10] (fun v x wr => BackRel W3 b v x wr) (fun _ x _ => (intOf x + 1).toNat)
      case atStart => exact ⟨b.length, [], Nat.le_refl _, rfl, by rw [List.drop_length]; rfl, World.ownsRow_nil _ _ _ _, Below.refl _ _⟩
      case round =>
        obtain ⟨j, K, hj2, rfl, hK, hrow, hbel⟩ := hrel
        obtain ⟨AK, cK, rfl⟩ := row_form hrow
        have hKl : K.length ≤ 20 := by rw [hK, List.length_reverse, List.length_drop]; omega
        have HK := Lib.hid hK
        have HRow7 := Lib.hid hrow
        have HBl7 := Lib.hid hbel
        have HBw7 := Lib.hid (HB3.out.trans (hbel.mono HB3.out.size))
        clear hK hrow
        cases j with
        | succ i =>
          have e1 : ((i + 1 : Nat) : Int) - 1 = (i : Int) := by omega
          rw [e1]
          have hlt : i < b.length := by omega
          have hlt' : (i : Int) < (b.length : Int) := by omega
          have h0 : (0 : Int) ≤ (i : Int) := by omega
          have q2 : IntKind.i64.wrap ((i : Int) - 1) = (i : Int) - 1 := IntWalk.i64_in _ (by omega)
          obtain ⟨b1, off, y, rfl, hbb, hd, c0, c1⟩ := VRd.var (HR3.out.keep hbel hbel.size) hlt
          have HL2 := Lib.hid (show K ++ [y] = (b.drop i).reverse by rw [rev_drop hd, ← HK.out])
          obtain ⟨yn, yv⟩ := y
          simp only at c0 c1
          have hs7 := HBl7.out.size
          clear hd hbel
          go_wp2_with (at_builtin; refine wpList_append_own_at _ rfl _ _ 27 rfl W3.heap.size 26 i0 (.agg #[.string .empty, .string .empty]) 2 32 Tryd.underlying27 Hi.out Hz0.out Hz1.out Hz2.out rfl (by decide) _ _ _ rfl (HRow7.out.alloc _) ⟨wr.heap.size, 0, none⟩ 1 1 [.string (bs yn), .string (bs yv)] rfl rfl ?c1 ?c2 ?c3 ?c4 ?c5 ?_)
          case c1 => exact (Blk.new (w := wr) (t := 26) (cs := #[.string (bs yn), .string (bs yv)]) rfl).news
          case c2 => simp [Value.oneCell']
          case c3 => unfold maxLen; omega
          case c4 => omega
          case c5 => simp; omega
          intro v' w6 hown6 hgrow6 hnil6 hblk6
          have HB6 := Lib.hid (below_app (HBl7.out.alloc HBl7.out.size (.cells #[.string (bs yn), .string (bs yv)] 26)) hgrow6 (HRow7.out.alloc _) (Nat.le_refl _) (by simp; omega))
          obtain ⟨g', cap', rfl⟩ := row_form hown6
          rw [show flatR vc K ++ [Value.string (bs yn), Value.string (bs yv)] = flatR vc (K ++ [(yn, yv)]) from flat_snoc K (yn, yv)] at hown6
          replace hown6 := Lib.hid hown6
          clear hgrow6 hnil6 hblk6
          go_wp2
          go_roundw
          case rel => exact ⟨i, K ++ [(yn, yv)], by omega, by go_num, HL2.out, by simpa using hown6.out, HB6.out⟩
          case measure => simp [intOf]
        | zero =>
          obtain rfl : K = a := by rw [HK.out, List.drop_zero, HBa.out, List.reverse_reverse]
          have e1 : ((0 : Nat) : Int) - 1 = -1 := rfl
          rw [e1]
          have cS := Lib.hid (same_ct2 A2 AK c2 cK K (by omega) wr (HR2'.out.keep hbel hbel.size) (row_vr HRow7.out))
          clear hbel
          go_wp2_with (go_at_call 11; (with_reducible refine (cS.out).mono ?_); rintro e W8 ⟨rfl, hb8⟩; have HB8 := Lib.hid (HBw7.out.trans (hb8.mono HBw7.out.size)); clear hb8)
          go_ret
          exact ⟨rfl, HB8.out⟩

end Go.Proofs.YtmjbaimccbkmpaaDoor.vrs
