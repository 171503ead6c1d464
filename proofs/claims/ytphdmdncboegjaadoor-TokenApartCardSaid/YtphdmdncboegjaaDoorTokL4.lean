/- A blank parts: what a text with a blank and another text behind it is cut into. No walk. -/
import Derived.Test.YtphdmdncboegjaaDoorTokL3
namespace Go.Proofs.YtphdmdncboegjaaDoor.tok
open Go.RowKit Go.Proofs.YtphdmdncboegjaaDoor.base
set_option linter.unusedVariables false

theorem esc_blank (c : UInt8) (m : Bs) (h : ¬ nv c = 92) : escP (c :: 32 :: m) = false := by simp [escP, h]
theorem esc_32 (m : Bs) : escP (32 :: m) = false := by
  cases m with
  | nil => rfl
  | cons d m => rfl
theorem sign_92 {c : UInt8} (h : nv c = 92) : signI (nv c) = false := by rw [h]; rfl
theorem nv92 {c : UInt8} (h : nv c = 92) : c = 92 := by
  apply UInt8.toNat_inj.1
  simp only [nv] at h
  have : (92 : UInt8).toNat = 92 := rfl
  omega
theorem nv_eq {c : UInt8} {n : Nat} (hn : n < 256) (h : nv c = n) : c = UInt8.ofNat n := by
  apply UInt8.toNat_inj.1
  rw [UInt8.toNat_ofNat']
  simp only [nv] at h
  omega

theorem name_blank (m : Bs) : nameP (32 :: m) = ([], 0) := by
  cases m with
  | nil => rw [name_cons1]; rfl
  | cons d m =>
    rw [name_cons2, if_neg (by rw [esc_32]; simp), if_neg (by decide)]
theorem begins_blank (m : Bs) : beginsP (32 :: m) = false := by
  cases m with
  | nil => rfl
  | cons d m =>
    simp only [beginsP]
    rw [if_neg (by decide), esc_32]
    rfl

theorem name_ext (m : Bs) : ∀ (n : Nat) (y : Bs), y.length ≤ n → y.drop (nameP y).2 ≠ [92] → nameP (y ++ 32 :: m) = nameP y
  | 0, y, h, hd => by
    obtain rfl := List.eq_nil_of_length_eq_zero (Nat.le_zero.1 h)
    rw [List.nil_append, name_blank, name_nil]
  | n + 1, [], h, hd => by rw [List.nil_append, name_blank, name_nil]
  | n + 1, [c], h, hd => by
    rw [name_cons1] at hd
    simp only [List.cons_append, List.nil_append]
    rw [name_cons2, name_cons1]
    by_cases hs : signI (nv c) = true
    · have h92 : ¬ nv c = 92 := fun e => by rw [sign_92 e] at hs; cases hs
      rw [if_neg (by rw [esc_blank c m h92]; simp), if_pos hs, if_pos hs, name_blank]
    · rw [if_neg hs] at hd
      have h92 : ¬ nv c = 92 := fun e => hd (by rw [nv92 e]; rfl)
      rw [if_neg (by rw [esc_blank c m h92]; simp), if_neg hs, if_neg hs]
  | n + 1, c :: d :: r, h, hd => by
    rw [name_cons2] at hd ⊢
    simp only [List.cons_append]
    rw [name_cons2]
    have he : escP (c :: d :: (r ++ 32 :: m)) = escP (c :: d :: r) := rfl
    rw [he]
    by_cases h1 : escP (c :: d :: r) = true
    · rw [if_pos h1] at hd ⊢
      rw [if_pos h1, name_ext m n r (by simp at h; omega) (by simpa using hd)]
    · rw [if_neg h1] at hd ⊢
      rw [if_neg h1]
      by_cases hs : signI (nv c) = true
      · rw [if_pos hs] at hd ⊢
        rw [if_pos hs]
        have ih := name_ext m n (d :: r) (by simp at h ⊢; omega) (by simpa using hd)
        rw [List.cons_append] at ih
        rw [ih]
      · rw [if_neg hs, if_neg hs]
theorem name_ext' (m : Bs) {y : Bs} (h : y.drop (nameP y).2 ≠ [92]) : nameP (y ++ 32 :: m) = nameP y := name_ext m _ y (Nat.le_refl _) h

theorem begins_ext (m : Bs) {r : Bs} (h1 : r ≠ [92]) (h2 : r ≠ [45, 92]) : beginsP (r ++ 32 :: m) = beginsP r := by
  match r, h1, h2 with
  | [], _, _ => exact begins_blank m
  | [c], h1, _ =>
    simp only [List.cons_append, List.nil_append, beginsP]
    have h92 : ¬ nv c = 92 := fun e => h1 (by rw [nv92 e])
    by_cases h45 : nv c = 45
    · rw [if_pos h45, esc_32, h45]
      rfl
    · rw [if_neg h45, esc_blank c m h92]
      simp
  | c :: d :: r, _, h2 =>
    simp only [List.cons_append, beginsP]
    by_cases h45 : nv c = 45
    · rw [if_pos h45, if_pos h45]
      cases r with
      | nil =>
        have h92 : ¬ nv d = 92 := fun e => h2 (by rw [nv92 e, nv_eq (n := 45) (by decide) h45]; rfl)
        simp only [List.nil_append]
        rw [esc_blank d m h92]
        rfl
      | cons e r => rfl
    · rw [if_neg h45, if_neg h45]
      rfl

theorem while_app (p : UInt8 → Bool) (m : Bs) (h : p 32 = false) : ∀ y : Bs, ((y ++ 32 :: m).takeWhile p).length = (y.takeWhile p).length
  | [] => by simp [h]
  | c :: y => by
    simp only [List.cons_append, List.takeWhile_cons]
    cases p c
    · rfl
    · simp only [if_true, List.length_cons]
      rw [while_app p m h y]
theorem digits_ext (m y : Bs) : digitsP (y ++ 32 :: m) = digitsP y := while_app _ m (by decide) y
theorem behind_ext (m y : Bs) : behindP (y ++ 32 :: m) = behindP y := by
  cases y with
  | nil =>
    simp only [List.nil_append, behindP]
    rw [if_neg (by decide)]
  | cons c t =>
    simp only [List.cons_append, behindP, digits_ext]

theorem number_ext (m : Bs) {l : Bs} (h0 : l ≠ []) : numberP (l ++ 32 :: m) = numberP l := by
  have hs : signAt (l ++ 32 :: m) = signAt l ∧ negP (l ++ 32 :: m) = negP l := by
    cases l with
    | nil => exact absurd rfl h0
    | cons c r => exact ⟨rfl, rfl⟩
  obtain ⟨_, hsl⟩ := signAt_le l
  unfold numberP
  rw [hs.1, hs.2]
  generalize signAt l = f at *
  have e1 : digitsP ((l ++ 32 :: m).drop f) = digitsP (l.drop f) := by rw [List.drop_append_of_le_length hsl, digits_ext]
  rw [e1]
  have hw := digits_le (l.drop f)
  rw [List.length_drop] at hw
  generalize digitsP (l.drop f) = wh at *
  have e2 : behindP ((l ++ 32 :: m).drop (f + wh)) = behindP (l.drop (f + wh)) := by rw [List.drop_append_of_le_length (by omega), behind_ext]
  rw [e2]
  have hb := behind_le (l.drop (f + wh))
  rw [List.length_drop] at hb
  generalize behindP (l.drop (f + wh)) = be at *
  unfold numAt
  have e3 : sumP (l ++ 32 :: m) f wh be = sumP l f wh be := by
    unfold sumP
    have a1 : ((l ++ 32 :: m).drop f).take wh = (l.drop f).take wh := by
      rw [List.drop_append_of_le_length hsl, List.take_append_of_le_length (by rw [List.length_drop]; omega)]
    have a2 : ((l ++ 32 :: m).drop (f + wh + 1)).take be = (l.drop (f + wh + 1)).take be := by
      rcases hb with hb | hb
      · rw [hb]; simp
      · rw [List.drop_append_of_le_length (by omega), List.take_append_of_le_length (by rw [List.length_drop]; omega)]
    rw [a1, a2]
  rw [e3]

theorem textR_ext (q : UInt8) (m : Bs) : ∀ (n : Nat) (r : Bs), r.length ≤ n → ((textR q r).2.1 < r.length ∨ (textR q r).1 = 5) → textR q (r ++ 32 :: m) = textR q r
  | 0, r, h, hc => by
    obtain rfl := List.eq_nil_of_length_eq_zero (Nat.le_zero.1 h)
    rw [textR_nil] at hc
    simp at hc
  | n + 1, [], h, hc => by
    rw [textR_nil] at hc
    simp at hc
  | n + 1, [c], h, hc => by
    rw [textR_one] at hc ⊢
    simp only [List.cons_append, List.nil_append]
    rw [textR_two]
    split
    · rfl
    · split
      · rfl
      · rename_i h1 h2
        rw [if_neg h1, if_neg h2] at hc
        simp at hc
  | n + 1, c :: d :: r, h, hc => by
    rw [textR_two] at hc ⊢
    simp only [List.cons_append]
    rw [textR_two]
    split
    · rfl
    · rename_i h1
      split
      · rfl
      · rename_i h2
        rw [if_neg h1, if_neg h2] at hc
        split
        · rename_i h3
          rw [if_pos h3] at hc
          rw [textR_ext q m n r (by simp at h; omega) (by simp only [List.length_cons] at hc; omega)]
        · rename_i h3
          rw [if_neg h3] at hc
          have ih := textR_ext q m n (d :: r) (by simp at h ⊢; omega) (by simp only [List.length_cons] at hc ⊢; omega)
          rw [List.cons_append] at ih
          rw [ih]
theorem textR_le (q : UInt8) : ∀ (n : Nat) (r : Bs), r.length ≤ n → (textR q r).2.1 ≤ r.length
  | 0, r, h => by
    obtain rfl := List.eq_nil_of_length_eq_zero (Nat.le_zero.1 h)
    rw [textR_nil]
    simp
  | n + 1, [], h => by rw [textR_nil]; simp
  | n + 1, [c], h => by
    rw [textR_one]
    split
    · simp
    · split <;> simp
  | n + 1, c :: d :: r, h => by
    rw [textR_two]
    split
    · simp
    · split
      · simp
      · split
        · have := textR_le q n r (by simp at h; omega)
          simp; omega
        · have := textR_le q n (d :: r) (by simp at h ⊢; omega)
          simp at this ⊢; omega
theorem textR_kind (q : UInt8) : ∀ (n : Nat) (r : Bs), r.length ≤ n → (textR q r).1 = 5 ∨ (textR q r).1 = 6
  | 0, r, h => by
    obtain rfl := List.eq_nil_of_length_eq_zero (Nat.le_zero.1 h)
    rw [textR_nil]
    simp
  | n + 1, [], h => by rw [textR_nil]; simp
  | n + 1, [c], h => by
    rw [textR_one]
    split
    · simp
    · split <;> simp
  | n + 1, c :: d :: r, h => by
    rw [textR_two]
    split
    · simp
    · split
      · simp
      · split
        · exact textR_kind q n r (by simp at h; omega)
        · exact textR_kind q n (d :: r) (by simp at h ⊢; omega)

theorem index_ext (s m : Bs) (h : 0 ≤ Lib.index s [42, 47]) : Lib.index (s ++ m) [42, 47] = Lib.index s [42, 47] := by
  rcases Lib.index_spec s [42, 47] with ⟨h1, _⟩ | ⟨j, hj, hjl, hocc, hno⟩
  · omega
  · have hr := Lib.index_room s [42, 47] (by omega)
    simp only [List.length_cons, List.length_nil] at hr
    rw [hj]
    refine Lib.index_first (by simp; omega) ?_ (fun k hk => ?_)
    · unfold Lib.occAt at hocc ⊢
      rw [List.drop_append_of_le_length hjl]
      rw [List.isPrefixOf_iff_prefix] at hocc ⊢
      exact hocc.trans (List.prefix_append _ _)
    · have := hno k hk
      unfold Lib.occAt at this ⊢
      cases hp : List.isPrefixOf [42, 47] ((s ++ m).drop k)
      · rfl
      · rw [List.drop_append_of_le_length (by omega)] at hp
        rw [List.isPrefixOf_iff_prefix] at hp
        have hp2 := List.prefix_of_prefix_length_le hp (List.prefix_append (s.drop k) m) (by simp; omega)
        rw [← List.isPrefixOf_iff_prefix] at hp2
        rw [hp2] at this
        cases this

end Go.Proofs.YtphdmdncboegjaaDoor.tok
