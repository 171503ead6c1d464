/- Contracts and plain law, a bundle. -/
import Derived.Lib.Hide
import Derived.Test.YthgffoanecknoaaGreatDoorBC
set_option linter.unusedVariables false
set_option maxRecDepth 100000
set_option maxHeartbeats 16000000
open Go.Lib (hid)
namespace Go.Proofs.YthgffoanecknoaaGreatDoor
namespace tok
open Go.RowKit base
theorem name_cons1 (c : UInt8) : nameP [c] = if signI (nv c) then ([c], 1) else ([], 0) := by rw [nameP]
theorem name_cons2 (c d : UInt8) (r : Bs) : nameP (c :: d :: r) = if escP (c :: d :: r) then (d :: (nameP r).1, (nameP r).2 + 2) else if signI (nv c) then (c :: (nameP (d :: r)).1, (nameP (d :: r)).2 + 1) else ([], 0) := by rw [nameP]
theorem name_nil : nameP [] = ([], 0) := by rw [nameP]
end tok
namespace tok
open Go.RowKit base
theorem textR_nil (q : UInt8) : textR q [] = (6, 0, []) := by rw [textR]
theorem textR_one (q c : UInt8) : textR q [c] = if nv c = nv q then (5, 1, []) else if nv c = 10 then (6, 0, []) else (6, 1, [c]) := by rw [textR]
theorem textR_two (q c d : UInt8) (r : Bs) : textR q (c :: d :: r) = if nv c = nv q then (5, 1, []) else if nv c = 10 then (6, 0, []) else
   if nv c = 92 then ((textR q r).1, (textR q r).2.1 + 2, d :: (textR q r).2.2) else ((textR q (d :: r)).1, (textR q (d :: r)).2.1 + 1, c :: (textR q (d :: r)).2.2) := by rw [textR]
end tok
namespace tok
open Go.RowKit base
end tok
namespace tok
open Go.RowKit base
theorem esc_blank (c : UInt8) (m : Bs) (h : ¬ nv c = 92) : escP (c :: 32 :: m) = false := by simp [escP, h]
theorem esc_32 (m : Bs) : escP (32 :: m) = false := by
 cases m with
 | nil => rfl
 | cons d m => rfl
theorem sign_92 {c : UInt8} (h : nv c = 92) : signI (nv c) = false := by rw [h]; rfl
theorem nv92 {c : UInt8} (h : nv c = 92) : c = 92 := by
 apply UInt8.toNat_inj.1
 simp only [nv] at h
 have : (92 : UInt8).toNat = 92 := rfl
 omega
theorem nv_eq {c : UInt8} {n : Nat} (hn : n < 256) (h : nv c = n) : c = UInt8.ofNat n := by
 apply UInt8.toNat_inj.1
 rw [UInt8.toNat_ofNat']
 simp only [nv] at h
 omega
theorem textR_le (q : UInt8) : ∀ (n : Nat) (r : Bs), r.length <= n -> (textR q r).2.1 <= r.length
 | 0, r, h => by
  obtain rfl := List.eq_nil_of_length_eq_zero (Nat.le_zero.1 h)
  rw [textR_nil]
  simp
 | n + 1, [], h => by rw [textR_nil]; simp
 | n + 1, [c], h => by
  rw [textR_one]
  split
  ·simp
  ·split <;> simp
 | n + 1, c :: d :: r, h => by
  rw [textR_two]
  split
  ·simp
  ·split
   ·simp
   ·split
    ·have := textR_le q n r (by simp at h; omega)
     simp; omega
    ·have := textR_le q n (d :: r) (by simp at h ⊢; omega)
     simp at this ⊢; omega
theorem textR_kind (q : UInt8) : ∀ (n : Nat) (r : Bs), r.length <= n -> (textR q r).1 = 5 ∨ (textR q r).1 = 6
 | 0, r, h => by
  obtain rfl := List.eq_nil_of_length_eq_zero (Nat.le_zero.1 h)
  rw [textR_nil]
  simp
 | n + 1, [], h => by rw [textR_nil]; simp
 | n + 1, [c], h => by
  rw [textR_one]
  split
  ·simp
  ·split <;> simp
 | n + 1, c :: d :: r, h => by
  rw [textR_two]
  split
  ·simp
  ·split
   ·simp
   ·split
    ·exact textR_kind q n r (by simp at h; omega)
    ·exact textR_kind q n (d :: r) (by simp at h ⊢; omega)
theorem index_ext (s m : Bs) (h : 0 <= Lib.index s [42, 47]) : Lib.index (s ++ m) [42, 47] = Lib.index s [42, 47] := by
 rcases Lib.index_spec s [42, 47] with ⟨h1, _⟩ | ⟨j, hj, hjl, hocc, hno⟩
 ·omega
 ·have hr := Lib.index_room s [42, 47] (by omega)
  simp only [List.length_cons, List.length_nil] at hr
  rw [hj]
  refine Lib.index_first (by simp; omega) ?_ (fun k hk => ?_)
  ·unfold Lib.occAt at hocc ⊢
   rw [List.drop_append_of_le_length hjl]
   rw [List.isPrefixOf_iff_prefix] at hocc ⊢
   exact hocc.trans (List.prefix_append _ _)
  ·have := hno k hk
   unfold Lib.occAt at this ⊢
   cases hp : List.isPrefixOf [42, 47] ((s ++ m).drop k)
   ·rfl
   ·rw [List.drop_append_of_le_length (by omega)] at hp
    rw [List.isPrefixOf_iff_prefix] at hp
    have hp2 := List.prefix_of_prefix_length_le hp (List.prefix_append (s.drop k) m) (by simp; omega)
    rw [<- List.isPrefixOf_iff_prefix] at hp2
    rw [hp2] at this
    cases this
end tok
namespace tok
open Go.RowKit base
def Ends (l : Bs) : Prop := ∀ t, (cutP l).getLast? = some t -> ¬ t.k = 6 /\ ¬ t.k = 9 /\ ¬ t.k = 8
theorem cut_ne {r : Bs} (h : r ≠ []) : cutP r ≠ [] := by rw [cutP_cons h]; simp
theorem ends_rest {l : Bs} (h0 : l ≠ []) (hE : Ends l) : (l.drop (firstP l).raw.length = [] -> ¬ (firstP l).k = 6 /\ ¬ (firstP l).k = 9 /\ ¬ (firstP l).k = 8) /\ (l.drop (firstP l).raw.length ≠ [] -> Ends (l.drop (firstP l).raw.length)) := by
 refine ⟨fun h => hE _ ?_, fun h t ht => hE t ?_⟩
 ·rw [cutP_cons h0, h, cutP_nil]
  rfl
 ·rw [cutP_cons h0]
  obtain ⟨a, al, hx⟩ := List.exists_cons_of_ne_nil (cut_ne h)
  rw [hx] at ht ⊢
  rw [List.getLast?_cons_cons]
  exact ht
theorem first_92 : firstP [92] = ⟨6, [92], [], 0⟩ := by
 rw [firstP, if_neg (by decide), if_neg (by decide), if_neg (by decide), if_neg (by decide), if_neg (by decide), if_neg (by decide), if_neg (by decide)]
 rfl
theorem cut_92 : cutP [92] = [⟨6, [92], [], 0⟩] := by
 rw [cutP_cons (by decide), first_92]
 simp [cutP_nil]
theorem first_4592 : firstP [45, 92] = ⟨12, [45], [], 0⟩ := by
 rw [firstP, if_neg (by decide), if_neg (by decide), if_neg (by decide), if_neg (by decide), if_neg (by decide), if_neg (by decide), if_neg (by decide)]
 rfl
theorem cut_4592 : cutP [45, 92] = [⟨12, [45], [], 0⟩, ⟨6, [92], [], 0⟩] := by
 rw [cutP_cons (by decide), first_4592]
 simp [cut_92]
theorem first_3592 : firstP [35, 92] = ⟨12, [35], [], 0⟩ := by
 rw [firstP, if_neg (by decide), if_neg (by decide), if_neg (by decide), if_neg (by decide), if_neg (by decide), if_neg (by decide), if_neg (by decide)]
 rfl
theorem first_6492 : firstP [64, 92] = ⟨12, [64], [], 0⟩ := by
 rw [firstP, if_neg (by decide), if_neg (by decide), if_neg (by decide), if_neg (by decide), if_neg (by decide), if_neg (by decide), if_neg (by decide)]
 rfl
theorem first_644592 : firstP [64, 45, 92] = ⟨12, [64], [], 0⟩ := by
 rw [firstP, if_neg (by decide), if_neg (by decide), if_neg (by decide), if_neg (by decide), if_neg (by decide), if_neg (by decide), if_neg (by decide)]
 rfl
theorem no_92 {l : Bs} (h : Ends l) : l ≠ [92] := fun e => by
 subst e
 have := h ⟨6, [92], [], 0⟩ (by rw [cut_92]; rfl)
 exact this.1 rfl
theorem no_4592 {l : Bs} (h : Ends l) : l ≠ [45, 92] := fun e => by
 subst e
 have := h ⟨6, [92], [], 0⟩ (by rw [cut_4592]; rfl)
 exact this.1 rfl
theorem no_3592 {l : Bs} (h : Ends l) : l ≠ [35, 92] := fun e => by
 subst e
 have := h ⟨6, [92], [], 0⟩ (by rw [cutP_cons (by decide), first_3592]; simp [cut_92])
 exact this.1 rfl
theorem no_6492 {l : Bs} (h : Ends l) : l ≠ [64, 92] := fun e => by
 subst e
 have := h ⟨6, [92], [], 0⟩ (by rw [cutP_cons (by decide), first_6492]; simp [cut_92])
 exact this.1 rfl
theorem no_644592 {l : Bs} (h : Ends l) : l ≠ [64, 45, 92] := fun e => by
 subst e
 have := h ⟨6, [92], [], 0⟩ (by rw [cutP_cons (by decide), first_644592]; simp [cut_4592])
 exact this.1 rfl
theorem while_len (p : UInt8 -> Bool) (x : Bs) : ∀ l : Bs, (l.takeWhile p).length < l.length -> ((l ++ x).takeWhile p).length = (l.takeWhile p).length
 | [], h => by simp at h
 | c :: l, h => by
  simp only [List.cons_append, List.takeWhile_cons] at h ⊢
  cases hp : p c
  ·rfl
  ·rw [hp] at h
   simp only [if_true, List.length_cons] at h ⊢
   rw [while_len p x l (by omega)]
theorem space_ext {l : Bs} (x : Bs) (h : spaceP l < l.length) : spaceP (l ++ x) = spaceP l := while_len _ x l h
theorem quote_ext (x : Bs) {l : Bs} (h0 : l ≠ []) : quoteP (l ++ x) = quoteP l := by
 cases l with
 | nil => exact absurd rfl h0
 | cons a r => rfl
theorem one_ext (x : Bs) {l : Bs} (h0 : l ≠ []) : oneK (l ++ x) = oneK l := by
 cases l with
 | nil => exact absurd rfl h0
 | cons a r => rfl
theorem take_ext (x : Bs) {l : Bs} {k : Nat} (h : k <= l.length) : (l ++ x).take k = l.take k := List.take_append_of_le_length h
theorem drop_ext (x : Bs) {l : Bs} {k : Nat} (h : k <= l.length) : (l ++ x).drop k = l.drop k ++ x := List.drop_append_of_le_length h
end tok
namespace tok.st
open Go.RowKit base tok
def Stop (c : UInt8) : Prop := signI (nv c) = false /\ ¬ nv c = 92 /\ ¬ nv c = 46 /\ ¬ nv c = 37 /\ ¬ nv c = 40 /\ ¬ nv c = 42
instance (c : UInt8) : Decidable (Stop c) := by unfold Stop; exact inferInstance
theorem Stop.starts {s : UInt8} (h : Stop s) : startsI (nv s) = false := by
 have := h.1
 simp only [signI, Bool.or_eq_false_iff] at this
 exact this.1.1
theorem Stop.digit {s : UInt8} (h : Stop s) : digI (nv s) = false := by
 have := h.1
 simp only [signI, Bool.or_eq_false_iff] at this
 exact this.1.2
theorem Stop.minus {s : UInt8} (h : Stop s) : ¬ nv s = 45 := by
 have := h.1
 simp only [signI, Bool.or_eq_false_iff, decide_eq_false_iff_not] at this
 exact this.2
theorem Stop.ne {s : UInt8} {c : UInt8} (h : ¬ nv s = nv c) : (c == s) = false := by
 rw [beq_eq_false_iff_ne]
 intro e
 subst e
 exact h rfl
theorem esc_blank (s c : UInt8) (m : Bs) (h : ¬ nv c = 92) : escP (c :: s :: m) = false := by simp [escP, h]
theorem esc_32 {s : UInt8} (hS : Stop s) (m : Bs) : escP (s :: m) = false := by
 cases m with
 | nil => rfl
 | cons d m => simp [escP, hS.2.1]
theorem name_blank {s : UInt8} (hS : Stop s) (m : Bs) : nameP (s :: m) = ([], 0) := by
 cases m with
 | nil => rw [name_cons1, if_neg (by rw [hS.1]; simp)]
 | cons d m =>
  rw [name_cons2, if_neg (by rw [esc_32 hS]; simp), if_neg (by rw [hS.1]; simp)]
theorem begins_blank {s : UInt8} (hS : Stop s) (m : Bs) : beginsP (s :: m) = false := by
 cases m with
 | nil => exact hS.starts
 | cons d m =>
  simp only [beginsP]
  rw [if_neg hS.minus, esc_32 hS, hS.starts]
  rfl
theorem name_ext {s : UInt8} (hS : Stop s) (m : Bs) : ∀ (n : Nat) (y : Bs), y.length <= n -> y.drop (nameP y).2 ≠ [92] -> nameP (y ++ s :: m) = nameP y
 | 0, y, h, hd => by
  obtain rfl := List.eq_nil_of_length_eq_zero (Nat.le_zero.1 h)
  rw [List.nil_append, name_blank hS, name_nil]
 | n + 1, [], h, hd => by rw [List.nil_append, name_blank hS, name_nil]
 | n + 1, [c], h, hd => by
  rw [name_cons1] at hd
  simp only [List.cons_append, List.nil_append]
  rw [name_cons2, name_cons1]
  by_cases hs : signI (nv c) = true
  ·have h92 : ¬ nv c = 92 := fun e => by rw [sign_92 e] at hs; cases hs
   rw [if_neg (by rw [esc_blank s c m h92]; simp), if_pos hs, if_pos hs, name_blank hS]
  ·rw [if_neg hs] at hd
   have h92 : ¬ nv c = 92 := fun e => hd (by rw [nv92 e]; rfl)
   rw [if_neg (by rw [esc_blank s c m h92]; simp), if_neg hs, if_neg hs]
 | n + 1, c :: d :: r, h, hd => by
  rw [name_cons2] at hd ⊢
  simp only [List.cons_append]
  rw [name_cons2]
  have he : escP (c :: d :: (r ++ s :: m)) = escP (c :: d :: r) := rfl
  rw [he]
  by_cases h1 : escP (c :: d :: r) = true
  ·rw [if_pos h1] at hd ⊢
   rw [if_pos h1, name_ext hS m n r (by simp at h; omega) (by simpa using hd)]
  ·rw [if_neg h1] at hd ⊢
   rw [if_neg h1]
   by_cases hs : signI (nv c) = true
   ·rw [if_pos hs] at hd ⊢
    rw [if_pos hs]
    have ih := name_ext hS m n (d :: r) (by simp at h ⊢; omega) (by simpa using hd)
    rw [List.cons_append] at ih
    rw [ih]
   ·rw [if_neg hs, if_neg hs]
theorem name_ext' {s : UInt8} (hS : Stop s) (m : Bs) {y : Bs} (h : y.drop (nameP y).2 ≠ [92]) : nameP (y ++ s :: m) = nameP y := name_ext hS m _ y (Nat.le_refl _) h
theorem begins_ext {s : UInt8} (hS : Stop s) (m : Bs) {r : Bs} (h1 : r ≠ [92]) (h2 : r ≠ [45, 92]) : beginsP (r ++ s :: m) = beginsP r := by
 match r, h1, h2 with
 | [], _, _ => exact begins_blank hS m
 | [c], h1, _ =>
  simp only [List.cons_append, List.nil_append, beginsP]
  have h92 : ¬ nv c = 92 := fun e => h1 (by rw [nv92 e])
  by_cases h45 : nv c = 45
  ·rw [if_pos h45, esc_32 hS, h45, hS.starts, decide_eq_false hS.minus]
   rfl
  ·rw [if_neg h45, esc_blank s c m h92]
   simp
 | c :: d :: r, _, h2 =>
  simp only [List.cons_append, beginsP]
  by_cases h45 : nv c = 45
  ·rw [if_pos h45, if_pos h45]
   cases r with
   | nil =>
    have h92 : ¬ nv d = 92 := fun e => h2 (by rw [nv92 e, nv_eq (n := 45) (by decide) h45]; rfl)
    simp only [List.nil_append]
    rw [esc_blank s d m h92]
    rfl
   | cons e r => rfl
  ·rw [if_neg h45, if_neg h45]
   rfl
theorem while_app {s : UInt8} (p : UInt8 -> Bool) (m : Bs) (h : p s = false) : ∀ y : Bs, ((y ++ s :: m).takeWhile p).length = (y.takeWhile p).length
 | [] => by simp [h]
 | c :: y => by
  simp only [List.cons_append, List.takeWhile_cons]
  cases p c
  ·rfl
  ·simp only [if_true, List.length_cons]
   rw [while_app p m h y]
theorem digits_ext {s : UInt8} (hS : Stop s) (m y : Bs) : digitsP (y ++ s :: m) = digitsP y := while_app _ m hS.digit y
theorem behind_ext {s : UInt8} (hS : Stop s) (m y : Bs) : behindP (y ++ s :: m) = behindP y := by
 cases y with
 | nil =>
  simp only [List.nil_append, behindP]
  rw [if_neg hS.2.2.1]
 | cons c t =>
  simp only [List.cons_append, behindP, digits_ext hS]
theorem number_ext {s : UInt8} (hS : Stop s) (m : Bs) {l : Bs} (h0 : l ≠ []) : numberP (l ++ s :: m) = numberP l := by
 have hs : signAt (l ++ s :: m) = signAt l /\ negP (l ++ s :: m) = negP l := by
  cases l with
  | nil => exact absurd rfl h0
  | cons c r => exact ⟨rfl, rfl⟩
 obtain ⟨_, hsl⟩ := signAt_le l
 unfold numberP
 rw [hs.1, hs.2]
 generalize signAt l = f at *
 have e1 : digitsP ((l ++ s :: m).drop f) = digitsP (l.drop f) := by rw [List.drop_append_of_le_length hsl, digits_ext hS]
 rw [e1]
 have hw := digits_le (l.drop f)
 rw [List.length_drop] at hw
 generalize digitsP (l.drop f) = wh at *
 have e2 : behindP ((l ++ s :: m).drop (f + wh)) = behindP (l.drop (f + wh)) := by rw [List.drop_append_of_le_length (by omega), behind_ext hS]
 rw [e2]
 have hb := behind_le (l.drop (f + wh))
 rw [List.length_drop] at hb
 generalize behindP (l.drop (f + wh)) = be at *
 unfold numAt
 have e3 : sumP (l ++ s :: m) f wh be = sumP l f wh be := by
  unfold sumP
  have a1 : ((l ++ s :: m).drop f).take wh = (l.drop f).take wh := by
   rw [List.drop_append_of_le_length hsl, List.take_append_of_le_length (by rw [List.length_drop]; omega)]
  have a2 : ((l ++ s :: m).drop (f + wh + 1)).take be = (l.drop (f + wh + 1)).take be := by
   rcases hb with hb | hb
   ·rw [hb]; simp
   ·rw [List.drop_append_of_le_length (by omega), List.take_append_of_le_length (by rw [List.length_drop]; omega)]
  rw [a1, a2]
 rw [e3]
theorem textR_ext (q s : UInt8) (m : Bs) : ∀ (n : Nat) (r : Bs), r.length <= n -> ((textR q r).2.1 < r.length ∨ (textR q r).1 = 5) -> textR q (r ++ s :: m) = textR q r
 | 0, r, h, hc => by
  obtain rfl := List.eq_nil_of_length_eq_zero (Nat.le_zero.1 h)
  rw [textR_nil] at hc
  simp at hc
 | n + 1, [], h, hc => by
  rw [textR_nil] at hc
  simp at hc
 | n + 1, [c], h, hc => by
  rw [textR_one] at hc ⊢
  simp only [List.cons_append, List.nil_append]
  rw [textR_two]
  split
  ·rfl
  ·split
   ·rfl
   ·rename_i h1 h2
    rw [if_neg h1, if_neg h2] at hc
    simp at hc
 | n + 1, c :: d :: r, h, hc => by
  rw [textR_two] at hc ⊢
  simp only [List.cons_append]
  rw [textR_two]
  split
  ·rfl
  ·rename_i h1
   split
   ·rfl
   ·rename_i h2
    rw [if_neg h1, if_neg h2] at hc
    split
    ·rename_i h3
     rw [if_pos h3] at hc
     rw [textR_ext q s m n r (by simp at h; omega) (by simp only [List.length_cons] at hc; omega)]
    ·rename_i h3
     rw [if_neg h3] at hc
     have ih := textR_ext q s m n (d :: r) (by simp at h ⊢; omega) (by simp only [List.length_cons] at hc ⊢; omega)
     rw [List.cons_append] at ih
     rw [ih]
theorem hp2_ext {s : UInt8} (hS : Stop s) (m : Bs) {l : Bs} (h0 : l ≠ []) : Lib.hasPrefix (l ++ s :: m) [47, 42] = Lib.hasPrefix l [47, 42] := by
 match l, h0 with
 | [a], _ =>
  simp only [Lib.hasPrefix, List.cons_append, List.nil_append, List.isPrefixOf, Stop.ne (c := 42) hS.2.2.2.2.2]
  cases (47 == a) <;> rfl
 | a :: b :: r, _ => rfl
theorem hp1_ext {s : UInt8} (hS : Stop s) (m y : Bs) (c : UInt8) (hc : (c == s) = false) : Lib.hasPrefix (y ++ s :: m) [c] = Lib.hasPrefix y [c] := by
 cases y with
 | nil => simp [Lib.hasPrefix, List.isPrefixOf, hc]
 | cons a r => rfl
theorem hash_ext {s : UInt8} (hS : Stop s) (m : Bs) {l : Bs} (h0 : l ≠ []) (h : l ≠ [35, 92]) : hashP (l ++ s :: m) = hashP l := by
 match l, h0, h with
 | [a], _, _ =>
  simp only [List.cons_append, List.nil_append, hashP, esc_32 hS, hS.1]
  simp
 | [a, b], _, h =>
  simp only [List.cons_append, List.nil_append, hashP]
  by_cases h35 : nv a = 35
  ·have h92 : ¬ nv b = 92 := fun e => h (by rw [nv92 e, nv_eq (n := 35) (by decide) h35]; rfl)
   rw [esc_blank s b m h92]
   rfl
  ·simp [h35]
 | a :: b :: c :: r, _, _ => rfl
theorem at_ext {s : UInt8} (hS : Stop s) (m : Bs) {l : Bs} (h0 : l ≠ []) (h1 : l ≠ [64, 92]) (h2 : l ≠ [64, 45, 92]) : atP (l ++ s :: m) = atP l := by
 match l, h0, h1, h2 with
 | a :: r, _, h1, h2 =>
  simp only [List.cons_append, atP]
  by_cases h64 : nv a = 64
  ·have ha := nv_eq (n := 64) (by decide) h64
   rw [begins_ext hS m (fun e => h1 (by rw [e, ha]; rfl)) (fun e => h2 (by rw [e, ha]; rfl))]
  ·simp [h64]
theorem first_ext {s : UInt8} (hS : Stop s) (m : Bs) {l : Bs} (h0 : l ≠ []) (hE : Ends l) : firstP (l ++ s :: m) = firstP l := by
 have hl : 0 < l.length := List.length_pos_iff.2 h0
 obtain ⟨hR1, hR2⟩ := ends_rest h0 hE
 have hne : l ++ s :: m ≠ [] := by simp
 generalize hF : firstP l = F at *
 rw [firstP] at hF
 by_cases hsp : 0 < spaceP l
 ·rw [if_pos hsp] at hF
  subst hF
  have hle := space_le l
  have hlen : (l.take (spaceP l)).length = spaceP l := by rw [List.length_take]; omega
  simp only [hlen] at hR1
  have hlt : spaceP l < l.length := by
   rcases Nat.lt_or_ge (spaceP l) l.length with h | h
   ·exact h
   ·exact ((hR1 (List.drop_eq_nil_of_le h)).2.2 (by trivial)).elim
  rw [firstP, space_ext _ hlt, if_pos hsp, take_ext _ hle]
 rw [if_neg hsp] at hF
 have hsz : spaceP l = 0 := by omega
 have e0 : spaceP (l ++ s :: m) = 0 := by rw [space_ext _ (by omega), hsz]
 rw [firstP, e0, if_neg (by omega), hp2_ext hS m h0]
 by_cases hn : Lib.hasPrefix l [47, 42] = true
 ·rw [if_pos hn] at hF
  rw [if_pos hn]
  subst hF
  have h2 : 2 <= l.length := by
   match l, hn with
   | [], hn => simp [Lib.hasPrefix, List.isPrefixOf] at hn
   | [a], hn => simp [Lib.hasPrefix, List.isPrefixOf] at hn
   | a :: b :: r, _ => simp
  by_cases hi : 0 <= Lib.index (l.drop 2) [42, 47]
  ·have hr := Lib.index_room (l.drop 2) [42, 47] hi
   rw [List.length_drop] at hr
   simp only [List.length_cons, List.length_nil] at hr
   unfold noteP
   rw [drop_ext _ h2, index_ext _ _ hi, if_pos hi, if_pos hi, take_ext _ (by omega)]
  ·exfalso
   have e : noteP l = ⟨9, l, [], 0⟩ := by unfold noteP; rw [if_neg hi]
   rw [e] at hR1
   exact (hR1 (by simp)).2.1 rfl
 rw [if_neg hn] at hF
 rw [if_neg hn, quote_ext _ h0]
 by_cases hq : quoteP l = true
 ·rw [if_pos hq] at hF
  rw [if_pos hq]
  subst hF
  match l, h0, hR1 with
  | q :: r, _, hR1 =>
   simp only [textP, List.cons_append] at hR1 ⊢
   have hle := textR_le q _ r (Nat.le_refl _)
   have hk := textR_kind q _ r (Nat.le_refl _)
   have hc : (textR q r).2.1 < r.length ∨ (textR q r).1 = 5 := by
    rcases hk with hk | hk
    ·exact Or.inr hk
    ·rcases Nat.lt_or_ge (textR q r).2.1 r.length with h | h
     ·exact Or.inl h
     ·exfalso
      refine (hR1 (List.drop_eq_nil_of_le ?_)).1 hk
      rw [List.length_take]
      simp
      omega
   rw [textR_ext q s m _ r (Nat.le_refl _) hc]
   congr 1
   rw [Nat.add_comm 1, List.take_succ_cons, List.take_succ_cons, take_ext _ hle]
 rw [if_neg hq] at hF
 rw [if_neg hq, hash_ext hS m h0 (no_3592 hE)]
 have named : ∀ (k : Int) (a : Nat), a <= l.length -> F = namedP k l a -> namedP k (l ++ s :: m) a = namedP k l a := by
  intro k a ha e
  have hle := nameP_le _ (l.drop a) (Nat.le_refl _)
  rw [List.length_drop] at hle
  have hrest : (l.drop a).drop (nameP (l.drop a)).2 ≠ [92] := by
   rw [List.drop_drop]
   have hlen : F.raw.length = a + (nameP (l.drop a)).2 := by
    rw [e]
    simp only [namedP, List.length_take]
    omega
   rw [hlen] at hR2
   intro e92
   exact no_92 (hR2 (by rw [e92]; simp)) e92
  simp only [namedP]
  rw [drop_ext _ ha, name_ext' hS m hrest, take_ext _ (by omega)]
 by_cases hh : hashP l = true
 ·rw [if_pos hh] at hF
  rw [if_pos hh, named 4 1 (by omega) hF.symm, hF]
 rw [if_neg hh] at hF
 rw [if_neg hh, at_ext hS m h0 (no_6492 hE) (no_644592 hE)]
 by_cases ha : atP l = true
 ·rw [if_pos ha] at hF
  rw [if_pos ha, named 3 1 (by omega) hF.symm, hF]
 rw [if_neg ha] at hF
 rw [if_neg ha, number_ext hS m h0]
 by_cases hnum : 0 < (numberP l).2
 ·rw [if_pos hnum] at hF
  rw [if_pos hnum]
  have hnl := numberP_le l
  generalize numberP l = N at *
  obtain ⟨nm, n⟩ := N
  simp only at hnum hF hnl ⊢
  unfold numTkP at hF ⊢
  rw [drop_ext _ hnl, hp1_ext hS m _ 37 (Stop.ne (c := 37) hS.2.2.2.1)]
  by_cases hp : Lib.hasPrefix (l.drop n) [37] = true
  ·rw [if_pos hp] at hF ⊢
   have := hp_roomc hp
   rw [take_ext _ (by omega), hF]
  ·rw [if_neg hp] at hF ⊢
   have hsafe : l.drop n ≠ [92] /\ l.drop n ≠ [45, 92] := by
    constructor
    ·intro e
     rw [e, if_neg (by decide)] at hF
     subst hF
     simp only [List.length_take, Nat.min_eq_left hnl] at hR2
     exact no_92 (hR2 (by rw [e]; simp)) e
    ·intro e
     rw [e, if_neg (by decide)] at hF
     subst hF
     simp only [List.length_take, Nat.min_eq_left hnl] at hR2
     exact no_4592 (hR2 (by rw [e]; simp)) e
   rw [begins_ext hS m hsafe.1 hsafe.2]
   by_cases hb : beginsP (l.drop n) = true
   ·rw [if_pos hb] at hF ⊢
    have hle := nameP_le _ (l.drop n) (Nat.le_refl _)
    rw [List.length_drop] at hle
    have hrest : (l.drop n).drop (nameP (l.drop n)).2 ≠ [92] := by
     rw [List.drop_drop]
     have hlen : F.raw.length = n + (nameP (l.drop n)).2 := by
      rw [<- hF]
      simp only [List.length_take]
      omega
     rw [hlen] at hR2
     intro e92
     exact no_92 (hR2 (by rw [e92]; simp)) e92
    rw [name_ext' hS m hrest, take_ext _ (by omega), hF]
   ·rw [if_neg hb] at hF ⊢
    rw [take_ext _ hnl, hF]
 rw [if_neg hnum] at hF
 rw [if_neg hnum, begins_ext hS m (no_92 hE) (no_4592 hE)]
 by_cases hb : beginsP l = true
 ·rw [if_pos hb] at hF
  rw [if_pos hb]
  have hle := nameP_le _ l (Nat.le_refl _)
  have hnl : (namedP 1 l 0).raw.length = (nameP l).2 := by
   simp only [namedP, List.drop_zero, Nat.zero_add, List.length_take]
   omega
  have hrest : l.drop (nameP l).2 ≠ [92] := by
   intro e92
   unfold wordP at hF
   rw [hnl, e92, if_neg (by decide)] at hF
   rw [<- hF, hnl] at hR2
   exact no_92 (hR2 (by rw [e92]; simp)) e92
  have e1 : namedP 1 (l ++ s :: m) 0 = namedP 1 l 0 := by
   simp only [namedP, List.drop_zero, Nat.zero_add]
   rw [name_ext' hS m hrest, take_ext _ hle]
  unfold wordP at hF ⊢
  rw [e1, hnl, drop_ext _ hle, hp1_ext hS m _ 40 (Stop.ne (c := 40) hS.2.2.2.2.1)]
  rw [hnl] at hF
  by_cases hp : Lib.hasPrefix (l.drop (nameP l).2) [40] = true
  ·rw [if_pos hp] at hF ⊢
   have := hp_roomc hp
   rw [take_ext _ (by omega), hF]
  ·rw [if_neg hp] at hF ⊢
   exact hF
 ·rw [if_neg hb] at hF
  rw [if_neg hb, one_ext _ h0, take_ext _ (by omega), hF]
theorem cut_apart {s : UInt8} (hS : Stop s) (m : Bs) : ∀ (n : Nat) (l : Bs), l.length <= n -> l ≠ [] -> Ends l -> cutP (l ++ s :: m) = cutP l ++ cutP (s :: m)
 | 0, l, h, h0, _ => absurd (List.eq_nil_of_length_eq_zero (Nat.le_zero.1 h)) h0
 | n + 1, l, h, h0, hE => by
  have hp := (first_pre l h0).2
  have hrw := first_raw l h0
  obtain ⟨hR1, hR2⟩ := ends_rest h0 hE
  have hrl : (firstP l).raw.length <= l.length := by
   rw [hrw, List.length_take]
   omega
  rw [cutP_cons (show l ++ s :: m ≠ [] by simp), first_ext hS m h0 hE, cutP_cons h0, drop_ext _ hrl]
  by_cases hr : l.drop (firstP l).raw.length = []
  ·rw [hr, cutP_nil]
   rfl
  ·rw [cut_apart hS m n _ (by rw [List.length_drop]; omega) hr (hR2 hr)]
   rfl
end tok.st
namespace tok
open Go.RowKit base
end tok
namespace tc
open Go.RowKit base tok
def Solo (c : UInt8) : Prop := blankB c = false /\ ¬ nv c = 47 /\ ¬ nv c = 39 /\ ¬ nv c = 34 /\ ¬ nv c = 35 /\ ¬ nv c = 64 /\ ¬ nv c = 43 /\ ¬ nv c = 45 /\ ¬ nv c = 46 /\ digI (nv c) = false /\ startsI (nv c) = false /\ ¬ nv c = 92
instance (c : UInt8) : Decidable (Solo c) := by unfold Solo; infer_instance
def Stops (m : Bs) : Prop := m = [] ∨ ∃ s r, m = s :: r /\ st.Stop s
theorem Stops.nil : Stops [] := .inl rfl
theorem Stops.cons {s : UInt8} {r : Bs} (h : st.Stop s) : Stops (s :: r) := .inr ⟨s, r, rfl, h⟩
theorem apart {l m : Bs} (h0 : l ≠ []) (hE : tok.Ends l) (hm : Stops m) : cutP (l ++ m) = cutP l ++ cutP m := by
 rcases hm with rfl | ⟨s, r, rfl, hS⟩
 ·rw [List.append_nil, cutP_nil, List.append_nil]
 ·exact st.cut_apart hS r _ l (Nat.le_refl _) h0 hE
end tc
end Go.Proofs.YthgffoanecknoaaGreatDoor
