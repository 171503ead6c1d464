/- Contracts and plain law, a bundle: Clb2 Clb3. -/
import Derived.Test.YtbiahfjjngkfgaaDoorBF
import Derived.Test.YtbiahfjjngkfgaaDoorBC1

namespace Go.Proofs.YtbiahfjjngkfgaaDoor.clb
open Go.RowKit Go.Proofs.YtbiahfjjngkfgaaDoor.base Go.Proofs.YtbiahfjjngkfgaaDoor.tok Go.Proofs.YtbiahfjjngkfgaaDoor.dim Go.Proofs.YtbiahfjjngkfgaaDoor.rul Go.Proofs.YtbiahfjjngkfgaaDoor.tc
set_option linter.unusedVariables false

/-! ### a word of small letters with a bracket behind -/
def Small (W : Bs) : Prop := ∀ c ∈ W, 97 ≤ nv c ∧ nv c ≤ 122
theorem name_word (X : Bs) : ∀ W : Bs, Small W → nameP (W ++ 40 :: X) = (W, W.length)
  | [], _ => by
    rw [List.nil_append]
    cases X with
    | nil => rw [nameP, if_neg (by decide)]; rfl
    | cons d r => rw [name_cons2, if_neg (by simp [escP, nv]), if_neg (by decide)]; rfl
  | c :: W, h => by
    have hc := h c (List.mem_cons_self ..)
    have ih := name_word X W (fun x hx => h x (List.mem_cons_of_mem _ hx))
    obtain ⟨d, r, e⟩ : ∃ d r, W ++ 40 :: X = d :: r := by
      cases W with
      | nil => exact ⟨40, X, rfl⟩
      | cons d W => exact ⟨d, W ++ 40 :: X, rfl⟩
    have h92 : ¬ nv c = 92 := by omega
    have hsg : signI (nv c) = true := by
      have : startsI (nv c) = true := by unfold startsI; simp; omega
      simp [signI, this]
    rw [List.cons_append, e, name_cons2, if_neg (by simp [escP, h92]), if_pos hsg, ← e, ih]
    rfl
theorem first_word {c : UInt8} {W X : Bs} (h : Small (c :: W)) : firstP (c :: W ++ 40 :: X) = ⟨2, c :: W ++ [40], c :: W, 0⟩ := by
  have hc := h c (List.mem_cons_self ..)
  have hn := name_word X _ h
  have hbl : blankB c = false := by
    have n1 : ¬ c = 32 := fun e => by rw [e] at hc; exact absurd hc.1 (by decide)
    have n2 : ¬ c = 9 := fun e => by rw [e] at hc; exact absurd hc.1 (by decide)
    have n3 : ¬ c = 10 := fun e => by rw [e] at hc; exact absurd hc.1 (by decide)
    have n4 : ¬ c = 12 := fun e => by rw [e] at hc; exact absurd hc.1 (by decide)
    have n5 : ¬ c = 13 := fun e => by rw [e] at hc; exact absurd hc.1 (by decide)
    simp [blankB, n1, n2, n3, n4, n5]
  have h1 : namedP 1 (c :: W ++ 40 :: X) 0 = ⟨1, c :: W, c :: W, 0⟩ := by
    simp only [namedP, List.drop_zero, hn, Nat.zero_add]
    rw [List.take_left]
  have hw : wordP (c :: W ++ 40 :: X) = ⟨2, c :: W ++ [40], c :: W, 0⟩ := by
    simp only [wordP, h1]
    rw [List.drop_left, if_pos (by rfl)]
    congr 1
    rw [show c :: W ++ 40 :: X = (c :: W ++ [40]) ++ X by simp, show (c :: W).length + 1 = (c :: W ++ [40]).length by simp, List.take_left]
  obtain ⟨d, r, e⟩ : ∃ d r, W ++ 40 :: X = d :: r := by
    cases W with
    | nil => exact ⟨40, X, rfl⟩
    | cons d W => exact ⟨d, W ++ 40 :: X, rfl⟩
  rw [List.cons_append, e] at hw ⊢
  have hsp : ¬ 0 < spaceP (c :: d :: r) := by
    unfold spaceP
    rw [List.takeWhile_cons_of_neg (by simp [hbl])]
    simp
  have hnt : ¬ Lib.hasPrefix (c :: d :: r) [47, 42] = true := by
    have : ¬ 47 = c := fun e => by rw [← e] at hc; exact absurd hc.1 (by decide)
    simp [Lib.hasPrefix, List.isPrefixOf, this]
  have hnum : ¬ 0 < (numberP (c :: d :: r)).2 := by rw [number_no (by omega) (by omega) (by omega) (by simp [digI]; omega)]; simp
  have hq : ¬ quoteP (c :: d :: r) = true := by
    have a1 : ¬ nv c = 39 := by omega
    have a2 : ¬ nv c = 34 := by omega
    simp [quoteP, a1, a2]
  have hh : ¬ hashP (c :: d :: r) = true := by
    have a1 : ¬ nv c = 35 := by omega
    simp [hashP, a1]
  have ha : ¬ atP (c :: d :: r) = true := by
    have a1 : ¬ nv c = 64 := by omega
    simp [atP, a1]
  have hb : beginsP (c :: d :: r) = true := by
    rw [beginsP, if_neg (by omega), Bool.or_eq_true]
    exact .inl (by simp [startsI]; omega)
  rw [firstP, if_neg hsp, if_neg hnt, if_neg hq, if_neg hh, if_neg ha, if_neg hnum, if_pos hb, hw]
theorem cut_word {W X : Bs} (h0 : W ≠ []) (h : Small W) : cutP (W ++ 40 :: X) = ⟨2, W ++ [40], W, 0⟩ :: cutP X := by
  cases W with
  | nil => exact absurd rfl h0
  | cons c W =>
    rw [cutP_cons (by simp), first_word h]
    congr 2
    rw [show c :: W ++ 40 :: X = (c :: W ++ [40]) ++ X by simp, List.drop_left]

/-! ### the tokens of a term -/
def tkS (c : UInt8) : Tk := ⟨12, [c], [], 0⟩
def tkOpen : Tk := ⟨10, [40], [], 0⟩
def tkShut : Tk := ⟨11, [41], [], 0⟩
def sepT (k : Int) : List Tk := if k = 2 then [tkB, tkS 43, tkB] else if k = 3 then [tkB, tkS 45, tkB] else if k = 4 then [tkB, tkS 42, tkB] else if k = 5 then [tkB, tkS 47, tkB] else [tkS 44, tkB]
mutual
def toksT : Te → List Tk
  | .num n u => [⟨7, numT n u, u, n⟩]
  | .op k l => (if wordT k = [] then tkOpen else ⟨2, wordT k ++ [40], wordT k, 0⟩) :: (toksJ (sepT k) l ++ [tkShut])
def toksJ (s : List Tk) : List Te → List Tk
  | [] => []
  | [t] => toksT t
  | t :: u :: l => toksT t ++ s ++ toksJ s (u :: l)
end
theorem num_cut {n : Int} {u : Bs} (h0 : -1000000000 ≤ n) (h1 : n ≤ 1000000000) (hu : u ∈ unitsL) : cutP (numT n u) = [⟨7, numT n u, u, n⟩] := by
  unfold numT
  by_cases h : n < 0
  · rw [if_pos h]
    have := text_cut [45] u n.natAbs (by omega) true hu (.inr ⟨rfl, rfl⟩)
    rw [this]
    congr 2
    rw [if_pos rfl]
    omega
  · rw [if_neg h]
    have := text_cut [] u n.natAbs (by omega) false hu (.inl ⟨rfl, rfl⟩)
    rw [this]
    congr 2
    rw [if_neg (by decide)]
    omega
theorem num_head (n : Int) (u : Bs) : ∃ c r, numT n u = c :: r ∧ blankB c = false := by
  unfold numT
  by_cases h : n < 0
  · rw [if_pos h]
    exact ⟨45, _, rfl, by decide⟩
  · rw [if_neg h]
    obtain ⟨c, W, hW⟩ := List.exists_cons_of_ne_nil (dec_ne (n.natAbs / 1000))
    have hcd := dec_digs (n.natAbs / 1000) c (by rw [hW]; simp)
    simp [digI] at hcd
    refine ⟨c, W ++ pointP (fracP (n.natAbs % 1000)) ++ u, by unfold plainP; rw [hW]; simp, ?_⟩
    have n1 : ¬ c = 32 := fun e => by rw [e] at hcd; exact absurd hcd.1 (by decide)
    have n2 : ¬ c = 9 := fun e => by rw [e] at hcd; exact absurd hcd.1 (by decide)
    have n3 : ¬ c = 10 := fun e => by rw [e] at hcd; exact absurd hcd.1 (by decide)
    have n4 : ¬ c = 12 := fun e => by rw [e] at hcd; exact absurd hcd.1 (by decide)
    have n5 : ¬ c = 13 := fun e => by rw [e] at hcd; exact absurd hcd.1 (by decide)
    simp [blankB, n1, n2, n3, n4, n5]
theorem wf_kind {k : Int} {l : List Te} (h : Wf (.op k l)) : (k = 2 ∨ k = 3 ∨ k = 4 ∨ k = 5 ∨ k = 6 ∨ k = 7 ∨ k = 8) ∧ l ≠ [] ∧ Wfs l ∧ (shapedP k l.length && !decide (k = 1)) = true := by
  rw [Wf] at h
  obtain ⟨h1, h2⟩ := h
  refine ⟨by omega, fun e => by rw [e] at h1; simp at h1, h2, ?_⟩
  rw [decide_eq_false (by omega), Bool.not_false, Bool.and_true]
  unfold shapedP
  rw [if_neg (by omega)]
  rcases h1 with ⟨a, b, c⟩ | ⟨a, b, c⟩ | ⟨rfl, c⟩
  · rw [if_pos ⟨a, b⟩, decide_eq_true c]
  · rw [if_neg (by omega), if_pos (by omega), decide_eq_true c]
  · rw [if_neg (by omega), if_neg (by omega), if_pos rfl, decide_eq_true c]
theorem text_op {k : Int} {l : List Te} (h : Wf (.op k l)) : textT (.op k l) = wordT k ++ 40 :: (joinT (signP k) l ++ [41]) := by
  rw [textT, if_pos (wf_kind h).2.2.2]
theorem word_head {k : Int} (hk : k = 2 ∨ k = 3 ∨ k = 4 ∨ k = 5 ∨ k = 6 ∨ k = 7 ∨ k = 8) : (wordT k = [] ∨ (∃ c r, wordT k = c :: r ∧ blankB c = false)) ∧ Small (wordT k) := by
  rcases hk with rfl | rfl | rfl | rfl | rfl | rfl | rfl
  all_goals first
    | exact ⟨.inl rfl, fun c h => absurd (show c ∈ [] from h) List.not_mem_nil⟩
    | exact ⟨.inr ⟨_, _, rfl, by decide⟩, by unfold Small; decide⟩
theorem text_head {t : Te} (h : Wf t) : ∃ c r, textT t = c :: r ∧ blankB c = false := by
  cases t with
  | num n u => rw [textT]; exact num_head n u
  | op k l =>
    rw [text_op h]
    rcases (word_head (wf_kind h).1).1 with e | ⟨c, r, e, hc⟩
    · rw [e]; exact ⟨40, _, rfl, by decide⟩
    · rw [e]; exact ⟨c, _, rfl, hc⟩
theorem join_head {s : Bs} {l : List Te} (h : Wfs l) (h0 : l ≠ []) : ∃ c r, joinT s l = c :: r ∧ blankB c = false := by
  match l, h, h0 with
  | [], _, h0 => exact absurd rfl h0
  | [t], h, _ =>
    rw [Wfs] at h
    rw [joinT]; exact text_head h.1
  | t :: u :: l, h, _ =>
    rw [Wfs] at h
    obtain ⟨c, r, e, hc⟩ := text_head h.1
    rw [joinT, e]; exact ⟨c, _, rfl, hc⟩

/-- what parts two terms -/
theorem cut_sign {k : Int} (hk : k = 2 ∨ k = 3 ∨ k = 4 ∨ k = 5 ∨ k = 6 ∨ k = 7 ∨ k = 8) {c : UInt8} {r : Bs} (hc : blankB c = false) : (∃ s m, signP k ++ c :: r = s :: m ∧ (s = 32 ∨ s = 41 ∨ s = 44)) ∧ cutP (signP k ++ c :: r) = sepT k ++ cutP (c :: r) := by
  have h32 : Stops (32 :: c :: r) := Stops.cons stop_32
  have e4 : ∀ x : UInt8, cutP [x] = [tkS x] → cutP ([x] ++ 32 :: c :: r) = tkS x :: tkB :: cutP (c :: r) := fun x hx => by
    rw [one_app hx ⟨by show ¬ (12 : Int) = 6; decide, by show ¬ (12 : Int) = 9; decide, by show ¬ (12 : Int) = 8; decide⟩ h32, cut_sp rfl hc]
  have e5 : ∀ x : UInt8, cutP [x] = [tkS x] → blankB x = false → cutP (32 :: ([x] ++ 32 :: c :: r)) = tkB :: tkS x :: tkB :: cutP (c :: r) := fun x hx hb => by
    have h1 := cut_sp (m := [x] ++ 32 :: c :: r) (c := x) rfl hb
    rw [h1, e4 x hx]
  rcases hk with rfl | rfl | rfl | rfl | rfl | rfl | rfl
  · exact ⟨⟨32, _, rfl, .inl rfl⟩, e5 43 (cut_eval (by decide +kernel)) (by decide)⟩
  · exact ⟨⟨32, _, rfl, .inl rfl⟩, e5 45 (cut_eval (by decide +kernel)) (by decide)⟩
  · exact ⟨⟨32, _, rfl, .inl rfl⟩, e5 42 (cut_eval (by decide +kernel)) (by decide)⟩
  · exact ⟨⟨32, _, rfl, .inl rfl⟩, e5 47 (cut_eval (by decide +kernel)) (by decide)⟩
  · exact ⟨⟨44, _, rfl, .inr (.inr rfl)⟩, e4 44 (cut_eval (by decide +kernel))⟩
  · exact ⟨⟨44, _, rfl, .inr (.inr rfl)⟩, e4 44 (cut_eval (by decide +kernel))⟩
  · exact ⟨⟨44, _, rfl, .inr (.inr rfl)⟩, e4 44 (cut_eval (by decide +kernel))⟩
theorem stops_of {s : UInt8} (h : s = 32 ∨ s = 41 ∨ s = 44) (m : Bs) : Stops (s :: m) := by
  rcases h with rfl | rfl | rfl <;> exact Stops.cons (by unfold st.Stop; decide)

abbrev CutsT (t : Te) : Prop := Wf t → ∀ (s : UInt8) (m : Bs), (s = 32 ∨ s = 41 ∨ s = 44) → cutP (textT t ++ s :: m) = toksT t ++ cutP (s :: m)
theorem cut_join {k : Int} (hk : k = 2 ∨ k = 3 ∨ k = 4 ∨ k = 5 ∨ k = 6 ∨ k = 7 ∨ k = 8) (m : Bs) : ∀ l : List Te, (∀ t ∈ l, CutsT t) → Wfs l → cutP (joinT (signP k) l ++ 41 :: m) = toksJ (sepT k) l ++ cutP (41 :: m)
  | [], _, _ => by rw [joinT, toksJ]; rfl
  | [t], h, hw => by
    rw [Wfs] at hw
    rw [joinT, toksJ]
    exact h t (List.mem_cons_self ..) hw.1 41 m (.inr (.inl rfl))
  | t :: u :: l, h, hw => by
    rw [Wfs] at hw
    obtain ⟨c, r, e, hc⟩ := join_head (s := signP k) hw.2 (by simp)
    have ih := cut_join hk m (u :: l) (fun x hx => h x (List.mem_cons_of_mem _ hx)) hw.2
    obtain ⟨⟨s, m2, es, hs⟩, h2⟩ := cut_sign hk (c := c) (r := r ++ 41 :: m) hc
    rw [e, List.cons_append] at ih
    rw [joinT, toksJ, e, List.append_assoc, List.append_assoc, List.cons_append, es, h t (List.mem_cons_self ..) hw.1 s m2 hs, ← es, h2, ih]
    simp
mutual
theorem cut_text : ∀ t : Te, CutsT t
  | .num n u => fun hw s m hs => by
    rw [Wf] at hw
    rw [textT, toksT]
    exact one_app (num_cut hw.1 hw.2.1 hw.2.2) ⟨by show ¬ (7 : Int) = 6; decide, by show ¬ (7 : Int) = 9; decide, by show ¬ (7 : Int) = 8; decide⟩ (stops_of hs m)
  | .op k l => fun hw s m hs => by
    obtain ⟨hk, h0, hl, -⟩ := wf_kind hw
    have hj := cut_join hk (s :: m) l (cut_texts l) hl
    have h41 : cutP (41 :: s :: m) = tkShut :: cutP (s :: m) := cut_solo _ (by decide)
    rw [h41] at hj
    obtain ⟨h1, h2⟩ := word_head hk
    rw [text_op hw, toksT]
    by_cases e : wordT k = []
    · rw [e, if_pos rfl, List.nil_append, List.cons_append, List.append_assoc, cut_solo _ (by decide)]
      rw [show ([41] : Bs) ++ s :: m = 41 :: s :: m from rfl, hj]
      simp [tkOpen, oneK, nv]
    · rw [if_neg e, List.append_assoc, List.cons_append, List.append_assoc, cut_word e h2]
      rw [show ([41] : Bs) ++ s :: m = 41 :: s :: m from rfl, hj]
      simp
theorem cut_texts : ∀ l : List Te, ∀ t ∈ l, CutsT t
  | [], t, h => absurd h List.not_mem_nil
  | a :: l, t, h => by
    rcases List.mem_cons.1 h with e | e
    · rw [e]; exact cut_text a
    · exact cut_texts l t e
end

end Go.Proofs.YtbiahfjjngkfgaaDoor.clb

namespace Go.Proofs.YtbiahfjjngkfgaaDoor.clb
open Go.RowKit Go.Proofs.YtbiahfjjngkfgaaDoor.base Go.Proofs.YtbiahfjjngkfgaaDoor.tok Go.Proofs.YtbiahfjjngkfgaaDoor.dim Go.Proofs.YtbiahfjjngkfgaaDoor.rul Go.Proofs.YtbiahfjjngkfgaaDoor.tc
set_option linter.unusedVariables false

theorem toks_head (t : Te) : ∃ h L, toksT t = h :: L ∧ silP h = false := by
  cases t with
  | num n u => rw [toksT]; exact ⟨_, _, rfl, rfl⟩
  | op k l =>
    rw [toksT]
    refine ⟨_, _, rfl, ?_⟩
    split <;> rfl
theorem gap_toks (t : Te) (R : List Tk) : gapP (toksT t ++ R) = toksT t ++ R := by
  obtain ⟨h, L, e, hs⟩ := toks_head t
  rw [e, List.cons_append]
  unfold gapP
  rw [List.dropWhile_cons_of_neg (by rw [hs]; decide)]
theorem gap_blank (L : List Tk) : gapP (tkB :: L) = gapP L := by
  unfold gapP
  rw [List.dropWhile_cons_of_pos (by rfl)]
theorem gap_not {c : Tk} (h : silP c = false) (L : List Tk) : gapP (c :: L) = c :: L := by
  unfold gapP
  rw [List.dropWhile_cons_of_neg (by rw [h]; decide)]
theorem gapB_not {c : Tk} (h : silP c = false) (L : List Tk) : gapB (c :: L) = false := by
  unfold gapB
  rw [gap_not h]
  simp
theorem gapB_blank (L : List Tk) : gapB (tkB :: L) = true := by
  unfold gapB
  rw [gap_blank]
  have := gap_le L
  exact decide_eq_true (by simp; omega)

/-- a sign that ends a sum -/
def EndS (c : Tk) : Prop := silP c = false ∧ c.raw ≠ [42] ∧ c.raw ≠ [47] ∧ c.raw ≠ [43] ∧ c.raw ≠ [45]
theorem end_shut : EndS tkShut := by unfold EndS; decide
theorem end_comma : EndS (tkS 44) := by unfold EndS; decide
abbrev Reads (t : Te) (d : Nat) : Prop := ∀ (R : List Tk) (n : Nat), n + t.size ≤ 30 → valF d true (toksT t ++ R) n = some (t, R, n + t.size)

theorem prodG_end {c : Tk} (hc : EndS c) (d : Nat) (t : Te) (R : List Tk) (n : Nat) : prodG (d + 1) t (c :: R) n = some (t, c :: R, n, false) := by
  rw [prodG, gap_not hc.1]
  simp only
  rw [if_neg hc.2.1, if_neg hc.2.2.1, gapB_not hc.1]
theorem prodG_sign {c : Tk} (h0 : silP c = false) (h1 : c.raw ≠ [42]) (h2 : c.raw ≠ [47]) (d : Nat) (t : Te) (R : List Tk) (n : Nat) : prodG (d + 1) t (tkB :: c :: R) n = some (t, c :: R, n, true) := by
  rw [prodG, gap_blank, gap_not h0]
  simp only
  rw [if_neg h1, if_neg h2, gapB_blank]
theorem prod_one {t : Te} {d : Nat} (h : Reads t d) (h0 : 1 ≤ d) {bl : List Tk} (hb : bl = [] ∨ bl = [tkB]) {c : Tk} (hc : EndS c) (R : List Tk) (n : Nat) (hn : n + t.size ≤ 30) : prodF (d + 1) (bl ++ (toksT t ++ c :: R)) n = some (t, c :: R, n + t.size, false) := by
  have e : gapP (bl ++ (toksT t ++ c :: R)) = toksT t ++ c :: R := by
    rcases hb with rfl | rfl
    · exact gap_toks t _
    · rw [List.singleton_append, gap_blank, gap_toks]
  obtain ⟨d, rfl⟩ : ∃ e, d = e + 1 := ⟨d - 1, by omega⟩
  rw [prodF, e, h _ _ hn, Option.bind_some]
  exact prodG_end hc d t R _
theorem sumG_end {c : Tk} (hc : EndS c) (d : Nat) (t : Te) (R : List Tk) (n : Nat) (g : Bool) : sumG (d + 1) t (c :: R) n g = some (t, c :: R, n, g) := by
  rw [sumG, if_neg hc.2.2.2.1, if_neg hc.2.2.2.2]
theorem sum_one {t : Te} {d : Nat} (h : Reads t d) (h0 : 1 ≤ d) {bl : List Tk} (hb : bl = [] ∨ bl = [tkB]) {c : Tk} (hc : EndS c) (R : List Tk) (n : Nat) (hn : n + t.size ≤ 30) : sumF (d + 2) (bl ++ (toksT t ++ c :: R)) n = some (t, c :: R, n + t.size, false) := by
  rw [sumF, prod_one h h0 hb hc R n hn, Option.bind_some]
  exact sumG_end hc d t R _ _
theorem reads_num {n : Int} {u : Bs} (h : Wf (.num n u)) (d : Nat) : Reads (.num n u) (d + 1) := fun R m hm => by
  rw [Wf] at h
  rw [size_num] at hm ⊢
  rw [toksT, List.singleton_append, valF, if_pos rfl, if_pos h.2.2]
  unfold madeP
  rw [if_pos hm]
theorem made_yes {n : Nat} {t : Te} {L : List Tk} (h : n + 1 ≤ 30) : madeP n t L = some (t, L, n + 1) := if_pos h
theorem two_toks {k : Int} {x : UInt8} (hw : wordT k = []) (hs : sepT k = [tkB, tkS x, tkB]) (a b : Te) (R : List Tk) : toksT (.op k [a, b]) ++ R = tkOpen :: (toksT a ++ tkB :: tkS x :: tkB :: (toksT b ++ tkShut :: R)) := by
  rw [toksT, if_pos hw, toksJ, toksJ, hs]
  simp
theorem val_open {d : Nat} {L R : List Tk} {n m : Nat} {t : Te} (h : sumF d L n = some (t, tkShut :: R, m, false)) : valF (d + 1) true (tkOpen :: L) n = some (t, R, m) := by
  rw [valF, if_neg (by decide), if_pos ⟨rfl, rfl⟩, h]
  rfl
/-- a sum or a difference -/
theorem reads_sum {k : Int} {x : UInt8} (hk : (k = 2 ∧ x = 43) ∨ (k = 3 ∧ x = 45)) {a b : Te} {D : Nat} (ha : ∀ d, D ≤ d → Reads a d) (hb : ∀ d, D ≤ d → Reads b d) (h0 : 1 ≤ D) (d : Nat) (hd : D ≤ d) : Reads (.op k [a, b]) (d + 4) := fun R n hn => by
  rw [size_two] at hn ⊢
  have hw : wordT k = [] := by rcases hk with ⟨rfl, -⟩ | ⟨rfl, -⟩ <;> rfl
  have hs : sepT k = [tkB, tkS x, tkB] := by rcases hk with ⟨rfl, rfl⟩ | ⟨rfl, rfl⟩ <;> rfl
  have hx : silP (tkS x) = false ∧ (tkS x).raw ≠ [42] ∧ (tkS x).raw ≠ [47] := by rcases hk with ⟨-, rfl⟩ | ⟨-, rfl⟩ <;> decide
  rw [two_toks hw hs]
  have hpa : prodF (d + 2) (toksT a ++ tkB :: tkS x :: tkB :: (toksT b ++ tkShut :: R)) n = some (a, tkS x :: tkB :: (toksT b ++ tkShut :: R), n + a.size, true) := by
    rw [prodF, gap_toks, ha (d + 1) (by omega) _ _ (by omega), Option.bind_some]
    exact prodG_sign hx.1 hx.2.1 hx.2.2 _ _ _ _
  have hpb := prod_one (hb d hd) (by omega) (bl := []) (.inl rfl) end_shut R (n + a.size) (by omega)
  rw [List.nil_append] at hpb
  have hgb : gapP (tkB :: (toksT b ++ tkShut :: R)) = toksT b ++ tkShut :: R := by rw [gap_blank, gap_toks]
  obtain ⟨e, rfl⟩ : ∃ e, d = e + 1 := ⟨d - 1, by omega⟩
  have hfin : ∀ k, ((prodF (e + 1 + 1) (gapP (tkB :: (toksT b ++ tkShut :: R))) (n + a.size)).bind fun r => (madeP r.2.2.1 (.op k [a, r.1]) r.2.1).bind fun q => sumG (e + 1 + 1) q.1 q.2.1 q.2.2 r.2.2.2) = some (.op k [a, b], tkShut :: R, n + (1 + a.size + b.size), false) := fun k => by
    rw [hgb, hpb, Option.bind_some]
    dsimp only
    rw [made_yes (by omega), Option.bind_some]
    dsimp only
    rw [sumG_end end_shut]
    congr 3
    congr 1
    omega
  refine val_open ?_
  rw [sumF, hpa, Option.bind_some]
  dsimp only
  rw [sumG]
  rcases hk with ⟨rfl, rfl⟩ | ⟨rfl, rfl⟩
  · rw [if_pos (show (tkS 43).raw = [43] from rfl), gapB_blank, if_pos (show (true && true) = true from rfl)]
    exact hfin 2
  · rw [if_neg (by decide), if_pos (show (tkS 45).raw = [45] from rfl), gapB_blank, if_pos (show (true && true) = true from rfl)]
    exact hfin 3
/-- a product or a quotient -/
theorem reads_prod {k : Int} {x : UInt8} (hk : (k = 4 ∧ x = 42) ∨ (k = 5 ∧ x = 47)) {a b : Te} {D : Nat} (ha : ∀ d, D ≤ d → Reads a d) (hb : ∀ d, D ≤ d → Reads b d) (h0 : 1 ≤ D) (d : Nat) (hd : D ≤ d) : Reads (.op k [a, b]) (d + 4) := fun R n hn => by
  rw [size_two] at hn ⊢
  have hw : wordT k = [] := by rcases hk with ⟨rfl, -⟩ | ⟨rfl, -⟩ <;> rfl
  have hs : sepT k = [tkB, tkS x, tkB] := by rcases hk with ⟨rfl, rfl⟩ | ⟨rfl, rfl⟩ <;> rfl
  have hx : silP (tkS x) = false := by rcases hk with ⟨-, rfl⟩ | ⟨-, rfl⟩ <;> decide
  rw [two_toks hw hs]
  have hgb : gapP (tkB :: (toksT b ++ tkShut :: R)) = toksT b ++ tkShut :: R := by rw [gap_blank, gap_toks]
  obtain ⟨e, rfl⟩ : ∃ e, d = e + 1 := ⟨d - 1, by omega⟩
  have hfin : ∀ k, ((valF (e + 1) true (gapP (tkB :: (toksT b ++ tkShut :: R))) (n + a.size)).bind fun r => (madeP r.2.2 (.op k [a, r.1]) r.2.1).bind fun q => prodG (e + 1) q.1 q.2.1 q.2.2) = some (.op k [a, b], tkShut :: R, n + (1 + a.size + b.size), false) := fun k => by
    rw [hgb, hb (e + 1) hd _ _ (by omega), Option.bind_some]
    dsimp only
    rw [made_yes (by omega), Option.bind_some]
    dsimp only
    rw [prodG_end end_shut]
    congr 3
    congr 1
    omega
  have hpa : prodF (e + 1 + 2) (toksT a ++ tkB :: tkS x :: tkB :: (toksT b ++ tkShut :: R)) n = some (.op k [a, b], tkShut :: R, n + (1 + a.size + b.size), false) := by
    rw [prodF, gap_toks, ha (e + 1 + 1) (by omega) _ _ (by omega), Option.bind_some]
    dsimp only
    rw [prodG, gap_blank, gap_not hx]
    dsimp only
    rcases hk with ⟨rfl, rfl⟩ | ⟨rfl, rfl⟩
    · rw [if_pos (show (tkS 42).raw = [42] from rfl)]
      exact hfin 4
    · rw [if_neg (by decide), if_pos (show (tkS 47).raw = [47] from rfl)]
      exact hfin 5
  refine val_open ?_
  rw [sumF, hpa, Option.bind_some]
  dsimp only
  exact sumG_end end_shut _ _ _ _ _

/-- a list behind a word -/
theorem reads_list {k : Int} {D : Nat} (h0 : 1 ≤ D) (R : List Tk) : ∀ (l : List Te), l ≠ [] → (∀ t ∈ l, ∀ d, D ≤ d → Reads t d) → ∀ (d : Nat), D + 3 + l.length ≤ d → ∀ (bl : List Tk), (bl = [] ∨ bl = [tkB]) → ∀ (l0 : List Te) (n : Nat), shapedP k (l0.length + l.length) = true → n + sizes l + 1 ≤ 30 →
    listF d k l0 (bl ++ (toksJ [tkS 44, tkB] l ++ tkShut :: R)) n = some (.op k (l0 ++ l), R, n + sizes l + 1)
  | [], h, _, _, _, _, _, _, _, _, _ => absurd rfl h
  | [t], _, ht, d, hd, bl, hb, l0, n, hs, hn => by
    rw [sizes_cons, sizes_nil] at hn ⊢
    obtain ⟨e, rfl⟩ : ∃ e, d = e + 3 := ⟨d - 3, by omega⟩
    rw [toksJ, listF, sum_one (ht t (List.mem_cons_self ..) e (by simp at hd; omega)) (by simp at hd; omega) hb end_shut R n (by omega), Option.bind_some]
    dsimp only
    rw [if_neg (by decide), if_pos ⟨rfl, by simpa using hs⟩, made_yes (by omega)]
    congr 3
  | t :: u :: l, _, ht, d, hd, bl, hb, l0, n, hs, hn => by
    rw [sizes_cons] at hn ⊢
    obtain ⟨e, rfl⟩ : ∃ e, d = e + 3 := ⟨d - 3, by omega⟩
    have hl : (t :: u :: l).length = (u :: l).length + 1 := rfl
    have ih := reads_list h0 R (u :: l) (by simp) (fun x hx => ht x (List.mem_cons_of_mem _ hx)) (e + 2) (by omega) [tkB] (.inr rfl) (l0 ++ [t]) (n + t.size) (by
      rw [List.length_append, List.length_singleton, Nat.add_assoc, Nat.add_comm 1, ← hl]
      exact hs) (by omega)
    have e1 : toksJ [tkS 44, tkB] (t :: u :: l) ++ tkShut :: R = toksT t ++ tkS 44 :: ([tkB] ++ (toksJ [tkS 44, tkB] (u :: l) ++ tkShut :: R)) := by
      rw [toksJ]
      simp
    rw [e1, listF, sum_one (ht t (List.mem_cons_self ..) e (by omega)) (by omega) hb end_comma _ n (by omega), Option.bind_some]
    dsimp only
    rw [if_pos (show (tkS 44).raw = [44] from rfl), ih]
    rw [List.append_assoc]
    congr 3
    congr 1
    omega
theorem kind_word {k : Int} (hk : k = 6 ∨ k = 7 ∨ k = 8) : (wordT k).map lowB = wordT k ∧ wordT k ≠ calcT ∧ kindI (wordT k) = k ∧ wordT k ≠ [] ∧ sepT k = [tkS 44, tkB] := by
  rcases hk with rfl | rfl | rfl <;> refine ⟨by decide, by decide, by decide, by decide, rfl⟩
theorem reads_call {k : Int} (hk : k = 6 ∨ k = 7 ∨ k = 8) {l : List Te} (hw : Wf (.op k l)) {D : Nat} (h0 : 1 ≤ D) (ht : ∀ t ∈ l, ∀ d, D ≤ d → Reads t d) (d : Nat) (hd : D + 3 + l.length ≤ d) : Reads (.op k l) (d + 1) := fun R n hn => by
  obtain ⟨k1, k2, k3, k4, k5⟩ := kind_word hk
  obtain ⟨-, hl, -, hs⟩ := wf_kind hw
  rw [size_op] at hn ⊢
  have hsh : shapedP k l.length = true := by
    rw [Bool.and_eq_true] at hs
    exact hs.1
  have e1 : toksT (.op k l) ++ R = ⟨2, wordT k ++ [40], wordT k, 0⟩ :: ([] ++ (toksJ [tkS 44, tkB] l ++ tkShut :: R)) := by
    rw [toksT, if_neg k4, k5]
    simp
  have hno : ¬ (True ∧ wordT k ++ [40] = [40]) := fun h => by
    have := congrArg List.length h.2
    simp at this
    exact k4 this
  rw [e1, valF, if_neg (by show ¬ (2 : Int) = 7; decide)]
  dsimp only
  rw [if_neg (fun h => hno ⟨trivial, h.2⟩), if_pos rfl, k1, if_neg k2, k3, if_neg (by omega)]
  rw [reads_list h0 R l hl ht d hd [] (.inl rfl) [] n (by simpa using hsh) (by omega)]
  rw [List.nil_append, show n + sizes l + 1 = n + (1 + sizes l) by omega]
mutual
theorem reads_all : ∀ t : Te, Wf t → ∃ D, 1 ≤ D ∧ ∀ d, D ≤ d → Reads t d
  | .num n u => fun h => ⟨1, Nat.le_refl _, fun d hd => by
      obtain ⟨e, rfl⟩ : ∃ e, d = e + 1 := ⟨d - 1, by omega⟩
      exact reads_num h e⟩
  | .op k l => fun h => by
    obtain ⟨D, h0, hD⟩ := reads_alls l (by rw [Wf] at h; exact h.2)
    have hw := h
    rw [Wf] at h
    rcases h.1 with ⟨a, b, c⟩ | ⟨a, b, c⟩ | ⟨a, b⟩
    · match l, c, hD with
      | [x, y], _, hD =>
        refine ⟨D + 4, by omega, fun d hd => ?_⟩
        obtain ⟨e, rfl⟩ : ∃ e, d = e + 4 := ⟨d - 4, by omega⟩
        have hx := hD x (by simp)
        have hy := hD y (by simp)
        have hk : k = 2 ∨ k = 3 ∨ k = 4 ∨ k = 5 := by omega
        rcases hk with rfl | rfl | rfl | rfl
        · exact reads_sum (.inl ⟨rfl, rfl⟩) hx hy h0 e (by omega)
        · exact reads_sum (.inr ⟨rfl, rfl⟩) hx hy h0 e (by omega)
        · exact reads_prod (.inl ⟨rfl, rfl⟩) hx hy h0 e (by omega)
        · exact reads_prod (.inr ⟨rfl, rfl⟩) hx hy h0 e (by omega)
    · refine ⟨D + 4 + l.length, by omega, fun d hd => ?_⟩
      obtain ⟨e, rfl⟩ : ∃ e, d = e + 1 := ⟨d - 1, by omega⟩
      exact reads_call (by omega) hw h0 hD e (by omega)
    · refine ⟨D + 4 + l.length, by omega, fun d hd => ?_⟩
      obtain ⟨e, rfl⟩ : ∃ e, d = e + 1 := ⟨d - 1, by omega⟩
      exact reads_call (by omega) hw h0 hD e (by omega)
theorem reads_alls : ∀ l : List Te, Wfs l → ∃ D, 1 ≤ D ∧ ∀ t ∈ l, ∀ d, D ≤ d → Reads t d
  | [] => fun _ => ⟨1, Nat.le_refl _, fun t h => absurd h List.not_mem_nil⟩
  | a :: l => fun h => by
    rw [Wfs] at h
    obtain ⟨D1, h1, hD1⟩ := reads_all a h.1
    obtain ⟨D2, h2, hD2⟩ := reads_alls l h.2
    refine ⟨D1 + D2, by omega, fun t ht d hd => ?_⟩
    rcases List.mem_cons.1 ht with e | e
    · rw [e]; exact hD1 d (by omega)
    · exact hD2 t e d (by omega)
end

/-- told behind calc, it is read the same -/
def calcOf (t : Te) : Bs := calcT ++ 40 :: (textT t ++ [41])
theorem read_told {t : Te} (hw : Wf t) (hs : t.size ≤ 30) : ∃ D, ∀ d, D ≤ d → valF d false (gapP (cutP (calcOf t))) 0 = some (t, [], t.size) := by
  obtain ⟨D, h0, hD⟩ := reads_all t hw
  refine ⟨D + 3, fun d hd => ?_⟩
  obtain ⟨e, rfl⟩ : ∃ e, d = e + 3 := ⟨d - 3, by omega⟩
  have hc : cutP (calcOf t) = ⟨2, calcT ++ [40], calcT, 0⟩ :: ([] ++ (toksT t ++ tkShut :: [])) := by
    unfold calcOf
    rw [cut_word (by decide) (by unfold Small; decide), cut_text t hw 41 [] (.inr (.inl rfl)), cut_solo _ (by decide), cutP_nil]
    rfl
  have hsum := sum_one (hD e (by omega)) (by omega) (bl := []) (.inl rfl) end_shut [] 0 (by omega)
  rw [hc, gap_not rfl, valF, if_neg (by decide), if_neg (by decide), if_pos rfl, if_pos (by decide), hsum]
  show some (t, [], 0 + t.size) = _
  rw [Nat.zero_add]

end Go.Proofs.YtbiahfjjngkfgaaDoor.clb
