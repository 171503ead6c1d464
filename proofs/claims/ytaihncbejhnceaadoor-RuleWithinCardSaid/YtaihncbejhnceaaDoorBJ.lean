/- Contracts and plain law, a bundle: RulT0 RulT1 RulT2 RulT3. -/
import Derived.Test.YtaihncbejhnceaaDoorBI
import Derived.Test.YtaihncbejhnceaaDoorBF
import Derived.Test.YtaihncbejhnceaaDoorBG

namespace Go.Proofs.YtaihncbejhnceaaDoor.rul
open Go.RowKit Go.Proofs.YtaihncbejhnceaaDoor.base Go.Proofs.YtaihncbejhnceaaDoor.tok
set_option linter.unusedVariables false

theorem rules_same {sub : Option (List Tk → List Rl)} {L L' : List Tk} (h : solidP L = solidP L') : rulesW sub L = rulesW sub L' := by
  cases hM : solidP L with
  | nil => rw [rulesW_nil hM, rulesW_nil (h ▸ hM)]
  | cons t r =>
    have hM' := hM
    rw [h] at hM'
    cases hB : (t :: r).drop (findP (beginsR (decide (t.k = 3))) (t :: r)) with
    | nil => rw [rulesW_none hM (List.drop_eq_nil_iff.1 hB), rulesW_none hM' (List.drop_eq_nil_iff.1 hB)]
    | cons b rest => rw [rulesW_some hM hB, rulesW_some hM' hB]
theorem solid_lead {A L : List Tk} (hA : Sil A) : solidP (A ++ L) = solidP L := by
  obtain ⟨hs, A', B, hL, hA', hB⟩ := solid_split L
  have := solid_of (A := A ++ A') (M := solidP L) (C := B) (fun t ht => by
    rcases List.mem_append.1 ht with h | h
    · exact hA t h
    · exact hA' t h) hs hB
  rw [← this]
  conv => lhs; rw [hL]
  simp
theorem solid_endP (Y : List Tk) : solidP (endP Y) = solidP Y := by
  obtain ⟨_, B, hY, hB⟩ := endP_last _ Y (Nat.le_refl _)
  obtain ⟨hs, A, B', hE, hA, hB'⟩ := solid_split (endP Y)
  have := solid_of (A := A) (M := solidP (endP Y)) (C := B' ++ B) hA hs (fun t ht => by
    rcases List.mem_append.1 ht with h | h
    · exact hB' t h
    · exact hB t h)
  rw [← List.append_assoc, ← hE, ← hY] at this
  exact this.symm
theorem endP_keep {X : List Tk} {c : Tk} (hc : silP c = false) : ∀ (n : Nat) (Y : List Tk), Y.length ≤ n → endP ((X ++ [c]) ++ Y) = (X ++ [c]) ++ endP Y := by
  intro n
  induction n with
  | zero =>
    intro Y h
    obtain rfl := List.eq_nil_of_length_eq_zero (Nat.le_zero.1 h)
    rw [List.append_nil, endP_snoc, if_neg (by simp [hc]), endP_nil, List.append_nil]
  | succ n ih =>
    intro Y h
    rcases nil_or_snoc Y with rfl | ⟨K, y, rfl⟩
    · rw [List.append_nil, endP_snoc, if_neg (by simp [hc]), endP_nil, List.append_nil]
    · rw [← List.append_assoc, endP_snoc, endP_snoc]
      split
      · exact ih K (by simp at h; omega)
      · rw [List.append_assoc]
/-- a rule, and what is behind it -/
theorem rules_cons (m : Nat) (A I Y : List Tk) (a : Bool) (hA : Hd (fun t => !beginsR a t) A) (ha : ∀ t, A.head? = some t → silP t = false ∧ a = decide (t.k = 3)) (h0 : A = [] → a = false) (hI : closeP [[125]] (I ++ [tkC]) = some (I.length + 1)) :
    rulesP m (A ++ tkO :: (I ++ tkC :: Y)) = (ruleW (subP m) A I).toList ++ rulesP m Y := by
  have hsol : solidP (A ++ tkO :: (I ++ tkC :: Y)) = A ++ tkO :: (I ++ tkC :: endP Y) := by
    have hd : (A ++ tkO :: (I ++ tkC :: Y)).dropWhile silP = A ++ tkO :: (I ++ tkC :: Y) := by
      cases A with
      | nil => rw [List.nil_append, List.dropWhile_cons_of_neg (by decide)]
      | cons t A => rw [List.cons_append, List.dropWhile_cons_of_neg (by simp [(ha t rfl).1])]
    unfold solidP
    rw [hd]
    have := endP_keep (X := A ++ tkO :: I) (c := tkC) rfl _ Y (Nat.le_refl _)
    simpa using this
  have hb := hd_blk (t := tkO) (c := tkC) (I := I) hI (endP Y)
  have hfind : findP (beginsR a) (A ++ tkO :: (I ++ tkC :: endP Y)) = A.length := by
    rw [hd_find hA (beginsR a) (fun t ht => by simpa using ht), findP_cons, if_pos (by cases a <;> decide)]
    rfl
  have hinn : innP tkO (I ++ tkC :: endP Y) = I := by
    unfold innP
    rw [hb.1, hb.2]
    simp
  have hdr : (I ++ tkC :: endP Y).drop (blkLen tkO (I ++ tkC :: endP Y) - 1) = endP Y := by
    rw [hb.1, show I.length + 2 - 1 = I.length + 1 by omega, show I ++ tkC :: endP Y = (I ++ [tkC]) ++ endP Y by simp, List.drop_left' (by simp)]
  obtain ⟨t, r, htr, hat⟩ : ∃ t r, A ++ tkO :: (I ++ tkC :: endP Y) = t :: r ∧ a = decide (t.k = 3) := by
    cases A with
    | nil => exact ⟨tkO, _, rfl, by rw [h0 rfl]; rfl⟩
    | cons t A => exact ⟨t, _, rfl, (ha t rfl).2⟩
  rw [rulesP_is]
  rw [rulesW_some (t := t) (r := r) (b := tkO) (rest := I ++ tkC :: endP Y) (by rw [hsol, htr]) (by rw [← hat, ← htr, hfind, List.drop_left]), if_pos (by decide), ← hat, ← htr, hfind, List.take_left, hinn, hdr]
  congr 1
  exact rules_same (solid_endP Y)
theorem rules_lead (m : Nat) {A L : List Tk} (hA : Sil A) : rulesP m (A ++ L) = rulesP m L := by
  rw [rulesP_is]
  exact rules_same (solid_lead hA)
theorem cut_allblank (l : Bs) (h0 : l ≠ []) (h : ∀ x ∈ l, blankB x = true) : cutP l = [⟨8, l, [], 0⟩] := by
  have hsp : spaceP l = l.length := by
    unfold spaceP
    have key : ∀ l : Bs, (∀ x ∈ l, blankB x = true) → l.takeWhile blankB = l := by
      intro l
      induction l with
      | nil => intro _; rfl
      | cons a l ih =>
        intro hl
        rw [List.takeWhile_cons_of_pos (hl a (by simp)), ih (fun x hx => hl x (by simp [hx]))]
    rw [key l h]
  have hf : firstP l = ⟨8, l, [], 0⟩ := by
    rw [firstP, hsp, if_pos (List.length_pos_iff.2 h0), List.take_length]
  rw [cutP_cons h0, hf]
  simp [cutP_nil]
theorem blank_split : ∀ (M : Bs), ∃ sp x, M = sp ++ x ∧ (∀ y ∈ sp, blankB y = true) ∧ (x = [] ∨ ∃ c z, x = c :: z ∧ blankB c = false)
  | [] => ⟨[], [], rfl, fun y hy => by simp at hy, .inl rfl⟩
  | c :: M => by
    cases hb : blankB c with
    | false => exact ⟨[], c :: M, rfl, fun y hy => by simp at hy, .inr ⟨c, M, rfl, hb⟩⟩
    | true =>
      obtain ⟨sp, x, h1, h2, h3⟩ := blank_split M
      refine ⟨c :: sp, x, by rw [h1]; rfl, fun y hy => ?_, h3⟩
      rcases List.mem_cons.1 hy with rfl | hy
      · exact hb
      · exact h2 y hy
/-- a line's end ahead changes nothing -/
theorem rules_nl (m : Nat) (M : Bs) : rulesP m (cutP (10 :: M)) = rulesP m (cutP M) := by
  obtain ⟨sp, x, rfl, hsp, hx⟩ := blank_split M
  have hall : ∀ y ∈ 10 :: sp, blankB y = true := fun y hy => by
    rcases List.mem_cons.1 hy with rfl | hy
    · rfl
    · exact hsp y hy
  rcases hx with rfl | ⟨c, z, rfl, hc⟩
  · rw [List.append_nil, cut_allblank (10 :: sp) (by simp) hall]
    by_cases h0 : sp = []
    · subst h0
      rw [cutP_nil, show [(⟨8, [10], [], 0⟩ : Tk)] = [⟨8, [10], [], 0⟩] ++ [] from rfl, rules_lead m (sil_one rfl)]
    · rw [cut_allblank sp h0 hsp]
      rw [show [(⟨8, 10 :: sp, [], 0⟩ : Tk)] = [⟨8, 10 :: sp, [], 0⟩] ++ [] from rfl, rules_lead m (sil_one rfl), show [(⟨8, sp, [], 0⟩ : Tk)] = [⟨8, sp, [], 0⟩] ++ [] from rfl, rules_lead m (sil_one rfl)]
  · rw [show (10 :: (sp ++ c :: z) : Bs) = (10 :: sp) ++ c :: z by simp, cut_spaces (10 :: sp) (by simp) hall c hc z]
    rw [show (⟨8, 10 :: sp, [], 0⟩ : Tk) :: cutP (c :: z) = [⟨8, 10 :: sp, [], 0⟩] ++ cutP (c :: z) from rfl, rules_lead m (sil_one rfl)]
    by_cases h0 : sp = []
    · subst h0; rfl
    · rw [cut_spaces sp h0 hsp c hc z, show (⟨8, sp, [], 0⟩ : Tk) :: cutP (c :: z) = [⟨8, sp, [], 0⟩] ++ cutP (c :: z) from rfl, rules_lead m (sil_one rfl)]

theorem sq_bad : ∀ (V : List Tk) (f : Bool), (∀ t ∈ V, ¬ t.k = 6) → ∀ t ∈ sqF f V, ¬ t.k = 6
  | [], f, _, t, ht => by simp [sqF] at ht
  | a :: L, f, h, t, ht => by
    have h2 := fun f => sq_bad L f (fun x hx => h x (by simp [hx])) t
    rw [sqF] at ht
    split at ht
    · split at ht
      · exact h2 true ht
      · rcases List.mem_cons.1 ht with rfl | ht
        · decide
        · exact h2 true ht
    · rcases List.mem_cons.1 ht with rfl | ht
      · exact h t (by simp)
      · exact h2 false ht
theorem any_bad {A : List Tk} (h : ∀ t ∈ A, ¬ t.k = 6) : ¬ A.any badP = true := fun e => by
  obtain ⟨t, ht, hb⟩ := List.any_eq_true.1 e
  exact h t ht (by simpa [badP] using hb)
abbrev tkAt : Tk := ⟨3, mediaT, mediaW, 0⟩
theorem cut_media : cutP mediaT = [tkAt] := by
  have hn : nameP mediaW = (mediaW, 5) := by
    unfold mediaW
    iterate 4 rw [name_cons2, if_neg (by decide), if_pos (by decide)]
    rw [name_cons1, if_pos (by decide)]
  have hn2 : nameP (mediaT.drop 1) = (mediaW, 5) := hn
  have h1 : namedP 3 mediaT 1 = tkAt := by
    simp only [namedP, hn2]
    rfl
  have hf : firstP mediaT = tkAt := by
    rw [firstP, if_neg (by decide), if_neg (by decide), if_neg (by decide), if_neg (by decide), if_pos (by decide), h1]
  rw [cutP_cons (by decide), hf]
  show tkAt :: cutP [] = _
  rw [cutP_nil]
theorem media_cut (m : Bs) : cutP (mediaT ++ 32 :: m) = tkAt :: cutP (32 :: m) := by
  rw [st.cut_apart stop_32 m _ mediaT (Nat.le_refl _) (by decide) (fun t ht => by
    rw [cut_media] at ht
    obtain rfl : tkAt = t := by simpa using ht
    exact ⟨by decide, by decide, by decide⟩), cut_media]
  rfl
/-- a head that is told, with a blank behind if there is one -/
def hdT (V : List Tk) : List Tk := sqF false V ++ if V = [] then [] else [tkB]
theorem head_nil {V : List Tk} (hc : Cut V) (hs : Solid V) : headP V = [] ↔ V = [] := by
  constructor
  · intro h
    by_cases h0 : V = []
    · exact h0
    · obtain ⟨c, x, he, _⟩ := raw_nb hc hs h0
      rw [h] at he; cases he
  · rintro rfl; rfl
theorem hdT_cut {V : List Tk} (hc : Cut V) (hs : Solid V) (hb : ∀ t ∈ V, ¬ t.k = 6) (X : Bs) : cutP ((headP V ++ if headP V = [] then [] else [32]) ++ 123 :: X) = hdT V ++ tkO :: cutP X := by
  unfold hdT
  by_cases h0 : V = []
  · subst h0
    show cutP (123 :: X) = _
    rw [cut_sole _ (by decide)]
    rfl
  · rw [if_neg h0, if_neg (fun e => h0 ((head_nil hc hs).1 e))]
    have := val_cut (V := V) (post := []) (cut_of hc) hb hs stop_32 (123 :: X)
    rw [List.append_assoc, List.singleton_append, this, cut_sp 123 (by decide), cut_sole _ (by decide)]
    simp [oneK]
    decide
theorem hdT_hd {q : Tk → Bool} {V : List Tk} (h : Hd q V) (hq : q tkB = true) : Hd q (hdT V) := by
  unfold hdT
  refine hd_app (hd_sq h hq false) ?_
  split
  · exact .nil
  · exact .cons _ _ (by decide) hq .nil
theorem hdT_head {V : List Tk} (hc : Cut V) (hs : Solid V) : headP (hdT V) = headP V := by
  unfold hdT
  rw [← head_again hs hc.raw]
  unfold headP
  refine headF_app _ _ _ _ ?_
  split
  · exact fun t ht => by cases ht
  · exact sil_one rfl
theorem hdT_bad {V : List Tk} (h : ∀ t ∈ V, ¬ t.k = 6) : ∀ t ∈ hdT V, ¬ t.k = 6 := by
  intro t ht
  unfold hdT at ht
  rcases List.mem_append.1 ht with ht | ht
  · exact sq_bad V false h t ht
  · split at ht
    · cases ht
    · obtain rfl : t = tkB := by simpa using ht
      decide
theorem hdT_first {V : List Tk} (hs : Solid V) : ∀ t, (hdT V).head? = some t → V.head? = some t ∧ silP t = false := by
  intro t ht
  unfold hdT at ht
  cases V with
  | nil => simp [sqF] at ht
  | cons a L =>
    have ha := hs.1 a rfl
    rw [sqF, if_neg (by simp [ha])] at ht
    obtain rfl : a = t := by simpa using ht
    exact ⟨rfl, ha⟩

/-- what a rule's text is cut into, and read as -/
def RD (m : Nat) (nst : Bool) (r : Rl) : Prop := ∃ T : List Tk, (∀ M, cutP (showR r ++ M) = T ++ cutP (10 :: M)) ∧ (∀ Y, rulesP m (T ++ Y) = r :: rulesP m Y) ∧
  (nst = true → ∀ (st : List Bs) (L : List Tk), st.getLast? = some [125] → closeP st (T ++ L) = (closeP st L).map (T.length + ·)) ∧ ∃ c x, showR r = c :: x ∧ blankB c = false
def GD (m : Nat) (rs : List Rl) : Prop := ∃ T : List Tk, (∀ s M, blankB s = false → cutP (10 :: (showG rs ++ s :: M)) = T ++ cutP (s :: M)) ∧ rulesP m T = rs ∧
  ∀ (st : List Bs) (L : List Tk), st.getLast? = some [125] → closeP st (T ++ L) = (closeP st L).map (T.length + ·)

/-- one rule, of a head and what is in its block -/
theorem rd_of {m : Nat} {nst a : Bool} {r : Rl} {A I : List Tk} {H D : Bs} (hA : Hd (qP a nst) A) (ha : ∀ t, A.head? = some t → silP t = false ∧ a = decide (t.k = 3)) (h0 : A = [] → a = false) (hI : closeP [[125]] (I ++ [tkC]) = some (I.length + 1))
    (hr : ruleW (subP m) A I = some r) (hs : showR r = H ++ 123 :: 10 :: (D ++ [125, 10])) (hH : ∀ X, cutP (H ++ 123 :: X) = A ++ tkO :: cutP X) (hD : ∀ M, cutP (10 :: (D ++ 125 :: M)) = I ++ cutP (125 :: M)) (hn : ∃ c x, showR r = c :: x ∧ blankB c = false) : RD m nst r := by
  refine ⟨A ++ tkO :: (I ++ [tkC]), fun M => ?_, fun Y => ?_, fun hnst st L hst => ?_, hn⟩
  · rw [hs, show H ++ 123 :: 10 :: (D ++ [125, 10]) ++ M = H ++ 123 :: (10 :: (D ++ 125 :: (10 :: M))) by simp, hH, hD, cut_sole _ (by decide)]
    simp [oneK]
    decide
  · have := rules_cons m A I Y a (hd_mono (fun t ht => by unfold qP at ht; rw [Bool.and_eq_true] at ht; exact ht.1) hA) ha h0 hI
    rw [hr] at this
    rw [show A ++ tkO :: (I ++ [tkC]) ++ Y = A ++ tkO :: (I ++ tkC :: Y) by simp, this]
    rfl
  · have hst0 : st ≠ [] := fun e => by rw [e] at hst; cases hst
    subst hnst
    rw [List.append_assoc, hd_close hA st hst0 (fun t ht e => by
      unfold qP at ht
      rw [hst] at e
      have e2 := Option.some.inj e.2
      simp only [c125, e.1, ← e2, decide_true, Bool.and_self, Bool.not_true, Bool.and_false] at ht
      cases ht)]
    rw [List.cons_append, List.append_assoc, closeP, if_pos (by decide), ← List.append_assoc, show closerP tkO.raw = [125] from rfl, close_lift (I ++ [tkC]) [[125]] _ (by simp) hI st L hst0]
    rw [List.drop_left' (by simp)]
    cases closeP st L <;> simp; omega
theorem decls_nil : dShows [] = [] := rfl
theorem equal_media : Lib.equalFold mediaW mediaW = true := by decide

mutual
theorem rule_read (N : Nat) : ∀ (r : Rl) (m : Nat) (nst : Bool), GoodR N m nst r → RD m nst r
  | .mk false h ds rs, m, nst, hg => by
    unfold GoodR at hg
    obtain ⟨⟨V, hc, hs, hb, rfl, hV, h3, -⟩, -, hd⟩ := hg
    obtain ⟨hT, rfl⟩ := hd rfl
    obtain ⟨I, hIf, hId, hIc⟩ := shown_decls ds hT
    have hI : closeP [[125]] (I ++ [tkC]) = some (I.length + 1) := by
      rw [close_app hIf _ _ (by simp), closeP, if_neg (by decide), if_pos (by decide), if_pos (by decide)]
      rfl
    have hqB : qP false nst tkB = true := by cases nst <;> decide
    refine rd_of (a := false) (A := hdT V) (I := I) (H := headP V ++ if headP V = [] then [] else [32]) (D := dShows ds) (hdT_hd hV hqB) (fun t ht => ?_) (fun _ => rfl) hI ?_ ?_ (hdT_cut hc hs hb) (fun M => hIc 125 M rfl) ?_
    · obtain ⟨h1, h2⟩ := hdT_first hs t ht
      exact ⟨h2, (decide_eq_false (h3 rfl t h1)).symm⟩
    · unfold ruleW
      rw [if_neg (any_bad (hdT_bad hb))]
      have hh := hdT_head hc hs
      cases hA : hdT V with
      | nil =>
        rw [hA] at hh
        simp only
        rw [hId, ← hh]
        rfl
      | cons t K =>
        have h1 := (hdT_first hs t (by rw [hA]; rfl)).1
        simp only
        rw [if_neg (h3 rfl t h1), ← hA, hh, hId]
    · simp [showR, showG]
    · by_cases h0 : V = []
      · subst h0
        exact ⟨123, _, by simp [showR, showG, headP, headF]; rfl, by decide⟩
      · obtain ⟨c, x, he, hcb⟩ := raw_nb hc hs h0
        exact ⟨c, _, by simp only [showR, he, List.cons_append]; rfl, hcb⟩
  | .mk true h ds rs, m, nst, hg => by
    unfold GoodR at hg
    obtain ⟨⟨V, hc, hs, hb, rfl, hV, -, -⟩, hd, -⟩ := hg
    obtain ⟨rfl, m', rfl, hG⟩ := hd rfl
    obtain ⟨I, hIc, hIr, hIn⟩ := group_read N rs m' hG
    have hI : closeP [[125]] (I ++ [tkC]) = some (I.length + 1) := by
      rw [hIn [[125]] [tkC] rfl, closeP, if_neg (by decide), if_pos (by decide), if_pos (by decide)]
      rfl
    have hqB : qP true nst tkB = true := by cases nst <;> decide
    have hqA : qP true nst tkAt = true := by cases nst <;> decide
    refine rd_of (a := true) (A := tkAt :: tkB :: hdT V) (I := I) (H := mediaT ++ [32] ++ (headP V ++ if headP V = [] then [] else [32])) (D := showG rs) (.cons _ _ (by decide) hqA (.cons _ _ (by decide) hqB (hdT_hd hV hqB))) (fun t ht => ?_) (fun e => by cases e) hI ?_ ?_ (fun X => ?_) (fun M => hIc 125 M rfl) ?_
    · obtain rfl : tkAt = t := by simpa using ht
      exact ⟨rfl, rfl⟩
    · unfold ruleW
      rw [if_neg (any_bad (fun t ht => by
        simp only [List.mem_cons] at ht
        rcases ht with rfl | rfl | ht
        · decide
        · decide
        · exact hdT_bad hb t ht))]
      simp only [if_true, equal_media, subP, Option.map_some, hIr]
      have hh : headP (tkB :: hdT V) = headP V := by
        rw [← hdT_head hc hs]
        exact headF_pre [tkB] (hdT V) (sil_one rfl)
      rw [hh]
    · simp [showR, dShows]
    · have h1 := hdT_cut hc hs hb X
      have h2 : ∃ c x, (headP V ++ if headP V = [] then [] else [32]) ++ 123 :: X = c :: x ∧ blankB c = false := by
        by_cases h0 : V = []
        · subst h0
          exact ⟨123, X, rfl, by decide⟩
        · obtain ⟨c, x, he, hcb⟩ := raw_nb hc hs h0
          exact ⟨c, _, by rw [he]; rfl, hcb⟩
      obtain ⟨c, x, he, hcb⟩ := h2
      rw [show mediaT ++ [32] ++ (headP V ++ if headP V = [] then [] else [32]) ++ 123 :: X = mediaT ++ 32 :: ((headP V ++ if headP V = [] then [] else [32]) ++ 123 :: X) by simp, media_cut]
      rw [he] at h1 ⊢
      rw [cut_sp c hcb, h1]
      rfl
    · exact ⟨64, _, by simp only [showR, mediaT, if_true, List.cons_append]; rfl, by decide⟩
theorem group_read (N : Nat) : ∀ (rs : List Rl) (m : Nat), GoodG N m true rs → GD m rs
  | [], m, _ => ⟨[tkNL], fun s M hs => by
      show cutP (10 :: s :: M) = _
      rw [cut_nl s hs]
      rfl, by
      have := rules_lead m (A := [tkNL]) (L := []) (sil_one rfl)
      rw [List.append_nil] at this
      rw [this, rulesP_is, rulesW_nil (by rfl)], fun st L hst => by
      rw [List.cons_append, closeP, if_neg (by decide), if_neg (fun e => by cases e.1)]
      rw [List.nil_append]
      congr 1
      funext k; simp; omega⟩
  | r :: rs, m, hg => by
    unfold GoodG at hg
    obtain ⟨T, h1, h2, h3, c, x, hnm, hb⟩ := rule_read N r m true hg.1
    obtain ⟨T', k1, k2, k3⟩ := group_read N rs m hg.2
    refine ⟨tkNL :: (T ++ T'), fun s M hs => ?_, ?_, fun st L hst => ?_⟩
    · have e : showG (r :: rs) ++ s :: M = showR r ++ (showG rs ++ s :: M) := by simp [showG]
      have e2 := h1 (showG rs ++ s :: M)
      rw [k1 s M hs] at e2
      rw [e, hnm] at *
      rw [List.cons_append, cut_nl c hb]
      rw [List.cons_append] at e2
      rw [e2]
      simp
    · have := rules_lead m (A := [tkNL]) (L := T ++ T') (sil_one rfl)
      rw [show tkNL :: (T ++ T') = [tkNL] ++ (T ++ T') from rfl, this, h2, k2]
    · rw [List.cons_append, closeP, if_neg (by decide), if_neg (fun e => by cases e.1), List.append_assoc, h3 rfl st _ hst, k3 st L hst]
      cases closeP st L <;> simp; omega
end

/-- told, and what is behind -/
theorem all_read {N m : Nat} : ∀ (rs : List Rl), GoodG N m false rs → ∀ M, rulesP m (cutP (showG rs ++ M)) = rs ++ rulesP m (cutP M)
  | [], _, M => rfl
  | r :: rs, hg, M => by
    unfold GoodG at hg
    obtain ⟨T, h1, h2, _⟩ := rule_read N r m false hg.1
    have e : showG (r :: rs) ++ M = showR r ++ (showG rs ++ M) := by simp [showG]
    rw [e, h1, h2, rules_nl, all_read rs hg.2]
    rfl
theorem parse_good {s : Bs} {R : List Rl} (h : ParseP s = some R) : GoodG 3000 3 false R ∧ ¬ ((manyP R).2 || decide (60 < (manyP R).1)) = true ∧ R = rulesP 3 (cutP s) ∧ s.length ≤ 3000 := by
  unfold ParseP at h
  split at h
  · cases h
  · rename_i h3
    split at h
    · cases h
    · rename_i hm
      have e := Option.some.inj h
      rw [e] at hm
      refine ⟨?_, hm, e.symm, by omega⟩
      rw [← e]
      refine good_rules 3000 3 _ (cutP s) false (Nat.le_refl _) (by unfold Cut; rw [cut_text]) (fun t ht => ?_) (by rw [cut_text]; omega) (fun e => by cases e)
      have := (cut_vals _ s (Nat.le_refl _) t ht).2.2
      omega
/-- SHOWN AND READ -/
theorem rule_shown {s : Bs} {R : List Rl} (h : ParseP s = some R) : ParseP (showG R) = if 3000 < (showG R).length then none else some R := by
  obtain ⟨hg, hm, _, _⟩ := parse_good h
  have := all_read R hg []
  have hnil : rulesP 3 [] = [] := by rw [rulesP_is, rulesW_nil (by rfl)]
  rw [List.append_nil, cutP_nil, hnil, List.append_nil] at this
  unfold ParseP
  rw [this, if_neg hm]
/-- ONE BEHIND THE OTHER -/
theorem rule_behind {s : Bs} {R : List Rl} (h : ParseP s = some R) (u : Bs) : rulesP 3 (cutP (showG R ++ u)) = R ++ rulesP 3 (cutP u) := all_read R (parse_good h).1 u

end Go.Proofs.YtaihncbejhnceaaDoor.rul

namespace Go.Proofs.YtaihncbejhnceaaDoor.rul
open Go.RowKit Go.Proofs.YtaihncbejhnceaaDoor.base Go.Proofs.YtaihncbejhnceaaDoor.tok
set_option linter.unusedVariables false

/-- a rule of an at-word, up to a semicolon -/
theorem rules_semi (m : Nat) (t : Tk) (A Y : List Tk) (ht : t.k = 3) (hA : Hd (fun x => !beginsR true x) A) : rulesP m (t :: (A ++ tkS :: Y)) = rulesP m Y := by
  have ho : opensP t = false := by simp [opensP, ht]
  have hs : silP t = false := by simp [silP, ht]
  have hb : (!beginsR true t) = true := by simp [beginsR, braceP, semiP, rawP, ht]
  have hsol : solidP (t :: (A ++ tkS :: Y)) = t :: (A ++ tkS :: endP Y) := by
    unfold solidP
    rw [List.dropWhile_cons_of_neg (by simp [hs])]
    have := endP_keep (X := t :: A) (c := tkS) rfl _ Y (Nat.le_refl _)
    simpa using this
  have hfind : findP (beginsR true) ((t :: A) ++ tkS :: endP Y) = (t :: A).length := by
    rw [hd_find (.cons t A ho hb hA) (beginsR true) (fun x hx => by simpa using hx), findP_cons, if_pos (by decide)]
    rfl
  rw [List.cons_append] at hfind
  rw [rulesP_is]
  rw [rulesW_some (t := t) (r := A ++ tkS :: endP Y) (b := tkS) (rest := endP Y) hsol (by rw [decide_eq_true ht, hfind, ← List.cons_append, List.drop_left]), if_neg (by decide)]
  exact rules_same (solid_endP Y)
theorem rules_blank (m : Nat) (sp M : Bs) (h0 : sp ≠ []) (hsp : ∀ y ∈ sp, blankB y = true) : rulesP m (cutP (sp ++ M)) = rulesP m (cutP M) := by
  obtain ⟨sq, x, rfl, hsq, hx⟩ := blank_split M
  have hall : ∀ y ∈ sp ++ sq, blankB y = true := fun y hy => by
    rcases List.mem_append.1 hy with hy | hy
    · exact hsp y hy
    · exact hsq y hy
  have hne : sp ++ sq ≠ [] := by simp [h0]
  rcases hx with rfl | ⟨c, z, rfl, hc⟩
  · rw [List.append_nil, cut_allblank (sp ++ sq) hne hall]
    by_cases h1 : sq = []
    · subst h1
      rw [cutP_nil, show [(⟨8, sp ++ [], [], 0⟩ : Tk)] = [⟨8, sp ++ [], [], 0⟩] ++ [] from rfl, rules_lead m (sil_one rfl)]
    · rw [cut_allblank sq h1 hsq]
      rw [show [(⟨8, sp ++ sq, [], 0⟩ : Tk)] = [⟨8, sp ++ sq, [], 0⟩] ++ [] from rfl, rules_lead m (sil_one rfl), show [(⟨8, sq, [], 0⟩ : Tk)] = [⟨8, sq, [], 0⟩] ++ [] from rfl, rules_lead m (sil_one rfl)]
  · rw [← List.append_assoc, cut_spaces (sp ++ sq) hne hall c hc z]
    rw [show (⟨8, sp ++ sq, [], 0⟩ : Tk) :: cutP (c :: z) = [⟨8, sp ++ sq, [], 0⟩] ++ cutP (c :: z) from rfl, rules_lead m (sil_one rfl)]
    by_cases h1 : sq = []
    · subst h1; rfl
    · rw [cut_spaces sq h1 hsq c hc z, show (⟨8, sq, [], 0⟩ : Tk) :: cutP (c :: z) = [⟨8, sq, [], 0⟩] ++ cutP (c :: z) from rfl, rules_lead m (sil_one rfl)]

abbrev tkX (c : UInt8) : Tk := ⟨3, [64, c], [c], 0⟩
theorem cut_at {c s : UInt8} (m : Bs) (hc : 97 ≤ nv c ∧ nv c ≤ 122) (hS : st.Stop s) : cutP (64 :: c :: s :: m) = tkX c :: cutP (s :: m) := by
  have h92 : ¬ nv c = 92 := by omega
  have hst : startsI (nv c) = true := by unfold startsI; simp; omega
  have hsg : signI (nv c) = true := by simp [signI, hst]
  have hn : nameP (c :: s :: m) = ([c], 1) := by
    rw [name_cons2, if_neg (by simp [escP, h92]), if_pos hsg, st.name_blank hS m]
  have h1 : namedP 3 (64 :: c :: s :: m) 1 = tkX c := by
    simp only [namedP, List.drop_succ_cons, List.drop_zero, hn]
    rfl
  have hsp : ¬ 0 < spaceP (64 :: c :: s :: m) := by
    unfold spaceP
    rw [List.takeWhile_cons_of_neg (by decide)]
    simp
  have hq : ¬ quoteP (64 :: c :: s :: m) = true := by simp only [quoteP]; decide
  have hh : ¬ hashP (64 :: c :: s :: m) = true := by
    simp only [hashP, show ¬ nv 64 = 35 by decide, decide_false, Bool.false_and]
    simp
  have ha : atP (64 :: c :: s :: m) = true := by
    have hb : beginsP (c :: s :: m) = true := by
      rw [beginsP, if_neg (by omega), hst]
      rfl
    simp only [atP, hb]
    decide
  have hf : firstP (64 :: c :: s :: m) = tkX c := by
    rw [firstP, if_neg hsp, if_neg (by simp [Lib.hasPrefix, List.isPrefixOf]), if_neg hq, if_neg hh, if_pos ha, h1]
  rw [cutP_cons (by simp), hf]
  rfl
theorem x_media : Lib.equalFold [120] mediaW = false := by decide
theorem bad_any {A : List Tk} {t : Tk} (h : t ∈ A) (h6 : t.k = 6) : A.any badP = true := List.any_eq_true.2 ⟨t, h, by simp [badP, h6]⟩

theorem spoil_0 (m : Nat) (u : Bs) : rulesP m (cutP ([64, 120, 32, 39, 121, 39, 59] ++ u)) = rulesP m (cutP u) := by
  show rulesP m (cutP (64 :: 120 :: 32 :: 39 :: 121 :: 39 :: 59 :: u)) = _
  have ht : textR 39 (121 :: 39 :: 59 :: u) = (5, 2, [121]) := by
    rw [textR_two, if_neg (by decide), if_neg (by decide), if_neg (by decide), textR_two, if_pos (by decide)]
  have hf : firstP (39 :: 121 :: 39 :: 59 :: u) = ⟨5, [39, 121, 39], [121], 0⟩ := by
    have hsp : ¬ 0 < spaceP (39 :: 121 :: 39 :: 59 :: u) := by
      unfold spaceP
      rw [List.takeWhile_cons_of_neg (by decide)]
      simp
    rw [firstP, if_neg hsp, if_neg (by simp [Lib.hasPrefix, List.isPrefixOf]), if_pos (by simp only [quoteP]; decide)]
    simp only [textP, ht]
    rfl
  have hc : cutP (39 :: 121 :: 39 :: 59 :: u) = ⟨5, [39, 121, 39], [121], 0⟩ :: tkS :: cutP u := by
    rw [cutP_cons (by simp), hf]
    show _ :: cutP (59 :: u) = _
    rw [cut_sole _ (by decide)]
    rfl
  rw [cut_at _ (by decide) stop_32, cut_sp 39 (by decide), hc]
  exact rules_semi m (tkX 120) [tkB, ⟨5, [39, 121, 39], [121], 0⟩] (cutP u) rfl (.cons _ _ (by decide) (by decide) (.cons _ _ (by decide) (by decide) .nil))
theorem spoil_1 (m : Nat) (u : Bs) : rulesP m (cutP ([64, 120, 32, 123, 32, 97, 32, 123, 32, 98, 58, 32, 99, 32, 125, 32, 125] ++ u)) = rulesP m (cutP u) := by
  show rulesP m (cutP (64 :: 120 :: 32 :: 123 :: 32 :: 97 :: 32 :: 123 :: 32 :: 98 :: 58 :: 32 :: 99 :: 32 :: 125 :: 32 :: 125 :: u)) = _
  rw [cut_at _ (by decide) stop_32, cut_sp 123 (by decide), cut_sole _ (by decide), cut_sp 97 (by decide), cut_let _ (by decide) stop_32, cut_sp 123 (by decide), cut_sole _ (by decide), cut_sp 98 (by decide), cut_let _ (by decide) stop_58, cut_sole _ (by decide), cut_sp 99 (by decide), cut_let _ (by decide) stop_32, cut_sp 125 (by decide), cut_sole _ (by decide), cut_sp 125 (by decide), cut_sole _ (by decide)]
  have := rules_cons m [tkX 120, tkB] [tkB, tkL 97, tkB, tkO, tkB, tkL 98, tkD, tkB, tkL 99, tkB, tkC, tkB] (cutP u) true (.cons _ _ (by decide) (by decide) (.cons _ _ (by decide) (by decide) .nil)) (fun t ht => by
    obtain rfl : tkX 120 = t := by simpa using ht
    exact ⟨rfl, rfl⟩) (fun e => by cases e) (by decide)
  refine Eq.trans this ?_
  have hr : ruleW (subP m) [tkX 120, tkB] [tkB, tkL 97, tkB, tkO, tkB, tkL 98, tkD, tkB, tkL 99, tkB, tkC, tkB] = none := by
    unfold ruleW
    rw [if_neg (by decide)]
    simp only [if_true, x_media, Bool.false_eq_true, if_false]
  rw [hr]
  rfl
theorem spoil_2 (m : Nat) (u : Bs) : rulesP m (cutP ([47, 42, 32, 123, 32, 42, 47] ++ u)) = rulesP m (cutP u) := by
  show rulesP m (cutP (47 :: 42 :: ([32, 123, 32, 42, 47] ++ u))) = _
  rw [cut_noted [32, 123, 32, 42, 47] u (k := 3) (by decide) rfl]
  exact rules_lead m (A := [⟨9, [47, 42, 32, 123, 32, 42, 47], [], 0⟩]) (sil_one rfl)
theorem spoil_3 (m : Nat) (u : Bs) : rulesP m (cutP ([64, 120, 32, 40, 59, 41, 32, 91, 123, 125, 93, 32, 123, 32, 93, 32, 125] ++ u)) = rulesP m (cutP u) := by
  show rulesP m (cutP (64 :: 120 :: 32 :: 40 :: 59 :: 41 :: 32 :: 91 :: 123 :: 125 :: 93 :: 32 :: 123 :: 32 :: 93 :: 32 :: 125 :: u)) = _
  rw [cut_at _ (by decide) stop_32, cut_sp 40 (by decide), cut_sole _ (by decide), cut_sole _ (by decide), cut_sole _ (by decide), cut_sp 91 (by decide), cut_sole _ (by decide), cut_sole _ (by decide), cut_sole _ (by decide), cut_sole _ (by decide), cut_sp 123 (by decide), cut_sole _ (by decide), cut_sp 93 (by decide), cut_sole _ (by decide), cut_sp 125 (by decide), cut_sole _ (by decide)]
  have := rules_cons m [tkX 120, tkB, tkSign 10 40, tkS, tkSign 11 41, tkB, tkSign 10 91, tkO, tkC, tkSign 11 93, tkB] [tkB, tkSign 11 93, tkB] (cutP u) true
    (.cons _ _ (by decide) (by decide) (.cons _ _ (by decide) (by decide) (.blk (tkSign 10 40) [tkS] (tkSign 11 41) _ (by decide) (by decide) (by decide) (.cons _ _ (by decide) (by decide) (.blk (tkSign 10 91) [tkO, tkC] (tkSign 11 93) _ (by decide) (by decide) (by decide) (.cons _ _ (by decide) (by decide) .nil)))))) (fun t ht => by
    obtain rfl : tkX 120 = t := by simpa using ht
    exact ⟨rfl, rfl⟩) (fun e => by cases e) (by decide)
  refine Eq.trans this ?_
  have hr : ruleW (subP m) [tkX 120, tkB, tkSign 10 40, tkS, tkSign 11 41, tkB, tkSign 10 91, tkO, tkC, tkSign 11 93, tkB] [tkB, tkSign 11 93, tkB] = none := by
    unfold ruleW
    rw [if_neg (by decide)]
    simp only [if_true, x_media, Bool.false_eq_true, if_false]
  rw [hr]
  rfl
theorem spoil_5 (m : Nat) (u : Bs) : rulesP m (cutP ([64, 120, 59, 64, 121, 59] ++ u)) = rulesP m (cutP u) := by
  show rulesP m (cutP (64 :: 120 :: 59 :: 64 :: 121 :: 59 :: u)) = _
  rw [cut_at _ (by decide) stop_59, cut_sole _ (by decide), cut_at _ (by decide) stop_59, cut_sole _ (by decide)]
  have h1 := rules_semi m (tkX 120) [] (tkX 121 :: tkS :: cutP u) rfl .nil
  have h2 := rules_semi m (tkX 121) [] (cutP u) rfl .nil
  exact Eq.trans h1 h2
theorem first_quote_nl (r : Bs) : firstP (39 :: 10 :: r) = ⟨6, [39], [], 0⟩ := by
  have ht : textR 39 (10 :: r) = (6, 0, []) := by
    cases r with
    | nil => rw [textR_one, if_neg (by decide), if_pos (by decide)]
    | cons d r => rw [textR_two, if_neg (by decide), if_pos (by decide)]
  have hsp : ¬ 0 < spaceP (39 :: 10 :: r) := by
    unfold spaceP
    rw [List.takeWhile_cons_of_neg (by decide)]
    simp
  rw [firstP, if_neg hsp, if_neg (by simp [Lib.hasPrefix, List.isPrefixOf]), if_pos (by simp only [quoteP]; decide)]
  simp only [textP, ht]
  rfl
theorem cut_quote (r : Bs) : cutP (39 :: 10 :: r) = ⟨6, [39], [], 0⟩ :: cutP (10 :: r) := by
  rw [cutP_cons (by simp), first_quote_nl]
  rfl
theorem spoil_6 (m : Nat) (u : Bs) : rulesP m (cutP ([39, 10, 123, 32, 97, 58, 32, 98, 32, 125] ++ u)) = rulesP m (cutP u) := by
  show rulesP m (cutP (39 :: 10 :: 123 :: 32 :: 97 :: 58 :: 32 :: 98 :: 32 :: 125 :: u)) = _
  rw [cut_quote, cut_nl 123 (by decide), cut_sole _ (by decide), cut_sp 97 (by decide), cut_let _ (by decide) stop_58, cut_sole _ (by decide), cut_sp 98 (by decide), cut_let _ (by decide) stop_32, cut_sp 125 (by decide), cut_sole _ (by decide)]
  have := rules_cons m [⟨6, [39], [], 0⟩, tkNL] [tkB, tkL 97, tkD, tkB, tkL 98, tkB] (cutP u) false (.cons _ _ (by decide) (by decide) (.cons _ _ (by decide) (by decide) .nil)) (fun t ht => by
    obtain rfl : (⟨6, [39], [], 0⟩ : Tk) = t := by simpa using ht
    exact ⟨rfl, rfl⟩) (fun _ => rfl) (by decide)
  refine Eq.trans this ?_
  have hr : ruleW (subP m) [⟨6, [39], [], 0⟩, tkNL] [tkB, tkL 97, tkD, tkB, tkL 98, tkB] = none := by
    unfold ruleW
    rw [if_pos (by decide)]
  rw [hr]
  rfl
theorem spoil_7 (m : Nat) (u : Bs) : rulesP m (cutP ([64, 109, 101, 100, 105, 97, 32, 39, 10, 32, 123, 32, 97, 32, 123, 32, 98, 58, 32, 99, 32, 125, 32, 125] ++ u)) = rulesP m (cutP u) := by
  show rulesP m (cutP (mediaT ++ 32 :: 39 :: 10 :: 32 :: 123 :: 32 :: 97 :: 32 :: 123 :: 32 :: 98 :: 58 :: 32 :: 99 :: 32 :: 125 :: 32 :: 125 :: u)) = _
  have hb : ∀ x, cutP (10 :: 32 :: 123 :: x) = ⟨8, [10, 32], [], 0⟩ :: cutP (123 :: x) := fun x => cut_spaces [10, 32] (by decide) (by decide) 123 (by decide) x
  rw [media_cut, cut_sp 39 (by decide), cut_quote, hb, cut_sole _ (by decide), cut_sp 97 (by decide), cut_let _ (by decide) stop_32, cut_sp 123 (by decide), cut_sole _ (by decide), cut_sp 98 (by decide), cut_let _ (by decide) stop_58, cut_sole _ (by decide), cut_sp 99 (by decide), cut_let _ (by decide) stop_32, cut_sp 125 (by decide), cut_sole _ (by decide), cut_sp 125 (by decide), cut_sole _ (by decide)]
  have := rules_cons m [tkAt, tkB, ⟨6, [39], [], 0⟩, ⟨8, [10, 32], [], 0⟩] [tkB, tkL 97, tkB, tkO, tkB, tkL 98, tkD, tkB, tkL 99, tkB, tkC, tkB] (cutP u) true (.cons _ _ (by decide) (by decide) (.cons _ _ (by decide) (by decide) (.cons _ _ (by decide) (by decide) (.cons _ _ (by decide) (by decide) .nil)))) (fun t ht => by
    obtain rfl : tkAt = t := by simpa using ht
    exact ⟨rfl, rfl⟩) (fun e => by cases e) (by decide)
  refine Eq.trans this ?_
  have hr : ruleW (subP m) [tkAt, tkB, ⟨6, [39], [], 0⟩, ⟨8, [10, 32], [], 0⟩] [tkB, tkL 97, tkB, tkO, tkB, tkL 98, tkD, tkB, tkL 99, tkB, tkC, tkB] = none := by
    unfold ruleW
    rw [if_pos (by decide)]
  rw [hr]
  rfl
/-- the law's bad ones -/
def badR : Nat → Bs
  | 0 => [64, 120, 32, 39, 121, 39, 59]
  | 1 => [64, 120, 32, 123, 32, 97, 32, 123, 32, 98, 58, 32, 99, 32, 125, 32, 125]
  | 2 => [47, 42, 32, 123, 32, 42, 47]
  | 3 => [64, 120, 32, 40, 59, 41, 32, 91, 123, 125, 93, 32, 123, 32, 93, 32, 125]
  | 4 => [10, 12, 32]
  | 5 => [64, 120, 59, 64, 121, 59]
  | 6 => [39, 10, 123, 32, 97, 58, 32, 98, 32, 125]
  | _ => [64, 109, 101, 100, 105, 97, 32, 39, 10, 32, 123, 32, 97, 32, 123, 32, 98, 58, 32, 99, 32, 125, 32, 125]
theorem spoil_all (m : Nat) : ∀ (i : Nat), i < 8 → ∀ u, rulesP m (cutP (badR i ++ u)) = rulesP m (cutP u)
  | 0, _, u => spoil_0 m u | 1, _, u => spoil_1 m u | 2, _, u => spoil_2 m u | 3, _, u => spoil_3 m u
  | 4, _, u => rules_blank m [10, 12, 32] u (by decide) (by decide) | 5, _, u => spoil_5 m u | 6, _, u => spoil_6 m u | 7, _, u => spoil_7 m u
  | n + 8, h, _ => by omega
/-- A BAD ONE SPOILS NO NEIGHBOUR -/
theorem rule_spoils {s : Bs} {R : List Rl} (h : ParseP s = some R) (i : Nat) (hi : i < 8) (u : Bs) : rulesP 3 (cutP (showG R ++ (badR i ++ u))) = R ++ rulesP 3 (cutP u) := by
  rw [rule_behind h, spoil_all 3 i hi]

end Go.Proofs.YtaihncbejhnceaaDoor.rul

namespace Go.Proofs.YtaihncbejhnceaaDoor.rul
open Go.RowKit Go.Proofs.YtaihncbejhnceaaDoor.base Go.Proofs.YtaihncbejhnceaaDoor.tok
set_option linter.unusedVariables false

mutual
/-- how many queries lie in one another -/
def deepR : Rl → Nat
  | .mk md h ds rs => if md then 1 + deepG rs else 0
def deepG : List Rl → Nat
  | [] => 0
  | r :: rs => max (deepR r) (deepG rs)
end
def headOf : Rl → Bs
  | .mk md h ds rs => h
mutual
theorem goodR_deep (N : Nat) : ∀ (r : Rl) (m m2 : Nat) (nst : Bool), GoodR N m nst r → deepR r ≤ m2 → GoodR N m2 nst r
  | .mk md h ds rs, m, m2, nst, hg, hd => by
    unfold GoodR at hg ⊢
    refine ⟨hg.1, fun e => ?_, hg.2.2⟩
    obtain ⟨h1, m', rfl, h2⟩ := hg.2.1 e
    subst e
    simp only [deepR, if_true] at hd
    exact ⟨h1, m2 - 1, by omega, goodG_deep N rs m' (m2 - 1) true h2 (by omega)⟩
theorem goodG_deep (N : Nat) : ∀ (rs : List Rl) (m m2 : Nat) (nst : Bool), GoodG N m nst rs → deepG rs ≤ m2 → GoodG N m2 nst rs
  | [], m, m2, nst, _, _ => by unfold GoodG; trivial
  | r :: rs, m, m2, nst, hg, hd => by
    unfold GoodG at hg ⊢
    simp only [deepG] at hd
    exact ⟨goodR_deep N r m m2 nst hg.1 (by omega), goodG_deep N rs m m2 nst hg.2 (by omega)⟩
end
theorem hd_mem {q q' : Tk → Bool} {A : List Tk} (h : Hd q A) : (∀ t ∈ A, q t = true → q' t = true) → Hd q' A := by
  induction h with
  | nil => intro _; exact .nil
  | cons t K h1 h2 h3 ih => intro hq; exact .cons t _ h1 (hq t (by simp) h2) (ih (fun x hx => hq x (by simp [hx])))
  | blk t I c K h1 h2 h3 h4 ih => intro hq; exact .blk t I c _ h1 (hq t (by simp) h2) h3 (ih (fun x hx => hq x (by simp [hx])))
theorem sq_has : ∀ (V : List Tk) (f : Bool) (t : Tk), t ∈ V → silP t = false → ∀ c ∈ t.raw, c ∈ textOf (sqF f V)
  | [], f, t, ht, _, c, hc => by cases ht
  | a :: V, f, t, ht, hs, c, hc => by
    have ih := fun f (h : t ∈ V) => sq_has V f t h hs c hc
    rw [sqF]
    split
    · rename_i ha
      have hV : t ∈ V := by
        rcases List.mem_cons.1 ht with rfl | h
        · rw [hs] at ha; cases ha
        · exact h
      split
      · exact ih true hV
      · rw [text_cons]; exact List.mem_append_right _ (ih true hV)
    · rw [text_cons]
      rcases List.mem_cons.1 ht with rfl | h
      · exact List.mem_append_left _ hc
      · exact List.mem_append_right _ (ih false h)
theorem good_nst {N m : Nat} : ∀ (rs : List Rl), GoodG N m false rs → (∀ r ∈ rs, ¬ (125 : UInt8) ∈ headOf r) → GoodG N m true rs
  | [], _, _ => by unfold GoodG; trivial
  | .mk md h ds rs' :: rs, hg, hc => by
    unfold GoodG at hg ⊢
    refine ⟨?_, good_nst rs hg.2 (fun r hr => hc r (by simp [hr]))⟩
    have h1 := hg.1
    unfold GoodR at h1 ⊢
    obtain ⟨⟨V, hcut, hs, hb, rfl, hV, h3, h5⟩, h4⟩ := h1
    refine ⟨⟨V, hcut, hs, hb, rfl, hd_mem hV (fun t ht hq => ?_), h3, h5⟩, h4⟩
    have hno : ¬ (125 : UInt8) ∈ headP V := hc (.mk md (headP V) ds rs') (by simp)
    unfold qP at hq ⊢
    simp only [Bool.false_and, Bool.not_false, Bool.and_true] at hq
    rw [hq, Bool.true_and, Bool.true_and, Bool.not_eq_true']
    cases h125 : c125 t with
    | false => rfl
    | true =>
      simp only [c125, Bool.and_eq_true, decide_eq_true_eq] at h125
      have := sq_has V false t ht (by simp [silP, h125.1]) 125 (by rw [h125.2]; simp)
      rw [← head_is hs hcut.raw] at this
      exact absurd this hno

theorem group_in {N : Nat} {rs : List Rl} {m : Nat} (hg : GoodG N m true rs) : ∃ T : List Tk, (∀ s M, blankB s = false → cutP (showG rs ++ s :: M) = T ++ cutP (s :: M)) ∧ rulesP m T = rs ∧
    ∀ (st : List Bs) (L : List Tk), st.getLast? = some [125] → closeP st (T ++ L) = (closeP st L).map (T.length + ·) := by
  cases rs with
  | nil => exact ⟨[], fun s M hs => rfl, by rw [rulesP_is, rulesW_nil (by rfl)], fun st L hst => by simp⟩
  | cons r rs =>
    unfold GoodG at hg
    obtain ⟨T, h1, h2, h3, c, x, hnm, hb⟩ := rule_read N r m true hg.1
    obtain ⟨T', k1, k2, k3⟩ := group_read N rs m hg.2
    refine ⟨T ++ T', fun s M hs => ?_, ?_, fun st L hst => ?_⟩
    · have e : showG (r :: rs) ++ s :: M = showR r ++ (showG rs ++ s :: M) := by simp [showG]
      rw [e, h1, k1 s M hs, List.append_assoc]
    · rw [h2, k2]
    · rw [List.append_assoc, h3 rfl st _ hst, k3 st L hst]
      cases closeP st L <;> simp; omega

/-! ### the queries -/
theorem cut_wAll : cutP [97, 108, 108] = [⟨1, [97, 108, 108], [97, 108, 108], 0⟩] := by
  have hn : nameP [97, 108, 108] = ([97, 108, 108], 3) := by
    iterate 2 rw [name_cons2, if_neg (by decide), if_pos (by decide)]
    rw [name_cons1, if_pos (by decide)]
  have h1 : namedP 1 [97, 108, 108] 0 = ⟨1, [97, 108, 108], [97, 108, 108], 0⟩ := by
    simp only [namedP, List.drop_zero, hn]
    rfl
  have hw : wordP [97, 108, 108] = ⟨1, [97, 108, 108], [97, 108, 108], 0⟩ := by
    simp only [wordP, h1]
    decide
  have hf : firstP [97, 108, 108] = ⟨1, [97, 108, 108], [97, 108, 108], 0⟩ := by
    rw [firstP, if_neg (by decide), if_neg (by decide), if_neg (by decide), if_neg (by decide), if_neg (by decide), if_neg (by decide), if_pos (by decide), hw]
  rw [cutP_cons (by decide), hf]
  simp [cutP_nil]
theorem cut_wPrint : cutP [112, 114, 105, 110, 116] = [⟨1, [112, 114, 105, 110, 116], [112, 114, 105, 110, 116], 0⟩] := by
  have hn : nameP [112, 114, 105, 110, 116] = ([112, 114, 105, 110, 116], 5) := by
    iterate 4 rw [name_cons2, if_neg (by decide), if_pos (by decide)]
    rw [name_cons1, if_pos (by decide)]
  have h1 : namedP 1 [112, 114, 105, 110, 116] 0 = ⟨1, [112, 114, 105, 110, 116], [112, 114, 105, 110, 116], 0⟩ := by
    simp only [namedP, List.drop_zero, hn]
    rfl
  have hw : wordP [112, 114, 105, 110, 116] = ⟨1, [112, 114, 105, 110, 116], [112, 114, 105, 110, 116], 0⟩ := by
    simp only [wordP, h1]
    decide
  have hf : firstP [112, 114, 105, 110, 116] = ⟨1, [112, 114, 105, 110, 116], [112, 114, 105, 110, 116], 0⟩ := by
    rw [firstP, if_neg (by decide), if_neg (by decide), if_neg (by decide), if_neg (by decide), if_neg (by decide), if_neg (by decide), if_pos (by decide), hw]
  rw [cutP_cons (by decide), hf]
  simp [cutP_nil]
theorem cut_wMin : cutP [109, 105, 110, 45, 119, 105, 100, 116, 104] = [⟨1, [109, 105, 110, 45, 119, 105, 100, 116, 104], [109, 105, 110, 45, 119, 105, 100, 116, 104], 0⟩] := by
  have hn : nameP [109, 105, 110, 45, 119, 105, 100, 116, 104] = ([109, 105, 110, 45, 119, 105, 100, 116, 104], 9) := by
    iterate 8 rw [name_cons2, if_neg (by decide), if_pos (by decide)]
    rw [name_cons1, if_pos (by decide)]
  have h1 : namedP 1 [109, 105, 110, 45, 119, 105, 100, 116, 104] 0 = ⟨1, [109, 105, 110, 45, 119, 105, 100, 116, 104], [109, 105, 110, 45, 119, 105, 100, 116, 104], 0⟩ := by
    simp only [namedP, List.drop_zero, hn]
    rfl
  have hw : wordP [109, 105, 110, 45, 119, 105, 100, 116, 104] = ⟨1, [109, 105, 110, 45, 119, 105, 100, 116, 104], [109, 105, 110, 45, 119, 105, 100, 116, 104], 0⟩ := by
    simp only [wordP, h1]
    decide
  have hf : firstP [109, 105, 110, 45, 119, 105, 100, 116, 104] = ⟨1, [109, 105, 110, 45, 119, 105, 100, 116, 104], [109, 105, 110, 45, 119, 105, 100, 116, 104], 0⟩ := by
    rw [firstP, if_neg (by decide), if_neg (by decide), if_neg (by decide), if_neg (by decide), if_neg (by decide), if_neg (by decide), if_pos (by decide), hw]
  rw [cutP_cons (by decide), hf]
  simp [cutP_nil]
theorem cut_wNot : cutP [110, 111, 116] = [⟨1, [110, 111, 116], [110, 111, 116], 0⟩] := by
  have hn : nameP [110, 111, 116] = ([110, 111, 116], 3) := by
    iterate 2 rw [name_cons2, if_neg (by decide), if_pos (by decide)]
    rw [name_cons1, if_pos (by decide)]
  have h1 : namedP 1 [110, 111, 116] 0 = ⟨1, [110, 111, 116], [110, 111, 116], 0⟩ := by
    simp only [namedP, List.drop_zero, hn]
    rfl
  have hw : wordP [110, 111, 116] = ⟨1, [110, 111, 116], [110, 111, 116], 0⟩ := by
    simp only [wordP, h1]
    decide
  have hf : firstP [110, 111, 116] = ⟨1, [110, 111, 116], [110, 111, 116], 0⟩ := by
    rw [firstP, if_neg (by decide), if_neg (by decide), if_neg (by decide), if_neg (by decide), if_neg (by decide), if_neg (by decide), if_pos (by decide), hw]
  rw [cutP_cons (by decide), hf]
  simp [cutP_nil]
theorem cut_wMEDIA : cutP [77, 69, 68, 73, 65] = [⟨1, [77, 69, 68, 73, 65], [77, 69, 68, 73, 65], 0⟩] := by
  have hn : nameP [77, 69, 68, 73, 65] = ([77, 69, 68, 73, 65], 5) := by
    iterate 4 rw [name_cons2, if_neg (by decide), if_pos (by decide)]
    rw [name_cons1, if_pos (by decide)]
  have h1 : namedP 1 [77, 69, 68, 73, 65] 0 = ⟨1, [77, 69, 68, 73, 65], [77, 69, 68, 73, 65], 0⟩ := by
    simp only [namedP, List.drop_zero, hn]
    rfl
  have hw : wordP [77, 69, 68, 73, 65] = ⟨1, [77, 69, 68, 73, 65], [77, 69, 68, 73, 65], 0⟩ := by
    simp only [wordP, h1]
    decide
  have hf : firstP [77, 69, 68, 73, 65] = ⟨1, [77, 69, 68, 73, 65], [77, 69, 68, 73, 65], 0⟩ := by
    rw [firstP, if_neg (by decide), if_neg (by decide), if_neg (by decide), if_neg (by decide), if_neg (by decide), if_neg (by decide), if_pos (by decide), hw]
  rw [cutP_cons (by decide), hf]
  simp [cutP_nil]
def mediaU : Bs := [64, 77, 69, 68, 73, 65]
abbrev tkU : Tk := ⟨3, mediaU, [77, 69, 68, 73, 65], 0⟩
theorem cut_mediaU : cutP mediaU = [tkU] := by
  have hn : nameP [77, 69, 68, 73, 65] = ([77, 69, 68, 73, 65], 5) := by
    iterate 4 rw [name_cons2, if_neg (by decide), if_pos (by decide)]
    rw [name_cons1, if_pos (by decide)]
  have hn2 : nameP (mediaU.drop 1) = ([77, 69, 68, 73, 65], 5) := hn
  have h1 : namedP 3 mediaU 1 = tkU := by
    simp only [namedP, hn2]
    rfl
  have hf : firstP mediaU = tkU := by
    rw [firstP, if_neg (by decide), if_neg (by decide), if_neg (by decide), if_neg (by decide), if_pos (by decide), h1]
  rw [cutP_cons (by decide), hf]
  show tkU :: cutP [] = _
  rw [cutP_nil]
theorem mediaU_cut (m : Bs) : cutP (mediaU ++ 32 :: m) = tkU :: cutP (32 :: m) := by
  rw [st.cut_apart stop_32 m _ mediaU (Nat.le_refl _) (by decide) (fun t ht => by
    rw [cut_mediaU] at ht
    obtain rfl : tkU = t := by simpa using ht
    exact ⟨by decide, by decide, by decide⟩), cut_mediaU]
  rfl
theorem cut_1px : cutP [49, 112, 120] = [⟨7, [49, 112, 120], [112, 120], 1000⟩] := by
  have hn : nameP [112, 120] = ([112, 120], 2) := by
    rw [nameP, if_neg (by decide), if_pos (by decide), nameP, if_pos (by decide)]
  have hnum : numberP [49, 112, 120] = (1000, 1) := by decide
  have f3 : firstP [49, 112, 120] = ⟨7, [49, 112, 120], [112, 120], 1000⟩ := by
    rw [firstP, if_neg (by decide), if_neg (by decide), if_neg (by decide), if_neg (by decide), if_neg (by decide), hnum, if_pos (by decide)]
    simp only [numTkP]
    rw [if_neg (by decide), if_pos (by decide)]
    simp only [List.drop_succ_cons, List.drop_zero, hn]
    decide
  rw [cutP_cons (by decide), f3]
  simp [cutP_nil]
def queryQ : Nat → Bs
  | 0 => [97, 108, 108]
  | 1 => [112, 114, 105, 110, 116]
  | 2 => [40, 109, 105, 110, 45, 119, 105, 100, 116, 104, 58, 32, 49, 112, 120, 41]
  | 3 => [110, 111, 116, 32, 97, 108, 108]
  | 4 => []
  | _ => [120, 32, 121]
theorem query_cut (i : Nat) (hi : i < 6) : ∃ V, cutP (queryQ i) = V ∧ Solid V ∧ (∀ t ∈ V, ¬ t.k = 6) ∧ headP V = queryQ i ∧ Hd (qP true false) V := by
  have sol : ∀ {a : Tk} {L : List Tk} {b : Tk}, silP a = false → (a :: L).getLast? = some b → silP b = false → Solid (a :: L) := fun h1 h2 h3 => solid_ends h1 h2 h3
  match i, hi with
  | 0, _ => exact ⟨_, cut_wAll, sol rfl rfl rfl, by decide, by decide, .cons _ _ (by decide) (by decide) .nil⟩
  | 1, _ => exact ⟨_, cut_wPrint, sol rfl rfl rfl, by decide, by decide, .cons _ _ (by decide) (by decide) .nil⟩
  | 2, _ =>
    have h : cutP (queryQ 2) = [tkSign 10 40, ⟨1, [109, 105, 110, 45, 119, 105, 100, 116, 104], [109, 105, 110, 45, 119, 105, 100, 116, 104], 0⟩, tkD, tkB, ⟨7, [49, 112, 120], [112, 120], 1000⟩, tkSign 11 41] := by
      show cutP (40 :: ([109, 105, 110, 45, 119, 105, 100, 116, 104] ++ 58 :: (32 :: ([49, 112, 120] ++ 41 :: [])))) = _
      have hS41 : st.Stop 41 := by unfold st.Stop; decide
      have hx := st.cut_apart hS41 [] _ [49, 112, 120] (Nat.le_refl _) (by decide) (fun t ht => by
        rw [cut_1px] at ht
        obtain rfl : _ = t := by simpa using ht
        exact ⟨by decide, by decide, by decide⟩)
      rw [cut_1px] at hx
      rw [cut_sole _ (by decide), word_stop cut_wMin (by decide) 58 stop_58, cut_sole _ (by decide)]
      rw [show (32 :: ([49, 112, 120] ++ 41 :: []) : Bs) = 32 :: 49 :: [112, 120, 41] from rfl, cut_sp 49 (by decide), show (49 :: [112, 120, 41] : Bs) = [49, 112, 120] ++ 41 :: [] from rfl, hx, cut_sole _ (by decide), cutP_nil]
      rfl
    exact ⟨_, h, sol rfl rfl rfl, by decide, by decide, .blk (tkSign 10 40) [⟨1, [109, 105, 110, 45, 119, 105, 100, 116, 104], [109, 105, 110, 45, 119, 105, 100, 116, 104], 0⟩, tkD, tkB, ⟨7, [49, 112, 120], [112, 120], 1000⟩] (tkSign 11 41) [] (by decide) (by decide) (by decide) .nil⟩
  | 3, _ =>
    have h : cutP (queryQ 3) = [⟨1, [110, 111, 116], [110, 111, 116], 0⟩, tkB, ⟨1, [97, 108, 108], [97, 108, 108], 0⟩] := by
      show cutP ([110, 111, 116] ++ 32 :: 97 :: [108, 108]) = _
      rw [word_stop cut_wNot (by decide) 32 stop_32, cut_sp 97 (by decide), cut_wAll]
    exact ⟨_, h, sol rfl rfl rfl, by decide, by decide, .cons _ _ (by decide) (by decide) (.cons _ _ (by decide) (by decide) (.cons _ _ (by decide) (by decide) .nil))⟩
  | 4, _ => exact ⟨[], cutP_nil, ⟨fun t ht => by simp at ht, fun t ht => by simp at ht⟩, fun t ht => by simp at ht, rfl, .nil⟩
  | 5, _ =>
    have hy : cutP [121] = [tkL 121] := by
      have hn : nameP [121] = ([121], 1) := by rw [name_cons1, if_pos (by decide)]
      have h1 : namedP 1 [121] 0 = ⟨1, [121], [121], 0⟩ := by
        simp only [namedP, List.drop_zero, hn]
        rfl
      have hw : wordP [121] = ⟨1, [121], [121], 0⟩ := by
        simp only [wordP, h1]
        decide
      have hf : firstP [121] = ⟨1, [121], [121], 0⟩ := by
        rw [firstP, if_neg (by decide), if_neg (by decide), if_neg (by decide), if_neg (by decide), if_neg (by decide), if_neg (by decide), if_pos (by decide), hw]
      rw [cutP_cons (by decide), hf]
      simp [cutP_nil]
    have h : cutP (queryQ 5) = [tkL 120, tkB, tkL 121] := by
      show cutP (120 :: 32 :: 121 :: []) = _
      rw [cut_let _ (by decide) stop_32, cut_sp 121 (by decide), hy]
    exact ⟨_, h, sol rfl rfl rfl, by decide, by decide, .cons _ _ (by decide) (by decide) (.cons _ _ (by decide) (by decide) (.cons _ _ (by decide) (by decide) .nil))⟩
  | n + 6, h => omega
def withinT (i : Nat) (t : Bs) : Bs := mediaU ++ [32] ++ queryQ i ++ [123] ++ t ++ [125]
/-- UNDER A QUERY -/
theorem rule_within {s : Bs} {R : List Rl} (h : ParseP s = some R) (i : Nat) (hi : i < 6) (hd : deepG R ≤ 2) (hc : ∀ r ∈ R, ¬ (125 : UInt8) ∈ headOf r) : rulesP 3 (cutP (withinT i (showG R))) = [.mk true (queryQ i) [] R] := by
  have hg := good_nst R (goodG_deep 3000 R 3 2 false (parse_good h).1 hd) hc
  obtain ⟨I, h1, h2, h3⟩ := group_in hg
  obtain ⟨V, hV, hs, hb, hh, hq⟩ := query_cut i hi
  have hcut : Cut V := by unfold Cut; rw [← hV, cut_text]
  have hI : closeP [[125]] (I ++ [tkC]) = some (I.length + 1) := by
    rw [h3 [[125]] [tkC] rfl, closeP, if_neg (by decide), if_pos (by decide), if_pos (by decide)]
    rfl
  have hin : cutP (showG R ++ [125]) = I ++ [tkC] := by
    have := h1 125 [] (by decide)
    rw [this, cut_sole _ (by decide), cutP_nil]
    rfl
  have hA : cutP (mediaU ++ 32 :: (queryQ i ++ 123 :: (showG R ++ [125]))) = (tkU :: tkB :: sqF false V) ++ tkO :: (I ++ [tkC]) := by
    have hval := val_cut (V := V) (post := []) (cut_of hcut) hb hs stop_123 (showG R ++ [125])
    rw [hh, cut_sole _ (by decide), hin] at hval
    have hne : ∃ c x, queryQ i ++ 123 :: (showG R ++ [125]) = c :: x ∧ blankB c = false := by
      by_cases h0 : V = []
      · have : queryQ i = [] := by rw [← hh, h0]; rfl
        rw [this]
        exact ⟨123, _, rfl, by decide⟩
      · obtain ⟨c, x, he, hcb⟩ := raw_nb hcut hs h0
        rw [hh] at he
        exact ⟨c, _, by rw [he]; rfl, hcb⟩
    obtain ⟨c, x, he, hcb⟩ := hne
    rw [mediaU_cut]
    rw [he] at hval ⊢
    rw [cut_sp c hcb, hval]
    rfl
  have e : withinT i (showG R) = mediaU ++ 32 :: (queryQ i ++ 123 :: (showG R ++ [125])) := by simp [withinT]
  have hHd : Hd (fun t => !beginsR true t) (tkU :: tkB :: sqF false V) := .cons _ _ (by decide) (by decide) (.cons _ _ (by decide) (by decide) (hd_sq (hd_mono (fun t ht => by unfold qP at ht; rw [Bool.and_eq_true] at ht; exact ht.1) hq) (by decide) false))
  rw [e, hA]
  have := rules_cons 3 (tkU :: tkB :: sqF false V) I [] true hHd (fun t ht => by
    obtain rfl : tkU = t := by simpa using ht
    exact ⟨rfl, rfl⟩) (fun e => by cases e) hI
  rw [this]
  have hr : ruleW (subP 3) (tkU :: tkB :: sqF false V) I = some (.mk true (queryQ i) [] R) := by
    unfold ruleW
    rw [if_neg (any_bad (fun t ht => by
      simp only [List.mem_cons] at ht
      rcases ht with rfl | rfl | ht
      · decide
      · decide
      · exact sq_bad V false hb t ht))]
    have heq : Lib.equalFold [77, 69, 68, 73, 65] mediaW = true := by decide
    have hhd : headP (tkB :: sqF false V) = queryQ i := by
      have := head_again hs hcut.raw
      rw [hh] at this
      rw [← this]
      exact headF_pre [tkB] (sqF false V) (sil_one rfl)
    simp only [if_true, heq, subP, Option.map_some, h2, hhd]
  rw [hr, rulesP_is, rulesW_nil (by rfl)]
  rfl

end Go.Proofs.YtaihncbejhnceaaDoor.rul

namespace Go.Proofs.YtaihncbejhnceaaDoor.rul
open Go.RowKit Go.Proofs.YtaihncbejhnceaaDoor.base Go.Proofs.YtaihncbejhnceaaDoor.tok
set_option linter.unusedVariables false

theorem rsl_join {w1 w2 W W' : World} {v1 v2 v' : Value} {L1 L2 : List Rl} {base : Nat} (vss1 vss2 : List (List Value)) (hl1 : vss1.length = L1.length) (hl2 : vss2.length = L2.length)
    (hr1 : ∀ (i : Nat) r vs, L1[i]? = some r → vss1[i]? = some vs → RuleAt W (Inn w1 W v1) r vs) (hr2 : ∀ (i : Nat) r vs, L2[i]? = some r → vss2[i]? = some vs → RuleAt W (Inn w2 W v2) r vs)
    (hrow : W'.ownsRow base 41 4 v' (L1.length + L2.length) (vss1.flatten ++ vss2.flatten)) (hg : W.grownBy W' v1.ownBlock) (hlt : ∀ g, v1.ownBlock = some g → g < w2.heap.size) : RSl W' v' (L1 ++ L2) := by
  have k1 : ∀ b, Inn w1 W v1 b → W'.heap[b]? = W.heap[b]? := fun b h => hg.block b h.2.1 (fun e => h.2.2 e.symm)
  have k2 : ∀ b, Inn w2 W v2 b → W'.heap[b]? = W.heap[b]? := fun b h => hg.block b h.2.1 (fun e => by have := hlt b e.symm; have := h.1; omega)
  rcases hrow.2 with ⟨rfl, hz⟩ | ⟨g, cap, cur, rfl, hb, hgc, hc, _⟩
  · refine ⟨none, 0, by rw [List.length_append, hz], by rw [List.length_append]; omega, fun h0 => by rw [List.length_append] at h0; omega⟩
  · have hg2 := hrow.lt g rfl
    refine ⟨some ⟨g, 0, none⟩, cap, by rw [List.length_append], by rw [List.length_append]; exact hc, fun _ => ⟨g, 0, rfl, hg2.2, ?_⟩⟩
    refine RowAt.mk_ (L1 ++ L2) (vss1 ++ vss2) 0 (by simp [hl1, hl2]) (fun i r vs h1 h2 => ?_) (fun j hj => ?_)
    · rcases Nat.lt_or_ge i L1.length with hi | hi
      · rw [List.getElem?_append_left hi] at h1
        rw [List.getElem?_append_left (by omega)] at h2
        exact RuleAt.keep k1 (fun b hb2 => Nat.lt_of_lt_of_le hb2.2.1 hg.size) r vs (hr1 i r vs h1 h2)
      · rw [List.getElem?_append_right hi] at h1
        rw [List.getElem?_append_right (by omega), hl1] at h2
        exact RuleAt.keep k2 (fun b hb2 => Nat.lt_of_lt_of_le hb2.2.1 hg.size) r vs (hr2 _ r vs h1 h2)
    · rw [Nat.zero_add, List.flatten_append]
      rw [List.length_append] at hj
      exact hrow.cellAt j hj
/-- rules that were made later stand -/
theorem rsl_far {w5 W W' : World} {v v1 : Value} {K : List Rl} (h : Got w5 W v K) (hg : W.grownBy W' v1.ownBlock) (hlt : ∀ g, v1.ownBlock = some g → g < w5.heap.size) : RSl W' v K := by
  obtain ⟨A, cap, hv, hc, h0⟩ := h.rs
  refine ⟨A, cap, hv, hc, fun hp => ?_⟩
  obtain ⟨b, off, hA, hn, hr⟩ := h0 hp
  have hk : ∀ b, New w5 W b → W'.heap[b]? = W.heap[b]? := fun b hb => hg.block b hb.2 (fun e => by have := hlt b e.symm; have := hb.1; omega)
  exact ⟨b, off, hA, Nat.lt_of_lt_of_le hn.2 hg.size, RowAt.keep hk (fun b hb => Nat.lt_of_lt_of_le hb.2 hg.size) b hn off K hr⟩
theorem rcells_one {w : World} {base : Nat} {v : Value} {n : Nat} {vss : List (List Value)} {acc : List Rl} {S : Nat → Prop} (hl : vss.length = acc.length) (hr : ∀ (i : Nat) r vs, acc[i]? = some r → vss[i]? = some vs → RuleAt w S r vs) : ∀ u ∈ vss.flatten, u.oneCell' = true := by
  intro x hx
  obtain ⟨vs, hvs, hxv⟩ := List.mem_flatten.1 hx
  obtain ⟨i, hi⟩ := List.mem_iff_getElem?.1 hvs
  have hil := (List.getElem?_eq_some_iff.1 hi).1
  have := hr i acc[i] vs (List.getElem?_eq_getElem (by omega)) hi
  generalize acc[i] = r at *
  cases r with
  | mk m h ds rs =>
    unfold RuleAt at this
    obtain ⟨A, c, A2, c2, rfl, _⟩ := this
    simp only [List.mem_cons, List.not_mem_nil, or_false] at hxv
    rcases hxv with rfl | rfl | rfl | rfl <;> rfl

/-- Parse, in one form: a row of the call's own -/
def parseE (s : Bs) : Int := if (ParseP s).isSome then 0 else 2
def parseL (s : Bs) : List Rl := (ParseP s).getD []
def ParseRet (w w' : World) (L : List Rl) (E : Int) (e : Ending) : Prop := ∃ A cap, e = .returned (.tuple #[.slice A L.length cap, .int .i64 E]) ∧ Got w w' (.slice A L.length cap) L ∧ fullG L ≤ 3000
theorem Parse_all (s : Bs) (w : World) (hF : FoldAt w) (hm : MaxL w) :
    Calls Tryd.prog 13 #[.string (bs s)] w fun e w' => ParseRet w w' (parseL s) (parseE s) e ∧ Below w.heap.size w w' := by
  unfold parseE parseL
  by_cases h3 : 3000 < s.length
  · have : ParseP s = none := by unfold ParseP; rw [if_pos h3]
    rw [this]
    exact (Parse_huge s h3 w).mono fun e w' ⟨he, hb⟩ => ⟨⟨none, 0, he, (Got.nil w).on hb, by decide⟩, hb⟩
  · refine (Parse_got s (by omega) w hF hm).mono fun e w' ⟨h, hb⟩ => ⟨?_, hb⟩
    cases hp : ParseP s with
    | none =>
      rw [hp] at h
      exact ⟨none, 0, h, (Got.nil w).on hb, by decide⟩
    | some R =>
      rw [hp] at h
      obtain ⟨v', he, hg, hf⟩ := h
      obtain ⟨A, cap, rfl⟩ := hg.form
      exact ⟨A, cap, he, hg, hf⟩
theorem parseE_or (s : Bs) : parseE s = 0 ∨ parseE s = 2 := by
  unfold parseE
  split
  · exact .inl rfl
  · exact .inr rfl
theorem parseE_some {s : Bs} (h : parseE s = 0) : ParseP s = some (parseL s) := by
  unfold parseE at h
  unfold parseL
  cases hd : ParseP s with
  | none => rw [hd] at h; simp at h
  | some R => rfl

end Go.Proofs.YtaihncbejhnceaaDoor.rul
