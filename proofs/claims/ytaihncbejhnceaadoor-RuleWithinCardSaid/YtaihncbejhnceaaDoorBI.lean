/- Contracts and plain law, a bundle: Rd2 RulS5 RulS6 RulS7 RulS8 RulS9. -/
import Derived.Laws.AppendOwnNone
import Derived.Test.YtaihncbejhnceaaDoorBB
import Derived.Test.YtaihncbejhnceaaDoorBG
import Derived.Test.YtaihncbejhnceaaDoorBF

namespace Go.Proofs.YtaihncbejhnceaaDoor.base
open Go.RowKit
set_option linter.unusedVariables false

theorem wpList_append_rd {P : Program} {w : World} {ops : Array Oper} {rest : List Oper} {o : Oper} {a : Act} {Q : Exit → Act → World → Prop} (hgd : o.guard = none) (s x : Operand) (t : TypeId)
    (ho : o.op = .call { callee := .builtin .append, args := #[s, x], argTypes := #[t, t] })
    (base : Nat) (e : TypeId) (i : TypeInfo) (z : Value) (size bytes : Nat) (ht : P.underlying t = some (.slice e)) (hi : P.info? e = some i) (hz : i.zero = some z)
    (hsize : i.size = size) (hby : i.bytes = bytes) (hzs : z.cells.size = size) (hsz : 0 < size)
    (v : Value) (n : Nat) (xs : List Value) (hs : a.eval s = v) (hown : w.ownsRow base e size v n xs)
    (v2 : Value) (m : Nat) (news : List Value) (b2 : Nat) (hx : a.eval x = v2) (hown2 : w.ownsRow b2 e size v2 m news) (h1 : ∀ u ∈ news, u.oneCell' = true)
    (h63 : n + m ≤ maxLen) (hbytes : (n + m) * bytes ≤ 140737488355328) (hbase : base ≤ w.heap.size)
    (h : ∀ v' w', w'.ownsRow base e size v' (n + m) (xs ++ news) → w.grownBy w' v.ownBlock → (v'.ownBlock = v.ownBlock ∨ v'.ownBlock = some w.heap.size) → wpList P ops Q rest (a.put o.dst v') w') :
    wpList P ops Q (o :: rest) a w := by
  rcases hown2.2 with ⟨rfl, rfl⟩ | ⟨g, cap, cur, rfl, hbg, hg, hnc, hcm, hcs, htake⟩
  · obtain rfl : news = [] := List.eq_nil_of_length_eq_zero (by simpa using hown2.1)
    refine wpList_append_own_none hgd s x t ho base e i size ht hi v n xs hs hown hx (h v w (by simpa using hown) ⟨rfl, rfl, rfl, Nat.le_refl _, fun _ _ _ => rfl⟩ (.inl rfl))
  · exact wpList_append_own_at w hgd s x t ho base e i z size bytes ht hi hz hsize hby hzs hsz v n xs hs hown ⟨g, 0, none⟩ m cap news hx hown2.1 (hown2.cells (g := g) rfl) h1 h63 hbytes hbase (fun v' w' q1 q2 _ q4 => h v' w' q1 q2 q4)

end Go.Proofs.YtaihncbejhnceaaDoor.base

namespace Go.Proofs.YtaihncbejhnceaaDoor.rul
open Go.RowKit Go.Proofs.YtaihncbejhnceaaDoor.base Go.Proofs.YtaihncbejhnceaaDoor.tok
set_option linter.unusedVariables false

/-- tokens up to a semicolon outside of blocks, that say no declaration -/
theorem none_read {B L : List Tk} (h0 : B ≠ []) (hf : findP semiP (B ++ tkS :: L) = B.length) (hd : (declP B).2 = false) : declsP (B ++ tkS :: L) = declsP L := by
  rw [declsP_cons (by simp), hf, List.take_left, hd, if_neg (by decide)]
  rw [show (B ++ tkS :: L).drop (B.length + 1) = L by
    rw [show B ++ tkS :: L = (B ++ [tkS]) ++ L by simp, List.drop_left' (by simp)]]
  rfl
theorem none_first {L : List Tk} : declsP (tkS :: L) = declsP L := by
  have hf : findP semiP (tkS :: L) = 0 := by rw [findP_cons, if_pos (by rfl)]
  have hd : (declP []).2 = false := by decide
  rw [declsP_cons (by simp), hf, List.take_zero, hd, if_neg (by decide)]
  rfl
theorem decl_val {B r r' : List Tk} {t c : Tk} (h1 : solidP B = t :: r) (h2 : solidP r = c :: r') (h3 : (fairP (impP r').1 && (ownP t.val || decide (headP (impP r').1 ≠ []))) = false) : (declP B).2 = false := by
  unfold declP
  rw [h1]
  simp only [declM]
  split
  · rw [h2]
    simp only [declB]
    split
    · exact h3
    · rfl
  · rfl
theorem decl_colon {B r r' : List Tk} {t c : Tk} (h1 : solidP B = t :: r) (h2 : solidP r = c :: r') (h3 : colonP c = false) : (declP B).2 = false := by
  unfold declP
  rw [h1]
  simp only [declM]
  split
  · rw [h2]
    simp only [declB, h3, Bool.false_and]
    rfl
  · rfl
theorem decl_kind {B r : List Tk} {t : Tk} (h1 : solidP B = t :: r) (h2 : ¬ t.k = 1) : (declP B).2 = false := by
  unfold declP
  rw [h1]
  simp only [declM, if_neg h2]

abbrev tkL (c : UInt8) : Tk := ⟨1, [c], [c], 0⟩
abbrev tkSign (k : Int) (c : UInt8) : Tk := ⟨k, [c], [], 0⟩
theorem blank_sole {c : UInt8} (m : Bs) (h : Sole c) : cutP (32 :: c :: m) = tkB :: cutP (c :: m) :=
  cut_blank (by simp) (by rw [first_sole _ h]; simp only [oneK]; (repeat' split) <;> decide)
theorem blank_let {c s : UInt8} (m : Bs) (hc : 97 ≤ nv c ∧ nv c ≤ 122) (hS : st.Stop s) : cutP (32 :: c :: s :: m) = tkB :: cutP (c :: s :: m) :=
  cut_blank (by simp) (by rw [first_let _ hc hS]; simp)
theorem stop_10 : st.Stop 10 := by unfold st.Stop; decide
theorem stop_123 : st.Stop 123 := by unfold st.Stop; decide

theorem bad_0 (u : Bs) : declsP (cutP ([120] ++ 59 :: u)) = declsP (cutP u) := by
  show declsP (cutP (120 :: 59 :: u)) = _
  rw [cut_let _ (by decide) stop_59, cut_sole _ (by decide)]
  exact none_read (B := [tkL 120]) (by simp) (by simp only [List.cons_append, List.nil_append]; rw [findP_cons, if_neg (by decide), if_neg (by decide), findP_cons, if_pos (by decide)]; rfl) (by decide)
theorem cut_digit {c s : UInt8} {x : Int} (m : Bs) (hS : st.Stop s) (hcut : cutP [c] = [⟨7, [c], [], x⟩]) : cutP (c :: s :: m) = ⟨7, [c], [], x⟩ :: cutP (s :: m) := by
  have := st.cut_apart hS m _ [c] (Nat.le_refl _) (by simp) (fun t ht => by
    rw [hcut] at ht
    obtain rfl : _ = t := by simpa using ht
    exact ⟨by simp, by simp, by simp⟩)
  rw [hcut] at this
  exact this
theorem cut_1 : cutP [49] = [⟨7, [49], [], 1000⟩] := by
  have hnum : numberP [49] = (1000, 1) := by decide
  have f : firstP [49] = ⟨7, [49], [], 1000⟩ := by
    rw [firstP, if_neg (by decide), if_neg (by decide), if_neg (by decide), if_neg (by decide), if_neg (by decide), hnum, if_pos (by decide)]
    simp only [numTkP]
    rw [if_neg (by decide), if_neg (by decide)]
    rfl
  rw [cutP_cons (by decide), f]
  simp [cutP_nil]
theorem cut_2 : cutP [50] = [⟨7, [50], [], 2000⟩] := by
  have hnum : numberP [50] = (2000, 1) := by decide
  have f : firstP [50] = ⟨7, [50], [], 2000⟩ := by
    rw [firstP, if_neg (by decide), if_neg (by decide), if_neg (by decide), if_neg (by decide), if_neg (by decide), hnum, if_pos (by decide)]
    simp only [numTkP]
    rw [if_neg (by decide), if_neg (by decide)]
    rfl
  rw [cutP_cons (by decide), f]
  simp [cutP_nil]
theorem bad_1 (u : Bs) : declsP (cutP ([49, 58, 32, 50] ++ 59 :: u)) = declsP (cutP u) := by
  show declsP (cutP (49 :: 58 :: 32 :: 50 :: 59 :: u)) = _
  have hb : cutP (32 :: 50 :: 59 :: u) = tkB :: cutP (50 :: 59 :: u) := cut_blank (by simp) (by
    have := cut_digit u stop_59 cut_2
    rw [cutP_cons (by simp)] at this
    injection this with h1 h2
    rw [h1]
    decide)
  rw [cut_digit _ stop_58 cut_1, cut_sole _ (by decide), hb, cut_digit _ stop_59 cut_2, cut_sole _ (by decide)]
  exact none_read (B := [⟨7, [49], [], 1000⟩, tkD, tkB, ⟨7, [50], [], 2000⟩]) (by simp) (by
    simp only [List.cons_append, List.nil_append]
    rw [findP_cons, if_neg (by decide), if_neg (by decide), findP_cons, if_neg (by decide), if_neg (by decide), findP_cons, if_neg (by decide), if_neg (by decide), findP_cons, if_neg (by decide), if_neg (by decide), findP_cons, if_pos (by decide)]; rfl) (by decide)
theorem bad_2 (u : Bs) : declsP (cutP ([97, 58, 32, 93] ++ 59 :: u)) = declsP (cutP u) := by
  show declsP (cutP (97 :: 58 :: 32 :: 93 :: 59 :: u)) = _
  rw [cut_let _ (by decide) stop_58, cut_sole _ (by decide), blank_sole _ (by decide), cut_sole _ (by decide), cut_sole _ (by decide)]
  exact none_read (B := [tkL 97, tkD, tkB, tkSign 11 93]) (by simp) (by
    simp only [List.cons_append, List.nil_append]
    rw [findP_cons, if_neg (by decide), if_neg (by decide), findP_cons, if_neg (by decide), if_neg (by decide), findP_cons, if_neg (by decide), if_neg (by decide), findP_cons, if_neg (by decide), if_neg (by decide), findP_cons, if_pos (by decide)]; rfl)
    (decl_val (t := tkL 97) (r := [tkD, tkB, tkSign 11 93]) (c := tkD) (r' := [tkB, tkSign 11 93]) (by decide) (by decide) (by
      rw [show (impP [tkB, tkSign 11 93]).1 = [tkSign 11 93] by decide, fairP_cons, if_pos (by decide)]; rfl))
theorem first_open (r : Bs) : firstP (39 :: 98 :: 10 :: 59 :: r) = ⟨6, [39, 98], [], 0⟩ := by
  have ht : textR 39 (98 :: 10 :: 59 :: r) = (6, 1, [98]) := by
    rw [textR_two, if_neg (by decide), if_neg (by decide), if_neg (by decide), textR_two, if_neg (by decide), if_pos (by decide)]
  have hsp : ¬ 0 < spaceP (39 :: 98 :: 10 :: 59 :: r) := by
    unfold spaceP
    rw [List.takeWhile_cons_of_neg (by decide)]
    simp
  rw [firstP, if_neg hsp, if_neg (by simp [Lib.hasPrefix, List.isPrefixOf]), if_pos (by simp only [quoteP]; decide)]
  simp only [textP, ht]
  rfl
theorem space_10 (r : Bs) : cutP (10 :: 59 :: r) = ⟨8, [10], [], 0⟩ :: cutP (59 :: r) := by
  have hsp : spaceP (10 :: 59 :: r) = 1 := by
    unfold spaceP
    rw [List.takeWhile_cons_of_pos (by decide), List.takeWhile_cons_of_neg (by decide)]
    rfl
  have hf : firstP (10 :: 59 :: r) = ⟨8, [10], [], 0⟩ := by
    rw [firstP, hsp, if_pos (by decide)]
    rfl
  rw [cutP_cons (by simp), hf]
  rfl
theorem bad_3 (u : Bs) : declsP (cutP ([97, 58, 32, 39, 98, 10] ++ 59 :: u)) = declsP (cutP u) := by
  show declsP (cutP (97 :: 58 :: 32 :: 39 :: 98 :: 10 :: 59 :: u)) = _
  have h1 : cutP (39 :: 98 :: 10 :: 59 :: u) = ⟨6, [39, 98], [], 0⟩ :: cutP (10 :: 59 :: u) := by
    rw [cutP_cons (by simp), first_open]
    rfl
  rw [cut_let _ (by decide) stop_58, cut_sole _ (by decide), cut_blank (by simp) (by rw [first_open]; decide), h1, space_10, cut_sole _ (by decide)]
  exact none_read (B := [tkL 97, tkD, tkB, ⟨6, [39, 98], [], 0⟩, ⟨8, [10], [], 0⟩]) (by simp) (by
    simp only [List.cons_append, List.nil_append]
    rw [findP_cons, if_neg (by decide), if_neg (by decide), findP_cons, if_neg (by decide), if_neg (by decide), findP_cons, if_neg (by decide), if_neg (by decide), findP_cons, if_neg (by decide), if_neg (by decide), findP_cons, if_neg (by decide), if_neg (by decide), findP_cons, if_pos (by decide)]; rfl)
    (decl_val (t := tkL 97) (r := [tkD, tkB, ⟨6, [39, 98], [], 0⟩]) (c := tkD) (r' := [tkB, ⟨6, [39, 98], [], 0⟩]) (by decide) (by decide) (by
      rw [show (impP [tkB, ⟨6, [39, 98], [], 0⟩]).1 = [⟨6, [39, 98], [], 0⟩] by decide, fairP_cons, if_pos (by decide)]; rfl))
theorem bad_4 (u : Bs) : declsP (cutP ([98, 58] ++ 59 :: u)) = declsP (cutP u) := by
  show declsP (cutP (98 :: 58 :: 59 :: u)) = _
  rw [cut_let _ (by decide) stop_58, cut_sole _ (by decide), cut_sole _ (by decide)]
  exact none_read (B := [tkL 98, tkD]) (by simp) (by
    simp only [List.cons_append, List.nil_append]
    rw [findP_cons, if_neg (by decide), if_neg (by decide), findP_cons, if_neg (by decide), if_neg (by decide), findP_cons, if_pos (by decide)]; rfl)
    (decl_val (t := tkL 98) (r := [tkD]) (c := tkD) (r' := []) (by decide) (by decide) (by
      rw [show (impP []).1 = [] by decide, fairP_nil]; decide))
theorem bad_5 (u : Bs) : declsP (cutP ([99, 58, 32, 100, 123, 59, 125, 101] ++ 59 :: u)) = declsP (cutP u) := by
  show declsP (cutP (99 :: 58 :: 32 :: 100 :: 123 :: 59 :: 125 :: 101 :: 59 :: u)) = _
  rw [cut_let _ (by decide) stop_58, cut_sole _ (by decide), blank_let _ (by decide) stop_123, cut_let _ (by decide) stop_123, cut_sole _ (by decide), cut_sole _ (by decide), cut_sole _ (by decide), cut_let _ (by decide) stop_59, cut_sole _ (by decide)]
  have hc : ∀ X, closeP [closerP tkO.raw] (tkS :: tkC :: X) = some 2 := fun X => by
    rw [closeP, if_neg (by decide), if_neg (by decide), closeP, if_neg (by decide), if_pos (by decide), if_pos (by decide)]
    rfl
  have hl : ∀ X, blkLen tkO (tkS :: tkC :: X) = 3 := fun X => by unfold blkLen; rw [hc]
  exact none_read (B := [tkL 99, tkD, tkB, tkL 100, tkO, tkS, tkC, tkL 101]) (by simp) (by
    simp only [List.cons_append, List.nil_append]
    rw [findP_cons, if_neg (by decide), if_neg (by decide), findP_cons, if_neg (by decide), if_neg (by decide), findP_cons, if_neg (by decide), if_neg (by decide), findP_cons, if_neg (by decide), if_neg (by decide), findP_cons, if_neg (by decide), if_pos (by decide), hl]
    simp only [List.drop_succ_cons, List.drop_zero]
    rw [findP_cons, if_neg (by decide), if_neg (by decide), findP_cons, if_pos (by decide)]; rfl)
    (decl_val (t := tkL 99) (r := [tkD, tkB, tkL 100, tkO, tkS, tkC, tkL 101]) (c := tkD) (r' := [tkB, tkL 100, tkO, tkS, tkC, tkL 101]) (by decide) (by decide) (by
      rw [show (impP [tkB, tkL 100, tkO, tkS, tkC, tkL 101]).1 = [tkL 100, tkO, tkS, tkC, tkL 101] by decide, fairP_cons, if_neg (by decide), if_neg (by decide), fairP_cons, if_pos (by decide)]; rfl))
theorem bad_6 (u : Bs) : declsP (cutP ([58] ++ 59 :: u)) = declsP (cutP u) := by
  show declsP (cutP (58 :: 59 :: u)) = _
  rw [cut_sole _ (by decide), cut_sole _ (by decide)]
  exact none_read (B := [tkD]) (by simp) (by simp only [List.cons_append, List.nil_append]; rw [findP_cons, if_neg (by decide), if_neg (by decide), findP_cons, if_pos (by decide)]; rfl) (by decide)
theorem bad_7 (u : Bs) : declsP (cutP ([97, 32, 98, 58, 32, 99] ++ 59 :: u)) = declsP (cutP u) := by
  show declsP (cutP (97 :: 32 :: 98 :: 58 :: 32 :: 99 :: 59 :: u)) = _
  rw [cut_let _ (by decide) stop_32, blank_let _ (by decide) stop_58, cut_let _ (by decide) stop_58, cut_sole _ (by decide), blank_let _ (by decide) stop_59, cut_let _ (by decide) stop_59, cut_sole _ (by decide)]
  exact none_read (B := [tkL 97, tkB, tkL 98, tkD, tkB, tkL 99]) (by simp) (by
    simp only [List.cons_append, List.nil_append]
    rw [findP_cons, if_neg (by decide), if_neg (by decide), findP_cons, if_neg (by decide), if_neg (by decide), findP_cons, if_neg (by decide), if_neg (by decide), findP_cons, if_neg (by decide), if_neg (by decide), findP_cons, if_neg (by decide), if_neg (by decide), findP_cons, if_neg (by decide), if_neg (by decide), findP_cons, if_pos (by decide)]; rfl)
    (decl_colon (t := tkL 97) (r := [tkB, tkL 98, tkD, tkB, tkL 99]) (c := tkL 98) (r' := [tkD, tkB, tkL 99]) (by decide) (by decide) (by decide))
theorem first_note (u : Bs) : firstP (47 :: 42 :: 32 :: 59 :: 32 :: 42 :: 47 :: 59 :: u) = ⟨9, [47, 42, 32, 59, 32, 42, 47], [], 0⟩ := by
  have hsp : ¬ 0 < spaceP (47 :: 42 :: 32 :: 59 :: 32 :: 42 :: 47 :: 59 :: u) := by
    unfold spaceP
    rw [List.takeWhile_cons_of_neg (by decide)]
    simp
  have hi : Lib.index (32 :: 59 :: 32 :: 42 :: 47 :: 59 :: u) [42, 47] = 3 := by
    have h1 : Lib.index [32, 59, 32, 42, 47] [42, 47] = 3 := by decide
    have := index_ext [32, 59, 32, 42, 47] (59 :: u) (by rw [h1]; decide)
    rw [h1] at this
    exact this
  rw [firstP, if_neg hsp, if_pos (by simp [Lib.hasPrefix, List.isPrefixOf])]
  simp only [noteP, List.drop_succ_cons, List.drop_zero, hi]
  rfl
theorem bad_8 (u : Bs) : declsP (cutP ([47, 42, 32, 59, 32, 42, 47] ++ 59 :: u)) = declsP (cutP u) := by
  show declsP (cutP (47 :: 42 :: 32 :: 59 :: 32 :: 42 :: 47 :: 59 :: u)) = _
  have h1 : cutP (47 :: 42 :: 32 :: 59 :: 32 :: 42 :: 47 :: 59 :: u) = ⟨9, [47, 42, 32, 59, 32, 42, 47], [], 0⟩ :: cutP (59 :: u) := by
    rw [cutP_cons (by simp), first_note]
    rfl
  rw [h1, cut_sole _ (by decide)]
  exact none_read (B := [⟨9, [47, 42, 32, 59, 32, 42, 47], [], 0⟩]) (by simp) (by simp only [List.cons_append, List.nil_append]; rw [findP_cons, if_neg (by decide), if_neg (by decide), findP_cons, if_pos (by decide)]; rfl) (by decide)
theorem bad_9 (u : Bs) : declsP (cutP ([97, 58, 32, 40, 93, 41] ++ 59 :: u)) = declsP (cutP u) := by
  show declsP (cutP (97 :: 58 :: 32 :: 40 :: 93 :: 41 :: 59 :: u)) = _
  rw [cut_let _ (by decide) stop_58, cut_sole _ (by decide), blank_sole _ (by decide), cut_sole _ (by decide), cut_sole _ (by decide), cut_sole _ (by decide), cut_sole _ (by decide)]
  have hc : ∀ X, closeP [closerP (tkSign 10 40).raw] (tkSign 11 93 :: tkSign 11 41 :: X) = some 2 := fun X => by
    rw [closeP, if_neg (by decide), if_neg (by decide), closeP, if_neg (by decide), if_pos (by decide), if_pos (by decide)]
    rfl
  have hl : ∀ X, blkLen (tkSign 10 40) (tkSign 11 93 :: tkSign 11 41 :: X) = 3 := fun X => by unfold blkLen; rw [hc]
  have hk : ∀ X, blkOk (tkSign 10 40) (tkSign 11 93 :: tkSign 11 41 :: X) = true := fun X => by unfold blkOk; rw [hc]; rfl
  exact none_read (B := [tkL 97, tkD, tkB, tkSign 10 40, tkSign 11 93, tkSign 11 41]) (by simp) (by
    simp only [List.cons_append, List.nil_append]
    rw [findP_cons, if_neg (by decide), if_neg (by decide), findP_cons, if_neg (by decide), if_neg (by decide), findP_cons, if_neg (by decide), if_neg (by decide), findP_cons, if_neg (by decide), if_pos (by decide), hl]
    simp only [List.drop_succ_cons, List.drop_zero]
    rw [findP_cons, if_pos (by decide)]; rfl)
    (decl_val (t := tkL 97) (r := [tkD, tkB, tkSign 10 40, tkSign 11 93, tkSign 11 41]) (c := tkD) (r' := [tkB, tkSign 10 40, tkSign 11 93, tkSign 11 41]) (by decide) (by decide) (by
      rw [show (impP [tkB, tkSign 10 40, tkSign 11 93, tkSign 11 41]).1 = [tkSign 10 40, tkSign 11 93, tkSign 11 41] by decide, fairP_cons, if_neg (by decide), if_pos (by decide), hk, if_pos rfl, hl]
      simp only [List.take_succ_cons, List.take_zero]
      rw [fairP_cons, if_pos (by decide)]
      rfl))
theorem bad_10 (u : Bs) : declsP (cutP ([97, 58, 32, 125] ++ 59 :: u)) = declsP (cutP u) := by
  show declsP (cutP (97 :: 58 :: 32 :: 125 :: 59 :: u)) = _
  rw [cut_let _ (by decide) stop_58, cut_sole _ (by decide), blank_sole _ (by decide), cut_sole _ (by decide), cut_sole _ (by decide)]
  exact none_read (B := [tkL 97, tkD, tkB, tkC]) (by simp) (by
    simp only [List.cons_append, List.nil_append]
    rw [findP_cons, if_neg (by decide), if_neg (by decide), findP_cons, if_neg (by decide), if_neg (by decide), findP_cons, if_neg (by decide), if_neg (by decide), findP_cons, if_neg (by decide), if_neg (by decide), findP_cons, if_pos (by decide)]; rfl)
    (decl_val (t := tkL 97) (r := [tkD, tkB, tkC]) (c := tkD) (r' := [tkB, tkC]) (by decide) (by decide) (by
      rw [show (impP [tkB, tkC]).1 = [tkC] by decide, fairP_cons, if_pos (by decide)]; rfl))
theorem first_back (r : Bs) : firstP (92 :: 10 :: r) = ⟨6, [92], [], 0⟩ := by
  have hsp : ¬ 0 < spaceP (92 :: 10 :: r) := by
    unfold spaceP
    rw [List.takeWhile_cons_of_neg (by decide)]
    simp
  have hq : ¬ quoteP (92 :: 10 :: r) = true := by simp only [quoteP]; decide
  have hh : ¬ hashP (92 :: 10 :: r) = true := by
    simp only [hashP, show ¬ nv 92 = 35 by decide, decide_false, Bool.false_and]
    simp
  have ha : ¬ atP (92 :: 10 :: r) = true := by
    simp only [atP, show ¬ nv 92 = 64 by decide, decide_false, Bool.false_and]
    simp
  have hn : ¬ 0 < (numberP (92 :: 10 :: r)).2 := by rw [number_no (by decide) (by decide) (by decide) (by decide)]; simp
  have hb : ¬ beginsP (92 :: 10 :: r) = true := by
    rw [beginsP, if_neg (by decide)]
    simp only [escP]
    decide
  rw [firstP, if_neg hsp, if_neg (by simp [Lib.hasPrefix, List.isPrefixOf]), if_neg hq, if_neg hh, if_neg ha, if_neg hn, if_neg hb]
  rfl
theorem bad_11 (u : Bs) : declsP (cutP ([97, 58, 32, 92, 10] ++ 59 :: u)) = declsP (cutP u) := by
  show declsP (cutP (97 :: 58 :: 32 :: 92 :: 10 :: 59 :: u)) = _
  have h1 : cutP (92 :: 10 :: 59 :: u) = ⟨6, [92], [], 0⟩ :: cutP (10 :: 59 :: u) := by
    rw [cutP_cons (by simp), first_back]
    rfl
  rw [cut_let _ (by decide) stop_58, cut_sole _ (by decide), cut_blank (by simp) (by rw [first_back]; decide), h1, space_10, cut_sole _ (by decide)]
  exact none_read (B := [tkL 97, tkD, tkB, ⟨6, [92], [], 0⟩, ⟨8, [10], [], 0⟩]) (by simp) (by
    simp only [List.cons_append, List.nil_append]
    rw [findP_cons, if_neg (by decide), if_neg (by decide), findP_cons, if_neg (by decide), if_neg (by decide), findP_cons, if_neg (by decide), if_neg (by decide), findP_cons, if_neg (by decide), if_neg (by decide), findP_cons, if_neg (by decide), if_neg (by decide), findP_cons, if_pos (by decide)]; rfl)
    (decl_val (t := tkL 97) (r := [tkD, tkB, ⟨6, [92], [], 0⟩]) (c := tkD) (r' := [tkB, ⟨6, [92], [], 0⟩]) (by decide) (by decide) (by
      rw [show (impP [tkB, ⟨6, [92], [], 0⟩]).1 = [⟨6, [92], [], 0⟩] by decide, fairP_cons, if_pos (by decide)]; rfl))

/-- the law's bad ones -/
def badD : Nat → Bs
  | 0 => [120] | 1 => [49, 58, 32, 50] | 2 => [97, 58, 32, 93] | 3 => [97, 58, 32, 39, 98, 10] | 4 => [98, 58] | 5 => [99, 58, 32, 100, 123, 59, 125, 101]
  | 6 => [58] | 7 => [97, 32, 98, 58, 32, 99] | 8 => [47, 42, 32, 59, 32, 42, 47] | 9 => [97, 58, 32, 40, 93, 41] | 10 => [97, 58, 32, 125] | _ => [97, 58, 32, 92, 10]
theorem bad_all : ∀ (i : Nat), i < 12 → ∀ u, declsP (cutP (badD i ++ 59 :: u)) = declsP (cutP u)
  | 0, _, u => bad_0 u | 1, _, u => bad_1 u | 2, _, u => bad_2 u | 3, _, u => bad_3 u | 4, _, u => bad_4 u | 5, _, u => bad_5 u
  | 6, _, u => bad_6 u | 7, _, u => bad_7 u | 8, _, u => bad_8 u | 9, _, u => bad_9 u | 10, _, u => bad_10 u | 11, _, u => bad_11 u
  | n + 12, h, _ => by omega
theorem decl_spoils {s : Bs} {ds : List Dc} (h : DeclsP s = some ds) (i : Nat) (hi : i < 12) (u : Bs) : declsP (cutP (dTexts ds ++ (badD i ++ 59 :: u))) = ds ++ declsP (cutP u) := by
  rw [told_all ds (Decls_told h).1, bad_all i hi]

end Go.Proofs.YtaihncbejhnceaaDoor.rul

namespace Go.Proofs.YtaihncbejhnceaaDoor.rul
open Go.RowKit Go.Proofs.YtaihncbejhnceaaDoor.base Go.Proofs.YtaihncbejhnceaaDoor.tok
set_option linter.unusedVariables false

/-- all of it is silent -/
def Sil (A : List Tk) : Prop := ∀ t ∈ A, silP t = true
theorem endP_sil : ∀ (C M : List Tk), Sil C → endP (M ++ C) = endP M
  | [], M, _ => by rw [List.append_nil]
  | c :: C, M, h => by
    rw [show M ++ c :: C = (M ++ [c]) ++ C by simp, endP_sil C (M ++ [c]) (fun t ht => h t (by simp [ht])), endP_snoc, if_pos (h c (by simp))]
theorem drop_sil : ∀ (A M : List Tk), Sil A → (A ++ M).dropWhile silP = M.dropWhile silP
  | [], M, _ => rfl
  | a :: A, M, h => by
    rw [List.cons_append, List.dropWhile_cons_of_pos (h a (by simp)), drop_sil A M (fun t ht => h t (by simp [ht]))]
theorem solid_of {A M C : List Tk} (hA : Sil A) (hM : Solid M) (hC : Sil C) : solidP (A ++ M ++ C) = M := by
  have h0 := solid_id hM
  unfold solidP at h0 ⊢
  rw [List.append_assoc, drop_sil A _ hA]
  cases M with
  | nil =>
    have : C.dropWhile silP = [] := by
      have := drop_sil C [] hC
      rwa [List.append_nil] at this
    rw [List.nil_append, this]
    rfl
  | cons a M =>
    have ha := hM.1 a rfl
    rw [List.cons_append, List.dropWhile_cons_of_neg (by simp [ha]), ← List.cons_append, endP_sil C _ hC]
    rwa [List.dropWhile_cons_of_neg (by simp [ha])] at h0
theorem fa_list : ∀ (Z : List Tk), (Z.all fun t => !badP t && !opensP t && !decide (t.k = 11) && !semiP t) = true → Fa (fun t => !semiP t) Z
  | [], _ => .nil _
  | t :: Z, h => by
    simp only [List.all_cons, Bool.and_eq_true, Bool.not_eq_true', decide_eq_false_iff_not, badP] at h
    obtain ⟨⟨⟨⟨h1, h2⟩, h3⟩, h4⟩, h5⟩ := h
    exact .cons _ t Z h1 h2 h3 (by simp [h4]) (fa_list Z (by simpa [badP] using h5))
theorem solid_two {a b : Tk} {L : List Tk} (ha : silP a = false) (hb : silP b = false) : Solid (a :: (L ++ [b])) := by
  refine ⟨fun t ht => ?_, fun t ht => ?_⟩
  · obtain rfl : a = t := by simpa using ht
    exact ha
  · rw [show a :: (L ++ [b]) = (a :: L) ++ [b] by simp, List.getLast?_concat] at ht
    obtain rfl : b = t := by simpa using ht
    exact hb
theorem solid_snoc {Q L : List Tk} {b : Tk} (hQ : Solid Q) (h0 : Q ≠ []) (hb : silP b = false) : Solid (Q ++ L ++ [b]) := by
  cases Q with
  | nil => exact absurd rfl h0
  | cons a K =>
    rw [List.cons_append, List.cons_append]
    exact solid_two (hQ.1 a rfl) hb

theorem solid_one {b : Tk} (hb : silP b = false) : Solid [b] := by
  constructor <;>
  · intro t ht
    obtain rfl : b = t := by simpa using ht
    exact hb
theorem sil_one {b : Tk} (hb : silP b = true) : Sil [b] := fun t ht => by
  obtain rfl : t = b := by simpa using ht
  exact hb
/-- a value with such a mark behind -/
theorem imp_marked {Q Z A B : List Tk} {mk im : Tk} (hQ : Solid Q) (hZ : Sil Z) (hA : Sil A) (hB : Sil B) (hmk : markP mk = true) (him : im.k = 1) (hfo : Lib.equalFold im.val impW = true) : impP (Z ++ (Q ++ A ++ mk :: (B ++ [im]))) = (Q, true) := by
  have hm0 : silP mk = false := by
    simp only [markP, rawP, Bool.and_eq_true, decide_eq_true_eq] at hmk
    simp [silP, hmk.1]
  have hi0 : silP im = false := by simp [silP, him]
  have hnil : Sil ([] : List Tk) := fun t ht => by cases ht
  unfold impP
  by_cases h0 : Q = []
  · subst h0
    have e : solidP (Z ++ ([] ++ A ++ mk :: (B ++ [im]))) = mk :: (B ++ [im]) := by
      have := solid_of (A := Z ++ A) (M := mk :: (B ++ [im])) (C := []) (fun t ht => by
        rcases List.mem_append.1 ht with h | h
        · exact hZ t h
        · exact hA t h) (solid_two hm0 hi0) hnil
      simpa using this
    have e2 : solidP (mk :: B) = [mk] := by
      have := solid_of (A := []) (M := [mk]) (C := B) hnil (solid_one hm0) hB
      simpa using this
    rw [e, show mk :: (B ++ [im]) = (mk :: B) ++ [im] by simp, imp_snoc _ _ (by simp), if_pos ⟨him, hfo⟩, e2]
    simp only [List.getLast?_singleton]
    rw [if_pos hmk]
    rfl
  · have e : solidP (Z ++ (Q ++ A ++ mk :: (B ++ [im]))) = Q ++ A ++ mk :: (B ++ [im]) := by
      have := solid_of (A := Z) (M := Q ++ (A ++ mk :: B) ++ [im]) (C := []) hZ (solid_snoc hQ h0 hi0) hnil
      simpa using this
    have e2 : solidP (Q ++ A ++ mk :: B) = Q ++ A ++ [mk] := by
      have := solid_of (A := []) (M := Q ++ A ++ [mk]) (C := B) hnil (solid_snoc hQ h0 hm0) hB
      simpa using this
    have e3 : solidP (Q ++ A) = Q := by
      have := solid_of (A := []) (M := Q) (C := A) hnil hQ hA
      simpa using this
    rw [e, show Q ++ A ++ mk :: (B ++ [im]) = (Q ++ A ++ mk :: B) ++ [im] by simp, imp_snoc _ _ (by simp; omega), if_pos ⟨him, hfo⟩, e2]
    simp only [List.getLast?_append, List.getLast?_singleton, Option.some_or, List.dropLast_concat]
    rw [if_pos hmk, e3]

/-! ### the marks -/
theorem cut_spaces (sp : Bs) (h0 : sp ≠ []) (h : ∀ x ∈ sp, blankB x = true) (c : UInt8) (hc : blankB c = false) (m : Bs) : cutP (sp ++ c :: m) = ⟨8, sp, [], 0⟩ :: cutP (c :: m) := by
  have hsp : spaceP (sp ++ c :: m) = sp.length := by
    unfold spaceP
    have key : ∀ l : Bs, (∀ x ∈ l, blankB x = true) → ((l ++ c :: m).takeWhile blankB) = l := by
      intro l
      induction l with
      | nil => intro _; rw [List.nil_append, List.takeWhile_cons_of_neg (by simp [hc])]
      | cons a l ih =>
        intro hl
        rw [List.cons_append, List.takeWhile_cons_of_pos (hl a (by simp)), ih (fun x hx => hl x (by simp [hx]))]
    rw [key sp h]
  have hp := List.length_pos_iff.2 h0
  have hf : firstP (sp ++ c :: m) = ⟨8, sp, [], 0⟩ := by
    rw [firstP, hsp, if_pos hp, List.take_left]
  rw [cutP_cons (by simp [h0]), hf]
  simp only [List.drop_left]
theorem cut_noted (b r : Bs) {k : Nat} (hi : Lib.index b [42, 47] = (k : Int)) (hb : b.length = k + 2) : cutP (47 :: 42 :: (b ++ r)) = ⟨9, 47 :: 42 :: b, [], 0⟩ :: cutP r := by
  have hsp : ¬ 0 < spaceP (47 :: 42 :: (b ++ r)) := by
    unfold spaceP
    rw [List.takeWhile_cons_of_neg (by decide)]
    simp
  have hix : Lib.index (b ++ r) [42, 47] = (k : Int) := by
    rw [index_ext b r (by rw [hi]; omega), hi]
  have hf : firstP (47 :: 42 :: (b ++ r)) = ⟨9, 47 :: 42 :: b, [], 0⟩ := by
    rw [firstP, if_neg hsp, if_pos (by simp [Lib.hasPrefix, List.isPrefixOf])]
    simp only [noteP, List.drop_succ_cons, List.drop_zero, hix]
    rw [if_pos (by omega), Int.toNat_natCast, show k + 4 = b.length + 1 + 1 by omega]
    simp only [List.take_succ_cons, List.take_left]
  rw [cutP_cons (by simp), hf]
  simp only [List.length_cons, List.drop_succ_cons, List.drop_left]
def impU : Bs := [73, 77, 80, 79, 82, 84, 65, 78, 84]
def impX : Bs := [73, 109, 80, 111, 114, 116, 97, 110, 116]
theorem cut_impU : cutP impU = [⟨1, impU, impU, 0⟩] := by
  have hn : nameP impU = (impU, 9) := by
    unfold impU
    iterate 8 rw [name_cons2, if_neg (by decide), if_pos (by decide)]
    rw [name_cons1, if_pos (by decide)]
  have h1 : namedP 1 impU 0 = ⟨1, impU, impU, 0⟩ := by
    simp only [namedP, List.drop_zero, hn]
    rfl
  have hw : wordP impU = ⟨1, impU, impU, 0⟩ := by
    simp only [wordP, h1]
    decide
  have hf : firstP impU = ⟨1, impU, impU, 0⟩ := by
    rw [firstP, if_neg (by decide), if_neg (by decide), if_neg (by decide), if_neg (by decide), if_neg (by decide), if_neg (by decide), if_pos (by decide), hw]
  rw [cutP_cons (by decide), hf]
  simp [cutP_nil]
theorem cut_impX : cutP impX = [⟨1, impX, impX, 0⟩] := by
  have hn : nameP impX = (impX, 9) := by
    unfold impX
    iterate 8 rw [name_cons2, if_neg (by decide), if_pos (by decide)]
    rw [name_cons1, if_pos (by decide)]
  have h1 : namedP 1 impX 0 = ⟨1, impX, impX, 0⟩ := by
    simp only [namedP, List.drop_zero, hn]
    rfl
  have hw : wordP impX = ⟨1, impX, impX, 0⟩ := by
    simp only [wordP, h1]
    decide
  have hf : firstP impX = ⟨1, impX, impX, 0⟩ := by
    rw [firstP, if_neg (by decide), if_neg (by decide), if_neg (by decide), if_neg (by decide), if_neg (by decide), if_neg (by decide), if_pos (by decide), hw]
  rw [cutP_cons (by decide), hf]
  simp [cutP_nil]
theorem word_stop {W : Bs} (h : cutP W = [⟨1, W, W, 0⟩]) (h0 : W ≠ []) (s : UInt8) (hS : st.Stop s) (m : Bs) : cutP (W ++ s :: m) = ⟨1, W, W, 0⟩ :: cutP (s :: m) := by
  rw [st.cut_apart hS m _ W (Nat.le_refl _) h0 (fun t ht => by
    rw [h] at ht
    obtain rfl : _ = t := by simpa using ht
    exact ⟨by simp, by simp, by simp⟩), h]
  rfl
def markD : Nat → Bs
  | 0 => 33 :: impW
  | 1 => 32 :: 33 :: 32 :: (impU ++ [32])
  | 2 => 47 :: 42 :: 42 :: 47 :: 33 :: 47 :: 42 :: 32 :: 120 :: 32 :: 42 :: 47 :: impW
  | _ => 10 :: 33 :: 10 :: (impX ++ [10])
/-- what a mark is cut into, and what is silent ahead of it where no value is -/
theorem mark_cut (i : Nat) (hi : i < 4) : ∃ (s : UInt8) (m : Bs) (Z A B C : List Tk) (im : Tk), markD i ++ [59] = s :: m ∧ st.Stop s ∧ Sil Z ∧ Sil A ∧ Sil B ∧ Sil C ∧ im.k = 1 ∧ Lib.equalFold im.val impW = true ∧
    (tkM :: (B ++ im :: C)).all (fun t => !badP t && !opensP t && !decide (t.k = 11) && !semiP t) = true ∧
    cutP (s :: m) = A ++ tkM :: (B ++ im :: (C ++ [tkS])) ∧ cutP (32 :: s :: m) = Z ++ tkM :: (B ++ im :: (C ++ [tkS])) ∧
    (Z.all fun t => !badP t && !opensP t && !decide (t.k = 11) && !semiP t) = true ∧ (A.all fun t => !badP t && !opensP t && !decide (t.k = 11) && !semiP t) = true := by
  have h59 : cutP [59] = [tkS] := by rw [cut_sole [] (by decide), cutP_nil]; rfl
  have hsil : ∀ t : Tk, silP t = true → Sil [t] := fun t ht x hx => by
    obtain rfl : x = t := by simpa using hx
    exact ht
  have hnil : Sil ([] : List Tk) := fun t ht => by cases ht
  match i, hi with
  | 0, _ =>
    have h1 : cutP (33 :: (impW ++ [59])) = [tkM, tkI, tkS] := by
      rw [cut_sole _ (by decide), word_stop cut_imp (by decide) 59 stop_59, h59]; rfl
    refine ⟨33, impW ++ [59], [tkB], [], [], [], tkI, rfl, stop_33, hsil _ rfl, hnil, hnil, hnil, rfl, by decide, by decide, h1, ?_, by decide, by decide⟩
    rw [blank_sole _ (by decide), h1]
    rfl
  | 1, _ =>
    have h3 : cutP (impU ++ 32 :: [59]) = [⟨1, impU, impU, 0⟩, tkB, tkS] := by
      rw [word_stop cut_impU (by decide) 32 stop_32, blank_sole _ (by decide), h59]
    have h2 : cutP (33 :: 32 :: (impU ++ 32 :: [59])) = [tkM, tkB, ⟨1, impU, impU, 0⟩, tkB, tkS] := by
      rw [cut_sole _ (by decide), cut_blank (by decide) (by
        rw [cutP_cons (by decide)] at h3
        injection h3 with h4 _
        rw [h4]; decide), h3]
      rfl
    refine ⟨32, 33 :: 32 :: (impU ++ 32 :: [59]), [⟨8, [32, 32], [], 0⟩], [tkB], [tkB], [tkB], ⟨1, impU, impU, 0⟩, ?_, stop_32, hsil _ rfl, hsil _ rfl, hsil _ rfl, hsil _ rfl, rfl, by decide, by decide, ?_, ?_, by decide, by decide⟩
    · simp [markD]
    · rw [blank_sole _ (by decide), h2]
      rfl
    · rw [show (32 :: 32 :: 33 :: 32 :: (impU ++ 32 :: [59]) : Bs) = [32, 32] ++ 33 :: (32 :: (impU ++ 32 :: [59])) by rfl, cut_spaces [32, 32] (by decide) (by decide) 33 (by decide), h2]
      rfl
  | 2, _ =>
    have h3 : cutP (47 :: 42 :: 32 :: 120 :: 32 :: 42 :: 47 :: (impW ++ [59])) = [⟨9, [47, 42, 32, 120, 32, 42, 47], [], 0⟩, tkI, tkS] := by
      rw [show (47 :: 42 :: 32 :: 120 :: 32 :: 42 :: 47 :: (impW ++ [59]) : Bs) = 47 :: 42 :: ([32, 120, 32, 42, 47] ++ (impW ++ [59])) by rfl, cut_noted [32, 120, 32, 42, 47] (impW ++ [59]) (k := 3) (by decide) rfl, word_stop cut_imp (by decide) 59 stop_59, h59]
    have h2 : cutP (33 :: 47 :: 42 :: 32 :: 120 :: 32 :: 42 :: 47 :: (impW ++ [59])) = [tkM, ⟨9, [47, 42, 32, 120, 32, 42, 47], [], 0⟩, tkI, tkS] := by
      rw [cut_sole _ (by decide), h3]
      rfl
    have h1 : cutP (47 :: 42 :: 42 :: 47 :: 33 :: 47 :: 42 :: 32 :: 120 :: 32 :: 42 :: 47 :: (impW ++ [59])) = [⟨9, [47, 42, 42, 47], [], 0⟩, tkM, ⟨9, [47, 42, 32, 120, 32, 42, 47], [], 0⟩, tkI, tkS] := by
      rw [show (47 :: 42 :: 42 :: 47 :: 33 :: 47 :: 42 :: 32 :: 120 :: 32 :: 42 :: 47 :: (impW ++ [59]) : Bs) = 47 :: 42 :: ([42, 47] ++ (33 :: 47 :: 42 :: 32 :: 120 :: 32 :: 42 :: 47 :: (impW ++ [59]))) by rfl, cut_noted [42, 47] _ (k := 0) (by decide) rfl, h2]
    refine ⟨47, 42 :: 42 :: 47 :: 33 :: 47 :: 42 :: 32 :: 120 :: 32 :: 42 :: 47 :: (impW ++ [59]), [tkB, ⟨9, [47, 42, 42, 47], [], 0⟩], [⟨9, [47, 42, 42, 47], [], 0⟩], [⟨9, [47, 42, 32, 120, 32, 42, 47], [], 0⟩], [], tkI, by simp [markD], by unfold st.Stop; decide, ?_, hsil _ rfl, hsil _ rfl, hnil, rfl, by decide, by decide, h1, ?_, by decide, by decide⟩
    · intro t ht
      simp only [List.mem_cons, List.not_mem_nil, or_false] at ht
      rcases ht with rfl | rfl <;> rfl
    · rw [cut_blank (by decide) (by
        rw [cutP_cons (by decide)] at h1
        injection h1 with h4 _
        rw [h4]; decide), h1]
      rfl
  | 3, _ =>
    have h3 : cutP (impX ++ 10 :: [59]) = [⟨1, impX, impX, 0⟩, ⟨8, [10], [], 0⟩, tkS] := by
      rw [word_stop cut_impX (by decide) 10 stop_10, space_10, h59]
    have h2 : cutP (33 :: 10 :: (impX ++ 10 :: [59])) = [tkM, ⟨8, [10], [], 0⟩, ⟨1, impX, impX, 0⟩, ⟨8, [10], [], 0⟩, tkS] := by
      rw [cut_sole _ (by decide), show (10 :: (impX ++ 10 :: [59]) : Bs) = [10] ++ 73 :: ([109, 80, 111, 114, 116, 97, 110, 116] ++ 10 :: [59]) by rfl, cut_spaces [10] (by decide) (by decide) 73 (by decide)]
      rw [show (73 :: ([109, 80, 111, 114, 116, 97, 110, 116] ++ 10 :: [59]) : Bs) = impX ++ 10 :: [59] by rfl, h3]
      rfl
    refine ⟨10, 33 :: 10 :: (impX ++ 10 :: [59]), [⟨8, [32, 10], [], 0⟩], [⟨8, [10], [], 0⟩], [⟨8, [10], [], 0⟩], [⟨8, [10], [], 0⟩], ⟨1, impX, impX, 0⟩, ?_, stop_10, hsil _ rfl, hsil _ rfl, hsil _ rfl, hsil _ rfl, rfl, by decide, by decide, ?_, ?_, by decide, by decide⟩
    · simp [markD]
    · rw [show (10 :: 33 :: 10 :: (impX ++ 10 :: [59]) : Bs) = [10] ++ 33 :: (10 :: (impX ++ 10 :: [59])) by rfl, cut_spaces [10] (by decide) (by decide) 33 (by decide), h2]
      rfl
    · rw [show (32 :: 10 :: 33 :: 10 :: (impX ++ 10 :: [59]) : Bs) = [32, 10] ++ 33 :: (10 :: (impX ++ 10 :: [59])) by rfl, cut_spaces [32, 10] (by decide) (by decide) 33 (by decide), h2]
      rfl
  | n + 4, h => omega

def markText (d : Dc) (i : Nat) : Bs := d.name ++ [32, 58, 32] ++ d.val ++ markD i ++ [59]
theorem told_marked {N : Nat} {d : Dc} (h : Told N d) (i : Nat) (hi : i < 4) : declsP (cutP (markText d i)) = [⟨d.name, d.val, true⟩] := by
  obtain ⟨V, post, hc, hfa, hs, hv, hpl, hnm, hown, _, _, _⟩ := h
  obtain ⟨x, hx⟩ := plain_stop hpl stop_32
  have hraw : ∀ x ∈ V, x.raw ≠ [] := fun x hx => by
    have := cut_full (textOf (V ++ post)) x
    rw [hc] at this
    exact this (by simp [hx])
  obtain ⟨s, m, Z, A, B, C, im, hmk, hS, hZ, hA, hB, hC, him, hfo, hall, hcut, hcut0, hZa, hAa⟩ := mark_cut i hi
  have hi0 : silP im = false := by simp [silP, him]
  have hsq := fa_sq hfa (by decide) false
  have hQ := sq_solid hs
  have hv2 := head_again hs hraw
  have e : markText d i = d.name ++ 32 :: (58 :: (32 :: (headP V ++ s :: m))) := by
    unfold markText
    rw [hv]
    rw [show d.name ++ [32, 58, 32] ++ headP V ++ markD i ++ [59] = d.name ++ [32, 58, 32] ++ headP V ++ (markD i ++ [59]) by simp, hmk]
    simp
  -- one shape, whether there is a value or none
  have hsh : ∃ Z' A' : List Tk, Sil Z' ∧ Sil A' ∧ (Z'.all fun t => !badP t && !opensP t && !decide (t.k = 11) && !semiP t) = true ∧ (A'.all fun t => !badP t && !opensP t && !decide (t.k = 11) && !semiP t) = true ∧
      cutP (32 :: (headP V ++ s :: m)) = Z' ++ (sqF false V ++ A' ++ tkM :: (B ++ [im])) ++ C ++ [tkS] := by
    by_cases h0 : V = []
    · subst h0
      refine ⟨Z, [], hZ, (fun t ht => by cases ht), hZa, rfl, ?_⟩
      show cutP (32 :: s :: m) = _
      rw [hcut0]
      simp [sqF]
    · refine ⟨[tkB], A, fun t ht => by
        obtain rfl : t = tkB := by simpa using ht
        rfl, hA, by decide, hAa, ?_⟩
      have hX := val_cut hc (fa_bad hfa) hs hS m
      rw [cut_blank (by simp) ?_, hX, hcut]
      · simp
      · intro hk
        rw [cutP_cons (by simp)] at hX
        cases hq : sqF false V with
        | nil => exact h0 (sq_nil hs hq)
        | cons a K =>
          rw [hq] at hX
          injection hX with h1 h2
          have := hQ.1 a (by rw [hq]; rfl)
          rw [← h1] at this
          simp only [silP, hk, decide_true, Bool.true_or] at this
          cases this
  obtain ⟨Z', A', hZ', hA', hZb, hAb, hsh⟩ := hsh
  rw [e, hx, blank_sole _ (by decide), cut_sole _ (by decide), hsh]
  have himp := imp_marked (mk := tkM) hQ hZ' hA' hB (by decide) him hfo
  generalize hq : sqF false V = Q at *
  have hP : Fa (fun t => !semiP t) (tkN d.name x :: tkB :: tkD :: (Z' ++ (Q ++ A' ++ tkM :: (B ++ [im])) ++ C)) := by
    refine .cons _ _ _ (by simp) (by simp [opensP]) (by simp) (by simp [semiP, rawP]) (.cons _ _ _ (by decide) (by decide) (by decide) (by decide) (.cons _ _ _ (by decide) (by decide) (by decide) (by decide) ?_))
    have h1 := fa_list _ hall
    rw [show Z' ++ (Q ++ A' ++ tkM :: (B ++ [im])) ++ C = Z' ++ (Q ++ (A' ++ (tkM :: (B ++ im :: C)))) by simp]
    exact fa_app (fa_list _ hZb) (fa_app hsq (fa_app (fa_list _ hAb) h1))
  have hd : declP (tkN d.name x :: tkB :: tkD :: (Z' ++ (Q ++ A' ++ tkM :: (B ++ [im])) ++ C)) = (⟨d.name, d.val, true⟩, true) := by
    have hn0 : silP (tkN d.name x) = false := by simp [silP]
    have hnil : Sil ([] : List Tk) := fun t ht => by cases ht
    have h1 : solidP (tkN d.name x :: tkB :: tkD :: (Z' ++ (Q ++ A' ++ tkM :: (B ++ [im])) ++ C)) = tkN d.name x :: tkB :: tkD :: (Z' ++ (Q ++ A' ++ tkM :: (B ++ [im]))) := by
      have := solid_of (A := []) (M := tkN d.name x :: ((tkB :: tkD :: (Z' ++ (Q ++ A' ++ tkM :: B))) ++ [im])) (C := C) hnil (solid_two hn0 hi0) hC
      simpa using this
    have h2 : solidP (tkB :: tkD :: (Z' ++ (Q ++ A' ++ tkM :: (B ++ [im])))) = tkD :: (Z' ++ (Q ++ A' ++ tkM :: (B ++ [im]))) := by
      have := solid_of (A := [tkB]) (M := tkD :: ((Z' ++ (Q ++ A' ++ tkM :: B)) ++ [im])) (C := []) (fun t ht => by
        obtain rfl : t = tkB := by simpa using ht
        rfl) (solid_two rfl hi0) hnil
      simpa using this
    unfold declP
    rw [h1]
    unfold declM
    simp only [if_true]
    rw [h2]
    simp only [declB]
    rw [hnm, hpl, if_pos (by decide), himp]
    simp only
    rw [hv2, fa_fair hsq, ← hv]
    refine Prod.ext rfl ?_
    simp only [Bool.true_and, Bool.or_eq_true, decide_eq_true_eq]
    exact hown
  have hfind : findP semiP ((tkN d.name x :: tkB :: tkD :: (Z' ++ (Q ++ A' ++ tkM :: (B ++ [im])) ++ C)) ++ [tkS]) = (tkN d.name x :: tkB :: tkD :: (Z' ++ (Q ++ A' ++ tkM :: (B ++ [im])) ++ C)).length := by
    rw [find_fa hP semiP (fun t ht => by simpa using ht), findP_cons, if_pos (by decide)]
    rfl
  show declsP ((tkN d.name x :: tkB :: tkD :: (Z' ++ (Q ++ A' ++ tkM :: (B ++ [im])) ++ C)) ++ [tkS]) = _
  generalize tkN d.name x :: tkB :: tkD :: (Z' ++ (Q ++ A' ++ tkM :: (B ++ [im])) ++ C) = P at *
  rw [declsP_cons (by simp), hfind, List.take_left, hd, if_pos rfl]
  rw [show (P ++ [tkS]).drop (P.length + 1) = [] by rw [List.drop_eq_nil_of_le (by simp)], declsP_nil]
  rfl

end Go.Proofs.YtaihncbejhnceaaDoor.rul

namespace Go.Proofs.YtaihncbejhnceaaDoor.rul
open Go.RowKit Go.Proofs.YtaihncbejhnceaaDoor.base Go.Proofs.YtaihncbejhnceaaDoor.tok
set_option linter.unusedVariables false

inductive Hd (q : Tk → Bool) : List Tk → Prop where
  | nil : Hd q []
  | cons (t : Tk) (L : List Tk) : opensP t = false → q t = true → Hd q L → Hd q (t :: L)
  | blk (t : Tk) (I : List Tk) (c : Tk) (L : List Tk) : opensP t = true → q t = true → closeP [closerP t.raw] (I ++ [c]) = some (I.length + 1) → Hd q L → Hd q (t :: (I ++ c :: L))

theorem last_app (st s : List Bs) (h : s ≠ []) : (st ++ s).getLast? = s.getLast? := by
  rw [List.getLast?_append]
  cases hs : s.getLast? with
  | none => exact absurd (List.getLast?_eq_none_iff.1 hs) h
  | some x => rfl
/-- what closes what is open above is the same, whatever is open below -/
theorem close_lift : ∀ (X : List Tk) (s : List Bs) (e : Nat), s ≠ [] → closeP s X = some e → ∀ (st : List Bs) (L : List Tk), st ≠ [] → closeP (st ++ s) (X ++ L) = (closeP st ((X ++ L).drop e)).map (e + ·)
  | [], s, e, h0, h, st, L, hst => by simp [closeP] at h
  | t :: X, s, e, h0, h, st, L, hst => by
    rw [List.cons_append]
    unfold closeP at h
    conv => lhs; unfold closeP
    have mm : ∀ (o : Option Nat) (x : Nat), (o.map (x + ·)).map (· + 1) = o.map (x + 1 + ·) := fun o x => by cases o <;> simp; omega
    split at h
    · rename_i ho
      rw [if_pos ho]
      obtain ⟨x, hx, rfl⟩ := Option.map_eq_some_iff.1 h
      rw [List.append_assoc, close_lift X (s ++ [closerP t.raw]) x (by simp) hx st L hst, mm]
      rfl
    · rename_i ho
      rw [if_neg ho, last_app st s h0]
      split at h
      · rename_i hc
        rw [if_pos hc]
        split at h
        · rename_i hd
          obtain rfl : 1 = e := by simpa using h
          have hdl : (st ++ s).dropLast = st := by rw [List.dropLast_append_of_ne_nil h0, hd, List.append_nil]
          rw [hdl, if_neg hst, List.drop_succ_cons, List.drop_zero]
          congr 1
          funext k; omega
        · rename_i hd
          obtain ⟨x, hx, rfl⟩ := Option.map_eq_some_iff.1 h
          have hdl : (st ++ s).dropLast = st ++ s.dropLast := List.dropLast_append_of_ne_nil h0
          rw [hdl, if_neg (by simp [hst]), close_lift X s.dropLast x hd hx st L hst, mm]
          rfl
      · rename_i hc
        rw [if_neg hc]
        obtain ⟨x, hx, rfl⟩ := Option.map_eq_some_iff.1 h
        rw [close_lift X s x h0 hx st L hst, mm]
        rfl
/-- a head leaves open what was open -/
theorem hd_close {q : Tk → Bool} {A : List Tk} (h : Hd q A) (st : List Bs) (hst : st ≠ []) (hq : ∀ t, q t = true → ¬ (t.k = 11 ∧ st.getLast? = some t.raw)) : ∀ L, closeP st (A ++ L) = (closeP st L).map (A.length + ·) := by
  induction h with
  | nil => intro L; simp
  | cons t K h1 h2 h3 ih =>
    intro L
    rw [List.cons_append, closeP, if_neg (by simp [h1]), if_neg (hq t h2), ih L]
    cases closeP st L <;> simp; omega
  | blk t I c K h1 h2 h3 h4 ih =>
    intro L
    have e1 : (I ++ c :: K) ++ L = (I ++ [c]) ++ (K ++ L) := by simp
    rw [List.cons_append, closeP, if_pos h1, e1, close_lift (I ++ [c]) _ _ (by simp) h3 st _ hst]
    rw [show ((I ++ [c]) ++ (K ++ L)).drop (I.length + 1) = K ++ L from List.drop_left' (by simp), ih L]
    cases closeP st L <;> simp; omega
theorem hd_blk {t c : Tk} {I : List Tk} (h : closeP [closerP t.raw] (I ++ [c]) = some (I.length + 1)) (L : List Tk) : blkLen t (I ++ c :: L) = I.length + 2 ∧ blkOk t (I ++ c :: L) = true := by
  have e := close_more _ L _ _ h
  rw [List.append_assoc, List.singleton_append] at e
  unfold blkLen blkOk
  rw [e]
  exact ⟨rfl, rfl⟩
theorem hd_find {q : Tk → Bool} {A : List Tk} (h : Hd q A) (p : Tk → Bool) (hqp : ∀ t, q t = true → p t = false) : ∀ (L : List Tk), findP p (A ++ L) = A.length + findP p L := by
  induction h with
  | nil => intro L; simp
  | cons t K h1 h2 h3 ih =>
    intro L
    rw [List.cons_append, findP_cons, if_neg (by simp [hqp t h2]), if_neg (by simp [h1]), ih L]
    simp; omega
  | blk t I c K h1 h2 h3 h4 ih =>
    intro L
    obtain ⟨b1, b2⟩ := hd_blk h3 (K ++ L)
    have e2 : (t :: (I ++ c :: (K ++ L))).drop (I.length + 2) = K ++ L := by
      rw [show I.length + 2 = (I.length + 1) + 1 by rfl, List.drop_succ_cons, show I ++ c :: (K ++ L) = (I ++ [c]) ++ (K ++ L) by simp, List.drop_left' (by simp)]
    rw [List.cons_append, List.append_assoc, List.cons_append, findP_cons, if_neg (by simp [hqp t h2]), if_pos h1, b1, e2, ih L]
    simp; omega
theorem hd_app {q : Tk → Bool} {A : List Tk} (h : Hd q A) : ∀ {B : List Tk}, Hd q B → Hd q (A ++ B) := by
  induction h with
  | nil => intro B hB; exact hB
  | cons t K h1 h2 h3 ih => intro B hB; exact .cons t _ h1 h2 (ih hB)
  | blk t I c K h1 h2 h3 h4 ih =>
    intro B hB
    rw [List.cons_append, List.append_assoc, List.cons_append]
    exact .blk t I c _ h1 h2 h3 (ih hB)
theorem hd_mono {q q' : Tk → Bool} (hq : ∀ t, q t = true → q' t = true) {A : List Tk} (h : Hd q A) : Hd q' A := by
  induction h with
  | nil => exact .nil
  | cons t K h1 h2 h3 ih => exact .cons t _ h1 (hq t h2) ih
  | blk t I c K h1 h2 h3 h4 ih => exact .blk t I c _ h1 (hq t h2) h3 ih
theorem hd_tail {q : Tk → Bool} {t : Tk} {L : List Tk} (h : Hd q (t :: L)) (ho : opensP t = false) : Hd q L := by
  cases h with
  | cons _ _ h1 h2 h3 => exact h3
  | blk _ I c K h1 h2 h3 h4 => rw [ho] at h1; cases h1
theorem blk_end {t c : Tk} {I : List Tk} (h : closeP [closerP t.raw] (I ++ [c]) = some (I.length + 1)) : c.k = 11 := by
  obtain ⟨c', h1, h2, h3⟩ := close_at _ _ _ (by simp) h
  rw [Nat.add_sub_cancel, List.getElem?_append_right (Nat.le_refl _), Nat.sub_self] at h1
  obtain rfl : c = c' := by simpa using h1
  exact h2
theorem hd_trim {q : Tk → Bool} {X : List Tk} (h : Hd q X) : ∀ (A B : List Tk), X = A ++ B → Sil B → Hd q A := by
  induction h with
  | nil =>
    intro A B he hB
    obtain rfl := (List.append_eq_nil_iff.1 he.symm).1
    exact .nil
  | cons t K h1 h2 h3 ih =>
    intro A B he hB
    cases A with
    | nil => exact .nil
    | cons a A =>
      injection he with e1 e2
      subst e1
      exact .cons t A h1 h2 (ih A B e2 hB)
  | blk t I c K h1 h2 h3 h4 ih =>
    intro A B he hB
    have hc := blk_end h3
    have hcs : silP c = false := by simp [silP, hc]
    cases A with
    | nil => exact .nil
    | cons a A =>
      injection he with e1 e2
      subst e1
      rcases List.append_eq_append_iff.1 e2 with ⟨x, hx1, hx2⟩ | ⟨x, hx1, hx2⟩
      · cases x with
        | nil =>
          rw [List.nil_append] at hx2
          have := hB c (by rw [← hx2]; simp)
          rw [hcs] at this; cases this
        | cons y x =>
          injection hx2 with e3 e4
          subst e3
          rw [hx1]
          exact .blk t I c x h1 h2 h3 (ih x B e4 hB)
      · have := hB c (by rw [hx2]; simp)
        rw [hcs] at this; cases this
/-- what is told instead is open and closed alike -/
theorem close_sq : ∀ (L : List Tk) (st : List Bs), st ≠ [] → closeP st L = none → ∃ st', st' ≠ [] ∧ ∀ X, closeP st (L ++ X) = (closeP st' X).map (L.length + ·) ∧ ∀ f, closeP st (sqF f L ++ X) = (closeP st' X).map ((sqF f L).length + ·)
  | [], st, h0, h => ⟨st, h0, fun X => ⟨by simp, fun f => by simp [sqF]⟩⟩
  | t :: L, st, h0, h => by
    have mm : ∀ (o : Option Nat) (x : Nat), (o.map (x + ·)).map (· + 1) = o.map (x + 1 + ·) := fun o x => by cases o <;> simp; omega
    unfold closeP at h
    by_cases ho : opensP t = true
    · rw [if_pos ho] at h
      obtain ⟨st', hs, hX⟩ := close_sq L (st ++ [closerP t.raw]) (by simp) (Option.map_eq_none_iff.1 h)
      have hk := opens_k ho
      have ht : ¬ silP t = true := by simp [silP, hk.2.2.2.1, hk.2.2.2.2.1]
      refine ⟨st', hs, fun X => ⟨?_, fun f => ?_⟩⟩
      · rw [List.cons_append, closeP, if_pos ho, (hX X).1, mm]; rfl
      · rw [sqF, if_neg ht, List.cons_append, closeP, if_pos ho, (hX X).2 false, mm]; rfl
    · rw [if_neg ho] at h
      by_cases hc : t.k = 11 ∧ st.getLast? = some t.raw
      · rw [if_pos hc] at h
        by_cases hd : st.dropLast = []
        · rw [if_pos hd] at h; cases h
        · rw [if_neg hd] at h
          obtain ⟨st', hs, hX⟩ := close_sq L st.dropLast hd (Option.map_eq_none_iff.1 h)
          have ht : ¬ silP t = true := by simp [silP, hc.1]
          refine ⟨st', hs, fun X => ⟨?_, fun f => ?_⟩⟩
          · rw [List.cons_append, closeP, if_neg ho, if_pos hc, if_neg hd, (hX X).1, mm]; rfl
          · rw [sqF, if_neg ht, List.cons_append, closeP, if_neg ho, if_pos hc, if_neg hd, (hX X).2 false, mm]; rfl
      · rw [if_neg hc] at h
        obtain ⟨st', hs, hX⟩ := close_sq L st h0 (Option.map_eq_none_iff.1 h)
        refine ⟨st', hs, fun X => ⟨?_, fun f => ?_⟩⟩
        · rw [List.cons_append, closeP, if_neg ho, if_neg hc, (hX X).1, mm]; rfl
        · rw [sqF]
          split
          · split
            · exact (hX X).2 true
            · rw [List.cons_append, closeP, if_neg (by decide), if_neg (fun e => by cases e.1), (hX X).2 true, mm]; rfl
          · rw [List.cons_append, closeP, if_neg ho, if_neg hc, (hX X).2 false, mm]; rfl
theorem blk_sq {t c : Tk} {I : List Tk} (h : closeP [closerP t.raw] (I ++ [c]) = some (I.length + 1)) : closeP [closerP t.raw] (sqF false I ++ [c]) = some ((sqF false I).length + 1) := by
  have hn : closeP [closerP t.raw] I = none := by
    cases hx : closeP [closerP t.raw] I with
    | none => rfl
    | some e =>
      have h1 := close_more I [c] _ _ hx
      have h2 := close_le _ _ _ hx
      rw [h] at h1
      injection h1 with h1
      omega
  obtain ⟨st', hs, hX⟩ := close_sq I _ (by simp) hn
  obtain ⟨h1, h2⟩ := hX [c]
  rw [h] at h1
  rw [h2 false]
  cases hx : closeP st' [c] with
  | none => rw [hx] at h1; cases h1
  | some e =>
    rw [hx] at h1
    simp at h1
    simp; omega
theorem hd_sq {q : Tk → Bool} {A : List Tk} (h : Hd q A) (hq : q tkB = true) : ∀ f, Hd q (sqF f A) := by
  induction h with
  | nil => intro f; exact .nil
  | cons t K h1 h2 h3 ih =>
    intro f
    rw [sqF]
    split
    · split
      · exact ih true
      · exact .cons tkB _ (by decide) hq (ih true)
    · exact .cons t _ h1 h2 (ih false)
  | blk t I c K h1 h2 h3 h4 ih =>
    intro f
    have hk := opens_k h1
    have ht : ¬ silP t = true := by simp [silP, hk.2.2.2.1, hk.2.2.2.2.1]
    have hc : silP c = false := by simp [silP, blk_end h3]
    rw [sqF, if_neg ht, sq_app hc K I false]
    exact .blk t _ c _ h1 h2 (blk_sq h3) (ih false)

/-! ### from the program's words -/
theorem close_take : ∀ (L : List Tk) (st : List Bs) (e : Nat), closeP st L = some e → closeP st (L.take e) = some e
  | [], st, e, h => by simp [closeP] at h
  | t :: L, st, e, h => by
    unfold closeP at h
    split at h
    · rename_i ho
      obtain ⟨x, hx, rfl⟩ := Option.map_eq_some_iff.1 h
      rw [List.take_succ_cons, closeP, if_pos ho, close_take L _ x hx]
      rfl
    · rename_i ho
      split at h
      · rename_i hc
        split at h
        · rename_i hd
          obtain rfl : 1 = e := by simpa using h
          rw [List.take_succ_cons, closeP, if_neg ho, if_pos hc, if_pos hd]
        · rename_i hd
          obtain ⟨x, hx, rfl⟩ := Option.map_eq_some_iff.1 h
          rw [List.take_succ_cons, closeP, if_neg ho, if_pos hc, if_neg hd, close_take L _ x hx]
          rfl
      · rename_i hc
        obtain ⟨x, hx, rfl⟩ := Option.map_eq_some_iff.1 h
        rw [List.take_succ_cons, closeP, if_neg ho, if_neg hc, close_take L _ x hx]
        rfl
theorem hd_of_find (p : Tk → Bool) : ∀ (n : Nat) (L : List Tk), L.length ≤ n → findP p L < L.length → Hd (fun t => !p t) (L.take (findP p L))
  | _, [], _, h => by simp at h
  | 0, t :: L, h, _ => by simp at h
  | n + 1, t :: L, hn, h => by
    rw [findP_cons] at h ⊢
    by_cases hp : p t = true
    · rw [if_pos hp]; exact .nil
    · rw [if_neg hp] at h ⊢
      have hpt : (!p t) = true := by simpa using hp
      by_cases ho : opensP t = true
      · rw [if_pos ho] at h ⊢
        cases hc : closeP [closerP t.raw] L with
        | none =>
          have : blkLen t L = L.length + 1 := by unfold blkLen; rw [hc]
          rw [this] at h
          simp at h
          omega
        | some e =>
          have hb : blkLen t L = e + 1 := by unfold blkLen; rw [hc]
          have hle := close_le L _ e hc
          obtain ⟨c, h1, h2, h3⟩ := close_at L _ e (by simp) hc
          have hsp := split_at h1
          have htk := close_take L _ e hc
          rw [hb, List.drop_succ_cons] at h ⊢
          have he : e - 1 + 1 = e := by omega
          have hI : (L.take (e - 1)).length = e - 1 := by rw [List.length_take]; omega
          have hte : L.take e = L.take (e - 1) ++ [c] := by
            conv => lhs; rw [hsp]
            rw [List.take_append, hI, show e - (e - 1) = 1 by omega, List.take_succ_cons, List.take_zero, List.take_of_length_le (by rw [hI]; omega)]
          rw [hte] at htk
          have ih := hd_of_find p n (L.drop e) (by rw [List.length_drop]; simp at hn; omega) (by rw [List.length_drop]; simp at h; omega)
          have hfin : (t :: L).take (e + 1 + findP p (L.drop e)) = t :: (L.take (e - 1) ++ c :: (L.drop e).take (findP p (L.drop e))) := by
            rw [show e + 1 + findP p (L.drop e) = (e + findP p (L.drop e)) + 1 by omega, List.take_succ_cons]
            congr 1
            rw [List.take_add, hte, List.append_assoc, List.singleton_append]
          rw [hfin]
          exact .blk t _ c _ ho hpt (by rw [htk, hI, he]) ih
      · rw [if_neg ho] at h ⊢
        rw [show 1 + findP p L = findP p L + 1 by omega, List.take_succ_cons]
        exact .cons t _ (by simpa using ho) hpt (hd_of_find p n L (by simpa using hn) (by simp at h; omega))
def c125 (t : Tk) : Bool := decide (t.k = 11) && decide (t.raw = [125])
/-- within a block that these do not close, no head closes it -/
theorem hd_strict {q : Tk → Bool} {A : List Tk} (h : Hd q A) : ∀ (X : List Tk), closeP [[125]] (A ++ X) = none → Hd (fun t => q t && !c125 t) A ∧ closeP [[125]] X = none := by
  induction h with
  | nil => intro X hx; exact ⟨.nil, hx⟩
  | cons t K h1 h2 h3 ih =>
    intro X hx
    rw [List.cons_append, closeP, if_neg (by simp [h1])] at hx
    by_cases hc : t.k = 11 ∧ ([[125]] : List Bs).getLast? = some t.raw
    · rw [if_pos hc] at hx
      simp at hx
    · rw [if_neg hc] at hx
      obtain ⟨i1, i2⟩ := ih X (Option.map_eq_none_iff.1 hx)
      refine ⟨.cons t K h1 ?_ i1, i2⟩
      simp only [List.getLast?_singleton, Option.some.injEq] at hc
      rw [h2, Bool.true_and, Bool.not_eq_true', c125, Bool.and_eq_false_iff]
      by_cases h11 : t.k = 11
      · exact .inr (by simp; exact fun e => hc ⟨h11, e.symm⟩)
      · exact .inl (by simp [h11])
  | blk t I c K h1 h2 h3 h4 ih =>
    intro X hx
    have e1 : (I ++ c :: K) ++ X = (I ++ [c]) ++ (K ++ X) := by simp
    rw [List.cons_append, closeP, if_pos h1, e1, close_lift (I ++ [c]) _ _ (by simp) h3 [[125]] _ (by simp), Option.map_map] at hx
    rw [show ((I ++ [c]) ++ (K ++ X)).drop (I.length + 1) = K ++ X from List.drop_left' (by simp)] at hx
    obtain ⟨i1, i2⟩ := ih X (Option.map_eq_none_iff.1 hx)
    have hk := opens_k h1
    exact ⟨.blk t I c K h1 (by rw [h2, Bool.true_and, c125]; simp [hk.2.1]) h3 i1, i2⟩

end Go.Proofs.YtaihncbejhnceaaDoor.rul

namespace Go.Proofs.YtaihncbejhnceaaDoor.rul
open Go.RowKit Go.Proofs.YtaihncbejhnceaaDoor.base Go.Proofs.YtaihncbejhnceaaDoor.tok
set_option linter.unusedVariables false

/-- tokens that their text is cut into -/
def Cut (L : List Tk) : Prop := cutP (textOf L) = L
theorem Cut.tail {A L : List Tk} (h : Cut (A ++ L)) : Cut L := cut_tail A L _ h
theorem Cut.head {A L : List Tk} (h : Cut (A ++ L)) : Cut A := st.cut_piece A (textOf A) (textOf L) L rfl (by rw [← text_app]; exact h)
theorem Cut.mid {A V B : List Tk} (h : Cut (A ++ V ++ B)) : Cut V := Cut.tail (Cut.head h)
theorem Cut.raw {L : List Tk} (h : Cut L) : ∀ t ∈ L, t.raw ≠ [] := fun t ht => by
  have := cut_full (textOf L) t
  rw [h] at this
  exact this ht
/-- no '}' outside of blocks -/
def NC (L : List Tk) : Prop := closeP [[125]] L = none
theorem NC.pre {L B : List Tk} (h : NC (L ++ B)) : NC L := by
  unfold NC at h ⊢
  cases hx : closeP [[125]] L with
  | none => rfl
  | some e => rw [close_more L B _ _ hx] at h; cases h
theorem NC.sil : ∀ {A L : List Tk}, Sil A → NC (A ++ L) → NC L
  | [], L, _, h => h
  | a :: A, L, hA, h => by
    have ha := hA a (by simp)
    simp only [silP, Bool.or_eq_true, decide_eq_true_eq] at ha
    unfold NC at h
    rw [List.cons_append, closeP, if_neg (by simp only [opensP, Bool.or_eq_true, decide_eq_true_eq]; omega), if_neg (fun e => by omega)] at h
    exact NC.sil (A := A) (fun t ht => hA t (by simp [ht])) (Option.map_eq_none_iff.1 h)

def qP (a nst : Bool) (t : Tk) : Bool := !beginsR a t && !(nst && c125 t)
mutual
/-- a rule that was read, that may have m more in one another; in a block? -/
def GoodR (N : Nat) : Nat → Bool → Rl → Prop
  | m, nst, .mk md h ds rs => (∃ V : List Tk, Cut V ∧ Solid V ∧ (∀ t ∈ V, ¬ t.k = 6) ∧ h = headP V ∧ Hd (qP md nst) V ∧ (md = false → ∀ t, V.head? = some t → ¬ t.k = 3) ∧ (textOf V).length ≤ N) ∧
    (md = true → ds = [] ∧ ∃ m', m = m' + 1 ∧ GoodG N m' true rs) ∧ (md = false → (∀ d ∈ ds, Told N d) ∧ rs = [])
def GoodG (N : Nat) : Nat → Bool → List Rl → Prop
  | _, _, [] => True
  | m, nst, r :: rs => GoodR N m nst r ∧ GoodG N m nst rs
end
theorem good_app {N m : Nat} {nst : Bool} : ∀ {a b : List Rl}, GoodG N m nst a → GoodG N m nst b → GoodG N m nst (a ++ b)
  | [], b, _, hb => hb
  | r :: a, b, ha, hb => by
    unfold GoodG at ha
    rw [List.cons_append]
    unfold GoodG
    exact ⟨ha.1, good_app ha.2 hb⟩

/-! ### the text of a head, without what is silent at its ends -/
theorem headF_sil : ∀ (B : List Tk) (out : Bs) (gap : Bool), Sil B → headF B out gap = out
  | [], out, gap, _ => rfl
  | b :: B, out, gap, h => by
    rw [headF, if_pos (h b (by simp))]
    exact headF_sil B out _ (fun t ht => h t (by simp [ht]))
theorem headF_app : ∀ (M B : List Tk) (out : Bs) (gap : Bool), Sil B → headF (M ++ B) out gap = headF M out gap
  | [], B, out, gap, h => by rw [List.nil_append, headF_sil B out gap h]; rfl
  | t :: M, B, out, gap, h => by
    rw [List.cons_append, headF, headF]
    split
    · exact headF_app M B out _ h
    · exact headF_app M B _ false h
theorem headF_pre : ∀ (A M : List Tk), Sil A → headF (A ++ M) [] false = headF M [] false
  | [], M, _ => rfl
  | a :: A, M, h => by
    rw [List.cons_append, headF, if_pos (h a (by simp))]
    exact headF_pre A M (fun t ht => h t (by simp [ht]))
theorem head_solid (L : List Tk) : headP L = headP (solidP L) := by
  obtain ⟨_, A, B, hL, hA, hB⟩ := solid_split L
  unfold headP
  conv => lhs; rw [hL, List.append_assoc, headF_pre A _ hA, headF_app _ B _ _ hB]
/-- .. and its shape -/
theorem hd_solid {q : Tk → Bool} {L : List Tk} (h : Hd q L) : Hd q (solidP L) := by
  obtain ⟨_, A, B, hL, hA, hB⟩ := solid_split L
  have key : ∀ (A : List Tk) (X : List Tk), Sil A → Hd q (A ++ X) → Hd q X := by
    intro A
    induction A with
    | nil => intro X _ h; exact h
    | cons a A ih =>
      intro X hA h
      have ha := hA a (by simp)
      simp only [silP, Bool.or_eq_true, decide_eq_true_eq] at ha
      refine ih X (fun t ht => hA t (by simp [ht])) (hd_tail h ?_)
      simp only [opensP, Bool.or_eq_false_iff, decide_eq_false_iff_not]
      omega
  rw [hL, List.append_assoc] at h
  exact hd_trim (key A _ hA h) _ B rfl hB
theorem solid_mem (L : List Tk) : ∀ t ∈ solidP L, t ∈ L := fun t ht => (solid_sub L).subset ht
theorem Cut.solid {L : List Tk} (h : Cut L) : Cut (solidP L) := by
  obtain ⟨_, A, B, hL, _, _⟩ := solid_split L
  rw [hL] at h
  exact Cut.mid h
theorem solid_head {t : Tk} {L : List Tk} (ht : silP t = false) : ∀ x, (solidP (t :: L)).head? = some x → x = t := by
  intro x hx
  obtain ⟨_, A, B, hL, hA, hB⟩ := solid_split (t :: L)
  cases A with
  | cons a A =>
    injection hL with e1 _
    have := hA a (by simp)
    rw [← e1, ht] at this
    cases this
  | nil =>
    cases hs : solidP (t :: L) with
    | nil => rw [hs] at hx; cases hx
    | cons y K =>
      rw [hs] at hL hx
      injection hL with e1 _
      obtain rfl : y = x := by simpa using hx
      exact e1.symm

theorem text_solid (L : List Tk) : (textOf (solidP L)).length ≤ (textOf L).length := by
  obtain ⟨_, A, B, hL, _, _⟩ := solid_split L
  conv => rhs; rw [hL, text_app, text_app, List.length_append, List.length_append]
  omega
theorem inn_nc {b : Tk} (hb : braceP b = true) (rest : List Tk) : NC (innP b rest) := by
  have hcl : closerP b.raw = [125] := by
    simp only [braceP, rawP, Bool.and_eq_true, decide_eq_true_eq] at hb
    rw [hb.2]; rfl
  unfold NC innP blkOk blkLen
  rw [hcl]
  cases hc : closeP [[125]] rest with
  | none => simp [hc]
  | some e =>
    have hle := close_le _ _ _ hc
    simp only [Option.isSome_some, if_true]
    cases hx : closeP [[125]] (rest.take (e + 1 - 2)) with
    | none => rfl
    | some x =>
      have h1 := close_more _ (rest.drop (e + 1 - 2)) _ _ hx
      rw [List.take_append_drop, hc] at h1
      have h2 := close_le _ _ _ hx
      rw [List.length_take] at h2
      injection h1 with h1
      omega
theorem rest_nc {b : Tk} (hb : braceP b = true) (rest : List Tk) (h : NC (b :: rest)) : NC (rest.drop (blkLen b rest - 1)) := by
  have hob : opensP b = true := by
    simp only [braceP, rawP, Bool.and_eq_true, decide_eq_true_eq] at hb
    simp [opensP, hb.1]
  unfold NC at h ⊢
  rw [closeP, if_pos hob] at h
  have h' := Option.map_eq_none_iff.1 h
  unfold blkLen
  cases hc : closeP [closerP b.raw] rest with
  | none =>
    simp only
    rw [List.drop_of_length_le (by omega)]
    rfl
  | some e =>
    simp only [Nat.add_sub_cancel]
    have hl := close_lift rest [closerP b.raw] e (by simp) hc [[125]] [] (by simp)
    rw [List.append_nil] at hl
    rw [show ([[125]] ++ [closerP b.raw] : List Bs) = [[125]] ++ [closerP b.raw] from rfl] at h'
    rw [hl] at h'
    exact Option.map_eq_none_iff.1 h'
theorem brace_begins {a : Bool} {b : Tk} (h : beginsR a b = true) (hb : braceP b = false) : semiP b = true := by
  simp only [beginsR, hb, Bool.false_or, Bool.and_eq_true] at h
  exact h.2

/-- where it is found it is so -/
theorem find_at (p : Tk → Bool) : ∀ (n : Nat) (L : List Tk), L.length ≤ n → ∀ (b : Tk) (rest : List Tk), L.drop (findP p L) = b :: rest → p b = true
  | _, [], _, b, rest, h => by simp at h
  | 0, t :: L, h, _, _, _ => by simp at h
  | n + 1, t :: L, hn, b, rest, h => by
    rw [findP_cons] at h
    by_cases hp : p t = true
    · rw [if_pos hp] at h
      simp only [List.drop_zero] at h
      injection h with e1 _
      rw [← e1]; exact hp
    · rw [if_neg hp] at h
      by_cases ho : opensP t = true
      · rw [if_pos ho, ← List.drop_drop] at h
        have hb := blkLen_bd t L
        exact find_at p n _ (by rw [List.length_drop]; simp at hn ⊢; omega) b rest h
      · rw [if_neg ho, show 1 + findP p L = findP p L + 1 by omega, List.drop_succ_cons] at h
        exact find_at p n L (by simpa using hn) b rest h

/-- all that is read is so -/
theorem good_rules (N : Nat) : ∀ (m n : Nat) (L : List Tk) (nst : Bool), L.length ≤ n → Cut L → (∀ t ∈ L, t.val.length ≤ N) → (textOf L).length ≤ N → (nst = true → NC L) → GoodG N m nst (rulesP m L) := by
  intro m
  induction m using Nat.strongRecOn with
  | ind m ihm =>
    intro n
    induction n with
    | zero =>
      intro L nst hn hc hv hN hNC
      obtain rfl := List.eq_nil_of_length_eq_zero (Nat.le_zero.1 hn)
      rw [rulesP_is, rulesW_nil (by rfl)]
      unfold GoodG; trivial
    | succ n ih =>
      intro L nst hn hc hv hN hNC
      obtain ⟨hsol, A0, B0, hL, hA0, hB0⟩ := solid_split L
      have hcM := hc.solid
      cases hM : solidP L with
      | nil => rw [rulesP_is, rulesW_nil hM]; unfold GoodG; trivial
      | cons t r =>
        rw [hM] at hL hcM hsol
        have hvM : ∀ x ∈ t :: r, x.val.length ≤ N := fun x hx => hv x (by rw [hL]; simp only [List.mem_append]; exact .inl (.inr hx))
        have hNM : (textOf (t :: r)).length ≤ N := by
          refine Nat.le_trans ?_ hN
          rw [hL, text_app, text_app, List.length_append, List.length_append]
          omega
        have hlM : (t :: r).length ≤ n + 1 := by
          have := congrArg List.length hL
          simp only [List.length_append] at this
          omega
        have hNM2 : nst = true → NC (t :: r) := fun h => by
          have := hNC h
          rw [hL, List.append_assoc] at this
          exact NC.pre (NC.sil hA0 this)
        cases hB : (t :: r).drop (findP (beginsR (decide (t.k = 3))) (t :: r)) with
        | nil => rw [rulesP_is, rulesW_none hM (List.drop_eq_nil_iff.1 hB)]; unfold GoodG; trivial
        | cons b rest =>
          have hlt : findP (beginsR (decide (t.k = 3))) (t :: r) < (t :: r).length := by
            refine Nat.lt_of_not_le fun hle => ?_
            rw [List.drop_of_length_le hle] at hB
            cases hB
          have hhd := hd_of_find (beginsR (decide (t.k = 3))) _ (t :: r) (Nat.le_refl _) hlt
          have hsp : t :: r = (t :: r).take (findP (beginsR (decide (t.k = 3))) (t :: r)) ++ b :: rest := by rw [← hB, List.take_append_drop]
          rw [rulesP_is, rulesW_some hM hB]
          have hts : silP t = false := hsol.1 t rfl
          have hbeg : beginsR (decide (t.k = 3)) b = true := by
            have hfa := find_at (beginsR (decide (t.k = 3))) _ (t :: r) (Nat.le_refl _) b rest hB
            exact hfa
          have hqa : nst = true → Hd (fun x => !beginsR (decide (t.k = 3)) x && !c125 x) ((t :: r).take (findP (beginsR (decide (t.k = 3))) (t :: r))) ∧ NC (b :: rest) := fun h => by
            have := hNM2 h
            unfold NC at this
            rw [hsp] at this
            exact hd_strict hhd _ this
          have hhq : Hd (qP (decide (t.k = 3)) nst) ((t :: r).take (findP (beginsR (decide (t.k = 3))) (t :: r))) := by
            cases nst with
            | false => exact hd_mono (fun x hx => by unfold qP; simpa using hx) hhd
            | true => exact hd_mono (fun x hx => by unfold qP; simpa using hx) (hqa rfl).1
          generalize hI : (t :: r).take (findP (beginsR (decide (t.k = 3))) (t :: r)) = head at *
          have hhl : head.head? = some t ∨ head = [] := by
            cases head with
            | nil => exact .inr rfl
            | cons y K =>
              rw [List.cons_append] at hsp
              injection hsp with e1 _
              exact .inl (by rw [e1]; rfl)
          have hrl : rest.length ≤ n := by
            have := congrArg List.length hsp
            simp only [List.length_append, List.length_cons] at this hlM
            omega
          have hcR : Cut (b :: rest) := by rw [hsp] at hcM; exact Cut.tail hcM
          have hcH : Cut head := by rw [hsp] at hcM; exact Cut.head hcM
          have hNH : (textOf head).length ≤ N := by
            refine Nat.le_trans ?_ hNM
            rw [hsp, text_app, List.length_append]
            omega
          have hcr : Cut rest := Cut.tail (A := [b]) hcR
          have hvR : ∀ x ∈ rest, x.val.length ≤ N := fun x hx => hvM x (by rw [hsp]; simp [hx])
          have hNR : (textOf rest).length ≤ N := by
            refine Nat.le_trans ?_ hNM
            rw [hsp, text_app, text_cons]
            simp; omega
          by_cases hbr : braceP b = true
          · rw [if_pos hbr]
            refine good_app ?_ ?_
            · -- the rule
              have hcI : Cut (innP b rest) := by
                unfold innP
                have : Cut (rest.take (if blkOk b rest then blkLen b rest - 2 else rest.length) ++ rest.drop (if blkOk b rest then blkLen b rest - 2 else rest.length)) := by rw [List.take_append_drop]; exact hcr
                exact Cut.head this
              have hvI : ∀ x ∈ innP b rest, x.val.length ≤ N := fun x hx => hvR x (List.mem_of_mem_take hx)
              have hNI : (textOf (innP b rest)).length ≤ N := by
                refine Nat.le_trans ?_ hNR
                unfold innP
                exact text_part _
              have hnI := inn_nc hbr rest
              cases hr : ruleW (subP m) head (innP b rest) with
              | none => simp only [Option.toList]; unfold GoodG; trivial
              | some rr =>
                simp only [Option.toList]
                unfold GoodG
                refine ⟨?_, by unfold GoodG; trivial⟩
                unfold ruleW at hr
                by_cases hbad : head.any badP = true
                · rw [if_pos hbad] at hr; cases hr
                · rw [if_neg hbad] at hr
                  have hnb : ∀ x ∈ head, ¬ x.k = 6 := fun x hx h6 => hbad (List.any_eq_true.2 ⟨x, hx, by simp [badP, h6]⟩)
                  cases hh : head with
                  | nil =>
                    rw [hh] at hr
                    simp only at hr
                    obtain rfl := Option.some.inj hr
                    unfold GoodR
                    refine ⟨⟨[], cutP_nil, ⟨fun x hx => by simp at hx, fun x hx => by simp at hx⟩, fun x hx => by simp at hx, rfl, .nil, (fun _ x hx => by simp at hx), Nat.zero_le _⟩, (fun e => by cases e), fun _ => ⟨?_, rfl⟩⟩
                    exact told_decls N _ _ (Nat.le_refl _) hcI hvI hNI
                  | cons t' r' =>
                    rw [hh] at hr hhl hcH hhq
                    obtain rfl : t' = t := by
                      rcases hhl with h | h
                      · simpa using h
                      · cases h
                    simp only at hr
                    by_cases h3 : t'.k = 3
                    · rw [if_pos h3] at hr
                      by_cases hfo : Lib.equalFold t'.val mediaW = true
                      · rw [if_pos hfo] at hr
                        cases m with
                        | zero => cases hr
                        | succ m' =>
                          simp only [subP, Option.map_some, Option.some.injEq] at hr
                          subst hr
                          have hop : opensP t' = false := by simp [opensP, h3]
                          rw [decide_eq_true h3] at hhq
                          unfold GoodR
                          refine ⟨⟨solidP r', (Cut.tail (A := [t']) hcH).solid, (solid_split r').1, fun x hx => hnb x (by rw [hh]; exact List.mem_cons_of_mem _ (solid_mem r' x hx)), head_solid r', hd_solid (hd_tail hhq hop), (fun e => by cases e), Nat.le_trans (text_solid r') (Nat.le_trans (by rw [text_cons, List.length_append]; omega) (hh ▸ hNH))⟩, fun _ => ⟨rfl, m', rfl, ?_⟩, (fun e => by cases e)⟩
                          exact ihm m' (Nat.lt_succ_self _) _ _ true (Nat.le_refl _) hcI hvI hNI (fun _ => hnI)
                      · rw [if_neg hfo] at hr; cases hr
                    · rw [if_neg h3] at hr
                      obtain rfl := Option.some.inj hr
                      rw [decide_eq_false h3] at hhq
                      unfold GoodR
                      refine ⟨⟨solidP (t' :: r'), hcH.solid, (solid_split _).1, fun x hx => hnb x (by rw [hh]; exact solid_mem _ x hx), head_solid _, hd_solid hhq, (fun _ x hx => by rw [solid_head hts x hx]; exact h3), Nat.le_trans (text_solid _) (hh ▸ hNH)⟩, (fun e => by cases e), fun _ => ⟨?_, rfl⟩⟩
                      exact told_decls N _ _ (Nat.le_refl _) hcI hvI hNI
            · rw [← rulesP_is]
              refine ih _ nst (by rw [List.length_drop]; omega) ?_ (fun x hx => hvR x (List.mem_of_mem_drop hx)) ?_ (fun h => rest_nc hbr rest (hqa h).2)
              · have : Cut (rest.take (blkLen b rest - 1) ++ rest.drop (blkLen b rest - 1)) := by rw [List.take_append_drop]; exact hcr
                exact Cut.tail this
              · refine Nat.le_trans ?_ hNR
                conv => rhs; rw [← List.take_append_drop (blkLen b rest - 1) rest, text_app]
                simp
          · rw [if_neg hbr, ← rulesP_is]
            refine ih rest nst hrl hcr hvR hNR (fun h => ?_)
            have hn2 := (hqa h).2
            have hsm := brace_begins hbeg (by simpa using hbr)
            simp only [semiP, rawP, Bool.and_eq_true, decide_eq_true_eq] at hsm
            unfold NC at hn2 ⊢
            rw [closeP, if_neg (by simp [opensP, hsm.1]), if_neg (fun e => by omega)] at hn2
            exact Option.map_eq_none_iff.1 hn2

end Go.Proofs.YtaihncbejhnceaaDoor.rul

namespace Go.Proofs.YtaihncbejhnceaaDoor.rul
open Go.RowKit Go.Proofs.YtaihncbejhnceaaDoor.base Go.Proofs.YtaihncbejhnceaaDoor.tok
set_option linter.unusedVariables false

/-- a declaration as it is shown -/
def dShow (d : Dc) : Bs := d.name ++ [58, 32] ++ d.val ++ (if d.imp then 32 :: 33 :: impW else []) ++ [59, 10]
def dShows (ds : List Dc) : Bs := ds.flatMap dShow
def mediaT : Bs := [64, 109, 101, 100, 105, 97]
mutual
def showR : Rl → Bs
  | .mk md h ds rs => (if md then mediaT ++ [32] else []) ++ (h ++ if h = [] then [] else [32]) ++ [123, 10] ++ dShows ds ++ showG rs ++ [125, 10]
def showG : List Rl → Bs
  | [] => []
  | r :: rs => showR r ++ showG rs
end

abbrev tkNL : Tk := ⟨8, [10], [], 0⟩
theorem cut_nl (c : UInt8) (hc : blankB c = false) (m : Bs) : cutP (10 :: c :: m) = tkNL :: cutP (c :: m) := cut_spaces [10] (by decide) (by decide) c hc m
/-- a blank ahead of what begins with none -/
theorem cut_sp (c : UInt8) (hc : blankB c = false) (m : Bs) : cutP (32 :: c :: m) = tkB :: cutP (c :: m) := cut_spaces [32] (by decide) (by decide) c hc m
/-- a token that is not silent begins with no blank -/
theorem first_nb {l : Bs} (h0 : l ≠ []) (h : ¬ (firstP l).k = 8) : ∃ c x, l = c :: x ∧ blankB c = false := by
  cases l with
  | nil => exact absurd rfl h0
  | cons c x =>
    refine ⟨c, x, rfl, ?_⟩
    cases hb : blankB c with
    | false => rfl
    | true =>
      exfalso
      apply h
      have : 0 < spaceP (c :: x) := by
        unfold spaceP
        rw [List.takeWhile_cons_of_pos hb]
        simp
      rw [firstP, if_pos this]
theorem raw_nb {V : List Tk} (hc : Cut V) (hs : Solid V) (h0 : V ≠ []) : ∃ c x, headP V = c :: x ∧ blankB c = false := by
  have hr := hc.raw
  cases V with
  | nil => exact absurd rfl h0
  | cons t L =>
    have ht := hs.1 t rfl
    have hne : textOf (t :: L) ≠ [] := by
      rw [text_cons]
      simp [hr t (by simp)]
    have hf : firstP (textOf (t :: L)) = t := by
      have := hc
      unfold Cut at this
      rw [cutP_cons hne] at this
      injection this
    obtain ⟨c, x, he, hb⟩ := first_nb hne (by rw [hf]; simp only [silP, Bool.or_eq_false_iff, decide_eq_false_iff_not] at ht; exact ht.1)
    rw [head_is hs hr, sqF, if_neg (by simp [ht]), text_cons]
    rw [text_cons] at he
    cases hraw : t.raw with
    | nil => exact absurd hraw (hr t (by simp))
    | cons a y =>
      rw [hraw, List.cons_append] at he
      injection he with e1 _
      exact ⟨c, _, by rw [List.cons_append, e1], hb⟩
theorem cut_of {V : List Tk} (h : Cut V) : cutP (textOf (V ++ [])) = V ++ [] := by rw [List.append_nil]; exact h

/-! ### declarations in a block -/
theorem told_nb {N : Nat} {d : Dc} (h : Told N d) : ∃ c x, d.name = c :: x ∧ blankB c = false := by
  obtain ⟨V, post, _, _, _, _, hpl, _⟩ := h
  obtain ⟨x, hx⟩ := plain_cut hpl
  have h0 : d.name ≠ [] := fun e => by rw [e, cutP_nil] at hx; cases hx
  refine first_nb h0 ?_
  rw [cutP_cons h0] at hx
  injection hx with e1 _
  rw [e1]
  simp
theorem all_true {q : Tk → Bool} {A : List Tk} (h : Fa q A) : Fa (fun _ => true) A := by
  induction h with
  | nil q => exact .nil _
  | cons q t K h1 h2 h3 h4 h5 ih => exact .cons _ t K h1 h2 h3 rfl ih
  | blk q t J c K h1 h2 h3 h4 h5 h6 h7 ih1 ih2 => exact .blk _ t J c K h1 h2 h3 h4 h5 rfl ih2
/-- one that is shown, and what is behind it -/
theorem shown_decl {N : Nat} {d : Dc} (h : Told N d) : ∃ P : List Tk, Fa (fun t => !semiP t) P ∧ (∀ x, cutP (dShow d ++ x) = P ++ tkS :: cutP (10 :: x)) ∧ declP (tkNL :: P) = (d, true) := by
  have hnb := told_nb h
  obtain ⟨V, post, hc, hfa, hs, hv, hpl, hnm, hown, hi, _, _⟩ := h
  obtain ⟨x, hx⟩ := plain_stop hpl stop_58
  have hraw : ∀ x ∈ V, x.raw ≠ [] := fun x hx => by
    have := cut_full (textOf (V ++ post)) x
    rw [hc] at this
    exact this (by simp [hx])
  have hsq := fa_sq hfa (by decide) false
  have hQ := sq_solid hs
  have hv2 := head_again hs hraw
  -- what is behind the colon
  have hsh : ∃ Z A : List Tk, Sil Z ∧ Sil A ∧ (Z.all fun t => !badP t && !opensP t && !decide (t.k = 11) && !semiP t) = true ∧ (A.all fun t => !badP t && !opensP t && !decide (t.k = 11) && !semiP t) = true ∧
      ∀ m, cutP (32 :: (headP V ++ ((if d.imp then 32 :: 33 :: impW else []) ++ 59 :: m))) = Z ++ sqF false V ++ (if d.imp then A ++ [tkM, tkI] else []) ++ tkS :: cutP m := by
    by_cases h0 : V = []
    · subst h0
      cases hi2 : d.imp with
      | false =>
        refine ⟨[tkB], [], sil_one rfl, (fun t ht => by cases ht), by decide, rfl, fun m => ?_⟩
        show cutP (32 :: 59 :: m) = _
        rw [cut_sp 59 (by decide), cut_sole _ (by decide)]
        rfl
      | true =>
        refine ⟨[⟨8, [32, 32], [], 0⟩], [], sil_one rfl, (fun t ht => by cases ht), by decide, rfl, fun m => ?_⟩
        show cutP ([32, 32] ++ 33 :: (impW ++ 59 :: m)) = _
        rw [cut_spaces [32, 32] (by decide) (by decide) 33 (by decide), cut_sole _ (by decide), imp_stop 59 stop_59, cut_sole _ (by decide)]
        rfl
    · have hX := fun {s : UInt8} (hS : st.Stop s) (m : Bs) => val_cut hc (fa_bad hfa) hs hS m
      obtain ⟨c, y, he, hb⟩ : ∃ c x, headP V = c :: x ∧ blankB c = false := raw_nb (V := V) (Cut.head (A := V) (L := post) hc) hs h0
      cases hi2 : d.imp with
      | false =>
        refine ⟨[tkB], [], sil_one rfl, (fun t ht => by cases ht), by decide, rfl, fun m => ?_⟩
        have := hX stop_59 m
        rw [he] at this ⊢
        show cutP (32 :: c :: (y ++ 59 :: m)) = _
        rw [cut_sp c hb]
        rw [List.cons_append] at this
        rw [this, cut_sole _ (by decide)]
        simp [oneK]
        decide
      | true =>
        refine ⟨[tkB], [tkB], sil_one rfl, sil_one rfl, by decide, by decide, fun m => ?_⟩
        have := hX stop_32 (33 :: (impW ++ 59 :: m))
        rw [he] at this ⊢
        show cutP (32 :: c :: (y ++ 32 :: 33 :: (impW ++ 59 :: m))) = _
        rw [cut_sp c hb]
        rw [List.cons_append] at this
        rw [this, cut_sp 33 (by decide), cut_sole _ (by decide), imp_stop 59 stop_59, cut_sole _ (by decide)]
        simp [oneK]
        decide
  obtain ⟨Z, A, hZ, hA, hZb, hAb, hcut⟩ := hsh
  have hnil : Sil ([] : List Tk) := fun t ht => by cases ht
  have hn0 : silP (tkN d.name x) = false := by simp [silP]
  refine ⟨tkN d.name x :: tkD :: (Z ++ sqF false V ++ (if d.imp then A ++ [tkM, tkI] else [])), ?_, fun y => ?_, ?_⟩
  · refine .cons _ _ _ (by simp) (by simp [opensP]) (by simp) (by simp [semiP, rawP]) (.cons _ _ _ (by decide) (by decide) (by decide) (by decide) ?_)
    rw [List.append_assoc]
    refine fa_app (fa_list _ hZb) (fa_app hsq ?_)
    split
    · exact fa_app (fa_list _ hAb) (fa_list _ (by decide))
    · exact .nil _
  · have e : dShow d ++ y = d.name ++ 58 :: (32 :: (headP V ++ ((if d.imp then 32 :: 33 :: impW else []) ++ 59 :: (10 :: y)))) := by
      unfold dShow
      rw [hv]
      simp
    rw [e, hx, cut_sole _ (by decide), hcut (10 :: y)]
    simp [oneK]
    decide
  · have himp : impP (Z ++ sqF false V ++ (if d.imp then A ++ [tkM, tkI] else [])) = (sqF false V, d.imp) := by
      cases hi2 : d.imp with
      | true =>
        have := imp_marked (Q := sqF false V) (Z := Z) (A := A) (B := []) (mk := tkM) (im := tkI) hQ hZ hA hnil (by decide) rfl (by decide)
        simpa using this
      | false =>
        have h1 : solidP (Z ++ sqF false V ++ []) = sqF false V := solid_of hZ hQ hnil
        simp only [Bool.false_eq_true, if_false]
        unfold impP
        rw [h1, imp_sq hs (hi hi2)]
    -- the first one, and the colon
    generalize hW : Z ++ sqF false V ++ (if d.imp then A ++ [tkM, tkI] else []) = W at *
    have hcol : ∀ M C : List Tk, Sil C → Solid (tkN d.name x :: tkD :: M) → Solid (tkD :: M) → impP (M) = (sqF false V, d.imp) → declP (tkNL :: ((tkN d.name x :: tkD :: M) ++ C)) = (d, true) := by
      intro M C hC hS1 hS2 hI
      have h1 : solidP (tkNL :: ((tkN d.name x :: tkD :: M) ++ C)) = tkN d.name x :: tkD :: M := by
        have := solid_of (A := [tkNL]) (C := C) (sil_one rfl) hS1 hC
        simpa using this
      unfold declP
      rw [h1]
      unfold declM
      simp only [if_true]
      rw [solid_id hS2]
      simp only [declB]
      rw [hnm, hpl, if_pos (by decide), hI]
      simp only
      rw [hv2, fa_fair hsq, ← hv]
      refine Prod.ext rfl ?_
      simp only [Bool.true_and, Bool.or_eq_true, decide_eq_true_eq]
      exact hown
    obtain ⟨hWs, A2, B2, hW2, hA2, hB2⟩ := solid_split W
    have hI2 : impP (A2 ++ solidP W) = (sqF false V, d.imp) := by
      rw [← himp]
      unfold impP
      have e1 : solidP (A2 ++ solidP W) = solidP W := by
        have := solid_of (A := A2) (M := solidP W) (C := []) hA2 hWs hnil
        simpa using this
      rw [e1]
    by_cases h0 : solidP W = []
    · -- nothing behind it
      have e1 : W = W := rfl
      have hall : Sil W := by
        rw [hW2, h0]
        intro t ht
        simp only [List.append_nil, List.mem_append] at ht
        rcases ht with h | h
        · exact hA2 t h
        · exact hB2 t h
      have := hcol [] W hall (solid_ends hn0 (b := tkD) rfl rfl) (solid_one rfl) (by
        rw [← himp]
        unfold impP
        rw [h0]
        rfl)
      simpa using this
    · obtain ⟨z, hz⟩ : ∃ z, (solidP W).getLast? = some z := ⟨_, List.getLast?_eq_some_getLast h0⟩
      have hzs := hWs.2 z hz
      have hl : ∀ (a : Tk) (K : List Tk), (a :: (K ++ solidP W)).getLast? = some z := fun a K => by
        rw [show a :: (K ++ solidP W) = (a :: K) ++ solidP W by simp, List.getLast?_append, hz]
        rfl
      have := hcol (A2 ++ solidP W) B2 hB2 (solid_ends hn0 (by
        have := hl (tkN d.name x) (tkD :: A2)
        simpa using this) hzs) (solid_ends rfl (hl tkD A2) hzs) hI2
      rw [show tkN d.name x :: tkD :: W = (tkN d.name x :: tkD :: (A2 ++ solidP W)) ++ B2 by
        conv => lhs; rw [hW2]
        simp]
      exact this
theorem shown_decls {N : Nat} : ∀ (ds : List Dc), (∀ d ∈ ds, Told N d) → ∃ I : List Tk, Fa (fun _ => true) I ∧ declsP I = ds ∧ ∀ s m, blankB s = false → cutP (10 :: (dShows ds ++ s :: m)) = I ++ cutP (s :: m)
  | [], _ => ⟨[tkNL], .cons _ _ _ (by decide) (by decide) (by decide) rfl (.nil _), by
      have hf : findP semiP [tkNL] = 1 := by rw [findP_cons, if_neg (by decide), if_neg (by decide), findP_nil]
      have hd : (declP [tkNL]).2 = false := by decide
      rw [declsP_cons (by simp), hf, show [tkNL].take 1 = [tkNL] from rfl, hd, if_neg (by decide), show [tkNL].drop (1 + 1) = [] from rfl, declsP_nil]
      rfl, fun s m hs => cut_nl s hs m⟩
  | d :: ds, h => by
    obtain ⟨I, hI, hd, hcut⟩ := shown_decls ds (fun x hx => h x (by simp [hx]))
    obtain ⟨P, hP, hPc, hPd⟩ := shown_decl (h d (by simp))
    obtain ⟨c, x, hnm, hb⟩ := told_nb (h d (by simp))
    refine ⟨tkNL :: (P ++ tkS :: I), .cons _ _ _ (by decide) (by decide) (by decide) rfl (fa_app (all_true hP) (.cons _ _ _ (by decide) (by decide) (by decide) rfl hI)), ?_, fun s m hs => ?_⟩
    · have hf : findP semiP ((tkNL :: P) ++ tkS :: I) = (tkNL :: P).length := by
        rw [find_fa (q := fun t => !semiP t) (.cons _ _ _ (by decide) (by decide) (by decide) (by decide) hP) semiP (fun t ht => by simpa using ht), findP_cons, if_pos (by decide)]
        rfl
      show declsP ((tkNL :: P) ++ tkS :: I) = _
      rw [declsP_cons (by simp), hf, List.take_left, hPd, if_pos rfl]
      rw [show ((tkNL :: P) ++ tkS :: I).drop ((tkNL :: P).length + 1) = I by
        rw [show (tkNL :: P) ++ tkS :: I = ((tkNL :: P) ++ [tkS]) ++ I by simp, List.drop_left' (by simp)], hd]
      rfl
    · have e : dShows (d :: ds) ++ s :: m = dShow d ++ (dShows ds ++ s :: m) := by simp [dShows]
      have hc := hPc (dShows ds ++ s :: m)
      rw [hcut s m hs] at hc
      rw [e]
      have e2 : dShow d ++ (dShows ds ++ s :: m) = c :: (x ++ ([58, 32] ++ d.val ++ (if d.imp then 32 :: 33 :: impW else []) ++ [59, 10] ++ (dShows ds ++ s :: m))) := by
        unfold dShow
        rw [hnm]
        simp
      rw [e2, cut_nl c hb, ← e2, hc]
      simp

end Go.Proofs.YtaihncbejhnceaaDoor.rul
