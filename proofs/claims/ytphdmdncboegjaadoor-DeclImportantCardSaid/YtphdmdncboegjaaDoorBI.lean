/- Contracts and plain law, a bundle: Rd2 RulH1 RulS5 RulS6. -/
import Derived.Laws.AppendOwnNone
import Derived.Test.YtphdmdncboegjaaDoorBB
import Derived.Test.YtphdmdncboegjaaDoorBG

namespace Go.Proofs.YtphdmdncboegjaaDoor.base
open Go.RowKit
set_option linter.unusedVariables false

theorem wpList_append_rd {P : Program} {w : World} {ops : Array Oper} {rest : List Oper} {o : Oper} {a : Act} {Q : Exit → Act → World → Prop} (hgd : o.guard = none) (s x : Operand) (t : TypeId)
    (ho : o.op = .call { callee := .builtin .append, args := #[s, x], argTypes := #[t, t] })
    (base : Nat) (e : TypeId) (i : TypeInfo) (z : Value) (size bytes : Nat) (ht : P.underlying t = some (.slice e)) (hi : P.info? e = some i) (hz : i.zero = some z)
    (hsize : i.size = size) (hby : i.bytes = bytes) (hzs : z.cells.size = size) (hsz : 0 < size)
    (v : Value) (n : Nat) (xs : List Value) (hs : a.eval s = v) (hown : w.ownsRow base e size v n xs)
    (v2 : Value) (m : Nat) (news : List Value) (b2 : Nat) (hx : a.eval x = v2) (hown2 : w.ownsRow b2 e size v2 m news) (h1 : ∀ u ∈ news, u.oneCell' = true)
    (h63 : n + m ≤ maxLen) (hbytes : (n + m) * bytes ≤ 140737488355328) (hbase : base ≤ w.heap.size)
    (h : ∀ v' w', w'.ownsRow base e size v' (n + m) (xs ++ news) → w.grownBy w' v.ownBlock → (v'.ownBlock = v.ownBlock ∨ v'.ownBlock = some w.heap.size) → wpList P ops Q rest (a.put o.dst v') w') :
    wpList P ops Q (o :: rest) a w := by
  rcases hown2.2 with ⟨rfl, rfl⟩ | ⟨g, cap, cur, rfl, hbg, hg, hnc, hcm, hcs, htake⟩
  · obtain rfl : news = [] := List.eq_nil_of_length_eq_zero (by simpa using hown2.1)
    refine wpList_append_own_none hgd s x t ho base e i size ht hi v n xs hs hown hx (h v w (by simpa using hown) ⟨rfl, rfl, rfl, Nat.le_refl _, fun _ _ _ => rfl⟩ (.inl rfl))
  · exact wpList_append_own_at w hgd s x t ho base e i z size bytes ht hi hz hsize hby hzs hsz v n xs hs hown ⟨g, 0, none⟩ m cap news hx hown2.1 (hown2.cells (g := g) rfl) h1 h63 hbytes hbase (fun v' w' q1 q2 _ q4 => h v' w' q1 q2 q4)

end Go.Proofs.YtphdmdncboegjaaDoor.base

namespace Go.Proofs.YtphdmdncboegjaaDoor.rul
open Go.RowKit Go.Proofs.YtphdmdncboegjaaDoor.base Go.Proofs.YtphdmdncboegjaaDoor.tok
set_option linter.unusedVariables false

def declE (s : Bs) : Int := if (DeclsP s).isSome then 0 else 2
def declL (s : Bs) : List Dc := (DeclsP s).getD []
/-- what Decls answers: a row of the call's own -/
def DeclsRet (w w' : World) (L : List Dc) (E : Int) (e : Ending) : Prop := ∃ A cap, e = .returned (.tuple #[.slice A L.length cap, .int .i64 E]) ∧ DRd w' w'.heap.size A L.length L ∧ w'.ownsRow w.heap.size 66 3 (.slice A L.length cap) L.length (flatR dcells L)
theorem Decls_any (s : Bs) (w : World) (hF : FoldAt w) (hm : MaxL w) :
    Calls Tryd.prog 31 #[.string (bs s)] w fun e w' => DeclsRet w w' (declL s) (declE s) e ∧ Below w.heap.size w w' := by
  unfold declE declL
  cases h : DeclsP s with
  | none =>
    refine (Decls_none s h w hF hm).mono fun e w' ⟨he, hb⟩ => ⟨⟨none, 0, he, ?_, ?_⟩, hb⟩
    · exact Rd.nil
    · exact World.ownsRow_nil _ _ _ _
  | some R => exact (Decls_ok s R h w hF hm).mono fun e w' ⟨⟨A, cap, he, hc, hr, ho⟩, hb⟩ => ⟨⟨A, cap, he, hr, ho⟩, hb⟩
theorem declE_or (s : Bs) : declE s = 0 ∨ declE s = 2 := by
  unfold declE
  split
  · exact .inl rfl
  · exact .inr rfl
theorem declE_some {s : Bs} (h : declE s = 0) : DeclsP s = some (declL s) := by
  unfold declE at h
  unfold declL
  cases hd : DeclsP s with
  | none => rw [hd] at h; simp at h
  | some R => rfl
theorem declL_len (s : Bs) : (declL s).length ≤ 30 := by
  unfold declL
  cases hd : DeclsP s with
  | none => simp
  | some R => exact (Decls_told hd).2.1
theorem declL_text (s : Bs) : (dTexts (declL s)).length ≤ 200000 := by
  unfold declL
  cases hd : DeclsP s with
  | none => simp [dTexts]
  | some R =>
    obtain ⟨h1, h2, _⟩ := Decls_told hd
    have := told_len R h1
    have h3 := Nat.mul_le_mul_right (2 * 3000 + 12) h2
    simp only [Option.getD_some]
    omega
theorem dcells_one (L : List Dc) : ∀ u ∈ flatR dcells L, u.oneCell' = true := by
  intro x hx
  simp only [flatR, List.mem_flatMap] at hx
  obtain ⟨d, -, hx⟩ := hx
  simp [Dc.cells] at hx
  rcases hx with rfl | rfl | rfl <;> rfl

end Go.Proofs.YtphdmdncboegjaaDoor.rul

namespace Go.Proofs.YtphdmdncboegjaaDoor.rul
open Go.RowKit Go.Proofs.YtphdmdncboegjaaDoor.base Go.Proofs.YtphdmdncboegjaaDoor.tok
set_option linter.unusedVariables false

/-- tokens up to a semicolon outside of blocks, that say no declaration -/
theorem none_read {B L : List Tk} (h0 : B ≠ []) (hf : findP semiP (B ++ tkS :: L) = B.length) (hd : (declP B).2 = false) : declsP (B ++ tkS :: L) = declsP L := by
  rw [declsP_cons (by simp), hf, List.take_left, hd, if_neg (by decide)]
  rw [show (B ++ tkS :: L).drop (B.length + 1) = L by
    rw [show B ++ tkS :: L = (B ++ [tkS]) ++ L by simp, List.drop_left' (by simp)]]
  rfl
theorem none_first {L : List Tk} : declsP (tkS :: L) = declsP L := by
  have hf : findP semiP (tkS :: L) = 0 := by rw [findP_cons, if_pos (by rfl)]
  have hd : (declP []).2 = false := by decide
  rw [declsP_cons (by simp), hf, List.take_zero, hd, if_neg (by decide)]
  rfl
theorem decl_val {B r r' : List Tk} {t c : Tk} (h1 : solidP B = t :: r) (h2 : solidP r = c :: r') (h3 : (fairP (impP r').1 && (ownP t.val || decide (headP (impP r').1 ≠ []))) = false) : (declP B).2 = false := by
  unfold declP
  rw [h1]
  simp only [declM]
  split
  · rw [h2]
    simp only [declB]
    split
    · exact h3
    · rfl
  · rfl
theorem decl_colon {B r r' : List Tk} {t c : Tk} (h1 : solidP B = t :: r) (h2 : solidP r = c :: r') (h3 : colonP c = false) : (declP B).2 = false := by
  unfold declP
  rw [h1]
  simp only [declM]
  split
  · rw [h2]
    simp only [declB, h3, Bool.false_and]
    rfl
  · rfl
theorem decl_kind {B r : List Tk} {t : Tk} (h1 : solidP B = t :: r) (h2 : ¬ t.k = 1) : (declP B).2 = false := by
  unfold declP
  rw [h1]
  simp only [declM, if_neg h2]

abbrev tkL (c : UInt8) : Tk := ⟨1, [c], [c], 0⟩
abbrev tkSign (k : Int) (c : UInt8) : Tk := ⟨k, [c], [], 0⟩
theorem blank_sole {c : UInt8} (m : Bs) (h : Sole c) : cutP (32 :: c :: m) = tkB :: cutP (c :: m) :=
  cut_blank (by simp) (by rw [first_sole _ h]; simp only [oneK]; (repeat' split) <;> decide)
theorem blank_let {c s : UInt8} (m : Bs) (hc : 97 ≤ nv c ∧ nv c ≤ 122) (hS : st.Stop s) : cutP (32 :: c :: s :: m) = tkB :: cutP (c :: s :: m) :=
  cut_blank (by simp) (by rw [first_let _ hc hS]; simp)
theorem stop_10 : st.Stop 10 := by unfold st.Stop; decide
theorem stop_123 : st.Stop 123 := by unfold st.Stop; decide

theorem bad_0 (u : Bs) : declsP (cutP ([120] ++ 59 :: u)) = declsP (cutP u) := by
  show declsP (cutP (120 :: 59 :: u)) = _
  rw [cut_let _ (by decide) stop_59, cut_sole _ (by decide)]
  exact none_read (B := [tkL 120]) (by simp) (by simp only [List.cons_append, List.nil_append]; rw [findP_cons, if_neg (by decide), if_neg (by decide), findP_cons, if_pos (by decide)]; rfl) (by decide)
theorem cut_digit {c s : UInt8} {x : Int} (m : Bs) (hS : st.Stop s) (hcut : cutP [c] = [⟨7, [c], [], x⟩]) : cutP (c :: s :: m) = ⟨7, [c], [], x⟩ :: cutP (s :: m) := by
  have := st.cut_apart hS m _ [c] (Nat.le_refl _) (by simp) (fun t ht => by
    rw [hcut] at ht
    obtain rfl : _ = t := by simpa using ht
    exact ⟨by simp, by simp, by simp⟩)
  rw [hcut] at this
  exact this
theorem cut_1 : cutP [49] = [⟨7, [49], [], 1000⟩] := by
  have hnum : numberP [49] = (1000, 1) := by decide
  have f : firstP [49] = ⟨7, [49], [], 1000⟩ := by
    rw [firstP, if_neg (by decide), if_neg (by decide), if_neg (by decide), if_neg (by decide), if_neg (by decide), hnum, if_pos (by decide)]
    simp only [numTkP]
    rw [if_neg (by decide), if_neg (by decide)]
    rfl
  rw [cutP_cons (by decide), f]
  simp [cutP_nil]
theorem cut_2 : cutP [50] = [⟨7, [50], [], 2000⟩] := by
  have hnum : numberP [50] = (2000, 1) := by decide
  have f : firstP [50] = ⟨7, [50], [], 2000⟩ := by
    rw [firstP, if_neg (by decide), if_neg (by decide), if_neg (by decide), if_neg (by decide), if_neg (by decide), hnum, if_pos (by decide)]
    simp only [numTkP]
    rw [if_neg (by decide), if_neg (by decide)]
    rfl
  rw [cutP_cons (by decide), f]
  simp [cutP_nil]
theorem bad_1 (u : Bs) : declsP (cutP ([49, 58, 32, 50] ++ 59 :: u)) = declsP (cutP u) := by
  show declsP (cutP (49 :: 58 :: 32 :: 50 :: 59 :: u)) = _
  have hb : cutP (32 :: 50 :: 59 :: u) = tkB :: cutP (50 :: 59 :: u) := cut_blank (by simp) (by
    have := cut_digit u stop_59 cut_2
    rw [cutP_cons (by simp)] at this
    injection this with h1 h2
    rw [h1]
    decide)
  rw [cut_digit _ stop_58 cut_1, cut_sole _ (by decide), hb, cut_digit _ stop_59 cut_2, cut_sole _ (by decide)]
  exact none_read (B := [⟨7, [49], [], 1000⟩, tkD, tkB, ⟨7, [50], [], 2000⟩]) (by simp) (by
    simp only [List.cons_append, List.nil_append]
    rw [findP_cons, if_neg (by decide), if_neg (by decide), findP_cons, if_neg (by decide), if_neg (by decide), findP_cons, if_neg (by decide), if_neg (by decide), findP_cons, if_neg (by decide), if_neg (by decide), findP_cons, if_pos (by decide)]; rfl) (by decide)
theorem bad_2 (u : Bs) : declsP (cutP ([97, 58, 32, 93] ++ 59 :: u)) = declsP (cutP u) := by
  show declsP (cutP (97 :: 58 :: 32 :: 93 :: 59 :: u)) = _
  rw [cut_let _ (by decide) stop_58, cut_sole _ (by decide), blank_sole _ (by decide), cut_sole _ (by decide), cut_sole _ (by decide)]
  exact none_read (B := [tkL 97, tkD, tkB, tkSign 11 93]) (by simp) (by
    simp only [List.cons_append, List.nil_append]
    rw [findP_cons, if_neg (by decide), if_neg (by decide), findP_cons, if_neg (by decide), if_neg (by decide), findP_cons, if_neg (by decide), if_neg (by decide), findP_cons, if_neg (by decide), if_neg (by decide), findP_cons, if_pos (by decide)]; rfl)
    (decl_val (t := tkL 97) (r := [tkD, tkB, tkSign 11 93]) (c := tkD) (r' := [tkB, tkSign 11 93]) (by decide) (by decide) (by
      rw [show (impP [tkB, tkSign 11 93]).1 = [tkSign 11 93] by decide, fairP_cons, if_pos (by decide)]; rfl))
theorem first_open (r : Bs) : firstP (39 :: 98 :: 10 :: 59 :: r) = ⟨6, [39, 98], [], 0⟩ := by
  have ht : textR 39 (98 :: 10 :: 59 :: r) = (6, 1, [98]) := by
    rw [textR_two, if_neg (by decide), if_neg (by decide), if_neg (by decide), textR_two, if_neg (by decide), if_pos (by decide)]
  have hsp : ¬ 0 < spaceP (39 :: 98 :: 10 :: 59 :: r) := by
    unfold spaceP
    rw [List.takeWhile_cons_of_neg (by decide)]
    simp
  rw [firstP, if_neg hsp, if_neg (by simp [Lib.hasPrefix, List.isPrefixOf]), if_pos (by simp only [quoteP]; decide)]
  simp only [textP, ht]
  rfl
theorem space_10 (r : Bs) : cutP (10 :: 59 :: r) = ⟨8, [10], [], 0⟩ :: cutP (59 :: r) := by
  have hsp : spaceP (10 :: 59 :: r) = 1 := by
    unfold spaceP
    rw [List.takeWhile_cons_of_pos (by decide), List.takeWhile_cons_of_neg (by decide)]
    rfl
  have hf : firstP (10 :: 59 :: r) = ⟨8, [10], [], 0⟩ := by
    rw [firstP, hsp, if_pos (by decide)]
    rfl
  rw [cutP_cons (by simp), hf]
  rfl
theorem bad_3 (u : Bs) : declsP (cutP ([97, 58, 32, 39, 98, 10] ++ 59 :: u)) = declsP (cutP u) := by
  show declsP (cutP (97 :: 58 :: 32 :: 39 :: 98 :: 10 :: 59 :: u)) = _
  have h1 : cutP (39 :: 98 :: 10 :: 59 :: u) = ⟨6, [39, 98], [], 0⟩ :: cutP (10 :: 59 :: u) := by
    rw [cutP_cons (by simp), first_open]
    rfl
  rw [cut_let _ (by decide) stop_58, cut_sole _ (by decide), cut_blank (by simp) (by rw [first_open]; decide), h1, space_10, cut_sole _ (by decide)]
  exact none_read (B := [tkL 97, tkD, tkB, ⟨6, [39, 98], [], 0⟩, ⟨8, [10], [], 0⟩]) (by simp) (by
    simp only [List.cons_append, List.nil_append]
    rw [findP_cons, if_neg (by decide), if_neg (by decide), findP_cons, if_neg (by decide), if_neg (by decide), findP_cons, if_neg (by decide), if_neg (by decide), findP_cons, if_neg (by decide), if_neg (by decide), findP_cons, if_neg (by decide), if_neg (by decide), findP_cons, if_pos (by decide)]; rfl)
    (decl_val (t := tkL 97) (r := [tkD, tkB, ⟨6, [39, 98], [], 0⟩]) (c := tkD) (r' := [tkB, ⟨6, [39, 98], [], 0⟩]) (by decide) (by decide) (by
      rw [show (impP [tkB, ⟨6, [39, 98], [], 0⟩]).1 = [⟨6, [39, 98], [], 0⟩] by decide, fairP_cons, if_pos (by decide)]; rfl))
theorem bad_4 (u : Bs) : declsP (cutP ([98, 58] ++ 59 :: u)) = declsP (cutP u) := by
  show declsP (cutP (98 :: 58 :: 59 :: u)) = _
  rw [cut_let _ (by decide) stop_58, cut_sole _ (by decide), cut_sole _ (by decide)]
  exact none_read (B := [tkL 98, tkD]) (by simp) (by
    simp only [List.cons_append, List.nil_append]
    rw [findP_cons, if_neg (by decide), if_neg (by decide), findP_cons, if_neg (by decide), if_neg (by decide), findP_cons, if_pos (by decide)]; rfl)
    (decl_val (t := tkL 98) (r := [tkD]) (c := tkD) (r' := []) (by decide) (by decide) (by
      rw [show (impP []).1 = [] by decide, fairP_nil]; decide))
theorem bad_5 (u : Bs) : declsP (cutP ([99, 58, 32, 100, 123, 59, 125, 101] ++ 59 :: u)) = declsP (cutP u) := by
  show declsP (cutP (99 :: 58 :: 32 :: 100 :: 123 :: 59 :: 125 :: 101 :: 59 :: u)) = _
  rw [cut_let _ (by decide) stop_58, cut_sole _ (by decide), blank_let _ (by decide) stop_123, cut_let _ (by decide) stop_123, cut_sole _ (by decide), cut_sole _ (by decide), cut_sole _ (by decide), cut_let _ (by decide) stop_59, cut_sole _ (by decide)]
  have hc : ∀ X, closeP [closerP tkO.raw] (tkS :: tkC :: X) = some 2 := fun X => by
    rw [closeP, if_neg (by decide), if_neg (by decide), closeP, if_neg (by decide), if_pos (by decide), if_pos (by decide)]
    rfl
  have hl : ∀ X, blkLen tkO (tkS :: tkC :: X) = 3 := fun X => by unfold blkLen; rw [hc]
  exact none_read (B := [tkL 99, tkD, tkB, tkL 100, tkO, tkS, tkC, tkL 101]) (by simp) (by
    simp only [List.cons_append, List.nil_append]
    rw [findP_cons, if_neg (by decide), if_neg (by decide), findP_cons, if_neg (by decide), if_neg (by decide), findP_cons, if_neg (by decide), if_neg (by decide), findP_cons, if_neg (by decide), if_neg (by decide), findP_cons, if_neg (by decide), if_pos (by decide), hl]
    simp only [List.drop_succ_cons, List.drop_zero]
    rw [findP_cons, if_neg (by decide), if_neg (by decide), findP_cons, if_pos (by decide)]; rfl)
    (decl_val (t := tkL 99) (r := [tkD, tkB, tkL 100, tkO, tkS, tkC, tkL 101]) (c := tkD) (r' := [tkB, tkL 100, tkO, tkS, tkC, tkL 101]) (by decide) (by decide) (by
      rw [show (impP [tkB, tkL 100, tkO, tkS, tkC, tkL 101]).1 = [tkL 100, tkO, tkS, tkC, tkL 101] by decide, fairP_cons, if_neg (by decide), if_neg (by decide), fairP_cons, if_pos (by decide)]; rfl))
theorem bad_6 (u : Bs) : declsP (cutP ([58] ++ 59 :: u)) = declsP (cutP u) := by
  show declsP (cutP (58 :: 59 :: u)) = _
  rw [cut_sole _ (by decide), cut_sole _ (by decide)]
  exact none_read (B := [tkD]) (by simp) (by simp only [List.cons_append, List.nil_append]; rw [findP_cons, if_neg (by decide), if_neg (by decide), findP_cons, if_pos (by decide)]; rfl) (by decide)
theorem bad_7 (u : Bs) : declsP (cutP ([97, 32, 98, 58, 32, 99] ++ 59 :: u)) = declsP (cutP u) := by
  show declsP (cutP (97 :: 32 :: 98 :: 58 :: 32 :: 99 :: 59 :: u)) = _
  rw [cut_let _ (by decide) stop_32, blank_let _ (by decide) stop_58, cut_let _ (by decide) stop_58, cut_sole _ (by decide), blank_let _ (by decide) stop_59, cut_let _ (by decide) stop_59, cut_sole _ (by decide)]
  exact none_read (B := [tkL 97, tkB, tkL 98, tkD, tkB, tkL 99]) (by simp) (by
    simp only [List.cons_append, List.nil_append]
    rw [findP_cons, if_neg (by decide), if_neg (by decide), findP_cons, if_neg (by decide), if_neg (by decide), findP_cons, if_neg (by decide), if_neg (by decide), findP_cons, if_neg (by decide), if_neg (by decide), findP_cons, if_neg (by decide), if_neg (by decide), findP_cons, if_neg (by decide), if_neg (by decide), findP_cons, if_pos (by decide)]; rfl)
    (decl_colon (t := tkL 97) (r := [tkB, tkL 98, tkD, tkB, tkL 99]) (c := tkL 98) (r' := [tkD, tkB, tkL 99]) (by decide) (by decide) (by decide))
theorem first_note (u : Bs) : firstP (47 :: 42 :: 32 :: 59 :: 32 :: 42 :: 47 :: 59 :: u) = ⟨9, [47, 42, 32, 59, 32, 42, 47], [], 0⟩ := by
  have hsp : ¬ 0 < spaceP (47 :: 42 :: 32 :: 59 :: 32 :: 42 :: 47 :: 59 :: u) := by
    unfold spaceP
    rw [List.takeWhile_cons_of_neg (by decide)]
    simp
  have hi : Lib.index (32 :: 59 :: 32 :: 42 :: 47 :: 59 :: u) [42, 47] = 3 := by
    have h1 : Lib.index [32, 59, 32, 42, 47] [42, 47] = 3 := by decide
    have := index_ext [32, 59, 32, 42, 47] (59 :: u) (by rw [h1]; decide)
    rw [h1] at this
    exact this
  rw [firstP, if_neg hsp, if_pos (by simp [Lib.hasPrefix, List.isPrefixOf])]
  simp only [noteP, List.drop_succ_cons, List.drop_zero, hi]
  rfl
theorem bad_8 (u : Bs) : declsP (cutP ([47, 42, 32, 59, 32, 42, 47] ++ 59 :: u)) = declsP (cutP u) := by
  show declsP (cutP (47 :: 42 :: 32 :: 59 :: 32 :: 42 :: 47 :: 59 :: u)) = _
  have h1 : cutP (47 :: 42 :: 32 :: 59 :: 32 :: 42 :: 47 :: 59 :: u) = ⟨9, [47, 42, 32, 59, 32, 42, 47], [], 0⟩ :: cutP (59 :: u) := by
    rw [cutP_cons (by simp), first_note]
    rfl
  rw [h1, cut_sole _ (by decide)]
  exact none_read (B := [⟨9, [47, 42, 32, 59, 32, 42, 47], [], 0⟩]) (by simp) (by simp only [List.cons_append, List.nil_append]; rw [findP_cons, if_neg (by decide), if_neg (by decide), findP_cons, if_pos (by decide)]; rfl) (by decide)
theorem bad_9 (u : Bs) : declsP (cutP ([97, 58, 32, 40, 93, 41] ++ 59 :: u)) = declsP (cutP u) := by
  show declsP (cutP (97 :: 58 :: 32 :: 40 :: 93 :: 41 :: 59 :: u)) = _
  rw [cut_let _ (by decide) stop_58, cut_sole _ (by decide), blank_sole _ (by decide), cut_sole _ (by decide), cut_sole _ (by decide), cut_sole _ (by decide), cut_sole _ (by decide)]
  have hc : ∀ X, closeP [closerP (tkSign 10 40).raw] (tkSign 11 93 :: tkSign 11 41 :: X) = some 2 := fun X => by
    rw [closeP, if_neg (by decide), if_neg (by decide), closeP, if_neg (by decide), if_pos (by decide), if_pos (by decide)]
    rfl
  have hl : ∀ X, blkLen (tkSign 10 40) (tkSign 11 93 :: tkSign 11 41 :: X) = 3 := fun X => by unfold blkLen; rw [hc]
  have hk : ∀ X, blkOk (tkSign 10 40) (tkSign 11 93 :: tkSign 11 41 :: X) = true := fun X => by unfold blkOk; rw [hc]; rfl
  exact none_read (B := [tkL 97, tkD, tkB, tkSign 10 40, tkSign 11 93, tkSign 11 41]) (by simp) (by
    simp only [List.cons_append, List.nil_append]
    rw [findP_cons, if_neg (by decide), if_neg (by decide), findP_cons, if_neg (by decide), if_neg (by decide), findP_cons, if_neg (by decide), if_neg (by decide), findP_cons, if_neg (by decide), if_pos (by decide), hl]
    simp only [List.drop_succ_cons, List.drop_zero]
    rw [findP_cons, if_pos (by decide)]; rfl)
    (decl_val (t := tkL 97) (r := [tkD, tkB, tkSign 10 40, tkSign 11 93, tkSign 11 41]) (c := tkD) (r' := [tkB, tkSign 10 40, tkSign 11 93, tkSign 11 41]) (by decide) (by decide) (by
      rw [show (impP [tkB, tkSign 10 40, tkSign 11 93, tkSign 11 41]).1 = [tkSign 10 40, tkSign 11 93, tkSign 11 41] by decide, fairP_cons, if_neg (by decide), if_pos (by decide), hk, if_pos rfl, hl]
      simp only [List.take_succ_cons, List.take_zero]
      rw [fairP_cons, if_pos (by decide)]
      rfl))
theorem bad_10 (u : Bs) : declsP (cutP ([97, 58, 32, 125] ++ 59 :: u)) = declsP (cutP u) := by
  show declsP (cutP (97 :: 58 :: 32 :: 125 :: 59 :: u)) = _
  rw [cut_let _ (by decide) stop_58, cut_sole _ (by decide), blank_sole _ (by decide), cut_sole _ (by decide), cut_sole _ (by decide)]
  exact none_read (B := [tkL 97, tkD, tkB, tkC]) (by simp) (by
    simp only [List.cons_append, List.nil_append]
    rw [findP_cons, if_neg (by decide), if_neg (by decide), findP_cons, if_neg (by decide), if_neg (by decide), findP_cons, if_neg (by decide), if_neg (by decide), findP_cons, if_neg (by decide), if_neg (by decide), findP_cons, if_pos (by decide)]; rfl)
    (decl_val (t := tkL 97) (r := [tkD, tkB, tkC]) (c := tkD) (r' := [tkB, tkC]) (by decide) (by decide) (by
      rw [show (impP [tkB, tkC]).1 = [tkC] by decide, fairP_cons, if_pos (by decide)]; rfl))
theorem first_back (r : Bs) : firstP (92 :: 10 :: r) = ⟨6, [92], [], 0⟩ := by
  have hsp : ¬ 0 < spaceP (92 :: 10 :: r) := by
    unfold spaceP
    rw [List.takeWhile_cons_of_neg (by decide)]
    simp
  have hq : ¬ quoteP (92 :: 10 :: r) = true := by simp only [quoteP]; decide
  have hh : ¬ hashP (92 :: 10 :: r) = true := by
    simp only [hashP, show ¬ nv 92 = 35 by decide, decide_false, Bool.false_and]
    simp
  have ha : ¬ atP (92 :: 10 :: r) = true := by
    simp only [atP, show ¬ nv 92 = 64 by decide, decide_false, Bool.false_and]
    simp
  have hn : ¬ 0 < (numberP (92 :: 10 :: r)).2 := by rw [number_no (by decide) (by decide) (by decide) (by decide)]; simp
  have hb : ¬ beginsP (92 :: 10 :: r) = true := by
    rw [beginsP, if_neg (by decide)]
    simp only [escP]
    decide
  rw [firstP, if_neg hsp, if_neg (by simp [Lib.hasPrefix, List.isPrefixOf]), if_neg hq, if_neg hh, if_neg ha, if_neg hn, if_neg hb]
  rfl
theorem bad_11 (u : Bs) : declsP (cutP ([97, 58, 32, 92, 10] ++ 59 :: u)) = declsP (cutP u) := by
  show declsP (cutP (97 :: 58 :: 32 :: 92 :: 10 :: 59 :: u)) = _
  have h1 : cutP (92 :: 10 :: 59 :: u) = ⟨6, [92], [], 0⟩ :: cutP (10 :: 59 :: u) := by
    rw [cutP_cons (by simp), first_back]
    rfl
  rw [cut_let _ (by decide) stop_58, cut_sole _ (by decide), cut_blank (by simp) (by rw [first_back]; decide), h1, space_10, cut_sole _ (by decide)]
  exact none_read (B := [tkL 97, tkD, tkB, ⟨6, [92], [], 0⟩, ⟨8, [10], [], 0⟩]) (by simp) (by
    simp only [List.cons_append, List.nil_append]
    rw [findP_cons, if_neg (by decide), if_neg (by decide), findP_cons, if_neg (by decide), if_neg (by decide), findP_cons, if_neg (by decide), if_neg (by decide), findP_cons, if_neg (by decide), if_neg (by decide), findP_cons, if_neg (by decide), if_neg (by decide), findP_cons, if_pos (by decide)]; rfl)
    (decl_val (t := tkL 97) (r := [tkD, tkB, ⟨6, [92], [], 0⟩]) (c := tkD) (r' := [tkB, ⟨6, [92], [], 0⟩]) (by decide) (by decide) (by
      rw [show (impP [tkB, ⟨6, [92], [], 0⟩]).1 = [⟨6, [92], [], 0⟩] by decide, fairP_cons, if_pos (by decide)]; rfl))

/-- the law's bad ones -/
def badD : Nat → Bs
  | 0 => [120] | 1 => [49, 58, 32, 50] | 2 => [97, 58, 32, 93] | 3 => [97, 58, 32, 39, 98, 10] | 4 => [98, 58] | 5 => [99, 58, 32, 100, 123, 59, 125, 101]
  | 6 => [58] | 7 => [97, 32, 98, 58, 32, 99] | 8 => [47, 42, 32, 59, 32, 42, 47] | 9 => [97, 58, 32, 40, 93, 41] | 10 => [97, 58, 32, 125] | _ => [97, 58, 32, 92, 10]
theorem bad_all : ∀ (i : Nat), i < 12 → ∀ u, declsP (cutP (badD i ++ 59 :: u)) = declsP (cutP u)
  | 0, _, u => bad_0 u | 1, _, u => bad_1 u | 2, _, u => bad_2 u | 3, _, u => bad_3 u | 4, _, u => bad_4 u | 5, _, u => bad_5 u
  | 6, _, u => bad_6 u | 7, _, u => bad_7 u | 8, _, u => bad_8 u | 9, _, u => bad_9 u | 10, _, u => bad_10 u | 11, _, u => bad_11 u
  | n + 12, h, _ => by omega
theorem decl_spoils {s : Bs} {ds : List Dc} (h : DeclsP s = some ds) (i : Nat) (hi : i < 12) (u : Bs) : declsP (cutP (dTexts ds ++ (badD i ++ 59 :: u))) = ds ++ declsP (cutP u) := by
  rw [told_all ds (Decls_told h).1, bad_all i hi]

end Go.Proofs.YtphdmdncboegjaaDoor.rul

namespace Go.Proofs.YtphdmdncboegjaaDoor.rul
open Go.RowKit Go.Proofs.YtphdmdncboegjaaDoor.base Go.Proofs.YtphdmdncboegjaaDoor.tok
set_option linter.unusedVariables false

/-- all of it is silent -/
def Sil (A : List Tk) : Prop := ∀ t ∈ A, silP t = true
theorem endP_sil : ∀ (C M : List Tk), Sil C → endP (M ++ C) = endP M
  | [], M, _ => by rw [List.append_nil]
  | c :: C, M, h => by
    rw [show M ++ c :: C = (M ++ [c]) ++ C by simp, endP_sil C (M ++ [c]) (fun t ht => h t (by simp [ht])), endP_snoc, if_pos (h c (by simp))]
theorem drop_sil : ∀ (A M : List Tk), Sil A → (A ++ M).dropWhile silP = M.dropWhile silP
  | [], M, _ => rfl
  | a :: A, M, h => by
    rw [List.cons_append, List.dropWhile_cons_of_pos (h a (by simp)), drop_sil A M (fun t ht => h t (by simp [ht]))]
theorem solid_of {A M C : List Tk} (hA : Sil A) (hM : Solid M) (hC : Sil C) : solidP (A ++ M ++ C) = M := by
  have h0 := solid_id hM
  unfold solidP at h0 ⊢
  rw [List.append_assoc, drop_sil A _ hA]
  cases M with
  | nil =>
    have : C.dropWhile silP = [] := by
      have := drop_sil C [] hC
      rwa [List.append_nil] at this
    rw [List.nil_append, this]
    rfl
  | cons a M =>
    have ha := hM.1 a rfl
    rw [List.cons_append, List.dropWhile_cons_of_neg (by simp [ha]), ← List.cons_append, endP_sil C _ hC]
    rwa [List.dropWhile_cons_of_neg (by simp [ha])] at h0
theorem fa_list : ∀ (Z : List Tk), (Z.all fun t => !badP t && !opensP t && !decide (t.k = 11) && !semiP t) = true → Fa (fun t => !semiP t) Z
  | [], _ => .nil _
  | t :: Z, h => by
    simp only [List.all_cons, Bool.and_eq_true, Bool.not_eq_true', decide_eq_false_iff_not, badP] at h
    obtain ⟨⟨⟨⟨h1, h2⟩, h3⟩, h4⟩, h5⟩ := h
    exact .cons _ t Z h1 h2 h3 (by simp [h4]) (fa_list Z (by simpa [badP] using h5))
theorem solid_two {a b : Tk} {L : List Tk} (ha : silP a = false) (hb : silP b = false) : Solid (a :: (L ++ [b])) := by
  refine ⟨fun t ht => ?_, fun t ht => ?_⟩
  · obtain rfl : a = t := by simpa using ht
    exact ha
  · rw [show a :: (L ++ [b]) = (a :: L) ++ [b] by simp, List.getLast?_concat] at ht
    obtain rfl : b = t := by simpa using ht
    exact hb
theorem solid_snoc {Q L : List Tk} {b : Tk} (hQ : Solid Q) (h0 : Q ≠ []) (hb : silP b = false) : Solid (Q ++ L ++ [b]) := by
  cases Q with
  | nil => exact absurd rfl h0
  | cons a K =>
    rw [List.cons_append, List.cons_append]
    exact solid_two (hQ.1 a rfl) hb

theorem solid_one {b : Tk} (hb : silP b = false) : Solid [b] := by
  constructor <;>
  · intro t ht
    obtain rfl : b = t := by simpa using ht
    exact hb
theorem sil_one {b : Tk} (hb : silP b = true) : Sil [b] := fun t ht => by
  obtain rfl : t = b := by simpa using ht
  exact hb
/-- a value with such a mark behind -/
theorem imp_marked {Q Z A B : List Tk} {mk im : Tk} (hQ : Solid Q) (hZ : Sil Z) (hA : Sil A) (hB : Sil B) (hmk : markP mk = true) (him : im.k = 1) (hfo : Lib.equalFold im.val impW = true) : impP (Z ++ (Q ++ A ++ mk :: (B ++ [im]))) = (Q, true) := by
  have hm0 : silP mk = false := by
    simp only [markP, rawP, Bool.and_eq_true, decide_eq_true_eq] at hmk
    simp [silP, hmk.1]
  have hi0 : silP im = false := by simp [silP, him]
  have hnil : Sil ([] : List Tk) := fun t ht => by cases ht
  unfold impP
  by_cases h0 : Q = []
  · subst h0
    have e : solidP (Z ++ ([] ++ A ++ mk :: (B ++ [im]))) = mk :: (B ++ [im]) := by
      have := solid_of (A := Z ++ A) (M := mk :: (B ++ [im])) (C := []) (fun t ht => by
        rcases List.mem_append.1 ht with h | h
        · exact hZ t h
        · exact hA t h) (solid_two hm0 hi0) hnil
      simpa using this
    have e2 : solidP (mk :: B) = [mk] := by
      have := solid_of (A := []) (M := [mk]) (C := B) hnil (solid_one hm0) hB
      simpa using this
    rw [e, show mk :: (B ++ [im]) = (mk :: B) ++ [im] by simp, imp_snoc _ _ (by simp), if_pos ⟨him, hfo⟩, e2]
    simp only [List.getLast?_singleton]
    rw [if_pos hmk]
    rfl
  · have e : solidP (Z ++ (Q ++ A ++ mk :: (B ++ [im]))) = Q ++ A ++ mk :: (B ++ [im]) := by
      have := solid_of (A := Z) (M := Q ++ (A ++ mk :: B) ++ [im]) (C := []) hZ (solid_snoc hQ h0 hi0) hnil
      simpa using this
    have e2 : solidP (Q ++ A ++ mk :: B) = Q ++ A ++ [mk] := by
      have := solid_of (A := []) (M := Q ++ A ++ [mk]) (C := B) hnil (solid_snoc hQ h0 hm0) hB
      simpa using this
    have e3 : solidP (Q ++ A) = Q := by
      have := solid_of (A := []) (M := Q) (C := A) hnil hQ hA
      simpa using this
    rw [e, show Q ++ A ++ mk :: (B ++ [im]) = (Q ++ A ++ mk :: B) ++ [im] by simp, imp_snoc _ _ (by simp; omega), if_pos ⟨him, hfo⟩, e2]
    simp only [List.getLast?_append, List.getLast?_singleton, Option.some_or, List.dropLast_concat]
    rw [if_pos hmk, e3]

/-! ### the marks -/
theorem cut_spaces (sp : Bs) (h0 : sp ≠ []) (h : ∀ x ∈ sp, blankB x = true) (c : UInt8) (hc : blankB c = false) (m : Bs) : cutP (sp ++ c :: m) = ⟨8, sp, [], 0⟩ :: cutP (c :: m) := by
  have hsp : spaceP (sp ++ c :: m) = sp.length := by
    unfold spaceP
    have key : ∀ l : Bs, (∀ x ∈ l, blankB x = true) → ((l ++ c :: m).takeWhile blankB) = l := by
      intro l
      induction l with
      | nil => intro _; rw [List.nil_append, List.takeWhile_cons_of_neg (by simp [hc])]
      | cons a l ih =>
        intro hl
        rw [List.cons_append, List.takeWhile_cons_of_pos (hl a (by simp)), ih (fun x hx => hl x (by simp [hx]))]
    rw [key sp h]
  have hp := List.length_pos_iff.2 h0
  have hf : firstP (sp ++ c :: m) = ⟨8, sp, [], 0⟩ := by
    rw [firstP, hsp, if_pos hp, List.take_left]
  rw [cutP_cons (by simp [h0]), hf]
  simp only [List.drop_left]
theorem cut_noted (b r : Bs) {k : Nat} (hi : Lib.index b [42, 47] = (k : Int)) (hb : b.length = k + 2) : cutP (47 :: 42 :: (b ++ r)) = ⟨9, 47 :: 42 :: b, [], 0⟩ :: cutP r := by
  have hsp : ¬ 0 < spaceP (47 :: 42 :: (b ++ r)) := by
    unfold spaceP
    rw [List.takeWhile_cons_of_neg (by decide)]
    simp
  have hix : Lib.index (b ++ r) [42, 47] = (k : Int) := by
    rw [index_ext b r (by rw [hi]; omega), hi]
  have hf : firstP (47 :: 42 :: (b ++ r)) = ⟨9, 47 :: 42 :: b, [], 0⟩ := by
    rw [firstP, if_neg hsp, if_pos (by simp [Lib.hasPrefix, List.isPrefixOf])]
    simp only [noteP, List.drop_succ_cons, List.drop_zero, hix]
    rw [if_pos (by omega), Int.toNat_natCast, show k + 4 = b.length + 1 + 1 by omega]
    simp only [List.take_succ_cons, List.take_left]
  rw [cutP_cons (by simp), hf]
  simp only [List.length_cons, List.drop_succ_cons, List.drop_left]
def impU : Bs := [73, 77, 80, 79, 82, 84, 65, 78, 84]
def impX : Bs := [73, 109, 80, 111, 114, 116, 97, 110, 116]
theorem cut_impU : cutP impU = [⟨1, impU, impU, 0⟩] := by
  have hn : nameP impU = (impU, 9) := by
    unfold impU
    iterate 8 rw [name_cons2, if_neg (by decide), if_pos (by decide)]
    rw [name_cons1, if_pos (by decide)]
  have h1 : namedP 1 impU 0 = ⟨1, impU, impU, 0⟩ := by
    simp only [namedP, List.drop_zero, hn]
    rfl
  have hw : wordP impU = ⟨1, impU, impU, 0⟩ := by
    simp only [wordP, h1]
    decide
  have hf : firstP impU = ⟨1, impU, impU, 0⟩ := by
    rw [firstP, if_neg (by decide), if_neg (by decide), if_neg (by decide), if_neg (by decide), if_neg (by decide), if_neg (by decide), if_pos (by decide), hw]
  rw [cutP_cons (by decide), hf]
  simp [cutP_nil]
theorem cut_impX : cutP impX = [⟨1, impX, impX, 0⟩] := by
  have hn : nameP impX = (impX, 9) := by
    unfold impX
    iterate 8 rw [name_cons2, if_neg (by decide), if_pos (by decide)]
    rw [name_cons1, if_pos (by decide)]
  have h1 : namedP 1 impX 0 = ⟨1, impX, impX, 0⟩ := by
    simp only [namedP, List.drop_zero, hn]
    rfl
  have hw : wordP impX = ⟨1, impX, impX, 0⟩ := by
    simp only [wordP, h1]
    decide
  have hf : firstP impX = ⟨1, impX, impX, 0⟩ := by
    rw [firstP, if_neg (by decide), if_neg (by decide), if_neg (by decide), if_neg (by decide), if_neg (by decide), if_neg (by decide), if_pos (by decide), hw]
  rw [cutP_cons (by decide), hf]
  simp [cutP_nil]
theorem word_stop {W : Bs} (h : cutP W = [⟨1, W, W, 0⟩]) (h0 : W ≠ []) (s : UInt8) (hS : st.Stop s) (m : Bs) : cutP (W ++ s :: m) = ⟨1, W, W, 0⟩ :: cutP (s :: m) := by
  rw [st.cut_apart hS m _ W (Nat.le_refl _) h0 (fun t ht => by
    rw [h] at ht
    obtain rfl : _ = t := by simpa using ht
    exact ⟨by simp, by simp, by simp⟩), h]
  rfl
def markD : Nat → Bs
  | 0 => 33 :: impW
  | 1 => 32 :: 33 :: 32 :: (impU ++ [32])
  | 2 => 47 :: 42 :: 42 :: 47 :: 33 :: 47 :: 42 :: 32 :: 120 :: 32 :: 42 :: 47 :: impW
  | _ => 10 :: 33 :: 10 :: (impX ++ [10])
/-- what a mark is cut into, and what is silent ahead of it where no value is -/
theorem mark_cut (i : Nat) (hi : i < 4) : ∃ (s : UInt8) (m : Bs) (Z A B C : List Tk) (im : Tk), markD i ++ [59] = s :: m ∧ st.Stop s ∧ Sil Z ∧ Sil A ∧ Sil B ∧ Sil C ∧ im.k = 1 ∧ Lib.equalFold im.val impW = true ∧
    (tkM :: (B ++ im :: C)).all (fun t => !badP t && !opensP t && !decide (t.k = 11) && !semiP t) = true ∧
    cutP (s :: m) = A ++ tkM :: (B ++ im :: (C ++ [tkS])) ∧ cutP (32 :: s :: m) = Z ++ tkM :: (B ++ im :: (C ++ [tkS])) ∧
    (Z.all fun t => !badP t && !opensP t && !decide (t.k = 11) && !semiP t) = true ∧ (A.all fun t => !badP t && !opensP t && !decide (t.k = 11) && !semiP t) = true := by
  have h59 : cutP [59] = [tkS] := by rw [cut_sole [] (by decide), cutP_nil]; rfl
  have hsil : ∀ t : Tk, silP t = true → Sil [t] := fun t ht x hx => by
    obtain rfl : x = t := by simpa using hx
    exact ht
  have hnil : Sil ([] : List Tk) := fun t ht => by cases ht
  match i, hi with
  | 0, _ =>
    have h1 : cutP (33 :: (impW ++ [59])) = [tkM, tkI, tkS] := by
      rw [cut_sole _ (by decide), word_stop cut_imp (by decide) 59 stop_59, h59]; rfl
    refine ⟨33, impW ++ [59], [tkB], [], [], [], tkI, rfl, stop_33, hsil _ rfl, hnil, hnil, hnil, rfl, by decide, by decide, h1, ?_, by decide, by decide⟩
    rw [blank_sole _ (by decide), h1]
    rfl
  | 1, _ =>
    have h3 : cutP (impU ++ 32 :: [59]) = [⟨1, impU, impU, 0⟩, tkB, tkS] := by
      rw [word_stop cut_impU (by decide) 32 stop_32, blank_sole _ (by decide), h59]
    have h2 : cutP (33 :: 32 :: (impU ++ 32 :: [59])) = [tkM, tkB, ⟨1, impU, impU, 0⟩, tkB, tkS] := by
      rw [cut_sole _ (by decide), cut_blank (by decide) (by
        rw [cutP_cons (by decide)] at h3
        injection h3 with h4 _
        rw [h4]; decide), h3]
      rfl
    refine ⟨32, 33 :: 32 :: (impU ++ 32 :: [59]), [⟨8, [32, 32], [], 0⟩], [tkB], [tkB], [tkB], ⟨1, impU, impU, 0⟩, ?_, stop_32, hsil _ rfl, hsil _ rfl, hsil _ rfl, hsil _ rfl, rfl, by decide, by decide, ?_, ?_, by decide, by decide⟩
    · simp [markD]
    · rw [blank_sole _ (by decide), h2]
      rfl
    · rw [show (32 :: 32 :: 33 :: 32 :: (impU ++ 32 :: [59]) : Bs) = [32, 32] ++ 33 :: (32 :: (impU ++ 32 :: [59])) by rfl, cut_spaces [32, 32] (by decide) (by decide) 33 (by decide), h2]
      rfl
  | 2, _ =>
    have h3 : cutP (47 :: 42 :: 32 :: 120 :: 32 :: 42 :: 47 :: (impW ++ [59])) = [⟨9, [47, 42, 32, 120, 32, 42, 47], [], 0⟩, tkI, tkS] := by
      rw [show (47 :: 42 :: 32 :: 120 :: 32 :: 42 :: 47 :: (impW ++ [59]) : Bs) = 47 :: 42 :: ([32, 120, 32, 42, 47] ++ (impW ++ [59])) by rfl, cut_noted [32, 120, 32, 42, 47] (impW ++ [59]) (k := 3) (by decide) rfl, word_stop cut_imp (by decide) 59 stop_59, h59]
    have h2 : cutP (33 :: 47 :: 42 :: 32 :: 120 :: 32 :: 42 :: 47 :: (impW ++ [59])) = [tkM, ⟨9, [47, 42, 32, 120, 32, 42, 47], [], 0⟩, tkI, tkS] := by
      rw [cut_sole _ (by decide), h3]
      rfl
    have h1 : cutP (47 :: 42 :: 42 :: 47 :: 33 :: 47 :: 42 :: 32 :: 120 :: 32 :: 42 :: 47 :: (impW ++ [59])) = [⟨9, [47, 42, 42, 47], [], 0⟩, tkM, ⟨9, [47, 42, 32, 120, 32, 42, 47], [], 0⟩, tkI, tkS] := by
      rw [show (47 :: 42 :: 42 :: 47 :: 33 :: 47 :: 42 :: 32 :: 120 :: 32 :: 42 :: 47 :: (impW ++ [59]) : Bs) = 47 :: 42 :: ([42, 47] ++ (33 :: 47 :: 42 :: 32 :: 120 :: 32 :: 42 :: 47 :: (impW ++ [59]))) by rfl, cut_noted [42, 47] _ (k := 0) (by decide) rfl, h2]
    refine ⟨47, 42 :: 42 :: 47 :: 33 :: 47 :: 42 :: 32 :: 120 :: 32 :: 42 :: 47 :: (impW ++ [59]), [tkB, ⟨9, [47, 42, 42, 47], [], 0⟩], [⟨9, [47, 42, 42, 47], [], 0⟩], [⟨9, [47, 42, 32, 120, 32, 42, 47], [], 0⟩], [], tkI, by simp [markD], by unfold st.Stop; decide, ?_, hsil _ rfl, hsil _ rfl, hnil, rfl, by decide, by decide, h1, ?_, by decide, by decide⟩
    · intro t ht
      simp only [List.mem_cons, List.not_mem_nil, or_false] at ht
      rcases ht with rfl | rfl <;> rfl
    · rw [cut_blank (by decide) (by
        rw [cutP_cons (by decide)] at h1
        injection h1 with h4 _
        rw [h4]; decide), h1]
      rfl
  | 3, _ =>
    have h3 : cutP (impX ++ 10 :: [59]) = [⟨1, impX, impX, 0⟩, ⟨8, [10], [], 0⟩, tkS] := by
      rw [word_stop cut_impX (by decide) 10 stop_10, space_10, h59]
    have h2 : cutP (33 :: 10 :: (impX ++ 10 :: [59])) = [tkM, ⟨8, [10], [], 0⟩, ⟨1, impX, impX, 0⟩, ⟨8, [10], [], 0⟩, tkS] := by
      rw [cut_sole _ (by decide), show (10 :: (impX ++ 10 :: [59]) : Bs) = [10] ++ 73 :: ([109, 80, 111, 114, 116, 97, 110, 116] ++ 10 :: [59]) by rfl, cut_spaces [10] (by decide) (by decide) 73 (by decide)]
      rw [show (73 :: ([109, 80, 111, 114, 116, 97, 110, 116] ++ 10 :: [59]) : Bs) = impX ++ 10 :: [59] by rfl, h3]
      rfl
    refine ⟨10, 33 :: 10 :: (impX ++ 10 :: [59]), [⟨8, [32, 10], [], 0⟩], [⟨8, [10], [], 0⟩], [⟨8, [10], [], 0⟩], [⟨8, [10], [], 0⟩], ⟨1, impX, impX, 0⟩, ?_, stop_10, hsil _ rfl, hsil _ rfl, hsil _ rfl, hsil _ rfl, rfl, by decide, by decide, ?_, ?_, by decide, by decide⟩
    · simp [markD]
    · rw [show (10 :: 33 :: 10 :: (impX ++ 10 :: [59]) : Bs) = [10] ++ 33 :: (10 :: (impX ++ 10 :: [59])) by rfl, cut_spaces [10] (by decide) (by decide) 33 (by decide), h2]
      rfl
    · rw [show (32 :: 10 :: 33 :: 10 :: (impX ++ 10 :: [59]) : Bs) = [32, 10] ++ 33 :: (10 :: (impX ++ 10 :: [59])) by rfl, cut_spaces [32, 10] (by decide) (by decide) 33 (by decide), h2]
      rfl
  | n + 4, h => omega

def markText (d : Dc) (i : Nat) : Bs := d.name ++ [32, 58, 32] ++ d.val ++ markD i ++ [59]
theorem told_marked {N : Nat} {d : Dc} (h : Told N d) (i : Nat) (hi : i < 4) : declsP (cutP (markText d i)) = [⟨d.name, d.val, true⟩] := by
  obtain ⟨V, post, hc, hfa, hs, hv, hpl, hnm, hown, _, _, _⟩ := h
  obtain ⟨x, hx⟩ := plain_stop hpl stop_32
  have hraw : ∀ x ∈ V, x.raw ≠ [] := fun x hx => by
    have := cut_full (textOf (V ++ post)) x
    rw [hc] at this
    exact this (by simp [hx])
  obtain ⟨s, m, Z, A, B, C, im, hmk, hS, hZ, hA, hB, hC, him, hfo, hall, hcut, hcut0, hZa, hAa⟩ := mark_cut i hi
  have hi0 : silP im = false := by simp [silP, him]
  have hsq := fa_sq hfa (by decide) false
  have hQ := sq_solid hs
  have hv2 := head_again hs hraw
  have e : markText d i = d.name ++ 32 :: (58 :: (32 :: (headP V ++ s :: m))) := by
    unfold markText
    rw [hv]
    rw [show d.name ++ [32, 58, 32] ++ headP V ++ markD i ++ [59] = d.name ++ [32, 58, 32] ++ headP V ++ (markD i ++ [59]) by simp, hmk]
    simp
  -- one shape, whether there is a value or none
  have hsh : ∃ Z' A' : List Tk, Sil Z' ∧ Sil A' ∧ (Z'.all fun t => !badP t && !opensP t && !decide (t.k = 11) && !semiP t) = true ∧ (A'.all fun t => !badP t && !opensP t && !decide (t.k = 11) && !semiP t) = true ∧
      cutP (32 :: (headP V ++ s :: m)) = Z' ++ (sqF false V ++ A' ++ tkM :: (B ++ [im])) ++ C ++ [tkS] := by
    by_cases h0 : V = []
    · subst h0
      refine ⟨Z, [], hZ, (fun t ht => by cases ht), hZa, rfl, ?_⟩
      show cutP (32 :: s :: m) = _
      rw [hcut0]
      simp [sqF]
    · refine ⟨[tkB], A, fun t ht => by
        obtain rfl : t = tkB := by simpa using ht
        rfl, hA, by decide, hAa, ?_⟩
      have hX := val_cut hc (fa_bad hfa) hs hS m
      rw [cut_blank (by simp) ?_, hX, hcut]
      · simp
      · intro hk
        rw [cutP_cons (by simp)] at hX
        cases hq : sqF false V with
        | nil => exact h0 (sq_nil hs hq)
        | cons a K =>
          rw [hq] at hX
          injection hX with h1 h2
          have := hQ.1 a (by rw [hq]; rfl)
          rw [← h1] at this
          simp only [silP, hk, decide_true, Bool.true_or] at this
          cases this
  obtain ⟨Z', A', hZ', hA', hZb, hAb, hsh⟩ := hsh
  rw [e, hx, blank_sole _ (by decide), cut_sole _ (by decide), hsh]
  have himp := imp_marked (mk := tkM) hQ hZ' hA' hB (by decide) him hfo
  generalize hq : sqF false V = Q at *
  have hP : Fa (fun t => !semiP t) (tkN d.name x :: tkB :: tkD :: (Z' ++ (Q ++ A' ++ tkM :: (B ++ [im])) ++ C)) := by
    refine .cons _ _ _ (by simp) (by simp [opensP]) (by simp) (by simp [semiP, rawP]) (.cons _ _ _ (by decide) (by decide) (by decide) (by decide) (.cons _ _ _ (by decide) (by decide) (by decide) (by decide) ?_))
    have h1 := fa_list _ hall
    rw [show Z' ++ (Q ++ A' ++ tkM :: (B ++ [im])) ++ C = Z' ++ (Q ++ (A' ++ (tkM :: (B ++ im :: C)))) by simp]
    exact fa_app (fa_list _ hZb) (fa_app hsq (fa_app (fa_list _ hAb) h1))
  have hd : declP (tkN d.name x :: tkB :: tkD :: (Z' ++ (Q ++ A' ++ tkM :: (B ++ [im])) ++ C)) = (⟨d.name, d.val, true⟩, true) := by
    have hn0 : silP (tkN d.name x) = false := by simp [silP]
    have hnil : Sil ([] : List Tk) := fun t ht => by cases ht
    have h1 : solidP (tkN d.name x :: tkB :: tkD :: (Z' ++ (Q ++ A' ++ tkM :: (B ++ [im])) ++ C)) = tkN d.name x :: tkB :: tkD :: (Z' ++ (Q ++ A' ++ tkM :: (B ++ [im]))) := by
      have := solid_of (A := []) (M := tkN d.name x :: ((tkB :: tkD :: (Z' ++ (Q ++ A' ++ tkM :: B))) ++ [im])) (C := C) hnil (solid_two hn0 hi0) hC
      simpa using this
    have h2 : solidP (tkB :: tkD :: (Z' ++ (Q ++ A' ++ tkM :: (B ++ [im])))) = tkD :: (Z' ++ (Q ++ A' ++ tkM :: (B ++ [im]))) := by
      have := solid_of (A := [tkB]) (M := tkD :: ((Z' ++ (Q ++ A' ++ tkM :: B)) ++ [im])) (C := []) (fun t ht => by
        obtain rfl : t = tkB := by simpa using ht
        rfl) (solid_two rfl hi0) hnil
      simpa using this
    unfold declP
    rw [h1]
    unfold declM
    simp only [if_true]
    rw [h2]
    simp only [declB]
    rw [hnm, hpl, if_pos (by decide), himp]
    simp only
    rw [hv2, fa_fair hsq, ← hv]
    refine Prod.ext rfl ?_
    simp only [Bool.true_and, Bool.or_eq_true, decide_eq_true_eq]
    exact hown
  have hfind : findP semiP ((tkN d.name x :: tkB :: tkD :: (Z' ++ (Q ++ A' ++ tkM :: (B ++ [im])) ++ C)) ++ [tkS]) = (tkN d.name x :: tkB :: tkD :: (Z' ++ (Q ++ A' ++ tkM :: (B ++ [im])) ++ C)).length := by
    rw [find_fa hP semiP (fun t ht => by simpa using ht), findP_cons, if_pos (by decide)]
    rfl
  show declsP ((tkN d.name x :: tkB :: tkD :: (Z' ++ (Q ++ A' ++ tkM :: (B ++ [im])) ++ C)) ++ [tkS]) = _
  generalize tkN d.name x :: tkB :: tkD :: (Z' ++ (Q ++ A' ++ tkM :: (B ++ [im])) ++ C) = P at *
  rw [declsP_cons (by simp), hfind, List.take_left, hd, if_pos rfl]
  rw [show (P ++ [tkS]).drop (P.length + 1) = [] by rw [List.drop_eq_nil_of_le (by simp)], declsP_nil]
  rfl

end Go.Proofs.YtphdmdncboegjaaDoor.rul
