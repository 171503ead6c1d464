/- Contracts and plain law, a bundle: RulH0 RulLg0 RulF0 RulF1 RulS0 RulS2 RulS3 RulS4. -/
import Derived.Test.YtaihncbejhnceaaDoorBF
import Derived.Test.YtaihncbejhnceaaDoorBC
import Derived.Test.YtaihncbejhnceaaDoorBL

namespace Go.Proofs.YtaihncbejhnceaaDoor.rul
open Go.RowKit Go.Proofs.YtaihncbejhnceaaDoor.base Go.Proofs.YtaihncbejhnceaaDoor.tok
set_option linter.unusedVariables false

set_option maxRecDepth 100000 in
set_option maxHeartbeats 4000000 in
theorem Parse_huge (s : Bs) (h3 : 3000 < s.length) (w : World) :
    Calls Tryd.prog 13 #[.string (bs s)] w fun e w' => e = .returned (.tuple #[.slice none 0 0, .int .i64 2]) ∧ Below w.heap.size w w' := by
  have hz : (3000 : Int) < ((bs s).size : Int) := by rw [bs_size]; omega
  go_enter Tryd.func13, Tryd.ntmps13
  go_wp2_with fail
  go_ret2
  exact ⟨rfl, Below.refl _ _⟩

/-- .. of a text of any length -/
theorem Parse_any (s : Bs) (w : World) (hF : FoldAt w) (hm : MaxL w) :
    Calls Tryd.prog 13 #[.string (bs s)] w fun e w' => (match ParseP s with | none => e = .returned (.tuple #[.slice none 0 0, .int .i64 2]) | some R => ∃ v', e = .returned (.tuple #[v', .int .i64 0]) ∧ RSl w' v' R ∧ fullG R ≤ 3000) ∧ Below w.heap.size w w' := by
  by_cases h : 3000 < s.length
  · have : ParseP s = none := by unfold ParseP; rw [if_pos h]
    rw [this]
    exact Parse_huge s h w
  · exact Parse_ct s (by omega) w hF hm
theorem Parse_none (s : Bs) (h : ParseP s = none) (w : World) (hF : FoldAt w) (hm : MaxL w) :
    Calls Tryd.prog 13 #[.string (bs s)] w fun e w' => e = .returned (.tuple #[.slice none 0 0, .int .i64 2]) ∧ Below w.heap.size w w' := by
  have := Parse_any s w hF hm
  rw [h] at this
  exact this
theorem Parse_some (s : Bs) (R : List Rl) (h : ParseP s = some R) (w : World) (hF : FoldAt w) (hm : MaxL w) :
    Calls Tryd.prog 13 #[.string (bs s)] w fun e w' => (∃ v', e = .returned (.tuple #[v', .int .i64 0]) ∧ RSl w' v' R ∧ fullG R ≤ 3000) ∧ Below w.heap.size w w' := by
  have := Parse_any s w hF hm
  rw [h] at this
  exact this
end Go.Proofs.YtaihncbejhnceaaDoor.rul

namespace Go.Proofs.YtaihncbejhnceaaDoor.rul
open Go.RowKit Go.Proofs.YtaihncbejhnceaaDoor.base Go.Proofs.YtaihncbejhnceaaDoor.tok
set_option linter.unusedVariables false

/-- a sign that is a token by itself, whatever is behind it -/
def Sole (c : UInt8) : Prop := blankB c = false ∧ ¬ nv c = 47 ∧ ¬ nv c = 39 ∧ ¬ nv c = 34 ∧ ¬ nv c = 35 ∧ ¬ nv c = 64 ∧ ¬ nv c = 43 ∧ ¬ nv c = 45 ∧ ¬ nv c = 46 ∧ digI (nv c) = false ∧ startsI (nv c) = false ∧ ¬ nv c = 92
instance (c : UInt8) : Decidable (Sole c) := by unfold Sole; infer_instance
theorem first_sole {c : UInt8} (r : Bs) (h : Sole c) : firstP (c :: r) = ⟨oneK [c], [c], [], 0⟩ := by
  obtain ⟨hb, h47, h39, h34, h35, h64, h43, h45, h46, hd, hst, h92⟩ := h
  have hsp : ¬ 0 < spaceP (c :: r) := by
    unfold spaceP
    rw [List.takeWhile_cons_of_neg (by simp [hb])]
    simp
  have hn : ¬ Lib.hasPrefix (c :: r) [47, 42] = true := by
    have : ¬ 47 = c := fun e => h47 (by rw [← e]; rfl)
    simp [Lib.hasPrefix, List.isPrefixOf, this]
  have hq : ¬ quoteP (c :: r) = true := by simp [quoteP, h39, h34]
  have hh : ¬ hashP (c :: r) = true := by cases r <;> simp [hashP, h35]
  have ha : ¬ atP (c :: r) = true := by simp [atP, h64]
  have hnum : ¬ 0 < (numberP (c :: r)).2 := by rw [number_no h43 h45 h46 hd]; simp
  have hbg : ¬ beginsP (c :: r) = true := by
    cases r with
    | nil => simp [beginsP, hst]
    | cons d r => simp [beginsP, hst, h45, escP, h92]
  rw [firstP, if_neg hsp, if_neg hn, if_neg hq, if_neg hh, if_neg ha, if_neg hnum, if_neg hbg]
  rfl
theorem cut_sole {c : UInt8} (r : Bs) (h : Sole c) : cutP (c :: r) = ⟨oneK [c], [c], [], 0⟩ :: cutP r := by
  rw [cutP_cons (by simp), first_sole r h]
  rfl
theorem cut_a (r : Bs) : cutP (97 :: 123 :: r) = ⟨1, [97], [97], 0⟩ :: cutP (123 :: r) := by
  have hS : st.Stop 123 := by unfold st.Stop; decide
  have hn : nameP (97 :: 123 :: r) = ([97], 1) := by
    rw [name_cons2, if_neg (by simp [escP]; decide), if_pos (by decide), st.name_blank hS r]
  have h1 : namedP 1 (97 :: 123 :: r) 0 = ⟨1, [97], [97], 0⟩ := by
    simp only [namedP, List.drop_zero, hn]
    rfl
  have hw : wordP (97 :: 123 :: r) = ⟨1, [97], [97], 0⟩ := by
    simp only [wordP, h1]
    rw [if_neg (by simp [Lib.hasPrefix, List.isPrefixOf])]
  have hsp : ¬ 0 < spaceP (97 :: 123 :: r) := by
    unfold spaceP
    rw [List.takeWhile_cons_of_neg (by decide)]
    simp
  have hnt : ¬ Lib.hasPrefix (97 :: 123 :: r) [47, 42] = true := by simp [Lib.hasPrefix, List.isPrefixOf]
  have hnum : ¬ 0 < (numberP (97 :: 123 :: r)).2 := by rw [number_no (by decide) (by decide) (by decide) (by decide)]; simp
  have hq : ¬ quoteP (97 :: 123 :: r) = true := by simp [quoteP]; decide
  have hh : ¬ hashP (97 :: 123 :: r) = true := by
    simp only [hashP, show ¬ nv 97 = 35 by decide, decide_false, Bool.false_and]
    simp
  have ha : ¬ atP (97 :: 123 :: r) = true := by
    simp only [atP, show ¬ nv 97 = 64 by decide, decide_false, Bool.false_and]
    simp
  have hb : beginsP (97 :: 123 :: r) = true := by
    rw [beginsP, if_neg (by decide), Bool.or_eq_true]
    exact .inl (by decide)
  have hf : firstP (97 :: 123 :: r) = ⟨1, [97], [97], 0⟩ := by
    rw [firstP, if_neg hsp, if_neg hnt, if_neg hq, if_neg hh, if_neg ha, if_neg hnum, if_pos hb, hw]
  rw [cutP_cons (by simp), hf]
  rfl

abbrev tkA : Tk := ⟨1, [97], [97], 0⟩
abbrev tkO : Tk := ⟨10, [123], [], 0⟩
abbrev tkC : Tk := ⟨11, [125], [], 0⟩
abbrev tkB : Tk := ⟨8, [32], [], 0⟩
def trip : Nat → List Tk
  | 0 => []
  | k + 1 => tkA :: tkO :: tkC :: trip k
def sheet : Nat → Nat → Bs
  | 0, b => List.replicate b 32
  | k + 1, b => 97 :: 123 :: 125 :: sheet k b
def blanks (b : Nat) : List Tk := if b = 0 then [] else [⟨8, List.replicate b 32, [], 0⟩]
theorem sheet_len : ∀ k b, (sheet k b).length = 3 * k + b
  | 0, b => by simp [sheet]
  | k + 1, b => by simp only [sheet, List.length_cons, sheet_len k b]; omega
theorem cut_blanks (b : Nat) : cutP (List.replicate b 32) = blanks b := by
  unfold blanks
  by_cases hb : b = 0
  · subst hb; exact cutP_nil
  · rw [if_neg hb]
    have hsp : spaceP (List.replicate b 32) = b := by
      unfold spaceP
      have : (List.replicate b (32 : UInt8)).takeWhile blankB = List.replicate b 32 := by
        rw [List.takeWhile_replicate]
        rfl
      rw [this, List.length_replicate]
    have hne : List.replicate b (32 : UInt8) ≠ [] := by simpa using hb
    have hf : firstP (List.replicate b 32) = ⟨8, List.replicate b 32, [], 0⟩ := by
      rw [firstP, if_pos (by rw [hsp]; omega), hsp, List.take_of_length_le (by simp)]
    rw [cutP_cons hne, hf]
    simp [cutP_nil]
theorem cut_sheet : ∀ k b, cutP (sheet k b) = trip k ++ blanks b
  | 0, b => cut_blanks b
  | k + 1, b => by
    rw [sheet, cut_a, cut_sole _ (by decide), cut_sole _ (by decide), cut_sheet k b]
    rfl

theorem trip_snoc : ∀ k, trip (k + 1) = trip k ++ [tkA, tkO, tkC]
  | 0 => rfl
  | k + 1 => by
    show tkA :: tkO :: tkC :: trip (k + 1) = (tkA :: tkO :: tkC :: trip k) ++ [tkA, tkO, tkC]
    rw [trip_snoc k]
    simp
theorem solid_trip (k b : Nat) : solidP (trip (k + 1) ++ blanks b) = trip (k + 1) := by
  have h1 : (trip (k + 1) ++ blanks b).dropWhile silP = trip (k + 1) ++ blanks b := by
    simp only [trip, List.cons_append]
    rw [List.dropWhile_cons_of_neg (by decide)]
  have h2 : endP (trip (k + 1)) = trip (k + 1) := by
    rw [trip_snoc, show trip k ++ [tkA, tkO, tkC] = (trip k ++ [tkA, tkO]) ++ [tkC] by simp, endP_snoc, if_neg (by decide)]
  unfold solidP
  rw [h1]
  unfold blanks
  split
  · rw [List.append_nil, h2]
  · rw [endP_snoc, if_pos (by rfl), h2]
theorem solid_blanks (b : Nat) : solidP (blanks b) = [] := by
  unfold solidP blanks
  split
  · rfl
  · rw [List.dropWhile_cons_of_pos (by rfl)]
    rfl

def ruleA : Rl := .mk false [97] [] []
theorem rules_sheet (sub : Option (List Tk → List Rl)) : ∀ k b, rulesW sub (trip k ++ blanks b) = List.replicate k ruleA
  | 0, b => by rw [trip, List.nil_append]; exact rulesW_nil (solid_blanks b)
  | k + 1, b => by
    have hf : findP (beginsR (decide (tkA.k = 3))) (trip (k + 1)) = 1 := by
      simp only [trip]
      rw [findP_cons, if_neg (by decide), if_neg (by decide), findP_cons, if_pos (by decide)]
    have hc : closeP [closerP tkO.raw] (tkC :: trip k) = some 1 := by
      rw [closeP, if_neg (by decide), if_pos (by decide), if_pos (by decide)]
    have hl : blkLen tkO (tkC :: trip k) = 2 := by unfold blkLen; rw [hc]
    have hi : innP tkO (tkC :: trip k) = [] := by
      unfold innP blkOk
      rw [hl, hc]
      rfl
    have hr : ruleW sub [tkA] [] = some ruleA := by
      unfold ruleW
      rw [if_neg (by decide)]
      simp only
      rw [if_neg (by decide), declsP_nil]
      rfl
    have hfd := hf
    simp only [trip] at hfd
    rw [rulesW_some (t := tkA) (r := tkO :: tkC :: trip k) (b := tkO) (rest := tkC :: trip k) (solid_trip k b) (by rw [hfd]; rfl), if_pos (by decide), hfd, hi, hl]
    simp only [List.take_succ_cons, List.take_zero, hr, Option.toList]
    have ih := rules_sheet sub k 0
    rw [show blanks 0 = [] from rfl, List.append_nil] at ih
    show [ruleA] ++ rulesW sub (trip k) = _
    rw [ih, List.replicate_succ]
    rfl
theorem many_sheet : ∀ (k n : Nat), manyG n (List.replicate k ruleA) = (n, false)
  | 0, n => by simp [manyG]
  | k + 1, n => by
    have hA : manyR ruleA = (0, false) := by simp [ruleA, manyR, manyG]
    rw [List.replicate_succ, manyG, hA]
    exact many_sheet k n
theorem parse_sheet (k b : Nat) : ParseP (sheet k b) = if 3000 < 3 * k + b then none else if 60 < k then none else some (List.replicate k ruleA) := by
  unfold ParseP
  have hr : rulesP 3 (cutP (sheet k b)) = List.replicate k ruleA := by rw [rulesP_is, cut_sheet, rules_sheet]
  have hm : manyP (List.replicate k ruleA) = (k, false) := by unfold manyP; rw [many_sheet, List.length_replicate]
  rw [sheet_len, hr, hm]
  simp

end Go.Proofs.YtaihncbejhnceaaDoor.rul

namespace Go.Proofs.YtaihncbejhnceaaDoor.rul
open Go.RowKit Go.Proofs.YtaihncbejhnceaaDoor.base Go.Proofs.YtaihncbejhnceaaDoor.tok
set_option linter.unusedVariables false

/-- a letter, and a sign behind it that ends it -/
theorem first_let {c s : UInt8} (r : Bs) (hc : 97 ≤ nv c ∧ nv c ≤ 122) (hS : st.Stop s) : firstP (c :: s :: r) = ⟨1, [c], [c], 0⟩ := by
  have h92 : ¬ nv c = 92 := by omega
  have hsg : signI (nv c) = true := by
    have : startsI (nv c) = true := by unfold startsI; simp; omega
    simp [signI, this]
  have hbl : blankB c = false := by
    have n1 : ¬ c = 32 := fun e => by rw [e] at hc; exact absurd hc.1 (by decide)
    have n2 : ¬ c = 9 := fun e => by rw [e] at hc; exact absurd hc.1 (by decide)
    have n3 : ¬ c = 10 := fun e => by rw [e] at hc; exact absurd hc.1 (by decide)
    have n4 : ¬ c = 12 := fun e => by rw [e] at hc; exact absurd hc.1 (by decide)
    have n5 : ¬ c = 13 := fun e => by rw [e] at hc; exact absurd hc.1 (by decide)
    simp [blankB, n1, n2, n3, n4, n5]
  have hn : nameP (c :: s :: r) = ([c], 1) := by
    rw [name_cons2, if_neg (by simp [escP, h92]), if_pos hsg, st.name_blank hS r]
  have h1 : namedP 1 (c :: s :: r) 0 = ⟨1, [c], [c], 0⟩ := by
    simp only [namedP, List.drop_zero, hn]
    rfl
  have hw : wordP (c :: s :: r) = ⟨1, [c], [c], 0⟩ := by
    have n40 : ¬ 40 = s := fun e => hS.2.2.2.2.1 (by rw [← e]; rfl)
    simp only [wordP, h1]
    rw [if_neg (by simp [Lib.hasPrefix, List.isPrefixOf, n40])]
  have hsp : ¬ 0 < spaceP (c :: s :: r) := by
    unfold spaceP
    rw [List.takeWhile_cons_of_neg (by simp [hbl])]
    simp
  have hnt : ¬ Lib.hasPrefix (c :: s :: r) [47, 42] = true := by
    have : ¬ 47 = c := fun e => by rw [← e] at hc; exact absurd hc.1 (by decide)
    simp [Lib.hasPrefix, List.isPrefixOf, this]
  have hnum : ¬ 0 < (numberP (c :: s :: r)).2 := by rw [number_no (by omega) (by omega) (by omega) (by simp [digI]; omega)]; simp
  have hq : ¬ quoteP (c :: s :: r) = true := by
    have a1 : ¬ nv c = 39 := by omega
    have a2 : ¬ nv c = 34 := by omega
    simp [quoteP, a1, a2]
  have hh : ¬ hashP (c :: s :: r) = true := by
    have a1 : ¬ nv c = 35 := by omega
    simp [hashP, a1]
  have ha : ¬ atP (c :: s :: r) = true := by
    have a1 : ¬ nv c = 64 := by omega
    simp [atP, a1]
  have hb : beginsP (c :: s :: r) = true := by
    rw [beginsP, if_neg (by omega), Bool.or_eq_true]
    exact .inl (by simp [startsI]; omega)
  rw [firstP, if_neg hsp, if_neg hnt, if_neg hq, if_neg hh, if_neg ha, if_neg hnum, if_pos hb, hw]
theorem cut_let {c s : UInt8} (r : Bs) (hc : 97 ≤ nv c ∧ nv c ≤ 122) (hS : st.Stop s) : cutP (c :: s :: r) = ⟨1, [c], [c], 0⟩ :: cutP (s :: r) := by
  rw [cutP_cons (by simp), first_let r hc hS]
  rfl
theorem stop_32 : st.Stop 32 := by unfold st.Stop; decide
theorem stop_58 : st.Stop 58 := by unfold st.Stop; decide

def factT : List Tk := [tkA, tkB, tkO, tkB, ⟨1, [98], [98], 0⟩, ⟨12, [58], [], 0⟩, tkB, ⟨1, [99], [99], 0⟩, tkB, tkC]
theorem cut_ruleFact : cutP [97, 32, 123, 32, 98, 58, 32, 99, 32, 125] = factT := by
  rw [cut_let _ (by decide) stop_32, cut_blank (by simp) (by rw [first_sole _ (by decide)]; decide), cut_sole _ (by decide)]
  rw [cut_blank (by simp) (by rw [first_let _ (by decide) stop_58]; decide), cut_let _ (by decide) stop_58, cut_sole _ (by decide)]
  rw [cut_blank (by simp) (by rw [first_let _ (by decide) stop_32]; decide), cut_let _ (by decide) stop_32, cut_blank (by simp) (by rw [first_sole _ (by decide)]; decide), cut_sole _ (by decide), cutP_nil]
  rfl
theorem cut_b : cutP [98] = [⟨1, [98], [98], 0⟩] := by
  have hn : nameP [98] = ([98], 1) := by rw [name_cons1, if_pos (by decide)]
  have h1 : namedP 1 [98] 0 = ⟨1, [98], [98], 0⟩ := by
    simp only [namedP, List.drop_zero, hn]
    rfl
  have hw : wordP [98] = ⟨1, [98], [98], 0⟩ := by
    simp only [wordP, h1]
    decide
  have hf : firstP [98] = ⟨1, [98], [98], 0⟩ := by
    rw [firstP, if_neg (by decide), if_neg (by decide), if_neg (by decide), if_neg (by decide), if_neg (by decide), if_neg (by decide), if_pos (by decide), hw]
  rw [cutP_cons (by decide), hf]
  simp [cutP_nil]
def factD : Dc := ⟨[98], [99], false⟩
def factR : List Rl := [.mk false [97] [factD] []]
theorem decl_fact : declP [tkB, ⟨1, [98], [98], 0⟩, ⟨12, [58], [], 0⟩, tkB, ⟨1, [99], [99], 0⟩, tkB] = (factD, true) := by
  have h1 : solidP [tkB, ⟨1, [98], [98], 0⟩, ⟨12, [58], [], 0⟩, tkB, ⟨1, [99], [99], 0⟩, tkB] = [⟨1, [98], [98], 0⟩, ⟨12, [58], [], 0⟩, tkB, ⟨1, [99], [99], 0⟩] := by decide
  have h2 : solidP [⟨12, [58], [], 0⟩, tkB, ⟨1, [99], [99], 0⟩] = [⟨12, [58], [], 0⟩, tkB, ⟨1, [99], [99], 0⟩] := by decide
  have h3 : impP [tkB, ⟨1, [99], [99], 0⟩] = ([⟨1, [99], [99], 0⟩], false) := by decide
  have h4 : fairP [⟨1, [99], [99], 0⟩] = true := by rw [fairP_cons, if_neg (by decide), if_neg (by decide), fairP_nil]
  have h5 : plainP (nameD [98]) = true := by
    unfold plainP
    rw [show nameD [98] = [98] by decide, cut_b]
    decide
  unfold declP
  rw [h1]
  unfold declM
  simp only [if_pos]
  rw [h2]
  simp only [declB]
  rw [if_pos (by rw [h5]; decide), h3]
  simp only [h4]
  decide
theorem rules_fact : rulesP 3 factT = factR := by
  have hs : solidP factT = factT := by decide
  have hf : findP (beginsR (decide (tkA.k = 3))) factT = 2 := by
    unfold factT
    rw [findP_cons, if_neg (by decide), if_neg (by decide), findP_cons, if_neg (by decide), if_neg (by decide), findP_cons, if_pos (by decide)]
  have hc : closeP [closerP tkO.raw] [tkB, ⟨1, [98], [98], 0⟩, ⟨12, [58], [], 0⟩, tkB, ⟨1, [99], [99], 0⟩, tkB, tkC] = some 7 := by decide
  have hl : blkLen tkO [tkB, ⟨1, [98], [98], 0⟩, ⟨12, [58], [], 0⟩, tkB, ⟨1, [99], [99], 0⟩, tkB, tkC] = 8 := by unfold blkLen; rw [hc]
  have hi : innP tkO [tkB, ⟨1, [98], [98], 0⟩, ⟨12, [58], [], 0⟩, tkB, ⟨1, [99], [99], 0⟩, tkB, tkC] = [tkB, ⟨1, [98], [98], 0⟩, ⟨12, [58], [], 0⟩, tkB, ⟨1, [99], [99], 0⟩, tkB] := by
    unfold innP blkOk
    rw [hl, hc]
    rfl
  have hd : declsP [tkB, ⟨1, [98], [98], 0⟩, ⟨12, [58], [], 0⟩, tkB, ⟨1, [99], [99], 0⟩, tkB] = [factD] := by
    have h6 : findP semiP [tkB, ⟨1, [98], [98], 0⟩, ⟨12, [58], [], 0⟩, tkB, ⟨1, [99], [99], 0⟩, tkB] = 6 := by
      rw [findP_cons, if_neg (by decide), if_neg (by decide), findP_cons, if_neg (by decide), if_neg (by decide), findP_cons, if_neg (by decide), if_neg (by decide), findP_cons, if_neg (by decide), if_neg (by decide), findP_cons, if_neg (by decide), if_neg (by decide), findP_cons, if_neg (by decide), if_neg (by decide), findP_nil]
    rw [declsP_cons (by simp), h6]
    simp only [List.take_succ_cons, List.take_nil, List.drop_succ_cons, List.drop_nil, decl_fact, declsP_nil]
    rfl
  have hr : ruleW (subP 3) [tkA, tkB] [tkB, ⟨1, [98], [98], 0⟩, ⟨12, [58], [], 0⟩, tkB, ⟨1, [99], [99], 0⟩, tkB] = some (.mk false [97] [factD] []) := by
    unfold ruleW
    rw [if_neg (by decide)]
    simp only
    rw [if_neg (by decide), hd]
    have hh : headP [tkA, tkB] = [97] := by decide
    rw [hh]
  have hfd := hf
  unfold factT at hfd
  rw [rulesP_is, rulesW_some (t := tkA) (r := [tkB, tkO, tkB, ⟨1, [98], [98], 0⟩, ⟨12, [58], [], 0⟩, tkB, ⟨1, [99], [99], 0⟩, tkB, tkC]) (b := tkO) (rest := [tkB, ⟨1, [98], [98], 0⟩, ⟨12, [58], [], 0⟩, tkB, ⟨1, [99], [99], 0⟩, tkB, tkC]) hs (by rw [hfd]; rfl), if_pos (by decide), hfd, hi, hl]
  simp only [List.take_succ_cons, List.take_zero, List.drop_succ_cons, List.drop_zero, hr, Option.toList]
  rw [rulesW_nil (by decide)]
  rfl
theorem parse_fact : ParseP [97, 32, 123, 32, 98, 58, 32, 99, 32, 125] = some factR := by
  unfold ParseP
  have hm : manyP factR = (1, false) := by simp [manyP, factR, factD, manyG, manyR]
  rw [cut_ruleFact, rules_fact, hm]
  simp

end Go.Proofs.YtaihncbejhnceaaDoor.rul

namespace Go.Proofs.YtaihncbejhnceaaDoor.rul
open Go.RowKit Go.Proofs.YtaihncbejhnceaaDoor.base Go.Proofs.YtaihncbejhnceaaDoor.tok
set_option linter.unusedVariables false

/-- the rule that the law writes out -/
theorem fact_rs (W1 : World) (T1 T2 : TypeId) : RSl ((W1.alloc (.cells #[.string ⟨#[98]⟩, .string ⟨#[99]⟩, .bool false] T1)).alloc (.cells #[.bool false, .string ⟨#[97]⟩, .slice (some ⟨W1.heap.size, 0, none⟩) 1 1, .slice none 0 0] T2)) (.slice (some ⟨W1.heap.size + 1, 0, none⟩) 1 1) factR := by
  have h1 := (Blk.new (w := W1) (t := T1) (cs := #[.string ⟨#[98]⟩, .string ⟨#[99]⟩, .bool false]) rfl).alloc (.cells #[.bool false, .string ⟨#[97]⟩, .slice (some ⟨W1.heap.size, 0, none⟩) 1 1, .slice none 0 0] T2)
  have h2 := Blk.new (w := W1.alloc (.cells #[.string ⟨#[98]⟩, .string ⟨#[99]⟩, .bool false] T1)) (k := W1.heap.size + 1) (t := T2) (cs := #[.bool false, .string ⟨#[97]⟩, .slice (some ⟨W1.heap.size, 0, none⟩) 1 1, .slice none 0 0]) (by simp)
  refine ⟨_, _, rfl, by decide, fun _ => ⟨W1.heap.size + 1, 0, rfl, by simp, ?_⟩⟩
  unfold factR RowAt
  refine ⟨⟨[.bool false, .string ⟨#[97]⟩, .slice (some ⟨W1.heap.size, 0, none⟩) 1 1, .slice none 0 0], fun j hj => ?_, ?_⟩, by unfold RowAt; trivial⟩
  · rw [Nat.zero_add, h2.cell j, List.getElem?_toArray]
  · unfold RuleAt
    refine ⟨some ⟨W1.heap.size, 0, none⟩, 1, none, 0, rfl, by decide, by decide, fun _ => ⟨W1.heap.size, 0, rfl, by simp; omega, fun i d hd j hj => ?_⟩, fun h => by simp at h⟩
    cases i with
    | zero =>
      obtain rfl : factD = d := by simpa using hd
      rw [Nat.zero_mul, Nat.add_zero, Nat.zero_add, h1.cell j, List.getElem?_toArray]
      rfl
    | succ i => simp at hd

set_option maxRecDepth 100000 in
set_option maxHeartbeats 4000000 in
theorem ruleFact_ct (w : World) (hF : FoldAt w) (hm : MaxL w) :
    Calls Tryd.prog 12 #[] w fun e w' => e = .returned (.bool true) ∧ Below w.heap.size w w' := by
  have cP := fun w hF hm => Parse_ct [97, 32, 123, 32, 98, 58, 32, 99, 32, 125] (by decide) w hF hm
  rw [parse_fact] at cP
  simp only at cP
  rw [show bs [97, 32, 123, 32, 98, 58, 32, 99, 32, 125] = ⟨#[97, 32, 123, 32, 98, 58, 32, 99, 32, 125]⟩ from rfl] at cP
  have cS := fun v w h1 A h2 => sameRules_ct 3000 factR factR (by decide) (by decide) (by decide) v (.slice A 1 1) w h1 h2
  rw [sameG_refl] at cS
  replace cP := Lib.hid cP
  replace cS := Lib.hid cS
  have HF := Lib.hid hF
  have HM := Lib.hid hm
  clear hF hm
  go_enter Tryd.func12, Tryd.ntmps12
  go_wp2_with (first
    | (go_at_call 13; (with_reducible refine (cP.out _ HF.out HM.out).mono ?_); rintro e W1 ⟨⟨v1, rfl, hr1, hf1⟩, hb1⟩; have HB1 := Lib.hid hb1; have HR1 := Lib.hid hr1; clear hb1 hr1)
    | (go_at_call 15; (with_reducible refine (cS.out _ _ (HR1.out.on (((Below.refl _ _).alloc (Nat.le_refl _) _).alloc (by simp) _)) _ (fact_rs _ _ _)).mono ?_); rintro e W2 ⟨rfl, m2, rfl⟩))
  go_ret
  exact ⟨rfl, below_drewN ((HB1.out.alloc HB1.out.size _).alloc (by have := HB1.out.size; simp; omega) _) _⟩

end Go.Proofs.YtaihncbejhnceaaDoor.rul

namespace Go.Proofs.YtaihncbejhnceaaDoor.rul
open Go.RowKit Go.Proofs.YtaihncbejhnceaaDoor.base Go.Proofs.YtaihncbejhnceaaDoor.tok
set_option linter.unusedVariables false

theorem nil_or_snoc (L : List Tk) : L = [] ∨ ∃ K t, L = K ++ [t] := by
  rcases List.eq_nil_or_concat L with h | ⟨K, t, h⟩
  · exact .inl h
  · exact .inr ⟨K, t, by rw [h, List.concat_eq_append]⟩
theorem drop_none (p : Tk → Bool) : ∀ (L : List Tk), L.dropWhile p = [] → ∀ t ∈ L, p t = true
  | [], _, t, h => by cases h
  | a :: L, h, t, ht => by
    by_cases ha : p a = true
    · rw [List.dropWhile_cons_of_pos ha] at h
      rcases List.mem_cons.1 ht with rfl | ht
      · exact ha
      · exact drop_none p L h t ht
    · rw [List.dropWhile_cons_of_neg ha] at h
      cases h
theorem take_mem (p : Tk → Bool) : ∀ (L : List Tk) (t : Tk), t ∈ L.takeWhile p → p t = true
  | [], t, h => by cases h
  | a :: L, t, h => by
    by_cases ha : p a = true
    · rw [List.takeWhile_cons_of_pos ha] at h
      rcases List.mem_cons.1 h with rfl | h
      · exact ha
      · exact take_mem p L t h
    · rw [List.takeWhile_cons_of_neg ha] at h
      cases h
/-- one blank for what is silent in a row; is one there? -/
def sqF : Bool → List Tk → List Tk
  | _, [] => []
  | f, t :: L => if silP t then (if f then sqF true L else tkB :: sqF true L) else t :: sqF false L

theorem sq_cons (f : Bool) (t : Tk) (L : List Tk) : sqF f (t :: L) = if silP t then (if f then sqF true L else tkB :: sqF true L) else t :: sqF false L := by rw [sqF]
theorem text_app (A B : List Tk) : textOf (A ++ B) = textOf A ++ textOf B := by simp [textOf]
theorem text_cons (t : Tk) (L : List Tk) : textOf (t :: L) = t.raw ++ textOf L := by simp [textOf]
theorem text_nil : textOf [] = [] := rfl

/-- does neither end be silent? -/
def Solid (V : List Tk) : Prop := (∀ t, V.head? = some t → silP t = false) ∧ ∀ t, V.getLast? = some t → silP t = false
theorem solid_id {V : List Tk} (h : Solid V) : solidP V = V := by
  have h1 : V.dropWhile silP = V := by
    cases V with
    | nil => rfl
    | cons t L => rw [List.dropWhile_cons_of_neg (by simpa using h.1 t rfl)]
  unfold solidP
  rw [h1]
  rcases nil_or_snoc V with rfl | ⟨L, t, rfl⟩
  · rfl
  · rw [endP_snoc, if_neg (by simpa using h.2 t (by simp))]
theorem drop_head (L : List Tk) : ∀ t, (L.dropWhile silP).head? = some t → silP t = false := by
  intro t ht
  induction L with
  | nil => simp at ht
  | cons a L ih =>
    by_cases ha : silP a = true
    · rw [List.dropWhile_cons_of_pos ha] at ht; exact ih ht
    · rw [List.dropWhile_cons_of_neg ha] at ht
      obtain rfl : a = t := by simpa using ht
      simpa using ha
theorem endP_last : ∀ (n : Nat) (L : List Tk), L.length ≤ n → (∀ t, (endP L).getLast? = some t → silP t = false) ∧ ∃ B, L = endP L ++ B ∧ ∀ t ∈ B, silP t = true := by
  intro n
  induction n with
  | zero =>
    intro L h
    obtain rfl := List.eq_nil_of_length_eq_zero (Nat.le_zero.1 h)
    exact ⟨fun t ht => by simp [endP_nil] at ht, [], rfl, fun t ht => by cases ht⟩
  | succ n ih =>
    intro L h
    rcases nil_or_snoc L with rfl | ⟨K, t, rfl⟩
    · exact ⟨fun t ht => by simp [endP_nil] at ht, [], rfl, fun t ht => by cases ht⟩
    · obtain ⟨h1, B, h2, h3⟩ := ih K (by simp at h; omega)
      rw [endP_snoc]
      by_cases ht : silP t = true
      · rw [if_pos ht]
        refine ⟨h1, B ++ [t], ?_, ?_⟩
        · rw [← List.append_assoc, ← h2]
        · intro x hx
          rcases List.mem_append.1 hx with hx | hx
          · exact h3 x hx
          · obtain rfl : x = t := by simpa using hx
            exact ht
      · rw [if_neg ht]
        refine ⟨fun x hx => ?_, [], by simp, fun x hx => by cases hx⟩
        obtain rfl : t = x := by simpa using hx
        simpa using ht
theorem drop_split (L : List Tk) : ∃ A, L = A ++ L.dropWhile silP ∧ ∀ t ∈ A, silP t = true :=
  ⟨L.takeWhile silP, (List.takeWhile_append_dropWhile).symm, fun t ht => take_mem silP L t ht⟩
theorem solid_split (L : List Tk) : Solid (solidP L) ∧ ∃ A B, L = A ++ solidP L ++ B ∧ (∀ t ∈ A, silP t = true) ∧ ∀ t ∈ B, silP t = true := by
  obtain ⟨A, hA, hA2⟩ := drop_split L
  obtain ⟨h1, B, hB, hB2⟩ := endP_last _ (L.dropWhile silP) (Nat.le_refl _)
  refine ⟨⟨fun t ht => ?_, h1⟩, A, B, ?_, hA2, hB2⟩
  · have hd := drop_head L
    unfold solidP at ht
    cases he : endP (L.dropWhile silP) with
    | nil => rw [he] at ht; simp at ht
    | cons a K =>
      rw [he] at ht
      obtain rfl : a = t := by simpa using ht
      refine hd a ?_
      rw [hB, he]
      rfl
  · unfold solidP
    rw [List.append_assoc, ← hB]
    exact hA

theorem sq_seg : ∀ (seg rest : List Tk), (∀ t ∈ seg, silP t = false) → ∀ f, seg ≠ [] → sqF f (seg ++ rest) = seg ++ sqF false rest
  | [], rest, h, f, h0 => absurd rfl h0
  | t :: seg, rest, h, f, _ => by
    have ht : ¬ silP t = true := by simp [h t (by simp)]
    rw [List.cons_append, sqF, if_neg ht, List.cons_append]
    congr 1
    by_cases hs : seg = []
    · subst hs; rfl
    · exact sq_seg seg rest (fun x hx => h x (by simp [hx])) false hs
theorem sq_drop : ∀ (L : List Tk), sqF true L = sqF true (L.dropWhile silP)
  | [] => rfl
  | t :: L => by
    by_cases ht : silP t = true
    · rw [List.dropWhile_cons_of_pos ht, sqF, if_pos ht, if_pos rfl]
      exact sq_drop L
    · rw [List.dropWhile_cons_of_neg ht]
theorem sq_same {L : List Tk} (h : ∀ t, L.head? = some t → silP t = false) (f : Bool) : sqF f L = sqF false L := by
  cases L with
  | nil => rfl
  | cons t L =>
    have ht : ¬ silP t = true := by simp [h t rfl]
    rw [sqF, sqF, if_neg ht, if_neg ht]
theorem sq_app {c : Tk} (hc : silP c = false) (L : List Tk) : ∀ (I : List Tk) (f : Bool), sqF f (I ++ c :: L) = sqF f I ++ c :: sqF false L
  | [], f => by rw [List.nil_append, sq_cons, if_neg (by simp [hc])]; rfl
  | t :: I, f => by
    rw [List.cons_append, sqF, sqF]
    split
    · split
      · exact sq_app hc L I true
      · rw [sq_app hc L I true]; rfl
    · rw [sq_app hc L I false]; rfl
theorem sq_again : ∀ (L : List Tk) (f : Bool), sqF f (sqF f L) = sqF f L
  | [], f => rfl
  | t :: L, f => by
    have hb : silP tkB = true := rfl
    rw [sqF]
    by_cases ht : silP t = true
    · rw [if_pos ht]
      cases f with
      | true => simp only [if_true]; exact sq_again L true
      | false =>
        simp only [Bool.false_eq_true, if_false]
        rw [sqF, if_pos hb, if_neg (by decide), sq_again L true]
    · rw [if_neg ht, sqF, if_neg ht, sq_again L false]
theorem sq_filter : ∀ (L : List Tk) (f : Bool), (sqF f L).filter (fun t => !silP t) = L.filter (fun t => !silP t)
  | [], f => rfl
  | t :: L, f => by
    rw [sqF]
    by_cases ht : silP t = true
    · rw [if_pos ht, List.filter_cons_of_neg (by simp [ht])]
      split
      · exact sq_filter L true
      · rw [List.filter_cons_of_neg (by decide)]; exact sq_filter L true
    · rw [if_neg ht, List.filter_cons_of_pos (by simp [ht]), List.filter_cons_of_pos (by simp [ht]), sq_filter L false]
theorem sq_solid {V : List Tk} (h : Solid V) : Solid (sqF false V) := by
  constructor
  · intro t ht
    cases V with
    | nil => simp [sqF] at ht
    | cons a L =>
      have ha := h.1 a rfl
      rw [sqF, if_neg (by simp [ha])] at ht
      obtain rfl : a = t := by simpa using ht
      exact ha
  · intro t ht
    rcases nil_or_snoc V with rfl | ⟨L, a, rfl⟩
    · simp [sqF] at ht
    · have ha := h.2 a (by simp)
      rw [sq_app ha [] L false] at ht
      simp only [sqF, List.getLast?_append, List.getLast?_singleton, Option.some_or] at ht
      obtain rfl : a = t := by simpa using ht
      exact ha
theorem sq_nil {V : List Tk} (h : Solid V) (he : sqF false V = []) : V = [] := by
  cases V with
  | nil => rfl
  | cons a L =>
    rw [sqF, if_neg (by simp [h.1 a rfl])] at he
    cases he

/-- the text that is told of tokens -/
theorem head_sq : ∀ (L : List Tk) (out : Bs) (gap : Bool), out ≠ [] → (∀ t, L.getLast? = some t → silP t = false) → (L = [] → gap = false) →
    headF L out gap = out ++ textOf (if gap then tkB :: sqF true L else sqF false L)
  | [], out, gap, h0, hl, hg => by
    rw [hg rfl]
    simp [headF, sqF, text_nil]
  | t :: L, out, gap, h0, hl, hg => by
    have hlt : ∀ x, L.getLast? = some x → silP x = false := fun x hx => hl x (by
      cases L with
      | nil => simp at hx
      | cons a K => rw [List.getLast?_cons_cons]; exact hx)
    by_cases ht : silP t = true
    · have hL : L ≠ [] := fun e => by
        subst e
        have := hl t rfl
        rw [ht] at this; cases this
      have hd : decide (0 < out.length) = true := by
        have := List.length_pos_iff.2 h0
        simpa using this
      rw [headF, if_pos ht, hd, head_sq L out true h0 hlt (fun e => absurd e hL)]
      cases gap with
      | true => simp only [if_true]; rw [sqF, if_pos ht, if_pos rfl]
      | false => simp only [if_true, Bool.false_eq_true, if_false]; rw [sqF, if_pos ht, if_neg (by decide)]
    · rw [headF, if_neg ht]
      cases gap with
      | true =>
        simp only [if_true]
        rw [head_sq L _ false (by simp) hlt (fun _ => rfl)]
        simp only [Bool.false_eq_true, if_false]
        rw [sqF, if_neg ht, text_cons, text_cons]
        simp
      | false =>
        simp only [Bool.false_eq_true, if_false]
        rw [head_sq L _ false (by simp [h0]) hlt (fun _ => rfl)]
        simp only [Bool.false_eq_true, if_false]
        rw [sqF, if_neg ht, text_cons]
        simp
theorem head_is {V : List Tk} (h : Solid V) (hr : ∀ t ∈ V, t.raw ≠ []) : headP V = textOf (sqF false V) := by
  unfold headP
  cases V with
  | nil => rfl
  | cons t L =>
    have ht : ¬ silP t = true := by simp [h.1 t rfl]
    rw [headF, if_neg ht, sqF, if_neg ht, text_cons]
    simp only [Bool.false_eq_true, if_false, List.nil_append]
    rw [head_sq L t.raw false (hr t (by simp)) (fun x hx => h.2 x (by
      cases L with
      | nil => simp at hx
      | cons a K => rw [List.getLast?_cons_cons]; exact hx)) (fun _ => rfl)]
    rfl

/-- the rest of a text that is cut -/
theorem cut_tail : ∀ (pre L : List Tk) (x : Bs), cutP x = pre ++ L → cutP (textOf L) = L
  | [], L, x, h => by
    have h1 : textOf L = x := by
      have := cut_text x
      rwa [h] at this
    rw [h1, h]
    rfl
  | t :: pre, L, x, h => by
    have hne : x ≠ [] := fun e => by rw [e, cutP_nil] at h; cases h
    rw [cutP_cons hne] at h
    injection h with _ h2
    exact cut_tail pre L _ h2

theorem take_all (V : List Tk) : ∀ t ∈ V.takeWhile (fun t => !silP t), silP t = false := fun t ht => by
  have := take_mem _ V t ht
  simpa using this
theorem recut {s : UInt8} (hS : st.Stop s) (m : Bs) : ∀ (n : Nat) (V post : List Tk), V.length ≤ n → cutP (textOf (V ++ post)) = V ++ post → (∀ t ∈ V, ¬ t.k = 6) → Solid V → V ≠ [] →
    cutP (textOf (sqF false V) ++ s :: m) = sqF false V ++ cutP (s :: m)
  | 0, V, post, hn, hc, hb, hs, h0 => absurd (List.eq_nil_of_length_eq_zero (Nat.le_zero.1 hn)) h0
  | n + 1, V, post, hn, hc, hb, hs, h0 => by
    have hsplit : V = V.takeWhile (fun t => !silP t) ++ V.dropWhile (fun t => !silP t) := List.takeWhile_append_dropWhile.symm
    have hall := take_all V
    have hseg0 : V.takeWhile (fun t => !silP t) ≠ [] := by
      cases V with
      | nil => exact absurd rfl h0
      | cons a L =>
        rw [List.takeWhile_cons_of_pos (by simp [hs.1 a rfl])]
        simp
    have hrest : ∀ b r, V.dropWhile (fun t => !silP t) = b :: r → silP b = true := by
      intro b r hbr
      have hx := List.head?_dropWhile_not (fun t => !silP t) V
      rw [hbr] at hx
      simpa using hx
    generalize V.takeWhile (fun t => !silP t) = seg at *
    generalize V.dropWhile (fun t => !silP t) = rest at *
    subst hsplit
    have hp : cutP (textOf seg) = seg := st.cut_piece seg (textOf seg) (textOf (rest ++ post)) (rest ++ post) rfl (by
      rw [← text_app, ← List.append_assoc]
      rw [hc, List.append_assoc])
    have hp0 : textOf seg ≠ [] := fun e => by
      rw [e, cutP_nil] at hp
      exact hseg0 hp.symm
    have hE : tok.Ends (textOf seg) := by
      intro t ht
      rw [hp] at ht
      have hm := List.mem_of_getLast? ht
      have h1 := hall t hm
      have h2 := hb t (List.mem_append_left _ hm)
      simp only [silP, Bool.or_eq_false_iff, decide_eq_false_iff_not] at h1
      exact ⟨h2, h1.2, h1.1⟩
    rw [sq_seg seg rest hall false hseg0]
    cases rest with
    | nil =>
      simp only [sqF, List.append_nil]
      rw [st.cut_apart hS m _ (textOf seg) (Nat.le_refl _) hp0 hE, hp]
    | cons b r =>
      have hbs := hrest b r rfl
      have hV' : r.dropWhile silP ≠ [] := fun e => by
        have hall2 : ∀ t ∈ b :: r, silP t = true := fun t ht => by
          rcases List.mem_cons.1 ht with rfl | ht
          · exact hbs
          · exact drop_none silP r e t ht
        obtain ⟨z, hz⟩ : ∃ z, (b :: r).getLast? = some z := ⟨_, List.getLast?_eq_some_getLast (by simp)⟩
        have h1 := hs.2 z (by rw [List.getLast?_append, hz]; rfl)
        rw [hall2 z (List.mem_of_getLast? hz)] at h1
        cases h1
      obtain ⟨A, hA, hA2⟩ := drop_split r
      have hV'l : (r.dropWhile silP).length ≤ n := by
        have h1 := congrArg List.length hA
        have h2 := List.length_pos_iff.2 hseg0
        simp only [List.length_append, List.length_cons] at h1 hn
        omega
      have hsol : Solid (r.dropWhile silP) := by
        refine ⟨drop_head r, fun t ht => hs.2 t ?_⟩
        rw [List.getLast?_append, show b :: r = (b :: A) ++ r.dropWhile silP by rw [List.cons_append, ← hA], List.getLast?_append, ht]
        rfl
      have hmem : ∀ t ∈ r.dropWhile silP, ¬ t.k = 6 := fun t ht => hb t (List.mem_append_right _ (List.mem_cons_of_mem _ ((List.dropWhile_sublist silP).subset ht)))
      have hcut : cutP (textOf (r.dropWhile silP ++ post)) = r.dropWhile silP ++ post := by
        refine cut_tail (seg ++ b :: A) _ _ (hc.trans ?_)
        rw [List.append_assoc, List.append_assoc, List.cons_append, List.cons_append, ← List.append_assoc A, ← hA]
      have ih := recut hS m n (r.dropWhile silP) post hV'l hcut hmem hsol hV'
      have hsq : sqF false (b :: r) = tkB :: sqF false (r.dropWhile silP) := by
        rw [sqF, if_pos hbs, if_neg (by decide), sq_drop r, sq_same hsol.1 true]
      rw [hsq]
      generalize r.dropWhile silP = V' at *
      have hX : cutP (32 :: (textOf (sqF false V') ++ s :: m)) = tkB :: (sqF false V' ++ cutP (s :: m)) := by
        rw [← ih]
        refine cut_blank (by simp) ?_
        intro hk
        have hne : textOf (sqF false V') ++ s :: m ≠ [] := by simp
        rw [cutP_cons hne] at ih
        cases hq : sqF false V' with
        | nil => exact hV' (sq_nil hsol hq)
        | cons a K =>
          rw [hq] at ih hk
          injection ih with h1 h2
          have := (sq_solid hsol).1 a (by rw [hq]; rfl)
          rw [← h1] at this
          simp only [silP, hk, decide_true, Bool.true_or] at this
          cases this
      rw [text_app, text_cons]
      show cutP (textOf seg ++ ([32] ++ textOf (sqF false V')) ++ s :: m) = _
      rw [List.append_assoc, List.append_assoc, List.singleton_append]
      rw [st.cut_apart stop_32 _ _ (textOf seg) (Nat.le_refl _) hp0 hE, hp, hX]
      simp

end Go.Proofs.YtaihncbejhnceaaDoor.rul

namespace Go.Proofs.YtaihncbejhnceaaDoor.rul
open Go.RowKit Go.Proofs.YtaihncbejhnceaaDoor.base Go.Proofs.YtaihncbejhnceaaDoor.tok
set_option linter.unusedVariables false

/-- fair, and outside of blocks each is so -/
inductive Fa : (Tk → Bool) → List Tk → Prop where
  | nil (q : Tk → Bool) : Fa q []
  | cons (q : Tk → Bool) (t : Tk) (L : List Tk) : ¬ t.k = 6 → opensP t = false → ¬ t.k = 11 → q t = true → Fa q L → Fa q (t :: L)
  | blk (q : Tk → Bool) (t : Tk) (I : List Tk) (c : Tk) (L : List Tk) : opensP t = true → braceP t = false → Fa (fun _ => true) I → c.k = 11 → c.raw = closerP t.raw → q t = true → Fa q L → Fa q (t :: (I ++ c :: L))

theorem opens_k {t : Tk} (h : opensP t = true) : ¬ t.k = 6 ∧ ¬ t.k = 11 ∧ ¬ t.k = 12 ∧ ¬ t.k = 8 ∧ ¬ t.k = 9 ∧ ¬ t.k = 1 := by
  simp only [opensP, Bool.or_eq_true, decide_eq_true_eq] at h
  omega
theorem opens_11 {c : Tk} (h : c.k = 11) : opensP c = false := by simp [opensP, h]
/-- what is fair leaves open what was open -/
theorem close_app {q : Tk → Bool} {I : List Tk} (h : Fa q I) : ∀ (st : List Bs) (L : List Tk), st ≠ [] → closeP st (I ++ L) = (closeP st L).map (I.length + ·) := by
  induction h with
  | nil q => intro st L _; simp
  | cons q t K h1 h2 h3 h4 h5 ih =>
    intro st L h0
    rw [List.cons_append, closeP, if_neg (by simp [h2]), if_neg (fun e => h3 e.1), ih st L h0]
    cases closeP st L <;> simp; omega
  | blk q t J c K h1 h2 h3 h4 h5 h6 h7 ih1 ih2 =>
    intro st L h0
    rw [List.cons_append, List.append_assoc, List.cons_append, closeP, if_pos h1, ih1 _ _ (by simp), closeP, if_neg (by simp [opens_11 h4]), if_pos ⟨h4, by simp [h5]⟩, List.dropLast_concat, if_neg h0, ih2 st L h0]
    cases closeP st L <;> simp; omega
theorem blk_fa {q : Tk → Bool} {t c : Tk} {I L : List Tk} (h : Fa q I) (h4 : c.k = 11) (h5 : c.raw = closerP t.raw) : blkLen t (I ++ c :: L) = I.length + 2 ∧ blkOk t (I ++ c :: L) = true := by
  have : closeP [closerP t.raw] (I ++ c :: L) = some (I.length + 1) := by
    rw [close_app h _ _ (by simp), closeP, if_neg (by simp [opens_11 h4]), if_pos ⟨h4, by simp [h5]⟩, if_pos (by rfl)]
    rfl
  unfold blkLen blkOk
  rw [this]
  exact ⟨rfl, rfl⟩
theorem fa_fair {q : Tk → Bool} {A : List Tk} (h : Fa q A) : fairP A = true := by
  induction h with
  | nil q => exact fairP_nil
  | cons q t K h1 h2 h3 h4 h5 ih =>
    have hb : braceP t = false := by
      cases hx : braceP t with
      | false => rfl
      | true =>
        simp only [braceP, rawP, Bool.and_eq_true, decide_eq_true_eq] at hx
        simp [opensP, hx.1] at h2
    rw [fairP_cons, if_neg (by simp [badP, h1, hb, h3]), if_neg (by simp [h2]), ih]
  | blk q t J c K h1 h2 h3 h4 h5 h6 h7 ih1 ih2 =>
    obtain ⟨b1, b2⟩ := blk_fa (L := K) h3 h4 h5
    have hk := opens_k h1
    rw [fairP_cons, if_neg (by simp [badP, hk.1, h2, hk.2.1]), if_pos h1, b1, b2, if_pos rfl]
    have e1 : (J ++ c :: K).take (J.length + 2 - 2) = J := by simp
    have e2 : (t :: (J ++ c :: K)).drop (J.length + 2) = K := by
      rw [show J.length + 2 = (J.length + 1) + 1 by rfl, List.drop_succ_cons, show J ++ c :: K = (J ++ [c]) ++ K by simp, List.drop_left' (by simp)]
    rw [e1, e2, ih1, ih2]
    rfl
/-- it is told so -/
theorem fa_sq {q : Tk → Bool} {A : List Tk} (h : Fa q A) (hq : q tkB = true) : ∀ f, Fa q (sqF f A) := by
  induction h with
  | nil q => intro f; exact .nil q
  | cons q t K h1 h2 h3 h4 h5 ih =>
    intro f
    rw [sqF]
    split
    · split
      · exact ih hq true
      · exact .cons q tkB _ (by decide) (by decide) (by decide) hq (ih hq true)
    · exact .cons q t _ h1 h2 h3 h4 (ih hq false)
  | blk q t J c K h1 h2 h3 h4 h5 h6 h7 ih1 ih2 =>
    intro f
    have hk := opens_k h1
    have ht : ¬ silP t = true := by simp [silP, hk.2.2.2.1, hk.2.2.2.2.1]
    have hc : silP c = false := by simp [silP, h4]
    rw [sqF, if_neg ht, sq_app hc K J false]
    exact .blk q t _ c _ h1 h2 (ih1 rfl false) h4 h5 h6 (ih2 hq false)
theorem fa_app {q : Tk → Bool} {A : List Tk} (h : Fa q A) : ∀ {B : List Tk}, Fa q B → Fa q (A ++ B) := by
  induction h with
  | nil q => intro B hB; exact hB
  | cons q t K h1 h2 h3 h4 h5 ih => intro B hB; exact .cons q t _ h1 h2 h3 h4 (ih hB)
  | blk q t J c K h1 h2 h3 h4 h5 h6 h7 ih1 ih2 =>
    intro B hB
    rw [List.cons_append, List.append_assoc, List.cons_append]
    exact .blk q t J c _ h1 h2 h3 h4 h5 h6 (ih2 hB)
/-- the first one that is so lies behind what is fair and not so -/
theorem find_fa {q : Tk → Bool} {A : List Tk} (h : Fa q A) (p : Tk → Bool) (hqp : ∀ t, q t = true → p t = false) : ∀ (L : List Tk), findP p (A ++ L) = A.length + findP p L := by
  induction h with
  | nil q => intro L; simp
  | cons q t K h1 h2 h3 h4 h5 ih =>
    intro L
    rw [List.cons_append, findP_cons, if_neg (by simp [hqp t h4]), if_neg (by simp [h2]), ih hqp L]
    simp; omega
  | blk q t J c K h1 h2 h3 h4 h5 h6 h7 ih1 ih2 =>
    intro L
    obtain ⟨b1, b2⟩ := blk_fa (L := K ++ L) h3 h4 h5
    have e2 : (t :: (J ++ c :: (K ++ L))).drop (J.length + 2) = K ++ L := by
      rw [show J.length + 2 = (J.length + 1) + 1 by rfl, List.drop_succ_cons, show J ++ c :: (K ++ L) = (J ++ [c]) ++ (K ++ L) by simp, List.drop_left' (by simp)]
    rw [List.cons_append, List.append_assoc, List.cons_append, findP_cons, if_neg (by simp [hqp t h6]), if_pos h1, b1, e2, ih2 hqp L]
    simp; omega

/-! ### from the program's own words to the shape -/
theorem close_more : ∀ (L X : List Tk) (st : List Bs) (e : Nat), closeP st L = some e → closeP st (L ++ X) = some e
  | [], X, st, e, h => by simp [closeP] at h
  | t :: L, X, st, e, h => by
    rw [List.cons_append]
    unfold closeP at h ⊢
    split at h
    · rename_i ho
      rw [if_pos ho]
      obtain ⟨x, hx, rfl⟩ := Option.map_eq_some_iff.1 h
      rw [close_more L X _ x hx]
      rfl
    · rename_i ho
      rw [if_neg ho]
      split at h
      · rename_i hc
        rw [if_pos hc]
        split at h
        · rename_i hd
          rw [if_pos hd]
          exact h
        · rename_i hd
          rw [if_neg hd]
          obtain ⟨x, hx, rfl⟩ := Option.map_eq_some_iff.1 h
          rw [close_more L X _ x hx]
          rfl
      · rename_i hc
        rw [if_neg hc]
        obtain ⟨x, hx, rfl⟩ := Option.map_eq_some_iff.1 h
        rw [close_more L X _ x hx]
        rfl
/-- the token that closes -/
theorem close_at : ∀ (L : List Tk) (st : List Bs) (e : Nat), st ≠ [] → closeP st L = some e → ∃ c, L[e - 1]? = some c ∧ c.k = 11 ∧ st.head? = some c.raw
  | [], st, e, h0, h => by simp [closeP] at h
  | t :: L, st, e, h0, h => by
    unfold closeP at h
    have up : ∀ (st' : List Bs) (x : Nat), st' ≠ [] → closeP st' L = some x → st'.head? = st.head? → ∃ c, (t :: L)[x + 1 - 1]? = some c ∧ c.k = 11 ∧ st.head? = some c.raw := by
      intro st' x hn hx hst
      obtain ⟨c, h1, h2, h3⟩ := close_at L st' x hn hx
      have hle := close_le L st' x hx
      refine ⟨c, ?_, h2, by rw [← hst, h3]⟩
      rw [Nat.add_sub_cancel, show x = (x - 1) + 1 by omega, List.getElem?_cons_succ]
      exact h1
    split at h
    · rename_i ho
      obtain ⟨x, hx, rfl⟩ := Option.map_eq_some_iff.1 h
      cases st with
      | nil => exact absurd rfl h0
      | cons a st => exact up _ x (by simp) hx (by simp)
    · split at h
      · rename_i hc
        split at h
        · rename_i hd
          simp at h
          subst h
          have hst : st = [t.raw] := by
            rcases List.eq_nil_or_concat st with rfl | ⟨K, a, rfl⟩
            · simp at hc
            · simp at hd
              subst hd
              simp at hc
              simp [hc.2]
          exact ⟨t, by simp, hc.1, by rw [hst]; rfl⟩
        · rename_i hd
          obtain ⟨x, hx, rfl⟩ := Option.map_eq_some_iff.1 h
          refine up _ x hd hx ?_
          rcases List.eq_nil_or_concat st with rfl | ⟨K, a, rfl⟩
          · simp at hd
          · simp at hd ⊢
            cases K with
            | nil => exact absurd rfl hd
            | cons b K => rfl
      · obtain ⟨x, hx, rfl⟩ := Option.map_eq_some_iff.1 h
        exact up _ x h0 hx rfl

theorem split_at {L : List Tk} {i : Nat} {c : Tk} (h : L[i]? = some c) : L = L.take i ++ c :: L.drop (i + 1) := by
  obtain ⟨hl, he⟩ := List.getElem?_eq_some_iff.1 h
  conv => lhs; rw [← List.take_append_drop i L, List.drop_eq_getElem_cons hl, he]
theorem fair_parts {t : Tk} {L : List Tk} (ho : opensP t = true) (h : fairP (t :: L) = true) : ∃ (I : List Tk) (c : Tk) (M : List Tk), L = I ++ c :: M ∧ c.k = 11 ∧ c.raw = closerP t.raw ∧ braceP t = false ∧ fairP I = true ∧ fairP M = true ∧ blkOk t L = true ∧ blkLen t L = I.length + 2 := by
  rw [fairP_cons] at h
  split at h
  · cases h
  · rename_i hx
    split at h
    · rename_i hb
      obtain ⟨e, hc⟩ : ∃ e, closeP [closerP t.raw] L = some e := by
        unfold blkOk at hb
        cases hc : closeP [closerP t.raw] L with
        | none => rw [hc] at hb; cases hb
        | some e => exact ⟨e, rfl⟩
      have hlen : blkLen t L = e + 1 := by unfold blkLen; rw [hc]
      have hle := close_le L _ e hc
      obtain ⟨c, h1, h2, h3⟩ := close_at L _ e (by simp) hc
      have hsp := split_at h1
      rw [hlen, Bool.and_eq_true] at h
      refine ⟨L.take (e - 1), c, L.drop (e - 1 + 1), hsp, h2, by simpa using h3.symm, ?_, ?_, ?_, hb, ?_⟩
      · simp only [Bool.or_eq_true, not_or] at hx
        simpa using hx.1.2
      · have := h.1
        rwa [show e + 1 - 2 = e - 1 by omega] at this
      · have := h.2
        rwa [List.drop_succ_cons, show e = e - 1 + 1 by omega] at this
      · rw [hlen, List.length_take]
        omega
    · cases h
theorem fair_plain {t : Tk} {L : List Tk} (ho : opensP t = false) (h : fairP (t :: L) = true) : ¬ t.k = 6 ∧ ¬ t.k = 11 ∧ fairP L = true := by
  rw [fairP_cons] at h
  split at h
  · cases h
  · rename_i hx
    rw [if_neg (by simp [ho])] at h
    simp only [badP, Bool.or_eq_true, decide_eq_true_eq, not_or] at hx
    exact ⟨hx.1.1, hx.2, h⟩
theorem fair_all : ∀ (n : Nat) (V : List Tk), V.length ≤ n → fairP V = true → Fa (fun _ => true) V
  | _, [], _, _ => .nil _
  | 0, t :: L, h, _ => by simp at h
  | n + 1, t :: L, h, hf => by
    cases ho : opensP t with
    | false =>
      obtain ⟨h1, h2, h3⟩ := fair_plain ho hf
      exact .cons _ t L h1 ho h2 rfl (fair_all n L (by simpa using h) h3)
    | true =>
      obtain ⟨I, c, M, rfl, h1, h2, h3, h4, h5, h6, h7⟩ := fair_parts ho hf
      simp only [List.length_cons, List.length_append] at h
      exact .blk _ t I c M ho h3 (fair_all n I (by omega) h4) h1 h2 rfl (fair_all n M (by omega) h5)
/-- .. and none outside of blocks is so, where the first one that is lies behind -/
theorem fair_fa (p : Tk → Bool) : ∀ (n : Nat) (V Y : List Tk), V.length ≤ n → fairP V = true → V.length ≤ findP p (V ++ Y) → Fa (fun t => !p t) V
  | _, [], _, _, _, _ => .nil _
  | 0, t :: L, _, h, _, _ => by simp at h
  | n + 1, t :: L, Y, h, hf, hp => by
    rw [List.cons_append, findP_cons] at hp
    have hpt : p t = false := by
      cases hx : p t with
      | false => rfl
      | true => rw [hx, if_pos rfl] at hp; simp at hp
    rw [if_neg (by simp [hpt])] at hp
    cases ho : opensP t with
    | false =>
      obtain ⟨h1, h2, h3⟩ := fair_plain ho hf
      rw [if_neg (by simp [ho])] at hp
      exact .cons _ t L h1 ho h2 (by simp [hpt]) (fair_fa p n L Y (by simpa using h) h3 (by simp at hp; omega))
    | true =>
      obtain ⟨I, c, M, rfl, h1, h2, h3, h4, h5, h6, h7⟩ := fair_parts ho hf
      have hI := fair_all _ I (Nat.le_refl _) h4
      rw [if_pos ho] at hp
      rw [List.append_assoc, List.cons_append] at hp
      obtain ⟨b1, b2⟩ := blk_fa (L := M ++ Y) hI h1 h2
      have e2 : (t :: (I ++ c :: (M ++ Y))).drop (I.length + 2) = M ++ Y := by
        rw [show I.length + 2 = (I.length + 1) + 1 by rfl, List.drop_succ_cons, show I ++ c :: (M ++ Y) = (I ++ [c]) ++ (M ++ Y) by simp, List.drop_left' (by simp)]
      rw [b1, e2] at hp
      simp only [List.length_cons, List.length_append] at h hp
      exact .blk _ t I c M ho h3 hI h1 h2 (by simp [hpt]) (fair_fa p n M Y (by omega) h5 (by omega))
theorem find_past (p : Tk → Bool) : ∀ (A X : List Tk) (n : Nat), (∀ t ∈ A, opensP t = false) → A.length + n ≤ findP p (A ++ X) → n ≤ findP p X
  | [], X, n, _, h => by simpa using h
  | a :: A, X, n, ha, h => by
    rw [List.cons_append, findP_cons] at h
    split at h
    · simp at h
    · rw [if_neg (by simp [ha a (by simp)])] at h
      exact find_past p A X n (fun t ht => ha t (by simp [ht])) (by simp at h; omega)

end Go.Proofs.YtaihncbejhnceaaDoor.rul

namespace Go.Proofs.YtaihncbejhnceaaDoor.rul
open Go.RowKit Go.Proofs.YtaihncbejhnceaaDoor.base Go.Proofs.YtaihncbejhnceaaDoor.tok
set_option linter.unusedVariables false

theorem imp_cases (M : List Tk) : impM M = (M, false) ∨ ∃ t m, M.getLast? = some t ∧ (solidP M.dropLast).getLast? = some m ∧ impM M = (solidP (solidP M.dropLast).dropLast, true) := by
  unfold impM
  cases h1 : M.getLast? with
  | none => exact .inl rfl
  | some t =>
    simp only
    split
    · exact .inl rfl
    · split
      · cases h2 : (solidP M.dropLast).getLast? with
        | none => exact .inl rfl
        | some m =>
          simp only
          split
          · exact .inr ⟨t, m, rfl, rfl, rfl⟩
          · exact .inl rfl
      · exact .inl rfl
theorem drop_last {M : List Tk} {t : Tk} (h : M.getLast? = some t) : M = M.dropLast ++ [t] := by
  rcases nil_or_snoc M with rfl | ⟨K, a, rfl⟩
  · simp at h
  · simp at h; subst h; simp
theorem imp_split (L : List Tk) : Solid (impP L).1 ∧ (∃ A B, L = A ++ (impP L).1 ++ B ∧ ∀ t ∈ A, silP t = true) ∧ ((impP L).2 = false → impM (impP L).1 = ((impP L).1, false)) := by
  unfold impP
  obtain ⟨hs, A, B, hL, hA, hB⟩ := solid_split L
  rcases imp_cases (solidP L) with h | ⟨t, m, h1, h2, h3⟩
  · rw [h]
    exact ⟨hs, ⟨A, B, hL, hA⟩, fun _ => h⟩
  · rw [h3]
    obtain ⟨_, A1, B1, hL1, hA1, _⟩ := solid_split (solidP L).dropLast
    obtain ⟨hs2, A2, B2, hL2, hA2, _⟩ := solid_split (solidP (solidP L).dropLast).dropLast
    refine ⟨hs2, ⟨A ++ A1 ++ A2, B2 ++ [m] ++ B1 ++ [t] ++ B, ?_, ?_⟩, fun e => by cases e⟩
    · have e1 := drop_last h1
      have e2 := drop_last h2
      rw [hL2] at e2
      rw [e2] at hL1
      rw [hL1] at e1
      conv => lhs; rw [hL, e1]
      simp
    · intro x hx
      rcases List.mem_append.1 hx with hx | hx
      · rcases List.mem_append.1 hx with hx | hx
        · exact hA x hx
        · exact hA1 x hx
      · exact hA2 x hx

/-- what a declaration is that was read -/
def Told (N : Nat) (d : Dc) : Prop := ∃ V post : List Tk, cutP (textOf (V ++ post)) = V ++ post ∧ Fa (fun t => !semiP t) V ∧ Solid V ∧ d.val = headP V ∧ plainP d.name = true ∧ nameD d.name = d.name ∧ (ownP d.name = true ∨ d.val ≠ []) ∧ (d.imp = false → impM V = (V, false)) ∧ d.name.length ≤ N ∧ d.val.length ≤ N

theorem low_45 (c : UInt8) : lowB c = 45 ↔ c = 45 := by
  unfold lowB
  split
  · rename_i h
    have h1 : ¬ c = 45 := fun e => by rw [e] at h; exact absurd h.1 (by decide)
    have h2 : ¬ UInt8.ofNat (c.toNat + 32) = 45 := fun e => by
      have := congrArg UInt8.toNat e
      simp only [UInt8.toNat_ofNat'] at this
      have h3 := h.1; have h4 := h.2
      simp only [nv] at h3 h4
      have : (c.toNat + 32) % 256 = 45 := this
      omega
    exact ⟨fun e => absurd e h2, fun e => absurd e h1⟩
  · exact Iff.rfl
theorem own_low (l : Bs) : ownP (l.map lowB) = ownP l := by
  have key : ∀ c : UInt8, ((45 : UInt8) == lowB c) = ((45 : UInt8) == c) := fun c => by
    rw [Bool.eq_iff_iff]
    simp only [beq_iff_eq]
    rw [eq_comm, low_45 c, eq_comm]
  unfold ownP
  match l with
  | [] => rfl
  | [a] => simp [Lib.hasPrefix, List.isPrefixOf]
  | a :: b :: r => simp [Lib.hasPrefix, List.isPrefixOf, key]
theorem low_low (c : UInt8) : lowB (lowB c) = lowB c := by
  by_cases h : 65 ≤ nv c ∧ nv c ≤ 90
  · have e : lowB c = UInt8.ofNat (c.toNat + 32) := by unfold lowB; rw [if_pos h]
    have hn : nv (UInt8.ofNat (c.toNat + 32)) = nv c + 32 := by
      have h3 := h.1; have h4 := h.2
      simp only [nv] at h3 h4 ⊢
      rw [UInt8.toNat_ofNat', Nat.mod_eq_of_lt (by omega)]
      omega
    rw [e]
    unfold lowB
    rw [if_neg (by rw [hn]; omega)]
  · have e : lowB c = c := by unfold lowB; rw [if_neg h]
    rw [e, e]
theorem name_again (l : Bs) : nameD (nameD l) = nameD l := by
  unfold nameD
  by_cases h : ownP l = true
  · rw [if_pos h, if_pos h]
  · rw [if_neg h, own_low, if_neg h, List.map_map]
    congr 1
    funext c
    exact low_low c
theorem name_len (l : Bs) : (nameD l).length = l.length := by unfold nameD; split <;> simp
theorem name_own (l : Bs) : ownP (nameD l) = ownP l := by
  unfold nameD
  split
  · rfl
  · exact own_low l

theorem sq_len : ∀ (L : List Tk) (f : Bool), (∀ t ∈ L, t.raw ≠ []) → (textOf (sqF f L)).length ≤ (textOf L).length
  | [], f, _ => by simp [sqF]
  | t :: L, f, h => by
    have h1 := List.length_pos_iff.2 (h t (by simp))
    have ih := fun f => sq_len L f (fun x hx => h x (by simp [hx]))
    rw [sqF]
    split
    · split
      · have := ih true; rw [text_cons, List.length_append]; omega
      · have := ih true
        rw [text_cons, text_cons, List.length_append, List.length_append]
        simp; omega
    · have := ih false
      rw [text_cons, text_cons, List.length_append, List.length_append]; omega

theorem told_decl {N : Nat} {L P R : List Tk} (hc : cutP (textOf L) = L) (hP : L = P ++ R) (hf : P.length ≤ findP semiP L) (hv : ∀ t ∈ L, t.val.length ≤ N) (hN : (textOf L).length ≤ N) (hd : (declP P).2 = true) : Told N (declP P).1 := by
  unfold declP at hd ⊢
  obtain ⟨_, A1, B1, hP1, hA1, _⟩ := solid_split P
  cases hM : solidP P with
  | nil => rw [hM] at hd; cases hd
  | cons t r =>
    rw [hM] at hd hP1
    simp only [declM] at hd ⊢
    by_cases hk : t.k = 1
    · rw [if_pos hk] at hd ⊢
      obtain ⟨_, A2, B2, hP2, hA2, _⟩ := solid_split r
      cases hM2 : solidP r with
      | nil => rw [hM2] at hd; cases hd
      | cons c r' =>
        rw [hM2] at hd hP2
        simp only [declB] at hd ⊢
        by_cases hcp : (colonP c && plainP (nameD t.val)) = true
        · rw [if_pos hcp] at hd ⊢
          obtain ⟨hs, ⟨A3, B3, hP3, hA3⟩, hi⟩ := imp_split r'
          generalize impP r' = I at *
          obtain ⟨V, im⟩ := I
          simp only at hd hs hP3 hi ⊢
          rw [Bool.and_eq_true] at hcp
          rw [Bool.and_eq_true, Bool.or_eq_true] at hd
          have hck : c.k = 12 := by
            have := hcp.1
            simp only [colonP, rawP, Bool.and_eq_true, decide_eq_true_eq] at this
            exact this.1
          have hL : L = (A1 ++ t :: (A2 ++ c :: A3)) ++ (V ++ (B3 ++ B2 ++ B1 ++ R)) := by
            rw [hP, hP1, hP2, hP3]
            simp
          have hcut := cut_tail (A1 ++ t :: (A2 ++ c :: A3)) (V ++ (B3 ++ B2 ++ B1 ++ R)) (textOf L) (hc.trans hL)
          have hsil : ∀ x, silP x = true → opensP x = false := fun x hx => by
            simp only [silP, Bool.or_eq_true, decide_eq_true_eq] at hx
            simp only [opensP, Bool.or_eq_false_iff, decide_eq_false_iff_not]
            omega
          have hno : ∀ x ∈ A1 ++ t :: (A2 ++ c :: A3), opensP x = false := by
            intro x hx
            simp only [List.mem_append, List.mem_cons] at hx
            rcases hx with hx | rfl | hx | rfl | hx
            · exact hsil x (hA1 x hx)
            · simp [opensP, hk]
            · exact hsil x (hA2 x hx)
            · simp [opensP, hck]
            · exact hsil x (hA3 x hx)
          have hlen : (A1 ++ t :: (A2 ++ c :: A3)).length + V.length ≤ findP semiP ((A1 ++ t :: (A2 ++ c :: A3)) ++ (V ++ (B3 ++ B2 ++ B1 ++ R))) := by
            rw [← hL]
            refine Nat.le_trans ?_ hf
            have l1 := congrArg List.length hP1
            have l2 := congrArg List.length hP2
            have l3 := congrArg List.length hP3
            simp only [List.length_append, List.length_cons] at l1 l2 l3 ⊢
            omega
          have hfa := fair_fa semiP _ V (B3 ++ B2 ++ B1 ++ R) (Nat.le_refl _) hd.1 (find_past semiP _ _ _ hno hlen)
          have hraw : ∀ x ∈ V, x.raw ≠ [] := fun x hx => by
            have := cut_full (textOf L) x
            rw [hc] at this
            exact this (by rw [hL]; simp [hx])
          refine ⟨V, B3 ++ B2 ++ B1 ++ R, hcut, hfa, hs, rfl, hcp.2, name_again _, ?_, hi, ?_, ?_⟩
          · rcases hd.2 with h | h
            · exact .inl (by rw [name_own]; exact h)
            · exact .inr (by simpa using h)
          · simp only
            rw [name_len]
            exact hv t (by rw [hL]; simp)
          · simp only
            rw [head_is hs hraw]
            refine Nat.le_trans (sq_len V false hraw) (Nat.le_trans ?_ hN)
            rw [hL, text_app, text_app V, List.length_append, List.length_append]
            omega
        · rw [if_neg hcp] at hd; cases hd
    · rw [if_neg hk] at hd; cases hd

theorem told_decls (N : Nat) : ∀ (n : Nat) (L : List Tk), L.length ≤ n → cutP (textOf L) = L → (∀ t ∈ L, t.val.length ≤ N) → (textOf L).length ≤ N → ∀ d ∈ declsP L, Told N d
  | 0, L, h, hc, hv, hN, d, hd => by
    obtain rfl := List.eq_nil_of_length_eq_zero (Nat.le_zero.1 h)
    rw [declsP_nil] at hd; cases hd
  | n + 1, L, h, hc, hv, hN, d, hd => by
    by_cases h0 : L = []
    · subst h0; rw [declsP_nil] at hd; cases hd
    · rw [declsP_cons h0, List.mem_append] at hd
      have hp := List.length_pos_iff.2 h0
      rcases hd with hd | hd
      · split at hd
        · rename_i hx
          obtain rfl : d = _ := by simpa using hd
          exact told_decl hc (List.take_append_drop _ L).symm (by rw [List.length_take]; omega) hv hN hx
        · cases hd
      · have hsp := (List.take_append_drop (findP semiP L + 1) L).symm
        refine told_decls N n _ (by rw [List.length_drop]; omega) (cut_tail (L.take (findP semiP L + 1)) _ (textOf L) (by rw [List.take_append_drop]; exact hc)) (fun t ht => hv t (List.mem_of_mem_drop ht)) ?_ d hd
        refine Nat.le_trans ?_ hN
        conv => rhs; rw [hsp, text_app]
        simp

/-! ### told, and read again -/
theorem cut_imp : cutP impW = [⟨1, impW, impW, 0⟩] := by
  have hn : nameP impW = (impW, 9) := by
    unfold impW
    iterate 8 rw [name_cons2, if_neg (by decide), if_pos (by decide)]
    rw [name_cons1, if_pos (by decide)]
  have h1 : namedP 1 impW 0 = ⟨1, impW, impW, 0⟩ := by
    simp only [namedP, List.drop_zero, hn]
    rfl
  have hw : wordP impW = ⟨1, impW, impW, 0⟩ := by
    simp only [wordP, h1]
    decide
  have hf : firstP impW = ⟨1, impW, impW, 0⟩ := by
    rw [firstP, if_neg (by decide), if_neg (by decide), if_neg (by decide), if_neg (by decide), if_neg (by decide), if_neg (by decide), if_pos (by decide), hw]
  rw [cutP_cons (by decide), hf]
  simp [cutP_nil]
abbrev tkN (nm : Bs) (x : Int) : Tk := ⟨1, nm, nm, x⟩
theorem plain_cut {nm : Bs} (h : plainP nm = true) : ∃ x, cutP nm = [tkN nm x] := by
  unfold plainP at h
  match hc : cutP nm, h with
  | [t], h =>
    obtain ⟨k, r, v, n⟩ := t
    simp only [oneP, Bool.and_eq_true, decide_eq_true_eq] at h
    obtain ⟨⟨rfl, rfl⟩, rfl⟩ := h
    exact ⟨n, rfl⟩
  | [], h => simp [oneP] at h
  | a :: b :: r, h => simp [oneP] at h
/-- a name that is one token, and a sign behind it that ends it -/
theorem plain_stop {nm : Bs} (h : plainP nm = true) {s : UInt8} (hS : st.Stop s) : ∃ x, ∀ m, cutP (nm ++ s :: m) = tkN nm x :: cutP (s :: m) := by
  obtain ⟨x, hx⟩ := plain_cut h
  refine ⟨x, fun m => ?_⟩
  have h0 : nm ≠ [] := fun e => by rw [e, cutP_nil] at hx; cases hx
  rw [st.cut_apart hS m _ nm (Nat.le_refl _) h0 (fun t ht => by
    rw [hx] at ht
    obtain rfl : tkN nm x = t := by simpa using ht
    exact ⟨by simp, by simp, by simp⟩), hx]
  rfl
abbrev tkS : Tk := ⟨12, [59], [], 0⟩
abbrev tkD : Tk := ⟨12, [58], [], 0⟩
abbrev tkM : Tk := ⟨12, [33], [], 0⟩
abbrev tkI : Tk := ⟨1, impW, impW, 0⟩
def impT (b : Bool) : List Tk := if b then [tkM, tkI] else []
theorem stop_59 : st.Stop 59 := by unfold st.Stop; decide
theorem stop_33 : st.Stop 33 := by unfold st.Stop; decide
theorem imp_stop (s : UInt8) (hS : st.Stop s) (m : Bs) : cutP (impW ++ s :: m) = tkI :: cutP (s :: m) := by
  rw [st.cut_apart hS m _ impW (Nat.le_refl _) (by decide) (fun t ht => by
    rw [cut_imp] at ht
    obtain rfl : tkI = t := by simpa using ht
    exact ⟨by decide, by decide, by decide⟩), cut_imp]
  rfl
theorem fa_bad {q : Tk → Bool} {V : List Tk} (h : Fa q V) : ∀ t ∈ V, ¬ t.k = 6 := by
  induction h with
  | nil q => intro t ht; cases ht
  | cons q t K h1 h2 h3 h4 h5 ih =>
    intro x hx
    rcases List.mem_cons.1 hx with rfl | hx
    · exact h1
    · exact ih x hx
  | blk q t J c K h1 h2 h3 h4 h5 h6 h7 ih1 ih2 =>
    intro x hx
    simp only [List.mem_cons, List.mem_append] at hx
    rcases hx with rfl | hx | rfl | hx
    · exact (opens_k h1).1
    · exact ih1 x hx
    · omega
    · exact ih2 x hx
theorem val_cut {V post : List Tk} (hc : cutP (textOf (V ++ post)) = V ++ post) (hb : ∀ t ∈ V, ¬ t.k = 6) (hs : Solid V) {s : UInt8} (hS : st.Stop s) (m : Bs) : cutP (headP V ++ s :: m) = sqF false V ++ cutP (s :: m) := by
  have hraw : ∀ x ∈ V, x.raw ≠ [] := fun x hx => by
    have := cut_full (textOf (V ++ post)) x
    rw [hc] at this
    exact this (by simp [hx])
  rw [head_is hs hraw]
  by_cases h0 : V = []
  · subst h0; rfl
  · exact recut hS m _ V post (Nat.le_refl _) hc hb hs h0
theorem told_cut {N : Nat} {d : Dc} (h : Told N d) : ∃ (V : List Tk) (x : Int), Solid V ∧ d.val = headP V ∧ Fa (fun t => !semiP t) V ∧ (∀ t ∈ V, t.raw ≠ []) ∧ (d.imp = false → impM V = (V, false)) ∧ ∀ m, cutP (dText d ++ m) = (tkN d.name x :: tkD :: (sqF false V ++ impT d.imp)) ++ tkS :: cutP m := by
  obtain ⟨V, post, hc, hfa, hs, hv, hpl, _, _, hi, _⟩ := h
  obtain ⟨x, hx⟩ := plain_stop hpl stop_58
  have hraw : ∀ x ∈ V, x.raw ≠ [] := fun x hx => by
    have := cut_full (textOf (V ++ post)) x
    rw [hc] at this
    exact this (by simp [hx])
  refine ⟨V, x, hs, hv, hfa, hraw, hi, fun m => ?_⟩
  have hvc := fun {s : UInt8} (hS : st.Stop s) (m : Bs) => val_cut hc (fa_bad hfa) hs hS m
  unfold dText
  rw [hv]
  cases d.imp with
  | false =>
    have e : d.name ++ [58] ++ headP V ++ (if false = true then [33, 105, 109, 112, 111, 114, 116, 97, 110, 116] else []) ++ [59] ++ m = d.name ++ 58 :: (headP V ++ 59 :: m) := by simp
    rw [e, hx, cut_sole _ (by decide), hvc stop_59, cut_sole _ (by decide)]
    simp [impT, oneK]
    decide
  | true =>
    have e : d.name ++ [58] ++ headP V ++ (if true = true then [33, 105, 109, 112, 111, 114, 116, 97, 110, 116] else []) ++ [59] ++ m = d.name ++ 58 :: (headP V ++ 33 :: (impW ++ 59 :: m)) := by simp [impW]
    rw [e, hx, cut_sole _ (by decide), hvc stop_33, cut_sole _ (by decide), imp_stop 59 stop_59, cut_sole _ (by decide)]
    simp [impT, oneK]
    decide

end Go.Proofs.YtaihncbejhnceaaDoor.rul

namespace Go.Proofs.YtaihncbejhnceaaDoor.rul
open Go.RowKit Go.Proofs.YtaihncbejhnceaaDoor.base Go.Proofs.YtaihncbejhnceaaDoor.tok
set_option linter.unusedVariables false

theorem endP_filter (n : Nat) : ∀ (L : List Tk), L.length ≤ n → (endP L).getLast? = (L.filter (fun t => !silP t)).getLast? := by
  induction n with
  | zero =>
    intro L h
    obtain rfl := List.eq_nil_of_length_eq_zero (Nat.le_zero.1 h)
    rfl
  | succ n ih =>
    intro L h
    rcases nil_or_snoc L with rfl | ⟨K, t, rfl⟩
    · rfl
    · rw [endP_snoc]
      by_cases ht : silP t = true
      · rw [if_pos ht, List.filter_append, List.filter_cons_of_neg (by simp [ht]), List.filter_nil, List.append_nil]
        exact ih K (by simp at h; omega)
      · rw [if_neg ht, List.filter_append, List.filter_cons_of_pos (by simp [ht]), List.filter_nil]
        simp
theorem solid_last (L : List Tk) : (solidP L).getLast? = (L.filter (fun t => !silP t)).getLast? := by
  unfold solidP
  rw [endP_filter _ _ (Nat.le_refl _)]
  congr 1
  induction L with
  | nil => rfl
  | cons a L ih =>
    by_cases ha : silP a = true
    · rw [List.dropWhile_cons_of_pos ha, List.filter_cons_of_neg (by simp [ha]), ih]
    · rw [List.dropWhile_cons_of_neg ha]
/-- told, a value that does not end so does not -/
theorem imp_sq {V : List Tk} (hs : Solid V) (h : impM V = (V, false)) : impM (sqF false V) = (sqF false V, false) := by
  rcases nil_or_snoc V with rfl | ⟨K, t, rfl⟩
  · rfl
  · have ht := hs.2 t (by simp)
    rw [sq_app ht [] K false]
    simp only [sqF]
    by_cases hK : K = []
    · subst hK
      exact imp_few (by simp [sqF])
    · have hK0 := List.length_pos_iff.2 hK
      have hq0 : 0 < (sqF false K).length := by
        cases K with
        | nil => exact absurd rfl hK
        | cons a K =>
          have ha := hs.1 a rfl
          rw [sqF, if_neg (by simp [ha])]
          simp
      rw [imp_snoc K t hK0] at h
      rw [imp_snoc _ t hq0, solid_last (sqF false K), sq_filter, ← solid_last K]
      split
      · rename_i hc
        rw [if_pos hc] at h
        cases hm : (solidP K).getLast? with
        | none => rfl
        | some m =>
          rw [hm] at h
          simp only at h ⊢
          split
          · rename_i hmm
            rw [if_pos hmm] at h
            injection h with _ h2
            cases h2
          · rfl
      · rfl
theorem solid_ends {a : Tk} {L : List Tk} {b : Tk} (ha : silP a = false) (hb : (a :: L).getLast? = some b) (hb2 : silP b = false) : Solid (a :: L) := by
  refine ⟨fun t ht => ?_, fun t ht => ?_⟩
  · obtain rfl : a = t := by simpa using ht
    exact ha
  · rw [hb] at ht
    obtain rfl : b = t := by simpa using ht
    exact hb2
theorem head_again {V : List Tk} (hs : Solid V) (hr : ∀ t ∈ V, t.raw ≠ []) : headP (sqF false V) = headP V := by
  have key : ∀ (L : List Tk) (f : Bool), (∀ t ∈ L, t.raw ≠ []) → ∀ t ∈ sqF f L, t.raw ≠ [] := by
    intro L
    induction L with
    | nil => intro f _ t ht; simp [sqF] at ht
    | cons a L ih =>
      intro f h t ht
      have h2 := fun f => ih f (fun x hx => h x (by simp [hx]))
      rw [sqF] at ht
      split at ht
      · split at ht
        · exact h2 true t ht
        · rcases List.mem_cons.1 ht with rfl | ht
          · decide
          · exact h2 true t ht
      · rcases List.mem_cons.1 ht with rfl | ht
        · exact h t (by simp)
        · exact h2 false t ht
  rw [head_is hs hr, head_is (sq_solid hs) (key V false hr), sq_again]
/-- the last one of a row behind a first one -/
theorem last_of (a b : Tk) (V : List Tk) (im : Bool) (ha : silP b = false) (hs : Solid V) : ∃ z, (a :: b :: (sqF false V ++ impT im)).getLast? = some z ∧ silP z = false := by
  cases im with
  | true => exact ⟨tkI, by rw [show a :: b :: (sqF false V ++ impT true) = (a :: b :: (sqF false V ++ [tkM])) ++ [tkI] by simp [impT], List.getLast?_concat], rfl⟩
  | false =>
    simp only [impT, Bool.false_eq_true, if_false, List.append_nil]
    cases hq : (sqF false V).getLast? with
    | none =>
      rw [List.getLast?_eq_none_iff.1 hq]
      exact ⟨b, rfl, ha⟩
    | some z =>
      refine ⟨z, ?_, (sq_solid hs).2 z hq⟩
      rw [show a :: b :: sqF false V = [a, b] ++ sqF false V from rfl, List.getLast?_append, hq]
      rfl
theorem imp_told {V : List Tk} (hs : Solid V) (im : Bool) (hi : im = false → impM V = (V, false)) : impP (sqF false V ++ impT im) = (sqF false V, im) := by
  unfold impP
  cases im with
  | false =>
    simp only [impT, Bool.false_eq_true, if_false, List.append_nil]
    rw [solid_id (sq_solid hs), imp_sq hs (hi rfl)]
  | true =>
    simp only [impT, if_true]
    have hsol : Solid (sqF false V ++ [tkM]) := by
      refine ⟨fun t ht => ?_, fun t ht => ?_⟩
      · cases hq : sqF false V with
        | nil =>
          rw [hq] at ht
          obtain rfl : tkM = t := by simpa using ht
          rfl
        | cons a K =>
          rw [hq] at ht
          exact (sq_solid hs).1 t (by rw [hq]; simpa using ht)
      · obtain rfl : tkM = t := by simpa using ht
        rfl
    have hsol2 : Solid (sqF false V ++ [tkM, tkI]) := by
      refine ⟨fun t ht => ?_, fun t ht => ?_⟩
      · refine hsol.1 t ?_
        cases hq : sqF false V with
        | nil => rw [hq] at ht; simpa using ht
        | cons a K => rw [hq] at ht; simpa using ht
      · obtain rfl : tkI = t := by simpa using ht
        rfl
    rw [solid_id hsol2, show sqF false V ++ [tkM, tkI] = (sqF false V ++ [tkM]) ++ [tkI] by simp, imp_snoc _ _ (by simp), if_pos ⟨rfl, by decide⟩, solid_id hsol]
    simp only [List.getLast?_append, List.getLast?_singleton, Option.some_or, List.dropLast_concat]
    rw [if_pos (by decide), solid_id (sq_solid hs)]
theorem told_read {N : Nat} {d : Dc} (h : Told N d) (m : Bs) : declsP (cutP (dText d ++ m)) = d :: declsP (cutP m) := by
  obtain ⟨V, x, hs, hv, hfa, hraw, hi, hcut⟩ := told_cut h
  obtain ⟨_, _, _, _, _, _, hpl, hnm, hown, _⟩ := h
  have hsq := fa_sq hfa (by decide) false
  have hA : Fa (fun t => !semiP t) (tkN d.name x :: tkD :: (sqF false V ++ impT d.imp)) := by
    refine .cons _ _ _ (by simp) (by simp [opensP]) (by simp) (by simp [semiP, rawP]) (.cons _ _ _ (by decide) (by decide) (by decide) (by decide) (fa_app hsq ?_))
    cases d.imp with
    | false => exact .nil _
    | true => exact .cons _ _ _ (by decide) (by decide) (by decide) (by decide) (.cons _ _ _ (by decide) (by decide) (by decide) (by decide) (.nil _))
  rw [hcut m]
  have hd : declP (tkN d.name x :: tkD :: (sqF false V ++ impT d.imp)) = (d, true) := by
    obtain ⟨z, hz, hz2⟩ := last_of (tkN d.name x) tkD V d.imp rfl hs
    have h1 : solidP (tkN d.name x :: tkD :: (sqF false V ++ impT d.imp)) = tkN d.name x :: tkD :: (sqF false V ++ impT d.imp) := solid_id (solid_ends (by simp [silP]) hz hz2)
    have hz' : (tkD :: (sqF false V ++ impT d.imp)).getLast? = some z := by rwa [List.getLast?_cons_cons] at hz
    have h2 : solidP (tkD :: (sqF false V ++ impT d.imp)) = tkD :: (sqF false V ++ impT d.imp) := solid_id (solid_ends rfl hz' hz2)
    unfold declP
    rw [h1]
    unfold declM
    simp only [if_true]
    rw [h2]
    simp only [declB]
    rw [hnm, hpl, if_pos (by decide), imp_told hs d.imp hi]
    simp only
    rw [head_again hs hraw, fa_fair hsq, ← hv]
    refine Prod.ext rfl ?_
    simp only [Bool.true_and, Bool.or_eq_true, decide_eq_true_eq]
    exact hown
  generalize hAA : tkN d.name x :: tkD :: (sqF false V ++ impT d.imp) = A at *
  have hA0 : A ≠ [] := by rw [← hAA]; simp
  have hfind : findP semiP (A ++ tkS :: cutP m) = A.length := by
    rw [find_fa hA semiP (fun t ht => by simpa using ht), findP_cons, if_pos (by decide)]
    rfl
  rw [declsP_cons (by simp), hfind, List.take_left, hd, if_pos rfl]
  rw [show (A ++ tkS :: cutP m).drop (A.length + 1) = cutP m by
    rw [show A ++ tkS :: cutP m = (A ++ [tkS]) ++ cutP m by simp, List.drop_left' (by simp)]]
  rfl
theorem told_all {N : Nat} : ∀ (ds : List Dc), (∀ d ∈ ds, Told N d) → ∀ m, declsP (cutP (dTexts ds ++ m)) = ds ++ declsP (cutP m)
  | [], _, m => rfl
  | d :: ds, h, m => by
    have e : dTexts (d :: ds) ++ m = dText d ++ (dTexts ds ++ m) := by simp [dTexts]
    rw [e, told_read (h d (by simp)), told_all ds (fun x hx => h x (by simp [hx]))]
    rfl
theorem told_len {N : Nat} : ∀ (ds : List Dc), (∀ d ∈ ds, Told N d) → (dTexts ds).length ≤ ds.length * (2 * N + 12)
  | [], _ => by simp [dTexts]
  | d :: ds, h => by
    obtain ⟨_, _, _, _, _, _, _, _, _, _, h1, h2⟩ := h d (by simp)
    have ih := told_len ds (fun x hx => h x (by simp [hx]))
    have e : dTexts (d :: ds) = dText d ++ dTexts ds := by simp [dTexts]
    have hd : (dText d).length ≤ 2 * N + 12 := by
      unfold dText
      split <;> simp <;> omega
    rw [e, List.length_append, List.length_cons, Nat.succ_mul]
    omega
/-- all that is read of a text is so -/
theorem Decls_told {s : Bs} {ds : List Dc} (h : DeclsP s = some ds) : (∀ d ∈ ds, Told 3000 d) ∧ ds.length ≤ 30 ∧ s.length ≤ 3000 := by
  unfold DeclsP at h
  split at h
  · cases h
  · rename_i h3
    split at h
    · cases h
    · rename_i h30
      obtain rfl : _ = ds := Option.some.inj h
      refine ⟨?_, by omega, by omega⟩
      refine told_decls 3000 _ (cutP s) (Nat.le_refl _) (by rw [cut_text]) (fun t ht => ?_) (by rw [cut_text]; omega)
      have := (cut_vals _ s (Nat.le_refl _) t ht).2.2
      omega
/-- TOLD AND READ -/
theorem decl_shown {s : Bs} {ds : List Dc} (h : DeclsP s = some ds) : DeclsP (dTexts ds) = if 3000 < (dTexts ds).length then none else some ds := by
  obtain ⟨h1, h2, h3⟩ := Decls_told h
  have := told_all ds h1 []
  rw [List.append_nil, cutP_nil, declsP_nil, List.append_nil] at this
  unfold DeclsP
  rw [this, if_neg (show ¬ 30 < ds.length by omega)]

end Go.Proofs.YtaihncbejhnceaaDoor.rul
