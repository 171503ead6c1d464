/- DimBack: the text of a number with a unit is one token. No walk. -/
import Derived.Test.YtphdmdncboegjaaDoorDimL1
import Derived.Test.YtphdmdncboegjaaDoorTokL3
namespace Go.Proofs.YtphdmdncboegjaaDoor.dim
open Go.RowKit Go.Proofs.YtphdmdncboegjaaDoor.base Go.Proofs.YtphdmdncboegjaaDoor.tok
set_option linter.unusedVariables false

theorem unit_names {u : Bs} (h : u ∈ unitsL) : u = [] ∨ u = [37] ∨ (Lib.hasPrefix u [37] = false ∧ beginsP u = true ∧ nameP u = (u, u.length) ∧ u.map lowB = u) := by
  simp only [unitsL, List.mem_cons, List.not_mem_nil, or_false] at h
  rcases h with rfl | rfl | rfl | rfl | rfl | rfl | rfl
  · exact .inl rfl
  · exact .inr (.inr ⟨by decide, by decide, by rw [nameP, if_neg (by decide), if_pos (by decide), nameP, if_pos (by decide)]; rfl, by decide⟩)
  · exact .inr (.inr ⟨by decide, by decide, by rw [nameP, if_neg (by decide), if_pos (by decide), nameP, if_pos (by decide)]; rfl, by decide⟩)
  · exact .inr (.inr ⟨by decide, by decide, by rw [nameP, if_neg (by decide), if_pos (by decide), nameP, if_neg (by decide), if_pos (by decide), nameP, if_pos (by decide)]; rfl, by decide⟩)
  · exact .inr (.inr ⟨by decide, by decide, by rw [nameP, if_neg (by decide), if_pos (by decide), nameP, if_pos (by decide)]; rfl, by decide⟩)
  · exact .inr (.inr ⟨by decide, by decide, by rw [nameP, if_neg (by decide), if_pos (by decide), nameP, if_pos (by decide)]; rfl, by decide⟩)
  · exact .inr (.inl rfl)
theorem unit_head {u : Bs} (h : u ∈ unitsL) : ∀ c, u.head? = some c → digI (nv c) = false ∧ ¬ nv c = 46 := by
  simp only [unitsL, List.mem_cons, List.not_mem_nil, or_false] at h
  intro c hc
  rcases h with rfl | rfl | rfl | rfl | rfl | rfl | rfl <;> simp at hc <;> subst hc <;> exact ⟨by decide, by decide⟩

theorem space_head {l : Bs} {c : UInt8} (h : l.head? = some c) (hc : 33 ≤ nv c) : spaceP l = 0 := by
  cases l with
  | nil => cases h
  | cons a r =>
    obtain rfl : a = c := by simpa using h
    have hb : blankB a = false := by
      cases hb : blankB a
      · rfl
      · exfalso
        simp only [blankB, List.contains_eq_mem, List.mem_cons, List.not_mem_nil, or_false, decide_eq_true_eq] at hb
        rcases hb with rfl | rfl | rfl | rfl | rfl <;> revert hc <;> decide
    unfold spaceP
    rw [List.takeWhile_cons_of_neg (by simp [hb])]
    rfl
theorem prefix_head {l : Bs} {c : UInt8} (h : l.head? = some c) (hc : ¬ nv c = 47) : Lib.hasPrefix l [47, 42] = false := by
  cases l with
  | nil => cases h
  | cons a r =>
    obtain rfl : a = c := by simpa using h
    have ha : ((47 : UInt8) == a) = false := by
      rw [beq_eq_false_iff_ne]
      rintro rfl
      exact hc rfl
    unfold Lib.hasPrefix
    rw [List.isPrefixOf_cons_cons, ha]
    rfl

theorem text_cut (s u : Bs) (m : Nat) (hm : m ≤ 1000000000) (neg : Bool) (hu : u ∈ unitsL) (hs : (s = [] ∧ neg = false) ∨ (s = [45] ∧ neg = true)) :
    cutP (s ++ (plainP m ++ u)) = [⟨7, s ++ (plainP m ++ u), u, if neg then -(m : Int) else (m : Int)⟩] := by
  have hnum := number_at s u m hm neg (unit_head hu) hs
  obtain ⟨c, W, hW⟩ := List.exists_cons_of_ne_nil (dec_ne (m / 1000))
  have hcd := dec_digs (m / 1000) c (by rw [hW]; simp)
  simp [digI] at hcd
  have hhead : ∃ x, (s ++ (plainP m ++ u)).head? = some x ∧ (nv x = 45 ∨ (48 ≤ nv x ∧ nv x ≤ 57)) := by
    rcases hs with ⟨rfl, -⟩ | ⟨rfl, -⟩
    · refine ⟨c, ?_, .inr hcd⟩
      unfold plainP
      rw [hW]
      rfl
    · exact ⟨45, rfl, .inl rfl⟩
  have hpos : 0 < (plainP m).length := by
    unfold plainP
    rw [hW]
    simp
  obtain ⟨x, hx, hxr⟩ := hhead
  have hdrop : (s ++ (plainP m ++ u)).drop (s.length + (plainP m).length) = u := by
    rw [← List.append_assoc, ← List.length_append, List.drop_left]
  have hlen : (s ++ (plainP m ++ u)).length = s.length + (plainP m).length + u.length := by
    simp only [List.length_append]
    omega
  generalize hL : s ++ (plainP m ++ u) = l at *
  have hn0 : 0 < s.length + (plainP m).length := by omega
  generalize s.length + (plainP m).length = n at *

  have hne : l ≠ [] := by
    rintro rfl
    cases hx
  have hq : quoteP l = false := by
    cases hq : quoteP l
    · rfl
    · have := quote_head hx hq
      omega
  have hf : firstP l = ⟨7, l, u, if neg then -(m : Int) else (m : Int)⟩ := by
    have htk : 0 < n → firstP l = numTkP l (if neg then -(m : Int) else (m : Int)) n := by
      intro h0
      rw [firstP, if_neg (by rw [space_head hx (by omega)]; omega), if_neg (by rw [prefix_head hx (by omega)]; decide), if_neg (by rw [hq]; decide), if_neg (by rw [hash_head hx (by omega)]; decide),
        if_neg (by rw [at_head hx (by omega)]; decide), hnum, if_pos h0]
    rw [htk hn0]
    unfold numTkP
    rw [hdrop]
    rcases unit_names hu with rfl | rfl | ⟨h1, h2, h3, h4⟩
    · rw [if_neg (by decide), if_neg (by decide), List.take_of_length_le (by rw [hlen]; simp)]
    · rw [if_pos (by decide), List.take_of_length_le (by rw [hlen]; simp)]
    · rw [if_neg (by rw [h1]; decide), if_pos h2, h3]
      simp only
      rw [h4, List.take_of_length_le (by omega)]
  rw [cutP_cons hne, hf]
  simp [cutP_nil]

end Go.Proofs.YtphdmdncboegjaaDoor.dim
