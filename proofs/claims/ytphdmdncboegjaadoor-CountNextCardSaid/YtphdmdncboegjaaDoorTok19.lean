/- Contracts: first; the plain law of cutting. -/
import Derived.Test.YtphdmdncboegjaaDoorTok10
import Derived.Test.YtphdmdncboegjaaDoorTok11
import Derived.Test.YtphdmdncboegjaaDoorTok12
import Derived.Test.YtphdmdncboegjaaDoorTok13
import Derived.Test.YtphdmdncboegjaaDoorTok14
import Derived.Test.YtphdmdncboegjaaDoorTok16
import Derived.Test.YtphdmdncboegjaaDoorTok17
import Derived.Test.YtphdmdncboegjaaDoorTok18
namespace Go.Proofs.YtphdmdncboegjaaDoor.tok
open Go.RowKit Go.Proofs.YtphdmdncboegjaaDoor.base
set_option linter.unusedVariables false

theorem first_ct (s : ByteArray) (hs : s.size < 4294967281) (h0 : 0 < s.size) (w : World) (hm : MaxL w) :
    Calls Tryd.prog 34 #[.string s] w fun e w' => e = .returned (.agg (firstP s.data.toList).cells) ∧ Below w.heap.size w w' := by
  rcases Nat.eq_zero_or_pos (spaceP s.data.toList) with hsp | hsp
  · cases hn : Lib.hasPrefix s.data.toList [47, 42]
    · by_cases hq : nv s[0] = 39 ∨ nv s[0] = 34
      · exact first_quote s hs h0 w hsp hn hq
      · by_cases h35 : nv s[0] = 35
        · rcases Nat.lt_or_ge 1 s.size with h1 | h1
          · cases hsb : signI (nv s[1])
            · cases heb : escP (s.extract 1 s.size).data.toList
              · have hnp : (numberP s.data.toList).2 = 0 := by
                  rcases Nat.eq_zero_or_pos (numberP s.data.toList).2 with h | h
                  · exact h
                  · exact absurd h35 (number_no' (head_of h0) h).1
                have hbg : beginsP s.data.toList = false := by
                  cases h : beginsP s.data.toList
                  · rfl
                  · exact absurd h35 (begins_no' (head_of h0) h).1
                exact one_hash s hs h0 w hsp hn hnp hbg h35 h1 false false hsb heb rfl rfl
              · exact first_hash s hs h0 w hsp hn h35 h1 false true hsb heb rfl
            · exact first_hash s hs h0 w hsp hn h35 h1 true (escP (s.extract 1 s.size).data.toList) hsb rfl rfl
          · have hnp : (numberP s.data.toList).2 = 0 := by
              rcases Nat.eq_zero_or_pos (numberP s.data.toList).2 with h | h
              · exact h
              · exact absurd h35 (number_no' (head_of h0) h).1
            have hbg : beginsP s.data.toList = false := by
              cases h : beginsP s.data.toList
              · rfl
              · exact absurd h35 (begins_no' (head_of h0) h).1
            exact one_hash_short s hs h0 w hsp hn hnp hbg h35 h1
        · rcases Nat.eq_zero_or_pos (numberP s.data.toList).2 with hnp | hnp
          · cases hbg : beginsP s.data.toList
            · by_cases h64 : nv s[0] = 64
              · cases hb1 : beginsP (s.extract 1 s.size).data.toList
                · exact one_at s hs h0 w hsp hn hnp hbg h64 hb1
                · exact first_at s hs h0 w hsp hn h64 hb1
              · by_cases a1 : nv s[0] = 40
                · exact one_40 s hs h0 w hsp hn hnp hbg a1
                by_cases a2 : nv s[0] = 91
                · exact one_91 s hs h0 w hsp hn hnp hbg a2
                by_cases a3 : nv s[0] = 123
                · exact one_123 s hs h0 w hsp hn hnp hbg a3
                by_cases a4 : nv s[0] = 41
                · exact one_41 s hs h0 w hsp hn hnp hbg a4
                by_cases a5 : nv s[0] = 93
                · exact one_93 s hs h0 w hsp hn hnp hbg a5
                by_cases a6 : nv s[0] = 125
                · exact one_125 s hs h0 w hsp hn hnp hbg a6
                by_cases a7 : nv s[0] = 92
                · exact one_92 s hs h0 w hsp hn hnp hbg a7
                exact one_other s hs h0 w hsp hn hnp hbg (by omega)
            · exact first_word s hs h0 w hsp hn hnp hbg _ rfl
          · exact first_number s hs h0 w hsp hn hnp
    · exact first_note s hs h0 w hm hsp hn
  · exact first_space s hs h0 w hsp

/-- each token's raw text is a beginning, and not empty -/
theorem name_pos {l : Bs} (h : beginsP l = true) : 0 < (nameP l).2 := by
  match l, h with
  | [c], h =>
    have hs : signI (nv c) = true := by simp only [beginsP] at h; simp [signI, h]
    rw [nameP, if_pos hs]
    simp
  | c :: d :: r, h =>
    rw [nameP]
    split
    · simp
    · rename_i he
      have hs : signI (nv c) = true := by
        simp only [beginsP] at h
        split at h
        · rename_i h45
          simp [signI, h45]
        · simp only [he, Bool.or_false] at h
          simp [signI, h]
      rw [if_pos hs]
      simp
theorem space_le (l : Bs) : spaceP l ≤ l.length := by have := space_len l; omega
theorem first_pre (l : Bs) (h0 : l ≠ []) : (∃ k, (firstP l).raw = l.take k) ∧ 0 < (firstP l).raw.length := by
  have hl : 0 < l.length := List.length_pos_iff.2 h0
  have key : ∀ k, 0 < k → (∃ m, l.take k = l.take m) ∧ 0 < (l.take k).length := fun k hk => ⟨⟨k, rfl⟩, by rw [List.length_take]; omega⟩
  unfold firstP
  split
  · rename_i h
    exact key _ h
  · split
    · simp only [noteP]
      split
      · exact key _ (by omega)
      · exact ⟨⟨l.length, by rw [List.take_length]⟩, hl⟩
    · split
      · match l, h0 with
        | q :: r, _ =>
          simp only [textP]
          exact key _ (by omega)
      · split
        · exact key _ (by omega)
        · split
          · exact key _ (by omega)
          · split
            · rename_i h
              simp only [numTkP]
              split
              · exact key _ (by omega)
              · split
                · exact key _ (by omega)
                · exact key _ h
            · split
              · rename_i hb
                have hn := name_pos hb
                simp only [wordP]
                split
                · exact key _ (by omega)
                · simp only [namedP, List.drop_zero]
                  exact key _ (by omega)
              · exact key 1 (by omega)
theorem first_raw (l : Bs) (h0 : l ≠ []) : (firstP l).raw = l.take (firstP l).raw.length := by
  obtain ⟨⟨k, hk⟩, _⟩ := first_pre l h0
  rw [hk, List.length_take, ← List.take_take]
  simp

/-- a text, cut -/
def cutP (l : Bs) : List Tk := if h : l = [] then [] else firstP l :: cutP (l.drop (firstP l).raw.length)
termination_by l.length
decreasing_by
  have h1 := (first_pre l h).2
  have h2 : 0 < l.length := List.length_pos_iff.2 h
  rw [List.length_drop]
  omega
theorem cutP_nil : cutP [] = [] := by rw [cutP]; rfl
theorem cutP_cons {l : Bs} (h : l ≠ []) : cutP l = firstP l :: cutP (l.drop (firstP l).raw.length) := by rw [cutP, dif_neg h]

end Go.Proofs.YtphdmdncboegjaaDoor.tok
