/- Contracts: Number. -/
import Derived.Test.YtphdmdncboegjaaDoorNum1
import Derived.Test.YtphdmdncboegjaaDoorNum2
import Derived.Test.YtphdmdncboegjaaDoorNum3
namespace Go.Proofs.YtphdmdncboegjaaDoor.tok
open Go.RowKit Go.Proofs.YtphdmdncboegjaaDoor.base
set_option linter.unusedVariables false

set_option maxRecDepth 100000 in
set_option maxHeartbeats 2000000 in
theorem number_empty (s : ByteArray) (h0 : s.size = 0) (w : World) :
    Calls Tryd.prog 62 #[.string s] w fun e w' => e = .returned (.tuple #[.int .i64 0, .int .i64 0]) ∧ Below w.heap.size w w' := by
  obtain ⟨⟨l⟩⟩ := s
  have hl : l = [] := List.eq_nil_of_length_eq_zero h0
  subst hl
  have c1 : ∀ w, Calls Tryd.prog 97 #[.string ⟨#[]⟩] w fun e w' => e = .returned (.int .i64 0) ∧ Below w.heap.size w w' := fun w => digits_ct (⟨#[]⟩ : ByteArray) (show 0 ≤ maxLen from Nat.zero_le _) w
  have c2 : ∀ w, Calls Tryd.prog 64 #[.string ⟨#[]⟩, .string ⟨#[46]⟩] w fun e w' => e = .returned (.bool false) ∧ w = w' := fun w => (Tryd.strings_HasPrefix (⟨#[]⟩ : ByteArray) (bs [46]) w).mono fun e w' ⟨h1, h2⟩ => ⟨h1, h2.symm⟩
  replace c1 := Lib.hid c1
  replace c2 := Lib.hid c2
  clear h0
  go_enter Tryd.func62, Tryd.ntmps62
  go_wp2_with (first | (go_at_call 97; refine (c1.out _).mono ?_; rintro e w1 ⟨rfl, hb1⟩) | (go_at_call 64; refine (c2.out _).mono ?_; rintro e w2 ⟨rfl, rfl⟩))
  go_ret2
  exact ⟨rfl, hb1⟩

theorem sign_of {s : ByteArray} (h0 : 0 < s.size) : signAt s.data.toList = (if nv s[0] = 43 ∨ nv s[0] = 45 then 1 else 0) ∧ negP s.data.toList = decide (nv s[0] = 45) := by
  obtain ⟨⟨l⟩⟩ := s
  match l, h0 with
  | a :: r, _ => exact ⟨rfl, rfl⟩
theorem behind_of (l : Bs) (k : Nat) : behindP (l.drop k) = if Lib.hasPrefix (l.drop k) [46] then digitsP (l.drop (k + 1)) else 0 := by
  rw [Nat.add_comm, ← List.drop_drop, List.drop_drop]
  rcases h : l.drop k with _ | ⟨c, t⟩
  · rfl
  · have ht : l.drop (k + 1) = t := by
      have := congrArg (List.drop 1) h
      rw [List.drop_drop] at this
      simpa using this
    rw [Nat.add_comm, ht]
    by_cases hc : nv c = 46
    · have : c = 46 := by
        apply UInt8.toNat_inj.1
        simp only [nv] at hc
        have : (46 : UInt8).toNat = 46 := rfl
        omega
      subst this
      rfl
    · have : ¬ c = 46 := fun e => hc (by rw [e]; rfl)
      simp [behindP, Lib.hasPrefix, hc, List.isPrefixOf, Ne.symm this]

theorem number_ct (s : ByteArray) (hs : s.size ≤ 140737488355328) (w : World) :
    Calls Tryd.prog 62 #[.string s] w fun e w' => e = .returned (.tuple #[.int .i64 (numberP s.data.toList).1, .int .i64 ((numberP s.data.toList).2 : Int)]) ∧ Below w.heap.size w w' := by
  rcases Nat.eq_zero_or_pos s.size with h0 | h0
  · have hn : numberP s.data.toList = (0, 0) := by
      obtain ⟨⟨l⟩⟩ := s
      have hl : l = [] := List.eq_nil_of_length_eq_zero h0
      subst hl
      rfl
    rw [hn]
    exact number_empty s h0 w
  · obtain ⟨h1, h2⟩ := sign_of h0
    unfold numberP
    rw [h1, h2]
    by_cases a : nv s[0] = 43
    · rw [if_pos (Or.inl a), decide_eq_false (by omega : ¬ nv s[0] = 45)]
      exact number_plus s hs h0 (by simpa using a) (by simp only [nv] at a; simp; omega) _ _ _ rfl rfl (behind_of _ _) w
    · by_cases b : nv s[0] = 45
      · rw [if_pos (Or.inr b), decide_eq_true b]
        exact number_minus s hs h0 (by simpa using a) (by simpa using b) _ _ _ rfl rfl (behind_of _ _) w
      · rw [if_neg (by omega), decide_eq_false b]
        refine (number_none s hs h0 (by simpa using a) (by simpa using b) _ _ _ rfl rfl ?_ w)
        have := behind_of s.data.toList (0 + digitsP (s.data.toList.drop 0))
        rw [Nat.zero_add] at this
        rw [Nat.zero_add]
        exact this

end Go.Proofs.YtphdmdncboegjaaDoor.tok
