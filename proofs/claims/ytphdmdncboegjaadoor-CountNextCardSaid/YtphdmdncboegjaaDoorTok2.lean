/- Contracts: name. -/
import Derived.Test.YtphdmdncboegjaaDoorTok1
import Derived.Test.YtphdmdncboegjaaDoorBuild
namespace Go.Proofs.YtphdmdncboegjaaDoor.tok
open Go.RowKit Go.Proofs.YtphdmdncboegjaaDoor.base
set_option linter.unusedVariables false

theorem drop_cons {s : ByteArray} {k : Nat} (h : k < s.size) : s.data.toList.drop k = s[k] :: s.data.toList.drop (k + 1) := by
  obtain ⟨⟨l⟩⟩ := s
  exact List.drop_eq_getElem_cons h
theorem drop_nil {s : ByteArray} {k : Nat} (h : s.size ≤ k) : s.data.toList.drop k = [] := by
  obtain ⟨⟨l⟩⟩ := s
  exact List.drop_eq_nil_of_le h
theorem esc_room {s : ByteArray} {k : Nat} (he : escP (s.data.toList.drop k) = true) : k + 1 < s.size := by
  rcases Nat.lt_or_ge (k + 1) s.size with h | h
  · exact h
  · rcases Nat.lt_or_ge k s.size with h1 | h1
    · rw [drop_cons h1, drop_nil h] at he
      simp [escP] at he
    · rw [drop_nil h1] at he
      simp [escP] at he
theorem name_esc {s : ByteArray} {k : Nat} (h : k + 1 < s.size) (he : escP (s.data.toList.drop k) = true) : nameP (s.data.toList.drop k) = (s[k + 1] :: (nameP (s.data.toList.drop (k + 2))).1, (nameP (s.data.toList.drop (k + 2))).2 + 2) := by
  rw [drop_cons (k := k) (by omega), drop_cons (k := k + 1) h] at he ⊢
  rw [nameP, if_pos he]
theorem name_sign {s : ByteArray} {k : Nat} (h : k < s.size) (he : escP (s.data.toList.drop k) = false) (hs : signI (nv s[k]) = true) : nameP (s.data.toList.drop k) = (s[k] :: (nameP (s.data.toList.drop (k + 1))).1, (nameP (s.data.toList.drop (k + 1))).2 + 1) := by
  rcases Nat.lt_or_ge (k + 1) s.size with h1 | h1
  · rw [drop_cons (k := k) (by omega), drop_cons (k := k + 1) h1] at he ⊢
    rw [nameP, if_neg (by rw [he]; simp), if_pos hs]
  · rw [drop_cons h, drop_nil h1]
    rw [nameP, if_pos hs]
    simp [nameP]
theorem name_stop {s : ByteArray} {k : Nat} (h : k < s.size) (he : escP (s.data.toList.drop k) = false) (hs : signI (nv s[k]) = false) : nameP (s.data.toList.drop k) = ([], 0) := by
  rcases Nat.lt_or_ge (k + 1) s.size with h1 | h1
  · rw [drop_cons (k := k) (by omega), drop_cons (k := k + 1) h1] at he ⊢
    rw [nameP, if_neg (by rw [he]; simp), if_neg (by rw [hs]; simp)]
  · rw [drop_cons h, drop_nil h1]
    rw [nameP, if_neg (by rw [hs]; simp)]

/-- what is known of a name that is read up to byte k -/
def NameRel (s : ByteArray) (B : Nat) (w : World) (i : Value) (wr : World) : Prop :=
  ∃ (k : Nat) (acc : Bs), k ≤ s.size ∧ i = .int .i64 k ∧ acc.length ≤ k ∧ nameP s.data.toList = (acc ++ (nameP (s.data.toList.drop k)).1, k + (nameP (s.data.toList.drop k)).2) ∧ IsB B B acc wr ∧ Below B w wr

theorem ret_name {a b : Bs} {m n : Nat} (h1 : a = b) (h2 : m = n) : Ending.returned (.tuple #[.string (bs a), .int .i64 (m : Int)]) = Ending.returned (.tuple #[.string (bs b), .int .i64 (n : Int)]) := by rw [h1, h2]

set_option maxRecDepth 100000 in
set_option maxHeartbeats 2000000 in
theorem name_ct (s : ByteArray) (hs : s.size ≤ 140737488355328) (w : World) : Calls Tryd.prog 96 #[.string s] w fun e w' => e = .returned (.tuple #[.string (bs (nameP s.data.toList).1), .int .i64 ((nameP s.data.toList).2 : Int)]) ∧ Below w.heap.size w w' := by
  have HS := Lib.hid (show s.size ≤ maxLen by unfold maxLen; omega)
  go_enter Tryd.func96, Tryd.ntmps96
  go_wp2_with fail
  go_loopw [5] (fun i wr => NameRel s w.heap.size w i wr) (fun i _ => s.size - (intOf i).toNat)
  case atStart => exact ⟨0, [], by omega, rfl, by simp, by simp, IsB.new w _ (Nat.le_refl _), (Below.refl _ _).alloc (Nat.le_refl _) _⟩
  case round =>
    obtain ⟨k, acc, hk, rfl, hal, hinv, hB, hbel⟩ := hrel
    have hz := hbel.size
    have HBl := Lib.hid hbel
    replace hB := Lib.hid hB
    replace hinv := Lib.hid hinv
    clear hbel
    by_cases hlt : k < s.size
    · have hlt' : (k : Int) < (s.size : Int) := by omega
      have c2 := fun w => escape_ct (s.extract k s.size) (sub_len _ _ HS.out) w
      simp only [Lib.extract_to_end] at c2
      cases he : escP (s.data.toList.drop k)
      · simp only [he] at c2
        replace c2 := Lib.hid c2
        have c1 := fun w => sign_ct (nv s[k]) (nv_nn _) (nv_lt _) w
        cases hg : signI (nv s[k])
        · simp only [hg] at c1
          replace c1 := Lib.hid c1
          have hst := Lib.hid (name_stop hlt he hg)
          clear he hg
          go_wp2_with (first | (go_at_call 59; (with_reducible refine (c2.out _).mono ?_); rintro e w' ⟨rfl, rfl⟩) | (go_at_call 58; (with_reducible refine (c1.out _).mono ?_); rintro e w' ⟨rfl, rfl⟩) | (go_at_call 36; (with_reducible refine (builderString_ct _ _ acc _ hB.out hz).mono ?_); rintro e w1 ⟨rfl, hb1⟩))
          go_ret2
          refine ⟨?_, HBl.out.trans hb1⟩
          rw [hinv.out, hst.out]
          exact ret_name (by simp) (by simp)
        · simp only [hg] at c1
          replace c1 := Lib.hid c1
          have hst := Lib.hid (name_sign hlt he hg)
          clear he hg
          go_wp2_with (first | (go_at_call 59; (with_reducible refine (c2.out _).mono ?_); rintro e w' ⟨rfl, rfl⟩) | (go_at_call 58; (with_reducible refine (c1.out _).mono ?_); rintro e w' ⟨rfl, rfl⟩) | (go_at_call 93; (with_reducible refine (writeByte_ct _ _ acc s[k] _ hB.out (by omega) hz).mono ?_); rintro e w1 ⟨rfl, hb0, hb1⟩; replace hb0 := Lib.hid hb0; replace hb1 := Lib.hid hb1))
          go_roundw
          case rel =>
            refine ⟨k + 1, acc ++ [s[k]], by omega, by go_num, by simp; omega, ?_, hb0.out, HBl.out.trans hb1.out⟩
            rw [hinv.out, hst.out]
            simp
            omega
          case measure => simp [intOf]; omega
      · simp only [he] at c2
        replace c2 := Lib.hid c2
        have hrm := esc_room he
        have hst := Lib.hid (name_esc hrm he)
        clear he
        have hrm' : (k : Int) + 1 < (s.size : Int) := by omega
        go_wp2_with (first | (go_at_call 59; (with_reducible refine (c2.out _).mono ?_); rintro e w' ⟨rfl, rfl⟩) | (go_at_call 93; (with_reducible refine (writeByte_ct _ _ acc s[k + 1] _ hB.out (by omega) hz).mono ?_); rintro e w1 ⟨rfl, hb0, hb1⟩; replace hb0 := Lib.hid hb0; replace hb1 := Lib.hid hb1))
        go_roundw
        case rel =>
          refine ⟨k + 2, acc ++ [s[k + 1]], by omega, by go_num, by simp; omega, ?_, hb0.out, HBl.out.trans hb1.out⟩
          rw [hinv.out, hst.out]
          simp
          omega
        case measure => simp [intOf]; omega
    · obtain rfl : k = s.size := by omega
      have hst := Lib.hid (show nameP (s.data.toList.drop s.size) = ([], 0) by rw [drop_nil (Nat.le_refl _)]; simp [nameP])
      go_wp2_with ((go_at_call 36; (with_reducible refine (builderString_ct _ _ acc _ hB.out hz).mono ?_); rintro e w1 ⟨rfl, hb1⟩))
      go_ret2
      refine ⟨?_, HBl.out.trans hb1⟩
      rw [hinv.out, hst.out]
      exact ret_name (by simp) (by simp)

end Go.Proofs.YtphdmdncboegjaaDoor.tok
