/- Contracts: digit, starts, sign, escape, begins. -/
import Derived.Test.YtphdmdncboegjaaDoorTok0
import Derived.Lib.IndexBytes
namespace Go.Proofs.YtphdmdncboegjaaDoor.tok
open Go.RowKit Go.Proofs.YtphdmdncboegjaaDoor.base
set_option linter.unusedVariables false

theorem digit_ct (n : Int) (w : World) : Calls Tryd.prog 95 #[.int .u8 n] w fun e w' => e = .returned (.bool (digI n)) ∧ w = w' := by
  by_cases h1 : 48 ≤ n
  · by_cases h2 : n ≤ 57
    · have hd : digI n = true := by simp [digI, h1, h2]
      replace hd := Lib.hid hd
      go_enter Tryd.func95, Tryd.ntmps95
      go_wp2
      go_ret
      exact ⟨by rw [hd.out]; rfl, rfl⟩
    · have hd : digI n = false := by simp [digI, h1, h2]
      replace hd := Lib.hid hd
      go_enter Tryd.func95, Tryd.ntmps95
      go_wp2
      go_ret
      exact ⟨by rw [hd.out]; rfl, rfl⟩
  · have hd : digI n = false := by simp [digI, h1]
    replace hd := Lib.hid hd
    go_enter Tryd.func95, Tryd.ntmps95
    go_wp2
    go_ret
    exact ⟨by rw [hd.out]; rfl, rfl⟩

set_option maxHeartbeats 400000 in
theorem starts_ct (n : Int) (h0 : 0 ≤ n) (hh : n < 256) (w : World) : Calls Tryd.prog 94 #[.int .u8 n] w fun e w' => e = .returned (.bool (startsI n)) ∧ w = w' := by
  by_cases h1 : 128 ≤ n
  · have hd : startsI n = true := by simp [startsI, h1]
    replace hd := Lib.hid hd
    go_enter Tryd.func94, Tryd.ntmps94
    go_wp2
    go_ret
    exact ⟨by rw [hd.out]; rfl, rfl⟩
  · by_cases h2 : n = 95
    · subst h2
      go_enter Tryd.func94, Tryd.ntmps94
      go_wp2
      go_ret
      exact ⟨rfl, rfl⟩
    · have h2' : (n == 95) = false := by simp [h2]
      have hor := or_letter n h0 (by omega)
      have hd : startsI n = decide (97 ≤ bits BinOp.or IntKind.u8 n 32 ∧ bits BinOp.or IntKind.u8 n 32 ≤ 122) := by
        rw [startsI, decide_eq_decide, hor]
        omega
      replace hd := Lib.hid hd
      clear hor
      by_cases h3 : 97 ≤ bits BinOp.or IntKind.u8 n 32
      · by_cases h4 : bits BinOp.or IntKind.u8 n 32 ≤ 122
        all_goals
          go_enter Tryd.func94, Tryd.ntmps94
          go_wp2
          go_ret
          exact ⟨by rw [hd.out]; simp [h3, h4]; try rfl, rfl⟩
      · go_enter Tryd.func94, Tryd.ntmps94
        go_wp2
        go_ret
        exact ⟨by rw [hd.out, decide_eq_false (fun h => absurd h.1 (by omega))]; rfl, rfl⟩

set_option maxHeartbeats 400000 in
theorem sign_ct (n : Int) (h0 : 0 ≤ n) (hh : n < 256) (w : World) : Calls Tryd.prog 58 #[.int .u8 n] w fun e w' => e = .returned (.bool (signI n)) ∧ w = w' := by
  have hs : signI n = (startsI n || digI n || decide (n = 45)) := rfl
  replace hs := Lib.hid hs
  have c1 := fun w => starts_ct n h0 hh w
  have c2 := fun w => digit_ct n w
  generalize startsI n = a at *
  generalize digI n = b at *
  cases a
  · cases b
    all_goals
      go_enter Tryd.func58, Tryd.ntmps58
      go_wp2_with (first | (go_at_call 94; refine (c1 _).mono ?_; rintro e w' ⟨rfl, rfl⟩) | (go_at_call 95; refine (c2 _).mono ?_; rintro e w' ⟨rfl, rfl⟩))
      go_ret
      exact ⟨by rw [hs.out]; rfl, rfl⟩
  · go_enter Tryd.func58, Tryd.ntmps58
    go_wp2_with (first | (go_at_call 94; refine (c1 _).mono ?_; rintro e w' ⟨rfl, rfl⟩) | (go_at_call 95; refine (c2 _).mono ?_; rintro e w' ⟨rfl, rfl⟩))
    go_ret
    exact ⟨by rw [hs.out]; rfl, rfl⟩

theorem esc_short {s : ByteArray} (h : s.size < 2) : escP s.data.toList = false := by
  obtain ⟨⟨l⟩⟩ := s
  match l, h with
  | [], _ => rfl
  | [_], _ => rfl
theorem esc_long {s : ByteArray} (h : 1 < s.size) : escP s.data.toList = (decide (nv (s[0]'(by omega)) = 92) && decide (nv (s[1]'h) ≠ 10)) := by
  obtain ⟨⟨l⟩⟩ := s
  match l, h with
  | a :: b :: r, _ => rfl

theorem ret_bool {a b : Bool} (h : a = b) : Ending.returned (.bool a) = .returned (.bool b) := by rw [h]

set_option maxHeartbeats 400000 in
theorem escape_ct (s : ByteArray) (hs : s.size ≤ maxLen) (w : World) : Calls Tryd.prog 59 #[.string s] w fun e w' => e = .returned (.bool (escP s.data.toList)) ∧ w = w' := by
  unfold maxLen at hs
  by_cases h1 : 1 < s.size
  · have hl := Lib.hid (esc_long h1)
    have h1' : 0 < s.size := by omega
    go_enter Tryd.func59, Tryd.ntmps59
    go_wp2
    all_goals
      go_ret
      refine ⟨ret_bool ?_, rfl⟩
      rw [hl.out]
      simp [*]
      try rfl
  · have hd : escP s.data.toList = false := esc_short (by omega)
    replace hd := Lib.hid hd
    go_enter Tryd.func59, Tryd.ntmps59
    go_wp2
    go_ret
    exact ⟨by rw [hd.out]; rfl, rfl⟩

theorem beg_nil {s : ByteArray} (h : s.size = 0) : beginsP s.data.toList = false := by
  obtain ⟨⟨l⟩⟩ := s
  match l, h with
  | [], _ => rfl
theorem beg_one {s : ByteArray} (h : s.size = 1) : beginsP s.data.toList = (startsI (nv (s[0]'(by omega))) || escP s.data.toList) := by
  obtain ⟨⟨l⟩⟩ := s
  match l, h with
  | [a], _ => simp [beginsP, escP]; rfl
theorem beg_dash {s : ByteArray} (h : 1 < s.size) (hd : nv (s[0]'(by omega)) = 45) : beginsP s.data.toList = (decide (nv (s[1]'h) = 45) || startsI (nv (s[1]'h)) || escP (s.extract 1 s.size).data.toList) := by
  rw [Lib.extract_to_end]
  obtain ⟨⟨l⟩⟩ := s
  match l, h, hd with
  | a :: b :: r, _, hd => exact if_pos hd
theorem beg_two {s : ByteArray} (h : 1 < s.size) (hd : ¬ nv (s[0]'(by omega)) = 45) : beginsP s.data.toList = (startsI (nv (s[0]'(by omega))) || escP s.data.toList) := by
  obtain ⟨⟨l⟩⟩ := s
  match l, h, hd with
  | a :: b :: r, _, hd => exact if_neg hd
theorem empty_no {s : ByteArray} (h : 0 < s.size) : s.toList.isEmpty = false := by
  rw [ByteArray.toList_eq]
  obtain ⟨⟨l⟩⟩ := s
  match l, h with
  | a :: r, _ => rfl
theorem empty_yes {s : ByteArray} (h : s.size = 0) : s.toList.isEmpty = true := by
  rw [ByteArray.toList_eq]
  obtain ⟨⟨l⟩⟩ := s
  match l, h with
  | [], _ => rfl
theorem sub_len {s : ByteArray} (a b : Nat) (h : s.size ≤ maxLen) : (s.extract a b).size ≤ maxLen := by
  simp only [ByteArray.size_extract]
  omega

set_option maxRecDepth 100000 in
set_option maxHeartbeats 1000000 in
theorem begins_ct (s : ByteArray) (hs : s.size ≤ maxLen) (w : World) : Calls Tryd.prog 61 #[.string s] w fun e w' => e = .returned (.bool (beginsP s.data.toList)) ∧ w = w' := by
  have HS := Lib.hid hs
  unfold maxLen at hs
  rcases Nat.lt_trichotomy s.size 1 with h0 | h0 | h0
  · have hd := Lib.hid (beg_nil (s := s) (by omega))
    have he := empty_yes (s := s) (by omega)
    go_enter Tryd.func61, Tryd.ntmps61
    go_wp2
    go_ret
    exact ⟨by rw [hd.out]; rfl, rfl⟩
  · have hd := Lib.hid (beg_one (s := s) h0)
    have he := empty_no (s := s) (by omega)
    have h1 : 0 < s.size := by omega
    have h2 : ¬ (1 < s.size) := by omega
    replace h0 := Lib.hid h0
    have c1 := Lib.hid (fun w => starts_ct (nv s[0]) (nv_nn _) (nv_lt _) w)
    have c2 := fun w => escape_ct s HS.out w
    rw [esc_short (s := s) (by omega)] at hd c2
    have hq : ∃ q, ((s[0].toNat : Int) == 45) = q := ⟨_, rfl⟩
    obtain ⟨q, hq⟩ := hq
    replace c2 := Lib.hid c2
    cases hb : startsI (nv s[0]) <;> rw [hb] at hd c1 <;> clear hb <;> cases q
    all_goals
      go_enter Tryd.func61, Tryd.ntmps61
      go_wp2_with (first | (go_at_call 94; (with_reducible refine (c1.out _).mono ?_); rintro e w' ⟨rfl, rfl⟩) | (go_at_call 59; (with_reducible refine (c2.out _).mono ?_); rintro e w' ⟨rfl, rfl⟩))
      all_goals
        go_ret
        exact ⟨by rw [hd.out]; rfl, rfl⟩
  · have he := empty_no (s := s) (by omega)
    have h1 : 0 < s.size := by omega
    by_cases hd : nv s[0] = 45
    · have hb := beg_dash h0 hd
      have hd1 : ((s[0].toNat : Int) == 45) = true := by simpa using hd
      replace hd := Lib.hid hd
      have c1 := Lib.hid (fun w => starts_ct (nv s[1]) (nv_nn _) (nv_lt _) w)
      have c2 := fun w => escape_ct (s.extract 1 s.size) (sub_len _ _ HS.out) w
      generalize escP (s.extract 1 s.size).data.toList = z at *
      replace hb := Lib.hid hb
      replace c2 := Lib.hid c2
      by_cases h5 : nv s[1] = 45
      · have h6 : ((s[1].toNat : Int) == 45) = true := by simpa using h5
        rw [decide_eq_true h5] at hb
        replace h5 := Lib.hid h5
        go_enter Tryd.func61, Tryd.ntmps61
        go_wp2_with fail
        go_ret
        exact ⟨by rw [hb.out]; rfl, rfl⟩
      · have h6 : ((s[1].toNat : Int) == 45) = false := by simpa using h5
        rw [decide_eq_false h5] at hb
        replace h5 := Lib.hid h5
        cases hs1 : startsI (nv s[1]) <;> rw [hs1] at hb c1 <;> clear hs1
        all_goals
          go_enter Tryd.func61, Tryd.ntmps61
          go_wp2_with (first | (go_at_call 94; refine (c1.out _).mono ?_; rintro e w' ⟨rfl, rfl⟩) | (go_at_call 59; refine (c2.out _).mono ?_; rintro e w' ⟨rfl, rfl⟩))
          all_goals
            go_ret
            exact ⟨by rw [hb.out]; rfl, rfl⟩
    · have hb := Lib.hid (beg_two h0 hd)
      have hd1 : ((s[0].toNat : Int) == 45) = false := by simpa using hd
      replace hd := Lib.hid hd
      have c1 := Lib.hid (fun w => starts_ct (nv s[0]) (nv_nn _) (nv_lt _) w)
      have c2 := Lib.hid (fun w => escape_ct s HS.out w)
      cases hs1 : startsI (nv s[0]) <;> rw [hs1] at hb c1 <;> clear hs1
      all_goals
        go_enter Tryd.func61, Tryd.ntmps61
        go_wp2_with (first | (go_at_call 94; refine (c1.out _).mono ?_; rintro e w' ⟨rfl, rfl⟩) | (go_at_call 59; refine (c2.out _).mono ?_; rintro e w' ⟨rfl, rfl⟩))
        all_goals
          go_ret
          exact ⟨by rw [hb.out]; rfl, rfl⟩

end Go.Proofs.YtphdmdncboegjaaDoor.tok
