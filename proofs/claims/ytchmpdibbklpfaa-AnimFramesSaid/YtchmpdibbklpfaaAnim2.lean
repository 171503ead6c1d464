/- Contracts: easing, eased, Ease. -/
import Derived.Test.YtchmpdibbklpfaaAnim1
namespace Go.Proofs.Ytchmpdibbklpfaa.anim
open Go.RowKit Go.Proofs.Ytchmpdibbklpfaa.base

set_option maxHeartbeats 1000000 in
theorem easing_ct (kind c0 c1 c2 c3 n : Int) (w : World) :
    Calls Try.prog 23 #[.agg #[.int .i64 kind, .int .i64 c0, .int .i64 c1, .int .i64 c2, .int .i64 c3, .int .i64 n]] w fun e w' => e = .returned (.bool (easingB kind c0 c1 c2 c3 n)) ∧ Below w.heap.size w w' := by
  have hq : ∀ wx, (Op.equalIn 9999 27 (.agg #[.int .i64 c0, .int .i64 c1, .int .i64 c2, .int .i64 c3]) (.agg #[.int .i64 0, .int .i64 0, .int .i64 0, .int .i64 0])).run Try.prog wx = .ok (c0 == 0 && c1 == 0 && c2 == 0 && c3 == 0) wx := fun (wx : World) => run_eq4 9997 wx c0 c1 c2 c3 0 0 0 0
  have hq2 : ∀ wx, (Op.equalIn 10000 27 (.agg #[.int .i64 c0, .int .i64 c1, .int .i64 c2, .int .i64 c3]) (.agg #[.int .i64 0, .int .i64 0, .int .i64 0, .int .i64 0])).run Try.prog wx = .ok (c0 == 0 && c1 == 0 && c2 == 0 && c3 == 0) wx := fun (wx : World) => run_eq4 9998 wx c0 c1 c2 c3 0 0 0 0
  by_cases k1 : kind = 1
  · subst k1
    have Hf := Lib.hid (show easingB 1 c0 c1 c2 c3 n = (c0 == 0 && c1 == 0 && c2 == 0 && c3 == 0 && n == 0) from rfl)
    generalize hb : (c0 == 0 && c1 == 0 && c2 == 0 && c3 == 0) = b at *
    have Hb := Lib.hid hb
    clear hb
    cases b
    · have Hf2 := Lib.hid (show easingB 1 c0 c1 c2 c3 n = false by rw [Hf.out]; rfl)
      clear Hf
      go_enter Try.func23, Try.ntmps23
      go_wp2
      all_goals
        go_ret
        exact ⟨by rw [Hf2.out]; rfl, (Below.refl _ _).alloc (Nat.le_refl _) _⟩
    · by_cases hn : n = 0
      · subst hn
        have Hf2 := Lib.hid (show easingB 1 c0 c1 c2 c3 0 = true by rw [Hf.out]; rfl)
        clear Hf
        go_enter Try.func23, Try.ntmps23
        go_wp2
        go_ret
        exact ⟨by rw [Hf2.out]; rfl, (Below.refl _ _).alloc (Nat.le_refl _) _⟩
      · have Hf2 := Lib.hid (show easingB 1 c0 c1 c2 c3 n = false by rw [Hf.out]; simp [hn])
        clear Hf
        go_enter Try.func23, Try.ntmps23
        go_wp2
        go_ret
        exact ⟨by rw [Hf2.out]; rfl, (Below.refl _ _).alloc (Nat.le_refl _) _⟩
  · by_cases k3 : kind = 3
    · subst k3
      have Hf := Lib.hid (show easingB 3 c0 c1 c2 c3 n = (inB n 1 1000 && (c0 == 0 && c1 == 0 && c2 == 0 && c3 == 0)) from rfl)
      generalize hb : (c0 == 0 && c1 == 0 && c2 == 0 && c3 == 0) = b at *
      have Hb := Lib.hid hb
      clear hb
      go_enter Try.func23, Try.ntmps23
      go_wp2_with fail
      refine (in_ct _ _ _ _).mono ?_
      rintro e W1 ⟨rfl, rfl⟩
      generalize inB n 1 1000 = b2 at *
      cases b2 <;> cases b <;> go_wp2
      all_goals go_ret
      all_goals exact ⟨by rw [Hf.out]; rfl, (Below.refl _ _).alloc (Nat.le_refl _) _⟩
    · by_cases k2 : kind = 2
      · subst k2
        have Hf := Lib.hid (show easingB 2 c0 c1 c2 c3 n = (inB c0 0 1000 && inB c1 0 1000 && inB c2 0 1000 && inB c3 0 1000 && n == 0) from rfl)
        have i0 : ∀ w, (Instr.index 27 (.agg #[.int .i64 c0, .int .i64 c1, .int .i64 c2, .int .i64 c3]) (.int .i64 0)).run Try.prog w = .ok (.int .i64 c0) w := fun _ => by kernel_rfl
        have i1 : ∀ w, (Instr.index 27 (.agg #[.int .i64 c0, .int .i64 c1, .int .i64 c2, .int .i64 c3]) (.int .i64 1)).run Try.prog w = .ok (.int .i64 c1) w := fun _ => by kernel_rfl
        have i2 : ∀ w, (Instr.index 27 (.agg #[.int .i64 c0, .int .i64 c1, .int .i64 c2, .int .i64 c3]) (.int .i64 2)).run Try.prog w = .ok (.int .i64 c2) w := fun _ => by kernel_rfl
        have i3 : ∀ w, (Instr.index 27 (.agg #[.int .i64 c0, .int .i64 c1, .int .i64 c2, .int .i64 c3]) (.int .i64 3)).run Try.prog w = .ok (.int .i64 c3) w := fun _ => by kernel_rfl
        clear hq hq2
        go_enter Try.func23, Try.ntmps23
        go_wp2_with fail
        refine wp_loop_rounds 5 ?_
        rw [rounds_succ]; go_wp2_with fail
        refine (in_ct _ _ _ _).mono ?_
        rintro e W1 ⟨rfl, rfl⟩
        generalize inB c0 0 1000 = b0 at *
        cases b0
        · go_wp2; go_ret; exact ⟨by rw [Hf.out]; rfl, (Below.refl _ _).alloc (Nat.le_refl _) _⟩
        go_wp2_with fail
        rw [rounds_succ]; go_wp2_with fail
        refine (in_ct _ _ _ _).mono ?_
        rintro e W1 ⟨rfl, rfl⟩
        generalize inB c1 0 1000 = b1 at *
        cases b1
        · go_wp2; go_ret; exact ⟨by rw [Hf.out]; rfl, (Below.refl _ _).alloc (Nat.le_refl _) _⟩
        go_wp2_with fail
        rw [rounds_succ]; go_wp2_with fail
        refine (in_ct _ _ _ _).mono ?_
        rintro e W1 ⟨rfl, rfl⟩
        generalize inB c2 0 1000 = b2 at *
        cases b2
        · go_wp2; go_ret; exact ⟨by rw [Hf.out]; rfl, (Below.refl _ _).alloc (Nat.le_refl _) _⟩
        go_wp2_with fail
        rw [rounds_succ]; go_wp2_with fail
        refine (in_ct _ _ _ _).mono ?_
        rintro e W1 ⟨rfl, rfl⟩
        generalize inB c3 0 1000 = b3 at *
        cases b3
        · go_wp2; go_ret; exact ⟨by rw [Hf.out]; rfl, (Below.refl _ _).alloc (Nat.le_refl _) _⟩
        go_wp2_with fail
        rw [rounds_succ]; go_wp2
        go_ret
        exact ⟨by rw [Hf.out]; rfl, (Below.refl _ _).alloc (Nat.le_refl _) _⟩
      · have Hf := Lib.hid (show easingB kind c0 c1 c2 c3 n = false by simp [easingB, k1, k2, k3])
        go_enter Try.func23, Try.ntmps23
        go_wp2
        go_ret
        exact ⟨by rw [Hf.out]; rfl, (Below.refl _ _).alloc (Nat.le_refl _) _⟩

/-- what the search's loop says of its two ends -/
def Srch (a b t : Int) (lo hi : Value) : Prop := ∃ l h : Nat, lo = .int .i64 l ∧ hi = .int .i64 h ∧ l ≤ h ∧ h ≤ 4096 ∧ (∀ i : Nat, i < l → bendI a b i < t) ∧ t ≤ bendI a b h

set_option maxRecDepth 100000 in
set_option maxHeartbeats 1000000 in
theorem eased_ct (kind c0 c1 c2 c3 n t : Int) (w : World) (hr : Right kind c0 c1 c2 c3 n) (t0 : 0 ≤ t) (t1 : t ≤ 1000) :
    Calls Try.prog 25 #[.agg #[.int .i64 kind, .int .i64 c0, .int .i64 c1, .int .i64 c2, .int .i64 c3, .int .i64 n], .int .i64 t] w fun e w' => e = .returned (.int .i64 (easedI kind c0 c1 c2 c3 n t)) ∧ Below w.heap.size w w' := by
  by_cases k3 : kind = 3
  · subst k3
    obtain ⟨n0, n1⟩ := hr.steps rfl
    clear hr
    obtain ⟨m0, m1⟩ := mulb t0 t1 (show 0 ≤ n by omega) n1
    have Hf := Lib.hid (show easedI 3 c0 c1 c2 c3 n t = t * n / 1000 * 1000 / n from rfl)
    have hn : (n == 0) = false := by simp; omega
    have hd : 0 ≤ t * n / 1000 * 1000 / n := Int.ediv_nonneg (by omega) (by omega)
    have hd1 : t * n / 1000 * 1000 / n ≤ 1000000 := Int.le_trans (Int.ediv_le_self _ (by omega)) (by omega)
    go_enter Try.func25, Try.ntmps25
    go_wp2
    go_ret
    exact ⟨by rw [Hf.out]; rfl, (Below.refl _ _).alloc (Nat.le_refl _) _⟩
  · by_cases k2 : kind = 2
    · subst k2
      obtain ⟨⟨p0, q0⟩, ⟨p1, q1⟩, ⟨p2, q2⟩, ⟨p3, q3⟩⟩ := hr.curve rfl
      clear hr
      have Hf := Lib.hid (show easedI 2 c0 c1 c2 c3 n t = bendI c1 c3 (firstN c0 c2 t : Nat) from rfl)
      go_enter Try.func25, Try.ntmps25
      go_wp2
      go_loop [5, 6] (fun lo hi => Srch c0 c2 t lo hi) (fun lo hi => (intOf hi - intOf lo).toNat)
      case atStart => exact ⟨0, 4096, rfl, rfl, by omega, by omega, fun i hi => by omega, by rw [show ((4096 : Nat) : Int) = 4096 from rfl, bendI_all]; exact t1⟩
      case round =>
        obtain ⟨l, h, rfl, rfl, lh, h4, hlow, hhigh⟩ := hrel
        by_cases hlt : l < h
        · obtain ⟨m, hm⟩ : ∃ m : Nat, m = (l + h) / 2 := ⟨_, rfl⟩
          have m1 : l ≤ m := by omega
          have m2 : m < h := by omega
          have em : ((l : Int) + (h : Int)) / 2 = (m : Int) := by omega
          clear hm
          have hb := bendI_range (a := c0) (b := c2) (k := m) p0 q0 p2 q2 (by omega) (by omega)
          have HL := Lib.hid hlow
          clear hlow
          by_cases hc : t ≤ bendI c0 c2 m
          · go_wp2_with fail
            refine (bend_ct _ _ _ _ p0 q0 p2 q2 (by omega) (by omega)).mono ?_
            rintro e W1 ⟨rfl, rfl⟩
            go_wp2
            go_round
            case rel => exact ⟨l, m, rfl, rfl, m1, by omega, HL.out, hc⟩
            case measure => simp [intOf]; omega
          · go_wp2_with fail
            refine (bend_ct _ _ _ _ p0 q0 p2 q2 (by omega) (by omega)).mono ?_
            rintro e W1 ⟨rfl, rfl⟩
            go_wp2
            go_round
            case rel =>
              refine ⟨m + 1, h, by go_num, rfl, by omega, h4, fun i hi => ?_, hhigh⟩
              have := bendI_mono (a := c0) (b := c2) (k := i) (l := m) p0 q0 p2 q2 (by omega) (by omega) (by omega)
              omega
            case measure => simp [intOf]; omega
        · obtain rfl : l = h := by omega
          have hu := Lib.hid (firstN_unique t1 hhigh hlow)
          clear hlow
          go_wp2_with fail
          refine (bend_ct _ _ _ _ p1 q1 p3 q3 (by omega) (by omega)).mono ?_
          rintro e W1 ⟨rfl, rfl⟩
          go_wp2
          go_ret
          exact ⟨by rw [Hf.out, hu.out]; rfl, (Below.refl _ _).alloc (Nat.le_refl _) _⟩
    · have Hf := Lib.hid (show easedI kind c0 c1 c2 c3 n t = t by simp [easedI, k2, k3])
      go_enter Try.func25, Try.ntmps25
      go_wp2
      go_ret
      exact ⟨by rw [Hf.out]; rfl, (Below.refl _ _).alloc (Nat.le_refl _) _⟩

def easeV (kind c0 c1 c2 c3 n t : Int) : Int := if easingB kind c0 c1 c2 c3 n && inB t 0 1000 then easedI kind c0 c1 c2 c3 n t else 0
def easeE (kind c0 c1 c2 c3 n t : Int) : Int := if easingB kind c0 c1 c2 c3 n then (if inB t 0 1000 then 0 else 1) else 3

set_option maxHeartbeats 1000000 in
theorem ease_ct (kind c0 c1 c2 c3 n t : Int) (w : World) :
    Calls Try.prog 15 #[.agg #[.int .i64 kind, .int .i64 c0, .int .i64 c1, .int .i64 c2, .int .i64 c3, .int .i64 n], .int .i64 t] w fun e w' => e = .returned (.tuple #[.int .i64 (easeV kind c0 c1 c2 c3 n t), .int .i64 (easeE kind c0 c1 c2 c3 n t)]) ∧ Below w.heap.size w w' := by
  obtain ⟨v, hv⟩ : ∃ v, v = easeV kind c0 c1 c2 c3 n t := ⟨_, rfl⟩
  obtain ⟨r, hr⟩ : ∃ r, r = easeE kind c0 c1 c2 c3 n t := ⟨_, rfl⟩
  rw [← hv, ← hr]
  have Hv := Lib.hid hv
  have Hr := Lib.hid hr
  clear hv hr
  go_enter Try.func15, Try.ntmps15
  go_wp2_with fail
  refine (easing_ct _ _ _ _ _ _ _).mono ?_
  rintro e W1 ⟨rfl, hb⟩
  have hfin := ((Below.refl w.heap.size w).alloc (Nat.le_refl _) _).trans (hb.mono (by simp))
  have hc := (bcell hb).1
  generalize hee : easingB kind c0 c1 c2 c3 n = be at *
  have Hee := Lib.hid hee
  clear hee
  cases be
  · go_wp2
    go_ret2
    exact ⟨by rw [Hv.out, Hr.out]; simp [easeV, easeE, Hee.out], hfin⟩
  · generalize hii : inB t 0 1000 = bi at *
    have Hii := Lib.hid hii
    clear hii
    go_wp2_with fail
    refine (in_ct _ _ _ _).mono ?_
    rintro e W2 ⟨rfl, rfl⟩
    rw [Hii.out]
    cases bi
    · go_wp2
      go_ret2
      exact ⟨by rw [Hv.out, Hr.out]; simp [easeV, easeE, Hee.out, Hii.out], hfin⟩
    · have hin := (inB_iff _ _ _).1 Hii.out
      go_wp2_with fail
      refine (eased_ct _ _ _ _ _ _ _ _ (easingB_right Hee.out) hin.1 hin.2).mono ?_
      rintro e W2 ⟨rfl, hb2⟩
      go_wp2
      go_ret2
      exact ⟨by rw [Hv.out, Hr.out]; simp [easeV, easeE, Hee.out, Hii.out], hfin.trans (hb2.mono hfin.size)⟩

end Go.Proofs.Ytchmpdibbklpfaa.anim
