/- AnimFrames: the walk. -/
import Derived.Test.YtchmpdibbklpfaaAnimFr0
namespace Go.Proofs.Ytchmpdibbklpfaa.anim.framed
open Go.RowKit Go.Proofs.Ytchmpdibbklpfaa.base Go.Proofs.Ytchmpdibbklpfaa.anim.turned
set_option linter.unusedVariables false


theorem seven (k n : Int) : (Fine k n ∧ (¬ 2 ≤ k ∨ (2 ≤ k ∧ k ≤ 4 ∧ ¬ 16777216 < n ∧ ¬ n < -16777216) ∨ (2 ≤ k ∧ ¬ k ≤ 4 ∧ (k == 5) = true ∧ ¬ n < 0 ∧ ¬ 4294967295 < n) ∨ (2 ≤ k ∧ ¬ k ≤ 4 ∧ (k == 5) = false))) ∨
    ((2 ≤ k ∧ k ≤ 4 ∧ 16777216 < n) ∨ (2 ≤ k ∧ k ≤ 4 ∧ ¬ 16777216 < n ∧ n < -16777216) ∨ (k = 5 ∧ n < 0) ∨ (k = 5 ∧ ¬ n < 0 ∧ 4294967295 < n)) := by
  unfold Fine
  simp only [beq_iff_eq, beq_eq_false_iff_ne]
  omega

theorem idx_of (m : Int) {fl : Nat} (h0 : 2 ≤ fl) (h1 : fl ≤ 10) : ∃ j : Nat, wrap64 ((IntKind.u64.wrap m).tmod fl) = j ∧ j < fl := by
  have hu : 0 ≤ IntKind.u64.wrap m := by simp [IntKind.wrap, IntKind.bits, IntKind.signed]; omega
  generalize IntKind.u64.wrap m = u at *
  have g0 := Int.emod_nonneg u (show (fl : Int) ≠ 0 by omega)
  have g1 := Int.emod_lt_of_pos u (show (0 : Int) < fl by omega)
  rw [Int.tmod_eq_emod_of_nonneg hu, IntWalk.wrap64_in _ (by omega)]
  exact ⟨(u % fl).toNat, by omega, by omega⟩

theorem bounds {d : AnimD} {k : Int} (ok : checkE (fw d k) = 0) {i : Nat} {g : FrameD} (hi : d.F[i]? = some g) : (0 ≤ g.pl ∧ g.pl ≤ 1000) ∧ (0 ≤ d.from_ ∧ d.from_ ≤ 100000000) ∧ 0 ≤ d.times ∧ d.times ≤ 1000 := by
  obtain ⟨⟨f0, f1⟩, ln, ⟨t0, t1⟩, ez, f, l, hF, p0, hri, hla, l2, l10⟩ := okA ok
  have hF' : d.F = f :: l := hF
  rw [hF'] at hi
  have hb := rising_bound l f hri g (List.mem_of_getElem? hi)
  rw [p0, hla] at hb
  have t0' : 1 ≤ d.times := t0
  exact ⟨hb, ⟨f0, f1⟩, by omega, t1⟩

set_option maxRecDepth 100000 in
set_option maxHeartbeats 4000000 in
theorem law_ct (d : AnimD) (n m : Int) (w : World) (hd : AnRd w w.heap.size d) :
    Calls Try.prog 9 #[.agg d.cells, .int .i64 n, .int .i64 m] w fun e w' => e = .returned (.bool true) ∧ Below w.heap.size w w' := by
  obtain ⟨k, hk, k0, k1⟩ := one_of n 1000 (.inl rfl)
  have HD := Lib.hid hd
  clear hd
  have hok := Lib.hid (@frames_at d k)
  obtain ⟨fr, ln, tm, tu, st, kd, c0, c1, c2, c3, q, fA, fl, fc, F⟩ := d
  simp only [AnimD.cells] at *
  go_enter Try.func9, Try.ntmps9
  go_wp2_with fail
  generalize hW0 : w.alloc (.cells #[.int .i64 fr, .int .i64 ln, .int .i64 tm, .bool tu, .bool st, .int .i64 kd, .int .i64 c0, .int .i64 c1, .int .i64 c2, .int .i64 c3, .int .i64 q, .slice fA fl fc] 50) = W0
  have HB := Lib.hid (show Below w.heap.size w W0 by subst hW0; exact (Below.refl _ _).alloc (Nat.le_refl _) _)
  have bb := Lib.hid (show Blk W0 w.heap.size 50 #[.int .i64 fr, .int .i64 ln, .int .i64 tm, .bool tu, .bool st, .int .i64 kd, .int .i64 c0, .int .i64 c1, .int .i64 c2, .int .i64 c3, .int .i64 q, .slice fA fl fc] by subst hW0; exact Blk.new rfl)
  clear hW0
  refine (stepped_ct _).mono ?_
  rintro e W1 ⟨rfl, hb⟩
  have HB1 := Lib.hid (HB.out.trans (hb.mono HB.out.size))
  have bb1 := Lib.hid (bb.out.below hb bb.out.lt)
  have e0 := bb1.out.cell
  have f0 := bb1.out.frozen
  have e1 := fun v => (bb1.out.put 1 v).cell
  have z1 := bb1.out.lt
  clear hb bb HB
  go_wp2_with fail
  generalize hU : (W1.setCell ⟨w.heap.size, 1, none⟩ (.int .i64 (1000 * k))) = U
  have HU := Lib.hid (show Below w.heap.size w U by subst hU; exact ((HB1.out.setCell (by simp) _)))
  have bU := Lib.hid (show Blk U w.heap.size 50 #[.int .i64 fr, .int .i64 (1000 * k), .int .i64 tm, .bool tu, .bool st, .int .i64 kd, .int .i64 c0, .int .i64 c1, .int .i64 c2, .int .i64 c3, .int .i64 q, .slice fA fl fc] by subst hU; exact (((bb1.out.put 1 _))))
  clear hU e0 f0 e1 z1 bb1 HB1
  have HDU := Lib.hid (HD.out.keep HU.out HU.out.size)
  refine (check_ct (fw ⟨fr, ln, tm, tu, st, kd, c0, c1, c2, c3, q, fA, fl, fc, F⟩ k) _ (show AnRd _ _ _ from HDU.out)).mono ?_
  rintro e W2 ⟨rfl, hb⟩
  have HB2 := Lib.hid (HU.out.trans (hb.mono HU.out.size))
  have b2 := Lib.hid (bU.out.below hb bU.out.lt)
  have e0 := b2.out.cell
  have z2 := b2.out.lt
  clear hb bU HU HDU
  by_cases hc : checkE (fw ⟨fr, ln, tm, tu, st, kd, c0, c1, c2, c3, q, fA, fl, fc, F⟩ k) = 0
  · have hc' : (checkE (fw ⟨fr, ln, tm, tu, st, kd, c0, c1, c2, c3, q, fA, fl, fc, F⟩ k) != 0) = false := by simp [hc]
    have l2 : 2 ≤ fl := by obtain ⟨_, _, _, _, f, l, hF, _, _, _, l2, l10⟩ := okA hc; exact l2
    have l10 : fl ≤ 10 := by obtain ⟨_, _, _, _, f, l, hF, _, _, _, l2, l10⟩ := okA hc; exact l10
    have HD2 := Lib.hid (HD.out.keep HB2.out HB2.out.size)
    obtain ⟨j, hj, hjl⟩ := idx_of m l2 l10
    obtain ⟨hx1, hx2, hlen, hcl⟩ := HD2.out
    simp only at hlen hcl
    obtain ⟨b, off, rfl, hlt, hcl⟩ := hcl (by omega)
    obtain ⟨g, hg⟩ : ∃ g, F[j]? = some g := ⟨_, List.getElem?_eq_getElem (by omega)⟩
    obtain ⟨p1, p2, p3⟩ := hcl j g hg
    have hok := Lib.hid (fun h => hok.out hc k0 k1 hg hlen h)
    obtain ⟨⟨q0, q1⟩, ⟨q2, q3⟩, q4, q5⟩ := bounds hc hg
    simp only at q0 q1 q2 q3 q4 q5
    obtain ⟨pl, gk, gn⟩ := g
    simp only at hok p1 p2 p3 q0 q1
    obtain ⟨m0, m1⟩ := mulb q0 q1 (show 0 ≤ k by omega) k1
    obtain ⟨m2, m3⟩ := mulb q0 q1 (show 0 ≤ 1000 * k by omega) (show 1000 * k ≤ 1000000 by omega)
    obtain ⟨m4, m5⟩ := mulb q4 q5 (show 0 ≤ 1000 * k by omega) (show 1000 * k ≤ 1000000 by omega)
    have hq : (pl * (1000 * k)).tdiv 1000 = pl * k := by
      rw [Int.tdiv_eq_ediv_of_nonneg m2, show pl * (1000 * k) = pl * k * 1000 by grind]
      exact Int.mul_ediv_cancel _ (by omega)
    replace hc := Lib.hid hc
    replace hg := Lib.hid hg
    replace hlen := Lib.hid hlen
    clear hcl hx1
    have hl0 : ((fl : Int) == 0) = false := by simp; omega
    rcases seven gk gn with ⟨hf, hs⟩ | hs
    · have hfin := hok.out hf
      clear hok
      have nine : (¬ j + 1 = fl) ∨ (j + 1 = fl ∧ pl * k < tm * (1000 * k) ∧ tu = false) ∨ (¬ (j + 1 = fl ∧ pl * k < tm * (1000 * k) ∧ tu = false) ∧ j + 1 = fl) := by
        by_cases x : j + 1 = fl
        · by_cases y : pl * k < tm * (1000 * k) ∧ tu = false
          · exact .inr (.inl ⟨x, y⟩)
          · exact .inr (.inr ⟨fun h => y h.2, x⟩)
        · exact .inl x
      rcases nine with hn | ⟨hn, hn1, rfl⟩ | ⟨hn1, hn⟩
      · obtain ⟨_, hR, hV⟩ := hfin (fun h => hn h.1)
        rw [if_neg (fun h => hn h.1)] at hV
        replace hR := Lib.hid hR
        replace hV := Lib.hid hV
        have hlast : ((j : Int) == (fl : Int) - 1) = false := by simp; omega
        clear hfin hn
        rcases hs with hs | ⟨s1, s2, s3, s4⟩ | ⟨s1, s2, s3, s4, s5⟩ | ⟨s1, s2, s3⟩
        all_goals
          go_wp2_with fail
          have l1 := one_LRd (d := fw ⟨fr, ln, tm, tu, st, kd, c0, c1, c2, c3, q, (some ⟨b, off, none⟩), fl, fc, F⟩ k) (w := (W2.alloc (.cells #[.int .i64 pl, .int .i64 gk, .int .i64 gn] 53)).alloc (.cells #[.int .i64 fr, .int .i64 (1000 * k), .int .i64 tm, .bool tu, .bool st, .int .i64 kd, .int .i64 c0, .int .i64 c1, .int .i64 c2, .int .i64 c3, .int .i64 q, .slice (some ⟨b, off, none⟩) fl fc] 50)) (g := W2.heap.size + 1) (Blk.new (by simp)) (show AnRd _ _ _ from ((HD2.out.keepAlloc _).keepAlloc _))
          refine (at_ct (some ⟨W2.heap.size + 1, 0, none⟩) 1 1 [fw ⟨fr, ln, tm, tu, st, kd, c0, c1, c2, c3, q, (some ⟨b, off, none⟩), fl, fc, F⟩ k] 0 0 (fr + pl * k) _ (by simp [maxLen]) l1).mono ?_
          clear l1
          rintro e W3 ⟨rfl, hb⟩
          have HB3 := Lib.hid (((HB2.out.alloc HB2.out.size _).alloc (by simp; have := HB2.out.size; omega) _).trans (hb.mono (by simp; have := HB2.out.size; omega)))
          have b3 := Lib.hid (((Blk.new (t := 53) (rfl : W2.heap.size = W2.heap.size)).alloc _).below hb (by simp; omega))
          have ba3 := Lib.hid (((b2.out.alloc _).alloc _).below hb (by simp; omega))
          have c3' := b3.out.cell
          have z3 := b3.out.lt
          have c4' := ba3.out.cell
          have z4 := ba3.out.lt
          rw [hV.out, hR.out]
          clear hb e0 z2 b2 HB2 HD2
          go_wp2
          go_ret
          exact ⟨rfl, HB3.out.alloc HB3.out.size _⟩
      · clear hfin
        have hlast : ((j : Int) == (fl : Int) - 1) = true := by simp; omega
        rcases hs with hs | ⟨s1, s2, s3, s4⟩ | ⟨s1, s2, s3, s4, s5⟩ | ⟨s1, s2, s3⟩
        all_goals
          go_wp2
          go_ret
          exact ⟨rfl, HB2.out.alloc HB2.out.size _⟩
      · obtain ⟨_, hR, hV⟩ := hfin (fun h => hn1 h)
        have hp : pl = 1000 := by
          obtain ⟨_, _, _, _, f, l, hF, _, _, hla, _, _⟩ := okA hc.out
          have hF' : F = f :: l := hF
          have hg' := hg.out
          have hlen' := hlen.out
          rw [hF'] at hg' hlen'
          rw [(last_at hg' (by omega)).1] at hla
          exact hla
        have hlast : ((j : Int) == (fl : Int) - 1) = true := by simp; omega
        replace hR := Lib.hid hR
        replace hV := Lib.hid hV
        replace hn1 := Lib.hid hn1
        replace hp := Lib.hid hp
        replace hn := Lib.hid hn
        clear hfin
        by_cases y : pl * k < tm * (1000 * k)
        · obtain rfl : tu = true := by
            cases tu with
            | true => rfl
            | false => exact absurd ⟨hn.out, y, rfl⟩ hn1.out
          have z : (tm == 1) = false := by
            rw [beq_eq_false_iff_ne]
            rintro rfl
            have := hp.out
            subst this
            omega
          have z' : ¬ tm = 1 := by simpa using z
          replace hV := Lib.hid (hV.out.trans (if_neg (fun h => z' h.2.1)))
          clear z'
          rcases hs with hs | ⟨s1, s2, s3, s4⟩ | ⟨s1, s2, s3, s4, s5⟩ | ⟨s1, s2, s3⟩
          all_goals
            go_wp2_with fail
            have l1 := one_LRd (d := fw ⟨fr, ln, tm, true, st, kd, c0, c1, c2, c3, q, (some ⟨b, off, none⟩), fl, fc, F⟩ k) (w := (W2.alloc (.cells #[.int .i64 pl, .int .i64 gk, .int .i64 gn] 53)).alloc (.cells #[.int .i64 fr, .int .i64 (1000 * k), .int .i64 tm, .bool true, .bool st, .int .i64 kd, .int .i64 c0, .int .i64 c1, .int .i64 c2, .int .i64 c3, .int .i64 q, .slice (some ⟨b, off, none⟩) fl fc] 50)) (g := W2.heap.size + 1) (Blk.new (by simp)) (show AnRd _ _ _ from ((HD2.out.keepAlloc _).keepAlloc _))
            refine (at_ct (some ⟨W2.heap.size + 1, 0, none⟩) 1 1 [fw ⟨fr, ln, tm, true, st, kd, c0, c1, c2, c3, q, (some ⟨b, off, none⟩), fl, fc, F⟩ k] 0 0 (fr + pl * k) _ (by simp [maxLen]) l1).mono ?_
            clear l1
            rintro e W3 ⟨rfl, hb⟩
            have HB3 := Lib.hid (((HB2.out.alloc HB2.out.size _).alloc (by simp; have := HB2.out.size; omega) _).trans (hb.mono (by simp; have := HB2.out.size; omega)))
            have b3 := Lib.hid (((Blk.new (t := 53) (rfl : W2.heap.size = W2.heap.size)).alloc _).below hb (by simp; omega))
            have ba3 := Lib.hid (((b2.out.alloc _).alloc _).below hb (by simp; omega))
            have c3' := b3.out.cell
            have z3 := b3.out.lt
            have c4' := ba3.out.cell
            have z4 := ba3.out.lt
            rw [hV.out, hR.out]
            clear hb e0 z2 b2 HB2 HD2
            go_wp2
            go_ret
            exact ⟨rfl, HB3.out.alloc HB3.out.size _⟩
        · have z0 : tm = 1 := by
            have hp' := hp.out
            have q4' : 1 ≤ tm := (okA hc.out).tm.1
            have h2 : ¬ 2 ≤ tm := fun h => y (by
              have := Int.mul_le_mul_of_nonneg_right h (show 0 ≤ 1000 * k by omega)
              rw [hp']
              omega)
            omega
          have z : (tm == 1) = true := by simp [z0]
          cases st
          · replace hV := Lib.hid (show atV [fw ⟨fr, ln, tm, tu, false, kd, c0, c1, c2, c3, q, (some ⟨b, off, none⟩), fl, fc, F⟩ k] (0, 0) (fr + pl * k) = (0, 0) from hV.out.trans (if_pos ⟨hn.out, z0, rfl⟩))
            clear z0
            rcases hs with hs | ⟨s1, s2, s3, s4⟩ | ⟨s1, s2, s3, s4, s5⟩ | ⟨s1, s2, s3⟩
            all_goals
              go_wp2_with fail
              have l1 := one_LRd (d := fw ⟨fr, ln, tm, tu, false, kd, c0, c1, c2, c3, q, (some ⟨b, off, none⟩), fl, fc, F⟩ k) (w := (W2.alloc (.cells #[.int .i64 pl, .int .i64 gk, .int .i64 gn] 53)).alloc (.cells #[.int .i64 fr, .int .i64 (1000 * k), .int .i64 tm, .bool tu, .bool false, .int .i64 kd, .int .i64 c0, .int .i64 c1, .int .i64 c2, .int .i64 c3, .int .i64 q, .slice (some ⟨b, off, none⟩) fl fc] 50)) (g := W2.heap.size + 1) (Blk.new (by simp)) (show AnRd _ _ _ from ((HD2.out.keepAlloc _).keepAlloc _))
              refine (at_ct (some ⟨W2.heap.size + 1, 0, none⟩) 1 1 [fw ⟨fr, ln, tm, tu, false, kd, c0, c1, c2, c3, q, (some ⟨b, off, none⟩), fl, fc, F⟩ k] 0 0 (fr + pl * k) _ (by simp [maxLen]) l1).mono ?_
              clear l1
              rintro e W3 ⟨rfl, hb⟩
              have HB3 := Lib.hid (((HB2.out.alloc HB2.out.size _).alloc (by simp; have := HB2.out.size; omega) _).trans (hb.mono (by simp; have := HB2.out.size; omega)))
              have b3 := Lib.hid (((Blk.new (t := 53) (rfl : W2.heap.size = W2.heap.size)).alloc _).below hb (by simp; omega))
              have ba3 := Lib.hid (((b2.out.alloc _).alloc _).below hb (by simp; omega))
              have c3' := b3.out.cell
              have z3 := b3.out.lt
              have c4' := ba3.out.cell
              have z4 := ba3.out.lt
              rw [hV.out, hR.out]
              clear hb e0 z2 b2 HB2 HD2
              go_wp2
              go_ret
              exact ⟨rfl, HB3.out.alloc HB3.out.size _⟩
          · replace hV := Lib.hid (hV.out.trans (if_neg (fun h => by cases h.2.2)))
            clear z0
            rcases hs with hs | ⟨s1, s2, s3, s4⟩ | ⟨s1, s2, s3, s4, s5⟩ | ⟨s1, s2, s3⟩
            all_goals
              go_wp2_with fail
              have l1 := one_LRd (d := fw ⟨fr, ln, tm, tu, true, kd, c0, c1, c2, c3, q, (some ⟨b, off, none⟩), fl, fc, F⟩ k) (w := (W2.alloc (.cells #[.int .i64 pl, .int .i64 gk, .int .i64 gn] 53)).alloc (.cells #[.int .i64 fr, .int .i64 (1000 * k), .int .i64 tm, .bool tu, .bool true, .int .i64 kd, .int .i64 c0, .int .i64 c1, .int .i64 c2, .int .i64 c3, .int .i64 q, .slice (some ⟨b, off, none⟩) fl fc] 50)) (g := W2.heap.size + 1) (Blk.new (by simp)) (show AnRd _ _ _ from ((HD2.out.keepAlloc _).keepAlloc _))
              refine (at_ct (some ⟨W2.heap.size + 1, 0, none⟩) 1 1 [fw ⟨fr, ln, tm, tu, true, kd, c0, c1, c2, c3, q, (some ⟨b, off, none⟩), fl, fc, F⟩ k] 0 0 (fr + pl * k) _ (by simp [maxLen]) l1).mono ?_
              clear l1
              rintro e W3 ⟨rfl, hb⟩
              have HB3 := Lib.hid (((HB2.out.alloc HB2.out.size _).alloc (by simp; have := HB2.out.size; omega) _).trans (hb.mono (by simp; have := HB2.out.size; omega)))
              have b3 := Lib.hid (((Blk.new (t := 53) (rfl : W2.heap.size = W2.heap.size)).alloc _).below hb (by simp; omega))
              have ba3 := Lib.hid (((b2.out.alloc _).alloc _).below hb (by simp; omega))
              have c3' := b3.out.cell
              have z3 := b3.out.lt
              have c4' := ba3.out.cell
              have z4 := ba3.out.lt
              rw [hV.out, hR.out]
              clear hb e0 z2 b2 HB2 HD2
              go_wp2
              go_ret
              exact ⟨rfl, HB3.out.alloc HB3.out.size _⟩
    · rcases hs with ⟨s1, s2, s3⟩ | ⟨s1, s2, s3, s4⟩ | ⟨rfl, s1⟩ | ⟨rfl, s1, s2⟩
      all_goals
        go_wp2
        go_ret
        exact ⟨rfl, HB2.out.alloc HB2.out.size _⟩
  · have hc' : (checkE (fw ⟨fr, ln, tm, tu, st, kd, c0, c1, c2, c3, q, fA, fl, fc, F⟩ k) != 0) = true := by simp [hc]
    clear hc hok
    go_wp2
    go_ret
    exact ⟨rfl, HB2.out⟩

end Go.Proofs.Ytchmpdibbklpfaa.anim.framed
