/- Contracts: end, Check. -/
import Derived.Test.YtchmpdibbklpfaaAnim4
namespace Go.Proofs.Ytchmpdibbklpfaa.anim
open Go.RowKit Go.Proofs.Ytchmpdibbklpfaa.base
set_option linter.unusedVariables false

theorem end_ct (d : AnimD) (w : World) (h0 : 0 ≤ d.from_) (h1 : d.from_ ≤ 100000000) (l0 : 1 ≤ d.len) (l1 : d.len ≤ 100000000) (t0 : 1 ≤ d.times) (t1 : d.times ≤ 1000) :
    Calls Try.prog 30 #[.agg d.cells] w fun e w' => e = .returned (.int .i64 (endI d)) ∧ Below w.heap.size w w' := by
  obtain ⟨m0, m1⟩ := mulb (show 0 ≤ d.times by omega) t1 (show 0 ≤ d.len by omega) l1
  have Hf := Lib.hid (show endI d = d.from_ + d.times * d.len from rfl)
  simp only [AnimD.cells]
  go_enter Try.func30, Try.ntmps30
  go_wp2
  go_ret
  exact ⟨by rw [Hf.out]; rfl, (Below.refl _ _).alloc (Nat.le_refl _) _⟩

set_option maxRecDepth 100000 in
set_option maxHeartbeats 2000000 in
theorem check_ct (d : AnimD) (w : World) (hd : AnRd w w.heap.size d) :
    Calls Try.prog 20 #[.agg d.cells] w fun e w' => e = .returned (.int .i64 (checkE d)) ∧ Below w.heap.size w w' := by
  obtain ⟨E, hE⟩ : ∃ E, E = checkE d := ⟨_, rfl⟩
  rw [← hE]
  replace hE := Lib.hid hE
  have HD := Lib.hid hd
  clear hd
  simp only [AnimD.cells]
  go_enter Try.func20, Try.ntmps20
  go_wp2_with fail
  generalize hW0 : w.alloc (.cells d.cells 50) = W0
  have HB := Lib.hid (show Below w.heap.size w W0 by subst hW0; exact (Below.refl _ _).alloc (Nat.le_refl _) _)
  have HZ : w.heap.size + 1 ≤ W0.heap.size := by subst hW0; simp
  have bd := Lib.hid (show Blk W0 w.heap.size 50 d.cells by subst hW0; exact Blk.new rfl)
  have cd := bd.out.cell
  clear hW0
  simp only [AnimD.cells] at cd
  refine (in_ct _ _ _ _).mono ?_
  rintro e W1 ⟨rfl, rfl⟩
  generalize h1 : inB d.from_ 0 100000000 = b1
  replace h1 := Lib.hid h1
  cases b1
  · go_wp2
    go_ret
    exact ⟨by rw [hE.out]; simp [checkE, h1.out], HB.out⟩
  go_wp2_with fail
  refine (in_ct _ _ _ _).mono ?_
  rintro e W1 ⟨rfl, rfl⟩
  generalize h2 : inB d.len 1 100000000 = b2
  replace h2 := Lib.hid h2
  cases b2
  · go_wp2
    go_ret
    exact ⟨by rw [hE.out]; simp [checkE, h2.out], HB.out⟩
  go_wp2_with fail
  refine (in_ct _ _ _ _).mono ?_
  rintro e W1 ⟨rfl, rfl⟩
  generalize h3 : inB d.times 1 1000 = b3
  replace h3 := Lib.hid h3
  cases b3
  · go_wp2
    go_ret
    exact ⟨by rw [hE.out]; simp [checkE, h3.out], HB.out⟩
  go_wp2_with fail
  refine (easing_ct _ _ _ _ _ _ _).mono ?_
  rintro e W1 ⟨rfl, hb⟩
  have hb' := Lib.hid (HB.out.trans (hb.mono (by omega)))
  have cd1 := (bd.out.below hb (by omega)).cell
  simp only [AnimD.cells] at cd1
  have HD1 := Lib.hid (HD.out.keep hb'.out hb'.out.size)
  have hwl : w.heap.size < W1.heap.size := by have := hb.size; omega
  clear hb cd HD HB HZ bd
  generalize h4 : easingB d.kind d.c0 d.c1 d.c2 d.c3 d.n = b4
  replace h4 := Lib.hid h4
  cases b4
  · go_wp2
    go_ret
    exact ⟨by rw [hE.out]; simp [checkE, h1.out, h2.out, h3.out, h4.out], hb'.out⟩
  by_cases hl : 10 < d.fl
  · go_wp2
    go_ret
    exact ⟨by rw [hE.out]; simp [checkE, h1.out, h2.out, h3.out, h4.out, hl], hb'.out⟩
  by_cases hl2 : d.fl < 2
  · have hE2 : E = 3 := by
      rw [hE.out]
      simp only [checkE, h1.out, h2.out, h3.out, h4.out, hl]
      cases d.F <;> simp [hl2]
    subst hE2
    go_wp2
    go_ret
    exact ⟨rfl, hb'.out⟩
  obtain ⟨hc1, hc2, hF, hcells⟩ := HD1.out
  obtain ⟨b, off, hA, hlt, hc⟩ := hcells (by omega)
  clear hcells HD1
  obtain ⟨fr, ln, tm, tu, st, kd, c0, c1, c2, c3, n, fA, fl, fc, F⟩ := d
  simp only at *
  subst hA
  obtain ⟨N, rfl⟩ : ∃ N, fl = N + 2 := ⟨fl - 2, by omega⟩
  replace hc := Lib.hid hc
  cases F with
  | nil => simp at hF
  | cons f r =>
    have p0 := (hc.out 0 f rfl).1
    simp only [Nat.zero_mul, Nat.add_zero] at p0
    have hN8 : N ≤ 8 := by omega
    have hE1 := Lib.hid (show E = if N + 2 < 2 ∨ f.pl ≠ 0 ∨ (r.getLastD f).pl ≠ 1000 then 3 else if rising f.pl r then 0 else 3 by
      rw [hE.out]
      simp only [checkE, h1.out, h2.out, h3.out, h4.out, Bool.and_self, Bool.not_true, Bool.false_eq_true, if_false, if_neg hl])
    clear hE
    by_cases g0 : f.pl = 0
    · obtain ⟨g, hg⟩ : ∃ g, (f :: r)[N + 1]? = some g := ⟨_, List.getElem?_eq_getElem (by omega)⟩
      have pl := (hc.out _ g hg).1
      have hr1 : r.length = N + 1 := by simpa using hF
      have hgl : r.getLastD f = g := by
        rw [List.getLastD_eq_getLast?, List.getLast?_eq_getElem?, hr1]
        simp only [List.getElem?_cons_succ] at hg
        simp [hg]
      have hfc : ¬ fc = 1 := by omega
      have cdc := cd1 11
      clear hl hl2 hc1 hc2
      by_cases g1 : g.pl = 1000
      · have hE2 := Lib.hid (show E = if rising f.pl r then 0 else 3 by rw [hE1.out, if_neg (by rw [hgl]; omega)])
        have g1' : (g.pl != 1000) = false := by simp [g1]
        clear g1 hE1 hgl
        have hg := Lib.hid hg
        go_wp2_with fail
        clear pl p0 g1' cd1
        have cdw := Lib.hid cdc
        clear cdc
        go_loopw [55] (fun i wr => ∃ (k : Nat) (p : FrameD), k ≤ N + 1 ∧ i = .int .i64 k ∧ (f :: r)[k]? = some p ∧ rising f.pl r = rising p.pl (r.drop k) ∧ Below W1.heap.size W1 wr) (fun i _ => N + 1 - (intOf i).toNat)
        case atStart => exact ⟨0, f, by omega, rfl, rfl, rfl, Below.refl _ _⟩
        case round =>
          obtain ⟨k, p, hk, rfl, hp, hris, hbel⟩ := hrel
          replace hp := Lib.hid hp
          replace hris := Lib.hid hris
          by_cases hlt' : k < N + 1
          · obtain ⟨q, hq⟩ : ∃ q, r[k]? = some q := ⟨_, List.getElem?_eq_getElem (by omega)⟩
            have hd : r.drop k = q :: r.drop (k + 1) := by
              obtain ⟨hkl, hqe⟩ := List.getElem?_eq_some_iff.1 hq
              rw [List.drop_eq_getElem_cons hkl, hqe]
            have hq' : (f :: r)[k + 1]? = some q := by simpa using hq
            obtain ⟨a1, a2, a3⟩ := hc.out k p hp.out
            obtain ⟨b1, b2, b3⟩ := hc.out (k + 1) q hq'
            have e1 : off + (k + 1) * 3 = off + 3 + k * 3 := by omega
            rw [e1] at b1 b2 b3
            replace a1 := (hbel.cell (p := ⟨b, _, none⟩) hlt).trans a1
            replace b1 := (hbel.cell (p := ⟨b, _, none⟩) hlt).trans b1
            replace b2 := (hbel.cell (p := ⟨b, _, none⟩) hlt).trans b2
            replace b3 := (hbel.cell (p := ⟨b, _, none⟩) hlt).trans b3
            have cdr : wr.cell? ⟨w.heap.size, 11, none⟩ = some (.slice (some ⟨b, off, none⟩) (N + 2) fc) := (hbel.cell (p := ⟨w.heap.size, 11, none⟩) hwl).trans cdw.out
            have hl2 : b < wr.heap.size := Nat.lt_of_lt_of_le hlt hbel.size
            have hl3 : w.heap.size < wr.heap.size := Nat.lt_of_lt_of_le hwl hbel.size
            have HBel := Lib.hid hbel
            have hd := Lib.hid hd
            have hq' := Lib.hid hq'
            clear a2 a3 e1 hq hbel
            have i0 : (0 : Int) ≤ (k : Int) := by omega
            have i1 : (k : Int) < (N : Int) + 2 := by omega
            have i2 : (k : Int) < (N : Int) + 1 := by omega
            go_wp2_with fail
            go_quiet (fail)
            by_cases hpq : q.pl ≤ p.pl
            · go_wp2
              go_ret
              have hE3 : E = 3 := by
                rw [hE2.out, hris.out, hd.out]
                simp [rising, Int.not_lt.2 hpq]
              refine ⟨by rw [hE3]; rfl, ?_⟩
              exact below_drewN ((hb'.out.trans (HBel.out.mono hb'.out.size)).alloc (Nat.le_trans hb'.out.size HBel.out.size) _) _
            · go_wp2
              go_roundw
              case rel =>
                refine ⟨k + 1, q, by omega, by go_num, hq'.out, ?_, ?_⟩
                · rw [hris.out, hd.out]
                  simp only [rising]
                  rw [decide_eq_true (by omega)]
                  rfl
                · exact below_drewN (HBel.out.alloc HBel.out.size _) _
              case measure => simp [intOf]; omega
          · obtain rfl : k = N + 1 := by omega
            go_wp2
            go_ret
            refine ⟨by rw [hE2.out, hris.out, List.drop_eq_nil_of_le (by omega)]; rfl, ?_⟩
            exact hb'.out.trans (hbel.mono hb'.out.size)
      · have g1' : (g.pl != 1000) = true := by simp [g1]
        have hE2 := Lib.hid (show E = 3 by rw [hE1.out, if_pos (by rw [hgl]; omega)])
        clear hE1 hgl g1 hr1
        have hg := Lib.hid hg
        go_wp2
        go_ret
        exact ⟨by rw [hE2.out]; rfl, hb'.out⟩
    · have g0' : (f.pl != 0) = true := by simp [g0]
      have hE2 := Lib.hid (show E = 3 by rw [hE1.out, if_pos (by omega)])
      clear hl hl2 hc1 hc2 hE1
      go_wp2
      go_ret
      exact ⟨by rw [hE2.out]; rfl, hb'.out⟩

end Go.Proofs.Ytchmpdibbklpfaa.anim
