/- Contracts: tells, where nothing is done yet and where it goes on. -/
import Derived.Test.YtchmpdibbklpfaaAnim6
namespace Go.Proofs.Ytchmpdibbklpfaa.anim
open Go.RowKit Go.Proofs.Ytchmpdibbklpfaa.base
set_option linter.unusedVariables false

theorem AnRd.keepAlloc {w : World} {d : AnimD} (h : AnRd w w.heap.size d) (o : Obj) : AnRd (w.alloc o) (w.alloc o).heap.size d := h.keep ((Below.refl _ _).alloc (Nat.le_refl _) o) (by simp)

set_option maxRecDepth 100000 in
set_option maxHeartbeats 4000000 in
theorem tellsA_ct (d : AnimD) (now : Int) (w : World) (h : now < d.from_) :
    Calls Try.prog 29 #[.agg d.cells, .int .i64 now] w fun e w' => e = .returned (.tuple #[.agg #[.int .i64 0, .int .i64 0], .bool false]) ∧ Below w.heap.size w w' := by
  simp only [AnimD.cells]
  go_enter Try.func29, Try.ntmps29
  go_wp2
  have e := fun o => (Blk.new (w := w.alloc o) (t := 39) (cs := #[.int .i64 0, .int .i64 0]) (k := w.heap.size + 1) (by simp)).cell
  refine bodyPost_ret (v := .tuple #[.agg #[.int .i64 0, .int .i64 0], .bool false]) (by simp [results, Try.results29, go_sem, e]) rfl ⟨rfl, ?_⟩
  exact ((Below.refl _ _).alloc (Nat.le_refl _) _).alloc (by simp) _

set_option maxRecDepth 100000 in
set_option maxHeartbeats 4000000 in
theorem tellsC_ct (d : AnimD) (now : Int) (w : World) (hd : AnRd w w.heap.size d) (ok : OkA d) (h : d.from_ ≤ now) (h1 : now < endI d) :
    Calls Try.prog 29 #[.agg d.cells, .int .i64 now] w fun e w' => e = .returned (.tuple #[.agg #[.int .i64 (framesP d (placeI d now)).1, .int .i64 (framesP d (placeI d now)).2], .bool true]) ∧ Below w.heap.size w w' := by
  obtain ⟨P, hP⟩ : ∃ P, P = placeI d now := ⟨_, rfl⟩
  rw [← hP]
  obtain ⟨KV, hKV⟩ : ∃ KV, KV = framesP d P := ⟨_, rfl⟩
  rw [← hKV]
  replace hKV := Lib.hid hKV
  obtain ⟨l0, l1⟩ := ok.ln
  obtain ⟨f0, f1⟩ := ok.fr
  obtain ⟨t0, t1⟩ := ok.tm
  obtain ⟨m0, m1⟩ := mulb (show 0 ≤ d.times by omega) t1 (show 0 ≤ d.len by omega) l1
  have he := Lib.hid (show endI d = d.from_ + d.times * d.len from rfl)
  have hn : now ≤ 200000000000 := by have := he.out; omega
  obtain ⟨s, hs⟩ : ∃ s, s = now - d.from_ := ⟨_, rfl⟩
  have s0 : 0 ≤ s := by omega
  have s1 : s ≤ 200000000000 := by omega
  have q0 : 0 ≤ s % d.len := Int.emod_nonneg _ (by omega)
  have q1 : s % d.len < d.len := Int.emod_lt_of_pos _ (by omega)
  have r0 : 0 ≤ s % d.len * 1000 / d.len := Int.ediv_nonneg (by omega) (by omega)
  have r1 : s % d.len * 1000 / d.len < 1000 := Int.ediv_lt_of_lt_mul (by omega) (by omega)
  have k0 : 0 ≤ s / d.len := Int.ediv_nonneg (by omega) (by omega)
  have k1 : s / d.len ≤ 200000000000 := Int.le_trans (Int.ediv_le_self _ (by omega)) s1
  have hl0 : (d.len == 0) = false := by simp; omega
  have hl1 : ¬ d.len = 0 := by omega
  have es : now - d.from_ = s := hs.symm
  have hP2 := Lib.hid (show P = if d.turn && s / d.len % 2 == 1 then 1000 - s % d.len * 1000 / d.len else s % d.len * 1000 / d.len by rw [hP, hs]; rfl)
  have HD := Lib.hid hd
  have OK := Lib.hid ok
  clear hd ok hs hP
  have hnf : ¬ now < d.from_ := by omega
  have hne : ¬ endI d ≤ now := by omega
  obtain ⟨fr, ln, tm, tu, st, kd, c0, c1, c2, c3, n, fA, fl, fc, F⟩ := d
  simp only at *
  cases tu
  · go_enter Try.func29, Try.ntmps29
    go_wp2_with fail
    generalize hW0 : (w.alloc (.cells #[.int .i64 fr, .int .i64 ln, .int .i64 tm, .bool false, .bool st, .int .i64 kd, .int .i64 c0, .int .i64 c1, .int .i64 c2, .int .i64 c3, .int .i64 n, .slice fA fl fc] 50)).alloc (.cells #[.int .i64 0, .int .i64 0] 39) = W0
    have HB := Lib.hid (show Below w.heap.size w W0 by subst hW0; exact ((Below.refl _ _).alloc (Nat.le_refl _) _).alloc (by simp) _)
    have HZ : w.heap.size + 2 ≤ W0.heap.size := by subst hW0; simp
    have bd := Lib.hid (show Blk W0 w.heap.size 50 #[.int .i64 fr, .int .i64 ln, .int .i64 tm, .bool false, .bool st, .int .i64 kd, .int .i64 c0, .int .i64 c1, .int .i64 c2, .int .i64 c3, .int .i64 n, .slice fA fl fc] by subst hW0; exact (Blk.new rfl).alloc _)
    have rb := Lib.hid (show Blk W0 (w.heap.size + 1) 39 #[.int .i64 0, .int .i64 0] by subst hW0; exact Blk.new (by simp))
    clear hW0
    refine (end_ct (⟨fr, ln, tm, false, st, kd, c0, c1, c2, c3, n, fA, fl, fc, F⟩ : AnimD) _ f0 f1 l0 l1 t0 t1).mono ?_
    rintro e W1 ⟨rfl, hb⟩
    have HB1 := Lib.hid (HB.out.trans (hb.mono HB.out.size))
    have bd1 := Lib.hid (bd.out.below hb (by omega))
    have rb1 := Lib.hid (rb.out.below hb (by omega))
    have HD1 := Lib.hid (HD.out.keep HB1.out HB1.out.size)
    have cd := bd1.out.cell
    have hz := rb1.out.lt
    clear hb HB bd rb HD HZ
    go_wp2_with fail
    go_quiet (fail)
    go_wp2_with fail
    refine (frames_ct (⟨fr, ln, tm, false, st, kd, c0, c1, c2, c3, n, fA, fl, fc, F⟩ : AnimD) (s % ln * 1000 / ln) _ (show AnRd (W1.drewN nq) _ _ from HD1.out) OK.out (by omega) (by omega)).mono ?_
    rintro e W2 ⟨rfl, hb⟩
    have hPe : (s % ln * 1000 / ln) = P := by rw [hP2.out]; simp
    rw [hPe, ← hKV.out]
    have r2 := Lib.hid (Blk.below (show Blk (W1.drewN nq) _ _ _ from rb1.out) hb hz)
    have r2c := r2.out.cell
    have r2f := r2.out.frozen
    have HB2 := Lib.hid ((below_drewN HB1.out nq).trans (hb.mono HB1.out.size))
    clear hb cd
    go_wp2
    have e := ((r2.out.put 0 (.int .i64 KV.1)).put 1 (.int .i64 KV.2)).cell
    refine bodyPost_ret (v := .tuple #[.agg #[.int .i64 KV.1, .int .i64 KV.2], .bool true]) (by simp [results, Try.results29, go_sem, e]) rfl ⟨by first | rfl | trivial, ?_⟩
    exact (HB2.out.setCell (by simp) _).setCell (by simp) _
  · go_enter Try.func29, Try.ntmps29
    go_wp2_with fail
    generalize hW0 : (w.alloc (.cells #[.int .i64 fr, .int .i64 ln, .int .i64 tm, .bool true, .bool st, .int .i64 kd, .int .i64 c0, .int .i64 c1, .int .i64 c2, .int .i64 c3, .int .i64 n, .slice fA fl fc] 50)).alloc (.cells #[.int .i64 0, .int .i64 0] 39) = W0
    have HB := Lib.hid (show Below w.heap.size w W0 by subst hW0; exact ((Below.refl _ _).alloc (Nat.le_refl _) _).alloc (by simp) _)
    have HZ : w.heap.size + 2 ≤ W0.heap.size := by subst hW0; simp
    have bd := Lib.hid (show Blk W0 w.heap.size 50 #[.int .i64 fr, .int .i64 ln, .int .i64 tm, .bool true, .bool st, .int .i64 kd, .int .i64 c0, .int .i64 c1, .int .i64 c2, .int .i64 c3, .int .i64 n, .slice fA fl fc] by subst hW0; exact (Blk.new rfl).alloc _)
    have rb := Lib.hid (show Blk W0 (w.heap.size + 1) 39 #[.int .i64 0, .int .i64 0] by subst hW0; exact Blk.new (by simp))
    clear hW0
    refine (end_ct (⟨fr, ln, tm, true, st, kd, c0, c1, c2, c3, n, fA, fl, fc, F⟩ : AnimD) _ f0 f1 l0 l1 t0 t1).mono ?_
    rintro e W1 ⟨rfl, hb⟩
    have HB1 := Lib.hid (HB.out.trans (hb.mono HB.out.size))
    have bd1 := Lib.hid (bd.out.below hb (by omega))
    have rb1 := Lib.hid (rb.out.below hb (by omega))
    have HD1 := Lib.hid (HD.out.keep HB1.out HB1.out.size)
    have cd := bd1.out.cell
    have hz := rb1.out.lt
    clear hb HB bd rb HD HZ
    go_wp2_with fail
    go_quiet (fail)
    by_cases hodd : s / ln % 2 = 1
    · have hodd' : (s / ln % 2 == 1) = true := by simp [hodd]
      clear hodd
      go_wp2_with fail
      refine (frames_ct (⟨fr, ln, tm, true, st, kd, c0, c1, c2, c3, n, fA, fl, fc, F⟩ : AnimD) (1000 - s % ln * 1000 / ln) _ (show AnRd (W1.drewN nq) _ _ from HD1.out) OK.out (by omega) (by omega)).mono ?_
      rintro e W2 ⟨rfl, hb⟩
      have hPe : (1000 - s % ln * 1000 / ln) = P := by rw [hP2.out]; simp [hodd']
      rw [hPe, ← hKV.out]
      have r2 := Lib.hid (Blk.below (show Blk (W1.drewN nq) _ _ _ from rb1.out) hb hz)
      have r2c := r2.out.cell
      have r2f := r2.out.frozen
      have HB2 := Lib.hid ((below_drewN HB1.out nq).trans (hb.mono HB1.out.size))
      clear hb cd
      go_wp2
      have e := ((r2.out.put 0 (.int .i64 KV.1)).put 1 (.int .i64 KV.2)).cell
      refine bodyPost_ret (v := .tuple #[.agg #[.int .i64 KV.1, .int .i64 KV.2], .bool true]) (by simp [results, Try.results29, go_sem, e]) rfl ⟨by first | rfl | trivial, ?_⟩
      exact (HB2.out.setCell (by simp) _).setCell (by simp) _
    · have hodd' : (s / ln % 2 == 1) = false := by simp [hodd]
      clear hodd
      go_wp2_with fail
      refine (frames_ct (⟨fr, ln, tm, true, st, kd, c0, c1, c2, c3, n, fA, fl, fc, F⟩ : AnimD) (s % ln * 1000 / ln) _ (show AnRd (W1.drewN nq) _ _ from HD1.out) OK.out (by omega) (by omega)).mono ?_
      rintro e W2 ⟨rfl, hb⟩
      have hPe : (s % ln * 1000 / ln) = P := by rw [hP2.out]; simp [hodd']
      rw [hPe, ← hKV.out]
      have r2 := Lib.hid (Blk.below (show Blk (W1.drewN nq) _ _ _ from rb1.out) hb hz)
      have r2c := r2.out.cell
      have r2f := r2.out.frozen
      have HB2 := Lib.hid ((below_drewN HB1.out nq).trans (hb.mono HB1.out.size))
      clear hb cd
      go_wp2
      have e := ((r2.out.put 0 (.int .i64 KV.1)).put 1 (.int .i64 KV.2)).cell
      refine bodyPost_ret (v := .tuple #[.agg #[.int .i64 KV.1, .int .i64 KV.2], .bool true]) (by simp [results, Try.results29, go_sem, e]) rfl ⟨by first | rfl | trivial, ?_⟩
      exact (HB2.out.setCell (by simp) _).setCell (by simp) _

end Go.Proofs.Ytchmpdibbklpfaa.anim
