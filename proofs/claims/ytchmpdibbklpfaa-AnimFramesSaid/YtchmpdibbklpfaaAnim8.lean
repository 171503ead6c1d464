/- Contracts: tells. -/
import Derived.Test.YtchmpdibbklpfaaAnim7
namespace Go.Proofs.Ytchmpdibbklpfaa.anim
open Go.RowKit Go.Proofs.Ytchmpdibbklpfaa.base
set_option linter.unusedVariables false

set_option maxRecDepth 100000 in
set_option maxHeartbeats 4000000 in
theorem tellsB0_ct (fr ln tm : Int) (st : Bool) (kd c0 c1 c2 c3 n : Int) (b off N fc : Nat) (f : FrameD) (l : List FrameD) (g : FrameD) (now : Int) (w : World) (hlt : b < w.heap.size) (hfc : N + 2 ≤ fc)
    (hN : N ≤ 8) (f0 : 0 ≤ fr) (f1 : fr ≤ 100000000) (l0 : 1 ≤ ln) (l1 : ln ≤ 100000000) (t0 : 1 ≤ tm) (t1 : tm ≤ 1000)
    (p1 : w.cell? ⟨b, off, none⟩ = some (.int .i64 f.pl)) (p2 : w.cell? ⟨b, off + 1, none⟩ = some (.int .i64 f.k)) (p3 : w.cell? ⟨b, off + 2, none⟩ = some (.int .i64 f.n))
    (g1 : w.cell? ⟨b, off + (N + 1) * 3, none⟩ = some (.int .i64 g.pl)) (g2 : w.cell? ⟨b, off + (N + 1) * 3 + 1, none⟩ = some (.int .i64 g.k)) (g3 : w.cell? ⟨b, off + (N + 1) * 3 + 2, none⟩ = some (.int .i64 g.n))
    (hnf : ¬ now < fr) (hne : endI (⟨fr, ln, tm, false, st, kd, c0, c1, c2, c3, n, some ⟨b, off, none⟩, N + 2, fc, f :: l⟩ : AnimD) ≤ now) :
    Calls Try.prog 29 #[.agg #[.int .i64 fr, .int .i64 ln, .int .i64 tm, .bool false, .bool st, .int .i64 kd, .int .i64 c0, .int .i64 c1, .int .i64 c2, .int .i64 c3, .int .i64 n, .slice (some ⟨b, off, none⟩) (N + 2) fc], .int .i64 now] w fun e w' => e = .returned (.tuple #[.agg #[.int .i64 g.k, .int .i64 g.n], .bool st]) ∧ Below w.heap.size w w' := by
  go_enter Try.func29, Try.ntmps29
  go_wp2_with fail
  generalize hW0 : (w.alloc (.cells #[.int .i64 fr, .int .i64 ln, .int .i64 tm, .bool false, .bool st, .int .i64 kd, .int .i64 c0, .int .i64 c1, .int .i64 c2, .int .i64 c3, .int .i64 n, .slice (some ⟨b, off, none⟩) (N + 2) fc] 50)).alloc (.cells #[.int .i64 0, .int .i64 0] 39) = W0
  have HB := Lib.hid (show Below w.heap.size w W0 by subst hW0; exact ((Below.refl _ _).alloc (Nat.le_refl _) _).alloc (by simp) _)
  have HZ : w.heap.size + 2 ≤ W0.heap.size := by subst hW0; simp
  have bd := Lib.hid (show Blk W0 w.heap.size 50 #[.int .i64 fr, .int .i64 ln, .int .i64 tm, .bool false, .bool st, .int .i64 kd, .int .i64 c0, .int .i64 c1, .int .i64 c2, .int .i64 c3, .int .i64 n, .slice (some ⟨b, off, none⟩) (N + 2) fc] by subst hW0; exact (Blk.new rfl).alloc _)
  have rb := Lib.hid (show Blk W0 (w.heap.size + 1) 39 #[.int .i64 0, .int .i64 0] by subst hW0; exact Blk.new (by simp))
  clear hW0
  refine (end_ct (⟨fr, ln, tm, false, st, kd, c0, c1, c2, c3, n, some ⟨b, off, none⟩, N + 2, fc, f :: l⟩ : AnimD) _ f0 f1 l0 l1 t0 t1).mono ?_
  rintro e W1 ⟨rfl, hb⟩
  have HB1 := Lib.hid (HB.out.trans (hb.mono HB.out.size))
  have bd1 := Lib.hid (bd.out.below hb (by omega))
  have rb1 := Lib.hid (rb.out.below hb (by omega))
  have cd := bd1.out.cell
  have rc := rb1.out.cell
  have rf := rb1.out.frozen
  have hz0 := bd1.out.lt
  have hz1 := rb1.out.lt
  have hzb : b < W1.heap.size := Nat.lt_of_lt_of_le hlt HB1.out.size
  replace p1 := (HB1.out.cell (p := ⟨b, _, none⟩) hlt).trans p1
  replace p2 := (HB1.out.cell (p := ⟨b, _, none⟩) hlt).trans p2
  replace p3 := (HB1.out.cell (p := ⟨b, _, none⟩) hlt).trans p3
  replace g1 := (HB1.out.cell (p := ⟨b, _, none⟩) hlt).trans g1
  replace g2 := (HB1.out.cell (p := ⟨b, _, none⟩) hlt).trans g2
  replace g3 := (HB1.out.cell (p := ⟨b, _, none⟩) hlt).trans g3
  clear hb HB bd rb HZ
  go_wp2_with fail
  have rA := fun v o => ((rb1.out.put 0 v).alloc o).cell
  have rF := fun v o => ((rb1.out.put 0 v).alloc o).frozen
  go_region
  go_wp2
  have e := fun o => (((rb1.out.put 0 (.int .i64 g.k)).put 1 (.int .i64 g.n)).alloc o).cell
  refine bodyPost_ret (v := .tuple #[.agg #[.int .i64 g.k, .int .i64 g.n], .bool st]) (by simp [results, Try.results29, go_sem, e]) rfl ⟨by first | rfl | trivial, ?_⟩
  exact (((HB1.out.setCell (by simp) _).setCell (by simp) _).alloc (by simp [HB1.out.size]) _).drew

set_option maxRecDepth 100000 in
set_option maxHeartbeats 4000000 in
theorem tellsB1_ct (fr ln tm : Int) (st : Bool) (kd c0 c1 c2 c3 n : Int) (b off N fc : Nat) (f : FrameD) (l : List FrameD) (g : FrameD) (now : Int) (w : World) (hlt : b < w.heap.size) (hfc : N + 2 ≤ fc)
    (hN : N ≤ 8) (f0 : 0 ≤ fr) (f1 : fr ≤ 100000000) (l0 : 1 ≤ ln) (l1 : ln ≤ 100000000) (t0 : 1 ≤ tm) (t1 : tm ≤ 1000)
    (p1 : w.cell? ⟨b, off, none⟩ = some (.int .i64 f.pl)) (p2 : w.cell? ⟨b, off + 1, none⟩ = some (.int .i64 f.k)) (p3 : w.cell? ⟨b, off + 2, none⟩ = some (.int .i64 f.n))
    (g1 : w.cell? ⟨b, off + (N + 1) * 3, none⟩ = some (.int .i64 g.pl)) (g2 : w.cell? ⟨b, off + (N + 1) * 3 + 1, none⟩ = some (.int .i64 g.k)) (g3 : w.cell? ⟨b, off + (N + 1) * 3 + 2, none⟩ = some (.int .i64 g.n))
    (hev : (tm % 2 == 0) = false) (hnf : ¬ now < fr) (hne : endI (⟨fr, ln, tm, true, st, kd, c0, c1, c2, c3, n, some ⟨b, off, none⟩, N + 2, fc, f :: l⟩ : AnimD) ≤ now) :
    Calls Try.prog 29 #[.agg #[.int .i64 fr, .int .i64 ln, .int .i64 tm, .bool true, .bool st, .int .i64 kd, .int .i64 c0, .int .i64 c1, .int .i64 c2, .int .i64 c3, .int .i64 n, .slice (some ⟨b, off, none⟩) (N + 2) fc], .int .i64 now] w fun e w' => e = .returned (.tuple #[.agg #[.int .i64 g.k, .int .i64 g.n], .bool st]) ∧ Below w.heap.size w w' := by
  go_enter Try.func29, Try.ntmps29
  go_wp2_with fail
  generalize hW0 : (w.alloc (.cells #[.int .i64 fr, .int .i64 ln, .int .i64 tm, .bool true, .bool st, .int .i64 kd, .int .i64 c0, .int .i64 c1, .int .i64 c2, .int .i64 c3, .int .i64 n, .slice (some ⟨b, off, none⟩) (N + 2) fc] 50)).alloc (.cells #[.int .i64 0, .int .i64 0] 39) = W0
  have HB := Lib.hid (show Below w.heap.size w W0 by subst hW0; exact ((Below.refl _ _).alloc (Nat.le_refl _) _).alloc (by simp) _)
  have HZ : w.heap.size + 2 ≤ W0.heap.size := by subst hW0; simp
  have bd := Lib.hid (show Blk W0 w.heap.size 50 #[.int .i64 fr, .int .i64 ln, .int .i64 tm, .bool true, .bool st, .int .i64 kd, .int .i64 c0, .int .i64 c1, .int .i64 c2, .int .i64 c3, .int .i64 n, .slice (some ⟨b, off, none⟩) (N + 2) fc] by subst hW0; exact (Blk.new rfl).alloc _)
  have rb := Lib.hid (show Blk W0 (w.heap.size + 1) 39 #[.int .i64 0, .int .i64 0] by subst hW0; exact Blk.new (by simp))
  clear hW0
  refine (end_ct (⟨fr, ln, tm, true, st, kd, c0, c1, c2, c3, n, some ⟨b, off, none⟩, N + 2, fc, f :: l⟩ : AnimD) _ f0 f1 l0 l1 t0 t1).mono ?_
  rintro e W1 ⟨rfl, hb⟩
  have HB1 := Lib.hid (HB.out.trans (hb.mono HB.out.size))
  have bd1 := Lib.hid (bd.out.below hb (by omega))
  have rb1 := Lib.hid (rb.out.below hb (by omega))
  have cd := bd1.out.cell
  have rc := rb1.out.cell
  have rf := rb1.out.frozen
  have hz0 := bd1.out.lt
  have hz1 := rb1.out.lt
  have hzb : b < W1.heap.size := Nat.lt_of_lt_of_le hlt HB1.out.size
  replace p1 := (HB1.out.cell (p := ⟨b, _, none⟩) hlt).trans p1
  replace p2 := (HB1.out.cell (p := ⟨b, _, none⟩) hlt).trans p2
  replace p3 := (HB1.out.cell (p := ⟨b, _, none⟩) hlt).trans p3
  replace g1 := (HB1.out.cell (p := ⟨b, _, none⟩) hlt).trans g1
  replace g2 := (HB1.out.cell (p := ⟨b, _, none⟩) hlt).trans g2
  replace g3 := (HB1.out.cell (p := ⟨b, _, none⟩) hlt).trans g3
  clear hb HB bd rb HZ
  go_wp2_with fail
  have rA := fun v o => ((rb1.out.put 0 v).alloc o).cell
  have rF := fun v o => ((rb1.out.put 0 v).alloc o).frozen
  go_region
  go_wp2
  have e := fun o => (((rb1.out.put 0 (.int .i64 g.k)).put 1 (.int .i64 g.n)).alloc o).cell
  refine bodyPost_ret (v := .tuple #[.agg #[.int .i64 g.k, .int .i64 g.n], .bool st]) (by simp [results, Try.results29, go_sem, e]) rfl ⟨by first | rfl | trivial, ?_⟩
  exact (((HB1.out.setCell (by simp) _).setCell (by simp) _).alloc (by simp [HB1.out.size]) _).drew

set_option maxRecDepth 100000 in
set_option maxHeartbeats 4000000 in
theorem tellsB2_ct (fr ln tm : Int) (st : Bool) (kd c0 c1 c2 c3 n : Int) (b off N fc : Nat) (f : FrameD) (l : List FrameD) (g : FrameD) (now : Int) (w : World) (hlt : b < w.heap.size) (hfc : N + 2 ≤ fc)
    (hN : N ≤ 8) (f0 : 0 ≤ fr) (f1 : fr ≤ 100000000) (l0 : 1 ≤ ln) (l1 : ln ≤ 100000000) (t0 : 1 ≤ tm) (t1 : tm ≤ 1000)
    (p1 : w.cell? ⟨b, off, none⟩ = some (.int .i64 f.pl)) (p2 : w.cell? ⟨b, off + 1, none⟩ = some (.int .i64 f.k)) (p3 : w.cell? ⟨b, off + 2, none⟩ = some (.int .i64 f.n))
    (g1 : w.cell? ⟨b, off + (N + 1) * 3, none⟩ = some (.int .i64 g.pl)) (g2 : w.cell? ⟨b, off + (N + 1) * 3 + 1, none⟩ = some (.int .i64 g.k)) (g3 : w.cell? ⟨b, off + (N + 1) * 3 + 2, none⟩ = some (.int .i64 g.n))
    (hev : (tm % 2 == 0) = true) (hnf : ¬ now < fr) (hne : endI (⟨fr, ln, tm, true, st, kd, c0, c1, c2, c3, n, some ⟨b, off, none⟩, N + 2, fc, f :: l⟩ : AnimD) ≤ now) :
    Calls Try.prog 29 #[.agg #[.int .i64 fr, .int .i64 ln, .int .i64 tm, .bool true, .bool st, .int .i64 kd, .int .i64 c0, .int .i64 c1, .int .i64 c2, .int .i64 c3, .int .i64 n, .slice (some ⟨b, off, none⟩) (N + 2) fc], .int .i64 now] w fun e w' => e = .returned (.tuple #[.agg #[.int .i64 f.k, .int .i64 f.n], .bool st]) ∧ Below w.heap.size w w' := by
  go_enter Try.func29, Try.ntmps29
  go_wp2_with fail
  generalize hW0 : (w.alloc (.cells #[.int .i64 fr, .int .i64 ln, .int .i64 tm, .bool true, .bool st, .int .i64 kd, .int .i64 c0, .int .i64 c1, .int .i64 c2, .int .i64 c3, .int .i64 n, .slice (some ⟨b, off, none⟩) (N + 2) fc] 50)).alloc (.cells #[.int .i64 0, .int .i64 0] 39) = W0
  have HB := Lib.hid (show Below w.heap.size w W0 by subst hW0; exact ((Below.refl _ _).alloc (Nat.le_refl _) _).alloc (by simp) _)
  have HZ : w.heap.size + 2 ≤ W0.heap.size := by subst hW0; simp
  have bd := Lib.hid (show Blk W0 w.heap.size 50 #[.int .i64 fr, .int .i64 ln, .int .i64 tm, .bool true, .bool st, .int .i64 kd, .int .i64 c0, .int .i64 c1, .int .i64 c2, .int .i64 c3, .int .i64 n, .slice (some ⟨b, off, none⟩) (N + 2) fc] by subst hW0; exact (Blk.new rfl).alloc _)
  have rb := Lib.hid (show Blk W0 (w.heap.size + 1) 39 #[.int .i64 0, .int .i64 0] by subst hW0; exact Blk.new (by simp))
  clear hW0
  refine (end_ct (⟨fr, ln, tm, true, st, kd, c0, c1, c2, c3, n, some ⟨b, off, none⟩, N + 2, fc, f :: l⟩ : AnimD) _ f0 f1 l0 l1 t0 t1).mono ?_
  rintro e W1 ⟨rfl, hb⟩
  have HB1 := Lib.hid (HB.out.trans (hb.mono HB.out.size))
  have bd1 := Lib.hid (bd.out.below hb (by omega))
  have rb1 := Lib.hid (rb.out.below hb (by omega))
  have cd := bd1.out.cell
  have rc := rb1.out.cell
  have rf := rb1.out.frozen
  have hz0 := bd1.out.lt
  have hz1 := rb1.out.lt
  have hzb : b < W1.heap.size := Nat.lt_of_lt_of_le hlt HB1.out.size
  replace p1 := (HB1.out.cell (p := ⟨b, _, none⟩) hlt).trans p1
  replace p2 := (HB1.out.cell (p := ⟨b, _, none⟩) hlt).trans p2
  replace p3 := (HB1.out.cell (p := ⟨b, _, none⟩) hlt).trans p3
  replace g1 := (HB1.out.cell (p := ⟨b, _, none⟩) hlt).trans g1
  replace g2 := (HB1.out.cell (p := ⟨b, _, none⟩) hlt).trans g2
  replace g3 := (HB1.out.cell (p := ⟨b, _, none⟩) hlt).trans g3
  clear hb HB bd rb HZ
  go_wp2_with fail
  have rA := fun v o => ((rb1.out.put 0 v).alloc o).cell
  have rF := fun v o => ((rb1.out.put 0 v).alloc o).frozen
  go_region
  go_wp2
  have e := fun o => (((rb1.out.put 0 (.int .i64 f.k)).put 1 (.int .i64 f.n)).alloc o).cell
  refine bodyPost_ret (v := .tuple #[.agg #[.int .i64 f.k, .int .i64 f.n], .bool st]) (by simp [results, Try.results29, go_sem, e]) rfl ⟨by first | rfl | trivial, ?_⟩
  exact (((HB1.out.setCell (by simp) _).setCell (by simp) _).alloc (by simp [HB1.out.size]) _).drew

theorem tells_ct (d : AnimD) (now : Int) (w : World) (hd : AnRd w w.heap.size d) (ok : OkA d) :
    Calls Try.prog 29 #[.agg d.cells, .int .i64 now] w fun e w' => e = .returned (.tuple #[.agg #[.int .i64 (tellsP d now).1.1, .int .i64 (tellsP d now).1.2], .bool (tellsP d now).2]) ∧ Below w.heap.size w w' := by
  by_cases hA : now < d.from_
  · have e : tellsP d now = ((0, 0), false) := by simp [tellsP, hA]
    rw [e]
    exact tellsA_ct d now w hA
  · by_cases hB : endI d ≤ now
    · obtain ⟨l0, l1⟩ := ok.ln
      obtain ⟨f0, f1⟩ := ok.fr
      obtain ⟨t0, t1⟩ := ok.tm
      obtain ⟨f, l, hFF, hz, hri, hla, hfl2, hfl10⟩ := ok.fm
      obtain ⟨hc1, hc2, hF, hcells⟩ := hd
      obtain ⟨b, off, hfA, hlt, hc⟩ := hcells (by omega)
      obtain ⟨fr, ln, tm, tu, st, kd, c0, c1, c2, c3, n, fA, fl, fc, F⟩ := d
      simp only at *
      subst hfA hFF
      obtain ⟨N, rfl⟩ : ∃ N, fl = N + 2 := ⟨fl - 2, by omega⟩
      have hr1 : l.length = N + 1 := by simpa using hF
      obtain ⟨p1, p2, p3⟩ := hc 0 f rfl
      simp only [Nat.zero_mul, Nat.add_zero] at p1 p2 p3
      obtain ⟨g, hg⟩ : ∃ g, (f :: l)[N + 1]? = some g := ⟨_, List.getElem?_eq_getElem (by omega)⟩
      obtain ⟨g1, g2, g3⟩ := hc (N + 1) g hg
      have hgl : l.getLastD f = g := by
        rw [List.getLastD_eq_getLast?, List.getLast?_eq_getElem?, hr1]
        simp only [List.getElem?_cons_succ] at hg
        simp [hg]
      cases tu
      · have e : tellsP (⟨fr, ln, tm, false, st, kd, c0, c1, c2, c3, n, some ⟨b, off, none⟩, N + 2, fc, f :: l⟩ : AnimD) now = ((g.k, g.n), st) := by
          simp only [tellsP, if_neg hA, if_pos hB, hgl]
          rfl
        rw [e]
        exact tellsB0_ct fr ln tm st kd c0 c1 c2 c3 n b off N fc f l g now w hlt hc1 (by omega) f0 f1 l0 l1 t0 t1 p1 p2 p3 g1 g2 g3 hA hB
      · cases hev : tm % 2 == 0
        · have e : tellsP (⟨fr, ln, tm, true, st, kd, c0, c1, c2, c3, n, some ⟨b, off, none⟩, N + 2, fc, f :: l⟩ : AnimD) now = ((g.k, g.n), st) := by
            simp only [tellsP, if_neg hA, if_pos hB, hgl, hev]
            rfl
          rw [e]
          exact tellsB1_ct fr ln tm st kd c0 c1 c2 c3 n b off N fc f l g now w hlt hc1 (by omega) f0 f1 l0 l1 t0 t1 p1 p2 p3 g1 g2 g3 hev hA hB
        · have e : tellsP (⟨fr, ln, tm, true, st, kd, c0, c1, c2, c3, n, some ⟨b, off, none⟩, N + 2, fc, f :: l⟩ : AnimD) now = ((f.k, f.n), st) := by
            simp only [tellsP, if_neg hA, if_pos hB, hev]
            rfl
          rw [e]
          exact tellsB2_ct fr ln tm st kd c0 c1 c2 c3 n b off N fc f l g now w hlt hc1 (by omega) f0 f1 l0 l1 t0 t1 p1 p2 p3 g1 g2 g3 hev hA hB
    · have e : tellsP d now = (framesP d (placeI d now), true) := by simp [tellsP, hA, hB]
      rw [e]
      exact tellsC_ct d now w hd ok (by omega) (by omega)

end Go.Proofs.Ytchmpdibbklpfaa.anim
