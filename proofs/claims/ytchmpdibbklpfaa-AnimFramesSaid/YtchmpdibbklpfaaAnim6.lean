/- Contracts: frames. -/
import Derived.Test.YtchmpdibbklpfaaAnim5
import Derived.Test.YtchmpdibbklpfaaBase2
namespace Go.Proofs.Ytchmpdibbklpfaa.anim
open Go.RowKit Go.Proofs.Ytchmpdibbklpfaa.base
set_option linter.unusedVariables false

theorem rising_bound : ∀ (l : List FrameD) (f : FrameD), rising f.pl l = true → ∀ g ∈ f :: l, f.pl ≤ g.pl ∧ g.pl ≤ (l.getLastD f).pl
  | [], f, _, g, hg => by simp at hg; subst hg; simp
  | a :: l, f, h, g, hg => by
    simp only [rising, Bool.and_eq_true, decide_eq_true_eq] at h
    obtain ⟨h1, h2⟩ := h
    have ih := rising_bound l a h2
    rw [List.getLastD_cons]
    rcases List.mem_cons.1 hg with rfl | hg
    · have := (ih a (by simp)).2
      omega
    · have := ih g hg
      omega

/-- what a change must be -/
structure OkA (d : AnimD) : Prop where
  fr : 0 ≤ d.from_ ∧ d.from_ ≤ 100000000
  ln : 1 ≤ d.len ∧ d.len ≤ 100000000
  tm : 1 ≤ d.times ∧ d.times ≤ 1000
  ez : Right d.kind d.c0 d.c1 d.c2 d.c3 d.n
  fm : ∃ f l, d.F = f :: l ∧ f.pl = 0 ∧ rising f.pl l = true ∧ (l.getLastD f).pl = 1000 ∧ 2 ≤ d.fl ∧ d.fl ≤ 10

theorem okA {d : AnimD} (h : checkE d = 0) : OkA d := by
  unfold checkE at h
  by_cases h1 : (inB d.from_ 0 100000000 && inB d.len 1 100000000 && inB d.times 1 1000) = true
  · rw [h1] at h
    simp only [Bool.and_eq_true, inB_iff] at h1
    by_cases h2 : easingB d.kind d.c0 d.c1 d.c2 d.c3 d.n = true
    · rw [h2] at h
      simp only [Bool.not_true, Bool.false_eq_true, if_false] at h
      by_cases h3 : 10 < d.fl
      · rw [if_pos h3] at h; cases h
      · rw [if_neg h3] at h
        cases hF : d.F with
        | nil => rw [hF] at h; cases h
        | cons f l =>
          rw [hF] at h
          simp only at h
          by_cases h4 : d.fl < 2 ∨ f.pl ≠ 0 ∨ (l.getLastD f).pl ≠ 1000
          · rw [if_pos h4] at h; cases h
          · rw [if_neg h4] at h
            cases h5 : rising f.pl l with
            | false => rw [h5] at h; cases h
            | true => exact ⟨h1.1.1, h1.1.2, h1.2, easingB_right h2, f, l, hF, by omega, h5, by omega, by omega, by omega⟩
    · simp [h2] at h
  · simp [h1] at h

set_option maxRecDepth 100000 in
set_option maxHeartbeats 4000000 in
theorem frames_ct (d : AnimD) (r : Int) (w : World) (hd : AnRd w w.heap.size d) (ok : OkA d) (r0 : 0 ≤ r) (r1 : r ≤ 1000) :
    Calls Try.prog 35 #[.agg d.cells, .int .i64 r] w fun e w' => e = .returned (.agg #[.int .i64 (framesP d r).1, .int .i64 (framesP d r).2]) ∧ Below w.heap.size w w' := by
  obtain ⟨_, _, _, ez, f, l, hFF, f0, hri, hla, l2, l10⟩ := ok
  obtain ⟨hc1, hc2, hF, hcells⟩ := hd
  obtain ⟨b, off, hA, hlt, hc⟩ := hcells (by omega)
  clear hcells
  have hbnd := rising_bound l f hri
  rw [f0, hla] at hbnd
  obtain ⟨K, hK⟩ : ∃ K, K = (framesP d r).1 := ⟨_, rfl⟩
  obtain ⟨V, hV⟩ : ∃ V, V = (framesP d r).2 := ⟨_, rfl⟩
  rw [← hK, ← hV]
  obtain ⟨fr, ln, tm, tu, st, kd, c0, c1, c2, c3, n, fA, fl, fc, F⟩ := d
  simp only at *
  subst hA hFF
  replace hc := Lib.hid hc
  replace hK := Lib.hid hK
  replace hV := Lib.hid hV
  replace hbnd := Lib.hid hbnd
  replace ez := Lib.hid ez
  have hlen := Lib.hid hF
  clear hF hri hla
  simp only [AnimD.cells]
  go_enter Try.func35, Try.ntmps35
  go_wp2_with fail
  generalize hW0 : (w.alloc (.cells #[.int .i64 fr, .int .i64 ln, .int .i64 tm, .bool tu, .bool st, .int .i64 kd, .int .i64 c0, .int .i64 c1, .int .i64 c2, .int .i64 c3, .int .i64 n, .slice (some ⟨b, off, none⟩) fl fc] 50)).alloc (.cells #[.int .i64 0, .int .i64 0] 39) = W0
  have HB := Lib.hid (show Below w.heap.size w W0 by subst hW0; exact ((Below.refl _ _).alloc (Nat.le_refl _) _).alloc (by simp) _)
  have HZ : w.heap.size + 2 ≤ W0.heap.size := by subst hW0; simp
  have cd := (show Blk W0 w.heap.size 50 #[.int .i64 fr, .int .i64 ln, .int .i64 tm, .bool tu, .bool st, .int .i64 kd, .int .i64 c0, .int .i64 c1, .int .i64 c2, .int .i64 c3, .int .i64 n, .slice (some ⟨b, off, none⟩) fl fc] by subst hW0; exact (Blk.new rfl).alloc _).cell
  have rb := Lib.hid (show Blk W0 (w.heap.size + 1) 39 #[.int .i64 0, .int .i64 0] by subst hW0; exact Blk.new (by simp))
  clear hW0
  have z0 : w.heap.size < W0.heap.size := by omega
  have z1 : w.heap.size + 1 < W0.heap.size := by omega
  have zb : b < W0.heap.size := by omega
  have hcell : ∀ (i : Nat) (g : FrameD), (f :: l)[i]? = some g → W0.cell? ⟨b, off + i * 3, none⟩ = some (.int .i64 g.pl) ∧ W0.cell? ⟨b, off + i * 3 + 1, none⟩ = some (.int .i64 g.k) ∧ W0.cell? ⟨b, off + i * 3 + 2, none⟩ = some (.int .i64 g.n) := by
    intro i g hg
    obtain ⟨h1, h2, h3⟩ := hc.out i g hg
    exact ⟨(HB.out.cell (p := ⟨b, _, none⟩) hlt).trans h1, (HB.out.cell (p := ⟨b, _, none⟩) hlt).trans h2, (HB.out.cell (p := ⟨b, _, none⟩) hlt).trans h3⟩
  replace hcell := Lib.hid hcell
  go_loop [5] (fun i => ∃ (k : Nat) (p : FrameD), k < fl ∧ i = .int .i64 k ∧ (f :: l)[k]? = some p ∧ p.pl ≤ r ∧ upTo r f l = upTo r p (l.drop k)) (fun i => fl - (intOf i).toNat)
  case atStart => exact ⟨0, f, by omega, rfl, rfl, by omega, rfl⟩
  case round =>
    obtain ⟨k, p, hk, rfl, hp, hpr, hup⟩ := hrel
    replace hp := Lib.hid hp
    replace hup := Lib.hid hup
    by_cases hlt' : k + 1 < fl
    · obtain ⟨q, hq⟩ : ∃ q, (f :: l)[k + 1]? = some q := ⟨_, List.getElem?_eq_getElem (by rw [hlen.out]; omega)⟩
      have hd : l.drop k = q :: l.drop (k + 1) := by
        obtain ⟨hkl, hqe⟩ := List.getElem?_eq_some_iff.1 (show l[k]? = some q by simpa using hq)
        rw [List.drop_eq_getElem_cons hkl, hqe]
      obtain ⟨b1, b2, b3⟩ := hcell.out (k + 1) q hq
      have i1 : (k : Int) + 1 < (fl : Int) := by omega
      replace hd := Lib.hid hd
      replace hq := Lib.hid hq
      by_cases hqr : q.pl ≤ r
      · go_wp2
        go_round
        case rel => exact ⟨k + 1, q, hlt', by go_num, hq.out, hqr, by rw [hup.out, hd.out]; simp only [upTo]; rw [if_pos hqr]⟩
        case measure => simp [intOf]; omega
      · obtain ⟨a1, a2, a3⟩ := hcell.out k p hp.out
        have i2 : (k : Int) < (fl : Int) := by omega
        go_wp2_with fail
        have hfin := Lib.hid (show K = mixK p.k q.k (easedI kd c0 c1 c2 c3 n ((r - p.pl) * 1000 / (q.pl - p.pl))) ∧ V = mixN p.k p.n q.k q.n (easedI kd c0 c1 c2 c3 n ((r - p.pl) * 1000 / (q.pl - p.pl))) by
          rw [hK.out, hV.out]
          simp only [framesP, hup.out, hd.out, upTo]
          rw [if_neg (show ¬ q.pl ≤ r by omega)]
          exact ⟨rfl, rfl⟩)
        have hpm := hbnd.out p (List.mem_of_getElem? hp.out)
        have hqm := hbnd.out q (List.mem_of_getElem? hq.out)
        have d1 : 0 ≤ (r - p.pl) * 1000 / (q.pl - p.pl) := Int.ediv_nonneg (by omega) (by omega)
        have d2 : (r - p.pl) * 1000 / (q.pl - p.pl) ≤ 1000 := by
          have : (r - p.pl) * 1000 / (q.pl - p.pl) ≤ (q.pl - p.pl) * 1000 / (q.pl - p.pl) := Int.ediv_le_ediv (by omega) (by omega)
          rw [Int.mul_comm (q.pl - p.pl), Int.mul_ediv_cancel _ (by omega)] at this
          exact this
        have d3 : (q.pl - p.pl == 0) = false := by simp; omega
        have d4 : ¬ q.pl = p.pl := by omega
        have d5 : ¬ q.pl - p.pl = 0 := by omega
        have v1 : IntKind.i64.wrap (r - p.pl) = r - p.pl := IntWalk.i64_in _ (by omega)
        have v2 : IntKind.i64.wrap ((r - p.pl) * 1000) = (r - p.pl) * 1000 := IntWalk.i64_in _ (by omega)
        have v3 : IntKind.i64.wrap (q.pl - p.pl) = q.pl - p.pl := IntWalk.i64_in _ (by omega)
        have v4 : ((r - p.pl) * 1000).tdiv (q.pl - p.pl) = (r - p.pl) * 1000 / (q.pl - p.pl) := Int.tdiv_eq_ediv_of_nonneg (by omega)
        have v5 : IntKind.i64.wrap ((r - p.pl) * 1000 / (q.pl - p.pl)) = (r - p.pl) * 1000 / (q.pl - p.pl) := IntWalk.i64_in _ (by omega)
        have er := Lib.hid (easedI_range ez.out d1 d2)
        generalize hV0 : (W0.alloc (.cells #[.int .i64 p.pl, .int .i64 p.k, .int .i64 p.n] 53)).alloc (.cells #[.int .i64 q.pl, .int .i64 q.k, .int .i64 q.n] 53) = V0
        have HV := Lib.hid (show Below W0.heap.size W0 V0 by subst hV0; exact ((Below.refl _ _).alloc (Nat.le_refl _) _).alloc (by simp) _)
        have zv : W0.heap.size + 2 ≤ V0.heap.size := by subst hV0; simp
        have cV : ∀ i, V0.cell? ⟨w.heap.size, i, none⟩ = (#[.int .i64 fr, .int .i64 ln, .int .i64 tm, .bool tu, .bool st, .int .i64 kd, .int .i64 c0, .int .i64 c1, .int .i64 c2, .int .i64 c3, .int .i64 n, .slice (some ⟨b, off, none⟩) fl fc] : Array Value)[i]? := own_below HV.out cd z0
        have pV := (show Blk V0 W0.heap.size 53 #[.int .i64 p.pl, .int .i64 p.k, .int .i64 p.n] by subst hV0; exact (Blk.new rfl).alloc _).cell
        have qV := (show Blk V0 (W0.heap.size + 1) 53 #[.int .i64 q.pl, .int .i64 q.k, .int .i64 q.n] by subst hV0; exact Blk.new (by simp)).cell
        have rV := Lib.hid (rb.out.below HV.out z1)
        clear hV0 cd a1 a2 a3 b1 b2 b3
        go_region_held3 (fun w' => (∀ i, w'.cell? ⟨w.heap.size, i, none⟩ = (#[.int .i64 fr, .int .i64 ln, .int .i64 tm, .bool tu, .bool st, .int .i64 kd, .int .i64 c0, .int .i64 c1, .int .i64 c2, .int .i64 c3, .int .i64 n, .slice (some ⟨b, off, none⟩) fl fc] : Array Value)[i]?) ∧ (∀ i, w'.cell? ⟨W0.heap.size, i, none⟩ = (#[.int .i64 p.pl, .int .i64 p.k, .int .i64 p.n] : Array Value)[i]?) ∧ (∀ i, w'.cell? ⟨W0.heap.size + 1, i, none⟩ = (#[.int .i64 q.pl, .int .i64 q.k, .int .i64 q.n] : Array Value)[i]?) ∧ W0.heap.size + 2 ≤ w'.heap.size)
          (first | exact ⟨cV, pV, qV, zv⟩ | exact own3_on hb3 (by assumption) (by omega) (by omega) (by omega) | exact own3_on hb4 (by assumption) (by omega) (by omega) (by omega) | exact own3_put (own3_put (by assumption) (by simp) (by simp; omega) (by simp; omega)) (by simp) (by simp; omega) (by simp; omega))
          (first
            | (go_at_call 25; (with_reducible refine (eased_ct _ _ _ _ _ _ _ _ ez.out d1 d2).mono ?_); rintro e w3 ⟨rfl, hb3⟩; have r3 := Lib.hid (Blk.below (show Blk V0.drew _ _ _ from rV.out) hb3 (by simp; omega)))
            | (go_at_call 17; (with_reducible refine (mix_ct _ _ _ _ _ _).mono ?_); rintro e w4 ⟨rfl, hb4⟩; have r4 := Lib.hid (r3.out.below hb4 r3.out.lt); have r4c := r4.out.cell; have r4f := r4.out.frozen))
        clear v1 v2 v3 v4 v5
        go_wp2
        obtain ⟨hk1, hv1⟩ := hfin.out
        generalize easedI kd c0 c1 c2 c3 n ((r - p.pl) * 1000 / (q.pl - p.pl)) = t at *
        rw [← hk1, ← hv1]
        have e := ((r4.out.put 0 (.int .i64 K)).put 1 (.int .i64 V)).cell
        refine bodyPost_ret (v := .agg #[.int .i64 K, .int .i64 V]) (by simp [results, Try.results35, go_sem, e]) rfl ⟨by first | rfl | trivial, ?_⟩
        have z2 : w.heap.size ≤ V0.heap.size := Nat.le_trans HB.out.size HV.out.size
        have h3 : Below w.heap.size V0 w3 := (Below.drew (Below.refl _ V0)).trans (hb3.mono z2)
        have h4 : Below w.heap.size w3 w4 := hb4.mono (Nat.le_trans z2 h3.size)
        exact ((((HB.out.trans (HV.out.mono HB.out.size)).trans h3).trans h4).setCell (by simp) _).setCell (by simp) _
    · obtain rfl : k + 1 = fl := by omega
      obtain ⟨a1, a2, a3⟩ := hcell.out k p hp.out
      have i2 : (k : Int) < (k : Int) + 1 := by omega
      have hfin := Lib.hid (show K = p.k ∧ V = p.n by
        have hl : l.length = k := by simpa using hlen.out
        rw [hK.out, hV.out]
        refine ⟨?_, ?_⟩ <;> simp only [framesP, hup.out, List.drop_eq_nil_of_le (show l.length ≤ k by omega), upTo])
      have rA := rb.out.cell
      have rF := rb.out.frozen
      have rA2 := fun v o => ((rb.out.put 0 v).alloc o).cell
      have rF2 := fun v o => ((rb.out.put 0 v).alloc o).frozen
      go_wp2
      obtain ⟨hk1, hv1⟩ := hfin.out
      rw [hk1, hv1]
      have e := fun o => (((rb.out.put 0 (.int .i64 p.k)).put 1 (.int .i64 p.n)).alloc o).cell
      refine bodyPost_ret (v := .agg #[.int .i64 p.k, .int .i64 p.n]) (by simp [results, Try.results35, go_sem, e]) rfl ⟨by first | rfl | trivial, ?_⟩
      exact ((HB.out.setCell (by simp) _).setCell (by simp) _).alloc (by simp [HB.out.size]) _

end Go.Proofs.Ytchmpdibbklpfaa.anim
