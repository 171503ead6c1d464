/- AnimRises: for every easing and every two times the call returns true, and all that was there reads as before. No condition. -/
import Derived.Test.YtchmpdibbklpfaaAnim2
namespace Go.Proofs.Ytchmpdibbklpfaa.anim
open Go.RowKit Go.Proofs.Ytchmpdibbklpfaa.base Go.ChangeShapes Go.WideShapes Go.ChangeAt

theorem own : ownKnob Try.prog.godebug = none := by kernel_rfl
theorem laidOut : laidOutB Try.prog = true := by kernel_rfl

section
variable {H : Type} {enc : TypeId × Value → H} {w : World} {base : Nat} {spare : Nat → Bool} {held : Bool}
theorem cells_ease {fuel : Nat} {cs : List Value} {x : DataW H × List MemPlace} (h : DataW.trod enc Try.prog w base spare held fuel 29 cs = some x) :
    ∃ k c0 c1 c2 c3 n : Int, cs = [.int .i64 k, .int .i64 c0, .int .i64 c1, .int .i64 c2, .int .i64 c3, .int .i64 n] := by
  have k1 : Try.prog.cellsOf 3 = 1 := by kernel_rfl
  have k4 : Try.prog.cellsOf 27 = 4 := by kernel_rfl
  have k6 : Try.prog.cellsOf 29 = 6 := by kernel_rfl
  obtain ⟨hl, m, hf⟩ := trod_fields Try.underlying29 h
  rw [k6] at hl
  match cs, hl with
  | [a0, a1, a2, a3, a4, a5], _ =>
    obtain ⟨y0, h0⟩ := at_field hf 0 3 0 1 rfl k1
    obtain ⟨y1, h1⟩ := at_field hf 1 27 1 4 rfl k4
    obtain ⟨y2, h2⟩ := at_field hf 2 3 5 1 rfl k1
    obtain ⟨_, m', hi⟩ := trod_items Try.underlying27 h1
    obtain ⟨z0, i0⟩ := hi 0 (by decide)
    obtain ⟨z1, i1⟩ := hi 1 (by decide)
    obtain ⟨z2, i2⟩ := hi 2 (by decide)
    obtain ⟨z3, i3⟩ := hi 3 (by decide)
    simp only [k1] at i0 i1 i2 i3
    obtain ⟨k, e0, _, _⟩ := DataW.trod_int Try.underlying3 h0
    obtain ⟨n, e2, _, _⟩ := DataW.trod_int Try.underlying3 h2
    obtain ⟨c0, f0, _, _⟩ := DataW.trod_int Try.underlying3 i0
    obtain ⟨c1, f1, _, _⟩ := DataW.trod_int Try.underlying3 i1
    obtain ⟨c2, f2, _, _⟩ := DataW.trod_int Try.underlying3 i2
    obtain ⟨c3, f3, _, _⟩ := DataW.trod_int Try.underlying3 i3
    simp at e0 e2 f0 f1 f2 f3
    exact ⟨k, c0, c1, c2, c3, n, by simp [e0, e2, f0, f1, f2, f3]⟩
end

theorem easeE_ok {kind c0 c1 c2 c3 n t : Int} : easeE kind c0 c1 c2 c3 n t = 0 ↔ easingB kind c0 c1 c2 c3 n = true ∧ 0 ≤ t ∧ t ≤ 1000 := by
  unfold easeE
  rw [← inB_iff]
  cases easingB kind c0 c1 c2 c3 n <;> cases inB t 0 1000 <;> simp

set_option maxRecDepth 100000 in
set_option maxHeartbeats 1000000 in
theorem stepped_ct (w : World) : Calls Try.prog 14 #[] w fun e w' => e = .returned (.bool true) ∧ Below w.heap.size w w' := by
  go_enter Try.func14, Try.ntmps14
  go_wp2_with fail
  refine (ease_ct _ _ _ _ _ _ _ _).mono ?_
  rintro e W1 ⟨rfl, hb⟩
  rw [show easeV 3 0 0 0 0 4 600 = 500 by decide, show easeE 3 0 0 0 0 4 600 = 0 by decide]
  go_wp2
  go_ret
  exact ⟨rfl, hb⟩

set_option maxRecDepth 100000 in
set_option maxHeartbeats 2000000 in
theorem rises_ct (kind c0 c1 c2 c3 n s t : Int) (w : World) :
    Calls Try.prog 4 #[.agg #[.int .i64 kind, .int .i64 c0, .int .i64 c1, .int .i64 c2, .int .i64 c3, .int .i64 n], .int .i64 s, .int .i64 t] w
      fun e w' => e = .returned (.bool true) ∧ Below w.heap.size w w' := by
  go_enter Try.func4, Try.ntmps4
  go_wp2_with fail
  generalize hW0 : w.alloc (.cells #[.int .i64 kind, .int .i64 c0, .int .i64 c1, .int .i64 c2, .int .i64 c3, .int .i64 n] 29) = W0
  have HB := Lib.hid (show Below w.heap.size w W0 by subst hW0; exact (Below.refl _ _).alloc (Nat.le_refl _) _)
  have HZ : w.heap.size + 1 ≤ W0.heap.size := by subst hW0; simp
  have hc : ∀ i, W0.cell? ⟨w.heap.size, i, none⟩ = (#[.int .i64 kind, .int .i64 c0, .int .i64 c1, .int .i64 c2, .int .i64 c3, .int .i64 n] : Array Value)[i]? := by
    intro i; subst hW0; rw [World.cell?_alloc_new]
  clear hW0
  refine (stepped_ct _).mono ?_
  rintro e W1 ⟨rfl, hb⟩
  have hS := As.on hb (As.beg0 (B := w.heap.size + 1) (W0 := W0)) HZ
  clear hb
  rcases Int.lt_trichotomy t s with hst | hst | hst
  · go_wp2_with fail
    refine (ease_ct _ _ _ _ _ _ _ _).mono ?_
    rintro e W2 ⟨rfl, hb2⟩
    replace hS := As.on hb2 hS HZ
    clear hb2
    obtain ⟨a, Ha⟩ : ∃ v, v = easeV kind c0 c1 c2 c3 n t := ⟨_, rfl⟩
    obtain ⟨ae, Hae⟩ : ∃ v, v = easeE kind c0 c1 c2 c3 n t := ⟨_, rfl⟩
    rw [← Ha, ← Hae]
    replace Ha := Lib.hid Ha
    replace Hae := Lib.hid Hae
    go_wp2_with fail
    refine (ease_ct _ _ _ _ _ _ _ _).mono ?_
    rintro e W3 ⟨rfl, hb3⟩
    replace hS := As.on hb3 hS HZ
    clear hb3
    obtain ⟨b, Hb⟩ : ∃ v, v = easeV kind c0 c1 c2 c3 n s := ⟨_, rfl⟩
    obtain ⟨be, Hbe⟩ : ∃ v, v = easeE kind c0 c1 c2 c3 n s := ⟨_, rfl⟩
    rw [← Hb, ← Hbe]
    replace Hb := Lib.hid Hb
    replace Hbe := Lib.hid Hbe
    go_wp2_with fail
    refine (ease_ct _ _ _ _ _ _ _ _).mono ?_
    rintro e W4 ⟨rfl, hb4⟩
    replace hS := As.on hb4 hS HZ
    clear hb4
    obtain ⟨c, Hc⟩ : ∃ v, v = easeV kind c0 c1 c2 c3 n 0 := ⟨_, rfl⟩
    obtain ⟨ce, Hce⟩ : ∃ v, v = easeE kind c0 c1 c2 c3 n 0 := ⟨_, rfl⟩
    rw [← Hc, ← Hce]
    replace Hc := Lib.hid Hc
    replace Hce := Lib.hid Hce
    go_wp2_with fail
    refine (ease_ct _ _ _ _ _ _ _ _).mono ?_
    rintro e W5 ⟨rfl, hb5⟩
    replace hS := As.on hb5 hS HZ
    clear hb5
    obtain ⟨d, Hd⟩ : ∃ v, v = easeV kind c0 c1 c2 c3 n 1000 := ⟨_, rfl⟩
    obtain ⟨de, Hde⟩ : ∃ v, v = easeE kind c0 c1 c2 c3 n 1000 := ⟨_, rfl⟩
    rw [← Hd, ← Hde]
    replace Hd := Lib.hid Hd
    replace Hde := Lib.hid Hde
    have hfin := As.fin HB.out hS (by omega)
    clear hS hc HZ HB
    by_cases ga : ae = 0
    · by_cases gb : be = 0
      · obtain ⟨r1, r2, r3⟩ := easeE_ok.1 (Hae.out.symm.trans ga)
        obtain ⟨_, q2, q3⟩ := easeE_ok.1 (Hbe.out.symm.trans gb)
        have R := easingB_right r1
        have ea : a = easedI kind c0 c1 c2 c3 n t := by rw [Ha.out]; simp [easeV, r1, inB, r2, r3]
        have eb : b = easedI kind c0 c1 c2 c3 n s := by rw [Hb.out]; simp [easeV, r1, inB, q2, q3]
        have ec : c = 0 := by rw [Hc.out]; simp [easeV, r1, inB, easedI_zero]
        have ed : d = 1000 := by rw [Hd.out]; simp [easeV, r1, inB, easedI_all R]
        have ece : ce = 0 := by rw [Hce.out]; exact easeE_ok.2 ⟨r1, by decide, by decide⟩
        have ede : de = 0 := by rw [Hde.out]; exact easeE_ok.2 ⟨r1, by decide, by decide⟩
        have f1 : a ≤ b := by rw [ea, eb]; exact easedI_mono R (by omega) q3
        have f2 : 0 ≤ a := by rw [ea]; exact (easedI_range R r2 r3).1
        have f3 : b ≤ 1000 := by rw [eb]; exact (easedI_range R q2 q3).2
        clear ea eb Ha Hb Hc Hd Hae Hbe Hce Hde
        subst ga gb ec ed ece ede
        go_wp2
        go_ret
        exact ⟨rfl, hfin⟩
      · clear Ha Hb Hc Hd Hae Hbe Hce Hde
        subst ga
        have gb' : (be != 0) = true := by simp [gb]
        go_wp2
        go_ret
        exact ⟨rfl, hfin⟩
    · clear Ha Hb Hc Hd Hae Hbe Hce Hde
      have ga' : (ae != 0) = true := by simp [ga]
      go_wp2
      go_ret
      exact ⟨rfl, hfin⟩
  · subst hst
    go_wp2_with fail
    refine (ease_ct _ _ _ _ _ _ _ _).mono ?_
    rintro e W2 ⟨rfl, hb2⟩
    replace hS := As.on hb2 hS HZ
    clear hb2
    obtain ⟨a, Ha⟩ : ∃ v, v = easeV kind c0 c1 c2 c3 n t := ⟨_, rfl⟩
    obtain ⟨ae, Hae⟩ : ∃ v, v = easeE kind c0 c1 c2 c3 n t := ⟨_, rfl⟩
    rw [← Ha, ← Hae]
    replace Ha := Lib.hid Ha
    replace Hae := Lib.hid Hae
    go_wp2_with fail
    refine (ease_ct _ _ _ _ _ _ _ _).mono ?_
    rintro e W3 ⟨rfl, hb3⟩
    replace hS := As.on hb3 hS HZ
    clear hb3
    obtain ⟨b, Hb⟩ : ∃ v, v = easeV kind c0 c1 c2 c3 n t := ⟨_, rfl⟩
    obtain ⟨be, Hbe⟩ : ∃ v, v = easeE kind c0 c1 c2 c3 n t := ⟨_, rfl⟩
    rw [← Hb, ← Hbe]
    replace Hb := Lib.hid Hb
    replace Hbe := Lib.hid Hbe
    go_wp2_with fail
    refine (ease_ct _ _ _ _ _ _ _ _).mono ?_
    rintro e W4 ⟨rfl, hb4⟩
    replace hS := As.on hb4 hS HZ
    clear hb4
    obtain ⟨c, Hc⟩ : ∃ v, v = easeV kind c0 c1 c2 c3 n 0 := ⟨_, rfl⟩
    obtain ⟨ce, Hce⟩ : ∃ v, v = easeE kind c0 c1 c2 c3 n 0 := ⟨_, rfl⟩
    rw [← Hc, ← Hce]
    replace Hc := Lib.hid Hc
    replace Hce := Lib.hid Hce
    go_wp2_with fail
    refine (ease_ct _ _ _ _ _ _ _ _).mono ?_
    rintro e W5 ⟨rfl, hb5⟩
    replace hS := As.on hb5 hS HZ
    clear hb5
    obtain ⟨d, Hd⟩ : ∃ v, v = easeV kind c0 c1 c2 c3 n 1000 := ⟨_, rfl⟩
    obtain ⟨de, Hde⟩ : ∃ v, v = easeE kind c0 c1 c2 c3 n 1000 := ⟨_, rfl⟩
    rw [← Hd, ← Hde]
    replace Hd := Lib.hid Hd
    replace Hde := Lib.hid Hde
    have hfin := As.fin HB.out hS (by omega)
    clear hS hc HZ HB
    by_cases ga : ae = 0
    · by_cases gb : be = 0
      · obtain ⟨r1, r2, r3⟩ := easeE_ok.1 (Hae.out.symm.trans ga)
        obtain ⟨_, q2, q3⟩ := easeE_ok.1 (Hbe.out.symm.trans gb)
        have R := easingB_right r1
        have ea : a = easedI kind c0 c1 c2 c3 n t := by rw [Ha.out]; simp [easeV, r1, inB, r2, r3]
        have eb : b = easedI kind c0 c1 c2 c3 n t := by rw [Hb.out]; simp [easeV, r1, inB, q2, q3]
        have ec : c = 0 := by rw [Hc.out]; simp [easeV, r1, inB, easedI_zero]
        have ed : d = 1000 := by rw [Hd.out]; simp [easeV, r1, inB, easedI_all R]
        have ece : ce = 0 := by rw [Hce.out]; exact easeE_ok.2 ⟨r1, by decide, by decide⟩
        have ede : de = 0 := by rw [Hde.out]; exact easeE_ok.2 ⟨r1, by decide, by decide⟩
        have f1 : a ≤ b := by rw [ea, eb]; exact easedI_mono R (Int.le_refl _) q3
        have f2 : 0 ≤ a := by rw [ea]; exact (easedI_range R r2 r3).1
        have f3 : b ≤ 1000 := by rw [eb]; exact (easedI_range R q2 q3).2
        clear ea eb Ha Hb Hc Hd Hae Hbe Hce Hde
        subst ga gb ec ed ece ede
        go_wp2
        go_ret
        exact ⟨rfl, hfin⟩
      · clear Ha Hb Hc Hd Hae Hbe Hce Hde
        subst ga
        have gb' : (be != 0) = true := by simp [gb]
        go_wp2
        go_ret
        exact ⟨rfl, hfin⟩
    · clear Ha Hb Hc Hd Hae Hbe Hce Hde
      have ga' : (ae != 0) = true := by simp [ga]
      go_wp2
      go_ret
      exact ⟨rfl, hfin⟩
  · go_wp2_with fail
    refine (ease_ct _ _ _ _ _ _ _ _).mono ?_
    rintro e W2 ⟨rfl, hb2⟩
    replace hS := As.on hb2 hS HZ
    clear hb2
    obtain ⟨a, Ha⟩ : ∃ v, v = easeV kind c0 c1 c2 c3 n s := ⟨_, rfl⟩
    obtain ⟨ae, Hae⟩ : ∃ v, v = easeE kind c0 c1 c2 c3 n s := ⟨_, rfl⟩
    rw [← Ha, ← Hae]
    replace Ha := Lib.hid Ha
    replace Hae := Lib.hid Hae
    go_wp2_with fail
    refine (ease_ct _ _ _ _ _ _ _ _).mono ?_
    rintro e W3 ⟨rfl, hb3⟩
    replace hS := As.on hb3 hS HZ
    clear hb3
    obtain ⟨b, Hb⟩ : ∃ v, v = easeV kind c0 c1 c2 c3 n t := ⟨_, rfl⟩
    obtain ⟨be, Hbe⟩ : ∃ v, v = easeE kind c0 c1 c2 c3 n t := ⟨_, rfl⟩
    rw [← Hb, ← Hbe]
    replace Hb := Lib.hid Hb
    replace Hbe := Lib.hid Hbe
    go_wp2_with fail
    refine (ease_ct _ _ _ _ _ _ _ _).mono ?_
    rintro e W4 ⟨rfl, hb4⟩
    replace hS := As.on hb4 hS HZ
    clear hb4
    obtain ⟨c, Hc⟩ : ∃ v, v = easeV kind c0 c1 c2 c3 n 0 := ⟨_, rfl⟩
    obtain ⟨ce, Hce⟩ : ∃ v, v = easeE kind c0 c1 c2 c3 n 0 := ⟨_, rfl⟩
    rw [← Hc, ← Hce]
    replace Hc := Lib.hid Hc
    replace Hce := Lib.hid Hce
    go_wp2_with fail
    refine (ease_ct _ _ _ _ _ _ _ _).mono ?_
    rintro e W5 ⟨rfl, hb5⟩
    replace hS := As.on hb5 hS HZ
    clear hb5
    obtain ⟨d, Hd⟩ : ∃ v, v = easeV kind c0 c1 c2 c3 n 1000 := ⟨_, rfl⟩
    obtain ⟨de, Hde⟩ : ∃ v, v = easeE kind c0 c1 c2 c3 n 1000 := ⟨_, rfl⟩
    rw [← Hd, ← Hde]
    replace Hd := Lib.hid Hd
    replace Hde := Lib.hid Hde
    have hfin := As.fin HB.out hS (by omega)
    clear hS hc HZ HB
    by_cases ga : ae = 0
    · by_cases gb : be = 0
      · obtain ⟨r1, r2, r3⟩ := easeE_ok.1 (Hae.out.symm.trans ga)
        obtain ⟨_, q2, q3⟩ := easeE_ok.1 (Hbe.out.symm.trans gb)
        have R := easingB_right r1
        have ea : a = easedI kind c0 c1 c2 c3 n s := by rw [Ha.out]; simp [easeV, r1, inB, r2, r3]
        have eb : b = easedI kind c0 c1 c2 c3 n t := by rw [Hb.out]; simp [easeV, r1, inB, q2, q3]
        have ec : c = 0 := by rw [Hc.out]; simp [easeV, r1, inB, easedI_zero]
        have ed : d = 1000 := by rw [Hd.out]; simp [easeV, r1, inB, easedI_all R]
        have ece : ce = 0 := by rw [Hce.out]; exact easeE_ok.2 ⟨r1, by decide, by decide⟩
        have ede : de = 0 := by rw [Hde.out]; exact easeE_ok.2 ⟨r1, by decide, by decide⟩
        have f1 : a ≤ b := by rw [ea, eb]; exact easedI_mono R (by omega) q3
        have f2 : 0 ≤ a := by rw [ea]; exact (easedI_range R r2 r3).1
        have f3 : b ≤ 1000 := by rw [eb]; exact (easedI_range R q2 q3).2
        clear ea eb Ha Hb Hc Hd Hae Hbe Hce Hde
        subst ga gb ec ed ece ede
        go_wp2
        go_ret
        exact ⟨rfl, hfin⟩
      · clear Ha Hb Hc Hd Hae Hbe Hce Hde
        subst ga
        have gb' : (be != 0) = true := by simp [gb]
        go_wp2
        go_ret
        exact ⟨rfl, hfin⟩
    · clear Ha Hb Hc Hd Hae Hbe Hce Hde
      have ga' : (ae != 0) = true := by simp [ga]
      go_wp2
      go_ret
      exact ⟨rfl, hfin⟩

set_option maxRecDepth 100000 in
theorem lifted (os : Os) (started : os.Started) (H : Type) (enc : TypeId × Value → H) :
    ReturnsInHanded {} Try.checked os 4 .any (Rows.animRisesSpec.pre6 enc Try.prog Try.f4 Rows.animRisesRow.domain false) (Rows.animRisesSpec.post enc Try.prog Try.f4 false true false false) := by
  refine returnsInHanded_of_change (C := Try.checked) own started (by kernel_rfl) Try.func4
    (ChangeSpec.witness6 (enc := enc) (C := Try.checked) false ⟨#[], #[.agg #[.int .i64 0, .int .i64 0, .int .i64 0, .int .i64 0, .int .i64 0, .int .i64 0], .int .i64 0, .int .i64 0], []⟩ 8 (by kernel_rfl) (by kernel_rfl) (by kernel_rfl) (by kernel_rfl)) ?_
  intro W base args ds gs before hval0 hW _ _
  have hval : ∀ (j : Nat) t v, Try.f4.params[j]? = some t → args[j]? = some v → Value.okWide Try.prog W .any base t v := hval0
  have hW' := hW
  obtain ⟨p, q, hA0, hV, -, -, -⟩ := hW
  have hA : DataW.TrodAll enc Try.prog W 0 (fun _ => true) true Try.f4.params.toList args.toList ds p := hA0
  rw [Try.params4] at hA hval
  obtain ⟨v0, vs0, d0, ds0, p0, q0, hargs, rfl, -, h0, r0⟩ := trodAll_cons hA
  obtain ⟨v1, vs1, d1, ds1, p1, q1, rfl, rfl, -, h1, r1⟩ := trodAll_cons r0
  obtain ⟨v2, vs2, d2, ds2, p2, q2, rfl, rfl, -, h2, r2⟩ := trodAll_cons r1
  obtain ⟨rfl, rfl, -⟩ := trodAll_nil r2
  obtain rfl : args = #[v0, v1, v2] := by cases args; simp_all
  obtain ⟨rfl, -⟩ := trodVars_none hV
  obtain ⟨cs0, rfl, fuel0, t0⟩ := agg_trod Try.underlying29 (hval 0 _ _ rfl rfl) h0
  obtain ⟨k0, k1, k2, k3, k4, k5, e0⟩ := cells_ease t0
  obtain rfl : cs0 = #[.int .i64 k0, .int .i64 k1, .int .i64 k2, .int .i64 k3, .int .i64 k4, .int .i64 k5] := by cases cs0; simp_all
  obtain ⟨s, rfl, -, -, -⟩ := open_int Try.underlying3 (hval 1 _ _ rfl rfl) h1
  obtain ⟨t, rfl, -, -, -⟩ := open_int Try.underlying3 (hval 2 _ _ rfl rfl) h2
  exact (rises_ct k0 k1 k2 k3 k4 k5 s t W).mono fun e W' ⟨he, bel⟩ => ⟨_, he, law_post laidOut rfl Try.underlying4 rfl (by intro t ht; rw [Try.params4] at ht; revert t; decide +kernel) rfl hW' bel⟩

theorem proved : Rows.AnimRisesSaid :=
  OpenClaim.holds_of_wide 4 Try.f4 rfl rfl rfl rfl rfl rfl rfl ⟨rfl, rfl, rfl, rfl, rfl⟩ rfl rfl rfl rfl rfl (by kernel_rfl) Try.func4 (by kernel_rfl)
    (of_decide_eq_true (by kernel_rfl)) (by unfold Func.isWrapper; first | (rw [if_pos (by decide +kernel)]; kernel_rfl) | (rw [if_neg (by decide +kernel)]; exact ⟨rfl, rfl⟩))
    (fun os started H enc _ => lifted os started H enc)

end Go.Proofs.Ytchmpdibbklpfaa.anim
