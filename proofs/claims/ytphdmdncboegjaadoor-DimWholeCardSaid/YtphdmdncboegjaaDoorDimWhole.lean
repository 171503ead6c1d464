/- DimWhole: for every number and each scale the call returns true, and all that was there reads as before. The package-level variables that its row lists start as the program's text lays them (the card ties them). -/
import Derived.Test.YtphdmdncboegjaaDoorDimOpen
import Derived.Test.YtphdmdncboegjaaDoorDoor
import Derived.Test.YtphdmdncboegjaaDoorTie
import Derived.Test.YtphdmdncboegjaaDoorCards
namespace Go.Proofs.YtphdmdncboegjaaDoor.dim.whole
open Go.RowKit Go.Proofs.YtphdmdncboegjaaDoor.base Go.Proofs.YtphdmdncboegjaaDoor.tok Go.Proofs.YtphdmdncboegjaaDoor.dim Go.ChangeShapes Go.WideShapes Go.ChangeAt
set_option linter.unusedVariables false

set_option maxRecDepth 100000 in
set_option maxHeartbeats 4000000 in
theorem law_ct (n em rem vw vh : Int) (w : World) (hm : MaxL w) (hU : UnitsAt w) :
    Calls Tryd.prog 7 #[.int .i64 n, .agg #[.int .i64 em, .int .i64 rem, .int .i64 vw, .int .i64 vh]] w fun e w' => e = .returned (.bool true) ∧ Below w.heap.size w w' := by
  have t1 := Int.tmod_lt_of_pos n (show (0 : Int) < 200000 by decide)
  have t2 := Int.lt_tmod_of_pos n (show (0 : Int) < 200000 by decide)
  have q0 := IntWalk.i64_in (n.tmod 200000) (by omega)
  generalize hp : n.tmod 200000 = p at *
  have q1 := IntWalk.i64_in (1000 * p) (by omega)
  have q2 := IntWalk.i64_in (64 * p) (by omega)
  have k2 : okP 1000 em rem vw vh = okP (1000 * p) em rem vw vh := by
    unfold okP
    rw [(inB_iff 1000 (-1000000000) 1000000000).2 (by omega), (inB_iff (1000 * p) (-1000000000) 1000000000).2 (by omega)]
  have k3 : okP 100000 em rem vw vh = okP (1000 * p) em rem vw vh := by
    unfold okP
    rw [(inB_iff 100000 (-1000000000) 1000000000).2 (by omega), (inB_iff (1000 * p) (-1000000000) 1000000000).2 (by omega)]
  cases k1 : okP (1000 * p) em rem vw vh
  · rw [k1] at k2 k3
    have cX := Lib.hid (fun w => px_bad ⟨#[112, 120]⟩ (1000 * p) em rem vw vh k1 w)
    have cY := Lib.hid (fun w => px_bad ⟨#[101, 109]⟩ 1000 em rem vw vh k2 w)
    have cZ := Lib.hid (fun w => px_bad ⟨#[118, 119]⟩ 100000 em rem vw vh k3 w)
    unfold refusedT at cX cY cZ
    clear k1 k2 k3 t1 t2
    go_enter Tryd.func7, Tryd.ntmps7
    go_wp2_with ((go_at_call 20; (with_reducible refine (half_ct _ (hm.on ((Below.refl w.heap.size w).alloc (Nat.le_refl _) _) hm.lt) (hU.on ((Below.refl w.heap.size w).alloc (Nat.le_refl _) _))).mono ?_); rintro e W1 ⟨rfl, hb1⟩; have HB1 := Lib.hid (((Below.refl w.heap.size w).alloc (Nat.le_refl _) _).trans (hb1.mono (by simp))); have hblk := (Blk.new (w := w) (t := 33) (cs := #[.int .i64 em, .int .i64 rem, .int .i64 vw, .int .i64 vh]) rfl).below hb1 (by simp); have p1 := hblk.cell; replace hblk := Lib.hid hblk; clear hb1))
    go_wp2_with ((go_at_call 21; (with_reducible refine (cX.out _).mono ?_); rintro e W2 ⟨rfl, hb2⟩; have HB2 := Lib.hid (HB1.out.trans (hb2.mono HB1.out.size)); have hblk2 := hblk.out.below hb2 hblk.out.lt; have p2 := hblk2.cell; replace hblk2 := Lib.hid hblk2; clear hb2))
    go_wp2_with ((go_at_call 21; (with_reducible refine (cY.out _).mono ?_); rintro e W3 ⟨rfl, hb3⟩; have HB3 := Lib.hid (HB2.out.trans (hb3.mono HB2.out.size)); have hblk3 := hblk2.out.below hb3 hblk2.out.lt; have p3 := hblk3.cell; replace hblk3 := Lib.hid hblk3; clear hb3))
    go_wp2_with ((go_at_call 21; (with_reducible refine (cZ.out _).mono ?_); rintro e W4 ⟨rfl, hb4⟩; have HB4 := Lib.hid (HB3.out.trans (hb4.mono HB3.out.size)); have hblk4 := hblk3.out.below hb4 hblk3.out.lt; have p4 := hblk4.cell; clear hb4))
    go_ret
    exact ⟨rfl, HB4.out⟩
  · rw [k1] at k2 k3
    have hb := okP_of k1
    simp only [inB_iff] at hb
    have e1 : clipI (1000 * p * 64 / 1000) = 64 * p := by unfold clipI; omega
    have e2 : clipI (1000 * em / 1000) = em := by unfold clipI; omega
    have e3 : clipI (100000 * (64 * vw) / 100000) = 64 * vw := by unfold clipI; omega
    have q3 := IntWalk.i64_in (64 * vw) (by omega)
    have cX := Lib.hid (fun w => e1 ▸ px_px (1000 * p) em rem vw vh k1 w)
    have cY := Lib.hid (fun w => e2 ▸ px_em 1000 em rem vw vh k2 w)
    have cZ := Lib.hid (fun w => e3 ▸ px_vw 100000 em rem vw vh k3 w)
    clear k1 k2 k3 t1 t2 hb e1 e2 e3
    go_enter Tryd.func7, Tryd.ntmps7
    go_wp2_with ((go_at_call 20; (with_reducible refine (half_ct _ (hm.on ((Below.refl w.heap.size w).alloc (Nat.le_refl _) _) hm.lt) (hU.on ((Below.refl w.heap.size w).alloc (Nat.le_refl _) _))).mono ?_); rintro e W1 ⟨rfl, hb1⟩; have HB1 := Lib.hid (((Below.refl w.heap.size w).alloc (Nat.le_refl _) _).trans (hb1.mono (by simp))); have hblk := (Blk.new (w := w) (t := 33) (cs := #[.int .i64 em, .int .i64 rem, .int .i64 vw, .int .i64 vh]) rfl).below hb1 (by simp); have p1 := hblk.cell; replace hblk := Lib.hid hblk; clear hb1))
    go_wp2_with ((go_at_call 21; (with_reducible refine (cX.out _).mono ?_); rintro e W2 ⟨rfl, hb2⟩; have HB2 := Lib.hid (HB1.out.trans (hb2.mono HB1.out.size)); have hblk2 := hblk.out.below hb2 hblk.out.lt; have p2 := hblk2.cell; replace hblk2 := Lib.hid hblk2; clear hb2))
    go_wp2_with ((go_at_call 21; (with_reducible refine (cY.out _).mono ?_); rintro e W3 ⟨rfl, hb3⟩; have HB3 := Lib.hid (HB2.out.trans (hb3.mono HB2.out.size)); have hblk3 := hblk2.out.below hb3 hblk2.out.lt; have p3 := hblk3.cell; replace hblk3 := Lib.hid hblk3; clear hb3))
    go_wp2_with ((go_at_call 21; (with_reducible refine (cZ.out _).mono ?_); rintro e W4 ⟨rfl, hb4⟩; have HB4 := Lib.hid (HB3.out.trans (hb4.mono HB3.out.size)); have hblk4 := hblk3.out.below hb4 hblk3.out.lt; have p4 := hblk4.cell; clear hb4))
    go_ret
    exact ⟨rfl, HB4.out⟩


set_option maxRecDepth 100000 in
theorem lifted (os : Os) (started : os.Started) (H : Type) (enc : TypeId × Value → H) :
    ReturnsInHanded {} Tryd.checked os 7 .any (fun w args => (Rows.dimWholeSpec.pre enc Tryd.prog Tryd.f7 Rows.dimWholeRow.domain false w args ∧ laidMetH Tryd.prog Rows.dimWholeRow.laid w) ∧ sizedMet enc Tryd.prog Tryd.f7 (OpenSpec.ofChange Rows.dimWholeSpec) false w args)
      (Rows.dimWholeSpec.post enc Tryd.prog Tryd.f7 false true false false) := by
  refine returns_door (C := Tryd.checked) (X := fun w _ => laidMetH Tryd.prog Rows.dimWholeRow.laid w) (fun _ _ _ hh h => h.of_heap hh) ownD started (by kernel_rfl) Tryd.func7
    (ChangeSpec.witness_shaped (enc := enc) (C := Tryd.checked) (os := os) (X := fun w _ => laidMetH Tryd.prog Rows.dimWholeRow.laid w) false (World.laidAll Tryd.prog os Rows.dimWholeRow.laid) #[.int .i64 0, .agg #[.int .i64 0, .int .i64 0, .int .i64 0, .int .i64 0]] 8 (World.laidAll_os _ _ _)
      (World.shaped_of_ZipB (by kernel_rfl) (by kernel_rfl)) (by kernel_rfl) (by kernel_rfl) (by kernel_rfl)
      (by rw [MakeChecks.laidMetH_plain _ _ _ (by kernel_rfl)]; exact laidMet_laidAll _ (by kernel_rfl) (by kernel_rfl))) ?_
  intro W base args ds gs before hval0 hW _ hlaid hsh
  have hval : ∀ (j : Nat) t v, Tryd.f7.params[j]? = some t → args[j]? = some v → Value.okWide Tryd.prog W .any base t v := hval0
  have hW' := hW
  obtain ⟨p, q, hA0, hV, -, -, -⟩ := hW
  have hA : DataW.TrodAll enc Tryd.prog W 0 (fun _ => true) true Tryd.f7.params.toList args.toList ds p := hA0
  rw [Tryd.params7] at hA hval
  obtain ⟨v0, vs0, d0, ds0, p0, q0, hargs, rfl, -, h0, r0⟩ := trodAll_cons hA
  obtain ⟨v1, vs1, d1, ds1, p1, q1, rfl, rfl, -, h1, r1⟩ := trodAll_cons r0
  obtain ⟨rfl, rfl, -⟩ := trodAll_nil r1
  obtain rfl : args = #[v0, v1] := by cases args; simp_all
  obtain ⟨rfl, -⟩ := trodVars_none hV
  obtain ⟨n, rfl, -, -, -⟩ := open_int Tryd.underlying3 (hval 0 _ _ rfl rfl) h0
  obtain ⟨em, rem, vw, vh, rfl⟩ := open_scale (hval 1 _ _ rfl rfl) h1
  rw [MakeChecks.laidMetH_plain _ _ _ (by kernel_rfl)] at hlaid
  exact (law_ct n em rem vw vh W (maxLen_of hsh) (units_of hlaid (.tail _ (.head _)))).mono fun e W' ⟨he, bel⟩ => ⟨_, he, law_post laidOutD rfl Tryd.underlying4 rfl (by intro t ht; rw [Tryd.params7] at ht; revert t; decide +kernel) rfl hW' bel⟩

theorem holds : Rows.DimWholeSaid :=
  OpenClaim.holds_of_wide 7 Tryd.f7 rfl rfl rfl rfl rfl rfl rfl ⟨rfl, rfl, rfl, rfl, rfl⟩ rfl rfl rfl rfl rfl (by kernel_rfl) Tryd.func7 (by kernel_rfl)
    (of_decide_eq_true (by kernel_rfl)) (by unfold Func.isWrapper; first | (rw [if_pos (by decide +kernel)]; kernel_rfl) | (rw [if_neg (by decide +kernel)]; exact ⟨rfl, rfl⟩))
    (fun os started H enc _ => lifted os started H enc)

theorem proved : Rows.DimWholeCardSaid :=
  Claim7.holds_tied_plain_at .later [] Rows.dimWholeCard.laidKinds true Rows.dimWholeCard.stood.harness false holds (fun _ h => by cases h) (by kernel_rfl) (fun _ h => by cases h) dimWhole_row_tie rfl ⟨rfl, rfl⟩ (by kernel_rfl) rfl
    (fun f fn hf hfn => by
      obtain rfl : f = 7 := Option.some.inj ((show Tryd.prog.funcNamed "clerestory/clerestorykeep2.DimWhole" = some 7 by kernel_rfl).symm.trans hf) |>.symm
      obtain rfl : fn = Tryd.f7 := (Option.some.inj (Tryd.func7.symm.trans hfn)).symm
      exact ⟨by kernel_rfl, fun j t ht => by
        rw [Tryd.params7] at ht
        have hm : t ∈ [3, 33] := by simpa using Array.mem_of_getElem? ht
        have hall : ([3, 33].all fun u => !Tryd.prog.wantsStandIn u) = true := by kernel_rfl
        exact (show Tryd.prog.wantsStandIn t = false by simpa using List.all_eq_true.1 hall t hm)⟩)
    (by kernel_rfl)
#print axioms proved

end Go.Proofs.YtphdmdncboegjaaDoor.dim.whole
