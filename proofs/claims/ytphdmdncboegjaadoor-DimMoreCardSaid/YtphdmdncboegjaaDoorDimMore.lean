/- DimMore: for every two numbers, each unit's number and each scale the call returns true, and all that was there reads as before. The package-level variables that its row lists start as the program's text lays them (the card ties them). -/
import Derived.Test.YtphdmdncboegjaaDoorDimM0
import Derived.Test.YtphdmdncboegjaaDoorDimM1
import Derived.Test.YtphdmdncboegjaaDoorDimM2
import Derived.Test.YtphdmdncboegjaaDoorDimM3
import Derived.Test.YtphdmdncboegjaaDoorDimM4
import Derived.Test.YtphdmdncboegjaaDoorDoor
import Derived.Test.YtphdmdncboegjaaDoorTie
import Derived.Test.YtphdmdncboegjaaDoorCards
namespace Go.Proofs.YtphdmdncboegjaaDoor.dim.more
open Go.RowKit Go.Proofs.YtphdmdncboegjaaDoor.base Go.Proofs.YtphdmdncboegjaaDoor.tok Go.Proofs.YtphdmdncboegjaaDoor.dim Go.ChangeShapes Go.WideShapes Go.ChangeAt
set_option linter.unusedVariables false

theorem law_ct (a b u em rem vw vh : Int) (w : World) (hm : MaxL w) (hU : UnitsAt w) :
    Calls Tryd.prog 6 #[.int .i64 a, .int .i64 b, .int .i64 u, .agg #[.int .i64 em, .int .i64 rem, .int .i64 vw, .int .i64 vh]] w fun e w' => e = .returned (.bool true) ∧ Below w.heap.size w w' := by
  obtain ⟨r, h5, hr⟩ := five u
  rcases Int.lt_or_le b a with hab | hab
  · match r, h5, hr with
    | 0, _, hr => exact more_px_gt a b u em rem vw vh hr hab w hm hU
    | 1, _, hr => exact more_em_gt a b u em rem vw vh hr hab w hm hU
    | 2, _, hr => exact more_rem_gt a b u em rem vw vh hr hab w hm hU
    | 3, _, hr => exact more_vw_gt a b u em rem vw vh hr hab w hm hU
    | 4, _, hr => exact more_vh_gt a b u em rem vw vh hr hab w hm hU
  · match r, h5, hr with
    | 0, _, hr => exact more_px_le a b u em rem vw vh hr hab w hm hU
    | 1, _, hr => exact more_em_le a b u em rem vw vh hr hab w hm hU
    | 2, _, hr => exact more_rem_le a b u em rem vw vh hr hab w hm hU
    | 3, _, hr => exact more_vw_le a b u em rem vw vh hr hab w hm hU
    | 4, _, hr => exact more_vh_le a b u em rem vw vh hr hab w hm hU


set_option maxRecDepth 100000 in
theorem lifted (os : Os) (started : os.Started) (H : Type) (enc : TypeId × Value → H) :
    ReturnsInHanded {} Tryd.checked os 6 .any (fun w args => (Rows.dimMoreSpec.pre enc Tryd.prog Tryd.f6 Rows.dimMoreRow.domain false w args ∧ laidMetH Tryd.prog Rows.dimMoreRow.laid w) ∧ sizedMet enc Tryd.prog Tryd.f6 (OpenSpec.ofChange Rows.dimMoreSpec) false w args)
      (Rows.dimMoreSpec.post enc Tryd.prog Tryd.f6 false true false false) := by
  refine returns_door (C := Tryd.checked) (X := fun w _ => laidMetH Tryd.prog Rows.dimMoreRow.laid w) (fun _ _ _ hh h => h.of_heap hh) ownD started (by kernel_rfl) Tryd.func6
    (ChangeSpec.witness_shaped (enc := enc) (C := Tryd.checked) (os := os) (X := fun w _ => laidMetH Tryd.prog Rows.dimMoreRow.laid w) false (World.laidAll Tryd.prog os Rows.dimMoreRow.laid) #[.int .i64 0, .int .i64 0, .int .i64 0, .agg #[.int .i64 0, .int .i64 0, .int .i64 0, .int .i64 0]] 8 (World.laidAll_os _ _ _)
      (World.shaped_of_ZipB (by kernel_rfl) (by kernel_rfl)) (by kernel_rfl) (by kernel_rfl) (by kernel_rfl)
      (by rw [MakeChecks.laidMetH_plain _ _ _ (by kernel_rfl)]; exact laidMet_laidAll _ (by kernel_rfl) (by kernel_rfl))) ?_
  intro W base args ds gs before hval0 hW _ hlaid hsh
  have hval : ∀ (j : Nat) t v, Tryd.f6.params[j]? = some t → args[j]? = some v → Value.okWide Tryd.prog W .any base t v := hval0
  have hW' := hW
  obtain ⟨p, q, hA0, hV, -, -, -⟩ := hW
  have hA : DataW.TrodAll enc Tryd.prog W 0 (fun _ => true) true Tryd.f6.params.toList args.toList ds p := hA0
  rw [Tryd.params6] at hA hval
  obtain ⟨v0, vs0, d0, ds0, p0, q0, hargs, rfl, -, h0, r0⟩ := trodAll_cons hA
  obtain ⟨v1, vs1, d1, ds1, p1, q1, rfl, rfl, -, h1, r1⟩ := trodAll_cons r0
  obtain ⟨v2, vs2, d2, ds2, p2, q2, rfl, rfl, -, h2, r2⟩ := trodAll_cons r1
  obtain ⟨v3, vs3, d3, ds3, p3, q3, rfl, rfl, -, h3, r3⟩ := trodAll_cons r2
  obtain ⟨rfl, rfl, -⟩ := trodAll_nil r3
  obtain rfl : args = #[v0, v1, v2, v3] := by cases args; simp_all
  obtain ⟨rfl, -⟩ := trodVars_none hV
  obtain ⟨a, rfl, -, -, -⟩ := open_int Tryd.underlying3 (hval 0 _ _ rfl rfl) h0
  obtain ⟨b, rfl, -, -, -⟩ := open_int Tryd.underlying3 (hval 1 _ _ rfl rfl) h1
  obtain ⟨u, rfl, -, -, -⟩ := open_int Tryd.underlying3 (hval 2 _ _ rfl rfl) h2
  obtain ⟨em, rem, vw, vh, rfl⟩ := open_scale (hval 3 _ _ rfl rfl) h3
  rw [MakeChecks.laidMetH_plain _ _ _ (by kernel_rfl)] at hlaid
  exact (law_ct a b u em rem vw vh W (maxLen_of hsh) (units_of hlaid (.tail _ (.head _)))).mono fun e W' ⟨he, bel⟩ => ⟨_, he, law_post laidOutD rfl Tryd.underlying4 rfl (by intro t ht; rw [Tryd.params6] at ht; revert t; decide +kernel) rfl hW' bel⟩

theorem holds : Rows.DimMoreSaid :=
  OpenClaim.holds_of_wide 6 Tryd.f6 rfl rfl rfl rfl rfl rfl rfl ⟨rfl, rfl, rfl, rfl, rfl⟩ rfl rfl rfl rfl rfl (by kernel_rfl) Tryd.func6 (by kernel_rfl)
    (of_decide_eq_true (by kernel_rfl)) (by unfold Func.isWrapper; first | (rw [if_pos (by decide +kernel)]; kernel_rfl) | (rw [if_neg (by decide +kernel)]; exact ⟨rfl, rfl⟩))
    (fun os started H enc _ => lifted os started H enc)

theorem proved : Rows.DimMoreCardSaid :=
  Claim7.holds_tied_plain_at .later [] Rows.dimMoreCard.laidKinds true Rows.dimMoreCard.stood.harness false holds (fun _ h => by cases h) (by kernel_rfl) (fun _ h => by cases h) dimMore_row_tie rfl ⟨rfl, rfl⟩ (by kernel_rfl) rfl
    (fun f fn hf hfn => by
      obtain rfl : f = 6 := Option.some.inj ((show Tryd.prog.funcNamed "clerestory/clerestorykeep2.DimMore" = some 6 by kernel_rfl).symm.trans hf) |>.symm
      obtain rfl : fn = Tryd.f6 := (Option.some.inj (Tryd.func6.symm.trans hfn)).symm
      exact ⟨by kernel_rfl, fun j t ht => by
        rw [Tryd.params6] at ht
        have hm : t ∈ [3, 3, 3, 33] := by simpa using Array.mem_of_getElem? ht
        have hall : ([3, 3, 3, 33].all fun u => !Tryd.prog.wantsStandIn u) = true := by kernel_rfl
        exact (show Tryd.prog.wantsStandIn t = false by simpa using List.all_eq_true.1 hall t hm)⟩)
    (by kernel_rfl)
#print axioms proved

end Go.Proofs.YtphdmdncboegjaaDoor.dim.more
