/- CountMore: for every document, all styles, each number and each text the call returns true, and all that was there reads as before. The package-level variables that its row lists start as the program's text lays them (the card ties them). -/
import Derived.Lib.Hide
import Derived.Test.YthgffoanecknoaaGreatDoorJ8
import Derived.Test.YthgffoanecknoaaGreatDoorH3
import Derived.Test.YthgffoanecknoaaGreatDoorI7
import Derived.Test.YthgffoanecknoaaGreatDoorJ5
import Derived.Test.YthgffoanecknoaaGreatDoorBJ
import Derived.Test.YthgffoanecknoaaGreatDoorTie
import Derived.Test.YthgffoanecknoaaGreatDoorCards
set_option linter.unusedVariables false
set_option maxRecDepth 100000
set_option maxHeartbeats 16000000
open Go.Lib (hid)
namespace Go.Proofs.YthgffoanecknoaaGreatDoor
namespace cnt.more
open Go.RowKit base tok doc cnt Go.ChangeShapes Go.WideShapes Go.ChangeAt
theorem lifted (os : Os) (started : os.Started) (H : Type) (enc : TypeId × Value -> H) :
  ReturnsInHanded {} Tryz.checked os 5 .any (fun w args => (Rows.countMoreSpec.pre enc Tryz.prog Tryz.f5 Rows.countMoreRow.domain false w args /\ laidMetH Tryz.prog Rows.countMoreRow.laid w) /\ sizedMet enc Tryz.prog Tryz.f5 (OpenSpec.ofChange Rows.countMoreSpec) false w args)
   (Rows.countMoreSpec.post enc Tryz.prog Tryz.f5 false true false false) := by
 refine returns_door (C := Tryz.checked) (X := fun w _ => laidMetH Tryz.prog Rows.countMoreRow.laid w) (fun _ _ _ hh h => h.of_heap hh) ownD started (by kernel_rfl) Tryz.func5
  (ChangeSpec.witness_shaped (enc := enc) (C := Tryz.checked) (os := os) (X := fun w _ => laidMetH Tryz.prog Rows.countMoreRow.laid w) false (World.laidAll Tryz.prog os Rows.countMoreRow.laid) #[.agg #[.slice none 0 0, .bool false], .slice none 0 0, .int .i64 0, .string .empty] 8 (World.laidAll_os _ _ _)
   (World.shaped_of_ZipB (by kernel_rfl) (by kernel_rfl)) (by kernel_rfl) (by kernel_rfl) (by kernel_rfl)
   (by rw [MakeChecks.laidMetH_plain _ _ _ (by kernel_rfl)]; exact laidMet_laidAll _ (by kernel_rfl) (by kernel_rfl))) ?_
 intro W base args ds gs before hval0 hW hsz hlaid hsh
 have hval : ∀ (j : Nat) t v, Tryz.f5.params[j]? = some t -> args[j]? = some v -> Value.okWide Tryz.prog W .any base t v := hval0
 have hW' := hW
 obtain ⟨p, q, hA0, hV, -, -, -⟩ := hW
 have hA : DataW.TrodAll enc Tryz.prog W 0 (fun _ => true) true Tryz.f5.params.toList args.toList ds p := hA0
 rw [Tryz.params5] at hA hval
 obtain ⟨v0, vs0, d0, ds0, p0, q0, hargs, rfl, -, h0, r0⟩ := trodAll_cons hA
 obtain ⟨v1, vs1, d1, ds1, p1, q1, rfl, rfl, -, h1, r1⟩ := trodAll_cons r0
 obtain ⟨v2, vs2, d2, ds2, p2, q2, rfl, rfl, -, h2, r2⟩ := trodAll_cons r1
 obtain ⟨v3, vs3, d3, ds3, p3, q3, rfl, rfl, -, h3, r3⟩ := trodAll_cons r2
 obtain ⟨rfl, rfl, -⟩ := trodAll_nil r3
 obtain rfl : args = #[v0, v1, v2, v3] := by cases args; simp_all
 obtain ⟨rfl, -⟩ := trodVars_none hV
 obtain ⟨D, A0, c0, f0, rfl, hD0⟩ := arg_doc (hval 0 _ _ rfl rfl) h0
 obtain ⟨L, A1, c1, rfl, hL1⟩ := arg_stys (hval 1 _ _ rfl rfl) h1
 obtain ⟨c, rfl, -, -, -⟩ := open_int Tryz.underlying3 (hval 2 _ _ rfl rfl) h2
 obtain ⟨d, rfl, -, -, hs3⟩ := Go.ChangeMaps.open_string Tryz.underlying9 (hval 3 _ _ rfl rfl) h3
 rw [MakeChecks.laidMetH_plain _ _ _ (by kernel_rfl)] at hlaid
 exact (law_ct D L A0 A1 c0 c1 f0 c d hs3 W hD0 hL1 (maxLen_of hsh) ⟨dim.pow_of hlaid (by simp [Rows.countMoreRow]), err_of (by kernel_rfl) (by kernel_rfl) hlaid.tail.tail.tail.tail.tail, err_of (by kernel_rfl) (by kernel_rfl) hlaid.tail.tail.tail.tail, case_of hlaid (by simp [Rows.countMoreRow]), u8_of hlaid (by simp [Rows.countMoreRow]) (by simp [Rows.countMoreRow])⟩ (init_laid hlaid (by simp [Rows.countMoreRow]))).mono fun e W' ⟨he, bel⟩ => ⟨_, he, law_post laidOutD rfl Tryz.underlying4 rfl (by intro t ht; rw [Tryz.params5] at ht; revert t; decide +kernel) rfl hW' bel⟩
theorem holds : Rows.CountMoreSaid :=
 OpenClaim.holds_of_wide 5 Tryz.f5 rfl rfl rfl rfl rfl rfl rfl ⟨rfl, rfl, rfl, rfl, rfl⟩ rfl rfl rfl rfl rfl (by kernel_rfl) Tryz.func5 (by kernel_rfl)
  (of_decide_eq_true (by kernel_rfl)) (by unfold Func.isWrapper; first | (rw [if_pos (by decide +kernel)]; kernel_rfl) | (rw [if_neg (by decide +kernel)]; exact ⟨rfl, rfl⟩))
  (fun os started H enc _ => lifted os started H enc)
theorem proved : Rows.CountMoreCardSaid :=
 Claim7.holds_tied_plain_at .later [] Rows.countMoreCard.laidKinds true Rows.countMoreCard.stood.harness Rows.countMoreCard.stood.looks holds (fun _ h => by cases h) (by kernel_rfl) (fun _ h => by cases h) countMore_row_tie rfl ⟨rfl, rfl⟩ (by kernel_rfl) rfl
  (fun f fn hf hfn => by
   obtain rfl : f = 5 := Option.some.inj ((show Tryz.prog.funcNamed "clerestory/clerestorykeep2.CountMore" = some 5 by kernel_rfl).symm.trans hf) |>.symm
   obtain rfl : fn = Tryz.f5 := (Option.some.inj (Tryz.func5.symm.trans hfn)).symm
   exact ⟨by kernel_rfl, fun j t ht => by
    rw [Tryz.params5] at ht
    have hm : t ∈ [24, 25, 3, 9] := by simpa using Array.mem_of_getElem? ht
    have hall : ([24, 25, 3, 9].all fun u => !Tryz.prog.wantsStandIn u) = true := by kernel_rfl
    exact (show Tryz.prog.wantsStandIn t = false by simpa using List.all_eq_true.1 hall t hm)⟩)
  (by kernel_rfl)
#print axioms proved
end cnt.more
end Go.Proofs.YthgffoanecknoaaGreatDoor
