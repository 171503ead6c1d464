/- SelectAgain: for every text the call returns true, and all that was there reads as before. The package-level variables that its row lists start as the program's text lays them (the card ties them). -/
import Derived.Lib.Hide
import Derived.Test.YtaobpkffcolobaaGreatDoorBO
import Derived.Test.YtaobpkffcolobaaGreatDoorBJ
import Derived.Test.YtaobpkffcolobaaGreatDoorTie
import Derived.Test.YtaobpkffcolobaaGreatDoorCards
set_option linter.unusedVariables false
set_option maxRecDepth 100000
set_option maxHeartbeats 16000000
open Go.Lib (hid)
namespace Go.Proofs.YtaobpkffcolobaaGreatDoor
namespace sel.again
open Go.RowKit base tok sel Go.ChangeShapes Go.WideShapes Go.ChangeAt
theorem lifted (os : Os) (started : os.Started) (H : Type) (enc : TypeId × Value -> H) :
  ReturnsInHanded {} Tryz.checked os 5 .any (fun w args => (Rows.selectAgainSpec.pre enc Tryz.prog Tryz.f5 Rows.selectAgainRow.domain false w args /\ laidMetH Tryz.prog Rows.selectAgainRow.laid w) /\ sizedMet enc Tryz.prog Tryz.f5 (OpenSpec.ofChange Rows.selectAgainSpec) false w args)
   (Rows.selectAgainSpec.post enc Tryz.prog Tryz.f5 false true false false) := by
 refine returns_door (C := Tryz.checked) (X := fun w _ => laidMetH Tryz.prog Rows.selectAgainRow.laid w) (fun _ _ _ hh h => h.of_heap hh) ownD started (by kernel_rfl) Tryz.func5
  (ChangeSpec.witness_shaped (enc := enc) (C := Tryz.checked) (os := os) (X := fun w _ => laidMetH Tryz.prog Rows.selectAgainRow.laid w) false (World.laidAll Tryz.prog os Rows.selectAgainRow.laid) #[.string .empty] 8 (World.laidAll_os _ _ _)
   (World.shaped_of_ZipB (by kernel_rfl) (by kernel_rfl)) (by kernel_rfl) (by kernel_rfl) (by kernel_rfl)
   (by rw [MakeChecks.laidMetH_plain _ _ _ (by kernel_rfl)]; exact laidMet_laidAll _ (by kernel_rfl) (by kernel_rfl))) ?_
 intro W base args ds gs before hval0 hW hsz hlaid hsh
 have hval : ∀ (j : Nat) t v, Tryz.f5.params[j]? = some t -> args[j]? = some v -> Value.okWide Tryz.prog W .any base t v := hval0
 have hW' := hW
 obtain ⟨p, q, hA0, hV, -, -, -⟩ := hW
 have hA : DataW.TrodAll enc Tryz.prog W 0 (fun _ => true) true Tryz.f5.params.toList args.toList ds p := hA0
 rw [Tryz.params5] at hA hval
 obtain ⟨v0, vs0, d0, ds0, p0, q0, hargs, rfl, -, h0, r0⟩ := trodAll_cons hA
 obtain ⟨rfl, rfl, -⟩ := trodAll_nil r0
 obtain rfl : args = #[v0] := by cases args; simp_all
 obtain ⟨rfl, -⟩ := trodVars_none hV
 obtain ⟨a, rfl, -, -, hs0⟩ := Go.ChangeMaps.open_string Tryz.underlying9 (hval 0 _ _ rfl rfl) h0
 rw [MakeChecks.laidMetH_plain _ _ _ (by kernel_rfl)] at hlaid
 exact (law_ct a W hs0 ⟨maxLen_of hsh, err_of (by kernel_rfl) (by kernel_rfl) hlaid.tail.tail.tail.tail.tail, err_of (by kernel_rfl) (by kernel_rfl) hlaid.tail.tail.tail.tail⟩ (dim.pow_of hlaid (by simp [Rows.selectAgainRow]))).mono fun e W' ⟨he, bel⟩ => ⟨_, he, law_post laidOutD rfl Tryz.underlying4 rfl (by intro t ht; rw [Tryz.params5] at ht; revert t; decide +kernel) rfl hW' bel⟩
theorem holds : Rows.SelectAgainSaid :=
 OpenClaim.holds_of_wide 5 Tryz.f5 rfl rfl rfl rfl rfl rfl rfl ⟨rfl, rfl, rfl, rfl, rfl⟩ rfl rfl rfl rfl rfl (by kernel_rfl) Tryz.func5 (by kernel_rfl)
  (of_decide_eq_true (by kernel_rfl)) (by unfold Func.isWrapper; first | (rw [if_pos (by decide +kernel)]; kernel_rfl) | (rw [if_neg (by decide +kernel)]; exact ⟨rfl, rfl⟩))
  (fun os started H enc _ => lifted os started H enc)
theorem proved : Rows.SelectAgainCardSaid :=
 Claim7.holds_tied_plain_at .later [] Rows.selectAgainCard.laidKinds true Rows.selectAgainCard.stood.harness Rows.selectAgainCard.stood.looks holds (fun _ h => by cases h) (by kernel_rfl) (fun _ h => by cases h) selectAgain_row_tie rfl ⟨rfl, rfl⟩ (by kernel_rfl) rfl
  (fun f fn hf hfn => by
   obtain rfl : f = 5 := Option.some.inj ((show Tryz.prog.funcNamed "clerestory/clerestorykeep2.SelectAgain" = some 5 by kernel_rfl).symm.trans hf) |>.symm
   obtain rfl : fn = Tryz.f5 := (Option.some.inj (Tryz.func5.symm.trans hfn)).symm
   exact ⟨by kernel_rfl, fun j t ht => by
    rw [Tryz.params5] at ht
    have hm : t ∈ [9] := by simpa using Array.mem_of_getElem? ht
    have hall : ([9].all fun u => !Tryz.prog.wantsStandIn u) = true := by kernel_rfl
    exact (show Tryz.prog.wantsStandIn t = false by simpa using List.all_eq_true.1 hall t hm)⟩)
  (by kernel_rfl)
#print axioms proved
end sel.again
end Go.Proofs.YtaobpkffcolobaaGreatDoor
