/- PropWide: for every number and each text within the bound the call returns true, and all that was there reads as before. The package-level variables that its row lists start as the program's text lays them (the card ties them). -/
import Derived.Lib.Hide
import Derived.Test.YthgffoanecknoaaGreatDoorG3
import Derived.Test.YthgffoanecknoaaGreatDoorBJ
import Derived.Test.YthgffoanecknoaaGreatDoorTie
import Derived.Test.YthgffoanecknoaaGreatDoorCards
set_option linter.unusedVariables false
set_option maxRecDepth 100000
set_option maxHeartbeats 16000000
open Go.Lib (hid)
namespace Go.Proofs.YthgffoanecknoaaGreatDoor
namespace prp.wide
open Go.RowKit base tok prp Go.ChangeShapes Go.WideShapes Go.ChangeAt
theorem reads (os : Os) {H : Type} (enc : TypeId × Value -> H) : ∃ places, DataW.whole enc Tryz.prog ((World.laidAll Tryz.prog os Rows.propWideUptoRow.laid).forCall (fun _ _ => 0) ⟨#[], #[.int .i64 0, .string .empty], []⟩).memory Tryz.f4.params.toList Rows.propWideSpec.vars false #[.int .i64 0, .string .empty].toList 8 = some ([.lit (.int .i64 0), .lit (.string [])], [], places) :=
 ⟨[], by kernel_rfl⟩
theorem lifted (os : Os) (started : os.Started) (H : Type) (enc : TypeId × Value -> H) (F : Stop.Interp) :
  ReturnsInHanded {} Tryz.checked os 4 .any ((Rows.OpenSpec.upto Rows.propWideSpec).preRow enc Tryz.prog Tryz.f4 Rows.propWideUptoRow.domain false Rows.propWideUptoRow.laid) (((Rows.OpenSpec.upto Rows.propWideSpec).at F).post enc Tryz.prog Tryz.f4 false true false false) := by
 obtain ⟨places, hx⟩ := reads os enc
 refine returnsInHanded_of_row (C := Tryz.checked) (s := Rows.OpenSpec.upto Rows.propWideSpec) ownD started (by kernel_rfl) Tryz.func4
  (witness_rowL (enc := enc) (C := Tryz.checked) false (World.laidAll Tryz.prog os Rows.propWideUptoRow.laid) #[.int .i64 0, .string .empty] (World.laidAll_os _ _ _)
   (World.shaped_of_ZipB (by kernel_rfl) (by kernel_rfl)) (by kernel_rfl)
   (OpenSpec.preRow_of_cond 8 hx (by kernel_rfl) (fun k hk => by cases hk; kernel_rfl) (by kernel_rfl) (by rw [MakeChecks.laidMetH_plain _ _ _ (by kernel_rfl)]; exact laidMet_laidAll _ (by kernel_rfl) (by kernel_rfl)))) ?_
 intro W base args ds gs before hval0 hW _ hcond hsz hlaid hsh _
 have hk : Rows.uptoSmall H (ds ++ gs) = true := hcond _ rfl
 have hval : ∀ (j : Nat) t v, Tryz.f4.params[j]? = some t -> args[j]? = some v -> Value.okWide Tryz.prog W .any base t v := hval0
 have hW' : DataW.Whole enc Tryz.prog Tryz.f4.params.toList Rows.propWideSpec.vars false W args.toList ds gs before := hW
 obtain ⟨p, q, hA0, hV, -, -, -⟩ := hW
 have hA : DataW.TrodAll enc Tryz.prog W 0 (fun _ => true) true Tryz.f4.params.toList args.toList ds p := hA0
 rw [Tryz.params4] at hA hval
 obtain ⟨v0, vs0, d0, ds0, p0, q0, hargs, rfl, -, h0, r0⟩ := trodAll_cons hA
 obtain ⟨v1, vs1, d1, ds1, p1, q1, rfl, rfl, -, h1, r1⟩ := trodAll_cons r0
 obtain ⟨rfl, rfl, -⟩ := trodAll_nil r1
 obtain rfl : args = #[v0, v1] := by cases args; simp_all
 obtain ⟨rfl, -⟩ := trodVars_none hV
 obtain ⟨a, rfl, -, -, -⟩ := open_int Tryz.underlying3 (hval 0 _ _ rfl rfl) h0
 obtain ⟨b, rfl, hd1, -, hs1⟩ := Go.ChangeMaps.open_string Tryz.underlying9 (hval 1 _ _ rfl rfl) h1
 have hu1 : b.size <= 1048576 := upto_string hk (by rw [hd1]; simp)
 rw [MakeChecks.laidMetH_plain _ _ _ (by kernel_rfl)] at hlaid
 refine (law_ct a b W hu1 (maxLen_of hsh) (dim.pow_of hlaid (by simp [Rows.propWideUptoRow])) ⟨sel.err_of (by kernel_rfl) (by kernel_rfl) hlaid.tail.tail.tail.tail.tail, sel.err_of (by kernel_rfl) (by kernel_rfl) hlaid.tail.tail.tail.tail⟩).mono fun e W' ⟨he, bel⟩ => ⟨_, he, ?_⟩
 exact law_post (s := Rows.propWideSpec) laidOutD rfl Tryz.underlying4 rfl (by intro t ht; rw [Tryz.params4] at ht; revert t; decide +kernel) rfl hW' bel
theorem holds : Rows.PropWideUptoSaid :=
 OpenClaim.holds_of_cond 4 Tryz.f4 rfl rfl rfl rfl rfl rfl rfl ⟨rfl, rfl, rfl, rfl, rfl⟩ rfl rfl rfl rfl rfl (by kernel_rfl) Tryz.func4 (by kernel_rfl)
  (of_decide_eq_true (by kernel_rfl)) (by unfold Func.isWrapper; first | (rw [if_pos (by decide +kernel)]; kernel_rfl) | (rw [if_neg (by decide +kernel)]; exact ⟨rfl, rfl⟩))
  (fun os started H enc _ F => by rw [OpenClaim.pre_eq_preRow]; exact lifted os started H enc F)
theorem proved : Rows.PropWideUptoCardSaid :=
 Claim7.holds_tied_plain_at .later [] Rows.propWideUptoCard.laidKinds true Rows.propWideUptoCard.stood.harness Rows.propWideUptoCard.stood.looks holds (fun _ h => by cases h) (by kernel_rfl) (fun _ h => by cases h) propWideUpto_row_tie rfl ⟨rfl, rfl⟩ (by kernel_rfl) rfl
  (fun f fn hf hfn => by
   obtain rfl : f = 4 := Option.some.inj ((show Tryz.prog.funcNamed "clerestory/clerestorykeep2.PropWide" = some 4 by kernel_rfl).symm.trans hf) |>.symm
   obtain rfl : fn = Tryz.f4 := (Option.some.inj (Tryz.func4.symm.trans hfn)).symm
   exact ⟨by kernel_rfl, fun j t ht => by
    rw [Tryz.params4] at ht
    have hm : t ∈ [3, 9] := by simpa using Array.mem_of_getElem? ht
    have hall : ([3, 9].all fun u => !Tryz.prog.wantsStandIn u) = true := by kernel_rfl
    exact (show Tryz.prog.wantsStandIn t = false by simpa using List.all_eq_true.1 hall t hm)⟩)
  (by kernel_rfl)
#print axioms proved
end prp.wide
end Go.Proofs.YthgffoanecknoaaGreatDoor
