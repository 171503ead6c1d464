/- SelectJoins: for every two steps within the bound and each number the call returns true, and all that was there reads as before. The package-level variables that its row lists start as the program's text lays them (the card ties them). -/
import Derived.Lib.Hide
import Derived.Test.YtaobpkffcolobaaGreatDoorBX4
import Derived.Test.YtaobpkffcolobaaGreatDoorBJ
import Derived.Test.YtaobpkffcolobaaGreatDoorBP
import Derived.Test.YtaobpkffcolobaaGreatDoorTie
import Derived.Test.YtaobpkffcolobaaGreatDoorCards
set_option linter.unusedVariables false
set_option maxRecDepth 100000
set_option maxHeartbeats 16000000
open Go.Lib (hid)
namespace Go.Proofs.YtaobpkffcolobaaGreatDoor
namespace sel.joins
open Go.RowKit base tok sel Go.ChangeShapes Go.WideShapes Go.ChangeAt
theorem reads (os : Os) {H : Type} (enc : TypeId × Value -> H) : ∃ places, DataW.whole enc Tryz.prog ((World.laidAll Tryz.prog os Rows.selectJoinsUptoRow.laid).forCall (fun _ _ => 0) ⟨#[], #[.slice none 0 0, .slice none 0 0, .int .i64 0], []⟩).memory Tryz.f6.params.toList Rows.selectJoinsSpec.vars false #[.slice none 0 0, .slice none 0 0, .int .i64 0].toList 8 = some ([.nil, .nil, .lit (.int .i64 0)], [], places) :=
 ⟨[], by kernel_rfl⟩
theorem lifted (os : Os) (started : os.Started) (H : Type) (enc : TypeId × Value -> H) (F : Stop.Interp) :
  ReturnsInHanded {} Tryz.checked os 6 .any ((Rows.OpenSpec.upto Rows.selectJoinsSpec).preRow enc Tryz.prog Tryz.f6 Rows.selectJoinsUptoRow.domain false Rows.selectJoinsUptoRow.laid) (((Rows.OpenSpec.upto Rows.selectJoinsSpec).at F).post enc Tryz.prog Tryz.f6 false true false false) := by
 obtain ⟨places, hx⟩ := reads os enc
 refine returnsInHanded_of_row (C := Tryz.checked) (s := Rows.OpenSpec.upto Rows.selectJoinsSpec) ownD started (by kernel_rfl) Tryz.func6
  (witness_rowL (enc := enc) (C := Tryz.checked) false (World.laidAll Tryz.prog os Rows.selectJoinsUptoRow.laid) #[.slice none 0 0, .slice none 0 0, .int .i64 0] (World.laidAll_os _ _ _)
   (World.shaped_of_ZipB (by kernel_rfl) (by kernel_rfl)) (by kernel_rfl)
   (OpenSpec.preRow_of_cond 8 hx (by kernel_rfl) (fun k hk => by cases hk; kernel_rfl) (by kernel_rfl) (by rw [MakeChecks.laidMetH_plain _ _ _ (by kernel_rfl)]; exact laidMet_laidAll _ (by kernel_rfl) (by kernel_rfl)))) ?_
 intro W base args ds gs before hval0 hW _ hcond hsz hlaid hsh _
 have hk : Rows.uptoSmall H (ds ++ gs) = true := hcond _ rfl
 have hval : ∀ (j : Nat) t v, Tryz.f6.params[j]? = some t -> args[j]? = some v -> Value.okWide Tryz.prog W .any base t v := hval0
 have hW' : DataW.Whole enc Tryz.prog Tryz.f6.params.toList Rows.selectJoinsSpec.vars false W args.toList ds gs before := hW
 obtain ⟨p, q, hA0, hV, -, -, -⟩ := hW
 have hA : DataW.TrodAll enc Tryz.prog W 0 (fun _ => true) true Tryz.f6.params.toList args.toList ds p := hA0
 rw [Tryz.params6] at hA hval
 obtain ⟨v0, vs0, d0, ds0, p0, q0, hargs, rfl, -, h0, r0⟩ := trodAll_cons hA
 obtain ⟨v1, vs1, d1, ds1, p1, q1, rfl, rfl, -, h1, r1⟩ := trodAll_cons r0
 obtain ⟨v2, vs2, d2, ds2, p2, q2, rfl, rfl, -, h2, r2⟩ := trodAll_cons r1
 obtain ⟨rfl, rfl, -⟩ := trodAll_nil r2
 obtain rfl : args = #[v0, v1, v2] := by cases args; simp_all
 obtain ⟨rfl, -⟩ := trodVars_none hV
 obtain ⟨a, A0, c0, rfl, hc0, hv0, hz0⟩ := arg_step (hval 0 _ _ rfl rfl) h0
 have hu0 : Rows.uptoBulk d0 <= 1048576 := Nat.le_trans (bulk_part (by simp)) (bulk_all hk)
 obtain ⟨b, A1, c1, rfl, hc1, hv1, hz1⟩ := arg_step (hval 1 _ _ rfl rfl) h1
 have hu1 : Rows.uptoBulk d1 <= 1048576 := Nat.le_trans (bulk_part (by simp)) (bulk_all hk)
 obtain ⟨c, rfl, -, -, -⟩ := open_int Tryz.underlying3 (hval 2 _ _ rfl rfl) h2
 rw [MakeChecks.laidMetH_plain _ _ _ (by kernel_rfl)] at hlaid
 refine (law_ct a b c W (by omega) A0 c0 hc0 hv0 (by omega) A1 c1 hc1 hv1 ⟨maxLen_of hsh, err_of (by kernel_rfl) (by kernel_rfl) hlaid.tail.tail.tail.tail.tail, err_of (by kernel_rfl) (by kernel_rfl) hlaid.tail.tail.tail.tail⟩ (dim.pow_of hlaid (by simp [Rows.selectJoinsUptoRow]))).mono fun e W' ⟨he, bel⟩ => ⟨_, he, ?_⟩
 exact law_post (s := Rows.selectJoinsSpec) laidOutD rfl Tryz.underlying4 rfl (by intro t ht; rw [Tryz.params6] at ht; revert t; decide +kernel) rfl hW' bel
theorem holds : Rows.SelectJoinsUptoSaid :=
 OpenClaim.holds_of_cond 6 Tryz.f6 rfl rfl rfl rfl rfl rfl rfl ⟨rfl, rfl, rfl, rfl, rfl⟩ rfl rfl rfl rfl rfl (by kernel_rfl) Tryz.func6 (by kernel_rfl)
  (of_decide_eq_true (by kernel_rfl)) (by unfold Func.isWrapper; first | (rw [if_pos (by decide +kernel)]; kernel_rfl) | (rw [if_neg (by decide +kernel)]; exact ⟨rfl, rfl⟩))
  (fun os started H enc _ F => by rw [OpenClaim.pre_eq_preRow]; exact lifted os started H enc F)
theorem proved : Rows.SelectJoinsUptoCardSaid :=
 Claim7.holds_tied_plain_at .later [] Rows.selectJoinsUptoCard.laidKinds true Rows.selectJoinsUptoCard.stood.harness Rows.selectJoinsUptoCard.stood.looks holds (fun _ h => by cases h) (by kernel_rfl) (fun _ h => by cases h) selectJoinsUpto_row_tie rfl ⟨rfl, rfl⟩ (by kernel_rfl) rfl
  (fun f fn hf hfn => by
   obtain rfl : f = 6 := Option.some.inj ((show Tryz.prog.funcNamed "clerestory/clerestorykeep2.SelectJoins" = some 6 by kernel_rfl).symm.trans hf) |>.symm
   obtain rfl : fn = Tryz.f6 := (Option.some.inj (Tryz.func6.symm.trans hfn)).symm
   exact ⟨by kernel_rfl, fun j t ht => by
    rw [Tryz.params6] at ht
    have hm : t ∈ [27, 27, 3] := by simpa using Array.mem_of_getElem? ht
    have hall : ([27, 27, 3].all fun u => !Tryz.prog.wantsStandIn u) = true := by kernel_rfl
    exact (show Tryz.prog.wantsStandIn t = false by simpa using List.all_eq_true.1 hall t hm)⟩)
  (by kernel_rfl)
#print axioms proved
end sel.joins
end Go.Proofs.YtaobpkffcolobaaGreatDoor
