/- PropSides: for every five numbers the call returns true, and all that was there reads as before. The package-level variables that its row lists start as the program's text lays them (the card ties them). -/
import Derived.Lib.Hide
import Derived.Test.YtlfkkaofgcongaaGreatDoorCB
import Derived.Test.YtlfkkaofgcongaaGreatDoorBJ
import Derived.Test.YtlfkkaofgcongaaGreatDoorTie
import Derived.Test.YtlfkkaofgcongaaGreatDoorCards
set_option linter.unusedVariables false
set_option maxRecDepth 100000
set_option maxHeartbeats 16000000
open Go.Lib (hid)
namespace Go.Proofs.YtlfkkaofgcongaaGreatDoor
namespace prp
open Go.RowKit base tok dim
theorem rest_4 (u : Int) : ∃ r : Nat, r < 4 /\ (IntKind.u64.wrap u).tmod 4 = (r : Int) := by
 have h0 : 0 <= IntKind.u64.wrap u := by simp [IntKind.wrap, IntKind.bits, IntKind.signed]; omega
 generalize IntKind.u64.wrap u = v at *
 rw [Int.tmod_eq_emod_of_nonneg h0]
 exact ⟨(v % 4).toNat, by omega, by omega⟩
theorem law_ct (n a b c d : Int) (w : World) (hM : MaxL w) (hT : PowAt w) :
  Calls Tryz.prog 4 #[.int .i64 n, .int .i64 a, .int .i64 b, .int .i64 c, .int .i64 d] w (rt w (.bool true)) := by
 obtain ⟨r, h4, hr⟩ := rest_4 n
 match r, h4, hr with
 | 0, _, hr => exact sides_0 n a b c d hr w hM hT
 | 1, _, hr => exact sides_1 n a b c d hr w hM hT
 | 2, _, hr => exact sides_2 n a b c d hr w hM hT
 | 3, _, hr => exact sides_3 n a b c d hr w hM hT
end prp
namespace prp.sides
open Go.RowKit base tok prp Go.ChangeShapes Go.WideShapes Go.ChangeAt
theorem lifted (os : Os) (started : os.Started) (H : Type) (enc : TypeId × Value -> H) :
  ReturnsInHanded {} Tryz.checked os 4 .any (fun w args => (Rows.propSidesSpec.pre enc Tryz.prog Tryz.f4 Rows.propSidesRow.domain false w args /\ laidMetH Tryz.prog Rows.propSidesRow.laid w) /\ sizedMet enc Tryz.prog Tryz.f4 (OpenSpec.ofChange Rows.propSidesSpec) false w args)
   (Rows.propSidesSpec.post enc Tryz.prog Tryz.f4 false true false false) := by
 refine returns_door (C := Tryz.checked) (X := fun w _ => laidMetH Tryz.prog Rows.propSidesRow.laid w) (fun _ _ _ hh h => h.of_heap hh) ownD started (by kernel_rfl) Tryz.func4
  (ChangeSpec.witness_shaped (enc := enc) (C := Tryz.checked) (os := os) (X := fun w _ => laidMetH Tryz.prog Rows.propSidesRow.laid w) false (World.laidAll Tryz.prog os Rows.propSidesRow.laid) #[.int .i64 0, .int .i64 0, .int .i64 0, .int .i64 0, .int .i64 0] 8 (World.laidAll_os _ _ _)
   (World.shaped_of_ZipB (by kernel_rfl) (by kernel_rfl)) (by kernel_rfl) (by kernel_rfl) (by kernel_rfl)
   (by rw [MakeChecks.laidMetH_plain _ _ _ (by kernel_rfl)]; exact laidMet_laidAll _ (by kernel_rfl) (by kernel_rfl))) ?_
 intro W base args ds gs before hval0 hW hsz hlaid hsh
 have hval : ∀ (j : Nat) t v, Tryz.f4.params[j]? = some t -> args[j]? = some v -> Value.okWide Tryz.prog W .any base t v := hval0
 have hW' := hW
 obtain ⟨p, q, hA0, hV, -, -, -⟩ := hW
 have hA : DataW.TrodAll enc Tryz.prog W 0 (fun _ => true) true Tryz.f4.params.toList args.toList ds p := hA0
 rw [Tryz.params4] at hA hval
 obtain ⟨v0, vs0, d0, ds0, p0, q0, hargs, rfl, -, h0, r0⟩ := trodAll_cons hA
 obtain ⟨v1, vs1, d1, ds1, p1, q1, rfl, rfl, -, h1, r1⟩ := trodAll_cons r0
 obtain ⟨v2, vs2, d2, ds2, p2, q2, rfl, rfl, -, h2, r2⟩ := trodAll_cons r1
 obtain ⟨v3, vs3, d3, ds3, p3, q3, rfl, rfl, -, h3, r3⟩ := trodAll_cons r2
 obtain ⟨v4, vs4, d4, ds4, p4, q4, rfl, rfl, -, h4, r4⟩ := trodAll_cons r3
 obtain ⟨rfl, rfl, -⟩ := trodAll_nil r4
 obtain rfl : args = #[v0, v1, v2, v3, v4] := by cases args; simp_all
 obtain ⟨rfl, -⟩ := trodVars_none hV
 obtain ⟨a, rfl, -, -, -⟩ := open_int Tryz.underlying3 (hval 0 _ _ rfl rfl) h0
 obtain ⟨b, rfl, -, -, -⟩ := open_int Tryz.underlying3 (hval 1 _ _ rfl rfl) h1
 obtain ⟨c, rfl, -, -, -⟩ := open_int Tryz.underlying3 (hval 2 _ _ rfl rfl) h2
 obtain ⟨d, rfl, -, -, -⟩ := open_int Tryz.underlying3 (hval 3 _ _ rfl rfl) h3
 obtain ⟨e, rfl, -, -, -⟩ := open_int Tryz.underlying3 (hval 4 _ _ rfl rfl) h4
 rw [MakeChecks.laidMetH_plain _ _ _ (by kernel_rfl)] at hlaid
 exact (law_ct a b c d e W (maxLen_of hsh) (dim.pow_of hlaid (by simp [Rows.propSidesRow]))).mono fun e W' ⟨he, bel⟩ => ⟨_, he, law_post laidOutD rfl Tryz.underlying4 rfl (by intro t ht; rw [Tryz.params4] at ht; revert t; decide +kernel) rfl hW' bel⟩
theorem holds : Rows.PropSidesSaid :=
 OpenClaim.holds_of_wide 4 Tryz.f4 rfl rfl rfl rfl rfl rfl rfl ⟨rfl, rfl, rfl, rfl, rfl⟩ rfl rfl rfl rfl rfl (by kernel_rfl) Tryz.func4 (by kernel_rfl)
  (of_decide_eq_true (by kernel_rfl)) (by unfold Func.isWrapper; first | (rw [if_pos (by decide +kernel)]; kernel_rfl) | (rw [if_neg (by decide +kernel)]; exact ⟨rfl, rfl⟩))
  (fun os started H enc _ => lifted os started H enc)
theorem proved : Rows.PropSidesCardSaid :=
 Claim7.holds_tied_plain_at .later [] Rows.propSidesCard.laidKinds true Rows.propSidesCard.stood.harness Rows.propSidesCard.stood.looks holds (fun _ h => by cases h) (by kernel_rfl) (fun _ h => by cases h) propSides_row_tie rfl ⟨rfl, rfl⟩ (by kernel_rfl) rfl
  (fun f fn hf hfn => by
   obtain rfl : f = 4 := Option.some.inj ((show Tryz.prog.funcNamed "clerestory/clerestorykeep2.PropSides" = some 4 by kernel_rfl).symm.trans hf) |>.symm
   obtain rfl : fn = Tryz.f4 := (Option.some.inj (Tryz.func4.symm.trans hfn)).symm
   exact ⟨by kernel_rfl, fun j t ht => by
    rw [Tryz.params4] at ht
    have hm : t ∈ [3, 3, 3, 3, 3] := by simpa using Array.mem_of_getElem? ht
    have hall : ([3, 3, 3, 3, 3].all fun u => !Tryz.prog.wantsStandIn u) = true := by kernel_rfl
    exact (show Tryz.prog.wantsStandIn t = false by simpa using List.all_eq_true.1 hall t hm)⟩)
  (by kernel_rfl)
#print axioms proved
end prp.sides
end Go.Proofs.YtlfkkaofgcongaaGreatDoor
