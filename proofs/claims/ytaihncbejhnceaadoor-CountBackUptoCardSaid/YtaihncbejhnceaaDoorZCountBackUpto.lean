/- CountBack: for every two numbers and each text within the bound the call returns true, and all that was there reads as before. The package-level variables that its row lists start as the program's text lays them (the card ties them). -/
import Derived.Test.YtaihncbejhnceaaDoorBR
import Derived.Test.YtaihncbejhnceaaDoorTie
import Derived.Test.YtaihncbejhnceaaDoorCards

namespace Go.Proofs.YtaihncbejhnceaaDoor.cnt.back
open Go.RowKit Go.Proofs.YtaihncbejhnceaaDoor.base Go.Proofs.YtaihncbejhnceaaDoor.tok Go.Proofs.YtaihncbejhnceaaDoor.cnt Go.ChangeShapes Go.WideShapes Go.ChangeAt
set_option linter.unusedVariables false

set_option maxRecDepth 100000 in
theorem reads (os : Os) {H : Type} (enc : TypeId × Value → H) : ∃ places, DataW.whole enc Tryd.prog ((World.laidAll Tryd.prog os Rows.countBackUptoRow.laid).forCall (fun _ _ => 0) ⟨#[], #[.int .i64 0, .int .i64 0, .string .empty], []⟩).memory Tryd.f7.params.toList Rows.countBackSpec.vars false #[.int .i64 0, .int .i64 0, .string .empty].toList 8 = some ([.lit (.int .i64 0), .lit (.int .i64 0), .lit (.string [])], [], places) :=
  ⟨[], by kernel_rfl⟩

set_option maxRecDepth 100000 in
theorem lifted (os : Os) (started : os.Started) (H : Type) (enc : TypeId × Value → H) (F : Stop.Interp) :
    ReturnsInHanded {} Tryd.checked os 7 .any ((Rows.OpenSpec.upto Rows.countBackSpec).preRow enc Tryd.prog Tryd.f7 Rows.countBackUptoRow.domain false Rows.countBackUptoRow.laid) (((Rows.OpenSpec.upto Rows.countBackSpec).at F).post enc Tryd.prog Tryd.f7 false true false false) := by
  obtain ⟨places, hx⟩ := reads os enc
  refine returnsInHanded_of_row (C := Tryd.checked) (s := Rows.OpenSpec.upto Rows.countBackSpec) ownD started (by kernel_rfl) Tryd.func7
    (witness_rowL (enc := enc) (C := Tryd.checked) false (World.laidAll Tryd.prog os Rows.countBackUptoRow.laid) #[.int .i64 0, .int .i64 0, .string .empty] (World.laidAll_os _ _ _)
      (World.shaped_of_ZipB (by kernel_rfl) (by kernel_rfl)) (by kernel_rfl)
      (OpenSpec.preRow_of_cond 8 hx (by kernel_rfl) (fun k hk => by cases hk; kernel_rfl) (by kernel_rfl) (by rw [MakeChecks.laidMetH_plain _ _ _ (by kernel_rfl)]; exact laidMet_laidAll _ (by kernel_rfl) (by kernel_rfl)))) ?_
  intro W base args ds gs before hval0 hW _ hcond hsz hlaid hsh _
  have hk : Rows.uptoSmall H (ds ++ gs) = true := hcond _ rfl
  have hval : ∀ (j : Nat) t v, Tryd.f7.params[j]? = some t → args[j]? = some v → Value.okWide Tryd.prog W .any base t v := hval0
  have hW' : DataW.Whole enc Tryd.prog Tryd.f7.params.toList Rows.countBackSpec.vars false W args.toList ds gs before := hW
  obtain ⟨p, q, hA0, hV, -, -, -⟩ := hW
  have hA : DataW.TrodAll enc Tryd.prog W 0 (fun _ => true) true Tryd.f7.params.toList args.toList ds p := hA0
  rw [Tryd.params7] at hA hval
  obtain ⟨v0, vs0, d0, ds0, p0, q0, hargs, rfl, -, h0, r0⟩ := trodAll_cons hA
  obtain ⟨v1, vs1, d1, ds1, p1, q1, rfl, rfl, -, h1, r1⟩ := trodAll_cons r0
  obtain ⟨v2, vs2, d2, ds2, p2, q2, rfl, rfl, -, h2, r2⟩ := trodAll_cons r1
  obtain ⟨rfl, rfl, -⟩ := trodAll_nil r2
  obtain rfl : args = #[v0, v1, v2] := by cases args; simp_all
  obtain ⟨rfl, -⟩ := trodVars_none hV
  obtain ⟨a, rfl, -, -, -⟩ := open_int Tryd.underlying3 (hval 0 _ _ rfl rfl) h0
  obtain ⟨b, rfl, -, -, -⟩ := open_int Tryd.underlying3 (hval 1 _ _ rfl rfl) h1
  obtain ⟨c, rfl, hd2, -, hs2⟩ := Go.ChangeMaps.open_string Tryd.underlying9 (hval 2 _ _ rfl rfl) h2
  have hu2 : c.size ≤ 1048576 := upto_string hk (by rw [hd2]; simp)
  rw [MakeChecks.laidMetH_plain _ _ _ (by kernel_rfl)] at hlaid
  refine (law_ct a b c W hu2 ⟨dim.pow_of hlaid (by simp [Rows.countBackUptoRow]), err_of (by kernel_rfl) (by kernel_rfl) hlaid.tail.tail.tail.tail.tail, err_of (by kernel_rfl) (by kernel_rfl) hlaid.tail.tail.tail.tail, case_of hlaid (by simp [Rows.countBackUptoRow]), u8_of hlaid (by simp [Rows.countBackUptoRow]) (by simp [Rows.countBackUptoRow])⟩).mono fun e W' ⟨he, bel⟩ => ⟨_, he, ?_⟩
  exact law_post (s := Rows.countBackSpec) laidOutD rfl Tryd.underlying4 rfl (by intro t ht; rw [Tryd.params7] at ht; revert t; decide +kernel) rfl hW' bel

theorem holds : Rows.CountBackUptoSaid :=
  OpenClaim.holds_of_cond 7 Tryd.f7 rfl rfl rfl rfl rfl rfl rfl ⟨rfl, rfl, rfl, rfl, rfl⟩ rfl rfl rfl rfl rfl (by kernel_rfl) Tryd.func7 (by kernel_rfl)
    (of_decide_eq_true (by kernel_rfl)) (by unfold Func.isWrapper; first | (rw [if_pos (by decide +kernel)]; kernel_rfl) | (rw [if_neg (by decide +kernel)]; exact ⟨rfl, rfl⟩))
    (fun os started H enc _ F => by rw [OpenClaim.pre_eq_preRow]; exact lifted os started H enc F)

theorem proved : Rows.CountBackUptoCardSaid :=
  Claim7.holds_tied_plain_at .later [] Rows.countBackUptoCard.laidKinds true Rows.countBackUptoCard.stood.harness Rows.countBackUptoCard.stood.looks holds (fun _ h => by cases h) (by kernel_rfl) (fun _ h => by cases h) countBackUpto_row_tie rfl ⟨rfl, rfl⟩ (by kernel_rfl) rfl
    (fun f fn hf hfn => by
      obtain rfl : f = 7 := Option.some.inj ((show Tryd.prog.funcNamed "clerestory/clerestorykeep2.CountBack" = some 7 by kernel_rfl).symm.trans hf) |>.symm
      obtain rfl : fn = Tryd.f7 := (Option.some.inj (Tryd.func7.symm.trans hfn)).symm
      exact ⟨by kernel_rfl, fun j t ht => by
        rw [Tryd.params7] at ht
        have hm : t ∈ [3, 3, 9] := by simpa using Array.mem_of_getElem? ht
        have hall : ([3, 3, 9].all fun u => !Tryd.prog.wantsStandIn u) = true := by kernel_rfl
        exact (show Tryd.prog.wantsStandIn t = false by simpa using List.all_eq_true.1 hall t hm)⟩)
    (by kernel_rfl)
#print axioms proved

end Go.Proofs.YtaihncbejhnceaaDoor.cnt.back
