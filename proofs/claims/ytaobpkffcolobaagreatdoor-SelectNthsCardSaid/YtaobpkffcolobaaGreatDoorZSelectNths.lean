/- SelectNths: for every number the call returns true, and all that was there reads as before. The package-level variables that its row lists start as the program's text lays them (the card ties them). -/
import Derived.Test.YtaobpkffcolobaaGreatDoorBI1
import Derived.Test.YtaobpkffcolobaaGreatDoorBI2
import Derived.Test.YtaobpkffcolobaaGreatDoorBI3
import Derived.Test.YtaobpkffcolobaaGreatDoorBJ
import Derived.Test.YtaobpkffcolobaaGreatDoorTie
import Derived.Test.YtaobpkffcolobaaGreatDoorCards

namespace Go.Proofs.YtaobpkffcolobaaGreatDoor.sel
open Go.RowKit Go.Proofs.YtaobpkffcolobaaGreatDoor.base Go.Proofs.YtaobpkffcolobaaGreatDoor.tok Go.Proofs.YtaobpkffcolobaaGreatDoor.dim Go.Proofs.YtaobpkffcolobaaGreatDoor.rul
set_option linter.unusedVariables false

theorem law_ct (n : Int) (w : World) (hE : SEnv w) (hT : PowAt w) :
    Calls Tryz.prog 3 #[.int .i64 n] w fun e w' => e = .returned (.bool true) ∧ Below w.heap.size w w' := by
  obtain ⟨r, hr, q1⟩ := rest_of n 9 (by decide) (by decide)
  have hb : -1000 ≤ n.tmod 1001 ∧ n.tmod 1001 ≤ 1000 := by
    have h1 := Int.tmod_lt_of_pos n (show (0 : Int) < 1001 by decide)
    have h2 : -1001 < n.tmod 1001 := Int.lt_tmod_of_pos n (show (0 : Int) < 1001 by decide)
    omega
  obtain ⟨h0, h1⟩ := hb
  match r, hr, q1 with
  | 0, _, q1 => exact law_0 n _ q1 rfl h0 h1 w hE hT
  | 1, _, q1 => exact law_1 n _ q1 rfl h0 h1 w hE hT
  | 2, _, q1 => exact law_2 n _ q1 rfl h0 h1 w hE hT
  | 3, _, q1 => exact law_3 n _ q1 rfl h0 h1 w hE hT
  | 4, _, q1 => exact law_4 n _ q1 rfl h0 h1 w hE hT
  | 5, _, q1 => exact law_5 n _ q1 rfl h0 h1 w hE hT
  | 6, _, q1 => exact law_6 n _ q1 rfl h0 h1 w hE hT
  | 7, _, q1 => exact law_7 n _ q1 rfl h0 h1 w hE hT
  | 8, _, q1 => exact law_8 n _ q1 rfl h0 h1 w hE hT

end Go.Proofs.YtaobpkffcolobaaGreatDoor.sel

namespace Go.Proofs.YtaobpkffcolobaaGreatDoor.sel.nths
open Go.RowKit Go.Proofs.YtaobpkffcolobaaGreatDoor.base Go.Proofs.YtaobpkffcolobaaGreatDoor.tok Go.Proofs.YtaobpkffcolobaaGreatDoor.sel Go.ChangeShapes Go.WideShapes Go.ChangeAt
set_option linter.unusedVariables false

set_option maxRecDepth 100000 in
theorem lifted (os : Os) (started : os.Started) (H : Type) (enc : TypeId × Value → H) :
    ReturnsInHanded {} Tryz.checked os 3 .any (fun w args => (Rows.selectNthsSpec.pre enc Tryz.prog Tryz.f3 Rows.selectNthsRow.domain false w args ∧ laidMetH Tryz.prog Rows.selectNthsRow.laid w) ∧ sizedMet enc Tryz.prog Tryz.f3 (OpenSpec.ofChange Rows.selectNthsSpec) false w args)
      (Rows.selectNthsSpec.post enc Tryz.prog Tryz.f3 false true false false) := by
  refine returns_door (C := Tryz.checked) (X := fun w _ => laidMetH Tryz.prog Rows.selectNthsRow.laid w) (fun _ _ _ hh h => h.of_heap hh) ownD started (by kernel_rfl) Tryz.func3
    (ChangeSpec.witness_shaped (enc := enc) (C := Tryz.checked) (os := os) (X := fun w _ => laidMetH Tryz.prog Rows.selectNthsRow.laid w) false (World.laidAll Tryz.prog os Rows.selectNthsRow.laid) #[.int .i64 0] 8 (World.laidAll_os _ _ _)
      (World.shaped_of_ZipB (by kernel_rfl) (by kernel_rfl)) (by kernel_rfl) (by kernel_rfl) (by kernel_rfl)
      (by rw [MakeChecks.laidMetH_plain _ _ _ (by kernel_rfl)]; exact laidMet_laidAll _ (by kernel_rfl) (by kernel_rfl))) ?_
  intro W base args ds gs before hval0 hW hsz hlaid hsh
  have hval : ∀ (j : Nat) t v, Tryz.f3.params[j]? = some t → args[j]? = some v → Value.okWide Tryz.prog W .any base t v := hval0
  have hW' := hW
  obtain ⟨p, q, hA0, hV, -, -, -⟩ := hW
  have hA : DataW.TrodAll enc Tryz.prog W 0 (fun _ => true) true Tryz.f3.params.toList args.toList ds p := hA0
  rw [Tryz.params3] at hA hval
  obtain ⟨v0, vs0, d0, ds0, p0, q0, hargs, rfl, -, h0, r0⟩ := trodAll_cons hA
  obtain ⟨rfl, rfl, -⟩ := trodAll_nil r0
  obtain rfl : args = #[v0] := by cases args; simp_all
  obtain ⟨rfl, -⟩ := trodVars_none hV
  obtain ⟨a, rfl, -, -, -⟩ := open_int Tryz.underlying3 (hval 0 _ _ rfl rfl) h0
  rw [MakeChecks.laidMetH_plain _ _ _ (by kernel_rfl)] at hlaid
  exact (law_ct a W ⟨maxLen_of hsh, err_of (by kernel_rfl) (by kernel_rfl) hlaid.tail.tail.tail.tail.tail, err_of (by kernel_rfl) (by kernel_rfl) hlaid.tail.tail.tail.tail⟩ (dim.pow_of hlaid (by simp [Rows.selectNthsRow]))).mono fun e W' ⟨he, bel⟩ => ⟨_, he, law_post laidOutD rfl Tryz.underlying4 rfl (by intro t ht; rw [Tryz.params3] at ht; revert t; decide +kernel) rfl hW' bel⟩

theorem holds : Rows.SelectNthsSaid :=
  OpenClaim.holds_of_wide 3 Tryz.f3 rfl rfl rfl rfl rfl rfl rfl ⟨rfl, rfl, rfl, rfl, rfl⟩ rfl rfl rfl rfl rfl (by kernel_rfl) Tryz.func3 (by kernel_rfl)
    (of_decide_eq_true (by kernel_rfl)) (by unfold Func.isWrapper; first | (rw [if_pos (by decide +kernel)]; kernel_rfl) | (rw [if_neg (by decide +kernel)]; exact ⟨rfl, rfl⟩))
    (fun os started H enc _ => lifted os started H enc)

theorem proved : Rows.SelectNthsCardSaid :=
  Claim7.holds_tied_plain_at .later [] Rows.selectNthsCard.laidKinds true Rows.selectNthsCard.stood.harness Rows.selectNthsCard.stood.looks holds (fun _ h => by cases h) (by kernel_rfl) (fun _ h => by cases h) selectNths_row_tie rfl ⟨rfl, rfl⟩ (by kernel_rfl) rfl
    (fun f fn hf hfn => by
      obtain rfl : f = 3 := Option.some.inj ((show Tryz.prog.funcNamed "clerestory/clerestorykeep2.SelectNths" = some 3 by kernel_rfl).symm.trans hf) |>.symm
      obtain rfl : fn = Tryz.f3 := (Option.some.inj (Tryz.func3.symm.trans hfn)).symm
      exact ⟨by kernel_rfl, fun j t ht => by
        rw [Tryz.params3] at ht
        have hm : t ∈ [3] := by simpa using Array.mem_of_getElem? ht
        have hall : ([3].all fun u => !Tryz.prog.wantsStandIn u) = true := by kernel_rfl
        exact (show Tryz.prog.wantsStandIn t = false by simpa using List.all_eq_true.1 hall t hm)⟩)
    (by kernel_rfl)
#print axioms proved

end Go.Proofs.YtaobpkffcolobaaGreatDoor.sel.nths
