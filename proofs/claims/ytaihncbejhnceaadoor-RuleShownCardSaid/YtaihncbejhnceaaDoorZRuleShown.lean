/- RuleShown: for every text the call returns true, and all that was there reads as before. The package-level variables that its row lists start as the program's text lays them (the card ties them). -/
import Derived.Test.YtaihncbejhnceaaDoorBG
import Derived.Test.YtaihncbejhnceaaDoorBM
import Derived.Test.YtaihncbejhnceaaDoorBH
import Derived.Test.YtaihncbejhnceaaDoorTie
import Derived.Test.YtaihncbejhnceaaDoorCards

namespace Go.Proofs.YtaihncbejhnceaaDoor.rul.rshown
open Go.RowKit Go.Proofs.YtaihncbejhnceaaDoor.base Go.Proofs.YtaihncbejhnceaaDoor.tok Go.Proofs.YtaihncbejhnceaaDoor.rul
set_option linter.unusedVariables false

set_option maxRecDepth 100000 in
set_option maxHeartbeats 4000000 in
theorem shown_none (s : Bs) (h : ParseP s = none) (w : World) (hF : FoldAt w) (hm : MaxL w) :
    Calls Tryd.prog 3 #[.string (bs s)] w fun e w' => e = .returned (.bool true) ∧ Below w.heap.size w w' := by
  have cP := Lib.hid (Parse_none s h)
  have HF := Lib.hid hF
  have HM := Lib.hid hm
  clear hF hm h
  go_enter Tryd.func3, Tryd.ntmps3
  go_wp2_with (first
    | (go_at_call 12; (with_reducible refine (ruleFact_ct _ HF.out HM.out).mono ?_); rintro e W1 ⟨rfl, hb1⟩; have HB1 := Lib.hid hb1; clear hb1)
    | (go_at_call 13; (with_reducible refine (cP.out _ (HF.out.on HB1.out) (HM.out.on HB1.out HM.out.lt)).mono ?_); rintro e W2 ⟨rfl, hb2⟩; have HB2 := Lib.hid (HB1.out.trans (hb2.mono HB1.out.size)); clear hb2))
  go_ret
  exact ⟨rfl, HB2.out⟩

set_option maxRecDepth 100000 in
set_option maxHeartbeats 4000000 in
theorem shown_some (s : Bs) (R : List Rl) (h : ParseP s = some R) (w : World) (hF : FoldAt w) (hm : MaxL w) :
    Calls Tryd.prog 3 #[.string (bs s)] w fun e w' => e = .returned (.bool true) ∧ Below w.heap.size w w' := by
  have cP := Lib.hid (Parse_some s R h)
  have HF := Lib.hid hF
  have HM := Lib.hid hm
  have cSh := fun (hf : fullG R ≤ 3000) v w hv hF hm => Show_ct s R h hf v w hv hF hm
  have hsh := rule_shown h
  unfold ShowS ShowE at cSh
  by_cases hbig : 3000 < (showG R).length ∨ 3000 < (showF [] R).length
  · have hbe : (bs ([] : Bs)).toList.isEmpty = true := by rw [bs_toList]; rfl
    simp only [if_pos hbig] at cSh
    replace cSh := Lib.hid cSh
    clear hF hm h hsh hbig
    go_enter Tryd.func3, Tryd.ntmps3
    go_wp2_with (first
      | (go_at_call 12; (with_reducible refine (ruleFact_ct _ HF.out HM.out).mono ?_); rintro e W1 ⟨rfl, hb1⟩; have HB1 := Lib.hid hb1; clear hb1)
      | (go_at_call 13; (with_reducible refine (cP.out _ (HF.out.on HB1.out) (HM.out.on HB1.out HM.out.lt)).mono ?_); rintro e W2 ⟨⟨v2, rfl, hr2, hf2⟩, hb2⟩; have HB2 := Lib.hid (HB1.out.trans (hb2.mono HB1.out.size)); have HR2 := Lib.hid hr2; have HF2 := Lib.hid hf2; clear hb2 hr2 hf2)
      | (go_at_call 14; (with_reducible refine (cSh.out HF2.out _ _ HR2.out (HF.out.on HB2.out) (HM.out.on HB2.out HM.out.lt)).mono ?_); rintro e W3 ⟨rfl, hb3⟩; have HB3 := Lib.hid (HB2.out.trans (hb3.mono HB2.out.size)); clear hb3))
    go_ret
    exact ⟨rfl, HB3.out⟩
  · simp only [if_neg hbig] at cSh
    rw [if_neg (fun e => hbig (.inl e))] at hsh
    have cQ := Lib.hid (Parse_some (showG R) R hsh)
    have cS := fun (hf : fullG R ≤ 3000) u1 u2 W (h1 : RSl W u1 R) (h2 : RSl W u2 R) => sameRules_ct 3000 R R hf (by omega) (by omega) u1 u2 W h1 h2
    rw [sameG_refl] at cS
    replace cS := Lib.hid cS
    replace cSh := Lib.hid cSh
    clear hF hm h hsh hbig
    go_enter Tryd.func3, Tryd.ntmps3
    go_wp2_with (first
      | (go_at_call 12; (with_reducible refine (ruleFact_ct _ HF.out HM.out).mono ?_); rintro e W1 ⟨rfl, hb1⟩; have HB1 := Lib.hid hb1; clear hb1)
      | (go_at_call 13; (with_reducible refine (cP.out _ (HF.out.on HB1.out) (HM.out.on HB1.out HM.out.lt)).mono ?_); rintro e W2 ⟨⟨v2, rfl, hr2, hf2⟩, hb2⟩; have HB2 := Lib.hid (HB1.out.trans (hb2.mono HB1.out.size)); have HR2 := Lib.hid hr2; have HF2 := Lib.hid hf2; clear hb2 hr2 hf2 cP)
      | (go_at_call 14; (with_reducible refine (cSh.out HF2.out _ _ HR2.out (HF.out.on HB2.out) (HM.out.on HB2.out HM.out.lt)).mono ?_); rintro e W3 ⟨rfl, hb3⟩; have HB3 := Lib.hid (HB2.out.trans (hb3.mono HB2.out.size)); have HR3 := Lib.hid (HR2.out.on hb3); clear hb3)
      | (go_at_call 13; (with_reducible refine (cQ.out _ (HF.out.on HB3.out) (HM.out.on HB3.out HM.out.lt)).mono ?_); rintro e W4 ⟨⟨v4, rfl, hr4, hf4⟩, hb4⟩; have HB4 := Lib.hid (HB3.out.trans (hb4.mono HB3.out.size)); have HR4 := Lib.hid (HR3.out.on hb4); have HQ4 := Lib.hid hr4; clear hb4 hr4 hf4)
      | (go_at_call 15; (with_reducible refine (cS.out HF2.out _ _ _ HR4.out HQ4.out).mono ?_); rintro e W5 ⟨rfl, m5, rfl⟩))
    go_ret
    exact ⟨rfl, below_drewN HB4.out m5⟩

theorem law_ct (a : ByteArray) (w : World) (hs : a.size ≤ maxLen) (hF : FoldAt w) (hm : MaxL w) :
    Calls Tryd.prog 3 #[.string a] w fun e w' => e = .returned (.bool true) ∧ Below w.heap.size w w' := by
  rw [show a = bs a.data.toList from rfl]
  cases h : ParseP a.data.toList with
  | none => exact shown_none _ h w hF hm
  | some R => exact shown_some _ R h w hF hm

end Go.Proofs.YtaihncbejhnceaaDoor.rul.rshown

namespace Go.Proofs.YtaihncbejhnceaaDoor.rul.rshown
open Go.RowKit Go.Proofs.YtaihncbejhnceaaDoor.base Go.Proofs.YtaihncbejhnceaaDoor.tok Go.Proofs.YtaihncbejhnceaaDoor.rul Go.ChangeShapes Go.WideShapes Go.ChangeAt
set_option linter.unusedVariables false

set_option maxRecDepth 100000 in
theorem lifted (os : Os) (started : os.Started) (H : Type) (enc : TypeId × Value → H) :
    ReturnsInHanded {} Tryd.checked os 3 .any (fun w args => (Rows.ruleShownSpec.pre enc Tryd.prog Tryd.f3 Rows.ruleShownRow.domain false w args ∧ laidMetH Tryd.prog Rows.ruleShownRow.laid w) ∧ sizedMet enc Tryd.prog Tryd.f3 (OpenSpec.ofChange Rows.ruleShownSpec) false w args)
      (Rows.ruleShownSpec.post enc Tryd.prog Tryd.f3 false true false false) := by
  refine returns_door (C := Tryd.checked) (X := fun w _ => laidMetH Tryd.prog Rows.ruleShownRow.laid w) (fun _ _ _ hh h => h.of_heap hh) ownD started (by kernel_rfl) Tryd.func3
    (ChangeSpec.witness_shaped (enc := enc) (C := Tryd.checked) (os := os) (X := fun w _ => laidMetH Tryd.prog Rows.ruleShownRow.laid w) false (World.laidAll Tryd.prog os Rows.ruleShownRow.laid) #[.string .empty] 8 (World.laidAll_os _ _ _)
      (World.shaped_of_ZipB (by kernel_rfl) (by kernel_rfl)) (by kernel_rfl) (by kernel_rfl) (by kernel_rfl)
      (by rw [MakeChecks.laidMetH_plain _ _ _ (by kernel_rfl)]; exact laidMet_laidAll _ (by kernel_rfl) (by kernel_rfl))) ?_
  intro W base args ds gs before hval0 hW hsz hlaid hsh
  have hval : ∀ (j : Nat) t v, Tryd.f3.params[j]? = some t → args[j]? = some v → Value.okWide Tryd.prog W .any base t v := hval0
  have hW' := hW
  obtain ⟨p, q, hA0, hV, -, -, -⟩ := hW
  have hA : DataW.TrodAll enc Tryd.prog W 0 (fun _ => true) true Tryd.f3.params.toList args.toList ds p := hA0
  rw [Tryd.params3] at hA hval
  obtain ⟨v0, vs0, d0, ds0, p0, q0, hargs, rfl, -, h0, r0⟩ := trodAll_cons hA
  obtain ⟨rfl, rfl, -⟩ := trodAll_nil r0
  obtain rfl : args = #[v0] := by cases args; simp_all
  obtain ⟨rfl, -⟩ := trodVars_none hV
  obtain ⟨a, rfl, -, -, hs0⟩ := Go.ChangeMaps.open_string Tryd.underlying9 (hval 0 _ _ rfl rfl) h0
  rw [MakeChecks.laidMetH_plain _ _ _ (by kernel_rfl)] at hlaid
  exact (law_ct a W hs0 (fold_of hlaid (by simp [Rows.ruleShownRow])) (maxLen_of hsh)).mono fun e W' ⟨he, bel⟩ => ⟨_, he, law_post laidOutD rfl Tryd.underlying4 rfl (by intro t ht; rw [Tryd.params3] at ht; revert t; decide +kernel) rfl hW' bel⟩

theorem holds : Rows.RuleShownSaid :=
  OpenClaim.holds_of_wide 3 Tryd.f3 rfl rfl rfl rfl rfl rfl rfl ⟨rfl, rfl, rfl, rfl, rfl⟩ rfl rfl rfl rfl rfl (by kernel_rfl) Tryd.func3 (by kernel_rfl)
    (of_decide_eq_true (by kernel_rfl)) (by unfold Func.isWrapper; first | (rw [if_pos (by decide +kernel)]; kernel_rfl) | (rw [if_neg (by decide +kernel)]; exact ⟨rfl, rfl⟩))
    (fun os started H enc _ => lifted os started H enc)

theorem proved : Rows.RuleShownCardSaid :=
  Claim7.holds_tied_plain_at .later [] Rows.ruleShownCard.laidKinds true Rows.ruleShownCard.stood.harness Rows.ruleShownCard.stood.looks holds (fun _ h => by cases h) (by kernel_rfl) (fun _ h => by cases h) ruleShown_row_tie rfl ⟨rfl, rfl⟩ (by kernel_rfl) rfl
    (fun f fn hf hfn => by
      obtain rfl : f = 3 := Option.some.inj ((show Tryd.prog.funcNamed "clerestory/clerestorykeep2.RuleShown" = some 3 by kernel_rfl).symm.trans hf) |>.symm
      obtain rfl : fn = Tryd.f3 := (Option.some.inj (Tryd.func3.symm.trans hfn)).symm
      exact ⟨by kernel_rfl, fun j t ht => by
        rw [Tryd.params3] at ht
        have hm : t ∈ [9] := by simpa using Array.mem_of_getElem? ht
        have hall : ([9].all fun u => !Tryd.prog.wantsStandIn u) = true := by kernel_rfl
        exact (show Tryd.prog.wantsStandIn t = false by simpa using List.all_eq_true.1 hall t hm)⟩)
    (by kernel_rfl)
#print axioms proved

end Go.Proofs.YtaihncbejhnceaaDoor.rul.rshown
