/- DeclShown: for every text the call returns true, and all that was there reads as before. The package-level variables that its row lists start as the program's text lays them (the card ties them). -/
import Derived.Test.YtphdmdncboegjaaDoorBG
import Derived.Test.YtphdmdncboegjaaDoorBH
import Derived.Test.YtphdmdncboegjaaDoorTie
import Derived.Test.YtphdmdncboegjaaDoorCards

namespace Go.Proofs.YtphdmdncboegjaaDoor.rul.shown
open Go.RowKit Go.Proofs.YtphdmdncboegjaaDoor.base Go.Proofs.YtphdmdncboegjaaDoor.tok Go.Proofs.YtphdmdncboegjaaDoor.rul
set_option linter.unusedVariables false

theorem shown_none (s : Bs) (h : DeclsP s = none) (w : World) (hF : FoldAt w) (hm : MaxL w) :
    Calls Tryd.prog 12 #[.string (bs s)] w fun e w' => e = .returned (.bool true) ∧ Below w.heap.size w w' := by
  have cD := Lib.hid (Decls_none s h)
  have HF := Lib.hid hF
  have HM := Lib.hid hm
  clear hF hm h
  go_enter Tryd.func12, Tryd.ntmps12
  go_wp2_with (first
    | (go_at_call 29; (with_reducible refine (ruleFact_ct _ HF.out HM.out).mono ?_); rintro e W1 ⟨rfl, hb1⟩; have HB1 := Lib.hid hb1; clear hb1)
    | (go_at_call 31; (with_reducible refine (cD.out _ (HF.out.on HB1.out) (HM.out.on HB1.out HM.out.lt)).mono ?_); rintro e W2 ⟨rfl, hb2⟩; have HB2 := Lib.hid (HB1.out.trans (hb2.mono HB1.out.size)); clear hb2))
  go_ret
  exact ⟨rfl, HB2.out⟩

theorem shown_some (s : Bs) (R : List Dc) (h : DeclsP s = some R) (w : World) (hF : FoldAt w) (hm : MaxL w) :
    Calls Tryd.prog 12 #[.string (bs s)] w fun e w' => e = .returned (.bool true) ∧ Below w.heap.size w w' := by
  obtain ⟨h1, h30, _⟩ := Decls_told h
  have hlen := told_len R h1
  have hsh := decl_shown h
  have cD := fun W hF hm => Decls_ok s R h W hF hm
  have hT : (dTexts R).length ≤ 1000000000 := by have := Nat.mul_le_mul_right (2 * 3000 + 12) h30; omega
  have cT := fun A c W (hL : DRd W W.heap.size A R.length R) => dtext_ct A c R W (by omega) hL hT
  have HF := Lib.hid hF
  have HM := Lib.hid hm
  generalize dTexts R = T at *
  by_cases h3 : 3000 < T.length
  · have hz : (3000 : Int) < ((bs T).size : Int) := by rw [bs_size]; omega
    rw [if_pos h3] at hsh
    have cE := Lib.hid (Decls_none T hsh)
    have cS := fun A c W (hL : DRd W W.heap.size A R.length R) => sameD_ct A none R.length 0 c 0 R [] W (by unfold maxLen; omega) (by unfold maxLen; omega) hL ⟨rfl, fun h0 => by simp at h0⟩
    generalize decide (R = []) = q at *
    replace cD := Lib.hid cD
    replace cT := Lib.hid cT
    replace cS := Lib.hid cS
    have hRl : (R.length : Int) ≤ 30 := by omega
    clear hF hm h hsh h1 hlen hT h3 h30
    go_enter Tryd.func12, Tryd.ntmps12
    go_wp2_with (first
      | (go_at_call 29; (with_reducible refine (ruleFact_ct _ HF.out HM.out).mono ?_); rintro e W1 ⟨rfl, hb1⟩; have HB1 := Lib.hid hb1; clear hb1)
      | (go_at_call 31; (with_reducible refine (cD.out _ (HF.out.on HB1.out) (HM.out.on HB1.out HM.out.lt)).mono ?_); rintro e W2 ⟨⟨A2, c2, rfl, hc2, hr2, ho2⟩, hb2⟩; have HB2 := Lib.hid (HB1.out.trans (hb2.mono HB1.out.size)); have HR2 := Lib.hid hr2; clear hb2 hr2 ho2 hc2)
      | (go_at_call 32; (with_reducible refine (cT.out _ _ _ HR2.out).mono ?_); rintro e W3 ⟨rfl, hb3⟩; have HB3 := Lib.hid (HB2.out.trans (hb3.mono HB2.out.size)); have HR3 := Lib.hid (HR2.out.keep hb3 hb3.size); clear hb3)
      | (go_at_call 31; (with_reducible refine (cE.out _ (HF.out.on HB3.out) (HM.out.on HB3.out HM.out.lt)).mono ?_); rintro e W4 ⟨rfl, hb4⟩; have HB4 := Lib.hid (HB3.out.trans (hb4.mono HB3.out.size)); have HR4 := Lib.hid (HR3.out.keep hb4 hb4.size); clear hb4)
      | (go_at_call 33; (with_reducible refine (cS.out _ _ _ HR4.out).mono ?_); rintro e W5 ⟨rfl, m5, rfl⟩))
    all_goals (go_ret; exact ⟨rfl, below_drewN HB4.out _⟩)
  · have hz : ¬ (3000 : Int) < ((bs T).size : Int) := by rw [bs_size]; omega
    rw [if_neg h3] at hsh
    have cE := fun W hF hm => Decls_ok T R hsh W hF hm
    have cS := fun A c A' c' W (hL : DRd W W.heap.size A R.length R) (hL' : DRd W W.heap.size A' R.length R) => sameD_ct A A' R.length R.length c c' R R W (by unfold maxLen; omega) (by unfold maxLen; omega) hL hL'
    simp only [decide_true] at cS
    replace cD := Lib.hid cD
    replace cE := Lib.hid cE
    replace cT := Lib.hid cT
    replace cS := Lib.hid cS
    have hRl : (R.length : Int) ≤ 30 := by omega
    clear hF hm h hsh h1 hlen hT h3 h30
    go_enter Tryd.func12, Tryd.ntmps12
    go_wp2_with (first
      | (go_at_call 29; (with_reducible refine (ruleFact_ct _ HF.out HM.out).mono ?_); rintro e W1 ⟨rfl, hb1⟩; have HB1 := Lib.hid hb1; clear hb1)
      | (go_at_call 31; (with_reducible refine (cD.out _ (HF.out.on HB1.out) (HM.out.on HB1.out HM.out.lt)).mono ?_); rintro e W2 ⟨⟨A2, c2, rfl, hc2, hr2, ho2⟩, hb2⟩; have HB2 := Lib.hid (HB1.out.trans (hb2.mono HB1.out.size)); have HR2 := Lib.hid hr2; clear hb2 hr2 ho2 hc2 cD)
      | (go_at_call 32; (with_reducible refine (cT.out _ _ _ HR2.out).mono ?_); rintro e W3 ⟨rfl, hb3⟩; have HB3 := Lib.hid (HB2.out.trans (hb3.mono HB2.out.size)); have HR3 := Lib.hid (HR2.out.keep hb3 hb3.size); clear hb3)
      | (go_at_call 31; (with_reducible refine (cE.out _ (HF.out.on HB3.out) (HM.out.on HB3.out HM.out.lt)).mono ?_); rintro e W4 ⟨⟨A4, c4, rfl, hc4, hr4, ho4⟩, hb4⟩; have HB4 := Lib.hid (HB3.out.trans (hb4.mono HB3.out.size)); have HR4 := Lib.hid (HR3.out.keep hb4 hb4.size); have HM4 := Lib.hid hr4; clear hb4 hr4 ho4 hc4)
      | (go_at_call 33; (with_reducible refine (cS.out _ _ _ _ _ HR4.out HM4.out).mono ?_); rintro e W5 ⟨rfl, m5, rfl⟩))
    all_goals (go_ret; exact ⟨rfl, below_drewN HB4.out _⟩)

theorem law_ct (a : ByteArray) (w : World) (hs : a.size ≤ maxLen) (hF : FoldAt w) (hm : MaxL w) :
    Calls Tryd.prog 12 #[.string a] w fun e w' => e = .returned (.bool true) ∧ Below w.heap.size w w' := by
  rw [show a = bs a.data.toList from rfl]
  cases h : DeclsP a.data.toList with
  | none => exact shown_none _ h w hF hm
  | some R => exact shown_some _ R h w hF hm

end Go.Proofs.YtphdmdncboegjaaDoor.rul.shown

namespace Go.Proofs.YtphdmdncboegjaaDoor.rul.shown
open Go.RowKit Go.Proofs.YtphdmdncboegjaaDoor.base Go.Proofs.YtphdmdncboegjaaDoor.tok Go.Proofs.YtphdmdncboegjaaDoor.rul Go.ChangeShapes Go.WideShapes Go.ChangeAt
set_option linter.unusedVariables false

set_option maxRecDepth 100000 in
theorem lifted (os : Os) (started : os.Started) (H : Type) (enc : TypeId × Value → H) :
    ReturnsInHanded {} Tryd.checked os 12 .any (fun w args => (Rows.declShownSpec.pre enc Tryd.prog Tryd.f12 Rows.declShownRow.domain false w args ∧ laidMetH Tryd.prog Rows.declShownRow.laid w) ∧ sizedMet enc Tryd.prog Tryd.f12 (OpenSpec.ofChange Rows.declShownSpec) false w args)
      (Rows.declShownSpec.post enc Tryd.prog Tryd.f12 false true false false) := by
  refine returns_door (C := Tryd.checked) (X := fun w _ => laidMetH Tryd.prog Rows.declShownRow.laid w) (fun _ _ _ hh h => h.of_heap hh) ownD started (by kernel_rfl) Tryd.func12
    (ChangeSpec.witness_shaped (enc := enc) (C := Tryd.checked) (os := os) (X := fun w _ => laidMetH Tryd.prog Rows.declShownRow.laid w) false (World.laidAll Tryd.prog os Rows.declShownRow.laid) #[.string .empty] 8 (World.laidAll_os _ _ _)
      (World.shaped_of_ZipB (by kernel_rfl) (by kernel_rfl)) (by kernel_rfl) (by kernel_rfl) (by kernel_rfl)
      (by rw [MakeChecks.laidMetH_plain _ _ _ (by kernel_rfl)]; exact laidMet_laidAll _ (by kernel_rfl) (by kernel_rfl))) ?_
  intro W base args ds gs before hval0 hW hsz hlaid hsh
  have hval : ∀ (j : Nat) t v, Tryd.f12.params[j]? = some t → args[j]? = some v → Value.okWide Tryd.prog W .any base t v := hval0
  have hW' := hW
  obtain ⟨p, q, hA0, hV, -, -, -⟩ := hW
  have hA : DataW.TrodAll enc Tryd.prog W 0 (fun _ => true) true Tryd.f12.params.toList args.toList ds p := hA0
  rw [Tryd.params12] at hA hval
  obtain ⟨v0, vs0, d0, ds0, p0, q0, hargs, rfl, -, h0, r0⟩ := trodAll_cons hA
  obtain ⟨rfl, rfl, -⟩ := trodAll_nil r0
  obtain rfl : args = #[v0] := by cases args; simp_all
  obtain ⟨rfl, -⟩ := trodVars_none hV
  obtain ⟨a, rfl, -, -, hs0⟩ := Go.ChangeMaps.open_string Tryd.underlying9 (hval 0 _ _ rfl rfl) h0
  rw [MakeChecks.laidMetH_plain _ _ _ (by kernel_rfl)] at hlaid
  exact (law_ct a W hs0 (fold_of hlaid (by simp [Rows.declShownRow])) (maxLen_of hsh)).mono fun e W' ⟨he, bel⟩ => ⟨_, he, law_post laidOutD rfl Tryd.underlying4 rfl (by intro t ht; rw [Tryd.params12] at ht; revert t; decide +kernel) rfl hW' bel⟩

theorem holds : Rows.DeclShownSaid :=
  OpenClaim.holds_of_wide 12 Tryd.f12 rfl rfl rfl rfl rfl rfl rfl ⟨rfl, rfl, rfl, rfl, rfl⟩ rfl rfl rfl rfl rfl (by kernel_rfl) Tryd.func12 (by kernel_rfl)
    (of_decide_eq_true (by kernel_rfl)) (by unfold Func.isWrapper; first | (rw [if_pos (by decide +kernel)]; kernel_rfl) | (rw [if_neg (by decide +kernel)]; exact ⟨rfl, rfl⟩))
    (fun os started H enc _ => lifted os started H enc)

theorem proved : Rows.DeclShownCardSaid :=
  Claim7.holds_tied_plain_at .later [] Rows.declShownCard.laidKinds true Rows.declShownCard.stood.harness false holds (fun _ h => by cases h) (by kernel_rfl) (fun _ h => by cases h) declShown_row_tie rfl ⟨rfl, rfl⟩ (by kernel_rfl) rfl
    (fun f fn hf hfn => by
      obtain rfl : f = 12 := Option.some.inj ((show Tryd.prog.funcNamed "clerestory/clerestorykeep2.DeclShown" = some 12 by kernel_rfl).symm.trans hf) |>.symm
      obtain rfl : fn = Tryd.f12 := (Option.some.inj (Tryd.func12.symm.trans hfn)).symm
      exact ⟨by kernel_rfl, fun j t ht => by
        rw [Tryd.params12] at ht
        have hm : t ∈ [9] := by simpa using Array.mem_of_getElem? ht
        have hall : ([9].all fun u => !Tryd.prog.wantsStandIn u) = true := by kernel_rfl
        exact (show Tryd.prog.wantsStandIn t = false by simpa using List.all_eq_true.1 hall t hm)⟩)
    (by kernel_rfl)
#print axioms proved

end Go.Proofs.YtphdmdncboegjaaDoor.rul.shown
