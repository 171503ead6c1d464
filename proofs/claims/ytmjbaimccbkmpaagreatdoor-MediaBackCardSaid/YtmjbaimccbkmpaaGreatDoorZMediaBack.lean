/- MediaBack: for every text the call returns true, and all that was there reads as before. The package-level variables that its row lists start as the program's text lays them (the card ties them). -/
import Derived.Test.YtmjbaimccbkmpaaGreatDoorBI
import Derived.Test.YtmjbaimccbkmpaaGreatDoorBG
import Derived.Test.YtmjbaimccbkmpaaGreatDoorBE
import Derived.Test.YtmjbaimccbkmpaaGreatDoorTie
import Derived.Test.YtmjbaimccbkmpaaGreatDoorCards

namespace Go.Proofs.YtmjbaimccbkmpaaGreatDoor.med
open Go.RowKit Go.Proofs.YtmjbaimccbkmpaaGreatDoor.base Go.Proofs.YtmjbaimccbkmpaaGreatDoor.tok Go.Proofs.YtmjbaimccbkmpaaGreatDoor.rul
set_option linter.unusedVariables false

set_option maxRecDepth 100000 in
set_option maxHeartbeats 8000000 in
theorem back.law_ct (a : ByteArray) (w : World) (hs : a.size ≤ maxLen) (hE : MEnv w) :
    Calls Tryz.prog 4 #[.string a] w fun e w' => e = .returned (.bool true) ∧ Below w.heap.size w w' := by
  obtain ⟨s, rfl⟩ : ∃ s : Bs, a = bs s := ⟨a.data.toList, rfl⟩
  have hsl : s.length ≤ 9223372036854775807 := hs
  have HE := Lib.hid hE
  have cW := Lib.hid (wide_ct w hE)
  cases h : readP s with
  | none =>
    have hl : 400 < s.length := by
      unfold readP at h
      split at h
      · assumption
      · cases h
    have hz : (400 : Int) < ((bs s).size : Int) := by rw [bs_size]; omega
    have cR := Lib.hid (fun W hE => mread_none s hsl h W hE)
    clear hE h hs hsl hl
    go_enter Tryz.func4, Tryz.ntmps4
    go_wp2_with (first
      | (go_at_call 12; (with_reducible refine (cW.out).mono ?_); rintro e W1 ⟨rfl, hb1⟩; have HB1 := Lib.hid hb1; clear hb1)
      | (go_at_call 13; (with_reducible refine (cR.out _ (HE.out.on HB1.out)).mono ?_); rintro e W2 ⟨rfl, hb2⟩; have HB2 := Lib.hid (HB1.out.trans (hb2.mono HB1.out.size)); clear hb2))
    go_ret
    exact ⟨rfl, HB2.out⟩
  | some Q =>
    obtain ⟨hq0, hqg, hqc⟩ := read_good h
    obtain ⟨hQl, hfl⟩ := cnt_len Q
    have hQi : (Q.length : Int) ≤ 1203 := by omega
    have hQp : (0 : Int) < (Q.length : Int) := by have := List.length_pos_iff.2 hq0; omega
    have hrt := read_text hq0 hqg
    have hTl := text_len hqg hqc
    have cR := Lib.hid (fun W hE => mread_some s hsl Q h W hE)
    have cT := Lib.hid (fun v W hQ hE => mtext_ct v Q W hQ hqg hq0 hqc hE)
    have hQn : 0 < Q.length := List.length_pos_iff.2 hq0
    have cSe := Lib.hid (fun A1 A2 c1 c2 W h1 h2 => sameQ_eq A1 A2 c1 c2 Q (by omega) (fun q hq => by have := hfl q hq; omega) W h1 h2)
    have cSn := Lib.hid (fun A1 c1 W => sameQ_len A1 none Q.length 0 c1 0 (by omega) W)
    generalize textP Q = T at *
    by_cases hl : 400 < T.length
    · rw [if_pos hl] at hrt
      have cU := Lib.hid (fun W hE => mread_none T (by omega) hrt W hE)
      have hz : (400 : Int) < ((bs T).size : Int) := by rw [bs_size]; omega
      clear hE h hs hsl hl hq0 hqg hqc hQl hfl hrt hTl cSe
      go_enter Tryz.func4, Tryz.ntmps4
      go_wp2_with (first
        | (go_at_call 12; (with_reducible refine (cW.out).mono ?_); rintro e W1 ⟨rfl, hb1⟩; have HB1 := Lib.hid hb1; clear hb1)
        | (go_at_call 13; (with_reducible refine (cR.out _ (HE.out.on HB1.out)).mono ?_); rintro e W2 ⟨⟨A2, c2, rfl, hqs⟩, hb2⟩; have HB2 := Lib.hid (HB1.out.trans (hb2.mono HB1.out.size)); have HQ2 := Lib.hid hqs; clear hb2 hqs cR)
        | (go_at_call 14; (with_reducible refine (cT.out _ _ HQ2.out (HE.out.on HB2.out)).mono ?_); rintro e W3 ⟨rfl, hb3⟩; have HB3 := Lib.hid (HB2.out.trans (hb3.mono HB2.out.size)); clear hb3)
        | (go_at_call 13; (with_reducible refine (cU.out _ (HE.out.on HB3.out)).mono ?_); rintro e W4 ⟨rfl, hb4⟩; have HB4 := Lib.hid (HB3.out.trans (hb4.mono HB3.out.size)); clear hb4)
        | (go_at_call 15; (with_reducible refine (cSn.out _ _ _).mono ?_); rintro e W5 ⟨rfl, m5, rfl⟩))
      go_ret
      exact ⟨rfl, Go.Proofs.YtmjbaimccbkmpaaGreatDoor.base.below_drewN HB4.out _⟩
    · rw [if_neg hl] at hrt
      have cU := Lib.hid (fun W hE => mread_some T (by omega) Q hrt W hE)
      have hz : ¬ (400 : Int) < ((bs T).size : Int) := by rw [bs_size]; omega
      clear hE h hs hsl hl hq0 hqg hqc hQl hfl hrt hTl cSn
      go_enter Tryz.func4, Tryz.ntmps4
      go_wp2_with (first
        | (go_at_call 12; (with_reducible refine (cW.out).mono ?_); rintro e W1 ⟨rfl, hb1⟩; have HB1 := Lib.hid hb1; clear hb1)
        | (go_at_call 13; (with_reducible refine (cR.out _ (HE.out.on HB1.out)).mono ?_); rintro e W2 ⟨⟨A2, c2, rfl, hqs⟩, hb2⟩; have HB2 := Lib.hid (HB1.out.trans (hb2.mono HB1.out.size)); have HQ2 := Lib.hid hqs; clear hb2 hqs cR)
        | (go_at_call 14; (with_reducible refine (cT.out _ _ HQ2.out (HE.out.on HB2.out)).mono ?_); rintro e W3 ⟨rfl, hb3⟩; have HB3 := Lib.hid (HB2.out.trans (hb3.mono HB2.out.size)); have HQ3 := Lib.hid (HQ2.out.on hb3); clear hb3)
        | (go_at_call 13; (with_reducible refine (cU.out _ (HE.out.on HB3.out)).mono ?_); rintro e W4 ⟨⟨A4, c4, rfl, hqs4⟩, hb4⟩; have HB4 := Lib.hid (HB3.out.trans (hb4.mono HB3.out.size)); have HQ4 := Lib.hid hqs4; have HQ5 := Lib.hid (HQ3.out.on hb4); clear hb4 hqs4)
        | (go_at_call 15; (with_reducible refine (cSe.out _ _ _ _ _ HQ5.out HQ4.out).mono ?_); rintro e W5 ⟨rfl, m5, rfl⟩))
      go_ret
      exact ⟨rfl, Go.Proofs.YtmjbaimccbkmpaaGreatDoor.base.below_drewN HB4.out _⟩

end Go.Proofs.YtmjbaimccbkmpaaGreatDoor.med

namespace Go.Proofs.YtmjbaimccbkmpaaGreatDoor.med.back
open Go.RowKit Go.Proofs.YtmjbaimccbkmpaaGreatDoor.base Go.Proofs.YtmjbaimccbkmpaaGreatDoor.tok Go.Proofs.YtmjbaimccbkmpaaGreatDoor.med Go.ChangeShapes Go.WideShapes Go.ChangeAt
set_option linter.unusedVariables false

set_option maxRecDepth 100000 in
theorem lifted (os : Os) (started : os.Started) (H : Type) (enc : TypeId × Value → H) :
    ReturnsInHanded {} Tryz.checked os 4 .any (fun w args => (Rows.mediaBackSpec.pre enc Tryz.prog Tryz.f4 Rows.mediaBackRow.domain false w args ∧ laidMetH Tryz.prog Rows.mediaBackRow.laid w) ∧ sizedMet enc Tryz.prog Tryz.f4 (OpenSpec.ofChange Rows.mediaBackSpec) false w args)
      (Rows.mediaBackSpec.post enc Tryz.prog Tryz.f4 false true false false) := by
  refine returns_door (C := Tryz.checked) (X := fun w _ => laidMetH Tryz.prog Rows.mediaBackRow.laid w) (fun _ _ _ hh h => h.of_heap hh) ownD started (by kernel_rfl) Tryz.func4
    (ChangeSpec.witness_shaped (enc := enc) (C := Tryz.checked) (os := os) (X := fun w _ => laidMetH Tryz.prog Rows.mediaBackRow.laid w) false (World.laidAll Tryz.prog os Rows.mediaBackRow.laid) #[.string .empty] 8 (World.laidAll_os _ _ _)
      (World.shaped_of_ZipB (by kernel_rfl) (by kernel_rfl)) (by kernel_rfl) (by kernel_rfl) (by kernel_rfl)
      (by rw [MakeChecks.laidMetH_plain _ _ _ (by kernel_rfl)]; exact laidMet_laidAll _ (by kernel_rfl) (by kernel_rfl))) ?_
  intro W base args ds gs before hval0 hW hsz hlaid hsh
  have hval : ∀ (j : Nat) t v, Tryz.f4.params[j]? = some t → args[j]? = some v → Value.okWide Tryz.prog W .any base t v := hval0
  have hW' := hW
  obtain ⟨p, q, hA0, hV, -, -, -⟩ := hW
  have hA : DataW.TrodAll enc Tryz.prog W 0 (fun _ => true) true Tryz.f4.params.toList args.toList ds p := hA0
  rw [Tryz.params4] at hA hval
  obtain ⟨v0, vs0, d0, ds0, p0, q0, hargs, rfl, -, h0, r0⟩ := trodAll_cons hA
  obtain ⟨rfl, rfl, -⟩ := trodAll_nil r0
  obtain rfl : args = #[v0] := by cases args; simp_all
  obtain ⟨rfl, -⟩ := trodVars_none hV
  obtain ⟨a, rfl, -, -, hs0⟩ := Go.ChangeMaps.open_string Tryz.underlying9 (hval 0 _ _ rfl rfl) h0
  rw [MakeChecks.laidMetH_plain _ _ _ (by kernel_rfl)] at hlaid
  exact (law_ct a W hs0 ⟨maxLen_of hsh, words_laid hlaid (by simp [Rows.mediaBackRow]), dim.pow_of hlaid (by simp [Rows.mediaBackRow]), err_of (by kernel_rfl) (by kernel_rfl) hlaid.tail.tail.tail.tail.tail, err_of (by kernel_rfl) (by kernel_rfl) hlaid.tail.tail.tail.tail⟩).mono fun e W' ⟨he, bel⟩ => ⟨_, he, law_post laidOutD rfl Tryz.underlying4 rfl (by intro t ht; rw [Tryz.params4] at ht; revert t; decide +kernel) rfl hW' bel⟩

theorem holds : Rows.MediaBackSaid :=
  OpenClaim.holds_of_wide 4 Tryz.f4 rfl rfl rfl rfl rfl rfl rfl ⟨rfl, rfl, rfl, rfl, rfl⟩ rfl rfl rfl rfl rfl (by kernel_rfl) Tryz.func4 (by kernel_rfl)
    (of_decide_eq_true (by kernel_rfl)) (by unfold Func.isWrapper; first | (rw [if_pos (by decide +kernel)]; kernel_rfl) | (rw [if_neg (by decide +kernel)]; exact ⟨rfl, rfl⟩))
    (fun os started H enc _ => lifted os started H enc)

theorem proved : Rows.MediaBackCardSaid :=
  Claim7.holds_tied_plain_at .later [] Rows.mediaBackCard.laidKinds true Rows.mediaBackCard.stood.harness Rows.mediaBackCard.stood.looks holds (fun _ h => by cases h) (by kernel_rfl) (fun _ h => by cases h) mediaBack_row_tie rfl ⟨rfl, rfl⟩ (by kernel_rfl) rfl
    (fun f fn hf hfn => by
      obtain rfl : f = 4 := Option.some.inj ((show Tryz.prog.funcNamed "clerestory/clerestorykeep2.MediaBack" = some 4 by kernel_rfl).symm.trans hf) |>.symm
      obtain rfl : fn = Tryz.f4 := (Option.some.inj (Tryz.func4.symm.trans hfn)).symm
      exact ⟨by kernel_rfl, fun j t ht => by
        rw [Tryz.params4] at ht
        have hm : t ∈ [9] := by simpa using Array.mem_of_getElem? ht
        have hall : ([9].all fun u => !Tryz.prog.wantsStandIn u) = true := by kernel_rfl
        exact (show Tryz.prog.wantsStandIn t = false by simpa using List.all_eq_true.1 hall t hm)⟩)
    (by kernel_rfl)
#print axioms proved

end Go.Proofs.YtmjbaimccbkmpaaGreatDoor.med.back
