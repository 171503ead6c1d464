/- TokenAll: for every string the call returns true, and all that was there reads as before. The package-level variables that its row lists start as the program's text lays them (the card ties them). -/
import Derived.Test.YtphdmdncboegjaaDoorTok21
import Derived.Test.YtphdmdncboegjaaDoorDoor
import Derived.Test.YtphdmdncboegjaaDoorTie
import Derived.Test.YtphdmdncboegjaaDoorCards
namespace Go.Proofs.YtphdmdncboegjaaDoor.tok.all
open Go.RowKit Go.Proofs.YtphdmdncboegjaaDoor.base Go.Proofs.YtphdmdncboegjaaDoor.tok Go.ChangeShapes Go.WideShapes Go.ChangeAt
set_option linter.unusedVariables false

set_option maxRecDepth 100000 in
set_option maxHeartbeats 4000000 in
theorem law_ct (s : ByteArray) (w : World) (hs : s.size ≤ maxLen) (hm : MaxL w) :
    Calls Tryd.prog 5 #[.string s] w fun e w' => e = .returned (.bool true) ∧ Below w.heap.size w w' := by
  have cS : ∀ w, Calls Tryd.prog 17 #[.string s, .int .i64 3000] w fun e w' => e = .returned (.string (bs (s.data.toList.take 3000))) ∧ w = w' := fun w => short_ct s 3000 hs (by decide) w
  have hl : (s.data.toList.take 3000).length ≤ 3000 := by rw [List.length_take]; omega
  generalize s.data.toList.take 3000 = l at *
  replace cS := Lib.hid cS
  have cC : ∀ w, MaxL w → Calls Tryd.prog 16 #[.string (bs l)] w fun e w' => (∃ A cap, e = .returned (.slice A (cutP l).length cap) ∧ (cutP l).length ≤ cap ∧ TRd w' w'.heap.size A (cutP l).length (cutP l)) ∧ Below w.heap.size w w' := fun w hm => cut_ct (bs l) (by show l.length < _; omega) w hm
  have hfew := cut_few l
  have htx := Lib.hid (cut_text l)
  have hfull := Lib.hid (cut_full l)
  replace cC := Lib.hid cC
  generalize cutP l = L at *
  have hTl : (textOf L).length ≤ 140737488355328 := by rw [htx.out]; omega
  go_enter Tryd.func5, Tryd.ntmps5
  go_wp2_with ((go_at_call 15; (with_reducible refine (cutFact_ct _ hm).mono ?_); rintro e W1 ⟨rfl, hb1⟩))
  have hm1 := Lib.hid (hm.on hb1 hm.lt)
  have HB1 := Lib.hid hb1
  clear hb1
  go_wp2_with (first | (go_at_call 17; (with_reducible refine (cS.out _).mono ?_); rintro e w2 ⟨rfl, rfl⟩) | (go_at_call 16; (with_reducible refine (cC.out _ hm1.out).mono ?_); rintro e W2 ⟨⟨A, cap, rfl, hcap, hr⟩, hb2⟩; have HB2 := Lib.hid (HB1.out.trans (hb2.mono HB1.out.size)); have HR := Lib.hid hr; clear hb2 hr))
  go_loopw [5] (fun i wr => ∃ k : Nat, k ≤ L.length ∧ i = .int .i64 k ∧ wr = W2) (fun i _ => L.length - (intOf i).toNat)
  case atStart => exact ⟨0, by omega, rfl, rfl⟩
  case round =>
    obtain ⟨k, hk, rfl, rfl⟩ := hrel
    by_cases hlt : k < L.length
    · have hlt' : (k : Int) < (L.length : Int) := by omega
      obtain ⟨b, off, t, rfl, hb, hd, e0, e1, e2, e3⟩ := TRd.tok HR.out hlt
      have hne : (bs t.raw).toList.isEmpty = false := by
        rw [bs_toList]
        have := hfull.out t (List.mem_of_getElem? hd)
        cases ht : t.raw with
        | nil => exact absurd ht this
        | cons a r => rfl
      replace hd := Lib.hid hd
      go_wp2
      go_roundw
      case rel => exact ⟨k + 1, by omega, by go_num, by first | rfl | trivial⟩
      case measure => simp [intOf]; omega
    · obtain rfl : k = L.length := by omega
      have cT := Lib.hid (fun w hr => text_of_ct A L.length cap L w (by unfold maxLen; omega) hr hTl)
      have heq : ((bs (textOf L)).toList == (bs l).toList) = true := by rw [htx.out]; simp
      go_wp2_with ((go_at_call 19; (with_reducible refine (cT.out _ HR.out).mono ?_); rintro e W3 ⟨rfl, hb3⟩))
      go_ret
      exact ⟨rfl, HB2.out.trans (hb3.mono HB2.out.size)⟩

set_option maxRecDepth 100000 in
theorem lifted (os : Os) (started : os.Started) (H : Type) (enc : TypeId × Value → H) :
    ReturnsInHanded {} Tryd.checked os 5 .any (fun w args => (Rows.tokenAllSpec.pre enc Tryd.prog Tryd.f5 Rows.tokenAllRow.domain false w args ∧ laidMetH Tryd.prog Rows.tokenAllRow.laid w) ∧ sizedMet enc Tryd.prog Tryd.f5 (OpenSpec.ofChange Rows.tokenAllSpec) false w args)
      (Rows.tokenAllSpec.post enc Tryd.prog Tryd.f5 false true false false) := by
  refine returns_door (C := Tryd.checked) (X := fun w _ => laidMetH Tryd.prog Rows.tokenAllRow.laid w) (fun _ _ _ hh h => h.of_heap hh) ownD started (by kernel_rfl) Tryd.func5
    (ChangeSpec.witness_shaped (enc := enc) (C := Tryd.checked) (os := os) (X := fun w _ => laidMetH Tryd.prog Rows.tokenAllRow.laid w) false (World.laidAll Tryd.prog os Rows.tokenAllRow.laid) #[.string .empty] 8 (World.laidAll_os _ _ _)
      (World.shaped_of_ZipB (by kernel_rfl) (by kernel_rfl)) (by kernel_rfl) (by kernel_rfl) (by kernel_rfl)
      (by rw [MakeChecks.laidMetH_plain _ _ _ (by kernel_rfl)]; exact laidMet_laidAll _ (by kernel_rfl) (by kernel_rfl))) ?_
  intro W base args ds gs before hval0 hW _ _ hsh
  have hval : ∀ (j : Nat) t v, Tryd.f5.params[j]? = some t → args[j]? = some v → Value.okWide Tryd.prog W .any base t v := hval0
  have hW' := hW
  obtain ⟨p, q, hA0, hV, -, -, -⟩ := hW
  have hA : DataW.TrodAll enc Tryd.prog W 0 (fun _ => true) true Tryd.f5.params.toList args.toList ds p := hA0
  rw [Tryd.params5] at hA hval
  obtain ⟨v0, vs0, d0, ds0, p0, q0, hargs, rfl, -, h0, r0⟩ := trodAll_cons hA
  obtain ⟨rfl, rfl, -⟩ := trodAll_nil r0
  obtain rfl : args = #[v0] := by cases args; simp_all
  obtain ⟨rfl, -⟩ := trodVars_none hV
  obtain ⟨s, rfl, -, -, hs⟩ := Go.ChangeMaps.open_string Tryd.underlying9 (hval 0 _ _ rfl rfl) h0
  exact (law_ct s W hs (maxLen_of hsh)).mono fun e W' ⟨he, bel⟩ => ⟨_, he, law_post laidOutD rfl Tryd.underlying4 rfl (by intro t ht; rw [Tryd.params5] at ht; revert t; decide +kernel) rfl hW' bel⟩

theorem holds : Rows.TokenAllSaid :=
  OpenClaim.holds_of_wide 5 Tryd.f5 rfl rfl rfl rfl rfl rfl rfl ⟨rfl, rfl, rfl, rfl, rfl⟩ rfl rfl rfl rfl rfl (by kernel_rfl) Tryd.func5 (by kernel_rfl)
    (of_decide_eq_true (by kernel_rfl)) (by unfold Func.isWrapper; first | (rw [if_pos (by decide +kernel)]; kernel_rfl) | (rw [if_neg (by decide +kernel)]; exact ⟨rfl, rfl⟩))
    (fun os started H enc _ => lifted os started H enc)

theorem proved : Rows.TokenAllCardSaid :=
  Claim7.holds_tied_plain_at .later [] Rows.tokenAllCard.laidKinds true Rows.tokenAllCard.stood.harness false holds (fun _ h => by cases h) (by kernel_rfl) (fun _ h => by cases h) tokenAll_row_tie rfl ⟨rfl, rfl⟩ (by kernel_rfl) rfl
    (fun f fn hf hfn => by
      obtain rfl : f = 5 := Option.some.inj ((show Tryd.prog.funcNamed "clerestory/clerestorykeep2.TokenAll" = some 5 by kernel_rfl).symm.trans hf) |>.symm
      obtain rfl : fn = Tryd.f5 := (Option.some.inj (Tryd.func5.symm.trans hfn)).symm
      exact ⟨by kernel_rfl, fun j t ht => by
        rw [Tryd.params5] at ht
        have hm : t ∈ [9] := by simpa using Array.mem_of_getElem? ht
        have hall : ([9].all fun u => !Tryd.prog.wantsStandIn u) = true := by kernel_rfl
        exact (show Tryd.prog.wantsStandIn t = false by simpa using List.all_eq_true.1 hall t hm)⟩)
    (by kernel_rfl)
#print axioms proved

end Go.Proofs.YtphdmdncboegjaaDoor.tok.all
