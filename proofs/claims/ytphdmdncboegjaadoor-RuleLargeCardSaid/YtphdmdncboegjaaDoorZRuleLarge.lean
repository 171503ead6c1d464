/- RuleLarge: for every two numbers the call returns true, and all that was there reads as before. The package-level variables that its row lists start as the program's text lays them (the card ties them). -/
import Derived.Test.YtphdmdncboegjaaDoorBG
import Derived.Test.YtphdmdncboegjaaDoorBH
import Derived.Test.YtphdmdncboegjaaDoorTie
import Derived.Test.YtphdmdncboegjaaDoorCards

namespace Go.Proofs.YtphdmdncboegjaaDoor.rul.large
open Go.RowKit Go.Proofs.YtphdmdncboegjaaDoor.base Go.Proofs.YtphdmdncboegjaaDoor.tok Go.Proofs.YtphdmdncboegjaaDoor.rul
set_option linter.unusedVariables false

theorem rest_of (a : Int) (m : Nat) (hm : 0 < m) (hb : m ≤ 10000) : ∃ r : Nat, r < m ∧ (IntKind.u64.wrap a).tmod m = (r : Int) := by
  have h0 : 0 ≤ IntKind.u64.wrap a := by simp [IntKind.wrap, IntKind.bits, IntKind.signed]; omega
  generalize IntKind.u64.wrap a = v at *
  rw [Int.tmod_eq_emod_of_nonneg h0]
  have h1 := Int.emod_nonneg v (show (m : Int) ≠ 0 by omega)
  have h2 := Int.emod_lt_of_pos v (show (0 : Int) < m by omega)
  exact ⟨(v % m).toNat, by omega, by omega⟩
theorem sheet_rule : ∀ i, sheet i 0 ++ [97, 123, 125] = sheet (i + 1) 0
  | 0 => rfl
  | i + 1 => by
    show 97 :: 123 :: 125 :: (sheet i 0 ++ [97, 123, 125]) = _
    rw [sheet_rule i]
    rfl
theorem sheet_blank : ∀ k j, sheet k j ++ [32] = sheet k (j + 1)
  | 0, j => by
    show List.replicate j 32 ++ [32] = List.replicate (j + 1) 32
    rw [List.replicate_succ']
  | k + 1, j => by
    show 97 :: 123 :: 125 :: (sheet k j ++ [32]) = _
    rw [sheet_blank k j]
    rfl

set_option maxRecDepth 100000 in
set_option maxHeartbeats 4000000 in
theorem law_ct (n u : Int) (w : World) (hF : FoldAt w) (hm : MaxL w) :
    Calls Tryd.prog 11 #[.int .i64 n, .int .i64 u] w fun e w' => e = .returned (.bool true) ∧ Below w.heap.size w w' := by
  obtain ⟨k, hk, q1⟩ := rest_of n 80 (by decide) (by decide)
  obtain ⟨b, hb, q2⟩ := rest_of u 3200 (by decide) (by decide)
  replace q1 : (IntKind.u64.wrap n).tmod 80 = (k : Int) := q1
  replace q2 : (IntKind.u64.wrap u).tmod 3200 = (b : Int) := q2
  have w1 : IntKind.u64.wrap (k : Int) = k := by simp [IntKind.wrap, IntKind.bits, IntKind.signed]; omega
  have w2 : IntKind.u64.wrap (b : Int) = b := by simp [IntKind.wrap, IntKind.bits, IntKind.signed]; omega
  have hki : (k : Int) ≤ 79 := by omega
  have hbi : (b : Int) ≤ 3199 := by omega
  have HF := Lib.hid hF
  have HM := Lib.hid hm
  have HKB := Lib.hid (And.intro hk hb)
  clear hF hm hk hb
  go_enter Tryd.func11, Tryd.ntmps11
  go_wp2_with ((go_at_call 29; (with_reducible refine (ruleFact_ct _ HF.out HM.out).mono ?_); rintro e W1 ⟨rfl, hb1⟩; have HB1 := Lib.hid hb1; clear hb1))
  go_loopw [8, 9] (fun s i wr => ∃ m : Nat, m ≤ k ∧ i = .int .i64 m ∧ s = .string (bs (sheet m 0)) ∧ wr = W1) (fun _ i _ => k - (intOf i).toNat)
  case atStart => exact ⟨0, by omega, rfl, rfl, rfl⟩
  case round =>
    obtain ⟨m, hmk, rfl, rfl, hwr⟩ := hrel
    obtain rfl := hwr.symm
    by_cases hlt : m < k
    · have hlt' : (m : Int) < (k : Int) := by omega
      have hsz : (bs (sheet m 0)).size = 3 * m := by rw [bs_size, sheet_len]; omega
      have hz : ¬ 9223372036854775807 < (bs (sheet m 0)).size + 3 := by rw [hsz]; omega
      have HE := Lib.hid (show bs (sheet m 0) ++ ⟨#[97, 123, 125]⟩ = bs (sheet (m + 1) 0) by rw [← sheet_rule]; exact ByteArray.ext (by simp [bs, ByteArray.data_append]))
      clear hsz
      go_wp2
      go_roundw
      case rel => exact ⟨m + 1, by omega, by go_num, by rw [HE.out], by trivial⟩
      case measure => simp [intOf]; omega
    · obtain rfl : m = k := by omega
      clear hlt hmk
      go_wp2_with fail
      go_loopw [8, 10] (fun s i wr => ∃ j : Nat, j ≤ b ∧ i = .int .i64 j ∧ s = .string (bs (sheet m j)) ∧ wr = W1) (fun _ i _ => b - (intOf i).toNat)
      case atStart => exact ⟨0, by omega, rfl, rfl, rfl⟩
      case round =>
        obtain ⟨j, hjb, rfl, rfl, hwr⟩ := hrel
        obtain rfl := hwr.symm
        by_cases hlt : j < b
        · have hlt' : (j : Int) < (b : Int) := by omega
          have hsz : (bs (sheet m j)).size = 3 * m + j := by rw [bs_size, sheet_len]
          have hz : ¬ 9223372036854775807 < (bs (sheet m j)).size + 1 := by rw [hsz]; have := HKB.out; omega
          have HE := Lib.hid (show bs (sheet m j) ++ ⟨#[32]⟩ = bs (sheet m (j + 1)) by rw [← sheet_blank]; exact ByteArray.ext (by simp [bs, ByteArray.data_append]))
          clear hsz
          go_wp2
          go_roundw
          case rel => exact ⟨j + 1, by omega, by go_num, by rw [HE.out], by trivial⟩
          case measure => simp [intOf]; omega
        · obtain rfl : j = b := by omega
          clear hlt hjb
          have hsz : (bs (sheet m j)).size = 3 * m + j := by rw [bs_size, sheet_len]
          by_cases h60 : 60 < m
          · have h60i : (60 : Int) < (m : Int) := by omega
            have hP : ParseP (sheet m j) = none := by rw [parse_sheet]; split; rfl; rfl
            have cP := Lib.hid (Parse_none (sheet m j) hP)
            clear hP
            go_wp2_with ((go_at_call 30; (with_reducible refine (cP.out _ (HF.out.on HB1.out) (HM.out.on HB1.out HM.out.lt)).mono ?_); rintro e W2 ⟨rfl, hb2⟩; have HB2 := Lib.hid (HB1.out.trans (hb2.mono HB1.out.size)); clear hb2))
            go_ret
            exact ⟨rfl, HB2.out⟩
          · have h60i : ¬ (60 : Int) < (m : Int) := by omega
            by_cases h3 : 3000 < 3 * m + j
            · have h3i : (3000 : Int) < ((bs (sheet m j)).size : Int) := by rw [hsz]; omega
              have hP : ParseP (sheet m j) = none := by rw [parse_sheet, if_pos h3]
              have cP := Lib.hid (Parse_none (sheet m j) hP)
              clear hP hsz
              go_wp2_with ((go_at_call 30; (with_reducible refine (cP.out _ (HF.out.on HB1.out) (HM.out.on HB1.out HM.out.lt)).mono ?_); rintro e W2 ⟨rfl, hb2⟩; have HB2 := Lib.hid (HB1.out.trans (hb2.mono HB1.out.size)); clear hb2))
              go_ret
              exact ⟨rfl, HB2.out⟩
            · have h3i : ¬ (3000 : Int) < ((bs (sheet m j)).size : Int) := by rw [hsz]; omega
              have hP : ParseP (sheet m j) = some (List.replicate m ruleA) := by rw [parse_sheet, if_neg h3, if_neg h60]
              have cP := Lib.hid (Parse_some (sheet m j) _ hP)
              have hlen : (List.replicate m ruleA).length = m := by simp
              clear hP hsz
              go_wp2_with ((go_at_call 30; (with_reducible refine (cP.out _ (HF.out.on HB1.out) (HM.out.on HB1.out HM.out.lt)).mono ?_); rintro e W2 ⟨⟨v2, rfl, hr2, hf2⟩, hb2⟩; obtain ⟨A2, cap2, rfl, hx2⟩ := hr2; clear hx2 hf2; rw [hlen]; have HB2 := Lib.hid (HB1.out.trans (hb2.mono HB1.out.size)); clear hb2))
              go_ret
              exact ⟨rfl, HB2.out⟩

end Go.Proofs.YtphdmdncboegjaaDoor.rul.large

namespace Go.Proofs.YtphdmdncboegjaaDoor.rul.large
open Go.RowKit Go.Proofs.YtphdmdncboegjaaDoor.base Go.Proofs.YtphdmdncboegjaaDoor.tok Go.Proofs.YtphdmdncboegjaaDoor.rul Go.ChangeShapes Go.WideShapes Go.ChangeAt
set_option linter.unusedVariables false

set_option maxRecDepth 100000 in
theorem lifted (os : Os) (started : os.Started) (H : Type) (enc : TypeId × Value → H) :
    ReturnsInHanded {} Tryd.checked os 11 .any (fun w args => (Rows.ruleLargeSpec.pre enc Tryd.prog Tryd.f11 Rows.ruleLargeRow.domain false w args ∧ laidMetH Tryd.prog Rows.ruleLargeRow.laid w) ∧ sizedMet enc Tryd.prog Tryd.f11 (OpenSpec.ofChange Rows.ruleLargeSpec) false w args)
      (Rows.ruleLargeSpec.post enc Tryd.prog Tryd.f11 false true false false) := by
  refine returns_door (C := Tryd.checked) (X := fun w _ => laidMetH Tryd.prog Rows.ruleLargeRow.laid w) (fun _ _ _ hh h => h.of_heap hh) ownD started (by kernel_rfl) Tryd.func11
    (ChangeSpec.witness_shaped (enc := enc) (C := Tryd.checked) (os := os) (X := fun w _ => laidMetH Tryd.prog Rows.ruleLargeRow.laid w) false (World.laidAll Tryd.prog os Rows.ruleLargeRow.laid) #[.int .i64 0, .int .i64 0] 8 (World.laidAll_os _ _ _)
      (World.shaped_of_ZipB (by kernel_rfl) (by kernel_rfl)) (by kernel_rfl) (by kernel_rfl) (by kernel_rfl)
      (by rw [MakeChecks.laidMetH_plain _ _ _ (by kernel_rfl)]; exact laidMet_laidAll _ (by kernel_rfl) (by kernel_rfl))) ?_
  intro W base args ds gs before hval0 hW hsz hlaid hsh
  have hval : ∀ (j : Nat) t v, Tryd.f11.params[j]? = some t → args[j]? = some v → Value.okWide Tryd.prog W .any base t v := hval0
  have hW' := hW
  obtain ⟨p, q, hA0, hV, -, -, -⟩ := hW
  have hA : DataW.TrodAll enc Tryd.prog W 0 (fun _ => true) true Tryd.f11.params.toList args.toList ds p := hA0
  rw [Tryd.params11] at hA hval
  obtain ⟨v0, vs0, d0, ds0, p0, q0, hargs, rfl, -, h0, r0⟩ := trodAll_cons hA
  obtain ⟨v1, vs1, d1, ds1, p1, q1, rfl, rfl, -, h1, r1⟩ := trodAll_cons r0
  obtain ⟨rfl, rfl, -⟩ := trodAll_nil r1
  obtain rfl : args = #[v0, v1] := by cases args; simp_all
  obtain ⟨rfl, -⟩ := trodVars_none hV
  obtain ⟨a, rfl, -, -, -⟩ := open_int Tryd.underlying3 (hval 0 _ _ rfl rfl) h0
  obtain ⟨b, rfl, -, -, -⟩ := open_int Tryd.underlying3 (hval 1 _ _ rfl rfl) h1
  rw [MakeChecks.laidMetH_plain _ _ _ (by kernel_rfl)] at hlaid
  exact (law_ct a b W (fold_of hlaid (by simp [Rows.ruleLargeRow])) (maxLen_of hsh)).mono fun e W' ⟨he, bel⟩ => ⟨_, he, law_post laidOutD rfl Tryd.underlying4 rfl (by intro t ht; rw [Tryd.params11] at ht; revert t; decide +kernel) rfl hW' bel⟩

theorem holds : Rows.RuleLargeSaid :=
  OpenClaim.holds_of_wide 11 Tryd.f11 rfl rfl rfl rfl rfl rfl rfl ⟨rfl, rfl, rfl, rfl, rfl⟩ rfl rfl rfl rfl rfl (by kernel_rfl) Tryd.func11 (by kernel_rfl)
    (of_decide_eq_true (by kernel_rfl)) (by unfold Func.isWrapper; first | (rw [if_pos (by decide +kernel)]; kernel_rfl) | (rw [if_neg (by decide +kernel)]; exact ⟨rfl, rfl⟩))
    (fun os started H enc _ => lifted os started H enc)

theorem proved : Rows.RuleLargeCardSaid :=
  Claim7.holds_tied_plain_at .later [] Rows.ruleLargeCard.laidKinds true Rows.ruleLargeCard.stood.harness false holds (fun _ h => by cases h) (by kernel_rfl) (fun _ h => by cases h) ruleLarge_row_tie rfl ⟨rfl, rfl⟩ (by kernel_rfl) rfl
    (fun f fn hf hfn => by
      obtain rfl : f = 11 := Option.some.inj ((show Tryd.prog.funcNamed "clerestory/clerestorykeep2.RuleLarge" = some 11 by kernel_rfl).symm.trans hf) |>.symm
      obtain rfl : fn = Tryd.f11 := (Option.some.inj (Tryd.func11.symm.trans hfn)).symm
      exact ⟨by kernel_rfl, fun j t ht => by
        rw [Tryd.params11] at ht
        have hm : t ∈ [3, 3] := by simpa using Array.mem_of_getElem? ht
        have hall : ([3, 3].all fun u => !Tryd.prog.wantsStandIn u) = true := by kernel_rfl
        exact (show Tryd.prog.wantsStandIn t = false by simpa using List.all_eq_true.1 hall t hm)⟩)
    (by kernel_rfl)
#print axioms proved

end Go.Proofs.YtphdmdncboegjaaDoor.rul.large
