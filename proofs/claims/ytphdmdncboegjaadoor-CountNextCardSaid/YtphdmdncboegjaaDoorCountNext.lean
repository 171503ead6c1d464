/- CountNext: for every two numbers and each kind's number the call returns true, and all that was there reads as before. The package-level variables that its row lists start as the program's text lays them (the card ties them). -/
import Derived.Test.YtphdmdncboegjaaDoorCnt2
import Derived.Test.YtphdmdncboegjaaDoorLaidT
import Derived.Test.YtphdmdncboegjaaDoorDoor
import Derived.Test.YtphdmdncboegjaaDoorTie
import Derived.Test.YtphdmdncboegjaaDoorCards
namespace Go.Proofs.YtphdmdncboegjaaDoor.cnt.next
open Go.RowKit Go.Proofs.YtphdmdncboegjaaDoor.base Go.Proofs.YtphdmdncboegjaaDoor.tok Go.Proofs.YtphdmdncboegjaaDoor.dim Go.Proofs.YtphdmdncboegjaaDoor.cnt Go.ChangeShapes Go.WideShapes Go.ChangeAt
set_option linter.unusedVariables false

theorem rest_of (a : Int) (m : Nat) (hm : 0 < m) (hb : m ≤ 10000) : ∃ r : Nat, r < m ∧ (IntKind.u64.wrap a).tmod m = (r : Int) := by
  have h0 : 0 ≤ IntKind.u64.wrap a := by simp [IntKind.wrap, IntKind.bits, IntKind.signed]; omega
  generalize IntKind.u64.wrap a = v at *
  rw [Int.tmod_eq_emod_of_nonneg h0]
  have h1 := Int.emod_nonneg v (show (m : Int) ≠ 0 by omega)
  have h2 := Int.emod_lt_of_pos v (show (0 : Int) < m by omega)
  exact ⟨(v % m).toNat, by omega, by omega⟩
theorem mark_at (k r : Nat) (hk : k < 5) (hr : r < 3999) : ∀ w, PowAt w → Calls Tryd.prog 23 #[.int .i64 (2 + (k : Int)), .int .i64 (1 + (r : Int))] w fun e w' => e = .returned (.tuple #[.string (bs (markP (2 + k) (1 + r))), .int .i64 0]) ∧ Below w.heap.size w w' := fun w hT => by
  have := Mark_ct (2 + k) (1 + r) ⟨by omega, by omega⟩ (by omega) (by omega) w hT
  rwa [show ((2 + k : Nat) : Int) = 2 + (k : Int) from by omega, show ((1 + r : Nat) : Int) = 1 + (r : Int) from by omega] at this
theorem mark_let (r : Nat) (hr : r < 3999) : ∀ w, PowAt w → Calls Tryd.prog 23 #[.int .i64 3, .int .i64 (1 + (r : Int))] w fun e w' => e = .returned (.tuple #[.string (bs (letP (1 + r))), .int .i64 0]) ∧ Below w.heap.size w w' := fun w hT => by
  have := Mark_ct 3 (1 + r) ⟨by omega, by omega⟩ (by omega) (by omega) w hT
  rwa [show ((1 + r : Nat) : Int) = 1 + (r : Int) from by omega, show markP 3 (1 + r) = letP (1 + r) from rfl] at this

set_option maxRecDepth 100000 in
set_option maxHeartbeats 4000000 in
theorem law_ct (a b kind : Int) (w : World) (hT : PowAt w) :
    Calls Tryd.prog 8 #[.int .i64 a, .int .i64 b, .int .i64 kind] w fun e w' => e = .returned (.bool true) ∧ Below w.heap.size w w' := by
  obtain ⟨r, hr, q1⟩ := rest_of a 3999 (by decide) (by decide)
  obtain ⟨q, hq, q2⟩ := rest_of b 3999 (by decide) (by decide)
  obtain ⟨k, hk, q3⟩ := rest_of kind 5 (by decide) (by decide)
  replace q1 : (IntKind.u64.wrap a).tmod 3999 = (r : Int) := q1
  replace q2 : (IntKind.u64.wrap b).tmod 3999 = (q : Int) := q2
  replace q3 : (IntKind.u64.wrap kind).tmod 5 = (k : Int) := q3
  have w1 : IntKind.u64.wrap (r : Int) = r := by simp [IntKind.wrap, IntKind.bits, IntKind.signed]; omega
  have w2 : IntKind.u64.wrap (q : Int) = q := by simp [IntKind.wrap, IntKind.bits, IntKind.signed]; omega
  have w3 : IntKind.u64.wrap (k : Int) = k := by simp [IntKind.wrap, IntKind.bits, IntKind.signed]; omega
  have HT := Lib.hid hT
  have cS := mark_let r hr
  have cT := mark_let q hq
  have cU := mark_at k r hk hr
  have cV := mark_at k q hk hq
  have hrz : (r : Int) ≤ 3998 := by omega
  have hqz : (q : Int) ≤ 3998 := by omega
  have hkz : (k : Int) ≤ 4 := by omega
  have hsh := short_is (x := 1 + r) (y := 1 + q) ⟨by omega, by omega⟩ ⟨by omega, by omega⟩
  have hin := mark_inj (k := 2 + k) (x := 1 + r) (y := 1 + q) ⟨by omega, by omega⟩ ⟨by omega, by omega⟩
  have hirr := less_irr (letP (1 + r))
  generalize hS : letP (1 + r) = S at *
  generalize hTt : letP (1 + q) = T at *
  generalize hU : markP (2 + k) (1 + r) = U at *
  generalize hV : markP (2 + k) (1 + q) = V at *
  have lS : (bs S).size = S.length := rfl
  have lT : (bs T).size = T.length := rfl
  have HS := Lib.hid hS
  have HTt := Lib.hid hTt
  have HU := Lib.hid hU
  have HV := Lib.hid hV
  replace cS := Lib.hid cS
  replace cT := Lib.hid cT
  replace cU := Lib.hid cU
  replace cV := Lib.hid cV
  clear hT hS hTt hU hV
  by_cases hxy : r = q
  · subst hxy
    obtain rfl : S = T := HS.out.symm.trans HTt.out
    obtain rfl : U = V := HU.out.symm.trans HV.out
    have b3 : Op.bytesLess (bs S).toList (bs S).toList = false := by rw [bs_toList]; exact hirr
    clear hsh hin hirr lS lT hr hq hk
    go_enter Tryd.func8, Tryd.ntmps8
    go_wp2_with ((go_at_call 22; (with_reducible refine (fourth_ct _ HT.out).mono ?_); rintro e W1 ⟨rfl, hb1⟩; have HB1 := Lib.hid hb1; clear hb1))
    go_wp2_with (first
      | (go_at_call 23; (with_reducible refine (cS.out _ (HT.out.on HB1.out)).mono ?_); rintro e W2 ⟨rfl, hb2⟩; have HB2 := Lib.hid (HB1.out.trans (hb2.mono HB1.out.size)); clear hb2 cS))
    go_wp2_with (first
      | (go_at_call 23; (with_reducible refine (cT.out _ (HT.out.on HB2.out)).mono ?_); rintro e W3 ⟨rfl, hb3⟩; have HB3 := Lib.hid (HB2.out.trans (hb3.mono HB2.out.size)); clear hb3 cT))
    go_wp2_with (first
      | (go_at_call 23; (with_reducible refine (cU.out _ (HT.out.on HB3.out)).mono ?_); rintro e W4 ⟨rfl, hb4⟩; have HB4 := Lib.hid (HB3.out.trans (hb4.mono HB3.out.size)); clear hb4 cU))
    go_wp2_with (first
      | (go_at_call 23; (with_reducible refine (cV.out _ (HT.out.on HB4.out)).mono ?_); rintro e W5 ⟨rfl, hb5⟩; have HB5 := Lib.hid (HB4.out.trans (hb5.mono HB4.out.size)); clear hb5 cV))
    go_ret
    exact ⟨rfl, HB5.out⟩
  · have hUV : U ≠ V := fun h => hxy (by have := hin.1 h; omega)
    have b1 : ((bs U).toList == (bs V).toList) = false := by rw [bs_toList, bs_toList]; simpa using hUV
    have b2 : ((1 + (r : Int)) == 1 + (q : Int)) = false := by simp; omega
    have b2' : ((r : Int) == (q : Int)) = false := by simp; omega
    by_cases hlt : r < q
    · have hlt' : (1 + (r : Int)) < 1 + (q : Int) := by omega
      have hlt2 : (r : Int) < (q : Int) := by omega
      rw [decide_eq_true (by omega)] at hsh
      simp only [shortB, Bool.or_eq_true, Bool.and_eq_true, decide_eq_true_eq] at hsh
      rcases hsh with hsh | ⟨h1, h2⟩
      · have l1 : ((bs S).size : Int) < ((bs T).size : Int) := by omega
        clear hsh hin hirr lS lT hr hq hk hxy hUV
        go_enter Tryd.func8, Tryd.ntmps8
        go_wp2_with ((go_at_call 22; (with_reducible refine (fourth_ct _ HT.out).mono ?_); rintro e W1 ⟨rfl, hb1⟩; have HB1 := Lib.hid hb1; clear hb1))
        go_wp2_with (first
          | (go_at_call 23; (with_reducible refine (cS.out _ (HT.out.on HB1.out)).mono ?_); rintro e W2 ⟨rfl, hb2⟩; have HB2 := Lib.hid (HB1.out.trans (hb2.mono HB1.out.size)); clear hb2 cS))
        go_wp2_with (first
          | (go_at_call 23; (with_reducible refine (cT.out _ (HT.out.on HB2.out)).mono ?_); rintro e W3 ⟨rfl, hb3⟩; have HB3 := Lib.hid (HB2.out.trans (hb3.mono HB2.out.size)); clear hb3 cT))
        go_wp2_with (first
          | (go_at_call 23; (with_reducible refine (cU.out _ (HT.out.on HB3.out)).mono ?_); rintro e W4 ⟨rfl, hb4⟩; have HB4 := Lib.hid (HB3.out.trans (hb4.mono HB3.out.size)); clear hb4 cU))
        go_wp2_with (first
          | (go_at_call 23; (with_reducible refine (cV.out _ (HT.out.on HB4.out)).mono ?_); rintro e W5 ⟨rfl, hb5⟩; have HB5 := Lib.hid (HB4.out.trans (hb5.mono HB4.out.size)); clear hb5 cV))
        go_ret
        exact ⟨rfl, HB5.out⟩
      · have l1 : ((bs S).size : Int) = ((bs T).size : Int) := by omega
        have l2 : ¬ ((bs S).size : Int) < ((bs T).size : Int) := by omega
        have l3 : (((bs S).size : Int) == ((bs T).size : Int)) = true := by simp; omega
        have b3 : Op.bytesLess (bs S).toList (bs T).toList = true := by rw [bs_toList, bs_toList]; exact h2
        clear h1 h2 hin hirr lS lT hr hq hk hxy hUV l1
        go_enter Tryd.func8, Tryd.ntmps8
        go_wp2_with ((go_at_call 22; (with_reducible refine (fourth_ct _ HT.out).mono ?_); rintro e W1 ⟨rfl, hb1⟩; have HB1 := Lib.hid hb1; clear hb1))
        go_wp2_with (first
          | (go_at_call 23; (with_reducible refine (cS.out _ (HT.out.on HB1.out)).mono ?_); rintro e W2 ⟨rfl, hb2⟩; have HB2 := Lib.hid (HB1.out.trans (hb2.mono HB1.out.size)); clear hb2 cS))
        go_wp2_with (first
          | (go_at_call 23; (with_reducible refine (cT.out _ (HT.out.on HB2.out)).mono ?_); rintro e W3 ⟨rfl, hb3⟩; have HB3 := Lib.hid (HB2.out.trans (hb3.mono HB2.out.size)); clear hb3 cT))
        go_wp2_with (first
          | (go_at_call 23; (with_reducible refine (cU.out _ (HT.out.on HB3.out)).mono ?_); rintro e W4 ⟨rfl, hb4⟩; have HB4 := Lib.hid (HB3.out.trans (hb4.mono HB3.out.size)); clear hb4 cU))
        go_wp2_with (first
          | (go_at_call 23; (with_reducible refine (cV.out _ (HT.out.on HB4.out)).mono ?_); rintro e W5 ⟨rfl, hb5⟩; have HB5 := Lib.hid (HB4.out.trans (hb5.mono HB4.out.size)); clear hb5 cV))
        go_ret
        exact ⟨rfl, HB5.out⟩
    · have hlt' : ¬ (1 + (r : Int)) < 1 + (q : Int) := by omega
      have hlt2 : ¬ (r : Int) < (q : Int) := by omega
      have hlt3 : (q : Int) < (r : Int) := by omega
      rw [decide_eq_false (by omega)] at hsh
      simp only [shortB, Bool.or_eq_false_iff, Bool.and_eq_false_iff, decide_eq_false_iff_not] at hsh
      obtain ⟨h0, h1⟩ := hsh
      by_cases hl : S.length = T.length
      · have l2 : ¬ ((bs S).size : Int) < ((bs T).size : Int) := by omega
        have l3 : (((bs S).size : Int) == ((bs T).size : Int)) = true := by simp; omega
        have b3 : Op.bytesLess (bs S).toList (bs T).toList = false := by rw [bs_toList, bs_toList]; exact h1.resolve_left (fun h => h hl)
        have l4 : decide ((bs S).size < (bs T).size) = false := decide_eq_false (by omega)
        clear h0 h1 hl hin hirr lS lT hr hq hk hxy hUV
        go_enter Tryd.func8, Tryd.ntmps8
        go_wp2_with ((go_at_call 22; (with_reducible refine (fourth_ct _ HT.out).mono ?_); rintro e W1 ⟨rfl, hb1⟩; have HB1 := Lib.hid hb1; clear hb1))
        go_wp2_with (first
          | (go_at_call 23; (with_reducible refine (cS.out _ (HT.out.on HB1.out)).mono ?_); rintro e W2 ⟨rfl, hb2⟩; have HB2 := Lib.hid (HB1.out.trans (hb2.mono HB1.out.size)); clear hb2 cS))
        go_wp2_with (first
          | (go_at_call 23; (with_reducible refine (cT.out _ (HT.out.on HB2.out)).mono ?_); rintro e W3 ⟨rfl, hb3⟩; have HB3 := Lib.hid (HB2.out.trans (hb3.mono HB2.out.size)); clear hb3 cT))
        go_wp2_with (first
          | (go_at_call 23; (with_reducible refine (cU.out _ (HT.out.on HB3.out)).mono ?_); rintro e W4 ⟨rfl, hb4⟩; have HB4 := Lib.hid (HB3.out.trans (hb4.mono HB3.out.size)); clear hb4 cU))
        go_wp2_with (first
          | (go_at_call 23; (with_reducible refine (cV.out _ (HT.out.on HB4.out)).mono ?_); rintro e W5 ⟨rfl, hb5⟩; have HB5 := Lib.hid (HB4.out.trans (hb5.mono HB4.out.size)); clear hb5 cV))
        go_ret
        exact ⟨rfl, HB5.out⟩
      · have l2 : ¬ ((bs S).size : Int) < ((bs T).size : Int) := by omega
        have l3 : (((bs S).size : Int) == ((bs T).size : Int)) = false := by simp; omega
        have l4 : decide ((bs S).size < (bs T).size) = false := decide_eq_false (by omega)
        clear h0 h1 hl hin hirr lS lT hr hq hk hxy hUV
        go_enter Tryd.func8, Tryd.ntmps8
        go_wp2_with ((go_at_call 22; (with_reducible refine (fourth_ct _ HT.out).mono ?_); rintro e W1 ⟨rfl, hb1⟩; have HB1 := Lib.hid hb1; clear hb1))
        go_wp2_with (first
          | (go_at_call 23; (with_reducible refine (cS.out _ (HT.out.on HB1.out)).mono ?_); rintro e W2 ⟨rfl, hb2⟩; have HB2 := Lib.hid (HB1.out.trans (hb2.mono HB1.out.size)); clear hb2 cS))
        go_wp2_with (first
          | (go_at_call 23; (with_reducible refine (cT.out _ (HT.out.on HB2.out)).mono ?_); rintro e W3 ⟨rfl, hb3⟩; have HB3 := Lib.hid (HB2.out.trans (hb3.mono HB2.out.size)); clear hb3 cT))
        go_wp2_with (first
          | (go_at_call 23; (with_reducible refine (cU.out _ (HT.out.on HB3.out)).mono ?_); rintro e W4 ⟨rfl, hb4⟩; have HB4 := Lib.hid (HB3.out.trans (hb4.mono HB3.out.size)); clear hb4 cU))
        go_wp2_with (first
          | (go_at_call 23; (with_reducible refine (cV.out _ (HT.out.on HB4.out)).mono ?_); rintro e W5 ⟨rfl, hb5⟩; have HB5 := Lib.hid (HB4.out.trans (hb5.mono HB4.out.size)); clear hb5 cV))
        go_ret
        exact ⟨rfl, HB5.out⟩

set_option maxRecDepth 100000 in
theorem lifted (os : Os) (started : os.Started) (H : Type) (enc : TypeId × Value → H) :
    ReturnsInHanded {} Tryd.checked os 8 .any (fun w args => (Rows.countNextSpec.pre enc Tryd.prog Tryd.f8 Rows.countNextRow.domain false w args ∧ laidMetH Tryd.prog Rows.countNextRow.laid w) ∧ sizedMet enc Tryd.prog Tryd.f8 (OpenSpec.ofChange Rows.countNextSpec) false w args)
      (Rows.countNextSpec.post enc Tryd.prog Tryd.f8 false true false false) := by
  refine returns_door (C := Tryd.checked) (X := fun w _ => laidMetH Tryd.prog Rows.countNextRow.laid w) (fun _ _ _ hh h => h.of_heap hh) ownD started (by kernel_rfl) Tryd.func8
    (ChangeSpec.witness_shaped (enc := enc) (C := Tryd.checked) (os := os) (X := fun w _ => laidMetH Tryd.prog Rows.countNextRow.laid w) false (World.laidAll Tryd.prog os Rows.countNextRow.laid) #[.int .i64 0, .int .i64 0, .int .i64 0] 8 (World.laidAll_os _ _ _)
      (World.shaped_of_ZipB (by kernel_rfl) (by kernel_rfl)) (by kernel_rfl) (by kernel_rfl) (by kernel_rfl)
      (by rw [MakeChecks.laidMetH_plain _ _ _ (by kernel_rfl)]; exact laidMet_laidAll _ (by kernel_rfl) (by kernel_rfl))) ?_
  intro W base args ds gs before hval0 hW _ hlaid hsh
  have hval : ∀ (j : Nat) t v, Tryd.f8.params[j]? = some t → args[j]? = some v → Value.okWide Tryd.prog W .any base t v := hval0
  have hW' := hW
  obtain ⟨p, q, hA0, hV, -, -, -⟩ := hW
  have hA : DataW.TrodAll enc Tryd.prog W 0 (fun _ => true) true Tryd.f8.params.toList args.toList ds p := hA0
  rw [Tryd.params8] at hA hval
  obtain ⟨v0, vs0, d0, ds0, p0, q0, hargs, rfl, -, h0, r0⟩ := trodAll_cons hA
  obtain ⟨v1, vs1, d1, ds1, p1, q1, rfl, rfl, -, h1, r1⟩ := trodAll_cons r0
  obtain ⟨v2, vs2, d2, ds2, p2, q2, rfl, rfl, -, h2, r2⟩ := trodAll_cons r1
  obtain ⟨rfl, rfl, -⟩ := trodAll_nil r2
  obtain rfl : args = #[v0, v1, v2] := by cases args; simp_all
  obtain ⟨rfl, -⟩ := trodVars_none hV
  obtain ⟨a, rfl, -, -, -⟩ := open_int Tryd.underlying3 (hval 0 _ _ rfl rfl) h0
  obtain ⟨b, rfl, -, -, -⟩ := open_int Tryd.underlying3 (hval 1 _ _ rfl rfl) h1
  obtain ⟨u, rfl, -, -, -⟩ := open_int Tryd.underlying3 (hval 2 _ _ rfl rfl) h2
  rw [MakeChecks.laidMetH_plain _ _ _ (by kernel_rfl)] at hlaid
  exact (law_ct a b u W (pow_of hlaid (by simp [Rows.countNextRow]))).mono fun e W' ⟨he, bel⟩ => ⟨_, he, law_post laidOutD rfl Tryd.underlying4 rfl (by intro t ht; rw [Tryd.params8] at ht; revert t; decide +kernel) rfl hW' bel⟩

theorem holds : Rows.CountNextSaid :=
  OpenClaim.holds_of_wide 8 Tryd.f8 rfl rfl rfl rfl rfl rfl rfl ⟨rfl, rfl, rfl, rfl, rfl⟩ rfl rfl rfl rfl rfl (by kernel_rfl) Tryd.func8 (by kernel_rfl)
    (of_decide_eq_true (by kernel_rfl)) (by unfold Func.isWrapper; first | (rw [if_pos (by decide +kernel)]; kernel_rfl) | (rw [if_neg (by decide +kernel)]; exact ⟨rfl, rfl⟩))
    (fun os started H enc _ => lifted os started H enc)

theorem proved : Rows.CountNextCardSaid :=
  Claim7.holds_tied_plain_at .later [] Rows.countNextCard.laidKinds true Rows.countNextCard.stood.harness false holds (fun _ h => by cases h) (by kernel_rfl) (fun _ h => by cases h) countNext_row_tie rfl ⟨rfl, rfl⟩ (by kernel_rfl) rfl
    (fun f fn hf hfn => by
      obtain rfl : f = 8 := Option.some.inj ((show Tryd.prog.funcNamed "clerestory/clerestorykeep2.CountNext" = some 8 by kernel_rfl).symm.trans hf) |>.symm
      obtain rfl : fn = Tryd.f8 := (Option.some.inj (Tryd.func8.symm.trans hfn)).symm
      exact ⟨by kernel_rfl, fun j t ht => by
        rw [Tryd.params8] at ht
        have hm : t ∈ [3, 3, 3] := by simpa using Array.mem_of_getElem? ht
        have hall : ([3, 3, 3].all fun u => !Tryd.prog.wantsStandIn u) = true := by kernel_rfl
        exact (show Tryd.prog.wantsStandIn t = false by simpa using List.all_eq_true.1 hall t hm)⟩)
    (by kernel_rfl)
#print axioms proved

end Go.Proofs.YtphdmdncboegjaaDoor.cnt.next
