/- RuleWithin: for every text and each number the call returns true, and all that was there reads as before. The package-level variables that its row lists start as the program's text lays them (the card ties them). -/
import Derived.Test.YtaihncbejhnceaaDoorBG
import Derived.Test.YtaihncbejhnceaaDoorBJ
import Derived.Test.YtaihncbejhnceaaDoorBN
import Derived.Test.YtaihncbejhnceaaDoorBH
import Derived.Test.YtaihncbejhnceaaDoorTie
import Derived.Test.YtaihncbejhnceaaDoorCards

namespace Go.Proofs.YtaihncbejhnceaaDoor.rul.within
open Go.RowKit Go.Proofs.YtaihncbejhnceaaDoor.base Go.Proofs.YtaihncbejhnceaaDoor.tok Go.Proofs.YtaihncbejhnceaaDoor.rul
set_option linter.unusedVariables false

theorem len_le {R : List Rl} (h : fullG R ≤ 3000) : R.length ≤ 3000 := by
  have := fullG_len R
  omega

theorem rest_of (a : Int) (m : Nat) (hm : 0 < m) (hb : m ≤ 10000) : ∃ r : Nat, r < m ∧ (IntKind.u64.wrap a).tmod m = (r : Int) := by
  have h0 : 0 ≤ IntKind.u64.wrap a := by simp [IntKind.wrap, IntKind.bits, IntKind.signed]; omega
  generalize IntKind.u64.wrap a = v at *
  rw [Int.tmod_eq_emod_of_nonneg h0]
  have h1 := Int.emod_nonneg v (show (m : Int) ≠ 0 by omega)
  have h2 := Int.emod_lt_of_pos v (show (0 : Int) < m by omega)
  exact ⟨(v % m).toNat, by omega, by omega⟩
/-- the queries, as the law lays them -/
abbrev queriesA : Array Value := #[.string ⟨#[97, 108, 108]⟩, .string ⟨#[112, 114, 105, 110, 116]⟩, .string ⟨#[40, 109, 105, 110, 45, 119, 105, 100, 116, 104, 58, 32, 49, 112, 120, 41]⟩, .string ⟨#[110, 111, 116, 32, 97, 108, 108]⟩, .string ⟨#[]⟩, .string ⟨#[120, 32, 121]⟩]
theorem queries_at : ∀ (r : Nat), r < 6 → queriesA[r]? = some (.string (bs (queryQ r)))
  | 0, _ => rfl | 1, _ => rfl | 2, _ => rfl | 3, _ => rfl | 4, _ => rfl | 5, _ => rfl
  | n + 6, h => by omega
theorem query_size (r : Nat) : (bs (queryQ r)).size ≤ 16 := by
  rw [bs_size]
  unfold queryQ
  split <;> decide
theorem parseP_rules {s : Bs} {R : List Rl} (h : ParseP s = some R) : R = rulesP 3 (cutP s) := by
  unfold ParseP at h
  split at h
  · exact absurd h (by simp)
  · split at h
    · exact absurd h (by simp)
    · exact (Option.some.inj h).symm

/-- a new row of one rule over rules that stand -/
theorem rsl_new {W W' : World} {A2 : Option Addr} {k2 g : Nat} {L1 : List Rl} {q : Bs} (h : RSl W (.slice A2 L1.length k2) L1) (hb : Below W.heap.size W W') (hg : g < W'.heap.size)
    (hc : ∀ j, j < 4 → W'.cell? ⟨g, j, none⟩ = [Value.bool true, .string (bs q), .slice none 0 0, .slice A2 L1.length k2][j]?) : RSl W' (.slice (some ⟨g, 0, none⟩) 1 1) [.mk true q [] L1] := by
  obtain ⟨A', cap', hv, hc2, h0⟩ := h.on hb
  injection hv with e1 e2 e3
  subst e1 e3
  refine ⟨some ⟨g, 0, none⟩, 1, rfl, Nat.le_refl _, fun _ => ⟨g, 0, rfl, hg, ?_⟩⟩
  refine RowAt.mk_ [.mk true q [] L1] [[.bool true, .string (bs q), .slice none 0 0, .slice A2 L1.length k2]] 0 rfl (fun i r vs h1 h2 => ?_) (fun j hj => ?_)
  · rcases i with _ | i
    · obtain rfl := Option.some.inj h1
      obtain rfl := Option.some.inj h2
      unfold RuleAt
      exact ⟨none, 0, A2, k2, rfl, Nat.le_refl _, hc2, fun h => absurd h (by simp), h0⟩
    · simp at h1
  · rw [Nat.zero_add]
    exact hc j (by simpa using hj)

set_option maxRecDepth 100000 in
set_option maxHeartbeats 4000000 in
theorem early (s : Bs) (n : Int) (r : Nat) (hr : r < 6) (q1 : (IntKind.u64.wrap n).tmod 6 = (r : Int)) (b : Bool) (L3 : List Rl) (E3 : Int) (D : Nat) (hD : D = deepG (parseL s)) (hDb : D ≤ 1000000)
    (hh : ∀ x ∈ parseL s, (headOf x).length ≤ 1000000)
    (c1 : ∀ w, FoldAt w → MaxL w → Calls Tryd.prog 16 #[.string (bs s)] w fun e w' => ShownRet w w' s b e ∧ Below w.heap.size w w')
    (c3 : ∀ w, FoldAt w → MaxL w → Calls Tryd.prog 13 #[.string (⟨#[64, 77, 69, 68, 73, 65, 32]⟩ ++ bs (queryQ r) ++ ⟨#[123]⟩ ++ bs (shownS s) ++ ⟨#[125]⟩)] w fun e w' => ParseRet w w' L3 E3 e ∧ Below w.heap.size w w')
    (hE : b = false ∨ (b = true ∧ E3 = 2) ∨ (b = true ∧ E3 = 0 ∧ 3 ≤ (D : Int)) ∨ (b = true ∧ E3 = 0 ∧ ¬ 3 ≤ (D : Int) ∧ closesG (parseL s) = true)) (w : World) (hF : FoldAt w) (hm : MaxL w) :
    Calls Tryd.prog 6 #[.string (bs s), .int .i64 n] w fun e w' => e = .returned (.bool true) ∧ Below w.heap.size w w' := by
  have HF := Lib.hid hF
  have HM := Lib.hid hm
  unfold ShownRet at c1
  have cD := fun (hf : fullG (parseL s) ≤ 3000) v w hv => deep_ct 3000 (parseL s) hf (by omega) v w hv
  rw [← hD] at cD
  have cC := fun (hf : (parseL s).length ≤ 3000) v w hv => closes_ct (parseL s) (by omega) hh v w hv
  replace c1 := Lib.hid c1
  replace c3 := Lib.hid c3
  have y1 : (bs (shownS s)).size ≤ 3000 := by rw [bs_size]; exact shownS_len s
  have y2 : (bs (queryQ r)).size ≤ 16 := query_size r
  have harr := queries_at r hr
  have w1 : IntKind.u64.wrap (r : Int) = r := by simp [IntKind.wrap, IntKind.bits, IntKind.signed]; omega
  have hri : (r : Int) < 6 := by omega
  generalize hC : closesG (parseL s) = C at *
  generalize parseL s = L1 at *
  replace cD := Lib.hid cD
  replace cC := Lib.hid cC
  clear hF hm hr hD hh hC
  rcases hE with rfl | ⟨rfl, rfl⟩ | ⟨rfl, rfl, hd3⟩ | ⟨rfl, rfl, hd3, rfl⟩
  all_goals (
  go_enter Tryd.func6, Tryd.ntmps6
  go_wp2_with ((go_at_call 12; (with_reducible refine (ruleFact_ct _ HF.out HM.out).mono ?_); rintro e W1 ⟨rfl, hb1⟩; have HB1 := Lib.hid hb1; have HZ1 := Lib.hid hb1.size; clear hb1))
  go_wp2_with ((go_at_call 16; (with_reducible refine (c1.out _ (HF.out.on HB1.out) (HM.out.on HB1.out HM.out.lt)).mono ?_); rintro e W2 ⟨⟨A2, k2, rfl, hg2, hf2⟩, hb2⟩; have HB2 := Lib.hid (HB1.out.trans (hb2.mono HB1.out.size)); have HS2 := Lib.hid hg2.rs.sl; have HN2 := Lib.hid (And.intro hf2 (len_le hf2)); clear hb2 hg2 hf2 c1))
  go_wp2_with (first
    | (go_at_call 13; (with_reducible refine (c3.out _ (HF.out.on (HB2.out.alloc HB2.out.size _)) (HM.out.on (HB2.out.alloc HB2.out.size _) HM.out.lt)).mono ?_); rintro e W4 ⟨⟨A4, k4, rfl, hg4, hf4⟩, hb4⟩; have HB4 := Lib.hid ((HB2.out.alloc HB2.out.size _).trans (hb4.mono (by have := HB2.out.size; simp; omega))); have HS4 := Lib.hid ((HS2.out.on ((Below.refl _ _).alloc (Nat.le_refl _) _)).on hb4); clear hb4 hg4 hf4 c3 HS2)
    | (go_at_call 17; (with_reducible refine (cD.out HN2.out.1 _ _ HS4.out).mono ?_); rintro e W5 ⟨rfl, hb5⟩; have HB5 := Lib.hid (HB4.out.trans (hb5.mono HB4.out.size)); have HS5 := Lib.hid (HS4.out.on hb5); clear hb5 HS4 HB4)
    | (go_at_call 18; (with_reducible refine (cC.out HN2.out.2 _ _ HS5.out).mono ?_); rintro e W6 ⟨rfl, rfl⟩))
  go_ret
  exact ⟨rfl, by first | exact HB4.out | exact HB5.out⟩)

set_option maxRecDepth 100000 in
set_option maxHeartbeats 4000000 in
theorem late (s : Bs) (n : Int) (r : Nat) (hr : r < 6) (q1 : (IntKind.u64.wrap n).tmod 6 = (r : Int)) (L3 : List Rl) (D : Nat) (hD : D = deepG (parseL s)) (hDb : D ≤ 1000000) (hd3 : ¬ 3 ≤ (D : Int)) (hC : closesG (parseL s) = false)
    (hh : ∀ x ∈ parseL s, (headOf x).length ≤ 1000000)
    (c1 : ∀ w, FoldAt w → MaxL w → Calls Tryd.prog 16 #[.string (bs s)] w fun e w' => ShownRet w w' s true e ∧ Below w.heap.size w w')
    (c3 : ∀ w, FoldAt w → MaxL w → Calls Tryd.prog 13 #[.string (⟨#[64, 77, 69, 68, 73, 65, 32]⟩ ++ bs (queryQ r) ++ ⟨#[123]⟩ ++ bs (shownS s) ++ ⟨#[125]⟩)] w fun e w' => ParseRet w w' L3 0 e ∧ Below w.heap.size w w')
    (h3 : L3 = [.mk true (queryQ r) [] (parseL s)]) (w : World) (hF : FoldAt w) (hm : MaxL w) :
    Calls Tryd.prog 6 #[.string (bs s), .int .i64 n] w fun e w' => e = .returned (.bool true) ∧ Below w.heap.size w w' := by
  have HF := Lib.hid hF
  have HM := Lib.hid hm
  unfold ShownRet at c1
  have cD := fun (hf : fullG (parseL s) ≤ 3000) v w hv => deep_ct 3000 (parseL s) hf (by omega) v w hv
  rw [← hD] at cD
  have cC := fun (hf : (parseL s).length ≤ 3000) v w hv => closes_ct (parseL s) (by omega) hh v w hv
  rw [hC] at cC
  replace c1 := Lib.hid c1
  replace c3 := Lib.hid c3
  have y1 : (bs (shownS s)).size ≤ 3000 := by rw [bs_size]; exact shownS_len s
  have y2 : (bs (queryQ r)).size ≤ 16 := query_size r
  have harr := queries_at r hr
  have w1 : IntKind.u64.wrap (r : Int) = r := by simp [IntKind.wrap, IntKind.bits, IntKind.signed]; omega
  have hri : (r : Int) < 6 := by omega
  generalize parseL s = L1 at *
  replace cD := Lib.hid cD
  replace cC := Lib.hid cC
  have cS := fun (hf : fullG L3 ≤ 3000) v1 v2 W h1 (h2 : RSl W v2 [.mk true (queryQ r) [] L1]) => sameRules_ct 3000 L3 L3 hf (by omega) (by omega) v1 v2 W h1 (show RSl W v2 L3 by rw [h3]; exact h2)
  rw [sameG_refl] at cS
  replace cS := Lib.hid cS
  have H3 := Lib.hid h3
  clear hF hm hr hD hh hC h3
  go_enter Tryd.func6, Tryd.ntmps6
  go_wp2_with ((go_at_call 12; (with_reducible refine (ruleFact_ct _ HF.out HM.out).mono ?_); rintro e W1 ⟨rfl, hb1⟩; have HB1 := Lib.hid hb1; have HZ1 := Lib.hid hb1.size; clear hb1))
  go_wp2_with ((go_at_call 16; (with_reducible refine (c1.out _ (HF.out.on HB1.out) (HM.out.on HB1.out HM.out.lt)).mono ?_); rintro e W2 ⟨⟨A2, k2, rfl, hg2, hf2⟩, hb2⟩; have HB2 := Lib.hid (HB1.out.trans (hb2.mono HB1.out.size)); have HS2 := Lib.hid hg2.rs.sl; have HN2 := Lib.hid (And.intro hf2 (len_le hf2)); clear hb2 hg2 hf2 c1))
  go_wp2_with (first
    | (go_at_call 13; (with_reducible refine (c3.out _ (HF.out.on (HB2.out.alloc HB2.out.size _)) (HM.out.on (HB2.out.alloc HB2.out.size _) HM.out.lt)).mono ?_); rintro e W4 ⟨⟨A4, k4, rfl, hg4, hf4⟩, hb4⟩; have HB4 := Lib.hid ((HB2.out.alloc HB2.out.size _).trans (hb4.mono (by have := HB2.out.size; simp; omega))); have HS4 := Lib.hid ((HS2.out.on ((Below.refl _ _).alloc (Nat.le_refl _) _)).on hb4); have HR4 := Lib.hid hg4.rs.sl; have HN4 := Lib.hid hf4; clear hb4 hg4 hf4 c3 HS2)
    | (go_at_call 17; (with_reducible refine (cD.out HN2.out.1 _ _ HS4.out).mono ?_); rintro e W5 ⟨rfl, hb5⟩; have HB5 := Lib.hid (HB4.out.trans (hb5.mono HB4.out.size)); have HS5 := Lib.hid (HS4.out.on hb5); have HR5 := Lib.hid (HR4.out.on hb5); clear hb5 HS4 HB4 HR4)
    | (go_at_call 18; (with_reducible refine (cC.out HN2.out.2 _ _ HS5.out).mono ?_); rintro e W6 ⟨rfl, rfl⟩)
    | (go_at_call 15; (with_reducible refine (cS.out HN4.out _ _ _ (HR5.out.on ((Below.refl _ _).alloc (Nat.le_refl _) _)) (rsl_new HS5.out ((Below.refl _ _).alloc (Nat.le_refl _) _) (by simp) (fun j hj => ((Blk.new (w := W6) (t := 41) (cs := #[.bool true, .string (bs (queryQ r)), .slice none 0 0, .slice A2 L1.length k2]) rfl).cell j).trans (by simp)))).mono ?_); rintro e W7 ⟨rfl, m7, rfl⟩))
  go_ret
  exact ⟨rfl, below_drewN (HB5.out.alloc HB5.out.size _) m7⟩


theorem law_ct (a : ByteArray) (n : Int) (w : World) (ha : a.size ≤ maxLen) (hF : FoldAt w) (hm : MaxL w) :
    Calls Tryd.prog 6 #[.string a, .int .i64 n] w fun e w' => e = .returned (.bool true) ∧ Below w.heap.size w w' := by
  rw [show a = bs a.data.toList from rfl]
  obtain ⟨r, hr, q1⟩ := rest_of n 6 (by decide) (by decide)
  generalize a.data.toList = s
  have c1 := fun W hF hm => shown_ct s W hF hm
  have hC : (⟨#[64, 77, 69, 68, 73, 65, 32]⟩ ++ bs (queryQ r) ++ ⟨#[123]⟩ ++ bs (shownS s) ++ ⟨#[125]⟩ : ByteArray) = bs (withinT r (shownS s)) := ByteArray.ext (by simp [bs, ByteArray.data_append, withinT, mediaU])
  have c3 := fun W hF hm => Parse_all (withinT r (shownS s)) W hF hm
  rw [← hC] at c3
  obtain ⟨s', hs'⟩ := parseL_good s
  have hfull : fullG (parseL s) ≤ 3000 := by
    have h1 := (parse_good hs').2.2.1
    have h2 := (parse_good hs').2.2.2
    have h3 := rulesP_full 3 (cutP s')
    have h4 := cut_few s'
    rw [← h1] at h3
    omega
  have hDb : deepG (parseL s) ≤ 1000000 := by have := deepG_le (parseL s); omega
  have hh : ∀ x ∈ parseL s, (headOf x).length ≤ 1000000 := fun x hx => by have := good_heads (parse_good hs').1 x hx; omega
  cases hb1 : shownB s with
  | false =>
    rw [hb1] at c1
    exact early s n r hr q1 false _ _ _ rfl hDb hh c1 c3 (.inl rfl) w hF hm
  | true =>
    rw [hb1] at c1
    rcases parseE_or (withinT r (shownS s)) with h3 | h3
    · by_cases hd : 3 ≤ (deepG (parseL s) : Int)
      · exact early s n r hr q1 true _ _ _ rfl hDb hh c1 c3 (.inr (.inr (.inl ⟨rfl, h3, hd⟩))) w hF hm
      · cases hcl : closesG (parseL s) with
        | true => exact early s n r hr q1 true _ _ _ rfl hDb hh c1 c3 (.inr (.inr (.inr ⟨rfl, h3, hd, hcl⟩))) w hF hm
        | false =>
          rw [h3] at c3
          have e3 := parseP_rules (parseE_some h3)
          rw [congrArg (fun x => rulesP 3 (cutP (withinT r x))) (shownB_true hb1).2, rule_within (shownB_true hb1).1 r hr (by omega) (closes_not hcl)] at e3
          exact late s n r hr q1 _ _ rfl hDb hd hcl hh c1 c3 e3 w hF hm
    · exact early s n r hr q1 true _ _ _ rfl hDb hh c1 c3 (.inr (.inl ⟨rfl, h3⟩)) w hF hm

end Go.Proofs.YtaihncbejhnceaaDoor.rul.within

namespace Go.Proofs.YtaihncbejhnceaaDoor.rul.within
open Go.RowKit Go.Proofs.YtaihncbejhnceaaDoor.base Go.Proofs.YtaihncbejhnceaaDoor.tok Go.Proofs.YtaihncbejhnceaaDoor.rul Go.ChangeShapes Go.WideShapes Go.ChangeAt
set_option linter.unusedVariables false

set_option maxRecDepth 100000 in
theorem lifted (os : Os) (started : os.Started) (H : Type) (enc : TypeId × Value → H) :
    ReturnsInHanded {} Tryd.checked os 6 .any (fun w args => (Rows.ruleWithinSpec.pre enc Tryd.prog Tryd.f6 Rows.ruleWithinRow.domain false w args ∧ laidMetH Tryd.prog Rows.ruleWithinRow.laid w) ∧ sizedMet enc Tryd.prog Tryd.f6 (OpenSpec.ofChange Rows.ruleWithinSpec) false w args)
      (Rows.ruleWithinSpec.post enc Tryd.prog Tryd.f6 false true false false) := by
  refine returns_door (C := Tryd.checked) (X := fun w _ => laidMetH Tryd.prog Rows.ruleWithinRow.laid w) (fun _ _ _ hh h => h.of_heap hh) ownD started (by kernel_rfl) Tryd.func6
    (ChangeSpec.witness_shaped (enc := enc) (C := Tryd.checked) (os := os) (X := fun w _ => laidMetH Tryd.prog Rows.ruleWithinRow.laid w) false (World.laidAll Tryd.prog os Rows.ruleWithinRow.laid) #[.string .empty, .int .i64 0] 8 (World.laidAll_os _ _ _)
      (World.shaped_of_ZipB (by kernel_rfl) (by kernel_rfl)) (by kernel_rfl) (by kernel_rfl) (by kernel_rfl)
      (by rw [MakeChecks.laidMetH_plain _ _ _ (by kernel_rfl)]; exact laidMet_laidAll _ (by kernel_rfl) (by kernel_rfl))) ?_
  intro W base args ds gs before hval0 hW hsz hlaid hsh
  have hval : ∀ (j : Nat) t v, Tryd.f6.params[j]? = some t → args[j]? = some v → Value.okWide Tryd.prog W .any base t v := hval0
  have hW' := hW
  obtain ⟨p, q, hA0, hV, -, -, -⟩ := hW
  have hA : DataW.TrodAll enc Tryd.prog W 0 (fun _ => true) true Tryd.f6.params.toList args.toList ds p := hA0
  rw [Tryd.params6] at hA hval
  obtain ⟨v0, vs0, d0, ds0, p0, q0, hargs, rfl, -, h0, r0⟩ := trodAll_cons hA
  obtain ⟨v1, vs1, d1, ds1, p1, q1, rfl, rfl, -, h1, r1⟩ := trodAll_cons r0
  obtain ⟨rfl, rfl, -⟩ := trodAll_nil r1
  obtain rfl : args = #[v0, v1] := by cases args; simp_all
  obtain ⟨rfl, -⟩ := trodVars_none hV
  obtain ⟨a, rfl, -, -, hs0⟩ := Go.ChangeMaps.open_string Tryd.underlying9 (hval 0 _ _ rfl rfl) h0
  obtain ⟨b, rfl, -, -, -⟩ := open_int Tryd.underlying3 (hval 1 _ _ rfl rfl) h1
  rw [MakeChecks.laidMetH_plain _ _ _ (by kernel_rfl)] at hlaid
  exact (law_ct a b W hs0 (fold_of hlaid (by simp [Rows.ruleWithinRow])) (maxLen_of hsh)).mono fun e W' ⟨he, bel⟩ => ⟨_, he, law_post laidOutD rfl Tryd.underlying4 rfl (by intro t ht; rw [Tryd.params6] at ht; revert t; decide +kernel) rfl hW' bel⟩

theorem holds : Rows.RuleWithinSaid :=
  OpenClaim.holds_of_wide 6 Tryd.f6 rfl rfl rfl rfl rfl rfl rfl ⟨rfl, rfl, rfl, rfl, rfl⟩ rfl rfl rfl rfl rfl (by kernel_rfl) Tryd.func6 (by kernel_rfl)
    (of_decide_eq_true (by kernel_rfl)) (by unfold Func.isWrapper; first | (rw [if_pos (by decide +kernel)]; kernel_rfl) | (rw [if_neg (by decide +kernel)]; exact ⟨rfl, rfl⟩))
    (fun os started H enc _ => lifted os started H enc)

theorem proved : Rows.RuleWithinCardSaid :=
  Claim7.holds_tied_plain_at .later [] Rows.ruleWithinCard.laidKinds true Rows.ruleWithinCard.stood.harness Rows.ruleWithinCard.stood.looks holds (fun _ h => by cases h) (by kernel_rfl) (fun _ h => by cases h) ruleWithin_row_tie rfl ⟨rfl, rfl⟩ (by kernel_rfl) rfl
    (fun f fn hf hfn => by
      obtain rfl : f = 6 := Option.some.inj ((show Tryd.prog.funcNamed "clerestory/clerestorykeep2.RuleWithin" = some 6 by kernel_rfl).symm.trans hf) |>.symm
      obtain rfl : fn = Tryd.f6 := (Option.some.inj (Tryd.func6.symm.trans hfn)).symm
      exact ⟨by kernel_rfl, fun j t ht => by
        rw [Tryd.params6] at ht
        have hm : t ∈ [9, 3] := by simpa using Array.mem_of_getElem? ht
        have hall : ([9, 3].all fun u => !Tryd.prog.wantsStandIn u) = true := by kernel_rfl
        exact (show Tryd.prog.wantsStandIn t = false by simpa using List.all_eq_true.1 hall t hm)⟩)
    (by kernel_rfl)
#print axioms proved

end Go.Proofs.YtaihncbejhnceaaDoor.rul.within
