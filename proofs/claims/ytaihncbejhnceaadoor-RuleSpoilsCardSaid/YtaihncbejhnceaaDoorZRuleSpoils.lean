/- RuleSpoils: for every two texts and each number the call returns true, and all that was there reads as before. The package-level variables that its row lists start as the program's text lays them (the card ties them). -/
import Derived.Test.YtaihncbejhnceaaDoorBG
import Derived.Test.YtaihncbejhnceaaDoorBJ
import Derived.Test.YtaihncbejhnceaaDoorBN
import Derived.Test.YtaihncbejhnceaaDoorBH
import Derived.Test.YtaihncbejhnceaaDoorTie
import Derived.Test.YtaihncbejhnceaaDoorCards

namespace Go.Proofs.YtaihncbejhnceaaDoor.rul.rspoils
open Go.RowKit Go.Proofs.YtaihncbejhnceaaDoor.base Go.Proofs.YtaihncbejhnceaaDoor.tok Go.Proofs.YtaihncbejhnceaaDoor.rul
set_option linter.unusedVariables false

theorem len_le {R : List Rl} (h : fullG R ≤ 3000) : R.length ≤ 3000 := by
  have := fullG_len R
  omega

theorem rest_of (a : Int) (m : Nat) (hm : 0 < m) (hb : m ≤ 10000) : ∃ r : Nat, r < m ∧ (IntKind.u64.wrap a).tmod m = (r : Int) := by
  have h0 : 0 ≤ IntKind.u64.wrap a := by simp [IntKind.wrap, IntKind.bits, IntKind.signed]; omega
  generalize IntKind.u64.wrap a = v at *
  rw [Int.tmod_eq_emod_of_nonneg h0]
  have h1 := Int.emod_nonneg v (show (m : Int) ≠ 0 by omega)
  have h2 := Int.emod_lt_of_pos v (show (0 : Int) < m by omega)
  exact ⟨(v % m).toNat, by omega, by omega⟩
/-- what is left out, as the law lays it -/
abbrev badsA : Array Value := #[.string ⟨#[64, 120, 32, 39, 121, 39, 59]⟩, .string ⟨#[64, 120, 32, 123, 32, 97, 32, 123, 32, 98, 58, 32, 99, 32, 125, 32, 125]⟩, .string ⟨#[47, 42, 32, 123, 32, 42, 47]⟩, .string ⟨#[64, 120, 32, 40, 59, 41, 32, 91, 123, 125, 93, 32, 123, 32, 93, 32, 125]⟩, .string ⟨#[10, 12, 32]⟩, .string ⟨#[64, 120, 59, 64, 121, 59]⟩, .string ⟨#[39, 10, 123, 32, 97, 58, 32, 98, 32, 125]⟩, .string ⟨#[64, 109, 101, 100, 105, 97, 32, 39, 10, 32, 123, 32, 97, 32, 123, 32, 98, 58, 32, 99, 32, 125, 32, 125]⟩]
theorem bads_at : ∀ (r : Nat), r < 8 → badsA[r]? = some (.string (bs (badR r)))
  | 0, _ => rfl | 1, _ => rfl | 2, _ => rfl | 3, _ => rfl | 4, _ => rfl | 5, _ => rfl | 6, _ => rfl | 7, _ => rfl
  | n + 8, h => by omega
theorem bad_size (r : Nat) : (bs (badR r)).size ≤ 24 := by
  rw [bs_size]
  unfold badR
  split <;> decide
theorem parseP_rules {s : Bs} {R : List Rl} (h : ParseP s = some R) : R = rulesP 3 (cutP s) := by
  unfold ParseP at h
  split at h
  · exact absurd h (by simp)
  · split at h
    · exact absurd h (by simp)
    · exact (Option.some.inj h).symm

set_option maxRecDepth 100000 in
set_option maxHeartbeats 4000000 in
theorem early (s u : Bs) (n : Int) (r : Nat) (hr : r < 8) (q1 : (IntKind.u64.wrap n).tmod 8 = (r : Int)) (hu : (bs u).size ≤ 140737488351232) (b : Bool) (L2 L3 : List Rl) (E2 E3 : Int)
    (c1 : ∀ w, FoldAt w → MaxL w → Calls Tryd.prog 16 #[.string (bs s)] w fun e w' => ShownRet w w' s b e ∧ Below w.heap.size w w')
    (c2 : ∀ w, FoldAt w → MaxL w → Calls Tryd.prog 13 #[.string (bs u)] w fun e w' => ParseRet w w' L2 E2 e ∧ Below w.heap.size w w')
    (c3 : ∀ w, FoldAt w → MaxL w → Calls Tryd.prog 13 #[.string (bs (shownS s) ++ bs (badR r) ++ bs u)] w fun e w' => ParseRet w w' L3 E3 e ∧ Below w.heap.size w w')
    (hE : b = false ∨ (b = true ∧ E2 = 2) ∨ (b = true ∧ E2 = 0 ∧ E3 = 2)) (w : World) (hF : FoldAt w) (hm : MaxL w) :
    Calls Tryd.prog 5 #[.string (bs s), .string (bs u), .int .i64 n] w fun e w' => e = .returned (.bool true) ∧ Below w.heap.size w w' := by
  have HF := Lib.hid hF
  have HM := Lib.hid hm
  replace c1 := Lib.hid c1
  replace c2 := Lib.hid c2
  replace c3 := Lib.hid c3
  have y1 : (bs (shownS s)).size ≤ 3000 := by rw [bs_size]; exact shownS_len s
  have y2 : (bs (badR r)).size ≤ 24 := bad_size r
  have z1 : ¬ 9223372036854775807 < (bs (shownS s)).size + (bs (badR r)).size := by omega
  have z2 : ¬ 9223372036854775807 < (bs (shownS s)).size + (bs (badR r)).size + (bs u).size := by omega
  have harr := bads_at r hr
  have w1 : IntKind.u64.wrap (r : Int) = r := by simp [IntKind.wrap, IntKind.bits, IntKind.signed]; omega
  have hri : (r : Int) < 8 := by omega
  clear hF hm y1 hu y2 hr
  rcases hE with rfl | ⟨rfl, rfl⟩ | ⟨rfl, rfl, rfl⟩
  all_goals (
  go_enter Tryd.func5, Tryd.ntmps5
  go_wp2_with ((go_at_call 12; (with_reducible refine (ruleFact_ct _ HF.out HM.out).mono ?_); rintro e W1 ⟨rfl, hb1⟩; have HB1 := Lib.hid hb1; have HZ1 := Lib.hid hb1.size; clear hb1))
  go_wp2_with ((go_at_call 16; (with_reducible refine (c1.out _ (HF.out.on HB1.out) (HM.out.on HB1.out HM.out.lt)).mono ?_); rintro e W2 ⟨⟨A2, k2, rfl, hg2, hf2⟩, hb2⟩; have HB2 := Lib.hid (HB1.out.trans (hb2.mono HB1.out.size)); clear hb2 hg2 hf2 c1))
  go_wp2_with ((go_at_call 13; (with_reducible refine (c2.out _ (HF.out.on HB2.out) (HM.out.on HB2.out HM.out.lt)).mono ?_); rintro e W3 ⟨⟨A3, k3, rfl, hg3, hf3⟩, hb3⟩; have HB3 := Lib.hid (HB2.out.trans (hb3.mono HB2.out.size)); clear hb3 hg3 hf3 c2))
  go_wp2_with ((go_at_call 13; (with_reducible refine (c3.out _ (HF.out.on (HB3.out.alloc HB3.out.size _)) (HM.out.on (HB3.out.alloc HB3.out.size _) HM.out.lt)).mono ?_); rintro e W4 ⟨⟨A4, k4, rfl, hg4, hf4⟩, hb4⟩; have HB4 := Lib.hid ((HB3.out.alloc HB3.out.size _).trans (hb4.mono (by have := HB3.out.size; simp; omega))); clear hb4 hg4 hf4 c3))
  go_ret
  exact ⟨rfl, HB4.out⟩)

set_option maxRecDepth 100000 in
set_option maxHeartbeats 4000000 in
theorem late (s u : Bs) (n : Int) (r : Nat) (hr : r < 8) (q1 : (IntKind.u64.wrap n).tmod 8 = (r : Int)) (hu : (bs u).size ≤ 140737488351232) (L2 L3 : List Rl)
    (c1 : ∀ w, FoldAt w → MaxL w → Calls Tryd.prog 16 #[.string (bs s)] w fun e w' => ShownRet w w' s true e ∧ Below w.heap.size w w')
    (c2 : ∀ w, FoldAt w → MaxL w → Calls Tryd.prog 13 #[.string (bs u)] w fun e w' => ParseRet w w' L2 0 e ∧ Below w.heap.size w w')
    (c3 : ∀ w, FoldAt w → MaxL w → Calls Tryd.prog 13 #[.string (bs (shownS s) ++ bs (badR r) ++ bs u)] w fun e w' => ParseRet w w' L3 0 e ∧ Below w.heap.size w w')
    (h3 : L3 = parseL s ++ L2) (w : World) (hF : FoldAt w) (hm : MaxL w) :
    Calls Tryd.prog 5 #[.string (bs s), .string (bs u), .int .i64 n] w fun e w' => e = .returned (.bool true) ∧ Below w.heap.size w w' := by
  have HF := Lib.hid hF
  have HM := Lib.hid hm
  unfold ShownRet at c1
  replace c1 := Lib.hid c1
  replace c2 := Lib.hid c2
  replace c3 := Lib.hid c3
  have y1 : (bs (shownS s)).size ≤ 3000 := by rw [bs_size]; exact shownS_len s
  have y2 : (bs (badR r)).size ≤ 24 := bad_size r
  have z1 : ¬ 9223372036854775807 < (bs (shownS s)).size + (bs (badR r)).size := by omega
  have z2 : ¬ 9223372036854775807 < (bs (shownS s)).size + (bs (badR r)).size + (bs u).size := by omega
  have harr := bads_at r hr
  have w1 : IntKind.u64.wrap (r : Int) = r := by simp [IntKind.wrap, IntKind.bits, IntKind.signed]; omega
  have hri : (r : Int) < 8 := by omega
  generalize parseL s = L1 at *
  have H3 := Lib.hid h3
  obtain ⟨i0, hi, hz0, hz1, hz2⟩ := info_parts infoR
  have Hi := Lib.hid hi
  have Hz0 := Lib.hid hz0
  have Hz1 := Lib.hid hz1
  have Hz2 := Lib.hid hz2
  clear hF hm y1 hu y2 hr h3 hi hz0 hz1 hz2
  go_enter Tryd.func5, Tryd.ntmps5
  go_wp2_with ((go_at_call 12; (with_reducible refine (ruleFact_ct _ HF.out HM.out).mono ?_); rintro e W1 ⟨rfl, hb1⟩; have HB1 := Lib.hid hb1; have HZ1 := Lib.hid hb1.size; clear hb1))
  go_wp2_with ((go_at_call 16; (with_reducible refine (c1.out _ (HF.out.on HB1.out) (HM.out.on HB1.out HM.out.lt)).mono ?_); rintro e W2 ⟨⟨A2, k2, rfl, hg2, hf2⟩, hb2⟩; have HB2 := Lib.hid (HB1.out.trans (hb2.mono HB1.out.size)); have HZ2 := Lib.hid hb2.size; have HG2 := Lib.hid hg2; have HK2 := Lib.hid hg2.kept; have HN2 := Lib.hid (And.intro hf2 (len_le hf2)); clear hb2 hg2 hf2 c1))
  go_wp2_with ((go_at_call 13; (with_reducible refine (c2.out _ (HF.out.on HB2.out) (HM.out.on HB2.out HM.out.lt)).mono ?_); rintro e W3 ⟨⟨A3, k3, rfl, hg3, hf3⟩, hb3⟩; have HB3 := Lib.hid (HB2.out.trans (hb3.mono HB2.out.size)); have HZ3 := Lib.hid hb3.size; have HG23 := Lib.hid (HG2.out.on hb3); have HG3 := Lib.hid hg3; have HN3 := Lib.hid (And.intro hf3 (len_le hf3)); clear hb3 hg3 hf3 c2 HG2))
  go_wp2_with (first
    | (go_at_call 13; (with_reducible refine (c3.out _ (HF.out.on (HB3.out.alloc HB3.out.size _)) (HM.out.on (HB3.out.alloc HB3.out.size _) HM.out.lt)).mono ?_); rintro e W4 ⟨⟨A4, k4, rfl, hg4, hf4⟩, hb4⟩; have HB4 := Lib.hid ((HB3.out.alloc HB3.out.size _).trans (hb4.mono (by have := HB3.out.size; simp; omega))); have HZ4 := Lib.hid (show W3.heap.size ≤ W4.heap.size by have := hb4.size; simp at this; omega); have HG24 := Lib.hid ((HG23.out.on ((Below.refl _ _).alloc (Nat.le_refl _) _)).on hb4); have HG34 := Lib.hid ((HG3.out.on ((Below.refl _ _).alloc (Nat.le_refl _) _)).on hb4); have HG4 := Lib.hid hg4; have HN4 := Lib.hid (And.intro hf4 (len_le hf4)); clear hb4 hg4 hf4 c3 HG23 HG3; obtain ⟨vs1, hl1, hrow1, hr1⟩ := HG24.out; obtain ⟨vs2, hl2, hrow2, hr2⟩ := HG34.out; have HL1 := Lib.hid hl1; have HL2 := Lib.hid hl2; have HR1 := Lib.hid hrow1; have HR2 := Lib.hid hrow2; have HX1 := Lib.hid hr1; have HX2 := Lib.hid hr2; have HC2 := Lib.hid (rcells_one (base := 0) (v := .int .i64 0) (n := 0) hl2 hr2); clear hl1 hl2 hrow1 hrow2 hr1 hr2)
    | (at_builtin; refine wpList_append_rd rfl _ _ 23 rfl W1.heap.size 41 i0 _ 4 72 Tryd.underlying23 Hi.out Hz0.out Hz1.out Hz2.out rfl (by decide) _ _ _ rfl HR1.out _ _ _ _ rfl HR2.out HC2.out ?d3 ?d4 ?d5 ?_))
  case d3 => have := HN2.out; have := HN3.out; unfold maxLen; omega
  case d4 => have := HN2.out; have := HN3.out; omega
  case d5 => have := HZ2.out; have := HZ3.out; have := HZ4.out; omega
  intro v6 W6 hown hgrow hblk
  have HB6 := Lib.hid (below_app HB4.out hgrow HR1.out HZ1.out HB4.out.size)
  have hj := rsl_join vs1 vs2 HL1.out HL2.out HX1.out HX2.out hown hgrow HK2.out
  have hf := rsl_far HG4.out hgrow (fun g hg => by have q1 := HK2.out g hg; have q2 := HZ3.out; simp; omega)
  obtain ⟨A6, k6, rfl⟩ := row_form hown
  have cE : Calls Tryd.prog 15 #[.slice A4 L3.length k4, .slice A6 (L1.length + L2.length) k6] W6 fun e w' => e = .returned (.bool true) ∧ ∃ m, w' = W6.drewN m := by
    have h := sameRules_ct 3000 L3 (L1 ++ L2) (HN4.out.1) (by have := HN4.out.1; omega) (by rw [← H3.out]; have := HN4.out.1; omega) _ _ W6 hf hj
    rwa [← H3.out, sameG_refl] at h
  replace cE := Lib.hid cE
  clear hgrow hown hf hj hblk
  go_wp2_with ((go_at_call 15; (with_reducible refine (cE.out).mono ?_); rintro e w7 ⟨rfl, m7, rfl⟩))
  go_ret
  exact ⟨rfl, below_drewN HB6.out m7⟩

theorem law_ct (a b : ByteArray) (n : Int) (w : World) (ha : a.size ≤ maxLen) (hb : b.size ≤ 140737488351232) (hF : FoldAt w) (hm : MaxL w) :
    Calls Tryd.prog 5 #[.string a, .string b, .int .i64 n] w fun e w' => e = .returned (.bool true) ∧ Below w.heap.size w w' := by
  rw [show a = bs a.data.toList from rfl, show b = bs b.data.toList from rfl]
  obtain ⟨r, hr, q1⟩ := rest_of n 8 (by decide) (by decide)
  generalize a.data.toList = s
  generalize hu : b.data.toList = u
  have hub : (bs u).size ≤ 140737488351232 := by rw [← hu]; exact hb
  have c1 := fun W hF hm => shown_ct s W hF hm
  have c2 := fun W hF hm => Parse_all u W hF hm
  have hC : bs (shownS s) ++ bs (badR r) ++ bs u = bs (shownS s ++ (badR r ++ u)) := ByteArray.ext (by simp [bs, ByteArray.data_append])
  have c3 := fun W hF hm => Parse_all (shownS s ++ (badR r ++ u)) W hF hm
  rw [← hC] at c3
  cases hb1 : shownB s with
  | false =>
    rw [hb1] at c1
    exact early s u n r hr q1 hub false _ _ _ _ c1 c2 c3 (.inl rfl) w hF hm
  | true =>
    rw [hb1] at c1
    rcases parseE_or u with h2 | h2
    · rcases parseE_or (shownS s ++ (badR r ++ u)) with h3 | h3
      · rw [h2] at c2
        rw [h3] at c3
        have e1 := parseP_rules (parseE_some h2)
        have e3 := parseP_rules (parseE_some h3)
        rw [congrArg (fun x => rulesP 3 (cutP (x ++ (badR r ++ u)))) (shownB_true hb1).2, rule_spoils (shownB_true hb1).1 r hr, ← e1] at e3
        exact late s u n r hr q1 hub _ _ c1 c2 c3 e3 w hF hm
      · exact early s u n r hr q1 hub true _ _ _ _ c1 c2 c3 (.inr (.inr ⟨rfl, h2, h3⟩)) w hF hm
    · exact early s u n r hr q1 hub true _ _ _ _ c1 c2 c3 (.inr (.inl ⟨rfl, h2⟩)) w hF hm

end Go.Proofs.YtaihncbejhnceaaDoor.rul.rspoils

namespace Go.Proofs.YtaihncbejhnceaaDoor.rul.rspoils
open Go.RowKit Go.Proofs.YtaihncbejhnceaaDoor.base Go.Proofs.YtaihncbejhnceaaDoor.tok Go.Proofs.YtaihncbejhnceaaDoor.rul Go.ChangeShapes Go.WideShapes Go.ChangeAt
set_option linter.unusedVariables false

set_option maxRecDepth 100000 in
theorem lifted (os : Os) (started : os.Started) (H : Type) (enc : TypeId × Value → H) :
    ReturnsInHanded {} Tryd.checked os 5 .any (fun w args => (Rows.ruleSpoilsSpec.pre enc Tryd.prog Tryd.f5 Rows.ruleSpoilsRow.domain false w args ∧ laidMetH Tryd.prog Rows.ruleSpoilsRow.laid w) ∧ sizedMet enc Tryd.prog Tryd.f5 (OpenSpec.ofChange Rows.ruleSpoilsSpec) false w args)
      (Rows.ruleSpoilsSpec.post enc Tryd.prog Tryd.f5 false true false false) := by
  refine returns_door (C := Tryd.checked) (X := fun w _ => laidMetH Tryd.prog Rows.ruleSpoilsRow.laid w) (fun _ _ _ hh h => h.of_heap hh) ownD started (by kernel_rfl) Tryd.func5
    (ChangeSpec.witness_shaped (enc := enc) (C := Tryd.checked) (os := os) (X := fun w _ => laidMetH Tryd.prog Rows.ruleSpoilsRow.laid w) false (World.laidAll Tryd.prog os Rows.ruleSpoilsRow.laid) #[.string .empty, .string .empty, .int .i64 0] 8 (World.laidAll_os _ _ _)
      (World.shaped_of_ZipB (by kernel_rfl) (by kernel_rfl)) (by kernel_rfl) (by kernel_rfl) (by kernel_rfl)
      (by rw [MakeChecks.laidMetH_plain _ _ _ (by kernel_rfl)]; exact laidMet_laidAll _ (by kernel_rfl) (by kernel_rfl))) ?_
  intro W base args ds gs before hval0 hW hsz hlaid hsh
  have hval : ∀ (j : Nat) t v, Tryd.f5.params[j]? = some t → args[j]? = some v → Value.okWide Tryd.prog W .any base t v := hval0
  have hW' := hW
  obtain ⟨p, q, hA0, hV, -, -, -⟩ := hW
  have hA : DataW.TrodAll enc Tryd.prog W 0 (fun _ => true) true Tryd.f5.params.toList args.toList ds p := hA0
  rw [Tryd.params5] at hA hval
  obtain ⟨v0, vs0, d0, ds0, p0, q0, hargs, rfl, -, h0, r0⟩ := trodAll_cons hA
  obtain ⟨v1, vs1, d1, ds1, p1, q1, rfl, rfl, -, h1, r1⟩ := trodAll_cons r0
  obtain ⟨v2, vs2, d2, ds2, p2, q2, rfl, rfl, -, h2, r2⟩ := trodAll_cons r1
  obtain ⟨rfl, rfl, -⟩ := trodAll_nil r2
  obtain rfl : args = #[v0, v1, v2] := by cases args; simp_all
  obtain ⟨rfl, -⟩ := trodVars_none hV
  rw [Tryd.params5] at hsz
  obtain ⟨a, rfl, -, -, hs0⟩ := Go.ChangeMaps.open_string Tryd.underlying9 (hval 0 _ _ rfl rfl) h0
  obtain ⟨b, rfl, hd1, -, hs1⟩ := Go.ChangeMaps.open_string Tryd.underlying9 (hval 1 _ _ rfl rfl) h1
  have hz1 : b.size ≤ 140737488351232 := by
    have := sized_string hsz (j := 1) rfl (by rw [hd1]; rfl)
    rwa [← Lib.size_eq] at this
  obtain ⟨c, rfl, -, -, -⟩ := open_int Tryd.underlying3 (hval 2 _ _ rfl rfl) h2
  rw [MakeChecks.laidMetH_plain _ _ _ (by kernel_rfl)] at hlaid
  exact (law_ct a b c W hs0 hz1 (fold_of hlaid (by simp [Rows.ruleSpoilsRow])) (maxLen_of hsh)).mono fun e W' ⟨he, bel⟩ => ⟨_, he, law_post laidOutD rfl Tryd.underlying4 rfl (by intro t ht; rw [Tryd.params5] at ht; revert t; decide +kernel) rfl hW' bel⟩

theorem holds : Rows.RuleSpoilsSaid :=
  OpenClaim.holds_of_wide 5 Tryd.f5 rfl rfl rfl rfl rfl rfl rfl ⟨rfl, rfl, rfl, rfl, rfl⟩ rfl rfl rfl rfl rfl (by kernel_rfl) Tryd.func5 (by kernel_rfl)
    (of_decide_eq_true (by kernel_rfl)) (by unfold Func.isWrapper; first | (rw [if_pos (by decide +kernel)]; kernel_rfl) | (rw [if_neg (by decide +kernel)]; exact ⟨rfl, rfl⟩))
    (fun os started H enc _ => lifted os started H enc)

theorem proved : Rows.RuleSpoilsCardSaid :=
  Claim7.holds_tied_plain_at .later [] Rows.ruleSpoilsCard.laidKinds true Rows.ruleSpoilsCard.stood.harness Rows.ruleSpoilsCard.stood.looks holds (fun _ h => by cases h) (by kernel_rfl) (fun _ h => by cases h) ruleSpoils_row_tie rfl ⟨rfl, rfl⟩ (by kernel_rfl) rfl
    (fun f fn hf hfn => by
      obtain rfl : f = 5 := Option.some.inj ((show Tryd.prog.funcNamed "clerestory/clerestorykeep2.RuleSpoils" = some 5 by kernel_rfl).symm.trans hf) |>.symm
      obtain rfl : fn = Tryd.f5 := (Option.some.inj (Tryd.func5.symm.trans hfn)).symm
      exact ⟨by kernel_rfl, fun j t ht => by
        rw [Tryd.params5] at ht
        have hm : t ∈ [9, 9, 3] := by simpa using Array.mem_of_getElem? ht
        have hall : ([9, 9, 3].all fun u => !Tryd.prog.wantsStandIn u) = true := by kernel_rfl
        exact (show Tryd.prog.wantsStandIn t = false by simpa using List.all_eq_true.1 hall t hm)⟩)
    (by kernel_rfl)
#print axioms proved

end Go.Proofs.YtaihncbejhnceaaDoor.rul.rspoils
