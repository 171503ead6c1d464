/- VarPlain: for every three texts the call returns true, and all that was there reads as before. The package-level variables that its row lists start as the program's text lays them (the card ties them). -/
import Derived.Test.YtmjbaimccbkmpaaDoorBG
import Derived.Test.YtmjbaimccbkmpaaDoorBA
import Derived.Test.YtmjbaimccbkmpaaDoorTie
import Derived.Test.YtmjbaimccbkmpaaDoorCards

namespace Go.Proofs.YtmjbaimccbkmpaaDoor.vrs
open Go.RowKit Go.Proofs.YtmjbaimccbkmpaaDoor.base Go.Proofs.YtmjbaimccbkmpaaDoor.tok Go.Proofs.YtmjbaimccbkmpaaDoor.rul
set_option linter.unusedVariables false

theorem vrd_one {W : World} {k : Nat} {t : TypeId} {p : Vr} (h : Blk W k t #[.string (bs p.1), .string (bs p.2)]) : VRd W W.heap.size (some ⟨k, 0, none⟩) 1 [p] := by
  refine ⟨rfl, fun _ => ⟨k, 0, rfl, h.lt, fun i d hd j hj => ?_⟩⟩
  have hi : i = 0 := by have := (List.getElem?_eq_some_iff.1 hd).1; simp at this; omega
  subst hi
  obtain rfl : p = d := by simpa using hd
  have hj2 : j = 0 ∨ j = 1 := by omega
  rcases hj2 with rfl | rfl <;> exact h.cell _
theorem vrd_two {W : World} {k : Nat} {t : TypeId} {p q : Vr} (h : Blk W k t #[.string (bs p.1), .string (bs p.2), .string (bs q.1), .string (bs q.2)]) : VRd W W.heap.size (some ⟨k, 0, none⟩) 2 [p, q] := by
  refine ⟨rfl, fun _ => ⟨k, 0, rfl, h.lt, fun i d hd j hj => ?_⟩⟩
  have hi : i = 0 ∨ i = 1 := by have := (List.getElem?_eq_some_iff.1 hd).1; simp at this; omega
  have hj2 : j = 0 ∨ j = 1 := by omega
  rcases hi with rfl | rfl
  · obtain rfl : p = d := by simpa using hd
    rcases hj2 with rfl | rfl <;> exact h.cell _
  · obtain rfl : q = d := by simpa using hd
    rcases hj2 with rfl | rfl <;> exact h.cell _
theorem env_of {w : World} (hF : FoldAt w) (hm : MaxL w) : VEnv w.heap.size w := fun w' h => ⟨hm.on h hm.lt, hF.on h⟩

/-- the law's own fact -/
theorem fact_ct (w : World) (hF : FoldAt w) (hm : MaxL w) :
    Calls Tryd.prog 7 #[] w fun e w' => e = .returned (.bool true) ∧ Below w.heap.size w w' := by
  have hE := env_of hF hm
  have cF := Lib.hid (show ∀ W1 t, Blk W1 w.heap.size t #[.string ⟨#[45, 45, 120]⟩, .string ⟨#[99]⟩] → Below w.heap.size w W1 → Calls Tryd.prog 8 #[.string ⟨#[97, 32, 118, 97, 114, 40, 45, 45, 120, 44, 32, 98, 41]⟩, .slice (some ⟨w.heap.size, 0, none⟩) 1 1] W1 fun e W2 => e = .returned (.tuple #[.string (bs [97, 32, 99]), .bool true]) ∧ Below W1.heap.size W1 W2 from fun W1 t h1 h2 => by
    have := fill_ct (b := w.heap.size) (V := [([45, 45, 120], [99])]) (by simp) (by simp) putT (by decide) (some ⟨w.heap.size, 0, none⟩) 1 W1 (vrd_one h1) h2.size (hE.on h2)
    rw [put_fact] at this
    exact this)
  clear hE hF hm
  have b1 : ((bs [97, 32, 99]).toList == [97, 32, 99]) = true := by rw [bs_toList]; rfl
  go_enter Tryd.func7, Tryd.ntmps7
  go_wp2_with (go_at_call 8; (with_reducible refine (cF.out _ _ (Blk.new rfl) ((Below.refl _ _).alloc (Nat.le_refl _) _)).mono ?_); rintro e W1 ⟨rfl, hb1⟩; have HB1 := Lib.hid (((Below.refl w.heap.size w).alloc (Nat.le_refl _) _).trans (hb1.mono (by simp))); clear hb1)
  go_ret
  exact ⟨rfl, HB1.out⟩

set_option maxRecDepth 100000 in
set_option maxHeartbeats 8000000 in
theorem plain_at (s n v : Bs) (w : World) (hs : s.length ≤ 140737488351232) (hv : v.length ≤ 140737488351232) (hF : FoldAt w) (hm : MaxL w) :
    Calls Tryd.prog 3 #[.string (bs s), .string (bs n), .string (bs v)] w fun e w' => e = .returned (.bool true) ∧ Below w.heap.size w w' := by
  have hE := env_of hF hm
  have cP := Lib.hid (fact_ct w hF hm)
  have cT := Lib.hid (show ∀ W1, Calls Tryd.prog 9 #[.string (bs s), .string ⟨#[40]⟩] W1 fun e w' => e = .returned (.bool (decide (40 ∈ s))) ∧ Below W1.heap.size W1 w' from fun W1 => by
    have := hasText_ct s [40] (by decide) (by omega) (by decide) W1
    rw [hasT_one] at this
    exact this)
  have c1 := fun W1 (k : Nat) (t : TypeId) (h1 : Blk W1 k t #[.string (bs n), .string (bs v)]) (h2 : Below w.heap.size w W1) => fill_ct (b := w.heap.size) (V := [(n, v)]) (by simp) (by simpa using hv) s (by omega) (some ⟨k, 0, none⟩) 1 W1 (vrd_one h1) h2.size (hE.on h2)
  have c2 := fun W1 (k : Nat) (t : TypeId) (h1 : Blk W1 k t #[.string (bs [45, 45, 97]), .string (bs v), .string (bs n), .string (bs s)]) (h2 : Below w.heap.size w W1) => fill_ct (b := w.heap.size) (V := [([45, 45, 97], v), (n, s)]) (by simp) (by simpa using ⟨hv, hs⟩) askT (by decide) (some ⟨k, 0, none⟩) 2 W1 (vrd_two h1) h2.size (hE.on h2)
  simp only [ask_fact, List.length_cons, List.length_nil, Nat.zero_add, Nat.reduceAdd] at c1 c2
  have hfirst : (decide (40 ∈ s) = true) ∨ (decide (40 ∈ s) = false ∧ decide (((bs s).size : Int) ≤ 400) = true ∧ fillP [(n, v)] s = (s, true)) ∨ (decide (40 ∈ s) = false ∧ decide (((bs s).size : Int) ≤ 400) = false ∧ fillP [(n, v)] s = ([], false)) := by
    by_cases h : 40 ∈ s
    · exact .inl (decide_eq_true h)
    · by_cases hl : s.length ≤ 400
      · exact .inr (.inl ⟨decide_eq_false h, decide_eq_true (by rw [bs_size]; omega), fill_stays h hl⟩)
      · exact .inr (.inr ⟨decide_eq_false h, decide_eq_false (by rw [bs_size]; omega), fill_large (by omega)⟩)
  have hwant : (((bs n).toList == [45, 45, 97]) = true ∧ wantP n s v = s) ∨ (((bs n).toList == [45, 45, 97]) = false ∧ wantP n s v = v) := by
    unfold wantP
    rw [bs_toList]
    by_cases h : n = [45, 45, 97]
    · exact .inl ⟨by simpa using h, if_pos h⟩
    · exact .inr ⟨by simpa using h, if_neg h⟩
  generalize hR : fillP [(n, v)] s = R at *
  obtain ⟨r, is⟩ := R
  generalize hD : decide (40 ∈ s) = D at *
  generalize hW : wantP n s v = wt at *
  have hlen : (wt.length ≤ 400 ∧ decide (((bs wt).size : Int) ≤ 400) = true) ∨ (¬ wt.length ≤ 400 ∧ decide (((bs wt).size : Int) ≤ 400) = false) := by
    rw [bs_size]
    by_cases h : wt.length ≤ 400
    · exact .inl ⟨h, decide_eq_true (by omega)⟩
    · exact .inr ⟨h, decide_eq_false (by omega)⟩
  clear hR hD hW hE hs hv hF hm
  have ss : ((bs s).toList != (bs s).toList) = false := by simp
  have ww : ((bs wt).toList == (bs wt).toList) = true := by simp
  replace c1 := Lib.hid c1
  rcases hfirst with rfl | ⟨rfl, hz, hRR⟩ | ⟨rfl, hz, hRR⟩
  case' inr.inl => injection hRR with h1 h2; subst h1 h2
  case' inr.inr => injection hRR with h1 h2; subst h1 h2
  all_goals
    rcases hlen with ⟨hl, hlz⟩ | ⟨hl, hlz⟩
    case' inl => simp only [hl, if_true] at c2
    case' inr => simp only [hl, if_false] at c2
    all_goals
      rcases hwant with ⟨hn, rfl⟩ | ⟨hn, rfl⟩
      all_goals (try exact absurd (hz.symm.trans hlz) (by decide))
      all_goals
        replace c2 := Lib.hid c2
        clear hl
        go_enter Tryd.func3, Tryd.ntmps3
        go_wp2_with (first
          | (go_at_call 7; (with_reducible refine (cP.out).mono ?_); rintro e W1 ⟨rfl, hb1⟩; have HB1 := Lib.hid hb1; clear hb1)
          | (go_at_call 8; (with_reducible refine (c1.out _ _ _ (Blk.new rfl) (HB1.out.alloc HB1.out.size _)).mono ?_); rintro e W2 ⟨rfl, hb2⟩; have HB2 := Lib.hid ((HB1.out.alloc HB1.out.size _).trans (hb2.mono (by have := HB1.out.size; simp; omega))); clear hb2)
          | (go_at_call 9; (with_reducible refine (cT.out _).mono ?_); rintro e W3 ⟨rfl, hb3⟩; have HB3 := Lib.hid (HB2.out.trans (hb3.mono HB2.out.size)); clear hb3)
          | (go_at_call 8; (refine (c2.out _ _ _ (Blk.new rfl) (HB3.out.alloc HB3.out.size _)).mono ?_); rintro e W4 ⟨rfl, hb4⟩; have HB4 := Lib.hid ((HB3.out.alloc HB3.out.size _).trans (hb4.mono (by have := HB3.out.size; simp; omega))); clear hb4))
        go_ret
        exact ⟨rfl, HB4.out⟩

theorem plain.law_ct (a n v : ByteArray) (w : World) (hs : a.size ≤ 140737488351232) (hn : n.size ≤ maxLen) (hv : v.size ≤ 140737488351232) (hF : FoldAt w) (hm : MaxL w) :
    Calls Tryd.prog 3 #[.string a, .string n, .string v] w fun e w' => e = .returned (.bool true) ∧ Below w.heap.size w w' :=
  plain_at a.data.toList n.data.toList v.data.toList w hs hv hF hm

end Go.Proofs.YtmjbaimccbkmpaaDoor.vrs

namespace Go.Proofs.YtmjbaimccbkmpaaDoor.vrs.plain
open Go.RowKit Go.Proofs.YtmjbaimccbkmpaaDoor.base Go.Proofs.YtmjbaimccbkmpaaDoor.tok Go.Proofs.YtmjbaimccbkmpaaDoor.vrs Go.ChangeShapes Go.WideShapes Go.ChangeAt
set_option linter.unusedVariables false

set_option maxRecDepth 100000 in
theorem lifted (os : Os) (started : os.Started) (H : Type) (enc : TypeId × Value → H) :
    ReturnsInHanded {} Tryd.checked os 3 .any (fun w args => (Rows.varPlainSpec.pre enc Tryd.prog Tryd.f3 Rows.varPlainRow.domain false w args ∧ laidMetH Tryd.prog Rows.varPlainRow.laid w) ∧ sizedMet enc Tryd.prog Tryd.f3 (OpenSpec.ofChange Rows.varPlainSpec) false w args)
      (Rows.varPlainSpec.post enc Tryd.prog Tryd.f3 false true false false) := by
  refine returns_door (C := Tryd.checked) (X := fun w _ => laidMetH Tryd.prog Rows.varPlainRow.laid w) (fun _ _ _ hh h => h.of_heap hh) ownD started (by kernel_rfl) Tryd.func3
    (ChangeSpec.witness_shaped (enc := enc) (C := Tryd.checked) (os := os) (X := fun w _ => laidMetH Tryd.prog Rows.varPlainRow.laid w) false (World.laidAll Tryd.prog os Rows.varPlainRow.laid) #[.string .empty, .string .empty, .string .empty] 8 (World.laidAll_os _ _ _)
      (World.shaped_of_ZipB (by kernel_rfl) (by kernel_rfl)) (by kernel_rfl) (by kernel_rfl) (by kernel_rfl)
      (by rw [MakeChecks.laidMetH_plain _ _ _ (by kernel_rfl)]; exact laidMet_laidAll _ (by kernel_rfl) (by kernel_rfl))) ?_
  intro W base args ds gs before hval0 hW hsz hlaid hsh
  have hval : ∀ (j : Nat) t v, Tryd.f3.params[j]? = some t → args[j]? = some v → Value.okWide Tryd.prog W .any base t v := hval0
  have hW' := hW
  obtain ⟨p, q, hA0, hV, -, -, -⟩ := hW
  have hA : DataW.TrodAll enc Tryd.prog W 0 (fun _ => true) true Tryd.f3.params.toList args.toList ds p := hA0
  rw [Tryd.params3] at hA hval
  obtain ⟨v0, vs0, d0, ds0, p0, q0, hargs, rfl, -, h0, r0⟩ := trodAll_cons hA
  obtain ⟨v1, vs1, d1, ds1, p1, q1, rfl, rfl, -, h1, r1⟩ := trodAll_cons r0
  obtain ⟨v2, vs2, d2, ds2, p2, q2, rfl, rfl, -, h2, r2⟩ := trodAll_cons r1
  obtain ⟨rfl, rfl, -⟩ := trodAll_nil r2
  obtain rfl : args = #[v0, v1, v2] := by cases args; simp_all
  obtain ⟨rfl, -⟩ := trodVars_none hV
  rw [Tryd.params3] at hsz
  obtain ⟨a, rfl, hd0, -, hs0⟩ := Go.ChangeMaps.open_string Tryd.underlying9 (hval 0 _ _ rfl rfl) h0
  have hz0 : a.size ≤ 140737488351232 := by
    have := sized_string hsz (j := 0) rfl (by rw [hd0]; rfl)
    rwa [← Lib.size_eq] at this
  obtain ⟨b, rfl, -, -, hs1⟩ := Go.ChangeMaps.open_string Tryd.underlying9 (hval 1 _ _ rfl rfl) h1
  obtain ⟨c, rfl, hd2, -, hs2⟩ := Go.ChangeMaps.open_string Tryd.underlying9 (hval 2 _ _ rfl rfl) h2
  have hz2 : c.size ≤ 140737488351232 := by
    have := sized_string hsz (j := 2) rfl (by rw [hd2]; rfl)
    rwa [← Lib.size_eq] at this
  rw [MakeChecks.laidMetH_plain _ _ _ (by kernel_rfl)] at hlaid
  exact (law_ct a b c W hz0 hs1 hz2 (fold_of hlaid (by simp [Rows.varPlainRow])) (maxLen_of hsh)).mono fun e W' ⟨he, bel⟩ => ⟨_, he, law_post laidOutD rfl Tryd.underlying4 rfl (by intro t ht; rw [Tryd.params3] at ht; revert t; decide +kernel) rfl hW' bel⟩

theorem holds : Rows.VarPlainSaid :=
  OpenClaim.holds_of_wide 3 Tryd.f3 rfl rfl rfl rfl rfl rfl rfl ⟨rfl, rfl, rfl, rfl, rfl⟩ rfl rfl rfl rfl rfl (by kernel_rfl) Tryd.func3 (by kernel_rfl)
    (of_decide_eq_true (by kernel_rfl)) (by unfold Func.isWrapper; first | (rw [if_pos (by decide +kernel)]; kernel_rfl) | (rw [if_neg (by decide +kernel)]; exact ⟨rfl, rfl⟩))
    (fun os started H enc _ => lifted os started H enc)

theorem proved : Rows.VarPlainCardSaid :=
  Claim7.holds_tied_plain_at .later [] Rows.varPlainCard.laidKinds true Rows.varPlainCard.stood.harness Rows.varPlainCard.stood.looks holds (fun _ h => by cases h) (by kernel_rfl) (fun _ h => by cases h) varPlain_row_tie rfl ⟨rfl, rfl⟩ (by kernel_rfl) rfl
    (fun f fn hf hfn => by
      obtain rfl : f = 3 := Option.some.inj ((show Tryd.prog.funcNamed "clerestory/clerestorykeep2.VarPlain" = some 3 by kernel_rfl).symm.trans hf) |>.symm
      obtain rfl : fn = Tryd.f3 := (Option.some.inj (Tryd.func3.symm.trans hfn)).symm
      exact ⟨by kernel_rfl, fun j t ht => by
        rw [Tryd.params3] at ht
        have hm : t ∈ [9, 9, 9] := by simpa using Array.mem_of_getElem? ht
        have hall : ([9, 9, 9].all fun u => !Tryd.prog.wantsStandIn u) = true := by kernel_rfl
        exact (show Tryd.prog.wantsStandIn t = false by simpa using List.all_eq_true.1 hall t hm)⟩)
    (by kernel_rfl)
#print axioms proved

end Go.Proofs.YtmjbaimccbkmpaaDoor.vrs.plain
