/- TokenAlone: for every string the call returns true, and all that was there reads as before. The package-level variables that its row lists start as the program's text lays them (the card ties them). -/
import Derived.Test.YtphdmdncboegjaaDoorTokSame
import Derived.Test.YtphdmdncboegjaaDoorTokL3
import Derived.Test.YtphdmdncboegjaaDoorDoor
import Derived.Test.YtphdmdncboegjaaDoorTie
import Derived.Test.YtphdmdncboegjaaDoorCards
namespace Go.Proofs.YtphdmdncboegjaaDoor.tok.alone
open Go.RowKit Go.Proofs.YtphdmdncboegjaaDoor.base Go.Proofs.YtphdmdncboegjaaDoor.tok Go.ChangeShapes Go.WideShapes Go.ChangeAt
set_option linter.unusedVariables false

/-- one entry of a slice, as a slice -/
theorem rd_one {w : World} {B b off k : Nat} {t : Tk} (hb : b < B) (e0 : w.cell? ⟨b, off + k * 4, none⟩ = some (.int .i64 t.k)) (e1 : w.cell? ⟨b, off + k * 4 + 1, none⟩ = some (.string (bs t.raw))) (e2 : w.cell? ⟨b, off + k * 4 + 2, none⟩ = some (.string (bs t.val))) (e3 : w.cell? ⟨b, off + k * 4 + 3, none⟩ = some (.int .i64 t.num)) :
    TRd w B (some ⟨b, off + k * 4, none⟩) 1 [t] := by
  refine ⟨rfl, fun _ => ⟨b, off + k * 4, rfl, hb, fun i d hd j hj => ?_⟩⟩
  match i, hd with
  | 0, hd =>
    obtain rfl : t = d := by simpa using hd
    rw [Nat.zero_mul, Nat.add_zero]
    match j, hj with
    | 0, _ => exact e0
    | 1, _ => exact e1
    | 2, _ => exact e2
    | 3, _ => exact e3
  | i + 1, hd => simp at hd

set_option maxRecDepth 100000 in
set_option maxHeartbeats 4000000 in
theorem law_ct (s : ByteArray) (w : World) (hs : s.size ≤ maxLen) (hm : MaxL w) :
    Calls Tryd.prog 3 #[.string s] w fun e w' => e = .returned (.bool true) ∧ Below w.heap.size w w' := by
  have cS : ∀ w, Calls Tryd.prog 17 #[.string s, .int .i64 400] w fun e w' => e = .returned (.string (bs (s.data.toList.take 400))) ∧ w = w' := fun w => short_ct s 400 hs (by decide) w
  have hl : (s.data.toList.take 400).length ≤ 400 := by rw [List.length_take]; omega
  generalize s.data.toList.take 400 = l at *
  replace cS := Lib.hid cS
  have cC : ∀ w, MaxL w → Calls Tryd.prog 16 #[.string (bs l)] w fun e w' => (∃ A cap, e = .returned (.slice A (cutP l).length cap) ∧ (cutP l).length ≤ cap ∧ TRd w' w'.heap.size A (cutP l).length (cutP l)) ∧ Below w.heap.size w w' := fun w hm => cut_ct (bs l) (by show l.length < _; omega) w hm
  have hfew := cut_few l
  have hal := Lib.hid (cut_alone _ l (Nat.le_refl _))
  have hrl : ∀ t ∈ cutP l, t.raw.length ≤ 400 := by
    intro t ht
    have h1 := cut_text l
    obtain ⟨A, B, hAB⟩ := List.append_of_mem ht
    rw [hAB] at h1
    have h2 := congrArg List.length h1
    simp only [textOf, List.flatMap_append, List.flatMap_cons, List.length_append] at h2
    omega
  replace hrl := Lib.hid hrl
  replace cC := Lib.hid cC
  generalize cutP l = L at *
  go_enter Tryd.func3, Tryd.ntmps3
  go_wp2_with ((go_at_call 15; (with_reducible refine (cutFact_ct _ hm).mono ?_); rintro e W1 ⟨rfl, hb1⟩))
  have hm1 := Lib.hid (hm.on hb1 hm.lt)
  have HB1 := Lib.hid hb1
  clear hb1
  go_wp2_with (first | (go_at_call 17; (with_reducible refine (cS.out _).mono ?_); rintro e w2 ⟨rfl, rfl⟩) | (go_at_call 16; (with_reducible refine (cC.out _ hm1.out).mono ?_); rintro e W2 ⟨⟨A, cap, rfl, hcap, hr⟩, hb2⟩; have HB2 := Lib.hid (HB1.out.trans (hb2.mono HB1.out.size)); have HR := Lib.hid hr; have hm2 := Lib.hid (hm1.out.on hb2 hm1.out.lt); clear hb2 hr))
  go_loopw [5] (fun i wr => ∃ k : Nat, k ≤ L.length ∧ i = .int .i64 k ∧ Below W2.heap.size W2 wr) (fun i _ => L.length - (intOf i).toNat)
  case atStart => exact ⟨0, by omega, rfl, Below.refl _ _⟩
  case round =>
    obtain ⟨k, hk, rfl, hbel⟩ := hrel
    have hmr := Lib.hid (hm2.out.on hbel hm2.out.lt)
    by_cases hlt : k < L.length
    · have hlt' : (k : Int) < (L.length : Int) := by omega
      obtain ⟨b, off, t, rfl, hb, hd, e0, e1, e2, e3⟩ := TRd.tok (HR.out.keep hbel hbel.size) hlt
      have hone := Lib.hid (rd_one hb e0 e1 e2 e3)
      have HBl := Lib.hid hbel
      have htm := List.mem_of_getElem? hd
      have hcs := hal.out t htm
      have hrt := hrl.out t htm
      have cT : ∀ w, MaxL w → Calls Tryd.prog 16 #[.string (bs t.raw)] w fun e w' => (∃ A cap, e = .returned (.slice A 1 cap) ∧ TRd w' w'.heap.size A 1 [t]) ∧ Below w.heap.size w w' := fun w hm => (cut_ct (bs t.raw) (by show t.raw.length < _; omega) w hm).mono fun e w' ⟨⟨A, cap, he, _, hr⟩, hb⟩ => by
        rw [show (bs t.raw).data.toList = t.raw from rfl, hcs] at he hr
        exact ⟨⟨A, cap, he, hr⟩, hb⟩
      replace cT := Lib.hid cT
      clear hbel hd htm hcs hrt
      have hk1 : (k : Int) + 1 ≤ (L.length : Int) := by omega
      have hk2 : (0 : Int) ≤ (k : Int) + 1 := by omega
      have hk3 := IntWalk.i64_in ((k : Int) + 1) (by omega)
      have hk4 : ((k : Int) + 1).toNat = k + 1 := by omega
      have hk5 : (k : Int) ≤ (k : Int) + 1 := by omega
      have hk6 : (L.length : Int) ≤ (cap : Int) := by omega
      have hk7 : ¬ cap = k := by omega
      have hk10 : (k : Int) + 1 ≤ (cap : Int) := by omega
      have hk11 : (0 : Int) ≤ (k : Int) := by omega
      have hk12 : (k : Int) ≤ (cap : Int) := by omega
      have hk13 : k + 1 ≤ cap := by omega
      have hk14 : ¬ ((cap : Int) = (k : Int)) := by omega
      have hk15 : ¬ k = cap := by omega
      have hk8 : k < cap := by omega
      have hk9 : ¬ cap - k = 0 := by omega
      have hmd := Lib.hid (show MaxL wr.drew from hmr.out)
      go_wp2_with fail
      go_region_held3 (fun w' => (∀ b o, b < wr.heap.size → w'.cell? ⟨b, o, none⟩ = wr.cell? ⟨b, o, none⟩) ∧ Below wr.heap.size wr w')
        (first | exact As.beg | assumption | exact As.on hb3 (by assumption) (Nat.le_refl _) | exact As.on hb4.out (by assumption) (Nat.le_refl _))
        (first
          | (go_at_call 16; (with_reducible refine (cT.out _ hmd.out).mono ?_); rintro e w3 ⟨⟨A3, cap3, rfl, hr3⟩, hb3⟩; have hS3 := Lib.hid (As.on (B := wr.heap.size) (W0 := wr) hb3 As.beg (Nat.le_refl _)); replace hr3 := Lib.hid hr3)
          | (go_at_call 18; (with_reducible refine (same_ct A3 (some ⟨b, off + k * 4, none⟩) 1 1 cap3 (cap - k) [t] [t] _ (by decide) (by decide) hr3.out (hone.out.keep hS3.out.2 hS3.out.2.size)).mono ?_); rintro e w4 ⟨rfl, m4, rfl⟩; rw [decide_eq_true (rfl : [t] = [t])]; have hb4 := Lib.hid (below_drewN (Below.refl w3.heap.size w3) m4)))
      all_goals
        have HB4 := Lib.hid (below_drewN (HBl.out.trans (hS3.out.2.mono HBl.out.size)) m4)
        go_wp2
        go_roundw
        case rel => exact ⟨k + 1, by omega, by go_num, HB4.out⟩
        case measure => simp [intOf]; omega
    · obtain rfl : k = L.length := by omega
      have HBl := Lib.hid hbel
      clear hbel
      go_wp2
      go_ret
      exact ⟨rfl, HB2.out.trans (HBl.out.mono HB2.out.size)⟩

set_option maxRecDepth 100000 in
theorem lifted (os : Os) (started : os.Started) (H : Type) (enc : TypeId × Value → H) :
    ReturnsInHanded {} Tryd.checked os 3 .any (fun w args => (Rows.tokenAloneSpec.pre enc Tryd.prog Tryd.f3 Rows.tokenAloneRow.domain false w args ∧ laidMetH Tryd.prog Rows.tokenAloneRow.laid w) ∧ sizedMet enc Tryd.prog Tryd.f3 (OpenSpec.ofChange Rows.tokenAloneSpec) false w args)
      (Rows.tokenAloneSpec.post enc Tryd.prog Tryd.f3 false true false false) := by
  refine returns_door (C := Tryd.checked) (X := fun w _ => laidMetH Tryd.prog Rows.tokenAloneRow.laid w) (fun _ _ _ hh h => h.of_heap hh) ownD started (by kernel_rfl) Tryd.func3
    (ChangeSpec.witness_shaped (enc := enc) (C := Tryd.checked) (os := os) (X := fun w _ => laidMetH Tryd.prog Rows.tokenAloneRow.laid w) false (World.laidAll Tryd.prog os Rows.tokenAloneRow.laid) #[.string .empty] 8 (World.laidAll_os _ _ _)
      (World.shaped_of_ZipB (by kernel_rfl) (by kernel_rfl)) (by kernel_rfl) (by kernel_rfl) (by kernel_rfl)
      (by rw [MakeChecks.laidMetH_plain _ _ _ (by kernel_rfl)]; exact laidMet_laidAll _ (by kernel_rfl) (by kernel_rfl))) ?_
  intro W base args ds gs before hval0 hW _ hlaid hsh
  have hval : ∀ (j : Nat) t v, Tryd.f3.params[j]? = some t → args[j]? = some v → Value.okWide Tryd.prog W .any base t v := hval0
  have hW' := hW
  obtain ⟨p, q, hA0, hV, -, -, -⟩ := hW
  have hA : DataW.TrodAll enc Tryd.prog W 0 (fun _ => true) true Tryd.f3.params.toList args.toList ds p := hA0
  rw [Tryd.params3] at hA hval
  obtain ⟨v0, vs0, d0, ds0, p0, q0, hargs, rfl, -, h0, r0⟩ := trodAll_cons hA
  obtain ⟨rfl, rfl, -⟩ := trodAll_nil r0
  obtain rfl : args = #[v0] := by cases args; simp_all
  obtain ⟨rfl, -⟩ := trodVars_none hV
  obtain ⟨s, rfl, -, -, hs⟩ := Go.ChangeMaps.open_string Tryd.underlying9 (hval 0 _ _ rfl rfl) h0
  exact (law_ct s W hs (maxLen_of hsh)).mono fun e W' ⟨he, bel⟩ => ⟨_, he, law_post laidOutD rfl Tryd.underlying4 rfl (by intro t ht; rw [Tryd.params3] at ht; revert t; decide +kernel) rfl hW' bel⟩

theorem holds : Rows.TokenAloneSaid :=
  OpenClaim.holds_of_wide 3 Tryd.f3 rfl rfl rfl rfl rfl rfl rfl ⟨rfl, rfl, rfl, rfl, rfl⟩ rfl rfl rfl rfl rfl (by kernel_rfl) Tryd.func3 (by kernel_rfl)
    (of_decide_eq_true (by kernel_rfl)) (by unfold Func.isWrapper; first | (rw [if_pos (by decide +kernel)]; kernel_rfl) | (rw [if_neg (by decide +kernel)]; exact ⟨rfl, rfl⟩))
    (fun os started H enc _ => lifted os started H enc)

theorem proved : Rows.TokenAloneCardSaid :=
  Claim7.holds_tied_plain_at .later [] Rows.tokenAloneCard.laidKinds true Rows.tokenAloneCard.stood.harness false holds (fun _ h => by cases h) (by kernel_rfl) (fun _ h => by cases h) tokenAlone_row_tie rfl ⟨rfl, rfl⟩ (by kernel_rfl) rfl
    (fun f fn hf hfn => by
      obtain rfl : f = 3 := Option.some.inj ((show Tryd.prog.funcNamed "clerestory/clerestorykeep2.TokenAlone" = some 3 by kernel_rfl).symm.trans hf) |>.symm
      obtain rfl : fn = Tryd.f3 := (Option.some.inj (Tryd.func3.symm.trans hfn)).symm
      exact ⟨by kernel_rfl, fun j t ht => by
        rw [Tryd.params3] at ht
        have hm : t ∈ [9] := by simpa using Array.mem_of_getElem? ht
        have hall : ([9].all fun u => !Tryd.prog.wantsStandIn u) = true := by kernel_rfl
        exact (show Tryd.prog.wantsStandIn t = false by simpa using List.all_eq_true.1 hall t hm)⟩)
    (by kernel_rfl)
#print axioms proved

end Go.Proofs.YtphdmdncboegjaaDoor.tok.alone
