/- CalcBack: for every text the call returns true, and all that was there reads as before. The package-level variables that its row lists start as the program's text lays them (the card ties them). -/
import Derived.Test.YtbiahfjjngkfgaaDoorBI1
import Derived.Test.YtbiahfjjngkfgaaDoorBH
import Derived.Test.YtbiahfjjngkfgaaDoorBC2
import Derived.Test.YtbiahfjjngkfgaaDoorTie
import Derived.Test.YtbiahfjjngkfgaaDoorCards

namespace Go.Proofs.YtbiahfjjngkfgaaDoor.clb
open Go.RowKit Go.Proofs.YtbiahfjjngkfgaaDoor.base Go.Proofs.YtbiahfjjngkfgaaDoor.tok Go.Proofs.YtbiahfjjngkfgaaDoor.dim Go.Proofs.YtbiahfjjngkfgaaDoor.rul Go.Proofs.YtbiahfjjngkfgaaDoor.cal
set_option linter.unusedVariables false

theorem same_zero (w : World) : Calls Tryd.prog 6 #[.agg #[.int .i64 0, .int .i64 0, .string ⟨#[]⟩, .slice none 0 0], .agg #[.int .i64 0, .int .i64 0, .string ⟨#[]⟩, .slice none 0 0]] w fun e w' => e = .returned (.bool true) ∧ Below w.heap.size w w' :=
  same_row 0 0 ⟨#[]⟩ none none 0 0 0 (by decide) (Nat.le_refl _) (Nat.le_refl _) w (fun i hi => absurd hi (Nat.not_lt_zero _))

set_option maxRecDepth 100000 in
set_option maxHeartbeats 1000000 in
theorem law_bad (s : Bs) (hR : ReadC s none) (w : World) (hm : MaxL w) (hU : UnitsAt w) (hT : PowAt w) :
    Calls Tryd.prog 3 #[.string (bs s)] w fun e w' => e = .returned (.bool true) ∧ Below w.heap.size w w' := by
  have cF := Lib.hid (fun w hm hU hT => twice_ct w hm hU hT)
  unfold ReadC at hR
  have cR := Lib.hid hR
  have cS := Lib.hid same_zero
  have Hm := Lib.hid hm
  have HU := Lib.hid hU
  have HT := Lib.hid hT
  clear hR hm hU hT
  go_enter Tryd.func3, Tryd.ntmps3
  go_wp2_with (first
    | (go_at_call 4; (with_reducible refine (cF.out _ Hm.out HU.out HT.out).mono ?_); rintro e W1 ⟨rfl, hb1⟩; have HB1 := Lib.hid hb1; clear hb1)
    | (go_at_call 5; (with_reducible refine (cR.out _ (Hm.out.on HB1.out Hm.out.lt) (HU.out.on HB1.out)).mono ?_); rintro e W2 ⟨⟨x, hx, rfl⟩, hb2⟩; rcases hx with rfl | rfl; all_goals have HB2 := Lib.hid ((HB1.out.trans (hb2.mono HB1.out.size)).alloc (Nat.le_trans HB1.out.size hb2.size) (.cells #[.int .i64 0, .int .i64 0, .string ⟨#[]⟩, .slice none 0 0] 27)); all_goals clear hb2)
    | (go_at_call 6; (with_reducible refine (cS.out _).mono ?_); rintro e W3 ⟨rfl, hb3⟩; have HB3 := Lib.hid (HB2.out.trans (hb3.mono HB2.out.size)); clear hb3))
  all_goals
    go_ret
    exact ⟨rfl, HB3.out⟩

set_option maxRecDepth 100000 in
set_option maxHeartbeats 1000000 in
theorem law_long (s : Bs) (t : Te) (hw : Wf t) (hz : t.size ≤ 30) (hR : ReadC s (some t)) (hl : 400 < (calcOf t).length) (w : World) (hm : MaxL w) (hU : UnitsAt w) (hT : PowAt w) :
    Calls Tryd.prog 3 #[.string (bs s)] w fun e w' => e = .returned (.bool true) ∧ Below w.heap.size w w' := by
  have hlen := tx_len t hw
  have hcat : (⟨#[99, 97, 108, 99, 40]⟩ : ByteArray) ++ bs (textT t) ++ ⟨#[41]⟩ = bs (calcOf t) := by
    apply ByteArray.ext; apply Array.ext'
    simp [bs, ByteArray.data_append, calcOf, calcT]
  have hsz : (bs (textT t)).size = (textT t).length := rfl
  have hcl : (calcOf t).length = (textT t).length + 6 := by simp [calcOf, calcT]
  have a1 : ¬ 9223372036854775807 < 5 + (bs (textT t)).size := by omega
  have a2 : ¬ 9223372036854775807 < 5 + (bs (textT t)).size + 1 := by omega
  have cF := Lib.hid (fun w hm hU hT => twice_ct w hm hU hT)
  unfold ReadC at hR
  have cR := Lib.hid hR
  have cT := text_any t hw (by omega)
  unfold TextC at cT
  replace cT := Lib.hid cT
  have cQ := fun w => read_large (bs (calcOf t)) (by rw [bs_size]; exact hl) w
  rw [← hcat] at cQ
  replace cQ := Lib.hid cQ
  have hl5 : (400 : Int) < 5 + (((bs (textT t)).size : Nat) : Int) + 1 := by omega
  have Hm := Lib.hid hm
  have HU := Lib.hid hU
  have HT := Lib.hid hT
  replace hw := Lib.hid hw
  clear hR  hm hU hT hcat hlen
  go_enter Tryd.func3, Tryd.ntmps3
  go_wp2_with (first
    | (go_at_call 4; (with_reducible refine (cF.out _ Hm.out HU.out HT.out).mono ?_); rintro e W1 ⟨rfl, hb1⟩; have HB1 := Lib.hid hb1; clear hb1)
    | (go_at_call 5; (with_reducible refine (cR.out _ (Hm.out.on HB1.out Hm.out.lt) (HU.out.on HB1.out)).mono ?_); rintro e W2 ⟨⟨v, rfl, ht2⟩, hb2⟩; obtain ⟨vk, vn, vu, va, vl, vc, rfl, hvk⟩ := kind_pos hw.out ht2; have HB2 := Lib.hid ((HB1.out.trans (hb2.mono HB1.out.size)).alloc (Nat.le_trans HB1.out.size hb2.size) (.cells #[.int .i64 vk, .int .i64 vn, .string vu, .slice va vl vc] 27)); have T2 := Lib.hid (ht2.on ((Below.refl _ _).alloc (Nat.le_refl _) (.cells #[.int .i64 vk, .int .i64 vn, .string vu, .slice va vl vc] 27))); have P2 := Lib.hid (show Blk (W2.alloc (.cells #[.int .i64 vk, .int .i64 vn, .string vu, .slice va vl vc] 27)) W2.heap.size 27 #[.int .i64 vk, .int .i64 vn, .string vu, .slice va vl vc] from Blk.new rfl); clear hb2 ht2)
    | (go_at_call 7; (with_reducible refine (cT.out _ _ _ (HT.out.on HB2.out) T2.out).mono ?_); rintro e W3 ⟨rfl, hb3⟩; have HB3 := Lib.hid (HB2.out.trans (hb3.mono HB2.out.size)); have T3 := Lib.hid (T2.out.on hb3); have P3 := Lib.hid (P2.out.below hb3 (by simp)); have hz3 := hb3.size; clear hb3)
    | (go_at_call 5; (with_reducible refine (cQ.out _).mono ?_); rintro e W4 ⟨rfl, hb4⟩; have HB4 := Lib.hid ((HB3.out.trans (hb4.mono HB3.out.size)).alloc (Nat.le_trans HB3.out.size hb4.size) (.cells #[.int .i64 0, .int .i64 0, .string ⟨#[]⟩, .slice none 0 0] 27)); have p4 := (P3.out.below hb4 P3.out.lt).alloc (.cells #[.int .i64 0, .int .i64 0, .string ⟨#[]⟩, .slice none 0 0] 27); have pc4 := p4.cell; clear hb4 p4)
    | (go_at_call 6; (with_reducible refine (same_kind 0 vk 0 vn ⟨#[]⟩ vu none va 0 0 vl vc hvk _).mono ?_); rintro e W5 ⟨rfl, hb5⟩; have HB5 := Lib.hid (HB4.out.trans (hb5.mono HB4.out.size)); clear hb5))
  go_ret
  exact ⟨rfl, HB5.out⟩

set_option maxRecDepth 100000 in
set_option maxHeartbeats 1000000 in
theorem law_ok (s : Bs) (t : Te) (hw : Wf t) (hz : t.size ≤ 30) (hR : ReadC s (some t)) (hl : (calcOf t).length ≤ 400) (hQ : ReadC (calcOf t) (some t)) (w : World) (hm : MaxL w) (hU : UnitsAt w) (hT : PowAt w) :
    Calls Tryd.prog 3 #[.string (bs s)] w fun e w' => e = .returned (.bool true) ∧ Below w.heap.size w w' := by
  have hlen := tx_len t hw
  have hcat : (⟨#[99, 97, 108, 99, 40]⟩ : ByteArray) ++ bs (textT t) ++ ⟨#[41]⟩ = bs (calcOf t) := by
    apply ByteArray.ext; apply Array.ext'
    simp [bs, ByteArray.data_append, calcOf, calcT]
  have hsz : (bs (textT t)).size = (textT t).length := rfl
  have hcl : (calcOf t).length = (textT t).length + 6 := by simp [calcOf, calcT]
  have a1 : ¬ 9223372036854775807 < 5 + (bs (textT t)).size := by omega
  have a2 : ¬ 9223372036854775807 < 5 + (bs (textT t)).size + 1 := by omega
  have cF := Lib.hid (fun w hm hU hT => twice_ct w hm hU hT)
  unfold ReadC at hR
  have cR := Lib.hid hR
  have cT := text_any t hw (by omega)
  unfold TextC at cT
  replace cT := Lib.hid cT
  unfold ReadC at hQ
  have cQ := hQ
  rw [← hcat] at cQ
  replace cQ := Lib.hid cQ
  have cS := same_any t (by omega)
  unfold SameC at cS
  replace cS := Lib.hid cS
  have Hm := Lib.hid hm
  have HU := Lib.hid hU
  have HT := Lib.hid hT
  replace hw := Lib.hid hw
  clear hR hQ hm hU hT hcat hlen
  go_enter Tryd.func3, Tryd.ntmps3
  go_wp2_with (first
    | (go_at_call 4; (with_reducible refine (cF.out _ Hm.out HU.out HT.out).mono ?_); rintro e W1 ⟨rfl, hb1⟩; have HB1 := Lib.hid hb1; clear hb1)
    | (go_at_call 5; (with_reducible refine (cR.out _ (Hm.out.on HB1.out Hm.out.lt) (HU.out.on HB1.out)).mono ?_); rintro e W2 ⟨⟨v, rfl, ht2⟩, hb2⟩; obtain ⟨vk, vn, vu, va, vl, vc, rfl, hvk⟩ := kind_pos hw.out ht2; have HB2 := Lib.hid ((HB1.out.trans (hb2.mono HB1.out.size)).alloc (Nat.le_trans HB1.out.size hb2.size) (.cells #[.int .i64 vk, .int .i64 vn, .string vu, .slice va vl vc] 27)); have T2 := Lib.hid (ht2.on ((Below.refl _ _).alloc (Nat.le_refl _) (.cells #[.int .i64 vk, .int .i64 vn, .string vu, .slice va vl vc] 27))); have P2 := Lib.hid (show Blk (W2.alloc (.cells #[.int .i64 vk, .int .i64 vn, .string vu, .slice va vl vc] 27)) W2.heap.size 27 #[.int .i64 vk, .int .i64 vn, .string vu, .slice va vl vc] from Blk.new rfl); clear hb2 ht2)
    | (go_at_call 7; (with_reducible refine (cT.out _ _ _ (HT.out.on HB2.out) T2.out).mono ?_); rintro e W3 ⟨rfl, hb3⟩; have HB3 := Lib.hid (HB2.out.trans (hb3.mono HB2.out.size)); have T3 := Lib.hid (T2.out.on hb3); have P3 := Lib.hid (P2.out.below hb3 (by simp)); have hz3 := hb3.size; clear hb3)
    | (go_at_call 5; (with_reducible refine (cQ.out _ (Hm.out.on HB3.out Hm.out.lt) (HU.out.on HB3.out)).mono ?_); rintro e W4 ⟨⟨x, rfl, hx4⟩, hb4⟩; obtain ⟨xk, xn, xu, xa, xl, xc, rfl, hxk⟩ := kind_pos hw.out hx4; have HB4 := Lib.hid ((HB3.out.trans (hb4.mono HB3.out.size)).alloc (Nat.le_trans HB3.out.size hb4.size) (.cells #[.int .i64 xk, .int .i64 xn, .string xu, .slice xa xl xc] 27)); have X4 := Lib.hid (hx4.on ((Below.refl _ _).alloc (Nat.le_refl _) (.cells #[.int .i64 xk, .int .i64 xn, .string xu, .slice xa xl xc] 27))); have p4 := (P3.out.below hb4 P3.out.lt).alloc (.cells #[.int .i64 xk, .int .i64 xn, .string xu, .slice xa xl xc] 27); have pc4 := p4.cell; have T4 := Lib.hid ((T3.out.on hb4).on ((Below.refl _ _).alloc (Nat.le_refl _) (.cells #[.int .i64 xk, .int .i64 xn, .string xu, .slice xa xl xc] 27))); clear hb4 hx4 p4)
    | (go_at_call 6; (with_reducible refine (cS.out _ _ _ _ _ X4.out T4.out).mono ?_); rintro e W5 ⟨rfl, hb5⟩; have HB5 := Lib.hid (HB4.out.trans (hb5.mono HB4.out.size)); clear hb5))
  go_ret
  exact ⟨rfl, HB5.out⟩

theorem law_ct (a : ByteArray) (w : World) (hs : a.size ≤ maxLen) (hm : MaxL w) (hU : UnitsAt w) (hT : PowAt w) :
    Calls Tryd.prog 3 #[.string a] w fun e w' => e = .returned (.bool true) ∧ Below w.heap.size w w' := by
  rw [show a = bs a.data.toList from rfl]
  have hR := read_any a.data.toList 2401 (Nat.le_refl _)
  cases h : readT 2401 a.data.toList with
  | none =>
    rw [h] at hR
    exact law_bad _ hR w hm hU hT
  | some t =>
    rw [h] at hR
    obtain ⟨hw, hz⟩ := read_wf h
    by_cases hl : 400 < (calcOf t).length
    · exact law_long _ t hw hz hR hl w hm hU hT
    · obtain ⟨d, hd, hback⟩ := told_read hw hz
      have hQ := read_any (calcOf t) d hd
      rw [hback (by omega)] at hQ
      exact law_ok _ t hw hz hR (by omega) hQ w hm hU hT

end Go.Proofs.YtbiahfjjngkfgaaDoor.clb

namespace Go.Proofs.YtbiahfjjngkfgaaDoor.clb.back
open Go.RowKit Go.Proofs.YtbiahfjjngkfgaaDoor.base Go.Proofs.YtbiahfjjngkfgaaDoor.tok Go.Proofs.YtbiahfjjngkfgaaDoor.clb Go.ChangeShapes Go.WideShapes Go.ChangeAt
set_option linter.unusedVariables false

set_option maxRecDepth 100000 in
theorem lifted (os : Os) (started : os.Started) (H : Type) (enc : TypeId × Value → H) :
    ReturnsInHanded {} Tryd.checked os 3 .any (fun w args => (Rows.calcBackSpec.pre enc Tryd.prog Tryd.f3 Rows.calcBackRow.domain false w args ∧ laidMetH Tryd.prog Rows.calcBackRow.laid w) ∧ sizedMet enc Tryd.prog Tryd.f3 (OpenSpec.ofChange Rows.calcBackSpec) false w args)
      (Rows.calcBackSpec.post enc Tryd.prog Tryd.f3 false true false false) := by
  refine returns_door (C := Tryd.checked) (X := fun w _ => laidMetH Tryd.prog Rows.calcBackRow.laid w) (fun _ _ _ hh h => h.of_heap hh) ownD started (by kernel_rfl) Tryd.func3
    (ChangeSpec.witness_shaped (enc := enc) (C := Tryd.checked) (os := os) (X := fun w _ => laidMetH Tryd.prog Rows.calcBackRow.laid w) false (World.laidAll Tryd.prog os Rows.calcBackRow.laid) #[.string .empty] 8 (World.laidAll_os _ _ _)
      (World.shaped_of_ZipB (by kernel_rfl) (by kernel_rfl)) (by kernel_rfl) (by kernel_rfl) (by kernel_rfl)
      (by rw [MakeChecks.laidMetH_plain _ _ _ (by kernel_rfl)]; exact laidMet_laidAll _ (by kernel_rfl) (by kernel_rfl))) ?_
  intro W base args ds gs before hval0 hW hsz hlaid hsh
  have hval : ∀ (j : Nat) t v, Tryd.f3.params[j]? = some t → args[j]? = some v → Value.okWide Tryd.prog W .any base t v := hval0
  have hW' := hW
  obtain ⟨p, q, hA0, hV, -, -, -⟩ := hW
  have hA : DataW.TrodAll enc Tryd.prog W 0 (fun _ => true) true Tryd.f3.params.toList args.toList ds p := hA0
  rw [Tryd.params3] at hA hval
  obtain ⟨v0, vs0, d0, ds0, p0, q0, hargs, rfl, -, h0, r0⟩ := trodAll_cons hA
  obtain ⟨rfl, rfl, -⟩ := trodAll_nil r0
  obtain rfl : args = #[v0] := by cases args; simp_all
  obtain ⟨rfl, -⟩ := trodVars_none hV
  obtain ⟨a, rfl, -, -, hs0⟩ := Go.ChangeMaps.open_string Tryd.underlying9 (hval 0 _ _ rfl rfl) h0
  rw [MakeChecks.laidMetH_plain _ _ _ (by kernel_rfl)] at hlaid
  exact (law_ct a W hs0 (maxLen_of hsh) (dim.units_of hlaid (by simp [Rows.calcBackRow])) (dim.pow_of hlaid (by simp [Rows.calcBackRow]))).mono fun e W' ⟨he, bel⟩ => ⟨_, he, law_post laidOutD rfl Tryd.underlying4 rfl (by intro t ht; rw [Tryd.params3] at ht; revert t; decide +kernel) rfl hW' bel⟩

theorem holds : Rows.CalcBackSaid :=
  OpenClaim.holds_of_wide 3 Tryd.f3 rfl rfl rfl rfl rfl rfl rfl ⟨rfl, rfl, rfl, rfl, rfl⟩ rfl rfl rfl rfl rfl (by kernel_rfl) Tryd.func3 (by kernel_rfl)
    (of_decide_eq_true (by kernel_rfl)) (by unfold Func.isWrapper; first | (rw [if_pos (by decide +kernel)]; kernel_rfl) | (rw [if_neg (by decide +kernel)]; exact ⟨rfl, rfl⟩))
    (fun os started H enc _ => lifted os started H enc)

theorem proved : Rows.CalcBackCardSaid :=
  Claim7.holds_tied_plain_at .later [] Rows.calcBackCard.laidKinds true Rows.calcBackCard.stood.harness Rows.calcBackCard.stood.looks holds (fun _ h => by cases h) (by kernel_rfl) (fun _ h => by cases h) calcBack_row_tie rfl ⟨rfl, rfl⟩ (by kernel_rfl) rfl
    (fun f fn hf hfn => by
      obtain rfl : f = 3 := Option.some.inj ((show Tryd.prog.funcNamed "clerestory/clerestorykeep2.CalcBack" = some 3 by kernel_rfl).symm.trans hf) |>.symm
      obtain rfl : fn = Tryd.f3 := (Option.some.inj (Tryd.func3.symm.trans hfn)).symm
      exact ⟨by kernel_rfl, fun j t ht => by
        rw [Tryd.params3] at ht
        have hm : t ∈ [9] := by simpa using Array.mem_of_getElem? ht
        have hall : ([9].all fun u => !Tryd.prog.wantsStandIn u) = true := by kernel_rfl
        exact (show Tryd.prog.wantsStandIn t = false by simpa using List.all_eq_true.1 hall t hm)⟩)
    (by kernel_rfl)
#print axioms proved

end Go.Proofs.YtbiahfjjngkfgaaDoor.clb.back
