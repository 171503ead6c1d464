/- ColorHides: for every two numbers the call returns true, and all that was there reads as before. The package-level variables that its row lists start as the program's text lays them (the card ties them). -/
import Derived.Test.YtaihncbejhnceaaDoorBO
import Derived.Test.YtaihncbejhnceaaDoorBH
import Derived.Test.YtaihncbejhnceaaDoorTie
import Derived.Test.YtaihncbejhnceaaDoorCards

namespace Go.Proofs.YtaihncbejhnceaaDoor.col.hides
open Go.RowKit Go.Proofs.YtaihncbejhnceaaDoor.base Go.Proofs.YtaihncbejhnceaaDoor.tok Go.Proofs.YtaihncbejhnceaaDoor.col
set_option linter.unusedVariables false

theorem nat_or255 (X : Nat) : X ||| 255 = X / 256 * 256 + 255 := by
  have h1 : X / 256 * 256 + 255 = (X >>> 8) <<< 8 + 255 := by rw [Nat.shiftRight_eq_div_pow, Nat.shiftLeft_eq]
  rw [h1, Nat.shiftLeft_add_eq_or_of_lt (by decide : (255 : Nat) < 2 ^ 8)]
  apply Nat.eq_of_testBit_eq
  intro i
  rw [Nat.testBit_or, Nat.testBit_or, Nat.testBit_shiftLeft, Nat.testBit_shiftRight, show (255 : Nat) = 2 ^ 8 - 1 from rfl, Nat.testBit_two_pow_sub_one]
  by_cases h8 : 8 ≤ i
  · rw [decide_eq_true (show i ≥ 8 from h8), Bool.true_and, show 8 + (i - 8) = i by omega]
  · rw [decide_eq_true (show i < 8 by omega), Bool.or_true, Bool.or_true]
theorem or255 (x : Int) (h0 : 0 ≤ x) (h1 : x < 4294967296) : bits BinOp.or IntKind.i64 x 255 = x / 256 * 256 + 255 := by
  obtain ⟨X, rfl⟩ := Int.eq_ofNat_of_zero_le h0
  have h := i64_or_nat X 255 (by omega) (by decide)
  rw [nat_or255] at h
  have e : ((X / 256 * 256 + 255 : Nat) : Int) = (X : Int) / 256 * 256 + 255 := by omega
  rw [← e, ← h]
  rfl
theorem nat_high64 (X : Nat) (h : X < 4294967296) : X &&& 18446744073709551360 = X / 256 * 256 := by
  have e1 : X / 256 * 256 = (X >>> 8) <<< 8 := by rw [Nat.shiftRight_eq_div_pow, Nat.shiftLeft_eq]
  have e2 : (18446744073709551360 : Nat) = (2 ^ 56 - 1) <<< 8 := by decide
  rw [e1, e2]
  apply Nat.eq_of_testBit_eq
  intro i
  rw [Nat.testBit_and, Nat.testBit_shiftLeft, Nat.testBit_shiftLeft, Nat.testBit_shiftRight, Nat.testBit_two_pow_sub_one]
  by_cases h8 : 8 ≤ i
  · rw [decide_eq_true (show i ≥ 8 from h8), Bool.true_and, Bool.true_and, show 8 + (i - 8) = i by omega]
    by_cases h32 : i - 8 < 56
    · rw [decide_eq_true h32, Bool.and_true]
    · rw [Nat.testBit_lt_two_pow (Nat.lt_of_lt_of_le h (show 2 ^ 32 ≤ 2 ^ i from Nat.pow_le_pow_right (by decide) (by omega))), Bool.false_and]
  · rw [decide_eq_false (show ¬ i ≥ 8 from h8), Bool.false_and, Bool.false_and, Bool.and_false]
theorem not255 (x : Int) (h0 : 0 ≤ x) (h1 : x < 4294967296) : bits BinOp.andNot IntKind.i64 x 255 = x / 256 * 256 := by
  obtain ⟨X, rfl⟩ := Int.eq_ofNat_of_zero_le h0
  show IntKind.i64.wrap ((BitVec.ofInt 64 (X : Int) &&& ~~~(BitVec.ofInt 64 (255 : Int))).toNat : Int) = _
  have e : (BitVec.ofInt 64 (X : Int) &&& ~~~(BitVec.ofInt 64 (255 : Int))).toNat = X / 256 * 256 := by
    rw [BitVec.toNat_and, ofInt_u64 X (by omega), show (~~~(BitVec.ofInt 64 (255 : Int))).toNat = 18446744073709551360 by decide, nat_high64 X (by omega)]
  rw [e]
  have e2 : ((X / 256 * 256 : Nat) : Int) = (X : Int) / 256 * 256 := by omega
  rw [e2]
  exact IntWalk.i64_in _ (by omega)

set_option maxRecDepth 100000 in
set_option maxHeartbeats 4000000 in
theorem law_ct (a b : Int) (w : World) :
    Calls Tryd.prog 10 #[.int .i64 a, .int .i64 b] w fun e w' => e = .returned (.bool true) ∧ Below w.heap.size w w' := by
  have hx := c32_bd a
  have hy := c32_bd b
  unfold c32 at *
  generalize hwa : IntKind.u32.wrap a = x at *
  generalize hwb : IntKind.u32.wrap b = y at *
  have wx : c32 x = x := by unfold c32; rw [← hwa]; simp [IntKind.wrap, IntKind.bits, IntKind.signed]
  have wy : c32 y = y := by unfold c32; rw [← hwb]; simp [IntKind.wrap, IntKind.bits, IntKind.signed]
  have o1 := or255 x hx.1 hx.2
  have o2 := not255 x hx.1 hx.2
  have wT : c32 (x / 256 * 256 + 255) = x / 256 * 256 + 255 := by
    unfold c32
    simp only [IntKind.wrap, IntKind.bits, IntKind.signed]
    simp
    omega
  have wU : c32 (x / 256 * 256) = x / 256 * 256 := by
    unfold c32
    simp only [IntKind.wrap, IntKind.bits, IntKind.signed]
    simp
    omega
  have c1 := over_ct (x / 256 * 256 + 255) y
  rw [wT, wy, over_full _ _ (by omega) (by omega)] at c1
  have c2 := over_ct (x / 256 * 256) y
  rw [wU, wy, over_clear _ _ hy (by omega)] at c2
  have c3 := over_ct x y
  rw [wx, wy] at c3
  have hb := over_bytes x y
  generalize overP x y = c at *
  replace c1 := Lib.hid c1
  replace c3 := Lib.hid c3
  have cR := Lib.hid red_ct
  have hb0 := hb.2.2.2.2
  have s1 : y.tmod 256 = y % 256 := Int.tmod_eq_emod_of_nonneg hy.1
  have s2 : c.tmod 256 = c % 256 := Int.tmod_eq_emod_of_nonneg hb0.1
  have s3 : x.tmod 256 = x % 256 := Int.tmod_eq_emod_of_nonneg hx.1
  obtain ⟨hb1, hb2, hb3, hb4, -⟩ := hb
  have HB_1 := Lib.hid hb1
  have HB_2 := Lib.hid hb2
  have HB_3 := Lib.hid hb3
  have HB_4 := Lib.hid hb4
  clear hb1 hb2 hb3 hb4 wx wy wT wU
  have hcase : (y = 0 ∧ (if y % 256 = 0 then 0 else y) = 0) ∨ (¬ 0 = y ∧ ¬ 0 < y % 256 ∧ (if y % 256 = 0 then 0 else y) = 0) ∨ (¬ y = 0 ∧ (y % 256 == 0) = false ∧ (if y % 256 = 0 then 0 else y) = y) := by
    by_cases h0 : y % 256 = 0
    · rw [if_pos h0]
      by_cases h1 : y = 0
      · exact .inl ⟨h1, rfl⟩
      · exact .inr (.inl ⟨fun h => h1 h.symm, by omega, rfl⟩)
    · rw [if_neg h0]
      exact .inr (.inr ⟨by omega, by simpa using h0, rfl⟩)
  generalize (if y % 256 = 0 then 0 else y) = q at *
  replace c2 := Lib.hid c2
  rcases hcase with ⟨rfl, rfl⟩ | ⟨hq1, hq2, rfl⟩ | ⟨hq1, hq2, rfl⟩
  all_goals (
  go_enter Tryd.func10, Tryd.ntmps10
  go_wp2_with (first
    | (go_at_call 26; (with_reducible refine (cR.out _).mono ?_); rintro e W1 ⟨rfl, hb1⟩; have HB1 := Lib.hid hb1; clear hb1)
    | (go_at_call 28; (with_reducible refine (c1.out _).mono ?_); rintro e W2 ⟨rfl, rfl⟩)
    | (go_at_call 28; (with_reducible refine (c2.out _).mono ?_); rintro e W2 ⟨rfl, rfl⟩)
    | (go_at_call 28; (with_reducible refine (c3.out _).mono ?_); rintro e W2 ⟨rfl, rfl⟩))
  go_loopw [8] (fun i wr => ∃ m : Nat, m ≤ 3 ∧ i = .int .i64 (8 + 8 * (m : Int)) ∧ Hid (Below w.heap.size w wr)) (fun i _ => 32 - (intOf i).toNat)
  case atStart => exact ⟨0, by decide, rfl, HB1⟩
  case round =>
    obtain ⟨m, hm, hk, hbr⟩ := hrel
    have hc : (m = 0 ∧ u8 = .int .i64 8) ∨ (m = 1 ∧ u8 = .int .i64 16) ∨ (m = 2 ∧ u8 = .int .i64 24) ∨ (m = 3 ∧ u8 = .int .i64 32) := by
      rcases m with _ | _ | _ | _ | m
      · exact .inl ⟨rfl, hk⟩
      · exact .inr (.inl ⟨rfl, hk⟩)
      · exact .inr (.inr (.inl ⟨rfl, hk⟩))
      · exact .inr (.inr (.inr ⟨rfl, hk⟩))
      · omega
    clear hk hm
    rcases hc with ⟨rfl, rfl⟩ | ⟨rfl, rfl⟩ | ⟨rfl, rfl⟩ | ⟨rfl, rfl⟩
    · have h := HB_2.out
      go_wp2_with fail
      go_roundw
      case rel => exact ⟨1, by decide, rfl, hbr⟩
      case measure => simp [intOf]
    · have h := HB_3.out
      go_wp2_with fail
      go_roundw
      case rel => exact ⟨2, by decide, rfl, hbr⟩
      case measure => simp [intOf]
    · have h := HB_4.out
      go_wp2_with fail
      go_roundw
      case rel => exact ⟨3, by decide, rfl, hbr⟩
      case measure => simp [intOf]
    · have h := HB_1.out
      have h2 : max (x % 256) 0 ≤ c % 256 := by have := h; omega
      go_wp2_with fail
      go_ret
      exact ⟨rfl, hbr.out⟩)

end Go.Proofs.YtaihncbejhnceaaDoor.col.hides

namespace Go.Proofs.YtaihncbejhnceaaDoor.col.hides
open Go.RowKit Go.Proofs.YtaihncbejhnceaaDoor.base Go.Proofs.YtaihncbejhnceaaDoor.tok Go.Proofs.YtaihncbejhnceaaDoor.col Go.ChangeShapes Go.WideShapes Go.ChangeAt
set_option linter.unusedVariables false

set_option maxRecDepth 100000 in
theorem lifted (os : Os) (started : os.Started) (H : Type) (enc : TypeId × Value → H) :
    ReturnsInHanded {} Tryd.checked os 10 .any (fun w args => (Rows.colorHidesSpec.pre enc Tryd.prog Tryd.f10 Rows.colorHidesRow.domain false w args ∧ laidMetH Tryd.prog Rows.colorHidesRow.laid w) ∧ sizedMet enc Tryd.prog Tryd.f10 (OpenSpec.ofChange Rows.colorHidesSpec) false w args)
      (Rows.colorHidesSpec.post enc Tryd.prog Tryd.f10 false true false false) := by
  refine returns_door (C := Tryd.checked) (X := fun w _ => laidMetH Tryd.prog Rows.colorHidesRow.laid w) (fun _ _ _ hh h => h.of_heap hh) ownD started (by kernel_rfl) Tryd.func10
    (ChangeSpec.witness_shaped (enc := enc) (C := Tryd.checked) (os := os) (X := fun w _ => laidMetH Tryd.prog Rows.colorHidesRow.laid w) false (World.laidAll Tryd.prog os Rows.colorHidesRow.laid) #[.int .i64 0, .int .i64 0] 8 (World.laidAll_os _ _ _)
      (World.shaped_of_ZipB (by kernel_rfl) (by kernel_rfl)) (by kernel_rfl) (by kernel_rfl) (by kernel_rfl)
      (by rw [MakeChecks.laidMetH_plain _ _ _ (by kernel_rfl)]; exact laidMet_laidAll _ (by kernel_rfl) (by kernel_rfl))) ?_
  intro W base args ds gs before hval0 hW hsz hlaid hsh
  have hval : ∀ (j : Nat) t v, Tryd.f10.params[j]? = some t → args[j]? = some v → Value.okWide Tryd.prog W .any base t v := hval0
  have hW' := hW
  obtain ⟨p, q, hA0, hV, -, -, -⟩ := hW
  have hA : DataW.TrodAll enc Tryd.prog W 0 (fun _ => true) true Tryd.f10.params.toList args.toList ds p := hA0
  rw [Tryd.params10] at hA hval
  obtain ⟨v0, vs0, d0, ds0, p0, q0, hargs, rfl, -, h0, r0⟩ := trodAll_cons hA
  obtain ⟨v1, vs1, d1, ds1, p1, q1, rfl, rfl, -, h1, r1⟩ := trodAll_cons r0
  obtain ⟨rfl, rfl, -⟩ := trodAll_nil r1
  obtain rfl : args = #[v0, v1] := by cases args; simp_all
  obtain ⟨rfl, -⟩ := trodVars_none hV
  obtain ⟨a, rfl, -, -, -⟩ := open_int Tryd.underlying3 (hval 0 _ _ rfl rfl) h0
  obtain ⟨b, rfl, -, -, -⟩ := open_int Tryd.underlying3 (hval 1 _ _ rfl rfl) h1
  rw [MakeChecks.laidMetH_plain _ _ _ (by kernel_rfl)] at hlaid
  exact (law_ct a b W ).mono fun e W' ⟨he, bel⟩ => ⟨_, he, law_post laidOutD rfl Tryd.underlying4 rfl (by intro t ht; rw [Tryd.params10] at ht; revert t; decide +kernel) rfl hW' bel⟩

theorem holds : Rows.ColorHidesSaid :=
  OpenClaim.holds_of_wide 10 Tryd.f10 rfl rfl rfl rfl rfl rfl rfl ⟨rfl, rfl, rfl, rfl, rfl⟩ rfl rfl rfl rfl rfl (by kernel_rfl) Tryd.func10 (by kernel_rfl)
    (of_decide_eq_true (by kernel_rfl)) (by unfold Func.isWrapper; first | (rw [if_pos (by decide +kernel)]; kernel_rfl) | (rw [if_neg (by decide +kernel)]; exact ⟨rfl, rfl⟩))
    (fun os started H enc _ => lifted os started H enc)

theorem proved : Rows.ColorHidesCardSaid :=
  Claim7.holds_tied_plain_at .later [] Rows.colorHidesCard.laidKinds true Rows.colorHidesCard.stood.harness Rows.colorHidesCard.stood.looks holds (fun _ h => by cases h) (by kernel_rfl) (fun _ h => by cases h) colorHides_row_tie rfl ⟨rfl, rfl⟩ (by kernel_rfl) rfl
    (fun f fn hf hfn => by
      obtain rfl : f = 10 := Option.some.inj ((show Tryd.prog.funcNamed "clerestory/clerestorykeep2.ColorHides" = some 10 by kernel_rfl).symm.trans hf) |>.symm
      obtain rfl : fn = Tryd.f10 := (Option.some.inj (Tryd.func10.symm.trans hfn)).symm
      exact ⟨by kernel_rfl, fun j t ht => by
        rw [Tryd.params10] at ht
        have hm : t ∈ [3, 3] := by simpa using Array.mem_of_getElem? ht
        have hall : ([3, 3].all fun u => !Tryd.prog.wantsStandIn u) = true := by kernel_rfl
        exact (show Tryd.prog.wantsStandIn t = false by simpa using List.all_eq_true.1 hall t hm)⟩)
    (by kernel_rfl)
#print axioms proved

end Go.Proofs.YtaihncbejhnceaaDoor.col.hides
