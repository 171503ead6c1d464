/- PropBack: for every number, value, scale and color the call returns true, and all that was there reads as before. The package-level variables that its row lists start as the program's text lays them (the card ties them). -/
import Derived.Lib.Hide
import Derived.Test.YtlfkkaofgcongaaGreatDoorCA
import Derived.Test.YtlfkkaofgcongaaGreatDoorCF
import Derived.Test.YtlfkkaofgcongaaGreatDoorBJ
import Derived.Test.YtlfkkaofgcongaaGreatDoorTie
import Derived.Test.YtlfkkaofgcongaaGreatDoorCards
set_option linter.unusedVariables false
set_option maxRecDepth 100000
set_option maxHeartbeats 16000000
open Go.Lib (hid)
namespace Go.Proofs.YtlfkkaofgcongaaGreatDoor
namespace prp
open Go.RowKit base tok dim
set_option linter.unusedSimpArgs false
theorem run_eq_v (a b c d : Int) (w : World) : (binOp .eql 38 (.agg #[.int .i64 a, .int .i64 b]) (.agg #[.int .i64 c, .int .i64 d])).run Tryz.prog w = .ok (.bool (decide (a = c /\ b = d))) w := by
 rw [run_eql_struct, run_equalIn_agg w _ _ _ _ (by kernel_rfl) (by kernel_rfl)]
 simp only [Program.fieldsOf, Tryz.underlying38]
 simp [Op.eqFields, go_sem, Tryz.underlying3]
 (repeat' split) <;> simp_all
theorem num_px (n : Int) (u : ByteArray) (w : World) : Calls Tryz.prog 13 #[.int .i64 n, .string u] w (rt w (.agg #[.int .i64 1, .int .i64 n, .string u, .slice none 0 0])) := by
 go_enter Tryz.func13, Tryz.ntmps13
 go_wp2
 refine bodyPost_ret (v := .agg #[.int .i64 1, .int .i64 n, .string u, .slice none 0 0]) (by simp [results, Tryz.results13, go_sem]) rfl ⟨rfl, ?_⟩
 exact ba w _
abbrev TextC (p k n : Int) (S : ByteArray) (y : Int) : Prop := ∀ w, MaxL w -> PowAt w -> col.BruAt w -> Calls Tryz.prog 10 #[.int .i64 p, .agg #[.int .i64 k, .int .i64 n]] w (rt w (.tuple #[.string S, .int .i64 y]))
theorem law_no (p k n em rem vw vh cur y : Int) (hy : ¬ y = 0) (cT0 : TextC p k n ⟨#[]⟩ y) (w : World) (hm : MaxL w) (hU : UnitsAt w) (hT : PowAt w) (hR : col.BruAt w) :
  Calls Tryz.prog 5 #[.int .i64 p, .agg #[.int .i64 k, .int .i64 n], .agg #[.int .i64 em, .int .i64 rem, .int .i64 vw, .int .i64 vh], .int .i64 cur] w (rt w (.bool true)) := by
 have cT := hid cT0
 have cH := hid (fun w => shaped_ct w)
 have HM := hid hm
 have HT := hid hT
 have HR := hid hR
 clear hm hU hT hR cT0
 have V0 := hid (show Blk ((w.alloc (.cells #[.int .i64 k, .int .i64 n] 38)).alloc (.cells #[.int .i64 em, .int .i64 rem, .int .i64 vw, .int .i64 vh] 42)) w.heap.size 38 #[.int .i64 k, .int .i64 n] from (Blk.new rfl).alloc _)
 have HB0 := hid ((ba w (.cells #[.int .i64 k, .int .i64 n] 38)).alloc (by simp) (.cells #[.int .i64 em, .int .i64 rem, .int .i64 vw, .int .i64 vh] 42))
 go_enter Tryz.func5, Tryz.ntmps5
 go_wp2_with (first
  | (go_at_call 7; (with_reducible refine (cH.out _).mono ?_); rintro e W1 ⟨rfl, hb⟩; have V1 := hid (V0.out.below hb V0.out.lt); have v1c := V1.out.cell; have HB1 := hid (tb HB0 hb); clear hb)
  | (go_at_call 10; (with_reducible refine (cT.out _ (HM.out.on HB1.out HM.out.lt) (HT.out.on HB1.out) (HR.out.on HB1.out)).mono ?_); rintro e W2 ⟨rfl, hb⟩; have HB2 := hid (tb HB1 hb); clear hb))
 go_ret
 exact ⟨rfl, HB2.out⟩
theorem law_fit (p k n em rem vw vh cur k2 n2 x a b g : Int) (S : ByteArray) (hg : ¬ g = 0 ∨ (g = 0 /\ x = 0 /\ k2 = k /\ n2 = n)) (cT0 : TextC p k n S 0)
  (cR0 : ∀ w, MaxL w -> UnitsAt w -> Calls Tryz.prog 11 #[.int .i64 p, .string S, .agg #[.int .i64 em, .int .i64 rem, .int .i64 vw, .int .i64 vh], .int .i64 cur] w (rt w (.tuple #[.agg #[.int .i64 k2, .int .i64 n2], .int .i64 x])))
  (cV0 : ∀ w, Calls Tryz.prog 12 #[.agg #[.int .i64 1, .int .i64 1000, .string ⟨#[112, 120]⟩, .slice none 0 0], .agg #[.int .i64 em, .int .i64 rem, .int .i64 vw, .int .i64 vh]] w (rt w (.tuple #[.agg #[.int .i64 a, .int .i64 b], .int .i64 g])))
  (w : World) (hm : MaxL w) (hU : UnitsAt w) (hT : PowAt w) (hR : col.BruAt w) :
  Calls Tryz.prog 5 #[.int .i64 p, .agg #[.int .i64 k, .int .i64 n], .agg #[.int .i64 em, .int .i64 rem, .int .i64 vw, .int .i64 vh], .int .i64 cur] w (rt w (.bool true)) := by
 have cT := hid cT0
 have cR := hid cR0
 have cV := hid cV0
 have cN := hid (fun w => num_px 1000 ⟨#[112, 120]⟩ w)
 have cH := hid (fun w => shaped_ct w)
 have HM := hid hm
 have HU := hid hU
 have HT := hid hT
 have HR := hid hR
 have HG := hid hg
 clear hm hU hT hR cT0 cR0 cV0 hg
 have V0 := hid (show Blk ((w.alloc (.cells #[.int .i64 k, .int .i64 n] 38)).alloc (.cells #[.int .i64 em, .int .i64 rem, .int .i64 vw, .int .i64 vh] 42)) w.heap.size 38 #[.int .i64 k, .int .i64 n] from (Blk.new rfl).alloc _)
 have K0 := hid (show Blk ((w.alloc (.cells #[.int .i64 k, .int .i64 n] 38)).alloc (.cells #[.int .i64 em, .int .i64 rem, .int .i64 vw, .int .i64 vh] 42)) (w.heap.size + 1) 42 #[.int .i64 em, .int .i64 rem, .int .i64 vw, .int .i64 vh] from Blk.new (by simp))
 have HB0 := hid ((ba w (.cells #[.int .i64 k, .int .i64 n] 38)).alloc (by simp) (.cells #[.int .i64 em, .int .i64 rem, .int .i64 vw, .int .i64 vh] 42))
 go_enter Tryz.func5, Tryz.ntmps5
 go_wp2_with (first
  | (go_at_call 7; (with_reducible refine (cH.out _).mono ?_); rintro e W1 ⟨rfl, hb⟩; have V1 := hid (V0.out.below hb V0.out.lt); have K1 := hid (K0.out.below hb K0.out.lt); have v1c := V1.out.cell; have HB1 := hid (tb HB0 hb); clear hb)
  | (go_at_call 10; (with_reducible refine (cT.out _ (HM.out.on HB1.out HM.out.lt) (HT.out.on HB1.out) (HR.out.on HB1.out)).mono ?_); rintro e W2 ⟨rfl, hb⟩; have V2 := hid (V1.out.below hb V1.out.lt); have K2 := hid (K1.out.below hb K1.out.lt); have k2c := K2.out.cell; have HB2 := hid (tb HB1 hb); clear hb)
  | (go_at_call 11; (with_reducible refine (cR.out _ (HM.out.on HB2.out HM.out.lt) (HU.out.on HB2.out)).mono ?_); rintro e W3 ⟨rfl, hb⟩; have V3 := hid ((V2.out.below hb V2.out.lt).alloc (.cells #[.int .i64 k2, .int .i64 n2] 38)); have K3 := hid ((K2.out.below hb K2.out.lt).alloc (.cells #[.int .i64 k2, .int .i64 n2] 38)); have N3 := hid (show Blk (W3.alloc (.cells #[.int .i64 k2, .int .i64 n2] 38)) W3.heap.size 38 #[.int .i64 k2, .int .i64 n2] from Blk.new rfl); have HB3 := hid ((tb HB2 hb).alloc (tb HB2 hb).size (.cells #[.int .i64 k2, .int .i64 n2] 38)); clear hb))
 obtain ⟨Y, hY⟩ : ∃ Y, W3.alloc (.cells #[.int .i64 k2, .int .i64 n2] 38) = Y := ⟨_, rfl⟩
 rw [hY] at V3 K3 N3 HB3 ⊢
 clear hY
 have z1 := V3.out.lt
 have z2 := K3.out.lt
 have z3 := N3.out.lt
 go_cut [15] (fun gg wx => gg = .int .i64 g /\ Below Y.heap.size Y wx)
 case first =>
  have k3c := K3.out.cell
  have ZB : Y.heap.size <= Y.heap.size := Nat.le_refl _
  go_region_held3 (fun w' => (∀ b o, b < Y.heap.size -> w'.cell? ⟨b, o, none⟩ = Y.cell? ⟨b, o, none⟩) /\ Below Y.heap.size Y w')
   (first | exact As.beg | assumption | exact As.on hb3 (by assumption) ZB | exact As.on hb4 (by assumption) ZB | exact As.alloc (by assumption) ZB | exact hs5.out | exact hs4.out | exact As.alloc hs5.out ZB | exact As.alloc hs4.out ZB | exact As.store (As.store hs5.out (by dsimp only; omega)) (by dsimp only; omega) | exact As.store (by assumption) (by dsimp only; omega) | exact As.store (As.store (by assumption) (by dsimp only; omega)) (by dsimp only; omega))
   (first
    | (go_at_call 13; (with_reducible refine (cN.out _).mono ?_); rintro e w4 ⟨rfl, hb3⟩; have hz4 : Y.heap.size <= w4.heap.size := (by have := hb3.size; simp at this; omega); (first | (have hs4 := hid (As.on (B := Y.heap.size) (W0 := Y) hb3 As.beg ZB)) | (have hs4 := hid (As.on (B := Y.heap.size) (W0 := Y) hb3 (As.drew (As.alloc As.beg0 ZB)) ZB))); (first | (have q4 := hid ((show Blk (Y.alloc (.cells #[.int .i64 0, .int .i64 0] 38)).drew Y.heap.size 38 #[.int .i64 0, .int .i64 0] from (Blk.new rfl).drew).below hb3 (by simp)); have q4f := q4.out.frozen; have q4c := q4.out.cell) | skip))
    | (go_at_call 12; (with_reducible refine (cV.out _).mono ?_); rintro e w5 ⟨rfl, hb4⟩; (first | (have hs5 := hid (As.on (B := Y.heap.size) (W0 := Y) hb4 hs4.out ZB)) | (have hs5 := hid (As.on (B := Y.heap.size) (W0 := Y) hb4 (As.alloc hs4.out ZB) ZB))); (first | (have q5 := hid (q4.out.below hb4 q4.out.lt); have q5f := q5.out.frozen; have q5c := q5.out.cell) | (have q5 := hid ((show Blk (w4.alloc (.cells #[.int .i64 0, .int .i64 0] 38)) w4.heap.size 38 #[.int .i64 0, .int .i64 0] from Blk.new rfl).below hb4 (by simp)); have q5f := q5.out.frozen; have q5c := q5.out.cell) | skip)))
  all_goals
   rename_i hHeld
   have HH := hid hHeld.2
   clear hHeld
   go_wp2_with fail
   go_meet
   case rel => exact ⟨rfl, HH.out⟩
 case rest =>
 obtain ⟨rfl, hbx⟩ := hcut
 rename World => Z
 have V4 := hid (V3.out.below hbx V3.out.lt)
 have N4 := hid (N3.out.below hbx N3.out.lt)
 have HB4 := hid (tb HB3 hbx)
 have v4c := V4.out.cell
 have n4c := N4.out.cell
 clear hbx
 rcases HG.out with hg | ⟨rfl, rfl, rfl, rfl⟩
 ·go_wp2_with fail
  go_ret
  exact ⟨rfl, HB4.out⟩
 ·have keq := fun W => run_eq_v k2 n2 k2 n2 W
  simp only [and_self, decide_true] at keq
  go_wp2_with fail
  go_ret
  exact ⟨rfl, HB4.out⟩
theorem px_worth (em rem vw vh : Int) : ∃ a b, cal.resV (cal.numP ⟨#[112, 120]⟩ 1000 ⟨em, rem, vw, vh⟩) = .tuple #[.agg #[.int .i64 a, .int .i64 b], .int .i64 (if okS em rem vw vh = true then 0 else 1)] := by
 have e1 : ¬ ((⟨#[112, 120]⟩ : ByteArray) = ByteArray.empty) := by decide
 have e2 : ¬ ((⟨#[112, 120]⟩ : ByteArray) = ⟨#[37]⟩) := by decide
 unfold cal.numP
 rw [if_neg e1, if_neg e2]
 show ∃ a b, cal.resV (if okS em rem vw vh = true then _ else none) = _
 cases okS em rem vw vh
 ·exact ⟨0, 0, rfl⟩
 ·exact ⟨2, _, rfl⟩
theorem law_ct (p k n em rem vw vh cur : Int) (hn : -9223372036854775808 <= n /\ n <= 9223372036854775807) (w : World) (hm : MaxL w) (hU : UnitsAt w) (hT : PowAt w) (hR : col.BruAt w) :
  Calls Tryz.prog 5 #[.int .i64 p, .agg #[.int .i64 k, .int .i64 n], .agg #[.int .i64 em, .int .i64 rem, .int .i64 vw, .int .i64 vh], .int .i64 cur] w (rt w (.bool true)) := by
 by_cases hp : 0 <= p /\ p < 59
 ·obtain ⟨q, rfl⟩ : ∃ q : Nat, p = q := ⟨p.toNat, by omega⟩
  have hq : q < 59 := by omega
  cases hf : fitsP q k n with
  | false => exact law_no q k n em rem vw vh cur 3 (by decide) (fun w hm _ _ => text_no q hq k n hn hf w hm) w hm hU hT hR
  | true =>
   obtain ⟨a, b, hv⟩ := px_worth em rem vw vh
   have cV := fun w => value_ct 1000 (by decide) (by decide) ⟨#[112, 120]⟩ (.inr (.inl rfl)) em rem vw vh w
   rw [hv] at cV
   have cT : TextC q k n (textV q k n) 0 := fun w hm hT hR => text_ok q hq k n hn hf w hm hT hR
   have hb := fits_bd hq hf
   have done_ : ∀ (hs : okS em rem vw vh = true ∨ ¬ k = 2), ∀ w, MaxL w -> UnitsAt w -> BackT q (textV q k n) em rem vw vh cur k n 0 w := by
    intro hs w hm hU
    rcases hb.1 with rfl | rfl | rfl | hk
    ·exact back_key q hq n hf em rem vw vh cur w hm hU
    ·have h0 := hb.2.2.2.2.1 rfl
     subst h0
     exact back_auto q hq hf em rem vw vh cur w hm hU
    ·exact back_col q hq n hf em rem vw vh cur w hm hU
    ·have e : textV q k n = bs (clb.numT (numO k n) (unitO k)) := (if_neg (by omega)).trans ((if_neg (by omega)).trans (if_neg (by omega)))
     rw [e]
     exact back_num q hq k n hf hk em rem vw vh cur (fun h => by rcases hs with hs | hs; (· rw [h.2] at hs; cases hs); exact hs h.1) w hm hU
   cases hs : okS em rem vw vh with
   | true =>
    rw [hs, if_pos rfl] at cV
    exact law_fit q k n em rem vw vh cur k n 0 a b 0 _ (.inr ⟨rfl, rfl, rfl, rfl⟩) cT (done_ (.inl hs)) cV w hm hU hT hR
   | false =>
    rw [hs, if_neg (by decide)] at cV
    by_cases hk2 : k = 2
    ·subst hk2
     have e : textV q 2 n = bs (clb.numT (numO 2 n) (unitO 2)) := rfl
     rw [e] at cT
     exact law_fit q 2 n em rem vw vh cur 0 0 4 a b 1 _ (.inl (by decide)) cT (fun w hm hU => back_off q hq n hf em rem vw vh cur hs w hm hU) cV w hm hU hT hR
    ·exact law_fit q k n em rem vw vh cur k n 0 a b 1 _ (.inl (by decide)) cT (done_ (.inr hk2)) cV w hm hU hT hR
 ·exact law_no p k n em rem vw vh cur 1 (by decide) (fun w _ _ _ => text_out p hp k n w) w hm hU hT hR
end prp
namespace prp.back
open Go.RowKit base tok prp Go.ChangeShapes Go.WideShapes Go.ChangeAt
theorem lifted (os : Os) (started : os.Started) (H : Type) (enc : TypeId × Value -> H) :
  ReturnsInHanded {} Tryz.checked os 5 .any (fun w args => (Rows.propBackSpec.pre enc Tryz.prog Tryz.f5 Rows.propBackRow.domain false w args /\ laidMetH Tryz.prog Rows.propBackRow.laid w) /\ sizedMet enc Tryz.prog Tryz.f5 (OpenSpec.ofChange Rows.propBackSpec) false w args)
   (Rows.propBackSpec.post enc Tryz.prog Tryz.f5 false true false false) := by
 refine returns_door (C := Tryz.checked) (X := fun w _ => laidMetH Tryz.prog Rows.propBackRow.laid w) (fun _ _ _ hh h => h.of_heap hh) ownD started (by kernel_rfl) Tryz.func5
  (ChangeSpec.witness_shaped (enc := enc) (C := Tryz.checked) (os := os) (X := fun w _ => laidMetH Tryz.prog Rows.propBackRow.laid w) false (World.laidAll Tryz.prog os Rows.propBackRow.laid) #[.int .i64 0, .agg #[.int .i64 0, .int .i64 0], .agg #[.int .i64 0, .int .i64 0, .int .i64 0, .int .i64 0], .int .i64 0] 8 (World.laidAll_os _ _ _)
   (World.shaped_of_ZipB (by kernel_rfl) (by kernel_rfl)) (by kernel_rfl) (by kernel_rfl) (by kernel_rfl)
   (by rw [MakeChecks.laidMetH_plain _ _ _ (by kernel_rfl)]; exact laidMet_laidAll _ (by kernel_rfl) (by kernel_rfl))) ?_
 intro W base args ds gs before hval0 hW hsz hlaid hsh
 have hval : ∀ (j : Nat) t v, Tryz.f5.params[j]? = some t -> args[j]? = some v -> Value.okWide Tryz.prog W .any base t v := hval0
 have hW' := hW
 obtain ⟨p, q, hA0, hV, -, -, -⟩ := hW
 have hA : DataW.TrodAll enc Tryz.prog W 0 (fun _ => true) true Tryz.f5.params.toList args.toList ds p := hA0
 rw [Tryz.params5] at hA hval
 obtain ⟨v0, vs0, d0, ds0, p0, q0, hargs, rfl, -, h0, r0⟩ := trodAll_cons hA
 obtain ⟨v1, vs1, d1, ds1, p1, q1, rfl, rfl, -, h1, r1⟩ := trodAll_cons r0
 obtain ⟨v2, vs2, d2, ds2, p2, q2, rfl, rfl, -, h2, r2⟩ := trodAll_cons r1
 obtain ⟨v3, vs3, d3, ds3, p3, q3, rfl, rfl, -, h3, r3⟩ := trodAll_cons r2
 obtain ⟨rfl, rfl, -⟩ := trodAll_nil r3
 obtain rfl : args = #[v0, v1, v2, v3] := by cases args; simp_all
 obtain ⟨rfl, -⟩ := trodVars_none hV
 obtain ⟨a, rfl, -, -, -⟩ := open_int Tryz.underlying3 (hval 0 _ _ rfl rfl) h0
 obtain ⟨vk, vn, rfl, hvn⟩ := open_val (hval 1 _ _ rfl rfl) h1
 obtain ⟨em, rem, vw, vh, rfl⟩ := dim.open_scale (hval 2 _ _ rfl rfl) h2
 obtain ⟨d, rfl, -, -, -⟩ := open_int Tryz.underlying3 (hval 3 _ _ rfl rfl) h3
 rw [MakeChecks.laidMetH_plain _ _ _ (by kernel_rfl)] at hlaid
 exact (law_ct a vk vn em rem vw vh d hvn W (maxLen_of hsh) (dim.units_of hlaid (by simp [Rows.propBackRow])) (dim.pow_of hlaid (by simp [Rows.propBackRow])) (col.bru_of hlaid (by simp [Rows.propBackRow]))).mono fun e W' ⟨he, bel⟩ => ⟨_, he, law_post laidOutD rfl Tryz.underlying4 rfl (by intro t ht; rw [Tryz.params5] at ht; revert t; decide +kernel) rfl hW' bel⟩
theorem holds : Rows.PropBackSaid :=
 OpenClaim.holds_of_wide 5 Tryz.f5 rfl rfl rfl rfl rfl rfl rfl ⟨rfl, rfl, rfl, rfl, rfl⟩ rfl rfl rfl rfl rfl (by kernel_rfl) Tryz.func5 (by kernel_rfl)
  (of_decide_eq_true (by kernel_rfl)) (by unfold Func.isWrapper; first | (rw [if_pos (by decide +kernel)]; kernel_rfl) | (rw [if_neg (by decide +kernel)]; exact ⟨rfl, rfl⟩))
  (fun os started H enc _ => lifted os started H enc)
theorem proved : Rows.PropBackCardSaid :=
 Claim7.holds_tied_plain_at .later [] Rows.propBackCard.laidKinds true Rows.propBackCard.stood.harness Rows.propBackCard.stood.looks holds (fun _ h => by cases h) (by kernel_rfl) (fun _ h => by cases h) propBack_row_tie rfl ⟨rfl, rfl⟩ (by kernel_rfl) rfl
  (fun f fn hf hfn => by
   obtain rfl : f = 5 := Option.some.inj ((show Tryz.prog.funcNamed "clerestory/clerestorykeep2.PropBack" = some 5 by kernel_rfl).symm.trans hf) |>.symm
   obtain rfl : fn = Tryz.f5 := (Option.some.inj (Tryz.func5.symm.trans hfn)).symm
   exact ⟨by kernel_rfl, fun j t ht => by
    rw [Tryz.params5] at ht
    have hm : t ∈ [3, 38, 42, 3] := by simpa using Array.mem_of_getElem? ht
    have hall : ([3, 38, 42, 3].all fun u => !Tryz.prog.wantsStandIn u) = true := by kernel_rfl
    exact (show Tryz.prog.wantsStandIn t = false by simpa using List.all_eq_true.1 hall t hm)⟩)
  (by kernel_rfl)
#print axioms proved
end prp.back
end Go.Proofs.YtlfkkaofgcongaaGreatDoor
