/- CalcOrder: for every three numbers and each scale the call returns true, and all that was there reads as before. The package-level variables that its row lists start as the program's text lays them (the card ties them). -/
import Derived.Test.YtaihncbejhnceaaGreatDoorBE
import Derived.Test.YtaihncbejhnceaaGreatDoorBH
import Derived.Test.YtaihncbejhnceaaGreatDoorBC
import Derived.Test.YtaihncbejhnceaaGreatDoorTie
import Derived.Test.YtaihncbejhnceaaGreatDoorCards

namespace Go.Proofs.YtaihncbejhnceaaGreatDoor.cal.order
open Go.RowKit Go.Proofs.YtaihncbejhnceaaGreatDoor.base Go.Proofs.YtaihncbejhnceaaGreatDoor.tok Go.Proofs.YtaihncbejhnceaaGreatDoor.dim Go.Proofs.YtaihncbejhnceaaGreatDoor.rul Go.Proofs.YtaihncbejhnceaaGreatDoor.cal
set_option linter.unusedVariables false

theorem plain {u : ByteArray} {a b : Int} {sc : Sc} {k0 x0 e0 k1 x1 e1 km xm em kn xn en : Int} (h0 : pt (numP u a sc) = (k0, x0, e0)) (h1 : pt (numP u b sc) = (k1, x1, e1)) (hM : pt (twoP 6 (numP u a sc) (numP u b sc)) = (km, xm, em)) (hN : pt (twoP 7 (numP u a sc) (numP u b sc)) = (kn, xn, en)) :
    (em = 1 ∧ en = 1) ∨ (em = 0 ∧ en = 0 ∧ e0 = 0 ∧ e1 = 0 ∧ km = k0 ∧ xm = min x0 x1 ∧ xn = max x0 x1 ∧ -16777216 ≤ x0 ∧ x0 ≤ 16777216 ∧ -16777216 ≤ x1 ∧ x1 ≤ 16777216) := by
  rcases pt_or (numP u a sc) with ⟨r0, p0⟩ | ⟨p, r0, p0⟩
  · rw [r0] at hM hN
    simp only [twoP, pt, Prod.mk.injEq] at hM hN
    exact .inl ⟨hM.2.2.symm, hN.2.2.symm⟩
  · rcases pt_or (numP u b sc) with ⟨r1, p1⟩ | ⟨q, r1, p1⟩
    · rw [r0, r1] at hM hN
      simp only [twoP, pt, Prod.mk.injEq] at hM hN
      exact .inl ⟨hM.2.2.symm, hN.2.2.symm⟩
    · have b0 := numP_bd r0
      have b1 := numP_bd r1
      rw [r0, r1] at hM hN
      rw [p0] at h0
      rw [p1] at h1
      have o6 : opP 6 p.2 q.2 = min p.2 q.2 := rfl
      have o7 : opP 7 p.2 q.2 = max p.2 q.2 := rfl
      simp only [twoP, pt, Prod.mk.injEq, o6, o7] at hM hN h0 h1
      rw [clip_id (by omega) (by omega)] at hM hN
      obtain ⟨rfl, rfl, rfl⟩ := h0
      obtain ⟨rfl, rfl, rfl⟩ := h1
      exact .inr ⟨hM.2.2.symm, hN.2.2.symm, rfl, rfl, hM.1.symm, hM.2.1.symm, hN.2.1.symm, b0.1, b0.2, b1.1, b1.2⟩

set_option maxRecDepth 100000 in
set_option maxHeartbeats 8000000 in
theorem law_ct (a b u em rem vw vh : Int) (ha : -9223372036854775808 ≤ a ∧ a ≤ 9223372036854775807) (hb : -9223372036854775808 ≤ b ∧ b ≤ 9223372036854775807) (w : World) (hm : MaxL w) (hU : UnitsAt w) (hT : PowAt w) :
    Calls Tryz.prog 4 #[.int .i64 a, .int .i64 b, .int .i64 u, .agg #[.int .i64 em, .int .i64 rem, .int .i64 vw, .int .i64 vh]] w fun e w' => e = .returned (.bool true) ∧ Below w.heap.size w w' := by
  obtain ⟨U, hUn, cU⟩ := unitOf_ct u
  have kX := fun (W : World) => Knows.leaf W ⟨em, rem, vw, vh⟩ a ha.1 ha.2 U hUn
  have kY := fun (W : World) => Knows.leaf W ⟨em, rem, vw, vh⟩ b hb.1 hb.2 U hUn
  have cX := fun W => Value_ct _ _ _ _ W (kX W)
  have cY := fun W => Value_ct _ _ _ _ W (kY W)
  have cM := fun (g : Nat) (W : World) (hL : TmAt W g 0 [leafT a U, leafT b U]) => Value_ct _ _ _ _ W (Knows.two 6 0 ⟨#[]⟩ g 0 2 (by decide) _ _ _ _ _ _ (by decide) hL (kX W) (kY W) (by decide) (by decide) (fun p q e0 e1 => numP_kind e0 e1))
  have cM2 := fun (g : Nat) (W : World) (hL : TmAt W g 0 [leafT a U, leafT b U]) => Value_ct _ _ _ _ W (Knows.two 7 0 ⟨#[]⟩ g 0 2 (by decide) _ _ _ _ _ _ (by decide) hL (kX W) (kY W) (by decide) (by decide) (fun p q e0 e1 => numP_kind e0 e1))
  obtain ⟨⟨k0, x0, e0⟩, h0⟩ : ∃ v, pt (numP U a ⟨em, rem, vw, vh⟩) = v := ⟨_, rfl⟩
  obtain ⟨⟨k1, x1, e1⟩, h1⟩ : ∃ v, pt (numP U b ⟨em, rem, vw, vh⟩) = v := ⟨_, rfl⟩
  obtain ⟨⟨km, xm, er⟩, hM⟩ : ∃ v, pt (twoP 6 (numP U a ⟨em, rem, vw, vh⟩) (numP U b ⟨em, rem, vw, vh⟩)) = v := ⟨_, rfl⟩
  obtain ⟨⟨kn, xn, en⟩, hN⟩ : ∃ v, pt (twoP 7 (numP U a ⟨em, rem, vw, vh⟩) (numP U b ⟨em, rem, vw, vh⟩)) = v := ⟨_, rfl⟩
  have hfin := Lib.hid (plain h0 h1 hM hN)
  simp only [resV_pt, h0, h1, hM, hN, leafT] at cX cY cM cM2
  clear kX kY h0 h1 hM hN ha hb hUn
  replace cX := Lib.hid cX
  replace cY := Lib.hid cY
  replace cM := Lib.hid cM
  replace cM2 := Lib.hid cM2
  replace cU := Lib.hid cU
  have cN := Lib.hid num_ct
  have cF := Lib.hid twice_ct
  have Hm := Lib.hid hm
  have HU := Lib.hid hU
  have HT := Lib.hid hT
  clear hm hU hT
  have T3 := Lib.hid (fun (W : World) => show TmAt (W.alloc (.cells #[.int .i64 1, .int .i64 a, .string U, .slice none 0 0, .int .i64 1, .int .i64 b, .string U, .slice none 0 0] 29)) W.heap.size 0 [⟨1, a, U, none, 0, 0⟩, ⟨1, b, U, none, 0, 0⟩] from tm_two (t0 := ⟨1, a, U, none, 0, 0⟩) (t1 := ⟨1, b, U, none, 0, 0⟩) (Blk.new rfl))
  have HB := Lib.hid (show Below w.heap.size w (w.alloc (.cells #[.int .i64 em, .int .i64 rem, .int .i64 vw, .int .i64 vh] 23)) from (Below.refl _ _).alloc (Nat.le_refl _) _)
  have QS := Lib.hid (show Blk (w.alloc (.cells #[.int .i64 em, .int .i64 rem, .int .i64 vw, .int .i64 vh] 23)) w.heap.size 23 #[.int .i64 em, .int .i64 rem, .int .i64 vw, .int .i64 vh] from Blk.new rfl)
  go_enter Tryz.func4, Tryz.ntmps4
  go_wp2_with (first
    | (go_at_call 6; (with_reducible refine (cF.out _ (Hm.out.on HB.out Hm.out.lt) (HU.out.on HB.out) (HT.out.on HB.out)).mono ?_); rintro e W1 ⟨rfl, hb1⟩; replace QS := Lib.hid (QS.out.below hb1 QS.out.lt); replace HB := Lib.hid (HB.out.trans (hb1.mono HB.out.size)); clear hb1)
    | (go_at_call 8; (with_reducible refine (cU.out _).mono ?_); rintro e W2 ⟨rfl, hb1⟩; replace QS := Lib.hid (QS.out.below hb1 QS.out.lt); replace HB := Lib.hid (HB.out.trans (hb1.mono HB.out.size)); clear hb1)
    | (go_at_call 7; (with_reducible refine (cN.out _ _ _).mono ?_); rintro e W3 ⟨rfl, hb1⟩; replace QS := Lib.hid (QS.out.below hb1 QS.out.lt); replace HB := Lib.hid (HB.out.trans (hb1.mono HB.out.size)); (try clear qsc qsl); have qsc := QS.out.cell; have qsl := QS.out.lt; clear hb1)
    | (go_at_call 9; (with_reducible refine (cM.out _ _ (T3.out _)).mono ?_); rintro e W4 ⟨rfl, hb4⟩; have z3 := QS.out.lt; have QG := Lib.hid (((Blk.new (w := W3) (k := W3.heap.size) (t := 29) (cs := #[.int .i64 1, .int .i64 a, .string U, .slice none 0 0, .int .i64 1, .int .i64 b, .string U, .slice none 0 0]) rfl).below hb4 (by simp)).alloc (.cells #[.int .i64 km, .int .i64 xm] 33)); have QM := Lib.hid (show Blk (W4.alloc (.cells #[.int .i64 km, .int .i64 xm] 33)) W4.heap.size 33 #[.int .i64 km, .int .i64 xm] from Blk.new rfl); replace QS := Lib.hid (((QS.out.alloc (.cells #[.int .i64 1, .int .i64 a, .string U, .slice none 0 0, .int .i64 1, .int .i64 b, .string U, .slice none 0 0] 29)).below hb4 (by simp <;> omega)).alloc (.cells #[.int .i64 km, .int .i64 xm] 33)); replace HB := Lib.hid (((HB.out.alloc HB.out.size (.cells #[.int .i64 1, .int .i64 a, .string U, .slice none 0 0, .int .i64 1, .int .i64 b, .string U, .slice none 0 0] 29)).trans (hb4.mono (by have := HB.out.size; simp; omega))).alloc (by have := HB.out.size; have := hb4.size; simp at *; omega) (.cells #[.int .i64 km, .int .i64 xm] 33)); have z4 := hb4.size; rw [World.size_alloc] at z4; clear qsc qsl hb4; have qsc := QS.out.cell; have qsl := QS.out.lt; have T4 := Lib.hid (show TmAt (W4.alloc (.cells #[.int .i64 km, .int .i64 xm] 33)) W3.heap.size 0 [⟨1, a, U, none, 0, 0⟩, ⟨1, b, U, none, 0, 0⟩] from tm_two (t0 := ⟨1, a, U, none, 0, 0⟩) (t1 := ⟨1, b, U, none, 0, 0⟩) QG.out))
    | (go_at_call 9; (with_reducible refine (cM2.out _ _ T4.out).mono ?_); rintro e W5 ⟨rfl, hb5⟩; have QN := Lib.hid (show Blk (W5.alloc (.cells #[.int .i64 kn, .int .i64 xn] 33)) W5.heap.size 33 #[.int .i64 kn, .int .i64 xn] from Blk.new rfl); replace QG := Lib.hid ((QG.out.below hb5 QG.out.lt).alloc (.cells #[.int .i64 kn, .int .i64 xn] 33)); replace QM := Lib.hid ((QM.out.below hb5 QM.out.lt).alloc (.cells #[.int .i64 kn, .int .i64 xn] 33)); replace QS := Lib.hid ((QS.out.below hb5 QS.out.lt).alloc (.cells #[.int .i64 kn, .int .i64 xn] 33)); replace HB := Lib.hid ((HB.out.trans (hb5.mono HB.out.size)).alloc (by have := HB.out.size; have := hb5.size; simp at *; omega) (.cells #[.int .i64 kn, .int .i64 xn] 33)); clear qsc qsl hb5))
  obtain ⟨V3, hV3⟩ : ∃ V3, W5.alloc (.cells #[.int .i64 kn, .int .i64 xn] 33) = V3 := ⟨_, rfl⟩
  rw [hV3] at QG QM QN QS HB ⊢
  clear hV3
  have zP0 := QG.out.lt
  have yP0 := QS.out.lt
  go_cut [15, 16] (fun pp ee wx => ∃ P : Nat, V3.heap.size ≤ P ∧ pp = .pointer (some ⟨P, 0, none⟩) ∧ ee = .int .i64 e0 ∧ Blk wx P 33 #[.int .i64 k0, .int .i64 x0] ∧ Below V3.heap.size V3 wx)
  case first =>
    have qgc := QG.out.cell
    have qsc := QS.out.cell
    have ZB : V3.heap.size ≤ V3.heap.size := Nat.le_refl _
    go_region_held3 (fun w' => (∀ b o, b < V3.heap.size → w'.cell? ⟨b, o, none⟩ = V3.cell? ⟨b, o, none⟩) ∧ Below V3.heap.size V3 w')
      (first | exact As.beg | assumption | exact As.on hb3 (by assumption) ZB | exact As.alloc (by assumption) ZB | exact As.alloc hs4.out ZB | exact hs4.out | exact As.store (As.store hs4.out (by dsimp only; omega)) (by dsimp only; omega))
      (first | (go_at_call 9; (with_reducible refine (cX.out _).mono ?_); rintro e w4 ⟨rfl, hb3⟩; (first | (have hs4 := Lib.hid (As.on (B := V3.heap.size) (W0 := V3) hb3 As.beg ZB)) | (have hs4 := Lib.hid (As.on (B := V3.heap.size) (W0 := V3) hb3 (As.drew (As.alloc As.beg0 ZB)) ZB); have q4 := Lib.hid ((show Blk (V3.alloc (.cells #[.int .i64 0, .int .i64 0] 33)).drew V3.heap.size 33 #[.int .i64 0, .int .i64 0] from (Blk.new rfl).drew).below hb3 (by simp)); have q4f := q4.out.frozen; have q4c := q4.out.cell))))
    all_goals
      rename_i hHeld
      clear hHeld
      go_wp2_with fail
      go_meet
      case rel =>
        first
          | exact ⟨_, hs4.out.2.size, rfl, rfl, Blk.new rfl, hs4.out.2.alloc hs4.out.2.size _⟩
          | exact ⟨_, Nat.le_refl _, rfl, rfl, (q4.out.put 0 _).put 1 _, (hs4.out.2.setCell (Nat.le_refl _) _).setCell (Nat.le_refl _) _⟩
  case rest =>
  obtain ⟨P0, hP0, rfl, rfl, QP0, hbP0⟩ := hcut
  replace QP0 := Lib.hid QP0
  replace QG := Lib.hid (QG.out.below hbP0 QG.out.lt)
  replace QS := Lib.hid (QS.out.below hbP0 QS.out.lt)
  replace QM := Lib.hid (QM.out.below hbP0 QM.out.lt)
  replace QN := Lib.hid (QN.out.below hbP0 QN.out.lt)
  replace HB := Lib.hid (HB.out.trans (hbP0.mono HB.out.size))
  clear hbP0
  rename World => V5
  go_wp2_with fail
  have zP1 := QG.out.lt
  have yP1 := QS.out.lt
  go_cut [17, 18] (fun pp ee wx => ∃ P : Nat, V5.heap.size ≤ P ∧ pp = .pointer (some ⟨P, 0, none⟩) ∧ ee = .int .i64 e1 ∧ Blk wx P 33 #[.int .i64 k1, .int .i64 x1] ∧ Below V5.heap.size V5 wx)
  case first =>
    have qgc := QG.out.cell
    have qsc := QS.out.cell
    have ZB : V5.heap.size ≤ V5.heap.size := Nat.le_refl _
    go_region_held3 (fun w' => (∀ b o, b < V5.heap.size → w'.cell? ⟨b, o, none⟩ = V5.cell? ⟨b, o, none⟩) ∧ Below V5.heap.size V5 w')
      (first | exact As.beg | assumption | exact As.on hb3 (by assumption) ZB | exact As.alloc (by assumption) ZB | exact As.alloc hs4.out ZB | exact hs4.out | exact As.store (As.store hs4.out (by dsimp only; omega)) (by dsimp only; omega))
      (first | (go_at_call 9; (with_reducible refine (cY.out _).mono ?_); rintro e w4 ⟨rfl, hb3⟩; (first | (have hs4 := Lib.hid (As.on (B := V5.heap.size) (W0 := V5) hb3 As.beg ZB)) | (have hs4 := Lib.hid (As.on (B := V5.heap.size) (W0 := V5) hb3 (As.drew (As.alloc As.beg0 ZB)) ZB); have q4 := Lib.hid ((show Blk (V5.alloc (.cells #[.int .i64 0, .int .i64 0] 33)).drew V5.heap.size 33 #[.int .i64 0, .int .i64 0] from (Blk.new rfl).drew).below hb3 (by simp)); have q4f := q4.out.frozen; have q4c := q4.out.cell))))
    all_goals
      rename_i hHeld
      clear hHeld
      go_wp2_with fail
      go_meet
      case rel =>
        first
          | exact ⟨_, hs4.out.2.size, rfl, rfl, Blk.new rfl, hs4.out.2.alloc hs4.out.2.size _⟩
          | exact ⟨_, Nat.le_refl _, rfl, rfl, (q4.out.put 0 _).put 1 _, (hs4.out.2.setCell (Nat.le_refl _) _).setCell (Nat.le_refl _) _⟩
  case rest =>
  obtain ⟨P1, hP1, rfl, rfl, QP1, hbP1⟩ := hcut
  replace QP1 := Lib.hid QP1
  replace QG := Lib.hid (QG.out.below hbP1 QG.out.lt)
  replace QS := Lib.hid (QS.out.below hbP1 QS.out.lt)
  replace QM := Lib.hid (QM.out.below hbP1 QM.out.lt)
  replace QN := Lib.hid (QN.out.below hbP1 QN.out.lt)
  replace QP0 := Lib.hid (QP0.out.below hbP1 QP0.out.lt)
  replace HB := Lib.hid (HB.out.trans (hbP1.mono HB.out.size))
  clear hbP1
  rename World => V6
  have m1 := QM.out.cell
  have m2 := QP0.out.cell
  have m3 := QP1.out.cell
  have m4 := QN.out.cell
  rcases hfin.out with ⟨he, hf⟩ | ⟨he, hf, f0, f1, g0, hx, hy, b0, b1, b2, b3⟩
  · subst he hf
    go_wp2
    go_ret
    exact ⟨rfl, HB.out⟩
  · subst he hf f0 f1 g0
    have r1 : IntKind.i64.wrap (xm + xn) = xm + xn := IntWalk.i64_in _ (by omega)
    have r2 : IntKind.i64.wrap (x0 + x1) = x0 + x1 := IntWalk.i64_in _ (by omega)
    have r3 : (xm + xn == x0 + x1) = true := by rw [beq_iff_eq]; omega
    have r4 := hx.symm
    have r5 := hy.symm
    clear b0 b1 b2 b3
    replace hx := Lib.hid hx
    replace hy := Lib.hid hy
    go_wp2
    go_ret
    exact ⟨rfl, HB.out⟩

end Go.Proofs.YtaihncbejhnceaaGreatDoor.cal.order

namespace Go.Proofs.YtaihncbejhnceaaGreatDoor.cal.order
open Go.RowKit Go.Proofs.YtaihncbejhnceaaGreatDoor.base Go.Proofs.YtaihncbejhnceaaGreatDoor.tok Go.Proofs.YtaihncbejhnceaaGreatDoor.cal Go.ChangeShapes Go.WideShapes Go.ChangeAt
set_option linter.unusedVariables false

set_option maxRecDepth 100000 in
theorem lifted (os : Os) (started : os.Started) (H : Type) (enc : TypeId × Value → H) :
    ReturnsInHanded {} Tryz.checked os 4 .any (fun w args => (Rows.calcOrderSpec.pre enc Tryz.prog Tryz.f4 Rows.calcOrderRow.domain false w args ∧ laidMetH Tryz.prog Rows.calcOrderRow.laid w) ∧ sizedMet enc Tryz.prog Tryz.f4 (OpenSpec.ofChange Rows.calcOrderSpec) false w args)
      (Rows.calcOrderSpec.post enc Tryz.prog Tryz.f4 false true false false) := by
  refine returns_door (C := Tryz.checked) (X := fun w _ => laidMetH Tryz.prog Rows.calcOrderRow.laid w) (fun _ _ _ hh h => h.of_heap hh) ownD started (by kernel_rfl) Tryz.func4
    (ChangeSpec.witness_shaped (enc := enc) (C := Tryz.checked) (os := os) (X := fun w _ => laidMetH Tryz.prog Rows.calcOrderRow.laid w) false (World.laidAll Tryz.prog os Rows.calcOrderRow.laid) #[.int .i64 0, .int .i64 0, .int .i64 0, .agg #[.int .i64 0, .int .i64 0, .int .i64 0, .int .i64 0]] 8 (World.laidAll_os _ _ _)
      (World.shaped_of_ZipB (by kernel_rfl) (by kernel_rfl)) (by kernel_rfl) (by kernel_rfl) (by kernel_rfl)
      (by rw [MakeChecks.laidMetH_plain _ _ _ (by kernel_rfl)]; exact laidMet_laidAll _ (by kernel_rfl) (by kernel_rfl))) ?_
  intro W base args ds gs before hval0 hW hsz hlaid hsh
  have hval : ∀ (j : Nat) t v, Tryz.f4.params[j]? = some t → args[j]? = some v → Value.okWide Tryz.prog W .any base t v := hval0
  have hW' := hW
  obtain ⟨p, q, hA0, hV, -, -, -⟩ := hW
  have hA : DataW.TrodAll enc Tryz.prog W 0 (fun _ => true) true Tryz.f4.params.toList args.toList ds p := hA0
  rw [Tryz.params4] at hA hval
  obtain ⟨v0, vs0, d0, ds0, p0, q0, hargs, rfl, -, h0, r0⟩ := trodAll_cons hA
  obtain ⟨v1, vs1, d1, ds1, p1, q1, rfl, rfl, -, h1, r1⟩ := trodAll_cons r0
  obtain ⟨v2, vs2, d2, ds2, p2, q2, rfl, rfl, -, h2, r2⟩ := trodAll_cons r1
  obtain ⟨v3, vs3, d3, ds3, p3, q3, rfl, rfl, -, h3, r3⟩ := trodAll_cons r2
  obtain ⟨rfl, rfl, -⟩ := trodAll_nil r3
  obtain rfl : args = #[v0, v1, v2, v3] := by cases args; simp_all
  obtain ⟨rfl, -⟩ := trodVars_none hV
  obtain ⟨a, rfl, -, -, hw0⟩ := open_int Tryz.underlying3 (hval 0 _ _ rfl rfl) h0
  have hr0 := wf_i64 hw0
  obtain ⟨b, rfl, -, -, hw1⟩ := open_int Tryz.underlying3 (hval 1 _ _ rfl rfl) h1
  have hr1 := wf_i64 hw1
  obtain ⟨c, rfl, -, -, -⟩ := open_int Tryz.underlying3 (hval 2 _ _ rfl rfl) h2
  obtain ⟨em, rem, vw, vh, rfl⟩ := dim.open_scale (hval 3 _ _ rfl rfl) h3
  rw [MakeChecks.laidMetH_plain _ _ _ (by kernel_rfl)] at hlaid
  exact (law_ct a b c em rem vw vh hr0 hr1 W (maxLen_of hsh) (dim.units_of hlaid (by simp [Rows.calcOrderRow])) (dim.pow_of hlaid (by simp [Rows.calcOrderRow]))).mono fun e W' ⟨he, bel⟩ => ⟨_, he, law_post laidOutD rfl Tryz.underlying4 rfl (by intro t ht; rw [Tryz.params4] at ht; revert t; decide +kernel) rfl hW' bel⟩

theorem holds : Rows.CalcOrderSaid :=
  OpenClaim.holds_of_wide 4 Tryz.f4 rfl rfl rfl rfl rfl rfl rfl ⟨rfl, rfl, rfl, rfl, rfl⟩ rfl rfl rfl rfl rfl (by kernel_rfl) Tryz.func4 (by kernel_rfl)
    (of_decide_eq_true (by kernel_rfl)) (by unfold Func.isWrapper; first | (rw [if_pos (by decide +kernel)]; kernel_rfl) | (rw [if_neg (by decide +kernel)]; exact ⟨rfl, rfl⟩))
    (fun os started H enc _ => lifted os started H enc)

theorem proved : Rows.CalcOrderCardSaid :=
  Claim7.holds_tied_plain_at .later [] Rows.calcOrderCard.laidKinds true Rows.calcOrderCard.stood.harness Rows.calcOrderCard.stood.looks holds (fun _ h => by cases h) (by kernel_rfl) (fun _ h => by cases h) calcOrder_row_tie rfl ⟨rfl, rfl⟩ (by kernel_rfl) rfl
    (fun f fn hf hfn => by
      obtain rfl : f = 4 := Option.some.inj ((show Tryz.prog.funcNamed "clerestory/clerestorykeep2.CalcOrder" = some 4 by kernel_rfl).symm.trans hf) |>.symm
      obtain rfl : fn = Tryz.f4 := (Option.some.inj (Tryz.func4.symm.trans hfn)).symm
      exact ⟨by kernel_rfl, fun j t ht => by
        rw [Tryz.params4] at ht
        have hm : t ∈ [3, 3, 3, 23] := by simpa using Array.mem_of_getElem? ht
        have hall : ([3, 3, 3, 23].all fun u => !Tryz.prog.wantsStandIn u) = true := by kernel_rfl
        exact (show Tryz.prog.wantsStandIn t = false by simpa using List.all_eq_true.1 hall t hm)⟩)
    (by kernel_rfl)
#print axioms proved

end Go.Proofs.YtaihncbejhnceaaGreatDoor.cal.order
