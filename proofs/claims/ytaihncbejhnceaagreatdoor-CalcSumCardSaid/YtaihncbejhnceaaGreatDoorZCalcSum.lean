/- CalcSum: for every three numbers and each scale the call returns true, and all that was there reads as before. The package-level variables that its row lists start as the program's text lays them (the card ties them). -/
import Derived.Test.YtaihncbejhnceaaGreatDoorBE
import Derived.Test.YtaihncbejhnceaaGreatDoorBH
import Derived.Test.YtaihncbejhnceaaGreatDoorBC
import Derived.Test.YtaihncbejhnceaaGreatDoorTie
import Derived.Test.YtaihncbejhnceaaGreatDoorCards

namespace Go.Proofs.YtaihncbejhnceaaGreatDoor.cal.sum
open Go.RowKit Go.Proofs.YtaihncbejhnceaaGreatDoor.base Go.Proofs.YtaihncbejhnceaaGreatDoor.tok Go.Proofs.YtaihncbejhnceaaGreatDoor.dim Go.Proofs.YtaihncbejhnceaaGreatDoor.rul Go.Proofs.YtaihncbejhnceaaGreatDoor.cal
set_option linter.unusedVariables false

theorem num3000 (sc : Sc) : numP ⟨#[]⟩ 3000 sc = some (4, 3000) := rfl
theorem two_kind {k : Int} {r0 r1 : Option (Int × Int)} {p : Int × Int} (h : twoP k r0 r1 = some p) : ∃ q, r0 = some q ∧ p.1 = q.1 := by
  cases r0 with
  | none => simp [twoP] at h
  | some q =>
    cases r1 with
    | none => simp [twoP] at h
    | some s =>
      simp only [twoP, Option.some.injEq] at h
      exact ⟨q, rfl, by rw [← h]⟩
theorem plain {u : ByteArray} {a b : Int} {sc : Sc} {k0 x0 e0 ka xa ea kb xb eb ks xs es km xm er : Int} (h0 : pt (numP u a sc) = (k0, x0, e0)) (hA : pt (twoP 2 (numP u a sc) (numP u b sc)) = (ka, xa, ea)) (hB : pt (twoP 2 (numP u b sc) (numP u a sc)) = (kb, xb, eb)) (hS : pt (twoP 3 (twoP 2 (numP u a sc) (numP u b sc)) (numP u b sc)) = (ks, xs, es)) (hM : pt (mulP (numP u a sc)) = (km, xm, er)) :
    (ea = 1 ∧ eb = 1) ∨ (ea = 0 ∧ eb = 0 ∧ es = 0 ∧ e0 = 0 ∧ er = 0 ∧ ka = kb ∧ xa = xb ∧ (16777216 ≤ xa ∨ xa ≤ -16777216 ∨ (-16777216 < xa ∧ xa < 16777216 ∧ ks = k0 ∧ xs = x0))) := by
  rcases pt_or (numP u a sc) with ⟨r0, p0⟩ | ⟨p, r0, p0⟩
  · rw [r0] at hA hB
    have e1 : twoP 2 (numP u b sc) none = none := by cases numP u b sc <;> rfl
    rw [e1] at hB
    simp only [twoP, pt, Prod.mk.injEq] at hA hB
    exact .inl ⟨hA.2.2.symm, hB.2.2.symm⟩
  · rcases pt_or (numP u b sc) with ⟨r1, p1⟩ | ⟨q, r1, p1⟩
    · rw [r0, r1] at hA hB
      simp only [twoP, pt, Prod.mk.injEq] at hA hB
      exact .inl ⟨hA.2.2.symm, hB.2.2.symm⟩
    · have b0 := numP_bd r0
      have b1 := numP_bd r1
      have s1 := numP_kind r0 r1
      rw [r0, r1] at hA hB hS
      rw [r0] at hM
      rw [p0] at h0
      have o2 : ∀ x y, opP 2 x y = x + y := fun _ _ => rfl
      have o3 : ∀ x y, opP 3 x y = x - y := fun _ _ => rfl
      simp only [twoP, mulP, pt, Prod.mk.injEq, o2, o3] at hA hB hS hM h0
      obtain ⟨rfl, rfl, rfl⟩ := h0
      refine .inr ⟨hA.2.2.symm, hB.2.2.symm, hS.2.2.symm, rfl, hM.2.2.symm, ?_, ?_, ?_⟩
      · rw [← hA.1, ← hB.1, s1]
      · rw [← hA.2.1, ← hB.2.1, Int.add_comm]
      · by_cases c1 : 16777216 ≤ p.2 + q.2
        · refine .inl ?_
          rw [← hA.2.1]
          unfold clipI
          omega
        · by_cases c2 : p.2 + q.2 ≤ -16777216
          · refine .inr (.inl ?_)
            rw [← hA.2.1]
            unfold clipI
            omega
          · refine .inr (.inr ?_)
            rw [clip_id (x := p.2 + q.2) (by omega) (by omega)] at hA hS
            rw [clip_id (by omega) (by omega)] at hS
            refine ⟨by omega, by omega, hS.1.symm, by omega⟩

set_option maxRecDepth 100000 in
set_option maxHeartbeats 16000000 in
theorem law_ct (a b u em rem vw vh : Int) (ha : -9223372036854775808 ≤ a ∧ a ≤ 9223372036854775807) (hb : -9223372036854775808 ≤ b ∧ b ≤ 9223372036854775807) (w : World) (hm : MaxL w) (hU : UnitsAt w) (hT : PowAt w) :
    Calls Tryz.prog 5 #[.int .i64 a, .int .i64 b, .int .i64 u, .agg #[.int .i64 em, .int .i64 rem, .int .i64 vw, .int .i64 vh]] w fun e w' => e = .returned (.bool true) ∧ Below w.heap.size w w' := by
  obtain ⟨U, hUn, cU⟩ := unitOf_ct u
  have kX := fun (W : World) => Knows.leaf W ⟨em, rem, vw, vh⟩ a ha.1 ha.2 U hUn
  have kY := fun (W : World) => Knows.leaf W ⟨em, rem, vw, vh⟩ b hb.1 hb.2 U hUn
  have kT := fun (W : World) => Knows.leaf W ⟨em, rem, vw, vh⟩ 3000 (by decide) (by decide) ⟨#[]⟩ (.inl rfl)
  simp only [num3000] at kT
  have cX := fun W => Value_ct _ _ _ _ W (kX W)
  have cA := fun (g : Nat) (W : World) (hL : TmAt W g 0 [leafT a U, leafT b U]) => Value_ct _ _ _ _ W (Knows.two 2 0 ⟨#[]⟩ g 0 2 (by decide) _ _ _ _ _ _ (by decide) hL (kX W) (kY W) (by decide) (by decide) (fun p q e0 e1 => numP_kind e0 e1))
  have cB := fun (g : Nat) (W : World) (hL : TmAt W g 0 [leafT b U, leafT a U]) => Value_ct _ _ _ _ W (Knows.two 2 0 ⟨#[]⟩ g 0 2 (by decide) _ _ _ _ _ _ (by decide) hL (kY W) (kX W) (by decide) (by decide) (fun p q e0 e1 => numP_kind e0 e1))
  have cS := fun (g h : Nat) (W : World) (hI : TmAt W g 0 [leafT a U, leafT b U]) (hL : TmAt W h 0 [⟨2, 0, ⟨#[]⟩, some ⟨g, 0, none⟩, 2, 2⟩, leafT b U]) => Value_ct _ _ _ _ W (Knows.two 3 0 ⟨#[]⟩ h 0 2 (by decide) _ _ _ _ _ _ (by decide) hL (Knows.two 2 0 ⟨#[]⟩ g 0 2 (by decide) _ _ _ _ _ _ (by decide) hI (kX W) (kY W) (by decide) (by decide) (fun p q e0 e1 => numP_kind e0 e1)) (kY W) (by decide) (by decide) (fun p q e0 e1 => by
    obtain ⟨s, hs, hp⟩ := two_kind e0
    rw [hp]
    exact numP_kind hs e1))
  have cR := fun (g : Nat) (W : World) (hL : TmAt W g 0 [leafT a U, leafT 3000 ⟨#[]⟩]) => Value_ct _ _ _ _ W (Knows.mulR 0 ⟨#[]⟩ g 0 2 (by decide) _ _ _ hL (kX W) (kT W))
  have cL := fun (g : Nat) (W : World) (hL : TmAt W g 0 [leafT 3000 ⟨#[]⟩, leafT a U]) => Value_ct _ _ _ _ W (Knows.mulL 0 ⟨#[]⟩ g 0 2 (by decide) _ _ _ hL (kT W) (kX W))
  obtain ⟨⟨k0, x0, e0⟩, h0⟩ : ∃ v, pt (numP U a ⟨em, rem, vw, vh⟩) = v := ⟨_, rfl⟩
  obtain ⟨⟨ka, xa, ea⟩, hA⟩ : ∃ v, pt (twoP 2 (numP U a ⟨em, rem, vw, vh⟩) (numP U b ⟨em, rem, vw, vh⟩)) = v := ⟨_, rfl⟩
  obtain ⟨⟨kb, xb, eb⟩, hB⟩ : ∃ v, pt (twoP 2 (numP U b ⟨em, rem, vw, vh⟩) (numP U a ⟨em, rem, vw, vh⟩)) = v := ⟨_, rfl⟩
  obtain ⟨⟨ks, xs, es⟩, hS⟩ : ∃ v, pt (twoP 3 (twoP 2 (numP U a ⟨em, rem, vw, vh⟩) (numP U b ⟨em, rem, vw, vh⟩)) (numP U b ⟨em, rem, vw, vh⟩)) = v := ⟨_, rfl⟩
  obtain ⟨⟨km, xm, er⟩, hM⟩ : ∃ v, pt (mulP (numP U a ⟨em, rem, vw, vh⟩)) = v := ⟨_, rfl⟩
  have hfin := Lib.hid (plain h0 hA hB hS hM)
  simp only [resV_pt, h0, hA, hB, hS, hM, leafT] at cX cA cB cS cR cL
  clear kX kY kT h0 hA hB hS hM ha hb hUn
  replace cX := Lib.hid cX
  replace cA := Lib.hid cA
  replace cB := Lib.hid cB
  replace cS := Lib.hid cS
  replace cR := Lib.hid cR
  replace cL := Lib.hid cL
  replace cU := Lib.hid cU
  have cN := Lib.hid num_ct
  have cF := Lib.hid twice_ct
  have Hm := Lib.hid hm
  have HU := Lib.hid hU
  have HT := Lib.hid hT
  clear hm hU hT
  have TA := Lib.hid (fun (W : World) (g : Nat) (hg : g = W.heap.size) => show TmAt (W.alloc (.cells #[.int .i64 1, .int .i64 a, .string U, .slice none 0 0, .int .i64 1, .int .i64 b, .string U, .slice none 0 0] 29)) g 0 [⟨1, a, U, none, 0, 0⟩, ⟨1, b, U, none, 0, 0⟩] from tm_two (t0 := ⟨1, a, U, none, 0, 0⟩) (t1 := ⟨1, b, U, none, 0, 0⟩) (Blk.new hg))
  have TB := Lib.hid (fun (W : World) (g : Nat) (hg : g = W.heap.size) => show TmAt (W.alloc (.cells #[.int .i64 1, .int .i64 b, .string U, .slice none 0 0, .int .i64 1, .int .i64 a, .string U, .slice none 0 0] 29)) g 0 [⟨1, b, U, none, 0, 0⟩, ⟨1, a, U, none, 0, 0⟩] from tm_two (t0 := ⟨1, b, U, none, 0, 0⟩) (t1 := ⟨1, a, U, none, 0, 0⟩) (Blk.new hg))
  have TR := Lib.hid (fun (W : World) (g : Nat) (hg : g = W.heap.size) => show TmAt (W.alloc (.cells #[.int .i64 1, .int .i64 a, .string U, .slice none 0 0, .int .i64 1, .int .i64 3000, .string ⟨#[]⟩, .slice none 0 0] 29)) g 0 [⟨1, a, U, none, 0, 0⟩, ⟨1, 3000, ⟨#[]⟩, none, 0, 0⟩] from tm_two (t0 := ⟨1, a, U, none, 0, 0⟩) (t1 := ⟨1, 3000, ⟨#[]⟩, none, 0, 0⟩) (Blk.new hg))
  have TL := Lib.hid (fun (W : World) (g : Nat) (hg : g = W.heap.size) => show TmAt (W.alloc (.cells #[.int .i64 1, .int .i64 3000, .string ⟨#[]⟩, .slice none 0 0, .int .i64 1, .int .i64 a, .string U, .slice none 0 0] 29)) g 0 [⟨1, 3000, ⟨#[]⟩, none, 0, 0⟩, ⟨1, a, U, none, 0, 0⟩] from tm_two (t0 := ⟨1, 3000, ⟨#[]⟩, none, 0, 0⟩) (t1 := ⟨1, a, U, none, 0, 0⟩) (Blk.new hg))
  have TI := Lib.hid (fun (W : World) (g : Nat) (hg : g = W.heap.size) => show TmAt ((W.alloc (.cells #[.int .i64 1, .int .i64 a, .string U, .slice none 0 0, .int .i64 1, .int .i64 b, .string U, .slice none 0 0] 29)).alloc (.cells #[.int .i64 2, .int .i64 0, .string ⟨#[]⟩, .slice (some ⟨g, 0, none⟩) 2 2, .int .i64 1, .int .i64 b, .string U, .slice none 0 0] 29)) g 0 [⟨1, a, U, none, 0, 0⟩, ⟨1, b, U, none, 0, 0⟩] from tm_two (t0 := ⟨1, a, U, none, 0, 0⟩) (t1 := ⟨1, b, U, none, 0, 0⟩) ((Blk.new hg).alloc _))
  have TO := Lib.hid (fun (W : World) (g h : Nat) (hh : h = W.heap.size + 1) => show TmAt ((W.alloc (.cells #[.int .i64 1, .int .i64 a, .string U, .slice none 0 0, .int .i64 1, .int .i64 b, .string U, .slice none 0 0] 29)).alloc (.cells #[.int .i64 2, .int .i64 0, .string ⟨#[]⟩, .slice (some ⟨g, 0, none⟩) 2 2, .int .i64 1, .int .i64 b, .string U, .slice none 0 0] 29)) h 0 [⟨2, 0, ⟨#[]⟩, some ⟨g, 0, none⟩, 2, 2⟩, ⟨1, b, U, none, 0, 0⟩] from tm_two (t0 := ⟨2, 0, ⟨#[]⟩, some ⟨g, 0, none⟩, 2, 2⟩) (t1 := ⟨1, b, U, none, 0, 0⟩) (Blk.new (by rw [hh]; simp)))
  have HB := Lib.hid (show Below w.heap.size w (w.alloc (.cells #[.int .i64 em, .int .i64 rem, .int .i64 vw, .int .i64 vh] 23)) from (Below.refl _ _).alloc (Nat.le_refl _) _)
  have QS := Lib.hid (show Blk (w.alloc (.cells #[.int .i64 em, .int .i64 rem, .int .i64 vw, .int .i64 vh] 23)) w.heap.size 23 #[.int .i64 em, .int .i64 rem, .int .i64 vw, .int .i64 vh] from Blk.new rfl)
  go_enter Tryz.func5, Tryz.ntmps5
  go_upto_region 11 with (first
    | (go_at_call 6; (with_reducible refine (cF.out _ (Hm.out.on HB.out Hm.out.lt) (HU.out.on HB.out) (HT.out.on HB.out)).mono ?_); rintro e W1 ⟨rfl, hb1⟩; replace QS := Lib.hid (QS.out.below hb1 QS.out.lt); replace HB := Lib.hid (HB.out.trans (hb1.mono HB.out.size)); clear hb1)
    | (go_at_call 8; (with_reducible refine (cU.out _).mono ?_); rintro e W2 ⟨rfl, hb1⟩; replace QS := Lib.hid (QS.out.below hb1 QS.out.lt); (try (replace PB := Lib.hid (PB.out.below hb1 PB.out.lt))); replace HB := Lib.hid (HB.out.trans (hb1.mono HB.out.size)); clear hb1)
    | (go_at_call 7; (with_reducible refine (cN.out a U _).mono ?_); rintro e W3 ⟨rfl, hb1⟩; replace QS := Lib.hid (QS.out.below hb1 QS.out.lt); (try clear cQS lQS mQS); have cQS := QS.out.cell; have lQS := QS.out.lt; have mQS := Nat.lt_add_right 1 (Nat.lt_add_right 1 lQS); replace QS := Lib.hid (QS.out.alloc (.cells #[.int .i64 1, .int .i64 a, .string U, .slice none 0 0] 29)); have PB := Lib.hid (show Blk (W3.alloc (.cells #[.int .i64 1, .int .i64 a, .string U, .slice none 0 0] 29)) W3.heap.size 29 #[.int .i64 1, .int .i64 a, .string U, .slice none 0 0] from Blk.new rfl); replace HB := Lib.hid ((HB.out.trans (hb1.mono HB.out.size)).alloc (by have h1 := HB.out.size; have h2 := hb1.size; omega) (.cells #[.int .i64 1, .int .i64 a, .string U, .slice none 0 0] 29)); clear hb1)
    | (go_at_call 7; (with_reducible refine (cN.out b U _).mono ?_); rintro e W4 ⟨rfl, hb1⟩; replace QS := Lib.hid (QS.out.below hb1 QS.out.lt); replace PB := Lib.hid (PB.out.below hb1 PB.out.lt); (try clear cQS lQS mQS); have cQS := QS.out.cell; have lQS := QS.out.lt; have mQS := Nat.lt_add_right 1 (Nat.lt_add_right 1 lQS); (try clear cPB lPB mPB); have cPB := PB.out.cell; have lPB := PB.out.lt; have mPB := Nat.lt_add_right 1 (Nat.lt_add_right 1 lPB); replace QS := Lib.hid (QS.out.alloc (.cells #[.int .i64 1, .int .i64 b, .string U, .slice none 0 0] 29)); replace PB := Lib.hid (PB.out.alloc (.cells #[.int .i64 1, .int .i64 b, .string U, .slice none 0 0] 29)); have QB := Lib.hid (show Blk (W4.alloc (.cells #[.int .i64 1, .int .i64 b, .string U, .slice none 0 0] 29)) W4.heap.size 29 #[.int .i64 1, .int .i64 b, .string U, .slice none 0 0] from Blk.new rfl); replace HB := Lib.hid ((HB.out.trans (hb1.mono HB.out.size)).alloc (by have h1 := HB.out.size; have h2 := hb1.size; omega) (.cells #[.int .i64 1, .int .i64 b, .string U, .slice none 0 0] 29)); clear hb1)
    | (go_at_call 9; (with_reducible refine (cA.out _ _ (TA.out _ _ (by simp))).mono ?_); rintro e W5 ⟨rfl, hb1⟩; replace QS := Lib.hid (((QS.out.alloc (.cells #[.int .i64 1, .int .i64 a, .string U, .slice none 0 0, .int .i64 1, .int .i64 b, .string U, .slice none 0 0] 29))).below hb1 (by have := QS.out.lt; (try simp only [World.size_alloc] at this ⊢); omega)); replace PB := Lib.hid (((PB.out.alloc (.cells #[.int .i64 1, .int .i64 a, .string U, .slice none 0 0, .int .i64 1, .int .i64 b, .string U, .slice none 0 0] 29))).below hb1 (by have := PB.out.lt; (try simp only [World.size_alloc] at this ⊢); omega)); replace QB := Lib.hid (((QB.out.alloc (.cells #[.int .i64 1, .int .i64 a, .string U, .slice none 0 0, .int .i64 1, .int .i64 b, .string U, .slice none 0 0] 29))).below hb1 (by have := QB.out.lt; (try simp only [World.size_alloc] at this ⊢); omega)); (try clear cQS lQS mQS); have cQS := QS.out.cell; have lQS := QS.out.lt; have mQS := Nat.lt_add_right 1 (Nat.lt_add_right 1 lQS); (try clear cPB lPB mPB); have cPB := PB.out.cell; have lPB := PB.out.lt; have mPB := Nat.lt_add_right 1 (Nat.lt_add_right 1 lPB); (try clear cQB lQB mQB); have cQB := QB.out.cell; have lQB := QB.out.lt; have mQB := Nat.lt_add_right 1 (Nat.lt_add_right 1 lQB); replace QS := Lib.hid (QS.out.alloc (.cells #[.int .i64 ka, .int .i64 xa] 33)); replace PB := Lib.hid (PB.out.alloc (.cells #[.int .i64 ka, .int .i64 xa] 33)); replace QB := Lib.hid (QB.out.alloc (.cells #[.int .i64 ka, .int .i64 xa] 33)); have RA := Lib.hid (show Blk (W5.alloc (.cells #[.int .i64 ka, .int .i64 xa] 33)) W5.heap.size 33 #[.int .i64 ka, .int .i64 xa] from Blk.new rfl); replace HB := Lib.hid (((HB.out.alloc (by have := HB.out.size; (try simp only [World.size_alloc] at this ⊢); omega) (.cells #[.int .i64 1, .int .i64 a, .string U, .slice none 0 0, .int .i64 1, .int .i64 b, .string U, .slice none 0 0] 29)).trans (hb1.mono (by have := HB.out.size; (try simp only [World.size_alloc] at this ⊢); omega))).alloc (by have h1 := HB.out.size; have h2 := hb1.size; (try simp only [World.size_alloc] at h1 h2 ⊢); omega) (.cells #[.int .i64 ka, .int .i64 xa] 33)); clear hb1)
    | (go_at_call 9; (with_reducible refine (cB.out _ _ (TB.out _ _ (by simp))).mono ?_); rintro e W6 ⟨rfl, hb1⟩; replace QS := Lib.hid (((QS.out.alloc (.cells #[.int .i64 1, .int .i64 b, .string U, .slice none 0 0, .int .i64 1, .int .i64 a, .string U, .slice none 0 0] 29))).below hb1 (by have := QS.out.lt; (try simp only [World.size_alloc] at this ⊢); omega)); replace PB := Lib.hid (((PB.out.alloc (.cells #[.int .i64 1, .int .i64 b, .string U, .slice none 0 0, .int .i64 1, .int .i64 a, .string U, .slice none 0 0] 29))).below hb1 (by have := PB.out.lt; (try simp only [World.size_alloc] at this ⊢); omega)); replace QB := Lib.hid (((QB.out.alloc (.cells #[.int .i64 1, .int .i64 b, .string U, .slice none 0 0, .int .i64 1, .int .i64 a, .string U, .slice none 0 0] 29))).below hb1 (by have := QB.out.lt; (try simp only [World.size_alloc] at this ⊢); omega)); replace RA := Lib.hid (((RA.out.alloc (.cells #[.int .i64 1, .int .i64 b, .string U, .slice none 0 0, .int .i64 1, .int .i64 a, .string U, .slice none 0 0] 29))).below hb1 (by have := RA.out.lt; (try simp only [World.size_alloc] at this ⊢); omega)); (try clear cQS lQS mQS); have cQS := QS.out.cell; have lQS := QS.out.lt; have mQS := Nat.lt_add_right 1 (Nat.lt_add_right 1 lQS); (try clear cPB lPB mPB); have cPB := PB.out.cell; have lPB := PB.out.lt; have mPB := Nat.lt_add_right 1 (Nat.lt_add_right 1 lPB); (try clear cQB lQB mQB); have cQB := QB.out.cell; have lQB := QB.out.lt; have mQB := Nat.lt_add_right 1 (Nat.lt_add_right 1 lQB); (try clear cRA lRA mRA); have cRA := RA.out.cell; have lRA := RA.out.lt; have mRA := Nat.lt_add_right 1 (Nat.lt_add_right 1 lRA); replace QS := Lib.hid (QS.out.alloc (.cells #[.int .i64 kb, .int .i64 xb] 33)); replace PB := Lib.hid (PB.out.alloc (.cells #[.int .i64 kb, .int .i64 xb] 33)); replace QB := Lib.hid (QB.out.alloc (.cells #[.int .i64 kb, .int .i64 xb] 33)); replace RA := Lib.hid (RA.out.alloc (.cells #[.int .i64 kb, .int .i64 xb] 33)); have RB := Lib.hid (show Blk (W6.alloc (.cells #[.int .i64 kb, .int .i64 xb] 33)) W6.heap.size 33 #[.int .i64 kb, .int .i64 xb] from Blk.new rfl); replace HB := Lib.hid (((HB.out.alloc (by have := HB.out.size; (try simp only [World.size_alloc] at this ⊢); omega) (.cells #[.int .i64 1, .int .i64 b, .string U, .slice none 0 0, .int .i64 1, .int .i64 a, .string U, .slice none 0 0] 29)).trans (hb1.mono (by have := HB.out.size; (try simp only [World.size_alloc] at this ⊢); omega))).alloc (by have h1 := HB.out.size; have h2 := hb1.size; (try simp only [World.size_alloc] at h1 h2 ⊢); omega) (.cells #[.int .i64 kb, .int .i64 xb] 33)); clear hb1)
    | (go_at_call 9; (with_reducible refine (cS.out _ _ _ (TI.out _ _ (by simp)) (TO.out _ _ _ (by simp))).mono ?_); rintro e W7 ⟨rfl, hb1⟩; replace QS := Lib.hid ((((QS.out.alloc (.cells #[.int .i64 1, .int .i64 a, .string U, .slice none 0 0, .int .i64 1, .int .i64 b, .string U, .slice none 0 0] 29)).alloc (.cells #[.int .i64 2, .int .i64 0, .string ⟨#[]⟩, .slice (some ⟨W6.heap.size + 1, 0, none⟩) 2 2, .int .i64 1, .int .i64 b, .string U, .slice none 0 0] 29))).below hb1 (by have := QS.out.lt; (try simp only [World.size_alloc] at this ⊢); omega)); replace PB := Lib.hid ((((PB.out.alloc (.cells #[.int .i64 1, .int .i64 a, .string U, .slice none 0 0, .int .i64 1, .int .i64 b, .string U, .slice none 0 0] 29)).alloc (.cells #[.int .i64 2, .int .i64 0, .string ⟨#[]⟩, .slice (some ⟨W6.heap.size + 1, 0, none⟩) 2 2, .int .i64 1, .int .i64 b, .string U, .slice none 0 0] 29))).below hb1 (by have := PB.out.lt; (try simp only [World.size_alloc] at this ⊢); omega)); replace QB := Lib.hid ((((QB.out.alloc (.cells #[.int .i64 1, .int .i64 a, .string U, .slice none 0 0, .int .i64 1, .int .i64 b, .string U, .slice none 0 0] 29)).alloc (.cells #[.int .i64 2, .int .i64 0, .string ⟨#[]⟩, .slice (some ⟨W6.heap.size + 1, 0, none⟩) 2 2, .int .i64 1, .int .i64 b, .string U, .slice none 0 0] 29))).below hb1 (by have := QB.out.lt; (try simp only [World.size_alloc] at this ⊢); omega)); replace RA := Lib.hid ((((RA.out.alloc (.cells #[.int .i64 1, .int .i64 a, .string U, .slice none 0 0, .int .i64 1, .int .i64 b, .string U, .slice none 0 0] 29)).alloc (.cells #[.int .i64 2, .int .i64 0, .string ⟨#[]⟩, .slice (some ⟨W6.heap.size + 1, 0, none⟩) 2 2, .int .i64 1, .int .i64 b, .string U, .slice none 0 0] 29))).below hb1 (by have := RA.out.lt; (try simp only [World.size_alloc] at this ⊢); omega)); replace RB := Lib.hid ((((RB.out.alloc (.cells #[.int .i64 1, .int .i64 a, .string U, .slice none 0 0, .int .i64 1, .int .i64 b, .string U, .slice none 0 0] 29)).alloc (.cells #[.int .i64 2, .int .i64 0, .string ⟨#[]⟩, .slice (some ⟨W6.heap.size + 1, 0, none⟩) 2 2, .int .i64 1, .int .i64 b, .string U, .slice none 0 0] 29))).below hb1 (by have := RB.out.lt; (try simp only [World.size_alloc] at this ⊢); omega)); (try clear cQS lQS mQS); have cQS := QS.out.cell; have lQS := QS.out.lt; have mQS := Nat.lt_add_right 1 (Nat.lt_add_right 1 lQS); (try clear cPB lPB mPB); have cPB := PB.out.cell; have lPB := PB.out.lt; have mPB := Nat.lt_add_right 1 (Nat.lt_add_right 1 lPB); (try clear cQB lQB mQB); have cQB := QB.out.cell; have lQB := QB.out.lt; have mQB := Nat.lt_add_right 1 (Nat.lt_add_right 1 lQB); (try clear cRA lRA mRA); have cRA := RA.out.cell; have lRA := RA.out.lt; have mRA := Nat.lt_add_right 1 (Nat.lt_add_right 1 lRA); (try clear cRB lRB mRB); have cRB := RB.out.cell; have lRB := RB.out.lt; have mRB := Nat.lt_add_right 1 (Nat.lt_add_right 1 lRB); replace QS := Lib.hid (QS.out.alloc (.cells #[.int .i64 ks, .int .i64 xs] 33)); replace PB := Lib.hid (PB.out.alloc (.cells #[.int .i64 ks, .int .i64 xs] 33)); replace QB := Lib.hid (QB.out.alloc (.cells #[.int .i64 ks, .int .i64 xs] 33)); replace RA := Lib.hid (RA.out.alloc (.cells #[.int .i64 ks, .int .i64 xs] 33)); replace RB := Lib.hid (RB.out.alloc (.cells #[.int .i64 ks, .int .i64 xs] 33)); have RS := Lib.hid (show Blk (W7.alloc (.cells #[.int .i64 ks, .int .i64 xs] 33)) W7.heap.size 33 #[.int .i64 ks, .int .i64 xs] from Blk.new rfl); replace HB := Lib.hid ((((HB.out.alloc (by have := HB.out.size; (try simp only [World.size_alloc] at this ⊢); omega) (.cells #[.int .i64 1, .int .i64 a, .string U, .slice none 0 0, .int .i64 1, .int .i64 b, .string U, .slice none 0 0] 29)).alloc (by have := HB.out.size; (try simp only [World.size_alloc] at this ⊢); omega) (.cells #[.int .i64 2, .int .i64 0, .string ⟨#[]⟩, .slice (some ⟨W6.heap.size + 1, 0, none⟩) 2 2, .int .i64 1, .int .i64 b, .string U, .slice none 0 0] 29)).trans (hb1.mono (by have := HB.out.size; (try simp only [World.size_alloc] at this ⊢); omega))).alloc (by have h1 := HB.out.size; have h2 := hb1.size; (try simp only [World.size_alloc] at h1 h2 ⊢); omega) (.cells #[.int .i64 ks, .int .i64 xs] 33)); clear hb1)
    | (go_at_call 9; (with_reducible refine (cX.out _).mono ?_); rintro e W8 ⟨rfl, hb1⟩; replace QS := Lib.hid ((QS.out).below hb1 QS.out.lt); replace PB := Lib.hid ((PB.out).below hb1 PB.out.lt); replace QB := Lib.hid ((QB.out).below hb1 QB.out.lt); replace RA := Lib.hid ((RA.out).below hb1 RA.out.lt); replace RB := Lib.hid ((RB.out).below hb1 RB.out.lt); replace RS := Lib.hid ((RS.out).below hb1 RS.out.lt); (try clear cQS lQS mQS); have cQS := QS.out.cell; have lQS := QS.out.lt; have mQS := Nat.lt_add_right 1 (Nat.lt_add_right 1 lQS); (try clear cPB lPB mPB); have cPB := PB.out.cell; have lPB := PB.out.lt; have mPB := Nat.lt_add_right 1 (Nat.lt_add_right 1 lPB); (try clear cQB lQB mQB); have cQB := QB.out.cell; have lQB := QB.out.lt; have mQB := Nat.lt_add_right 1 (Nat.lt_add_right 1 lQB); (try clear cRA lRA mRA); have cRA := RA.out.cell; have lRA := RA.out.lt; have mRA := Nat.lt_add_right 1 (Nat.lt_add_right 1 lRA); (try clear cRB lRB mRB); have cRB := RB.out.cell; have lRB := RB.out.lt; have mRB := Nat.lt_add_right 1 (Nat.lt_add_right 1 lRB); (try clear cRS lRS mRS); have cRS := RS.out.cell; have lRS := RS.out.lt; have mRS := Nat.lt_add_right 1 (Nat.lt_add_right 1 lRS); replace QS := Lib.hid (QS.out.alloc (.cells #[.int .i64 k0, .int .i64 x0] 33)); replace PB := Lib.hid (PB.out.alloc (.cells #[.int .i64 k0, .int .i64 x0] 33)); replace QB := Lib.hid (QB.out.alloc (.cells #[.int .i64 k0, .int .i64 x0] 33)); replace RA := Lib.hid (RA.out.alloc (.cells #[.int .i64 k0, .int .i64 x0] 33)); replace RB := Lib.hid (RB.out.alloc (.cells #[.int .i64 k0, .int .i64 x0] 33)); replace RS := Lib.hid (RS.out.alloc (.cells #[.int .i64 k0, .int .i64 x0] 33)); have RP := Lib.hid (show Blk (W8.alloc (.cells #[.int .i64 k0, .int .i64 x0] 33)) W8.heap.size 33 #[.int .i64 k0, .int .i64 x0] from Blk.new rfl); replace HB := Lib.hid ((HB.out.trans (hb1.mono (by have := HB.out.size; (try simp only [World.size_alloc] at this ⊢); omega))).alloc (by have h1 := HB.out.size; have h2 := hb1.size; (try simp only [World.size_alloc] at h1 h2 ⊢); omega) (.cells #[.int .i64 k0, .int .i64 x0] 33)); clear hb1)
    | (go_at_call 7; (with_reducible refine (cN.out 3000 ⟨#[]⟩ _).mono ?_); rintro e W9 ⟨rfl, hb1⟩; replace QS := Lib.hid (QS.out.below hb1 QS.out.lt); replace PB := Lib.hid (PB.out.below hb1 PB.out.lt); replace RA := Lib.hid (RA.out.below hb1 RA.out.lt); replace RB := Lib.hid (RB.out.below hb1 RB.out.lt); replace RS := Lib.hid (RS.out.below hb1 RS.out.lt); replace RP := Lib.hid (RP.out.below hb1 RP.out.lt); (try clear cQS lQS mQS); have cQS := QS.out.cell; have lQS := QS.out.lt; have mQS := Nat.lt_add_right 1 (Nat.lt_add_right 1 lQS); (try clear cPB lPB mPB); have cPB := PB.out.cell; have lPB := PB.out.lt; have mPB := Nat.lt_add_right 1 (Nat.lt_add_right 1 lPB); (try clear cRA lRA mRA); have cRA := RA.out.cell; have lRA := RA.out.lt; have mRA := Nat.lt_add_right 1 (Nat.lt_add_right 1 lRA); (try clear cRB lRB mRB); have cRB := RB.out.cell; have lRB := RB.out.lt; have mRB := Nat.lt_add_right 1 (Nat.lt_add_right 1 lRB); (try clear cRS lRS mRS); have cRS := RS.out.cell; have lRS := RS.out.lt; have mRS := Nat.lt_add_right 1 (Nat.lt_add_right 1 lRS); (try clear cRP lRP mRP); have cRP := RP.out.cell; have lRP := RP.out.lt; have mRP := Nat.lt_add_right 1 (Nat.lt_add_right 1 lRP); replace QS := Lib.hid (QS.out.alloc (.cells #[.int .i64 1, .int .i64 3000, .string ⟨#[]⟩, .slice none 0 0] 29)); replace PB := Lib.hid (PB.out.alloc (.cells #[.int .i64 1, .int .i64 3000, .string ⟨#[]⟩, .slice none 0 0] 29)); replace RA := Lib.hid (RA.out.alloc (.cells #[.int .i64 1, .int .i64 3000, .string ⟨#[]⟩, .slice none 0 0] 29)); replace RB := Lib.hid (RB.out.alloc (.cells #[.int .i64 1, .int .i64 3000, .string ⟨#[]⟩, .slice none 0 0] 29)); replace RS := Lib.hid (RS.out.alloc (.cells #[.int .i64 1, .int .i64 3000, .string ⟨#[]⟩, .slice none 0 0] 29)); replace RP := Lib.hid (RP.out.alloc (.cells #[.int .i64 1, .int .i64 3000, .string ⟨#[]⟩, .slice none 0 0] 29)); have TT := Lib.hid (show Blk (W9.alloc (.cells #[.int .i64 1, .int .i64 3000, .string ⟨#[]⟩, .slice none 0 0] 29)) W9.heap.size 29 #[.int .i64 1, .int .i64 3000, .string ⟨#[]⟩, .slice none 0 0] from Blk.new rfl); replace HB := Lib.hid ((HB.out.trans (hb1.mono HB.out.size)).alloc (by have h1 := HB.out.size; have h2 := hb1.size; omega) (.cells #[.int .i64 1, .int .i64 3000, .string ⟨#[]⟩, .slice none 0 0] 29)); clear hb1)
    | (go_at_call 9; (with_reducible refine (cR.out _ _ (TR.out _ _ (by simp))).mono ?_); rintro e W10 ⟨rfl, hb1⟩; replace QS := Lib.hid (((QS.out.alloc (.cells #[.int .i64 1, .int .i64 a, .string U, .slice none 0 0, .int .i64 1, .int .i64 3000, .string ⟨#[]⟩, .slice none 0 0] 29))).below hb1 (by have := QS.out.lt; (try simp only [World.size_alloc] at this ⊢); omega)); replace PB := Lib.hid (((PB.out.alloc (.cells #[.int .i64 1, .int .i64 a, .string U, .slice none 0 0, .int .i64 1, .int .i64 3000, .string ⟨#[]⟩, .slice none 0 0] 29))).below hb1 (by have := PB.out.lt; (try simp only [World.size_alloc] at this ⊢); omega)); replace TT := Lib.hid (((TT.out.alloc (.cells #[.int .i64 1, .int .i64 a, .string U, .slice none 0 0, .int .i64 1, .int .i64 3000, .string ⟨#[]⟩, .slice none 0 0] 29))).below hb1 (by have := TT.out.lt; (try simp only [World.size_alloc] at this ⊢); omega)); replace RA := Lib.hid (((RA.out.alloc (.cells #[.int .i64 1, .int .i64 a, .string U, .slice none 0 0, .int .i64 1, .int .i64 3000, .string ⟨#[]⟩, .slice none 0 0] 29))).below hb1 (by have := RA.out.lt; (try simp only [World.size_alloc] at this ⊢); omega)); replace RB := Lib.hid (((RB.out.alloc (.cells #[.int .i64 1, .int .i64 a, .string U, .slice none 0 0, .int .i64 1, .int .i64 3000, .string ⟨#[]⟩, .slice none 0 0] 29))).below hb1 (by have := RB.out.lt; (try simp only [World.size_alloc] at this ⊢); omega)); replace RS := Lib.hid (((RS.out.alloc (.cells #[.int .i64 1, .int .i64 a, .string U, .slice none 0 0, .int .i64 1, .int .i64 3000, .string ⟨#[]⟩, .slice none 0 0] 29))).below hb1 (by have := RS.out.lt; (try simp only [World.size_alloc] at this ⊢); omega)); replace RP := Lib.hid (((RP.out.alloc (.cells #[.int .i64 1, .int .i64 a, .string U, .slice none 0 0, .int .i64 1, .int .i64 3000, .string ⟨#[]⟩, .slice none 0 0] 29))).below hb1 (by have := RP.out.lt; (try simp only [World.size_alloc] at this ⊢); omega)); (try clear cQS lQS mQS); have cQS := QS.out.cell; have lQS := QS.out.lt; have mQS := Nat.lt_add_right 1 (Nat.lt_add_right 1 lQS); (try clear cPB lPB mPB); have cPB := PB.out.cell; have lPB := PB.out.lt; have mPB := Nat.lt_add_right 1 (Nat.lt_add_right 1 lPB); (try clear cTT lTT mTT); have cTT := TT.out.cell; have lTT := TT.out.lt; have mTT := Nat.lt_add_right 1 (Nat.lt_add_right 1 lTT); (try clear cRA lRA mRA); have cRA := RA.out.cell; have lRA := RA.out.lt; have mRA := Nat.lt_add_right 1 (Nat.lt_add_right 1 lRA); (try clear cRB lRB mRB); have cRB := RB.out.cell; have lRB := RB.out.lt; have mRB := Nat.lt_add_right 1 (Nat.lt_add_right 1 lRB); (try clear cRS lRS mRS); have cRS := RS.out.cell; have lRS := RS.out.lt; have mRS := Nat.lt_add_right 1 (Nat.lt_add_right 1 lRS); (try clear cRP lRP mRP); have cRP := RP.out.cell; have lRP := RP.out.lt; have mRP := Nat.lt_add_right 1 (Nat.lt_add_right 1 lRP); replace QS := Lib.hid (QS.out.alloc (.cells #[.int .i64 km, .int .i64 xm] 33)); replace PB := Lib.hid (PB.out.alloc (.cells #[.int .i64 km, .int .i64 xm] 33)); replace TT := Lib.hid (TT.out.alloc (.cells #[.int .i64 km, .int .i64 xm] 33)); replace RA := Lib.hid (RA.out.alloc (.cells #[.int .i64 km, .int .i64 xm] 33)); replace RB := Lib.hid (RB.out.alloc (.cells #[.int .i64 km, .int .i64 xm] 33)); replace RS := Lib.hid (RS.out.alloc (.cells #[.int .i64 km, .int .i64 xm] 33)); replace RP := Lib.hid (RP.out.alloc (.cells #[.int .i64 km, .int .i64 xm] 33)); have RM := Lib.hid (show Blk (W10.alloc (.cells #[.int .i64 km, .int .i64 xm] 33)) W10.heap.size 33 #[.int .i64 km, .int .i64 xm] from Blk.new rfl); replace HB := Lib.hid (((HB.out.alloc (by have := HB.out.size; (try simp only [World.size_alloc] at this ⊢); omega) (.cells #[.int .i64 1, .int .i64 a, .string U, .slice none 0 0, .int .i64 1, .int .i64 3000, .string ⟨#[]⟩, .slice none 0 0] 29)).trans (hb1.mono (by have := HB.out.size; (try simp only [World.size_alloc] at this ⊢); omega))).alloc (by have h1 := HB.out.size; have h2 := hb1.size; (try simp only [World.size_alloc] at h1 h2 ⊢); omega) (.cells #[.int .i64 km, .int .i64 xm] 33)); clear hb1)
    | (go_at_call 9; (with_reducible refine (cL.out _ _ (TL.out _ _ (by simp))).mono ?_); rintro e W11 ⟨rfl, hb1⟩; replace QS := Lib.hid (((QS.out.alloc (.cells #[.int .i64 1, .int .i64 3000, .string ⟨#[]⟩, .slice none 0 0, .int .i64 1, .int .i64 a, .string U, .slice none 0 0] 29))).below hb1 (by have := QS.out.lt; (try simp only [World.size_alloc] at this ⊢); omega)); replace PB := Lib.hid (((PB.out.alloc (.cells #[.int .i64 1, .int .i64 3000, .string ⟨#[]⟩, .slice none 0 0, .int .i64 1, .int .i64 a, .string U, .slice none 0 0] 29))).below hb1 (by have := PB.out.lt; (try simp only [World.size_alloc] at this ⊢); omega)); replace TT := Lib.hid (((TT.out.alloc (.cells #[.int .i64 1, .int .i64 3000, .string ⟨#[]⟩, .slice none 0 0, .int .i64 1, .int .i64 a, .string U, .slice none 0 0] 29))).below hb1 (by have := TT.out.lt; (try simp only [World.size_alloc] at this ⊢); omega)); replace RA := Lib.hid (((RA.out.alloc (.cells #[.int .i64 1, .int .i64 3000, .string ⟨#[]⟩, .slice none 0 0, .int .i64 1, .int .i64 a, .string U, .slice none 0 0] 29))).below hb1 (by have := RA.out.lt; (try simp only [World.size_alloc] at this ⊢); omega)); replace RB := Lib.hid (((RB.out.alloc (.cells #[.int .i64 1, .int .i64 3000, .string ⟨#[]⟩, .slice none 0 0, .int .i64 1, .int .i64 a, .string U, .slice none 0 0] 29))).below hb1 (by have := RB.out.lt; (try simp only [World.size_alloc] at this ⊢); omega)); replace RS := Lib.hid (((RS.out.alloc (.cells #[.int .i64 1, .int .i64 3000, .string ⟨#[]⟩, .slice none 0 0, .int .i64 1, .int .i64 a, .string U, .slice none 0 0] 29))).below hb1 (by have := RS.out.lt; (try simp only [World.size_alloc] at this ⊢); omega)); replace RP := Lib.hid (((RP.out.alloc (.cells #[.int .i64 1, .int .i64 3000, .string ⟨#[]⟩, .slice none 0 0, .int .i64 1, .int .i64 a, .string U, .slice none 0 0] 29))).below hb1 (by have := RP.out.lt; (try simp only [World.size_alloc] at this ⊢); omega)); replace RM := Lib.hid (((RM.out.alloc (.cells #[.int .i64 1, .int .i64 3000, .string ⟨#[]⟩, .slice none 0 0, .int .i64 1, .int .i64 a, .string U, .slice none 0 0] 29))).below hb1 (by have := RM.out.lt; (try simp only [World.size_alloc] at this ⊢); omega)); (try clear cQS lQS mQS); have cQS := QS.out.cell; have lQS := QS.out.lt; have mQS := Nat.lt_add_right 1 (Nat.lt_add_right 1 lQS); (try clear cPB lPB mPB); have cPB := PB.out.cell; have lPB := PB.out.lt; have mPB := Nat.lt_add_right 1 (Nat.lt_add_right 1 lPB); (try clear cTT lTT mTT); have cTT := TT.out.cell; have lTT := TT.out.lt; have mTT := Nat.lt_add_right 1 (Nat.lt_add_right 1 lTT); (try clear cRA lRA mRA); have cRA := RA.out.cell; have lRA := RA.out.lt; have mRA := Nat.lt_add_right 1 (Nat.lt_add_right 1 lRA); (try clear cRB lRB mRB); have cRB := RB.out.cell; have lRB := RB.out.lt; have mRB := Nat.lt_add_right 1 (Nat.lt_add_right 1 lRB); (try clear cRS lRS mRS); have cRS := RS.out.cell; have lRS := RS.out.lt; have mRS := Nat.lt_add_right 1 (Nat.lt_add_right 1 lRS); (try clear cRP lRP mRP); have cRP := RP.out.cell; have lRP := RP.out.lt; have mRP := Nat.lt_add_right 1 (Nat.lt_add_right 1 lRP); (try clear cRM lRM mRM); have cRM := RM.out.cell; have lRM := RM.out.lt; have mRM := Nat.lt_add_right 1 (Nat.lt_add_right 1 lRM); replace QS := Lib.hid (QS.out.alloc (.cells #[.int .i64 km, .int .i64 xm] 33)); replace PB := Lib.hid (PB.out.alloc (.cells #[.int .i64 km, .int .i64 xm] 33)); replace TT := Lib.hid (TT.out.alloc (.cells #[.int .i64 km, .int .i64 xm] 33)); replace RA := Lib.hid (RA.out.alloc (.cells #[.int .i64 km, .int .i64 xm] 33)); replace RB := Lib.hid (RB.out.alloc (.cells #[.int .i64 km, .int .i64 xm] 33)); replace RS := Lib.hid (RS.out.alloc (.cells #[.int .i64 km, .int .i64 xm] 33)); replace RP := Lib.hid (RP.out.alloc (.cells #[.int .i64 km, .int .i64 xm] 33)); replace RM := Lib.hid (RM.out.alloc (.cells #[.int .i64 km, .int .i64 xm] 33)); have RN := Lib.hid (show Blk (W11.alloc (.cells #[.int .i64 km, .int .i64 xm] 33)) W11.heap.size 33 #[.int .i64 km, .int .i64 xm] from Blk.new rfl); replace HB := Lib.hid (((HB.out.alloc (by have := HB.out.size; (try simp only [World.size_alloc] at this ⊢); omega) (.cells #[.int .i64 1, .int .i64 3000, .string ⟨#[]⟩, .slice none 0 0, .int .i64 1, .int .i64 a, .string U, .slice none 0 0] 29)).trans (hb1.mono (by have := HB.out.size; (try simp only [World.size_alloc] at this ⊢); omega))).alloc (by have h1 := HB.out.size; have h2 := hb1.size; (try simp only [World.size_alloc] at h1 h2 ⊢); omega) (.cells #[.int .i64 km, .int .i64 xm] 33)); clear hb1))
  have m1 := RA.out.cell
  have m2 := RB.out.cell
  have m3 := RS.out.cell
  have m4 := RP.out.cell
  have m5 := RM.out.cell
  have m6 := RN.out.cell
  rcases hfin.out with ⟨f0, f1⟩ | ⟨f0, f1, f2, f3, f4, f5, f6, hx⟩
  · subst f0 f1
    go_wp2
    all_goals (go_ret; exact ⟨rfl, HB.out⟩)
  · subst f0 f1 f2 f3 f4 f5 f6
    have E1 := fun W => run_eq_val ka xa ka xa W
    rw [decide_eq_true ⟨rfl, rfl⟩] at E1
    have E3 := fun W => run_eq_val km xm km xm W
    rw [decide_eq_true ⟨rfl, rfl⟩] at E3
    have E2 := fun W => run_eq_val ks xs k0 x0 W
    by_cases h1 : 16777216 ≤ xa
    · clear E2 hx
      go_wp2
      go_ret
      exact ⟨rfl, HB.out⟩
    · by_cases h2 : xa ≤ -16777216
      · clear E2 hx
        go_wp2
        go_ret
        exact ⟨rfl, HB.out⟩
      · have h3 : ks = k0 ∧ xs = x0 := by omega
        rw [decide_eq_true h3] at E2
        replace h3 := Lib.hid h3
        clear hx
        go_wp2
        go_ret
        exact ⟨rfl, HB.out⟩

end Go.Proofs.YtaihncbejhnceaaGreatDoor.cal.sum

namespace Go.Proofs.YtaihncbejhnceaaGreatDoor.cal.sum
open Go.RowKit Go.Proofs.YtaihncbejhnceaaGreatDoor.base Go.Proofs.YtaihncbejhnceaaGreatDoor.tok Go.Proofs.YtaihncbejhnceaaGreatDoor.cal Go.ChangeShapes Go.WideShapes Go.ChangeAt
set_option linter.unusedVariables false

set_option maxRecDepth 100000 in
theorem lifted (os : Os) (started : os.Started) (H : Type) (enc : TypeId × Value → H) :
    ReturnsInHanded {} Tryz.checked os 5 .any (fun w args => (Rows.calcSumSpec.pre enc Tryz.prog Tryz.f5 Rows.calcSumRow.domain false w args ∧ laidMetH Tryz.prog Rows.calcSumRow.laid w) ∧ sizedMet enc Tryz.prog Tryz.f5 (OpenSpec.ofChange Rows.calcSumSpec) false w args)
      (Rows.calcSumSpec.post enc Tryz.prog Tryz.f5 false true false false) := by
  refine returns_door (C := Tryz.checked) (X := fun w _ => laidMetH Tryz.prog Rows.calcSumRow.laid w) (fun _ _ _ hh h => h.of_heap hh) ownD started (by kernel_rfl) Tryz.func5
    (ChangeSpec.witness_shaped (enc := enc) (C := Tryz.checked) (os := os) (X := fun w _ => laidMetH Tryz.prog Rows.calcSumRow.laid w) false (World.laidAll Tryz.prog os Rows.calcSumRow.laid) #[.int .i64 0, .int .i64 0, .int .i64 0, .agg #[.int .i64 0, .int .i64 0, .int .i64 0, .int .i64 0]] 8 (World.laidAll_os _ _ _)
      (World.shaped_of_ZipB (by kernel_rfl) (by kernel_rfl)) (by kernel_rfl) (by kernel_rfl) (by kernel_rfl)
      (by rw [MakeChecks.laidMetH_plain _ _ _ (by kernel_rfl)]; exact laidMet_laidAll _ (by kernel_rfl) (by kernel_rfl))) ?_
  intro W base args ds gs before hval0 hW hsz hlaid hsh
  have hval : ∀ (j : Nat) t v, Tryz.f5.params[j]? = some t → args[j]? = some v → Value.okWide Tryz.prog W .any base t v := hval0
  have hW' := hW
  obtain ⟨p, q, hA0, hV, -, -, -⟩ := hW
  have hA : DataW.TrodAll enc Tryz.prog W 0 (fun _ => true) true Tryz.f5.params.toList args.toList ds p := hA0
  rw [Tryz.params5] at hA hval
  obtain ⟨v0, vs0, d0, ds0, p0, q0, hargs, rfl, -, h0, r0⟩ := trodAll_cons hA
  obtain ⟨v1, vs1, d1, ds1, p1, q1, rfl, rfl, -, h1, r1⟩ := trodAll_cons r0
  obtain ⟨v2, vs2, d2, ds2, p2, q2, rfl, rfl, -, h2, r2⟩ := trodAll_cons r1
  obtain ⟨v3, vs3, d3, ds3, p3, q3, rfl, rfl, -, h3, r3⟩ := trodAll_cons r2
  obtain ⟨rfl, rfl, -⟩ := trodAll_nil r3
  obtain rfl : args = #[v0, v1, v2, v3] := by cases args; simp_all
  obtain ⟨rfl, -⟩ := trodVars_none hV
  obtain ⟨a, rfl, -, -, hw0⟩ := open_int Tryz.underlying3 (hval 0 _ _ rfl rfl) h0
  have hr0 := wf_i64 hw0
  obtain ⟨b, rfl, -, -, hw1⟩ := open_int Tryz.underlying3 (hval 1 _ _ rfl rfl) h1
  have hr1 := wf_i64 hw1
  obtain ⟨c, rfl, -, -, -⟩ := open_int Tryz.underlying3 (hval 2 _ _ rfl rfl) h2
  obtain ⟨em, rem, vw, vh, rfl⟩ := dim.open_scale (hval 3 _ _ rfl rfl) h3
  rw [MakeChecks.laidMetH_plain _ _ _ (by kernel_rfl)] at hlaid
  exact (law_ct a b c em rem vw vh hr0 hr1 W (maxLen_of hsh) (dim.units_of hlaid (by simp [Rows.calcSumRow])) (dim.pow_of hlaid (by simp [Rows.calcSumRow]))).mono fun e W' ⟨he, bel⟩ => ⟨_, he, law_post laidOutD rfl Tryz.underlying4 rfl (by intro t ht; rw [Tryz.params5] at ht; revert t; decide +kernel) rfl hW' bel⟩

theorem holds : Rows.CalcSumSaid :=
  OpenClaim.holds_of_wide 5 Tryz.f5 rfl rfl rfl rfl rfl rfl rfl ⟨rfl, rfl, rfl, rfl, rfl⟩ rfl rfl rfl rfl rfl (by kernel_rfl) Tryz.func5 (by kernel_rfl)
    (of_decide_eq_true (by kernel_rfl)) (by unfold Func.isWrapper; first | (rw [if_pos (by decide +kernel)]; kernel_rfl) | (rw [if_neg (by decide +kernel)]; exact ⟨rfl, rfl⟩))
    (fun os started H enc _ => lifted os started H enc)

theorem proved : Rows.CalcSumCardSaid :=
  Claim7.holds_tied_plain_at .later [] Rows.calcSumCard.laidKinds true Rows.calcSumCard.stood.harness Rows.calcSumCard.stood.looks holds (fun _ h => by cases h) (by kernel_rfl) (fun _ h => by cases h) calcSum_row_tie rfl ⟨rfl, rfl⟩ (by kernel_rfl) rfl
    (fun f fn hf hfn => by
      obtain rfl : f = 5 := Option.some.inj ((show Tryz.prog.funcNamed "clerestory/clerestorykeep2.CalcSum" = some 5 by kernel_rfl).symm.trans hf) |>.symm
      obtain rfl : fn = Tryz.f5 := (Option.some.inj (Tryz.func5.symm.trans hfn)).symm
      exact ⟨by kernel_rfl, fun j t ht => by
        rw [Tryz.params5] at ht
        have hm : t ∈ [3, 3, 3, 23] := by simpa using Array.mem_of_getElem? ht
        have hall : ([3, 3, 3, 23].all fun u => !Tryz.prog.wantsStandIn u) = true := by kernel_rfl
        exact (show Tryz.prog.wantsStandIn t = false by simpa using List.all_eq_true.1 hall t hm)⟩)
    (by kernel_rfl)
#print axioms proved

end Go.Proofs.YtaihncbejhnceaaGreatDoor.cal.sum
