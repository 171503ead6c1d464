/- MediaList: for every two texts and whatever it is shown on the call returns true, and all that was there reads as before. The package-level variables that its row lists start as the program's text lays them (the card ties them). -/
import Derived.Test.YtmjbaimccbkmpaaGreatDoorBI
import Derived.Test.YtmjbaimccbkmpaaGreatDoorBG
import Derived.Test.YtmjbaimccbkmpaaGreatDoorBJ
import Derived.Test.YtmjbaimccbkmpaaGreatDoorBE
import Derived.Test.YtmjbaimccbkmpaaGreatDoorTie
import Derived.Test.YtmjbaimccbkmpaaGreatDoorCards

namespace Go.Proofs.YtmjbaimccbkmpaaGreatDoor.med
open Go.RowKit Go.Proofs.YtmjbaimccbkmpaaGreatDoor.base Go.Proofs.YtmjbaimccbkmpaaGreatDoor.tok Go.Proofs.YtmjbaimccbkmpaaGreatDoor.rul
set_option linter.unusedVariables false

theorem hold_text {Q : List Qu} (h : Q ≠ []) (hq : ∀ q ∈ Q, GoodQ q) (e : En) : holdP (textP Q) e = (false, 2) ∨ holdP (textP Q) e = (false, 1) ∨ (envOk e = true ∧ holdP (textP Q) e = (anyQ Q e, 0)) := by
  have hr := read_text h hq
  by_cases hl : 400 < (textP Q).length
  · rw [if_pos hl] at hr
    exact .inl (hold_none hr)
  · rw [if_neg hl] at hr
    cases he : envOk e
    · exact .inr (.inl (hold_env hr he))
    · exact .inr (.inr ⟨rfl, hold_some hr he⟩)
theorem hold_list {Q P : List Qu} (h : Q ≠ []) (hq : ∀ q ∈ Q, GoodQ q) (h' : P ≠ []) (hp : ∀ q ∈ P, GoodQ q) (e : En) :
    (((holdP (textP Q) e).2 == 0) = false) ∨ (((holdP (textP Q) e).2 == 0) = true ∧ ((holdP (textP P) e).2 == 0) = false) ∨
    (((holdP (textP Q) e).2 == 0) = true ∧ ((holdP (textP P) e).2 == 0) = true ∧ ((holdP (textP Q ++ [32, 44] ++ textP P) e).2 == 0) = false) ∨
    (((holdP (textP Q) e).2 == 0) = true ∧ ((holdP (textP P) e).2 == 0) = true ∧ ((holdP (textP Q ++ [32, 44] ++ textP P) e).2 == 0) = true ∧ (holdP (textP Q ++ [32, 44] ++ textP P) e).1 = ((holdP (textP Q) e).1 || (holdP (textP P) e).1)) := by
  rcases hold_text h hq e with h1 | h1 | ⟨he, h1⟩
  · exact .inl (by rw [h1]; rfl)
  · exact .inl (by rw [h1]; rfl)
  · rcases hold_text h' hp e with h2 | h2 | ⟨_, h2⟩
    · exact .inr (.inl ⟨by rw [h1]; rfl, by rw [h2]; rfl⟩)
    · exact .inr (.inl ⟨by rw [h1]; rfl, by rw [h2]; rfl⟩)
    · have hr := read_list h hq h' hp
      by_cases hl : 400 < (textP Q ++ [32, 44] ++ textP P).length
      · rw [if_pos hl] at hr
        exact .inr (.inr (.inl ⟨by rw [h1]; rfl, by rw [h2]; rfl, by rw [hold_none hr]; rfl⟩))
      · rw [if_neg hl] at hr
        exact .inr (.inr (.inr ⟨by rw [h1]; rfl, by rw [h2]; rfl, by rw [hold_some hr he]; rfl, by rw [h1, h2, hold_some hr he]; exact any_app Q P e⟩))

set_option maxRecDepth 100000 in
set_option maxHeartbeats 8000000 in
theorem list_early (s t : Bs) (hs : s.length ≤ 9223372036854775807) (ht : t.length ≤ 9223372036854775807) (e : En) (h : readP s = none ∨ ∃ Q, readP s = some Q ∧ readP t = none) (w : World) (hE : MEnv w) :
    Calls Tryz.prog 7 #[.string (bs s), .string (bs t), e.v] w fun x w' => x = .returned (.bool true) ∧ Below w.heap.size w w' := by
  have cW := Lib.hid (fun W hE => wide_ct W hE)
  have HE := Lib.hid hE
  obtain ⟨ew, eh, ed, ep⟩ := e
  simp only [En.v]
  have hb0 := (Below.refl w.heap.size w).alloc (Nat.le_refl _) (.cells #[.int .i64 ew, .int .i64 eh, .bool ed, .bool ep] 48)
  have HB0 := Lib.hid hb0
  clear hE hb0
  rcases h with h | ⟨Q, h, h2⟩
  · have cR := Lib.hid (fun W hE => mread_none s hs h W hE)
    have cR2 := Lib.hid (fun W hE => mread_ct t ht W hE)
    clear h hs ht
    go_enter Tryz.func7, Tryz.ntmps7
    go_wp2_with (first
      | (go_at_call 12; (with_reducible refine (cW.out _ (HE.out.on HB0.out)).mono ?_); rintro e W1 ⟨rfl, hb1⟩; have HB1 := Lib.hid (HB0.out.trans (hb1.mono (by simp))); clear hb1)
      | (go_at_call 13; (with_reducible refine (cR.out _ (HE.out.on HB1.out)).mono ?_); rintro e W2 ⟨rfl, hb2⟩; have HB2 := Lib.hid (HB1.out.trans (hb2.mono HB1.out.size)); clear hb2 cR)
      | (go_at_call 13; (with_reducible refine (cR2.out _ (HE.out.on HB2.out)).mono ?_); rintro e W3 ⟨hr, hb3⟩; have HB3 := Lib.hid (HB2.out.trans (hb3.mono HB2.out.size)); clear hb3; rcases hr with ⟨_, rfl⟩ | ⟨Q2, v2, _, rfl, _⟩))
    all_goals
      go_wp2_with fail
      go_ret
      exact ⟨rfl, HB3.out⟩
  · have cR := Lib.hid (fun W hE => mread_some s hs Q h W hE)
    have cR2 := Lib.hid (fun W hE => mread_none t ht h2 W hE)
    clear h h2 hs ht
    go_enter Tryz.func7, Tryz.ntmps7
    go_wp2_with (first
      | (go_at_call 12; (with_reducible refine (cW.out _ (HE.out.on HB0.out)).mono ?_); rintro e W1 ⟨rfl, hb1⟩; have HB1 := Lib.hid (HB0.out.trans (hb1.mono (by simp))); clear hb1)
      | (go_at_call 13; (with_reducible refine (cR.out _ (HE.out.on HB1.out)).mono ?_); rintro e W2 ⟨⟨A, c, rfl, _⟩, hb2⟩; have HB2 := Lib.hid (HB1.out.trans (hb2.mono HB1.out.size)); clear hb2 cR)
      | (go_at_call 13; (with_reducible refine (cR2.out _ (HE.out.on HB2.out)).mono ?_); rintro e W3 ⟨rfl, hb3⟩; have HB3 := Lib.hid (HB2.out.trans (hb3.mono HB2.out.size)); clear hb3))
    go_ret
    exact ⟨rfl, HB3.out⟩

set_option maxRecDepth 100000 in
set_option maxHeartbeats 16000000 in
theorem list_main (s t : Bs) (hs : s.length ≤ 9223372036854775807) (ht : t.length ≤ 9223372036854775807) (e : En) (Q P : List Qu) (h : readP s = some Q) (h2 : readP t = some P) (w : World) (hE : MEnv w) :
    Calls Tryz.prog 7 #[.string (bs s), .string (bs t), e.v] w fun x w' => x = .returned (.bool true) ∧ Below w.heap.size w w' := by
  obtain ⟨hq0, hqg, hqc⟩ := read_good h
  obtain ⟨hp0, hpg, hpc⟩ := read_good h2
  have hfin := hold_list hq0 hqg hp0 hpg e
  have hl1 := text_len hqg hqc
  have hl2 := text_len hpg hpc
  have cR := Lib.hid (fun W hE => mread_some s hs Q h W hE)
  have cR2 := Lib.hid (fun W hE => mread_some t ht P h2 W hE)
  have cT := Lib.hid (fun v W hQ hE => mtext_ct v Q W hQ hqg hq0 hqc hE)
  have cT2 := Lib.hid (fun v W hQ hE => mtext_ct v P W hQ hpg hp0 hpc hE)
  have cH1 := fun W hE => mholds_ct (textP Q) (by omega) e W hE
  have cH2 := fun W hE => mholds_ct (textP P) (by omega) e W hE
  have cH3 := fun W hE => mholds_ct (textP Q ++ [32, 44] ++ textP P) (by simp only [List.length_append, List.length_cons, List.length_nil]; omega) e W hE
  have hcat : bs (textP Q ++ [32, 44] ++ textP P) = bs (textP Q) ++ ⟨#[32, 44]⟩ ++ bs (textP P) := by rw [bs_app, bs_app]; rfl
  rw [hcat] at cH3
  have cW := Lib.hid (fun W hE => wide_ct W hE)
  have HE := Lib.hid hE
  have a1 : ¬ 9223372036854775807 < (bs (textP Q)).size + 2 := by rw [bs_size]; omega
  have a2 : ¬ 9223372036854775807 < (bs (textP Q)).size + 2 + (bs (textP P)).size := by rw [bs_size, bs_size]; omega
  generalize holdP (textP Q ++ [32, 44] ++ textP P) e = r3 at *
  generalize holdP (textP Q) e = r1 at *
  generalize holdP (textP P) e = r2 at *
  generalize textP Q = T1 at *
  generalize textP P = T2 at *
  obtain ⟨xa, xg⟩ := r1
  obtain ⟨xb, xh⟩ := r2
  obtain ⟨xc, xi⟩ := r3
  simp only at hfin cH1 cH2 cH3
  obtain ⟨ew, eh, ed, ep⟩ := e
  simp only [En.v] at cH1 cH2 cH3 ⊢
  replace cH1 := Lib.hid cH1
  replace cH2 := Lib.hid cH2
  replace cH3 := Lib.hid cH3
  have HFin := Lib.hid hfin
  have hb0 := (Below.refl w.heap.size w).alloc (Nat.le_refl _) (.cells #[.int .i64 ew, .int .i64 eh, .bool ed, .bool ep] 48)
  have HB0 := Lib.hid hb0
  have HBlk := Lib.hid (Blk.new (w := w) (t := 48) (cs := #[.int .i64 ew, .int .i64 eh, .bool ed, .bool ep]) rfl)
  clear hE h h2 hb0 hs ht hq0 hqg hqc hp0 hpg hpc hfin hl1 hl2 hcat
  go_enter Tryz.func7, Tryz.ntmps7
  go_wp2_with (first
    | (go_at_call 12; (with_reducible refine (cW.out _ (HE.out.on HB0.out)).mono ?_); rintro e W1 ⟨rfl, hb1⟩; have HB1 := Lib.hid (HB0.out.trans (hb1.mono (by simp))); have bE1 := Lib.hid (HBlk.out.below hb1 (by simp)); clear hb1)
    | (go_at_call 13; (with_reducible refine (cR.out _ (HE.out.on HB1.out)).mono ?_); rintro e W2 ⟨⟨A, c, rfl, hqs⟩, hb2⟩; have HB2 := Lib.hid (HB1.out.trans (hb2.mono HB1.out.size)); have bE2 := Lib.hid (bE1.out.below hb2 bE1.out.lt); have HQ2 := Lib.hid hqs; clear hb2 hqs cR)
    | (go_at_call 13; (with_reducible refine (cR2.out _ (HE.out.on HB2.out)).mono ?_); rintro e W3 ⟨⟨A', c', rfl, hps⟩, hb3⟩; have HB3 := Lib.hid (HB2.out.trans (hb3.mono HB2.out.size)); have bE3 := Lib.hid (bE2.out.below hb3 bE2.out.lt); have cE3 := bE3.out.cell; have zE3 := bE3.out.lt; have HP3 := Lib.hid hps; have HQ3 := Lib.hid (HQ2.out.on hb3); clear hb3 hps))
  have ZR3 : W3.heap.size ≤ W3.heap.size := Nat.le_refl _
  have HQd := Lib.hid (HQ3.out.on ((Below.refl _ _).drew))
  have HEd := Lib.hid (HE.out.on HB3.out.drew)
  have HB3d := Lib.hid HB3.out.drew
  go_region_held3 (fun w' => (∀ b o, b < W3.heap.size → w'.cell? ⟨b, o, none⟩ = W3.cell? ⟨b, o, none⟩) ∧ Below W3.heap.size W3 w')
    (first | exact As.beg | assumption | exact As.on hb4 (by assumption) ZR3 | exact As.on hb5 (by assumption) ZR3)
    (first
      | (go_at_call 14; (with_reducible refine (cT.out _ _ HQd.out HEd.out).mono ?_); rintro e W4 ⟨rfl, hb4⟩; have HB4 := Lib.hid (HB3d.out.trans (hb4.mono HB3d.out.size)))
      | (go_at_call 16; (with_reducible refine (cH1.out _ (HE.out.on HB4.out)).mono ?_); rintro e W5 ⟨rfl, hb5⟩; have HB5 := Lib.hid (HB4.out.trans (hb5.mono HB4.out.size))))
  have HS := Lib.hid (show (∀ (b o : Nat), b < W3.heap.size → W5.cell? ⟨b, o, none⟩ = W3.cell? ⟨b, o, none⟩) ∧ Below W3.heap.size W3 W5 by assumption)
  rename_i hHeld
  clear hHeld hb4 hb5
  have HP5 := Lib.hid (HP3.out.on HS.out.2)
  have HQ5 := Lib.hid (HQ3.out.on HS.out.2)
  have bE5 := Lib.hid (bE3.out.below HS.out.2 bE3.out.lt)
  have cE5 := bE5.out.cell
  have zE5 := bE5.out.lt
  clear cE3 zE3 HQd HEd HB3d ZR3
  go_wp2_with fail
  have ZR5 : W5.heap.size ≤ W5.heap.size := Nat.le_refl _
  have HPd := Lib.hid (HP5.out.on ((Below.refl _ _).drew))
  have HEd := Lib.hid (HE.out.on HB5.out.drew)
  have HB5d := Lib.hid HB5.out.drew
  go_region_held3 (fun w' => (∀ b o, b < W5.heap.size → w'.cell? ⟨b, o, none⟩ = W5.cell? ⟨b, o, none⟩) ∧ Below W5.heap.size W5 w')
    (first | exact As.beg | assumption | exact As.on hb6 (by assumption) ZR5 | exact As.on hb7 (by assumption) ZR5)
    (first
      | (go_at_call 14; (with_reducible refine (cT2.out _ _ HPd.out HEd.out).mono ?_); rintro e W6 ⟨rfl, hb6⟩; have HB6 := Lib.hid (HB5d.out.trans (hb6.mono HB5d.out.size)))
      | (go_at_call 16; (with_reducible refine (cH2.out _ (HE.out.on HB6.out)).mono ?_); rintro e W7 ⟨rfl, hb7⟩; have HB7 := Lib.hid (HB6.out.trans (hb7.mono HB6.out.size))))
  have HS2 := Lib.hid (show (∀ (b o : Nat), b < W5.heap.size → W7.cell? ⟨b, o, none⟩ = W5.cell? ⟨b, o, none⟩) ∧ Below W5.heap.size W5 W7 by assumption)
  rename_i hHeld
  clear hHeld hb6 hb7
  have HP7 := Lib.hid (HP5.out.on HS2.out.2)
  have HQ7 := Lib.hid (HQ5.out.on HS2.out.2)
  have bE7 := Lib.hid (bE5.out.below HS2.out.2 bE5.out.lt)
  have cE7 := bE7.out.cell
  have zE7 := bE7.out.lt
  clear cE5 zE5 HPd HEd HB5d ZR5
  go_wp2_with fail
  have ZR7 : W7.heap.size ≤ W7.heap.size := Nat.le_refl _
  have HQd := Lib.hid (HQ7.out.on ((Below.refl _ _).drew))
  have HEd := Lib.hid (HE.out.on HB7.out.drew)
  have HB7d := Lib.hid HB7.out.drew
  have HP7d := Lib.hid (HP7.out.on ((Below.refl _ _).drew))
  go_region_held3 (fun w' => (∀ b o, b < W7.heap.size → w'.cell? ⟨b, o, none⟩ = W7.cell? ⟨b, o, none⟩) ∧ Below W7.heap.size W7 w')
    (first | exact As.beg | assumption | exact As.on hb8 (by assumption) ZR7 | exact As.on hb9 (by assumption) ZR7 | exact As.on hb10 (by assumption) ZR7)
    (first
      | (go_at_call 14; (with_reducible refine (cT.out _ _ HQd.out HEd.out).mono ?_); rintro e W8 ⟨rfl, hb8⟩; have HB8 := Lib.hid (HB7d.out.trans (hb8.mono HB7d.out.size)); have HP8 := Lib.hid (HP7d.out.on hb8))
      | (go_at_call 14; (with_reducible refine (cT2.out _ _ HP8.out (HE.out.on HB8.out)).mono ?_); rintro e W9 ⟨rfl, hb9⟩; have HB9 := Lib.hid (HB8.out.trans (hb9.mono HB8.out.size)))
      | (go_at_call 16; (with_reducible refine (cH3.out _ (HE.out.on HB9.out)).mono ?_); rintro e W10 ⟨rfl, hb10⟩; have HB10 := Lib.hid (HB9.out.trans (hb10.mono HB9.out.size))))
  rename_i hHeld
  clear hHeld hb8 hb9 hb10 cE7 zE7 ZR7
  rcases HFin.out with g1 | ⟨g1, g2⟩ | ⟨g1, g2, g3⟩ | ⟨g1, g2, g3, hx⟩
  · have n1 : (xg != 0) = true := by rw [bne, g1]; rfl
    go_wp2_with fail
    go_ret
    exact ⟨rfl, HB10.out⟩
  · have n1 : (xg != 0) = false := by rw [bne, g1]; rfl
    have n2 : (xh != 0) = true := by rw [bne, g2]; rfl
    go_wp2_with fail
    go_ret
    exact ⟨rfl, HB10.out⟩
  · have n1 : (xg != 0) = false := by rw [bne, g1]; rfl
    have n2 : (xh != 0) = false := by rw [bne, g2]; rfl
    have n3 : (xi != 0) = true := by rw [bne, g3]; rfl
    go_wp2_with fail
    go_ret
    exact ⟨rfl, HB10.out⟩
  · have n1 : (xg != 0) = false := by rw [bne, g1]; rfl
    have n2 : (xh != 0) = false := by rw [bne, g2]; rfl
    have n3 : (xi != 0) = false := by rw [bne, g3]; rfl
    subst hx
    cases xa <;> cases xb
    all_goals
      go_wp2_with fail
      go_ret
      exact ⟨rfl, HB10.out⟩

theorem list.law_ct (a b : ByteArray) (e : En) (w : World) (hs : a.size ≤ maxLen) (ht : b.size ≤ maxLen) (hE : MEnv w) :
    Calls Tryz.prog 7 #[.string a, .string b, e.v] w fun x w' => x = .returned (.bool true) ∧ Below w.heap.size w w' := by
  obtain ⟨s, rfl⟩ : ∃ s : Bs, a = bs s := ⟨a.data.toList, rfl⟩
  obtain ⟨t, rfl⟩ : ∃ s : Bs, b = bs s := ⟨b.data.toList, rfl⟩
  cases h : readP s with
  | none => exact list_early s t hs ht e (.inl h) w hE
  | some Q =>
    cases h2 : readP t with
    | none => exact list_early s t hs ht e (.inr ⟨Q, h, h2⟩) w hE
    | some P => exact list_main s t hs ht e Q P h h2 w hE

end Go.Proofs.YtmjbaimccbkmpaaGreatDoor.med

namespace Go.Proofs.YtmjbaimccbkmpaaGreatDoor.med.list
open Go.RowKit Go.Proofs.YtmjbaimccbkmpaaGreatDoor.base Go.Proofs.YtmjbaimccbkmpaaGreatDoor.tok Go.Proofs.YtmjbaimccbkmpaaGreatDoor.med Go.ChangeShapes Go.WideShapes Go.ChangeAt
set_option linter.unusedVariables false

set_option maxRecDepth 100000 in
theorem lifted (os : Os) (started : os.Started) (H : Type) (enc : TypeId × Value → H) :
    ReturnsInHanded {} Tryz.checked os 7 .any (fun w args => (Rows.mediaListSpec.pre enc Tryz.prog Tryz.f7 Rows.mediaListRow.domain false w args ∧ laidMetH Tryz.prog Rows.mediaListRow.laid w) ∧ sizedMet enc Tryz.prog Tryz.f7 (OpenSpec.ofChange Rows.mediaListSpec) false w args)
      (Rows.mediaListSpec.post enc Tryz.prog Tryz.f7 false true false false) := by
  refine returns_door (C := Tryz.checked) (X := fun w _ => laidMetH Tryz.prog Rows.mediaListRow.laid w) (fun _ _ _ hh h => h.of_heap hh) ownD started (by kernel_rfl) Tryz.func7
    (ChangeSpec.witness_shaped (enc := enc) (C := Tryz.checked) (os := os) (X := fun w _ => laidMetH Tryz.prog Rows.mediaListRow.laid w) false (World.laidAll Tryz.prog os Rows.mediaListRow.laid) #[.string .empty, .string .empty, .agg #[.int .i64 0, .int .i64 0, .bool false, .bool false]] 8 (World.laidAll_os _ _ _)
      (World.shaped_of_ZipB (by kernel_rfl) (by kernel_rfl)) (by kernel_rfl) (by kernel_rfl) (by kernel_rfl)
      (by rw [MakeChecks.laidMetH_plain _ _ _ (by kernel_rfl)]; exact laidMet_laidAll _ (by kernel_rfl) (by kernel_rfl))) ?_
  intro W base args ds gs before hval0 hW hsz hlaid hsh
  have hval : ∀ (j : Nat) t v, Tryz.f7.params[j]? = some t → args[j]? = some v → Value.okWide Tryz.prog W .any base t v := hval0
  have hW' := hW
  obtain ⟨p, q, hA0, hV, -, -, -⟩ := hW
  have hA : DataW.TrodAll enc Tryz.prog W 0 (fun _ => true) true Tryz.f7.params.toList args.toList ds p := hA0
  rw [Tryz.params7] at hA hval
  obtain ⟨v0, vs0, d0, ds0, p0, q0, hargs, rfl, -, h0, r0⟩ := trodAll_cons hA
  obtain ⟨v1, vs1, d1, ds1, p1, q1, rfl, rfl, -, h1, r1⟩ := trodAll_cons r0
  obtain ⟨v2, vs2, d2, ds2, p2, q2, rfl, rfl, -, h2, r2⟩ := trodAll_cons r1
  obtain ⟨rfl, rfl, -⟩ := trodAll_nil r2
  obtain rfl : args = #[v0, v1, v2] := by cases args; simp_all
  obtain ⟨rfl, -⟩ := trodVars_none hV
  obtain ⟨a, rfl, -, -, hs0⟩ := Go.ChangeMaps.open_string Tryz.underlying9 (hval 0 _ _ rfl rfl) h0
  obtain ⟨b, rfl, -, -, hs1⟩ := Go.ChangeMaps.open_string Tryz.underlying9 (hval 1 _ _ rfl rfl) h1
  obtain ⟨c, rfl⟩ := open_env (hval 2 _ _ rfl rfl) h2
  rw [MakeChecks.laidMetH_plain _ _ _ (by kernel_rfl)] at hlaid
  exact (law_ct a b c W hs0 hs1 ⟨maxLen_of hsh, words_laid hlaid (by simp [Rows.mediaListRow]), dim.pow_of hlaid (by simp [Rows.mediaListRow]), err_of (by kernel_rfl) (by kernel_rfl) hlaid.tail.tail.tail.tail.tail, err_of (by kernel_rfl) (by kernel_rfl) hlaid.tail.tail.tail.tail⟩).mono fun e W' ⟨he, bel⟩ => ⟨_, he, law_post laidOutD rfl Tryz.underlying4 rfl (by intro t ht; rw [Tryz.params7] at ht; revert t; decide +kernel) rfl hW' bel⟩

theorem holds : Rows.MediaListSaid :=
  OpenClaim.holds_of_wide 7 Tryz.f7 rfl rfl rfl rfl rfl rfl rfl ⟨rfl, rfl, rfl, rfl, rfl⟩ rfl rfl rfl rfl rfl (by kernel_rfl) Tryz.func7 (by kernel_rfl)
    (of_decide_eq_true (by kernel_rfl)) (by unfold Func.isWrapper; first | (rw [if_pos (by decide +kernel)]; kernel_rfl) | (rw [if_neg (by decide +kernel)]; exact ⟨rfl, rfl⟩))
    (fun os started H enc _ => lifted os started H enc)

theorem proved : Rows.MediaListCardSaid :=
  Claim7.holds_tied_plain_at .later [] Rows.mediaListCard.laidKinds true Rows.mediaListCard.stood.harness Rows.mediaListCard.stood.looks holds (fun _ h => by cases h) (by kernel_rfl) (fun _ h => by cases h) mediaList_row_tie rfl ⟨rfl, rfl⟩ (by kernel_rfl) rfl
    (fun f fn hf hfn => by
      obtain rfl : f = 7 := Option.some.inj ((show Tryz.prog.funcNamed "clerestory/clerestorykeep2.MediaList" = some 7 by kernel_rfl).symm.trans hf) |>.symm
      obtain rfl : fn = Tryz.f7 := (Option.some.inj (Tryz.func7.symm.trans hfn)).symm
      exact ⟨by kernel_rfl, fun j t ht => by
        rw [Tryz.params7] at ht
        have hm : t ∈ [9, 9, 48] := by simpa using Array.mem_of_getElem? ht
        have hall : ([9, 9, 48].all fun u => !Tryz.prog.wantsStandIn u) = true := by kernel_rfl
        exact (show Tryz.prog.wantsStandIn t = false by simpa using List.all_eq_true.1 hall t hm)⟩)
    (by kernel_rfl)
#print axioms proved

end Go.Proofs.YtmjbaimccbkmpaaGreatDoor.med.list
