/- Contracts and plain law, a bundle. -/
import Derived.Lib.Hide
import Derived.Test.YtlfkkaofgcongaaGreatDoorC7
set_option linter.unusedVariables false
set_option maxRecDepth 100000
set_option maxHeartbeats 16000000
open Go.Lib (hid)
namespace Go.Proofs.YtlfkkaofgcongaaGreatDoor
namespace prp
open Go.RowKit base tok
set_option linter.unusedSimpArgs false
def nmL : List Bs := [[109, 97, 114, 103, 105, 110, 45, 116, 111, 112], [109, 97, 114, 103, 105, 110, 45, 114, 105, 103, 104, 116], [109, 97, 114, 103, 105, 110, 45, 98, 111, 116, 116, 111, 109], [109, 97, 114, 103, 105, 110, 45, 108, 101, 102, 116]]
theorem nm_sides : (sidesB ⟨#[109, 97, 114, 103, 105, 110, 45]⟩ ⟨#[]⟩).map Value.string = nmL.map strv := by kernel_rfl
theorem names_margin (w : World) : Calls Tryz.prog 16 #[.string ⟨#[109, 97, 114, 103, 105, 110]⟩] w fun e w' => (∃ v, e = .returned v /\ w'.ownsRow w.heap.size 9 1 v 4 (nmL.map strv)) /\ Below w.heap.size w w' := by
 have cS0 : ∀ w, Calls Tryz.prog 22 #[.string ⟨#[109, 97, 114, 103, 105, 110, 45]⟩, .string ⟨#[]⟩] w fun e w' => (∃ v, e = .returned v /\ w'.ownsRow w.heap.size 9 1 v 4 (nmL.map strv)) /\ Below w.heap.size w w' := fun w => by
  have h := sides_ct ⟨#[109, 97, 114, 103, 105, 110, 45]⟩ ⟨#[]⟩ (by decide) (by decide) w
  rw [nm_sides] at h
  exact h
 have cS := hid cS0
 clear cS0
 have happ : (⟨#[109, 97, 114, 103, 105, 110]⟩ : ByteArray) ++ ⟨#[45]⟩ = ⟨#[109, 97, 114, 103, 105, 110, 45]⟩ := by rfl
 go_enter Tryz.func16, Tryz.ntmps16
 go_wp2_with (first
  | (go_at_call 22; (first | skip | rw [happ]); (with_reducible refine (cS.out _).mono ?_); rintro e W1 ⟨⟨v, rfl, ho⟩, hb⟩; have HO1 := hid ho; have HB1 := hid hb; clear ho hb))
 go_ret
 exact ⟨⟨_, rfl, HO1.out⟩, HB1.out⟩
theorem wide_1 (s : ByteArray) (hs : s.size < 4294967281) (a : Bs) (hp : partsP s.data.toList = [a]) (hl : a.length <= 140737488355328) (hg : globalP a = false) (w : World) (hm : MaxL w) :
  Calls Tryz.prog 8 #[.string ⟨#[109, 97, 114, 103, 105, 110]⟩, .string s] w fun e w' => (∃ v, e = .returned (.tuple #[v, .bool true]) /\ w'.ownsRow w.heap.size 31 3 v 4 (flatR dcellsG (nmL.zip [a, a, a, a]))) /\ Below w.heap.size w w' := by
 have HM := hid hm
 have cN := hid (names_margin w)
 have cP0 : ∀ w, MaxL w -> Calls Tryz.prog 17 #[.string s] w fun e w' => (∃ v, e = .returned v /\ w'.ownsRow w.heap.size 9 1 v 1 ([a].map strv)) /\ Below w.heap.size w w' := fun w hm => by
  have h := parts_row s hs w hm
  rw [hp] at h
  exact h
 have cP := hid cP0
 have cG0 : ∀ w, Calls Tryz.prog 18 #[.string (bs a)] w (rt w (.bool false)) := fun w => by
  have h := global_ct a hl w
  rw [hg] at h
  exact h
 have cG := hid cG0
 clear cG0
 clear cP0 hm
 go_enter Tryz.func8, Tryz.ntmps8
 go_wp2_with (first
  | (go_at_call 16; (with_reducible refine cN.out.mono ?_); rintro e W1 ⟨⟨v, rfl, ho⟩, hb⟩; obtain ⟨A1, c1, rfl, hc1, hr1⟩ := row_srd (n := 4) (L := nmL) rfl ho; have HB1 := hid hb; have HN1 := hid hr1; clear ho hb hr1)
  | (go_at_call 17; (with_reducible refine (cP.out _ (HM.out.on HB1.out HM.out.lt)).mono ?_); rintro e W2 ⟨⟨v, rfl, ho⟩, hb⟩; obtain ⟨g2, c2, rfl, hg2, hl2⟩ := row_at7 ho (by decide); have x0 : W2.cell? ⟨g2, 0, none⟩ = some (.string (bs a)) := (ho.cellAt 0 (by decide)).trans rfl; obtain ⟨A2, c2', he2, hc2, hr2⟩ := row_srd (n := 1) (L := [a]) rfl ho; have HB2 := hid (tb HB1 hb); have HN2 := hid (Rd.keep HN1.out hb hb.size); obtain ⟨rfl, -, rfl⟩ := Value.slice.inj he2; have HL2 := hid hr2; clear ho hb hr2 he2)
  | (go_at_call 18; (with_reducible refine (cG.out _).mono ?_); rintro e W3 ⟨rfl, hb⟩; have HB3 := hid (tb HB2 hb); have HN3 := hid (Rd.keep HN2.out hb hb.size); have HL3 := hid (Rd.keep HL2.out hb hb.size); clear hb)
  | (go_at_call 24; (with_reducible refine (four_1 _ _ a _ HL3.out).mono ?_); rintro e W4 ⟨⟨v, rfl, ho⟩, hb⟩; obtain ⟨A4, c4, rfl, hc4, hr4⟩ := row_srd (n := 4) (L := [a, a, a, a]) rfl ho; have HB4 := hid (tb HB3 hb); have HN4 := hid (Rd.keep HN3.out hb hb.size); have HV4 := hid hr4; clear ho hb hr4)
  | (go_at_call 19; (with_reducible refine (given_ct _ _ 4 4 _ _ nmL [a, a, a, a] (by decide) (by decide) _ HN4.out HV4.out).mono ?_); rintro e W5 ⟨⟨v, rfl, ho⟩, hb⟩; have HB5 := hid (tb HB4 hb); have HO5 := hid (World.ownsRow.mono ho HB4.out.size); clear ho hb))
 exact bodyPost_ret (v := .tuple #[_, .bool true]) (by simp [results, Tryz.results8, go_sem]) rfl ⟨⟨_, rfl, HO5.out⟩, HB5.out⟩
theorem wide_2 (s : ByteArray) (hs : s.size < 4294967281) (a b : Bs) (hp : partsP s.data.toList = [a, b]) (w : World) (hm : MaxL w) :
  Calls Tryz.prog 8 #[.string ⟨#[109, 97, 114, 103, 105, 110]⟩, .string s] w fun e w' => (∃ v, e = .returned (.tuple #[v, .bool true]) /\ w'.ownsRow w.heap.size 31 3 v 4 (flatR dcellsG (nmL.zip [a, b, a, b]))) /\ Below w.heap.size w w' := by
 have HM := hid hm
 have cN := hid (names_margin w)
 have cP0 : ∀ w, MaxL w -> Calls Tryz.prog 17 #[.string s] w fun e w' => (∃ v, e = .returned v /\ w'.ownsRow w.heap.size 9 1 v 2 ([a, b].map strv)) /\ Below w.heap.size w w' := fun w hm => by
  have h := parts_row s hs w hm
  rw [hp] at h
  exact h
 have cP := hid cP0
 clear cP0 hm
 go_enter Tryz.func8, Tryz.ntmps8
 go_wp2_with (first
  | (go_at_call 16; (with_reducible refine cN.out.mono ?_); rintro e W1 ⟨⟨v, rfl, ho⟩, hb⟩; obtain ⟨A1, c1, rfl, hc1, hr1⟩ := row_srd (n := 4) (L := nmL) rfl ho; have HB1 := hid hb; have HN1 := hid hr1; clear ho hb hr1)
  | (go_at_call 17; (with_reducible refine (cP.out _ (HM.out.on HB1.out HM.out.lt)).mono ?_); rintro e W2 ⟨⟨v, rfl, ho⟩, hb⟩; obtain ⟨g2, c2, rfl, hg2, hl2⟩ := row_at7 ho (by decide); obtain ⟨A2, c2', he2, hc2, hr2⟩ := row_srd (n := 2) (L := [a, b]) rfl ho; have HB2 := hid (tb HB1 hb); have HN2 := hid (Rd.keep HN1.out hb hb.size); obtain ⟨rfl, -, rfl⟩ := Value.slice.inj he2; have HL2 := hid hr2; clear ho hb hr2 he2)
  | (go_at_call 24; (with_reducible refine (four_2 _ _ a b _ HL2.out).mono ?_); rintro e W4 ⟨⟨v, rfl, ho⟩, hb⟩; obtain ⟨A4, c4, rfl, hc4, hr4⟩ := row_srd (n := 4) (L := [a, b, a, b]) rfl ho; have HB4 := hid (tb HB2 hb); have HN4 := hid (Rd.keep HN2.out hb hb.size); have HV4 := hid hr4; clear ho hb hr4)
  | (go_at_call 19; (with_reducible refine (given_ct _ _ 4 4 _ _ nmL [a, b, a, b] (by decide) (by decide) _ HN4.out HV4.out).mono ?_); rintro e W5 ⟨⟨v, rfl, ho⟩, hb⟩; have HB5 := hid (tb HB4 hb); have HO5 := hid (World.ownsRow.mono ho HB4.out.size); clear ho hb))
 exact bodyPost_ret (v := .tuple #[_, .bool true]) (by simp [results, Tryz.results8, go_sem]) rfl ⟨⟨_, rfl, HO5.out⟩, HB5.out⟩
theorem wide_3 (s : ByteArray) (hs : s.size < 4294967281) (a b c : Bs) (hp : partsP s.data.toList = [a, b, c]) (w : World) (hm : MaxL w) :
  Calls Tryz.prog 8 #[.string ⟨#[109, 97, 114, 103, 105, 110]⟩, .string s] w fun e w' => (∃ v, e = .returned (.tuple #[v, .bool true]) /\ w'.ownsRow w.heap.size 31 3 v 4 (flatR dcellsG (nmL.zip [a, b, c, b]))) /\ Below w.heap.size w w' := by
 have HM := hid hm
 have cN := hid (names_margin w)
 have cP0 : ∀ w, MaxL w -> Calls Tryz.prog 17 #[.string s] w fun e w' => (∃ v, e = .returned v /\ w'.ownsRow w.heap.size 9 1 v 3 ([a, b, c].map strv)) /\ Below w.heap.size w w' := fun w hm => by
  have h := parts_row s hs w hm
  rw [hp] at h
  exact h
 have cP := hid cP0
 clear cP0 hm
 go_enter Tryz.func8, Tryz.ntmps8
 go_wp2_with (first
  | (go_at_call 16; (with_reducible refine cN.out.mono ?_); rintro e W1 ⟨⟨v, rfl, ho⟩, hb⟩; obtain ⟨A1, c1, rfl, hc1, hr1⟩ := row_srd (n := 4) (L := nmL) rfl ho; have HB1 := hid hb; have HN1 := hid hr1; clear ho hb hr1)
  | (go_at_call 17; (with_reducible refine (cP.out _ (HM.out.on HB1.out HM.out.lt)).mono ?_); rintro e W2 ⟨⟨v, rfl, ho⟩, hb⟩; obtain ⟨g2, c2, rfl, hg2, hl2⟩ := row_at7 ho (by decide); obtain ⟨A2, c2', he2, hc2, hr2⟩ := row_srd (n := 3) (L := [a, b, c]) rfl ho; have HB2 := hid (tb HB1 hb); have HN2 := hid (Rd.keep HN1.out hb hb.size); obtain ⟨rfl, -, rfl⟩ := Value.slice.inj he2; have HL2 := hid hr2; clear ho hb hr2 he2)
  | (go_at_call 24; (with_reducible refine (four_3 _ _ a b c _ HL2.out).mono ?_); rintro e W4 ⟨⟨v, rfl, ho⟩, hb⟩; obtain ⟨A4, c4, rfl, hc4, hr4⟩ := row_srd (n := 4) (L := [a, b, c, b]) rfl ho; have HB4 := hid (tb HB2 hb); have HN4 := hid (Rd.keep HN2.out hb hb.size); have HV4 := hid hr4; clear ho hb hr4)
  | (go_at_call 19; (with_reducible refine (given_ct _ _ 4 4 _ _ nmL [a, b, c, b] (by decide) (by decide) _ HN4.out HV4.out).mono ?_); rintro e W5 ⟨⟨v, rfl, ho⟩, hb⟩; have HB5 := hid (tb HB4 hb); have HO5 := hid (World.ownsRow.mono ho HB4.out.size); clear ho hb))
 exact bodyPost_ret (v := .tuple #[_, .bool true]) (by simp [results, Tryz.results8, go_sem]) rfl ⟨⟨_, rfl, HO5.out⟩, HB5.out⟩
theorem wide_4 (s : ByteArray) (hs : s.size < 4294967281) (a b c d : Bs) (hp : partsP s.data.toList = [a, b, c, d]) (w : World) (hm : MaxL w) :
  Calls Tryz.prog 8 #[.string ⟨#[109, 97, 114, 103, 105, 110]⟩, .string s] w fun e w' => (∃ v, e = .returned (.tuple #[v, .bool true]) /\ w'.ownsRow w.heap.size 31 3 v 4 (flatR dcellsG (nmL.zip [a, b, c, d]))) /\ Below w.heap.size w w' := by
 have HM := hid hm
 have cN := hid (names_margin w)
 have cP0 : ∀ w, MaxL w -> Calls Tryz.prog 17 #[.string s] w fun e w' => (∃ v, e = .returned v /\ w'.ownsRow w.heap.size 9 1 v 4 ([a, b, c, d].map strv)) /\ Below w.heap.size w w' := fun w hm => by
  have h := parts_row s hs w hm
  rw [hp] at h
  exact h
 have cP := hid cP0
 clear cP0 hm
 go_enter Tryz.func8, Tryz.ntmps8
 go_wp2_with (first
  | (go_at_call 16; (with_reducible refine cN.out.mono ?_); rintro e W1 ⟨⟨v, rfl, ho⟩, hb⟩; obtain ⟨A1, c1, rfl, hc1, hr1⟩ := row_srd (n := 4) (L := nmL) rfl ho; have HB1 := hid hb; have HN1 := hid hr1; clear ho hb hr1)
  | (go_at_call 17; (with_reducible refine (cP.out _ (HM.out.on HB1.out HM.out.lt)).mono ?_); rintro e W2 ⟨⟨v, rfl, ho⟩, hb⟩; obtain ⟨g2, c2, rfl, hg2, hl2⟩ := row_at7 ho (by decide); obtain ⟨A2, c2', he2, hc2, hr2⟩ := row_srd (n := 4) (L := [a, b, c, d]) rfl ho; have HB2 := hid (tb HB1 hb); have HN2 := hid (Rd.keep HN1.out hb hb.size); obtain ⟨rfl, -, rfl⟩ := Value.slice.inj he2; have HL2 := hid hr2; clear ho hb hr2 he2)
  | (go_at_call 24; (with_reducible refine (four_4 _ _ a b c d _ HL2.out).mono ?_); rintro e W4 ⟨⟨v, rfl, ho⟩, hb⟩; obtain ⟨A4, c4, rfl, hc4, hr4⟩ := row_srd (n := 4) (L := [a, b, c, d]) rfl ho; have HB4 := hid (tb HB2 hb); have HN4 := hid (Rd.keep HN2.out hb hb.size); have HV4 := hid hr4; clear ho hb hr4)
  | (go_at_call 19; (with_reducible refine (given_ct _ _ 4 4 _ _ nmL [a, b, c, d] (by decide) (by decide) _ HN4.out HV4.out).mono ?_); rintro e W5 ⟨⟨v, rfl, ho⟩, hb⟩; have HB5 := hid (tb HB4 hb); have HO5 := hid (World.ownsRow.mono ho HB4.out.size); clear ho hb))
 exact bodyPost_ret (v := .tuple #[_, .bool true]) (by simp [results, Tryz.results8, go_sem]) rfl ⟨⟨_, rfl, HO5.out⟩, HB5.out⟩
end prp
end Go.Proofs.YtlfkkaofgcongaaGreatDoor
