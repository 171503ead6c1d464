/- Contracts and plain law, a bundle. -/
import Derived.Lib.Hide
import Derived.Test.YthgffoanecknoaaGreatDoorG1
import Derived.Test.YthgffoanecknoaaGreatDoorCA
import Derived.Test.YthgffoanecknoaaGreatDoorBC
set_option linter.unusedVariables false
set_option maxRecDepth 100000
set_option maxHeartbeats 16000000
open Go.Lib (hid)
namespace Go.Proofs.YthgffoanecknoaaGreatDoor
namespace prp
open Go.RowKit base tok dim
set_option linter.unusedSimpArgs false
def WideR (N : List Bs) (w : World) : Ending -> World -> Prop := fun e w' => (∃ v b D, e = .returned (.tuple #[v, .bool b]) /\ w'.ownsRow w.heap.size 49 3 v D.length (flatR dcellsG D) /\ (D.map Prod.fst).Sublist N /\ (b = false -> D = [])) /\ Below w.heap.size w w'
theorem wide_nothing {N : List Bs} {w w' : World} (hb : Below w.heap.size w w') : WideR N w (.returned (.tuple #[.slice none 0 0, .bool false])) w' :=
 ⟨⟨_, _, [], rfl, World.ownsRow_nil _ _ _ _, List.nil_sublist _, fun _ => rfl⟩, hb⟩
theorem given_fst {N V : List Bs} {n : Nat} (hN : N.length = n) (hV : n <= V.length) : ((N.zip V).take n).length = n /\ ((N.zip V).take n).map Prod.fst = N := by
 have h1 : (N.zip V).length = n := by rw [List.length_zip, hN]; exact Nat.min_eq_left hV
 rw [List.take_of_length_le (by omega)]
 exact ⟨h1, List.map_fst_zip (by omega)⟩
theorem wide_given {N V : List Bs} {n : Nat} {w W w' : World} {v : Value} (hN : N.length = n) (hV : n <= V.length) (hb : Below w.heap.size w W) (h : w'.ownsRow W.heap.size 49 3 v n (flatR dcellsG ((N.zip V).take n))) (hb2 : Below w.heap.size w w') : WideR N w (.returned (.tuple #[v, .bool true])) w' := by
 obtain ⟨h1, h2⟩ := given_fst hN hV
 refine ⟨⟨_, _, (N.zip V).take n, rfl, ?_, ?_, fun h => ?_⟩, hb2⟩
 ·rw [h1]; exact World.ownsRow.mono h hb.size
 ·rw [h2]; exact List.Sublist.refl _
 ·cases h
theorem half_sub (N : List Bs) (t v : Bs) : ((halfD N t v).map Prod.fst).Sublist (N.map (· ++ t)) := by
 unfold halfD
 split
 ·exact List.nil_sublist _
 ·rw [List.map_map]; exact List.Sublist.refl _
theorem bord_sub (N : List Bs) (wd sh : Bs) : ((bordD N wd sh).map Prod.fst).Sublist (N.map (· ++ widthT) ++ N.map (· ++ shadeT)) := by
 unfold bordD
 rw [List.map_append]
 exact List.Sublist.append (half_sub N _ _) (half_sub N _ _)
theorem mem_sumB {l : List Bs} {x : Bs} (h : x ∈ l) : x.length <= sumB l := by
 induction l with
 | nil => cases h
 | cons a l ih =>
  have e : sumB (a :: l) = a.length + sumB l := rfl
  rcases List.mem_cons.1 h with rfl | h
  ·omega
  ·have := ih h
   omega
theorem wide_bord {N M : List Bs} {w w' : World} {v : Value} {b : Bool} {D : List (Bs × Bs)} (hN : M.map (· ++ widthT) ++ M.map (· ++ shadeT) = N) (ho : w'.ownsRow w.heap.size 49 3 v D.length (flatR dcellsG D)) (hd : (b = false /\ D = []) ∨ (b = true /\ ∃ wd sh, D = bordD M wd sh)) (hb : Below w.heap.size w w') : WideR N w (.returned (.tuple #[v, .bool b])) w' := by
 refine ⟨⟨v, b, D, rfl, ho, ?_, fun h => ?_⟩, hb⟩
 ·rcases hd with ⟨-, rfl⟩ | ⟨-, wd, sh, rfl⟩
  ·exact List.nil_sublist _
  ·rw [<- hN]; exact bord_sub M wd sh
 ·rcases hd with ⟨-, rfl⟩ | ⟨hb2, -⟩
  ·rfl
  ·rw [h] at hb2; cases hb2
theorem flex_form {e : Ending} {w' : World} (h : e = .returned (.tuple #[.slice none 0 0, .bool false]) ∨ ∃ B c2 V, e = .returned (.tuple #[.slice B 3 c2, .bool true]) /\ SRd w' w'.heap.size B 3 V) : ∃ v b, e = .returned (.tuple #[v, .bool b]) /\ ((b = false /\ v = .slice none 0 0) ∨ (b = true /\ ∃ B c2 V, v = .slice B 3 c2 /\ SRd w' w'.heap.size B 3 V)) := by
 rcases h with rfl | ⟨B, c2, V, rfl, h⟩
 ·exact ⟨_, _, rfl, .inl ⟨rfl, rfl⟩⟩
 ·exact ⟨_, _, rfl, .inr ⟨rfl, B, c2, V, rfl, h⟩⟩
def bordS : List Bs := [[98, 111, 114, 100, 101, 114, 45, 116, 111, 112], [98, 111, 114, 100, 101, 114, 45, 114, 105, 103, 104, 116], [98, 111, 114, 100, 101, 114, 45, 98, 111, 116, 116, 111, 109], [98, 111, 114, 100, 101, 114, 45, 108, 101, 102, 116]]
theorem eq_bordS : (sidesB ⟨#[98, 111, 114, 100, 101, 114, 45]⟩ ⟨#[]⟩).map Value.string = bordS.map strv := by kernel_rfl
theorem parts_small (s : Bs) : (partsP s).length <= s.length /\ ∀ x ∈ partsP s, x.length <= s.length := by
 have hinv := inv_all (cutP s) (cutP s).length (Nat.le_refl _)
 rw [List.take_length] at hinv
 obtain ⟨-, h2, h3, -⟩ := hinv
 have h4 := cut_few s
 have h5 : textOf (cutP s) = s := cut_text s
 rw [h5] at h3
 refine ⟨Nat.le_trans h2 (by omega), fun x hx => Nat.le_trans (mem_sumB hx) h3⟩
theorem wide_zero (m : Nat) (nm : ByteArray) (N : List Bs) (hNm : N.length = m) (cNm : NamesC nm N) (s : ByteArray) (hs : s.size < 4294967281) (L : List Bs) (n : Nat) (hp : partsP s.data.toList = L) (hn : L.length = n)  (m0 : m = 0 ∨ n = 0) (w : World) (hm : MaxL w) :
  Calls Tryz.prog 11 #[.string nm, .string s] w ((rt w (.tuple #[.slice none 0 0, .bool false]))) := by
 have HM := hid hm
 have cN0 : ∀ w, Calls Tryz.prog 21 #[.string nm] w fun e w' => (∃ v, e = .returned v /\ w'.ownsRow w.heap.size 9 1 v m (N.map strv)) /\ Below w.heap.size w w' := fun w => by
  have h := cNm w
  rw [hNm] at h
  exact h
 have cP0 : ∀ w, MaxL w -> Calls Tryz.prog 22 #[.string s] w fun e w' => (∃ v, e = .returned v /\ w'.ownsRow w.heap.size 9 1 v n (L.map strv)) /\ Below w.heap.size w w' := fun w hm => by
  have h := parts_row s hs w hm
  rw [hp] at h
  rw [hn] at h
  exact h
 have cN := hid cN0
 have cP := hid cP0
 clear cN0 cP0 hm
 by_cases hm0 : m = 0
 ·have g0 : ((m : Int) == 0) = true := by rw [hm0]; rfl
  have g1 : decide ((m : Int) = 0) = true := decide_eq_true (by omega)
  clear m0 hm0
  go_enter Tryz.func11, Tryz.ntmps11
  go_wp2_with (first
   | (go_at_call 21; (with_reducible refine (cN.out _).mono ?_); rintro e W1 ⟨⟨v, rfl, ho⟩, hb⟩; obtain ⟨A1, c1, rfl, hc1, hr1⟩ := row_srd (n := m) (L := N) hNm ho; have HB1 := hid hb; have HN1 := hid hr1; clear ho hb hr1)
   | (go_at_call 22; (with_reducible refine (cP.out _ (HM.out.on HB1.out HM.out.lt)).mono ?_); rintro e W2 ⟨⟨v, rfl, ho⟩, hb⟩; obtain ⟨A2, c2, rfl, hc2, hr2⟩ := row_srd (n := n) (L := L) hn ho; have HB2 := hid (tb HB1 hb); have HN2 := hid (Rd.keep HN1.out hb hb.size); have HL2 := hid hr2; clear ho hb hr2))
  exact bodyPost_ret (v := .tuple #[_, .bool false]) (by simp [results, Tryz.results11, go_sem]) rfl (⟨rfl, HB2.out⟩)
 ·have g0 : ((m : Int) == 0) = false := bq (by omega)
  have g1 : ¬ (m : Int) = 0 := by omega
  obtain rfl : n = 0 := by omega
  clear m0 hm0
  go_enter Tryz.func11, Tryz.ntmps11
  go_wp2_with (first
   | (go_at_call 21; (with_reducible refine (cN.out _).mono ?_); rintro e W1 ⟨⟨v, rfl, ho⟩, hb⟩; obtain ⟨A1, c1, rfl, hc1, hr1⟩ := row_srd (n := m) (L := N) hNm ho; have HB1 := hid hb; have HN1 := hid hr1; clear ho hb hr1)
   | (go_at_call 22; (with_reducible refine (cP.out _ (HM.out.on HB1.out HM.out.lt)).mono ?_); rintro e W2 ⟨⟨v, rfl, ho⟩, hb⟩; obtain ⟨A2, c2, rfl, hc2, hr2⟩ := row_srd (n := 0) (L := L) hn ho; have HB2 := hid (tb HB1 hb); have HN2 := hid (Rd.keep HN1.out hb hb.size); have HL2 := hid hr2; clear ho hb hr2))
  exact bodyPost_ret (v := .tuple #[_, .bool false]) (by simp [results, Tryz.results11, go_sem]) rfl (⟨rfl, HB2.out⟩)
theorem wide_glob (m : Nat) (nm : ByteArray) (N : List Bs) (hNm : N.length = m) (cNm : NamesC nm N) (s : ByteArray) (hs : s.size < 4294967281) (x : Bs) (hp : partsP s.data.toList = [x]) (hg : globalP x = true) (h1 : 1 <= m) (h8 : m <= 8) (w : World) (hm : MaxL w) :
  Calls Tryz.prog 11 #[.string nm, .string s] w (fun e w' => (∃ v, e = .returned (.tuple #[v, .bool true]) /\ w'.ownsRow w.heap.size 49 3 v m (flatR dcellsG (N.map fun a => (a, x)))) /\ Below w.heap.size w w') := by
 have cG0 : ∀ w, Calls Tryz.prog 23 #[.string (bs x)] w (rt w (.bool true)) := fun w => by
  have h := global_ct x (by have h1 := (parts_small s.data.toList).2; rw [hp] at h1; have h2 := h1 x (by simp); rw [<- Lib.size_eq] at h2; omega) w
  rw [hg] at h
  exact h
 have cG := hid cG0
 clear cG0
 have HM := hid hm
 have cN0 : ∀ w, Calls Tryz.prog 21 #[.string nm] w fun e w' => (∃ v, e = .returned v /\ w'.ownsRow w.heap.size 9 1 v m (N.map strv)) /\ Below w.heap.size w w' := fun w => by
  have h := cNm w
  rw [hNm] at h
  exact h
 have cP0 : ∀ w, MaxL w -> Calls Tryz.prog 22 #[.string s] w fun e w' => (∃ v, e = .returned v /\ w'.ownsRow w.heap.size 9 1 v 1 ([x].map strv)) /\ Below w.heap.size w w' := fun w hm => by
  have h := parts_row s hs w hm
  rw [hp] at h
  exact h
 have cN := hid cN0
 have cP := hid cP0
 clear cN0 cP0 hm
 have hzip : (N.zip (List.replicate m x)).take m = N.map fun a => (a, x) := by
  rw [List.take_of_length_le (by rw [List.length_zip, hNm, List.length_replicate]; exact Nat.min_le_left _ _), <- hNm]
  clear cN hNm cNm
  induction N with
  | nil => rfl
  | cons a N ih => rw [List.length_cons, List.replicate_succ, List.zip_cons_cons, ih]; rfl
 replace hzip := hid hzip
 have g0 : ((m : Int) == 0) = false := bq (by omega)
 have g1 : ¬ (m : Int) = 0 := by omega
 go_enter Tryz.func11, Tryz.ntmps11
 go_wp2_with (first
  | (go_at_call 21; (with_reducible refine (cN.out _).mono ?_); rintro e W1 ⟨⟨v, rfl, ho⟩, hb⟩; obtain ⟨A1, c1, rfl, hc1, hr1⟩ := row_srd (n := m) (L := N) hNm ho; have HB1 := hid hb; have HN1 := hid hr1; clear ho hb hr1)
  | (go_at_call 22; (with_reducible refine (cP.out _ (HM.out.on HB1.out HM.out.lt)).mono ?_); rintro e W2 ⟨⟨v, rfl, ho⟩, hb⟩; obtain ⟨g2, c2, rfl, hg2, hl2⟩ := row_at7 ho (by decide); have x0 : W2.cell? ⟨g2, 0, none⟩ = some (.string (bs x)) := (ho.cellAt 0 (by decide)).trans rfl; obtain ⟨A2, c2', he2, hc2, hr2⟩ := row_srd (n := 1) (L := [x]) rfl ho; have HB2 := hid (tb HB1 hb); have HN2 := hid (Rd.keep HN1.out hb hb.size); obtain ⟨rfl, -, rfl⟩ := Value.slice.inj he2; have HL2 := hid hr2; clear ho hb hr2 he2)
  | (go_at_call 23; (with_reducible refine (cG.out _).mono ?_); rintro e W3 ⟨rfl, hb⟩; have HB3 := hid (tb HB2 hb); have HN3 := hid (Rd.keep HN2.out hb hb.size); have HL3 := hid (Rd.keep HL2.out hb hb.size); clear hb)
  | (go_at_call 25; (with_reducible refine (repeat_ct _ _ x m h1 h8 _ HL3.out).mono ?_); rintro e W4 ⟨⟨A4, c4, rfl, hr4⟩, hb⟩; have HB4 := hid (tb HB3 hb); have HN4 := hid (Rd.keep HN3.out hb hb.size); have HV4 := hid hr4; clear hb hr4)
  | (go_at_call 24; (with_reducible refine (given_ct _ _ m m _ _ N (List.replicate m x) h8 (Nat.le_refl _) _ HN4.out HV4.out).mono ?_); rintro e W5 ⟨⟨v, rfl, ho⟩, hb⟩; rw [hzip.out] at ho; have HB5 := hid (tb HB4 hb); have HO5 := hid (World.ownsRow.mono ho HB4.out.size); clear ho hb))
 exact bodyPost_ret (v := .tuple #[_, .bool true]) (by simp [results, Tryz.results11, go_sem]) rfl (⟨⟨_, rfl, HO5.out⟩, HB5.out⟩)
end prp
namespace prp
open Go.RowKit base tok dim
set_option linter.unusedSimpArgs false
theorem wide_m1_one (nm : ByteArray) (N : List Bs) (hNm : N.length = 1) (cNm : NamesC nm N) (s : ByteArray) (hs : s.size < 4294967281) (hnb : (nm.toList == [98, 111, 114, 100, 101, 114]) = false) (hnf : (nm.toList == [102, 108, 101, 120]) = false)  (x : Bs) (hp : partsP s.data.toList = [x]) (hg : globalP x = false) (w : World) (hm : MaxL w) :
  Calls Tryz.prog 11 #[.string nm, .string s] w (WideR N w) := by
 have cG0 : ∀ w, Calls Tryz.prog 23 #[.string (bs x)] w (rt w (.bool false)) := fun w => by
  have h := global_ct x (by have h1 := (parts_small s.data.toList).2; rw [hp] at h1; have h2 := h1 x (by simp); rw [<- Lib.size_eq] at h2; omega) w
  rw [hg] at h
  exact h
 have cG := hid cG0
 clear cG0
 have HM := hid hm
 have cN0 : ∀ w, Calls Tryz.prog 21 #[.string nm] w fun e w' => (∃ v, e = .returned v /\ w'.ownsRow w.heap.size 9 1 v 1 (N.map strv)) /\ Below w.heap.size w w' := fun w => by
  have h := cNm w
  rw [hNm] at h
  exact h
 have cP0 : ∀ w, MaxL w -> Calls Tryz.prog 22 #[.string s] w fun e w' => (∃ v, e = .returned v /\ w'.ownsRow w.heap.size 9 1 v 1 ([x].map strv)) /\ Below w.heap.size w w' := fun w hm => by
  have h := parts_row s hs w hm
  rw [hp] at h
  exact h
 have cN := hid cN0
 have cP := hid cP0
 clear cN0 cP0 hm
 go_enter Tryz.func11, Tryz.ntmps11
 go_wp2_with (first
  | (go_at_call 21; (with_reducible refine (cN.out _).mono ?_); rintro e W1 ⟨⟨v, rfl, ho⟩, hb⟩; obtain ⟨A1, c1, rfl, hc1, hr1⟩ := row_srd (n := 1) (L := N) hNm ho; have HB1 := hid hb; have HN1 := hid hr1; clear ho hb hr1)
  | (go_at_call 22; (with_reducible refine (cP.out _ (HM.out.on HB1.out HM.out.lt)).mono ?_); rintro e W2 ⟨⟨v, rfl, ho⟩, hb⟩; obtain ⟨g2, c2, rfl, hg2, hl2⟩ := row_at7 ho (by decide); have x0 : W2.cell? ⟨g2, 0, none⟩ = some (.string (bs x)) := (ho.cellAt 0 (by decide)).trans rfl; obtain ⟨A2, c2', he2, hc2, hr2⟩ := row_srd (n := 1) (L := [x]) rfl ho; have HB2 := hid (tb HB1 hb); have HN2 := hid (Rd.keep HN1.out hb hb.size); obtain ⟨rfl, -, rfl⟩ := Value.slice.inj he2; have HL2 := hid hr2; clear ho hb hr2 he2)
  | (go_at_call 23; (with_reducible refine (cG.out _).mono ?_); rintro e W3 ⟨rfl, hb⟩; have HB3 := hid (tb HB2 hb); have HN3 := hid (Rd.keep HN2.out hb hb.size); have HL3 := hid (Rd.keep HL2.out hb hb.size); clear hb)
  | (go_at_call 24; (with_reducible refine (given_ct _ _ 1 1 _ _ N [x] (by decide) (by decide) _ HN3.out HL3.out).mono ?_); rintro e W9 ⟨⟨v, rfl, ho⟩, hb⟩; have HW9 := hid (wide_given hNm (by simp) HB3.out ho (tb HB3 hb)); clear ho hb))
 exact bodyPost_ret (v := .tuple #[_, .bool true]) (by simp [results, Tryz.results11, go_sem]) rfl HW9.out
theorem wide_m1_many (nm : ByteArray) (N : List Bs) (hNm : N.length = 1) (cNm : NamesC nm N) (s : ByteArray) (hs : s.size < 4294967281) (hnb : (nm.toList == [98, 111, 114, 100, 101, 114]) = false) (hnf : (nm.toList == [102, 108, 101, 120]) = false)  (L : List Bs) (n : Nat) (hp : partsP s.data.toList = L) (hn : L.length = n) (h2 : 2 <= n) (w : World) (hm : MaxL w) :
  Calls Tryz.prog 11 #[.string nm, .string s] w (WideR N w) := by
 have HM := hid hm
 have cN0 : ∀ w, Calls Tryz.prog 21 #[.string nm] w fun e w' => (∃ v, e = .returned v /\ w'.ownsRow w.heap.size 9 1 v 1 (N.map strv)) /\ Below w.heap.size w w' := fun w => by
  have h := cNm w
  rw [hNm] at h
  exact h
 have cP0 : ∀ w, MaxL w -> Calls Tryz.prog 22 #[.string s] w fun e w' => (∃ v, e = .returned v /\ w'.ownsRow w.heap.size 9 1 v n (L.map strv)) /\ Below w.heap.size w w' := fun w hm => by
  have h := parts_row s hs w hm
  rw [hp] at h
  rw [hn] at h
  exact h
 have cN := hid cN0
 have cP := hid cP0
 clear cN0 cP0 hm
 have n0 : ¬ (n : Int) = 0 := by omega
 have n1 : ¬ (n : Int) = 1 := by omega
 have m0 : ((n : Int) == 0) = false := bq n0
 have m1 : ((n : Int) == 1) = false := bq n1
 have n4 : (1 : Int) < (n : Int) := by omega
 go_enter Tryz.func11, Tryz.ntmps11
 go_wp2_with (first
  | (go_at_call 21; (with_reducible refine (cN.out _).mono ?_); rintro e W1 ⟨⟨v, rfl, ho⟩, hb⟩; obtain ⟨A1, c1, rfl, hc1, hr1⟩ := row_srd (n := 1) (L := N) hNm ho; have HB1 := hid hb; have HN1 := hid hr1; clear ho hb hr1)
  | (go_at_call 22; (with_reducible refine (cP.out _ (HM.out.on HB1.out HM.out.lt)).mono ?_); rintro e W2 ⟨⟨v, rfl, ho⟩, hb⟩; obtain ⟨A2, c2, rfl, hc2, hr2⟩ := row_srd (n := n) (L := L) hn ho; have HB2 := hid (tb HB1 hb); have HN2 := hid (Rd.keep HN1.out hb hb.size); have HL2 := hid hr2; clear ho hb hr2))
 exact bodyPost_ret (v := .tuple #[_, .bool false]) (by simp [results, Tryz.results11, go_sem]) rfl (wide_nothing HB2.out)
theorem wide_m4_one (nm : ByteArray) (N : List Bs) (hNm : N.length = 4) (cNm : NamesC nm N) (s : ByteArray) (hs : s.size < 4294967281) (hnb : (nm.toList == [98, 111, 114, 100, 101, 114]) = false) (hnf : (nm.toList == [102, 108, 101, 120]) = false)  (x : Bs) (hp : partsP s.data.toList = [x]) (hg : globalP x = false) (w : World) (hm : MaxL w) :
  Calls Tryz.prog 11 #[.string nm, .string s] w (WideR N w) := by
 have cG0 : ∀ w, Calls Tryz.prog 23 #[.string (bs x)] w (rt w (.bool false)) := fun w => by
  have h := global_ct x (by have h1 := (parts_small s.data.toList).2; rw [hp] at h1; have h2 := h1 x (by simp); rw [<- Lib.size_eq] at h2; omega) w
  rw [hg] at h
  exact h
 have cG := hid cG0
 clear cG0
 have HM := hid hm
 have cN0 : ∀ w, Calls Tryz.prog 21 #[.string nm] w fun e w' => (∃ v, e = .returned v /\ w'.ownsRow w.heap.size 9 1 v 4 (N.map strv)) /\ Below w.heap.size w w' := fun w => by
  have h := cNm w
  rw [hNm] at h
  exact h
 have cP0 : ∀ w, MaxL w -> Calls Tryz.prog 22 #[.string s] w fun e w' => (∃ v, e = .returned v /\ w'.ownsRow w.heap.size 9 1 v 1 ([x].map strv)) /\ Below w.heap.size w w' := fun w hm => by
  have h := parts_row s hs w hm
  rw [hp] at h
  exact h
 have cN := hid cN0
 have cP := hid cP0
 clear cN0 cP0 hm
 go_enter Tryz.func11, Tryz.ntmps11
 go_wp2_with (first
  | (go_at_call 21; (with_reducible refine (cN.out _).mono ?_); rintro e W1 ⟨⟨v, rfl, ho⟩, hb⟩; obtain ⟨A1, c1, rfl, hc1, hr1⟩ := row_srd (n := 4) (L := N) hNm ho; have HB1 := hid hb; have HN1 := hid hr1; clear ho hb hr1)
  | (go_at_call 22; (with_reducible refine (cP.out _ (HM.out.on HB1.out HM.out.lt)).mono ?_); rintro e W2 ⟨⟨v, rfl, ho⟩, hb⟩; obtain ⟨g2, c2, rfl, hg2, hl2⟩ := row_at7 ho (by decide); have x0 : W2.cell? ⟨g2, 0, none⟩ = some (.string (bs x)) := (ho.cellAt 0 (by decide)).trans rfl; obtain ⟨A2, c2', he2, hc2, hr2⟩ := row_srd (n := 1) (L := [x]) rfl ho; have HB2 := hid (tb HB1 hb); have HN2 := hid (Rd.keep HN1.out hb hb.size); obtain ⟨rfl, -, rfl⟩ := Value.slice.inj he2; have HL2 := hid hr2; clear ho hb hr2 he2)
  | (go_at_call 23; (with_reducible refine (cG.out _).mono ?_); rintro e W3 ⟨rfl, hb⟩; have HB3 := hid (tb HB2 hb); have HN3 := hid (Rd.keep HN2.out hb hb.size); have HL3 := hid (Rd.keep HL2.out hb hb.size); clear hb)
  | (go_at_call 29; (with_reducible refine (four_1 _ _ x _ HL3.out).mono ?_); rintro e W4 ⟨⟨v, rfl, ho⟩, hb⟩; obtain ⟨A4, c4, rfl, hc4, hr4⟩ := row_srd (n := 4) (L := [x, x, x, x]) rfl ho; have HB4 := hid (tb HB3 hb); have HN4 := hid (Rd.keep HN3.out hb hb.size); have HV4 := hid hr4; clear ho hb hr4)
  | (go_at_call 24; (with_reducible refine (given_ct _ _ 4 4 _ _ N [x, x, x, x] (by omega) (by omega) _ HN4.out HV4.out).mono ?_); rintro e W9 ⟨⟨v, rfl, ho⟩, hb⟩; have HW9 := hid (wide_given hNm (by simp) HB4.out ho (tb HB4 hb)); clear ho hb))
 exact bodyPost_ret (v := .tuple #[_, .bool true]) (by simp [results, Tryz.results11, go_sem]) rfl HW9.out
theorem wide_m4_2 (nm : ByteArray) (N : List Bs) (hNm : N.length = 4) (cNm : NamesC nm N) (s : ByteArray) (hs : s.size < 4294967281) (hnb : (nm.toList == [98, 111, 114, 100, 101, 114]) = false) (hnf : (nm.toList == [102, 108, 101, 120]) = false) (a b : Bs) (hp : partsP s.data.toList = [a, b]) (w : World) (hm : MaxL w) :
  Calls Tryz.prog 11 #[.string nm, .string s] w (WideR N w) := by
 have HM := hid hm
 have cN0 : ∀ w, Calls Tryz.prog 21 #[.string nm] w fun e w' => (∃ v, e = .returned v /\ w'.ownsRow w.heap.size 9 1 v 4 (N.map strv)) /\ Below w.heap.size w w' := fun w => by
  have h := cNm w
  rw [hNm] at h
  exact h
 have cP0 : ∀ w, MaxL w -> Calls Tryz.prog 22 #[.string s] w fun e w' => (∃ v, e = .returned v /\ w'.ownsRow w.heap.size 9 1 v 2 ([a, b].map strv)) /\ Below w.heap.size w w' := fun w hm => by
  have h := parts_row s hs w hm
  rw [hp] at h
  exact h
 have cN := hid cN0
 have cP := hid cP0
 clear cN0 cP0 hm
 go_enter Tryz.func11, Tryz.ntmps11
 go_wp2_with (first
  | (go_at_call 21; (with_reducible refine (cN.out _).mono ?_); rintro e W1 ⟨⟨v, rfl, ho⟩, hb⟩; obtain ⟨A1, c1, rfl, hc1, hr1⟩ := row_srd (n := 4) (L := N) hNm ho; have HB1 := hid hb; have HN1 := hid hr1; clear ho hb hr1)
  | (go_at_call 22; (with_reducible refine (cP.out _ (HM.out.on HB1.out HM.out.lt)).mono ?_); rintro e W2 ⟨⟨v, rfl, ho⟩, hb⟩; obtain ⟨A2, c2, rfl, hc2, hr2⟩ := row_srd (n := 2) (L := [a, b]) rfl ho; have HB2 := hid (tb HB1 hb); have HN2 := hid (Rd.keep HN1.out hb hb.size); have HL2 := hid hr2; clear ho hb hr2)
  | (go_at_call 29; (with_reducible refine (four_2 _ _ a b _ HL2.out).mono ?_); rintro e W4 ⟨⟨v, rfl, ho⟩, hb⟩; obtain ⟨A4, c4, rfl, hc4, hr4⟩ := row_srd (n := 4) (L := [a, b, a, b]) rfl ho; have HB4 := hid (tb HB2 hb); have HN4 := hid (Rd.keep HN2.out hb hb.size); have HV4 := hid hr4; clear ho hb hr4)
  | (go_at_call 24; (with_reducible refine (given_ct _ _ 4 4 _ _ N [a, b, a, b] (by omega) (by omega) _ HN4.out HV4.out).mono ?_); rintro e W9 ⟨⟨v, rfl, ho⟩, hb⟩; have HW9 := hid (wide_given hNm (by simp) HB4.out ho (tb HB4 hb)); clear ho hb))
 exact bodyPost_ret (v := .tuple #[_, .bool true]) (by simp [results, Tryz.results11, go_sem]) rfl HW9.out
theorem wide_m4_3 (nm : ByteArray) (N : List Bs) (hNm : N.length = 4) (cNm : NamesC nm N) (s : ByteArray) (hs : s.size < 4294967281) (hnb : (nm.toList == [98, 111, 114, 100, 101, 114]) = false) (hnf : (nm.toList == [102, 108, 101, 120]) = false) (a b c : Bs) (hp : partsP s.data.toList = [a, b, c]) (w : World) (hm : MaxL w) :
  Calls Tryz.prog 11 #[.string nm, .string s] w (WideR N w) := by
 have HM := hid hm
 have cN0 : ∀ w, Calls Tryz.prog 21 #[.string nm] w fun e w' => (∃ v, e = .returned v /\ w'.ownsRow w.heap.size 9 1 v 4 (N.map strv)) /\ Below w.heap.size w w' := fun w => by
  have h := cNm w
  rw [hNm] at h
  exact h
 have cP0 : ∀ w, MaxL w -> Calls Tryz.prog 22 #[.string s] w fun e w' => (∃ v, e = .returned v /\ w'.ownsRow w.heap.size 9 1 v 3 ([a, b, c].map strv)) /\ Below w.heap.size w w' := fun w hm => by
  have h := parts_row s hs w hm
  rw [hp] at h
  exact h
 have cN := hid cN0
 have cP := hid cP0
 clear cN0 cP0 hm
 go_enter Tryz.func11, Tryz.ntmps11
 go_wp2_with (first
  | (go_at_call 21; (with_reducible refine (cN.out _).mono ?_); rintro e W1 ⟨⟨v, rfl, ho⟩, hb⟩; obtain ⟨A1, c1, rfl, hc1, hr1⟩ := row_srd (n := 4) (L := N) hNm ho; have HB1 := hid hb; have HN1 := hid hr1; clear ho hb hr1)
  | (go_at_call 22; (with_reducible refine (cP.out _ (HM.out.on HB1.out HM.out.lt)).mono ?_); rintro e W2 ⟨⟨v, rfl, ho⟩, hb⟩; obtain ⟨A2, c2, rfl, hc2, hr2⟩ := row_srd (n := 3) (L := [a, b, c]) rfl ho; have HB2 := hid (tb HB1 hb); have HN2 := hid (Rd.keep HN1.out hb hb.size); have HL2 := hid hr2; clear ho hb hr2)
  | (go_at_call 29; (with_reducible refine (four_3 _ _ a b c _ HL2.out).mono ?_); rintro e W4 ⟨⟨v, rfl, ho⟩, hb⟩; obtain ⟨A4, c4, rfl, hc4, hr4⟩ := row_srd (n := 4) (L := [a, b, c, b]) rfl ho; have HB4 := hid (tb HB2 hb); have HN4 := hid (Rd.keep HN2.out hb hb.size); have HV4 := hid hr4; clear ho hb hr4)
  | (go_at_call 24; (with_reducible refine (given_ct _ _ 4 4 _ _ N [a, b, c, b] (by omega) (by omega) _ HN4.out HV4.out).mono ?_); rintro e W9 ⟨⟨v, rfl, ho⟩, hb⟩; have HW9 := hid (wide_given hNm (by simp) HB4.out ho (tb HB4 hb)); clear ho hb))
 exact bodyPost_ret (v := .tuple #[_, .bool true]) (by simp [results, Tryz.results11, go_sem]) rfl HW9.out
theorem wide_m4_4 (nm : ByteArray) (N : List Bs) (hNm : N.length = 4) (cNm : NamesC nm N) (s : ByteArray) (hs : s.size < 4294967281) (hnb : (nm.toList == [98, 111, 114, 100, 101, 114]) = false) (hnf : (nm.toList == [102, 108, 101, 120]) = false) (a b c d : Bs) (hp : partsP s.data.toList = [a, b, c, d]) (w : World) (hm : MaxL w) :
  Calls Tryz.prog 11 #[.string nm, .string s] w (WideR N w) := by
 have HM := hid hm
 have cN0 : ∀ w, Calls Tryz.prog 21 #[.string nm] w fun e w' => (∃ v, e = .returned v /\ w'.ownsRow w.heap.size 9 1 v 4 (N.map strv)) /\ Below w.heap.size w w' := fun w => by
  have h := cNm w
  rw [hNm] at h
  exact h
 have cP0 : ∀ w, MaxL w -> Calls Tryz.prog 22 #[.string s] w fun e w' => (∃ v, e = .returned v /\ w'.ownsRow w.heap.size 9 1 v 4 ([a, b, c, d].map strv)) /\ Below w.heap.size w w' := fun w hm => by
  have h := parts_row s hs w hm
  rw [hp] at h
  exact h
 have cN := hid cN0
 have cP := hid cP0
 clear cN0 cP0 hm
 go_enter Tryz.func11, Tryz.ntmps11
 go_wp2_with (first
  | (go_at_call 21; (with_reducible refine (cN.out _).mono ?_); rintro e W1 ⟨⟨v, rfl, ho⟩, hb⟩; obtain ⟨A1, c1, rfl, hc1, hr1⟩ := row_srd (n := 4) (L := N) hNm ho; have HB1 := hid hb; have HN1 := hid hr1; clear ho hb hr1)
  | (go_at_call 22; (with_reducible refine (cP.out _ (HM.out.on HB1.out HM.out.lt)).mono ?_); rintro e W2 ⟨⟨v, rfl, ho⟩, hb⟩; obtain ⟨A2, c2, rfl, hc2, hr2⟩ := row_srd (n := 4) (L := [a, b, c, d]) rfl ho; have HB2 := hid (tb HB1 hb); have HN2 := hid (Rd.keep HN1.out hb hb.size); have HL2 := hid hr2; clear ho hb hr2)
  | (go_at_call 29; (with_reducible refine (four_4 _ _ a b c d _ HL2.out).mono ?_); rintro e W4 ⟨⟨v, rfl, ho⟩, hb⟩; obtain ⟨A4, c4, rfl, hc4, hr4⟩ := row_srd (n := 4) (L := [a, b, c, d]) rfl ho; have HB4 := hid (tb HB2 hb); have HN4 := hid (Rd.keep HN2.out hb hb.size); have HV4 := hid hr4; clear ho hb hr4)
  | (go_at_call 24; (with_reducible refine (given_ct _ _ 4 4 _ _ N [a, b, c, d] (by omega) (by omega) _ HN4.out HV4.out).mono ?_); rintro e W9 ⟨⟨v, rfl, ho⟩, hb⟩; have HW9 := hid (wide_given hNm (by simp) HB4.out ho (tb HB4 hb)); clear ho hb))
 exact bodyPost_ret (v := .tuple #[_, .bool true]) (by simp [results, Tryz.results11, go_sem]) rfl HW9.out
theorem wide_m4_many (nm : ByteArray) (N : List Bs) (hNm : N.length = 4) (cNm : NamesC nm N) (s : ByteArray) (hs : s.size < 4294967281) (hnb : (nm.toList == [98, 111, 114, 100, 101, 114]) = false) (hnf : (nm.toList == [102, 108, 101, 120]) = false)  (L : List Bs) (n : Nat) (hp : partsP s.data.toList = L) (hn : L.length = n) (h2 : 5 <= n) (w : World) (hm : MaxL w) :
  Calls Tryz.prog 11 #[.string nm, .string s] w (WideR N w) := by
 have HM := hid hm
 have cN0 : ∀ w, Calls Tryz.prog 21 #[.string nm] w fun e w' => (∃ v, e = .returned v /\ w'.ownsRow w.heap.size 9 1 v 4 (N.map strv)) /\ Below w.heap.size w w' := fun w => by
  have h := cNm w
  rw [hNm] at h
  exact h
 have cP0 : ∀ w, MaxL w -> Calls Tryz.prog 22 #[.string s] w fun e w' => (∃ v, e = .returned v /\ w'.ownsRow w.heap.size 9 1 v n (L.map strv)) /\ Below w.heap.size w w' := fun w hm => by
  have h := parts_row s hs w hm
  rw [hp] at h
  rw [hn] at h
  exact h
 have cN := hid cN0
 have cP := hid cP0
 clear cN0 cP0 hm
 have n0 : ¬ (n : Int) = 0 := by omega
 have n1 : ¬ (n : Int) = 1 := by omega
 have m0 : ((n : Int) == 0) = false := bq n0
 have m1 : ((n : Int) == 1) = false := bq n1
 have n4 : (4 : Int) < (n : Int) := by omega
 go_enter Tryz.func11, Tryz.ntmps11
 go_wp2_with (first
  | (go_at_call 21; (with_reducible refine (cN.out _).mono ?_); rintro e W1 ⟨⟨v, rfl, ho⟩, hb⟩; obtain ⟨A1, c1, rfl, hc1, hr1⟩ := row_srd (n := 4) (L := N) hNm ho; have HB1 := hid hb; have HN1 := hid hr1; clear ho hb hr1)
  | (go_at_call 22; (with_reducible refine (cP.out _ (HM.out.on HB1.out HM.out.lt)).mono ?_); rintro e W2 ⟨⟨v, rfl, ho⟩, hb⟩; obtain ⟨A2, c2, rfl, hc2, hr2⟩ := row_srd (n := n) (L := L) hn ho; have HB2 := hid (tb HB1 hb); have HN2 := hid (Rd.keep HN1.out hb hb.size); have HL2 := hid hr2; clear ho hb hr2))
 exact bodyPost_ret (v := .tuple #[_, .bool false]) (by simp [results, Tryz.results11, go_sem]) rfl (wide_nothing HB2.out)
theorem wide_m3_one (nm : ByteArray) (hnf : (nm.toList == [102, 108, 101, 120]) = true) (N : List Bs) (hNm : N.length = 3) (cNm : NamesC nm N) (s : ByteArray) (hs : s.size < 4294967281)(hnb : (nm.toList == [98, 111, 114, 100, 101, 114]) = false)  (x : Bs) (hp : partsP s.data.toList = [x]) (hg : globalP x = false) (hLs : ∀ y ∈ [x], y.length <= 4194304) (w : World) (hm : MaxL w) :
  Calls Tryz.prog 11 #[.string nm, .string s] w (WideR N w) := by
 have cG0 : ∀ w, Calls Tryz.prog 23 #[.string (bs x)] w (rt w (.bool false)) := fun w => by
  have h := global_ct x (by have h1 := (parts_small s.data.toList).2; rw [hp] at h1; have h2 := h1 x (by simp); rw [<- Lib.size_eq] at h2; omega) w
  rw [hg] at h
  exact h
 have cG := hid cG0
 clear cG0
 have HM := hid hm
 have cN0 : ∀ w, Calls Tryz.prog 21 #[.string nm] w fun e w' => (∃ v, e = .returned v /\ w'.ownsRow w.heap.size 9 1 v 3 (N.map strv)) /\ Below w.heap.size w w' := fun w => by
  have h := cNm w
  rw [hNm] at h
  exact h
 have cP0 : ∀ w, MaxL w -> Calls Tryz.prog 22 #[.string s] w fun e w' => (∃ v, e = .returned v /\ w'.ownsRow w.heap.size 9 1 v 1 ([x].map strv)) /\ Below w.heap.size w w' := fun w hm => by
  have h := parts_row s hs w hm
  rw [hp] at h
  exact h
 have cN := hid cN0
 have cP := hid cP0
 clear cN0 cP0 hm
 go_enter Tryz.func11, Tryz.ntmps11
 go_upto_region 13 with (first
  | (go_at_call 21; (with_reducible refine (cN.out _).mono ?_); rintro e W1 ⟨⟨v, rfl, ho⟩, hb⟩; obtain ⟨A1, c1, rfl, hc1, hr1⟩ := row_srd (n := 3) (L := N) hNm ho; have HB1 := hid hb; have HN1 := hid hr1; clear ho hb hr1)
  | (go_at_call 22; (with_reducible refine (cP.out _ (HM.out.on HB1.out HM.out.lt)).mono ?_); rintro e W2 ⟨⟨v, rfl, ho⟩, hb⟩; obtain ⟨g2, c2, rfl, hg2, hl2⟩ := row_at7 ho (by decide); have x0 : W2.cell? ⟨g2, 0, none⟩ = some (.string (bs x)) := (ho.cellAt 0 (by decide)).trans rfl; obtain ⟨A2, c2', he2, hc2, hr2⟩ := row_srd (n := 1) (L := [x]) rfl ho; have HB2 := hid (tb HB1 hb); have HN2 := hid (Rd.keep HN1.out hb hb.size); obtain ⟨rfl, -, rfl⟩ := Value.slice.inj he2; have HL2 := hid hr2; clear ho hb hr2 he2)
  | (go_at_call 23; (with_reducible refine (cG.out _).mono ?_); rintro e W3 ⟨rfl, hb⟩; have HB3 := hid (tb HB2 hb); have HN3 := hid (Rd.keep HN2.out hb hb.size); have HL3 := hid (Rd.keep HL2.out hb hb.size); clear hb)
  | (go_at_call 28; (with_reducible refine (flex_any _ _ 1 [x] rfl hLs _ HL3.out).mono ?_); rintro e W5 ⟨hf, hb⟩; obtain ⟨v5, b5, he5, hf5⟩ := flex_form hf; cases he5; have HF5 := hid hf5; have HB5 := hid (tb HB3 hb); have HN5 := hid (Rd.keep HN3.out hb hb.size); clear hb hf hf5))
 rcases HF5.out with ⟨rfl, rfl⟩ | ⟨rfl, A5, c5, V5, rfl, hr5⟩
 ·go_wp2_with fail
  exact bodyPost_ret (v := .tuple #[_, .bool false]) (by simp [results, Tryz.results11, go_sem]) rfl (wide_nothing HB5.out)
 ·have HV5 := hid hr5
  have HLV := hid hr5.1
  clear hr5
  go_wp2_with (go_at_call 24; (with_reducible refine (given_ct _ _ 3 3 _ _ N V5 (by decide) (by decide) _ HN5.out HV5.out).mono ?_); rintro e W9 ⟨⟨v, rfl, ho⟩, hb⟩; have HW9 := hid (wide_given hNm (Nat.le_of_eq HLV.out.symm) HB5.out ho (tb HB5 hb)); clear ho hb)
  exact bodyPost_ret (v := .tuple #[_, .bool true]) (by simp [results, Tryz.results11, go_sem]) rfl HW9.out
theorem wide_m3_many (nm : ByteArray) (hnf : (nm.toList == [102, 108, 101, 120]) = true) (N : List Bs) (hNm : N.length = 3) (cNm : NamesC nm N) (s : ByteArray) (hs : s.size < 4294967281)(hnb : (nm.toList == [98, 111, 114, 100, 101, 114]) = false)  (L : List Bs) (n : Nat) (hp : partsP s.data.toList = L) (hn : L.length = n) (h2 : 2 <= n) (hLs : ∀ y ∈ L, y.length <= 4194304) (w : World) (hm : MaxL w) :
  Calls Tryz.prog 11 #[.string nm, .string s] w (WideR N w) := by
 have HM := hid hm
 have cN0 : ∀ w, Calls Tryz.prog 21 #[.string nm] w fun e w' => (∃ v, e = .returned v /\ w'.ownsRow w.heap.size 9 1 v 3 (N.map strv)) /\ Below w.heap.size w w' := fun w => by
  have h := cNm w
  rw [hNm] at h
  exact h
 have cP0 : ∀ w, MaxL w -> Calls Tryz.prog 22 #[.string s] w fun e w' => (∃ v, e = .returned v /\ w'.ownsRow w.heap.size 9 1 v n (L.map strv)) /\ Below w.heap.size w w' := fun w hm => by
  have h := parts_row s hs w hm
  rw [hp] at h
  rw [hn] at h
  exact h
 have cN := hid cN0
 have cP := hid cP0
 clear cN0 cP0 hm
 have n0 : ¬ (n : Int) = 0 := by omega
 have n1 : ¬ (n : Int) = 1 := by omega
 have m0 : ((n : Int) == 0) = false := bq n0
 have m1 : ((n : Int) == 1) = false := bq n1
 go_enter Tryz.func11, Tryz.ntmps11
 go_upto_region 13 with (first
  | (go_at_call 21; (with_reducible refine (cN.out _).mono ?_); rintro e W1 ⟨⟨v, rfl, ho⟩, hb⟩; obtain ⟨A1, c1, rfl, hc1, hr1⟩ := row_srd (n := 3) (L := N) hNm ho; have HB1 := hid hb; have HN1 := hid hr1; clear ho hb hr1)
  | (go_at_call 22; (with_reducible refine (cP.out _ (HM.out.on HB1.out HM.out.lt)).mono ?_); rintro e W2 ⟨⟨v, rfl, ho⟩, hb⟩; obtain ⟨A2, c2, rfl, hc2, hr2⟩ := row_srd (n := n) (L := L) hn ho; have HB2 := hid (tb HB1 hb); have HN2 := hid (Rd.keep HN1.out hb hb.size); have HL2 := hid hr2; clear ho hb hr2)
  | (go_at_call 28; (with_reducible refine (flex_any _ _ n L hn hLs _ HL2.out).mono ?_); rintro e W5 ⟨hf, hb⟩; obtain ⟨v5, b5, he5, hf5⟩ := flex_form hf; cases he5; have HF5 := hid hf5; have HB5 := hid (tb HB2 hb); have HN5 := hid (Rd.keep HN2.out hb hb.size); clear hb hf hf5))
 rcases HF5.out with ⟨rfl, rfl⟩ | ⟨rfl, A5, c5, V5, rfl, hr5⟩
 ·go_wp2_with fail
  exact bodyPost_ret (v := .tuple #[_, .bool false]) (by simp [results, Tryz.results11, go_sem]) rfl (wide_nothing HB5.out)
 ·have HV5 := hid hr5
  have HLV := hid hr5.1
  clear hr5
  go_wp2_with (go_at_call 24; (with_reducible refine (given_ct _ _ 3 3 _ _ N V5 (by decide) (by decide) _ HN5.out HV5.out).mono ?_); rintro e W9 ⟨⟨v, rfl, ho⟩, hb⟩; have HW9 := hid (wide_given hNm (Nat.le_of_eq HLV.out.symm) HB5.out ho (tb HB5 hb)); clear ho hb)
  exact bodyPost_ret (v := .tuple #[_, .bool true]) (by simp [results, Tryz.results11, go_sem]) rfl HW9.out
theorem wide_m2_one (nl : Bs) (hnl : nl.length <= 100) (N : List Bs) (hNN : [nl].map (· ++ widthT) ++ [nl].map (· ++ shadeT) = N) (hNm : N.length = 2) (cNm : NamesC (bs nl) N) (s : ByteArray) (hs : s.size < 4294967281) (hnb : ((bs nl).toList == [98, 111, 114, 100, 101, 114]) = false)  (x : Bs) (hp : partsP s.data.toList = [x]) (hg : globalP x = false) (hLs : ∀ y ∈ [x], y.length <= 4194304) (w : World) (hm : MaxL w) (hE : col.ErrsAt w) (hT : PowAt w) :
  Calls Tryz.prog 11 #[.string (bs nl), .string s] w (WideR N w) := by
 have cG0 : ∀ w, Calls Tryz.prog 23 #[.string (bs x)] w (rt w (.bool false)) := fun w => by
  have h := global_ct x (by have h1 := (parts_small s.data.toList).2; rw [hp] at h1; have h2 := h1 x (by simp); rw [<- Lib.size_eq] at h2; omega) w
  rw [hg] at h
  exact h
 have cG := hid cG0
 clear cG0
 have HE := hid hE
 have HT := hid hT
 clear hE hT
 have HM := hid hm
 have cN0 : ∀ w, Calls Tryz.prog 21 #[.string (bs nl)] w fun e w' => (∃ v, e = .returned v /\ w'.ownsRow w.heap.size 9 1 v 2 (N.map strv)) /\ Below w.heap.size w w' := fun w => by
  have h := cNm w
  rw [hNm] at h
  exact h
 have cP0 : ∀ w, MaxL w -> Calls Tryz.prog 22 #[.string s] w fun e w' => (∃ v, e = .returned v /\ w'.ownsRow w.heap.size 9 1 v 1 ([x].map strv)) /\ Below w.heap.size w w' := fun w hm => by
  have h := parts_row s hs w hm
  rw [hp] at h
  exact h
 have cN := hid cN0
 have cP := hid cP0
 clear cN0 cP0 hm
 go_enter Tryz.func11, Tryz.ntmps11
 go_wp2_with (first
  | (go_at_call 21; (with_reducible refine (cN.out _).mono ?_); rintro e W1 ⟨⟨v, rfl, ho⟩, hb⟩; obtain ⟨A1, c1, rfl, hc1, hr1⟩ := row_srd (n := 2) (L := N) hNm ho; have HB1 := hid hb; have HN1 := hid hr1; clear ho hb hr1)
  | (go_at_call 22; (with_reducible refine (cP.out _ (HM.out.on HB1.out HM.out.lt)).mono ?_); rintro e W2 ⟨⟨v, rfl, ho⟩, hb⟩; obtain ⟨g2, c2, rfl, hg2, hl2⟩ := row_at7 ho (by decide); have x0 : W2.cell? ⟨g2, 0, none⟩ = some (.string (bs x)) := (ho.cellAt 0 (by decide)).trans rfl; obtain ⟨A2, c2', he2, hc2, hr2⟩ := row_srd (n := 1) (L := [x]) rfl ho; have HB2 := hid (tb HB1 hb); have HN2 := hid (Rd.keep HN1.out hb hb.size); obtain ⟨rfl, -, rfl⟩ := Value.slice.inj he2; have HL2 := hid hr2; clear ho hb hr2 he2)
  | (go_at_call 23; (with_reducible refine (cG.out _).mono ?_); rintro e W3 ⟨rfl, hb⟩; have HB3 := hid (tb HB2 hb); have HN3 := hid (Rd.keep HN2.out hb hb.size); have HL3 := hid (Rd.keep HL2.out hb hb.size); clear hb)
  | (go_at_call 26; obtain ⟨A4, c4, hv4, -, hr4⟩ := row_srd (n := 1) (L := [nl]) rfl (row_lit W3 [nl] 1 rfl (by decide)); cases hv4; have hs4 : SRd (W3.alloc (.cells #[.string (bs nl)] 9)) (W3.alloc (.cells #[.string (bs nl)] 9)).heap.size (some ⟨W3.heap.size, 0, none⟩) 1 [nl] := hr4; have hba := ba W3 (.cells #[.string (bs nl)] 9); have HB4 := hid (HB3.out.alloc HB3.out.size (.cells #[.string (bs nl)] 9)); have HL4 := hid (Rd.keep HL3.out hba hba.size); clear hba; (with_reducible refine (bordered_any _ _ _ _ 1 1 [x] [nl] rfl (by decide) hLs (by decide) rfl (fun y hy => (List.mem_singleton.1 hy) ▸ hnl) _ HL4.out hs4 (HM.out.on HB4.out HM.out.lt) (HE.out.on HB4.out) (HT.out.on HB4.out)).mono ?_); rintro e W5 ⟨⟨v5, b5, D5, rfl, ho5, hd5⟩, hb⟩; have HO5 := hid (World.ownsRow.mono ho5 HB4.out.size); have HD5 := hid hd5; have HB5 := hid (tb HB4 hb); clear hb ho5 hd5 hr4 hs4))
 exact bodyPost_ret (v := .tuple #[v5, .bool b5]) (by simp [results, Tryz.results11, go_sem]) rfl (wide_bord hNN HO5.out HD5.out HB5.out)
theorem wide_m2_many (nl : Bs) (hnl : nl.length <= 100) (N : List Bs) (hNN : [nl].map (· ++ widthT) ++ [nl].map (· ++ shadeT) = N) (hNm : N.length = 2) (cNm : NamesC (bs nl) N) (s : ByteArray) (hs : s.size < 4294967281) (hnb : ((bs nl).toList == [98, 111, 114, 100, 101, 114]) = false)  (L : List Bs) (n : Nat) (hp : partsP s.data.toList = L) (hn : L.length = n) (h2 : 2 <= n) (hbig : n <= 4194304) (hLs : ∀ y ∈ L, y.length <= 4194304) (w : World) (hm : MaxL w) (hE : col.ErrsAt w) (hT : PowAt w) :
  Calls Tryz.prog 11 #[.string (bs nl), .string s] w (WideR N w) := by
 have HE := hid hE
 have HT := hid hT
 clear hE hT
 have HM := hid hm
 have cN0 : ∀ w, Calls Tryz.prog 21 #[.string (bs nl)] w fun e w' => (∃ v, e = .returned v /\ w'.ownsRow w.heap.size 9 1 v 2 (N.map strv)) /\ Below w.heap.size w w' := fun w => by
  have h := cNm w
  rw [hNm] at h
  exact h
 have cP0 : ∀ w, MaxL w -> Calls Tryz.prog 22 #[.string s] w fun e w' => (∃ v, e = .returned v /\ w'.ownsRow w.heap.size 9 1 v n (L.map strv)) /\ Below w.heap.size w w' := fun w hm => by
  have h := parts_row s hs w hm
  rw [hp] at h
  rw [hn] at h
  exact h
 have cN := hid cN0
 have cP := hid cP0
 clear cN0 cP0 hm
 have n0 : ¬ (n : Int) = 0 := by omega
 have n1 : ¬ (n : Int) = 1 := by omega
 have m0 : ((n : Int) == 0) = false := bq n0
 have m1 : ((n : Int) == 1) = false := bq n1
 go_enter Tryz.func11, Tryz.ntmps11
 go_wp2_with (first
  | (go_at_call 21; (with_reducible refine (cN.out _).mono ?_); rintro e W1 ⟨⟨v, rfl, ho⟩, hb⟩; obtain ⟨A1, c1, rfl, hc1, hr1⟩ := row_srd (n := 2) (L := N) hNm ho; have HB1 := hid hb; have HN1 := hid hr1; clear ho hb hr1)
  | (go_at_call 22; (with_reducible refine (cP.out _ (HM.out.on HB1.out HM.out.lt)).mono ?_); rintro e W2 ⟨⟨v, rfl, ho⟩, hb⟩; obtain ⟨A2, c2, rfl, hc2, hr2⟩ := row_srd (n := n) (L := L) hn ho; have HB2 := hid (tb HB1 hb); have HN2 := hid (Rd.keep HN1.out hb hb.size); have HL2 := hid hr2; clear ho hb hr2)
  | (go_at_call 26; obtain ⟨A4, c4, hv4, -, hr4⟩ := row_srd (n := 1) (L := [nl]) rfl (row_lit W2 [nl] 1 rfl (by decide)); cases hv4; have hs4 : SRd (W2.alloc (.cells #[.string (bs nl)] 9)) (W2.alloc (.cells #[.string (bs nl)] 9)).heap.size (some ⟨W2.heap.size, 0, none⟩) 1 [nl] := hr4; have hba := ba W2 (.cells #[.string (bs nl)] 9); have HB4 := hid (HB2.out.alloc HB2.out.size (.cells #[.string (bs nl)] 9)); have HL4 := hid (Rd.keep HL2.out hba hba.size); clear hba; (with_reducible refine (bordered_any _ _ _ _ n 1 L [nl] hn hbig hLs (by decide) rfl (fun y hy => (List.mem_singleton.1 hy) ▸ hnl) _ HL4.out hs4 (HM.out.on HB4.out HM.out.lt) (HE.out.on HB4.out) (HT.out.on HB4.out)).mono ?_); rintro e W5 ⟨⟨v5, b5, D5, rfl, ho5, hd5⟩, hb⟩; have HO5 := hid (World.ownsRow.mono ho5 HB4.out.size); have HD5 := hid hd5; have HB5 := hid (tb HB4 hb); clear hb ho5 hd5 hr4 hs4))
 exact bodyPost_ret (v := .tuple #[v5, .bool b5]) (by simp [results, Tryz.results11, go_sem]) rfl (wide_bord hNN HO5.out HD5.out HB5.out)
theorem wide_m8_one (nm : ByteArray) (hnb : (nm.toList == [98, 111, 114, 100, 101, 114]) = true) (N : List Bs) (hNN : bordS.map (· ++ widthT) ++ bordS.map (· ++ shadeT) = N) (hNm : N.length = 8) (cNm : NamesC nm N) (s : ByteArray) (hs : s.size < 4294967281)  (x : Bs) (hp : partsP s.data.toList = [x]) (hg : globalP x = false) (hLs : ∀ y ∈ [x], y.length <= 4194304) (w : World) (hm : MaxL w) (hE : col.ErrsAt w) (hT : PowAt w) :
  Calls Tryz.prog 11 #[.string nm, .string s] w (WideR N w) := by
 have cG0 : ∀ w, Calls Tryz.prog 23 #[.string (bs x)] w (rt w (.bool false)) := fun w => by
  have h := global_ct x (by have h1 := (parts_small s.data.toList).2; rw [hp] at h1; have h2 := h1 x (by simp); rw [<- Lib.size_eq] at h2; omega) w
  rw [hg] at h
  exact h
 have cG := hid cG0
 clear cG0
 have HE := hid hE
 have HT := hid hT
 clear hE hT
 have HM := hid hm
 have cN0 : ∀ w, Calls Tryz.prog 21 #[.string nm] w fun e w' => (∃ v, e = .returned v /\ w'.ownsRow w.heap.size 9 1 v 8 (N.map strv)) /\ Below w.heap.size w w' := fun w => by
  have h := cNm w
  rw [hNm] at h
  exact h
 have cP0 : ∀ w, MaxL w -> Calls Tryz.prog 22 #[.string s] w fun e w' => (∃ v, e = .returned v /\ w'.ownsRow w.heap.size 9 1 v 1 ([x].map strv)) /\ Below w.heap.size w w' := fun w hm => by
  have h := parts_row s hs w hm
  rw [hp] at h
  exact h
 have cN := hid cN0
 have cP := hid cP0
 clear cN0 cP0 hm
 have cS0 : ∀ w, Calls Tryz.prog 27 #[.string ⟨#[98, 111, 114, 100, 101, 114, 45]⟩, .string ⟨#[]⟩] w fun e w' => (∃ v, e = .returned v /\ w'.ownsRow w.heap.size 9 1 v 4 (bordS.map strv)) /\ Below w.heap.size w w' := fun w => by
  have h := sides_ct ⟨#[98, 111, 114, 100, 101, 114, 45]⟩ ⟨#[]⟩ (by decide) (by decide) w
  rw [eq_bordS] at h
  exact h
 have cS := hid cS0
 clear cS0
 go_enter Tryz.func11, Tryz.ntmps11
 go_wp2_with (first
  | (go_at_call 21; (with_reducible refine (cN.out _).mono ?_); rintro e W1 ⟨⟨v, rfl, ho⟩, hb⟩; obtain ⟨A1, c1, rfl, hc1, hr1⟩ := row_srd (n := 8) (L := N) hNm ho; have HB1 := hid hb; have HN1 := hid hr1; clear ho hb hr1)
  | (go_at_call 22; (with_reducible refine (cP.out _ (HM.out.on HB1.out HM.out.lt)).mono ?_); rintro e W2 ⟨⟨v, rfl, ho⟩, hb⟩; obtain ⟨g2, c2, rfl, hg2, hl2⟩ := row_at7 ho (by decide); have x0 : W2.cell? ⟨g2, 0, none⟩ = some (.string (bs x)) := (ho.cellAt 0 (by decide)).trans rfl; obtain ⟨A2, c2', he2, hc2, hr2⟩ := row_srd (n := 1) (L := [x]) rfl ho; have HB2 := hid (tb HB1 hb); have HN2 := hid (Rd.keep HN1.out hb hb.size); obtain ⟨rfl, -, rfl⟩ := Value.slice.inj he2; have HL2 := hid hr2; clear ho hb hr2 he2)
  | (go_at_call 23; (with_reducible refine (cG.out _).mono ?_); rintro e W3 ⟨rfl, hb⟩; have HB3 := hid (tb HB2 hb); have HN3 := hid (Rd.keep HN2.out hb hb.size); have HL3 := hid (Rd.keep HL2.out hb hb.size); clear hb)
  | (go_at_call 27; (with_reducible refine (cS.out _).mono ?_); rintro e W4 ⟨⟨v, rfl, ho⟩, hb⟩; obtain ⟨A4, c4, rfl, hc4, hr4⟩ := row_srd (n := 4) (L := bordS) rfl ho; have HB4 := hid (tb HB3 hb); have HS4 := hid hr4; have HL4 := hid (Rd.keep HL3.out hb hb.size); clear ho hb hr4)
  | (go_at_call 26; (with_reducible refine (bordered_any _ _ _ _ 1 4 [x] bordS rfl (by decide) hLs (by decide) rfl (by decide) _ HL4.out HS4.out (HM.out.on HB4.out HM.out.lt) (HE.out.on HB4.out) (HT.out.on HB4.out)).mono ?_); rintro e W5 ⟨⟨v5, b5, D5, rfl, ho5, hd5⟩, hb⟩; have HO5 := hid (World.ownsRow.mono ho5 HB4.out.size); have HD5 := hid hd5; have HB5 := hid (tb HB4 hb); clear hb ho5 hd5))
 exact bodyPost_ret (v := .tuple #[v5, .bool b5]) (by simp [results, Tryz.results11, go_sem]) rfl (wide_bord hNN HO5.out HD5.out HB5.out)
theorem wide_m8_many (nm : ByteArray) (hnb : (nm.toList == [98, 111, 114, 100, 101, 114]) = true) (N : List Bs) (hNN : bordS.map (· ++ widthT) ++ bordS.map (· ++ shadeT) = N) (hNm : N.length = 8) (cNm : NamesC nm N) (s : ByteArray) (hs : s.size < 4294967281)  (L : List Bs) (n : Nat) (hp : partsP s.data.toList = L) (hn : L.length = n) (h2 : 2 <= n) (hbig : n <= 4194304) (hLs : ∀ y ∈ L, y.length <= 4194304) (w : World) (hm : MaxL w) (hE : col.ErrsAt w) (hT : PowAt w) :
  Calls Tryz.prog 11 #[.string nm, .string s] w (WideR N w) := by
 have HE := hid hE
 have HT := hid hT
 clear hE hT
 have HM := hid hm
 have cN0 : ∀ w, Calls Tryz.prog 21 #[.string nm] w fun e w' => (∃ v, e = .returned v /\ w'.ownsRow w.heap.size 9 1 v 8 (N.map strv)) /\ Below w.heap.size w w' := fun w => by
  have h := cNm w
  rw [hNm] at h
  exact h
 have cP0 : ∀ w, MaxL w -> Calls Tryz.prog 22 #[.string s] w fun e w' => (∃ v, e = .returned v /\ w'.ownsRow w.heap.size 9 1 v n (L.map strv)) /\ Below w.heap.size w w' := fun w hm => by
  have h := parts_row s hs w hm
  rw [hp] at h
  rw [hn] at h
  exact h
 have cN := hid cN0
 have cP := hid cP0
 clear cN0 cP0 hm
 have n0 : ¬ (n : Int) = 0 := by omega
 have n1 : ¬ (n : Int) = 1 := by omega
 have m0 : ((n : Int) == 0) = false := bq n0
 have m1 : ((n : Int) == 1) = false := bq n1
 have cS0 : ∀ w, Calls Tryz.prog 27 #[.string ⟨#[98, 111, 114, 100, 101, 114, 45]⟩, .string ⟨#[]⟩] w fun e w' => (∃ v, e = .returned v /\ w'.ownsRow w.heap.size 9 1 v 4 (bordS.map strv)) /\ Below w.heap.size w w' := fun w => by
  have h := sides_ct ⟨#[98, 111, 114, 100, 101, 114, 45]⟩ ⟨#[]⟩ (by decide) (by decide) w
  rw [eq_bordS] at h
  exact h
 have cS := hid cS0
 clear cS0
 go_enter Tryz.func11, Tryz.ntmps11
 go_wp2_with (first
  | (go_at_call 21; (with_reducible refine (cN.out _).mono ?_); rintro e W1 ⟨⟨v, rfl, ho⟩, hb⟩; obtain ⟨A1, c1, rfl, hc1, hr1⟩ := row_srd (n := 8) (L := N) hNm ho; have HB1 := hid hb; have HN1 := hid hr1; clear ho hb hr1)
  | (go_at_call 22; (with_reducible refine (cP.out _ (HM.out.on HB1.out HM.out.lt)).mono ?_); rintro e W2 ⟨⟨v, rfl, ho⟩, hb⟩; obtain ⟨A2, c2, rfl, hc2, hr2⟩ := row_srd (n := n) (L := L) hn ho; have HB2 := hid (tb HB1 hb); have HN2 := hid (Rd.keep HN1.out hb hb.size); have HL2 := hid hr2; clear ho hb hr2)
  | (go_at_call 27; (with_reducible refine (cS.out _).mono ?_); rintro e W4 ⟨⟨v, rfl, ho⟩, hb⟩; obtain ⟨A4, c4, rfl, hc4, hr4⟩ := row_srd (n := 4) (L := bordS) rfl ho; have HB4 := hid (tb HB2 hb); have HS4 := hid hr4; have HL4 := hid (Rd.keep HL2.out hb hb.size); clear ho hb hr4)
  | (go_at_call 26; (with_reducible refine (bordered_any _ _ _ _ n 4 L bordS hn hbig hLs (by decide) rfl (by decide) _ HL4.out HS4.out (HM.out.on HB4.out HM.out.lt) (HE.out.on HB4.out) (HT.out.on HB4.out)).mono ?_); rintro e W5 ⟨⟨v5, b5, D5, rfl, ho5, hd5⟩, hb⟩; have HO5 := hid (World.ownsRow.mono ho5 HB4.out.size); have HD5 := hid hd5; have HB5 := hid (tb HB4 hb); clear hb ho5 hd5))
 exact bodyPost_ret (v := .tuple #[v5, .bool b5]) (by simp [results, Tryz.results11, go_sem]) rfl (wide_bord hNN HO5.out HD5.out HB5.out)
end prp
namespace prp
open Go.RowKit base tok dim
set_option linter.unusedSimpArgs false
def inhT : Bs := [32, 73, 110, 104, 101, 114, 105, 116, 32]
def inhV : Bs := [73, 110, 104, 101, 114, 105, 116]
theorem inh_parts : partsP inhT = [inhV] := by
 unfold partsP
 rw [<- cutN_eq 9 inhT (by decide)]
 rfl
theorem inh_global : globalP inhV = true := rfl
def GlobR (N : List Bs) (x : Bs) (w : World) : Ending -> World -> Prop := fun e w' => (∃ v, e = .returned (.tuple #[v, .bool true]) /\ w'.ownsRow w.heap.size 49 3 v N.length (flatR dcellsG (N.map fun a => (a, x)))) /\ Below w.heap.size w w'
theorem glob_wide {N : List Bs} {x : Bs} {m : Nat} {w w' : World} {e : Ending} (hN : N.length = m) (h : (∃ v, e = .returned (.tuple #[v, .bool true]) /\ w'.ownsRow w.heap.size 49 3 v m (flatR dcellsG (N.map fun a => (a, x)))) /\ Below w.heap.size w w') : WideR N w e w' := by
 obtain ⟨⟨v, rfl, ho⟩, hb⟩ := h
 refine ⟨⟨v, true, N.map fun a => (a, x), rfl, by rw [List.length_map, hN]; exact ho, ?_, fun h => by cases h⟩, hb⟩
 rw [List.map_map]
 have : (Prod.fst ∘ fun a : Bs => (a, x)) = id := rfl
 rw [this, List.map_id]
 exact List.Sublist.refl _
structure Short (nm : Bs) (N : List Bs) : Prop where
 wide : ∀ s : Bs, s.length <= 1048576 -> ∀ w, MaxL w -> col.ErrsAt w -> PowAt w -> Calls Tryz.prog 11 #[.string (bs nm), .string (bs s)] w (WideR N w)
 inh : ∀ w, MaxL w -> Calls Tryz.prog 11 #[.string (bs nm), .string (bs inhT)] w (GlobR N inhV w)
 one : 1 <= N.length /\ N.length <= 8
 num : ∀ x ∈ N, ∃ p, p < 59 /\ (rowP p).name = x /\ numF x p
 nodup : N.Nodup
 self : nm ∉ N
theorem glob_inh (nm : Bs) (N : List Bs) (h1 : 1 <= N.length) (h8 : N.length <= 8) (cNm : NamesC (bs nm) N) (w : World) (hm : MaxL w) : Calls Tryz.prog 11 #[.string (bs nm), .string (bs inhT)] w (GlobR N inhV w) :=
 wide_glob N.length (bs nm) N rfl cNm (bs inhT) (by decide) inhV inh_parts inh_global h1 h8 w hm
def noBord (nm : Bs) : Prop := ((bs nm).toList == [98, 111, 114, 100, 101, 114]) = false
def noFlex (nm : Bs) : Prop := ((bs nm).toList == [102, 108, 101, 120]) = false
theorem nb {nm : Bs} (h : nm ≠ [98, 111, 114, 100, 101, 114]) : noBord nm := by unfold noBord; rw [bs_toList, beq_eq_false_iff_ne]; exact h
theorem nf {nm : Bs} (h : nm ≠ [102, 108, 101, 120]) : noFlex nm := by unfold noFlex; rw [bs_toList, beq_eq_false_iff_ne]; exact h
theorem same_b {nm l : Bs} (h : nm = l) : ((bs nm).toList == l) = true := by rw [bs_toList, h]; exact beq_self_eq_true _
theorem bs_lt {s : Bs} (h : s.length <= 1048576) : (bs s).size < 4294967281 := by rw [bs_size]; omega
theorem nums {x : Bs} {p : Nat} (hp : p < 59) (h : (rowP p).name = x) (hn : (List.range p).all (fun j => decide ((rowP j).name ≠ x)) = true) : ∃ p, p < 59 /\ (rowP p).name = x /\ numF x p :=
 ⟨p, hp, h, fun j hj => by
  have := List.all_eq_true.1 hn j (List.mem_range.2 hj)
  simpa using this⟩
theorem wide_k1 (nm : Bs) (N : List Bs) (hN : N.length = 1) (cNm : NamesC (bs nm) N) (hnb : noBord nm) (hnf : noFlex nm) (s : Bs) (hs : s.length <= 1048576) (w : World) (hm : MaxL w) (hE : col.ErrsAt w) (hT : PowAt w) :
  Calls Tryz.prog 11 #[.string (bs nm), .string (bs s)] w (WideR N w) := by
 obtain ⟨hpn, hpl⟩ := parts_small s
 have hls : ∀ y ∈ partsP s, y.length <= 4194304 := fun y hy => by have := hpl y hy; omega
 have hsz := bs_lt hs
 clear hpl
 cases hL : partsP s with
 | nil => exact (wide_zero 1 (bs nm) N hN cNm (bs s) hsz [] 0 hL rfl (.inr rfl) w hm).mono fun e w' h => h.1 ▸ wide_nothing h.2
 | cons x R =>
  rw [hL] at hpn hls
  cases R with
  | nil =>
   cases hg : globalP x with
   | true => exact (wide_glob 1 (bs nm) N hN cNm (bs s) hsz x hL hg (by decide) (by decide) w hm).mono fun e w' h => glob_wide hN h
   | false => exact wide_m1_one (bs nm) N hN cNm (bs s) hsz hnb hnf x hL hg w hm
  | cons y R => exact wide_m1_many (bs nm) N hN cNm (bs s) hsz hnb hnf _ _ hL rfl (by simp only [List.length_cons]; omega) w hm
theorem wide_k4 (nm : Bs) (N : List Bs) (hN : N.length = 4) (cNm : NamesC (bs nm) N) (hnb : noBord nm) (hnf : noFlex nm) (s : Bs) (hs : s.length <= 1048576) (w : World) (hm : MaxL w) (hE : col.ErrsAt w) (hT : PowAt w) :
  Calls Tryz.prog 11 #[.string (bs nm), .string (bs s)] w (WideR N w) := by
 obtain ⟨hpn, hpl⟩ := parts_small s
 have hls : ∀ y ∈ partsP s, y.length <= 4194304 := fun y hy => by have := hpl y hy; omega
 have hsz := bs_lt hs
 clear hpl
 cases hL : partsP s with
 | nil => exact (wide_zero 4 (bs nm) N hN cNm (bs s) hsz [] 0 hL rfl (.inr rfl) w hm).mono fun e w' h => h.1 ▸ wide_nothing h.2
 | cons x R =>
  rw [hL] at hpn hls
  cases R with
  | nil =>
   cases hg : globalP x with
   | true => exact (wide_glob 4 (bs nm) N hN cNm (bs s) hsz x hL hg (by decide) (by decide) w hm).mono fun e w' h => glob_wide hN h
   | false => exact wide_m4_one (bs nm) N hN cNm (bs s) hsz hnb hnf x hL hg w hm
  | cons y R =>
   cases R with
   | nil => exact wide_m4_2 (bs nm) N hN cNm (bs s) hsz hnb hnf x y hL w hm
   | cons z R =>
    cases R with
    | nil => exact wide_m4_3 (bs nm) N hN cNm (bs s) hsz hnb hnf x y z hL w hm
    | cons u R =>
     cases R with
     | nil => exact wide_m4_4 (bs nm) N hN cNm (bs s) hsz hnb hnf x y z u hL w hm
     | cons v R => exact wide_m4_many (bs nm) N hN cNm (bs s) hsz hnb hnf _ _ hL rfl (by simp only [List.length_cons]; omega) w hm
theorem wide_k3 (nm : Bs) (N : List Bs) (hN : N.length = 3) (cNm : NamesC (bs nm) N) (hnf : ((bs nm).toList == [102, 108, 101, 120]) = true) (hnb : noBord nm) (s : Bs) (hs : s.length <= 1048576) (w : World) (hm : MaxL w) (hE : col.ErrsAt w) (hT : PowAt w) :
  Calls Tryz.prog 11 #[.string (bs nm), .string (bs s)] w (WideR N w) := by
 obtain ⟨hpn, hpl⟩ := parts_small s
 have hls : ∀ y ∈ partsP s, y.length <= 4194304 := fun y hy => by have := hpl y hy; omega
 have hsz := bs_lt hs
 clear hpl
 cases hL : partsP s with
 | nil => exact (wide_zero 3 (bs nm) N hN cNm (bs s) hsz [] 0 hL rfl (.inr rfl) w hm).mono fun e w' h => h.1 ▸ wide_nothing h.2
 | cons x R =>
  rw [hL] at hpn hls
  cases R with
  | nil =>
   cases hg : globalP x with
   | true => exact (wide_glob 3 (bs nm) N hN cNm (bs s) hsz x hL hg (by decide) (by decide) w hm).mono fun e w' h => glob_wide hN h
   | false => exact wide_m3_one (bs nm) hnf N hN cNm (bs s) hsz hnb x hL hg hls w hm
  | cons y R => exact wide_m3_many (bs nm) hnf N hN cNm (bs s) hsz hnb _ _ hL rfl (by simp only [List.length_cons]; omega) hls w hm
theorem wide_k2 (nm : Bs) (N : List Bs) (hN : N.length = 2) (cNm : NamesC (bs nm) N) (hl : nm.length <= 100) (hNN : [nm].map (· ++ widthT) ++ [nm].map (· ++ shadeT) = N) (hnb : noBord nm) (s : Bs) (hs : s.length <= 1048576) (w : World) (hm : MaxL w) (hE : col.ErrsAt w) (hT : PowAt w) :
  Calls Tryz.prog 11 #[.string (bs nm), .string (bs s)] w (WideR N w) := by
 obtain ⟨hpn, hpl⟩ := parts_small s
 have hls : ∀ y ∈ partsP s, y.length <= 4194304 := fun y hy => by have := hpl y hy; omega
 have hsz := bs_lt hs
 clear hpl
 cases hL : partsP s with
 | nil => exact (wide_zero 2 (bs nm) N hN cNm (bs s) hsz [] 0 hL rfl (.inr rfl) w hm).mono fun e w' h => h.1 ▸ wide_nothing h.2
 | cons x R =>
  rw [hL] at hpn hls
  cases R with
  | nil =>
   cases hg : globalP x with
   | true => exact (wide_glob 2 (bs nm) N hN cNm (bs s) hsz x hL hg (by decide) (by decide) w hm).mono fun e w' h => glob_wide hN h
   | false => exact wide_m2_one nm hl N hNN hN cNm (bs s) hsz hnb x hL hg hls w hm hE hT
  | cons y R => exact wide_m2_many nm hl N hNN hN cNm (bs s) hsz hnb _ _ hL rfl (by simp only [List.length_cons]; omega) (by simp only [List.length_cons] at hpn ⊢; omega) hls w hm hE hT
theorem wide_k8 (nm : Bs) (N : List Bs) (hN : N.length = 8) (cNm : NamesC (bs nm) N) (hnb : ((bs nm).toList == [98, 111, 114, 100, 101, 114]) = true) (hNN : bordS.map (· ++ widthT) ++ bordS.map (· ++ shadeT) = N) (s : Bs) (hs : s.length <= 1048576) (w : World) (hm : MaxL w) (hE : col.ErrsAt w) (hT : PowAt w) :
  Calls Tryz.prog 11 #[.string (bs nm), .string (bs s)] w (WideR N w) := by
 obtain ⟨hpn, hpl⟩ := parts_small s
 have hls : ∀ y ∈ partsP s, y.length <= 4194304 := fun y hy => by have := hpl y hy; omega
 have hsz := bs_lt hs
 clear hpl
 cases hL : partsP s with
 | nil => exact (wide_zero 8 (bs nm) N hN cNm (bs s) hsz [] 0 hL rfl (.inr rfl) w hm).mono fun e w' h => h.1 ▸ wide_nothing h.2
 | cons x R =>
  rw [hL] at hpn hls
  cases R with
  | nil =>
   cases hg : globalP x with
   | true => exact (wide_glob 8 (bs nm) N hN cNm (bs s) hsz x hL hg (by decide) (by decide) w hm).mono fun e w' h => glob_wide hN h
   | false => exact wide_m8_one (bs nm) hnb N hNN hN cNm (bs s) hsz x hL hg hls w hm hE hT
  | cons y R => exact wide_m8_many (bs nm) hnb N hNN hN cNm (bs s) hsz _ _ hL rfl (by simp only [List.length_cons]; omega) (by simp only [List.length_cons] at hpn ⊢; omega) hls w hm hE hT
theorem sh_margin : Short [109, 97, 114, 103, 105, 110] [[109, 97, 114, 103, 105, 110, 45, 116, 111, 112], [109, 97, 114, 103, 105, 110, 45, 114, 105, 103, 104, 116], [109, 97, 114, 103, 105, 110, 45, 98, 111, 116, 116, 111, 109], [109, 97, 114, 103, 105, 110, 45, 108, 101, 102, 116]] where
 wide := wide_k4 _ _ rfl n_margin (nb (by decide)) (nf (by decide))
 inh := glob_inh _ _ (by decide) (by decide) n_margin
 one := by decide
 num := fun x hx => by
  simp only [List.mem_cons, List.mem_nil_iff, or_false] at hx
  rcases hx with rfl | rfl | rfl | rfl
  ·exact nums (p := 11) (by decide) rfl (by decide)
  ·exact nums (p := 12) (by decide) rfl (by decide)
  ·exact nums (p := 13) (by decide) rfl (by decide)
  ·exact nums (p := 14) (by decide) rfl (by decide)
 nodup := by decide
 self := by decide
theorem sh_padding : Short [112, 97, 100, 100, 105, 110, 103] [[112, 97, 100, 100, 105, 110, 103, 45, 116, 111, 112], [112, 97, 100, 100, 105, 110, 103, 45, 114, 105, 103, 104, 116], [112, 97, 100, 100, 105, 110, 103, 45, 98, 111, 116, 116, 111, 109], [112, 97, 100, 100, 105, 110, 103, 45, 108, 101, 102, 116]] where
 wide := wide_k4 _ _ rfl n_padding (nb (by decide)) (nf (by decide))
 inh := glob_inh _ _ (by decide) (by decide) n_padding
 one := by decide
 num := fun x hx => by
  simp only [List.mem_cons, List.mem_nil_iff, or_false] at hx
  rcases hx with rfl | rfl | rfl | rfl
  ·exact nums (p := 15) (by decide) rfl (by decide)
  ·exact nums (p := 16) (by decide) rfl (by decide)
  ·exact nums (p := 17) (by decide) rfl (by decide)
  ·exact nums (p := 18) (by decide) rfl (by decide)
 nodup := by decide
 self := by decide
theorem sh_inset : Short [105, 110, 115, 101, 116] [[116, 111, 112], [114, 105, 103, 104, 116], [98, 111, 116, 116, 111, 109], [108, 101, 102, 116]] where
 wide := wide_k4 _ _ rfl n_inset (nb (by decide)) (nf (by decide))
 inh := glob_inh _ _ (by decide) (by decide) n_inset
 one := by decide
 num := fun x hx => by
  simp only [List.mem_cons, List.mem_nil_iff, or_false] at hx
  rcases hx with rfl | rfl | rfl | rfl
  ·exact nums (p := 27) (by decide) rfl (by decide)
  ·exact nums (p := 28) (by decide) rfl (by decide)
  ·exact nums (p := 29) (by decide) rfl (by decide)
  ·exact nums (p := 30) (by decide) rfl (by decide)
 nodup := by decide
 self := by decide
theorem sh_border_width : Short [98, 111, 114, 100, 101, 114, 45, 119, 105, 100, 116, 104] [[98, 111, 114, 100, 101, 114, 45, 116, 111, 112, 45, 119, 105, 100, 116, 104], [98, 111, 114, 100, 101, 114, 45, 114, 105, 103, 104, 116, 45, 119, 105, 100, 116, 104], [98, 111, 114, 100, 101, 114, 45, 98, 111, 116, 116, 111, 109, 45, 119, 105, 100, 116, 104], [98, 111, 114, 100, 101, 114, 45, 108, 101, 102, 116, 45, 119, 105, 100, 116, 104]] where
 wide := wide_k4 _ _ rfl n_border_width (nb (by decide)) (nf (by decide))
 inh := glob_inh _ _ (by decide) (by decide) n_border_width
 one := by decide
 num := fun x hx => by
  simp only [List.mem_cons, List.mem_nil_iff, or_false] at hx
  rcases hx with rfl | rfl | rfl | rfl
  ·exact nums (p := 19) (by decide) rfl (by decide)
  ·exact nums (p := 20) (by decide) rfl (by decide)
  ·exact nums (p := 21) (by decide) rfl (by decide)
  ·exact nums (p := 22) (by decide) rfl (by decide)
 nodup := by decide
 self := by decide
theorem sh_border_color : Short [98, 111, 114, 100, 101, 114, 45, 99, 111, 108, 111, 114] [[98, 111, 114, 100, 101, 114, 45, 116, 111, 112, 45, 99, 111, 108, 111, 114], [98, 111, 114, 100, 101, 114, 45, 114, 105, 103, 104, 116, 45, 99, 111, 108, 111, 114], [98, 111, 114, 100, 101, 114, 45, 98, 111, 116, 116, 111, 109, 45, 99, 111, 108, 111, 114], [98, 111, 114, 100, 101, 114, 45, 108, 101, 102, 116, 45, 99, 111, 108, 111, 114]] where
 wide := wide_k4 _ _ rfl n_border_color (nb (by decide)) (nf (by decide))
 inh := glob_inh _ _ (by decide) (by decide) n_border_color
 one := by decide
 num := fun x hx => by
  simp only [List.mem_cons, List.mem_nil_iff, or_false] at hx
  rcases hx with rfl | rfl | rfl | rfl
  ·exact nums (p := 23) (by decide) rfl (by decide)
  ·exact nums (p := 24) (by decide) rfl (by decide)
  ·exact nums (p := 25) (by decide) rfl (by decide)
  ·exact nums (p := 26) (by decide) rfl (by decide)
 nodup := by decide
 self := by decide
theorem sh_border : Short [98, 111, 114, 100, 101, 114] [[98, 111, 114, 100, 101, 114, 45, 116, 111, 112, 45, 119, 105, 100, 116, 104], [98, 111, 114, 100, 101, 114, 45, 114, 105, 103, 104, 116, 45, 119, 105, 100, 116, 104], [98, 111, 114, 100, 101, 114, 45, 98, 111, 116, 116, 111, 109, 45, 119, 105, 100, 116, 104], [98, 111, 114, 100, 101, 114, 45, 108, 101, 102, 116, 45, 119, 105, 100, 116, 104], [98, 111, 114, 100, 101, 114, 45, 116, 111, 112, 45, 99, 111, 108, 111, 114], [98, 111, 114, 100, 101, 114, 45, 114, 105, 103, 104, 116, 45, 99, 111, 108, 111, 114], [98, 111, 114, 100, 101, 114, 45, 98, 111, 116, 116, 111, 109, 45, 99, 111, 108, 111, 114], [98, 111, 114, 100, 101, 114, 45, 108, 101, 102, 116, 45, 99, 111, 108, 111, 114]] where
 wide := wide_k8 _ _ rfl n_border (same_b rfl) rfl
 inh := glob_inh _ _ (by decide) (by decide) n_border
 one := by decide
 num := fun x hx => by
  simp only [List.mem_cons, List.mem_nil_iff, or_false] at hx
  rcases hx with rfl | rfl | rfl | rfl | rfl | rfl | rfl | rfl
  ·exact nums (p := 19) (by decide) rfl (by decide)
  ·exact nums (p := 20) (by decide) rfl (by decide)
  ·exact nums (p := 21) (by decide) rfl (by decide)
  ·exact nums (p := 22) (by decide) rfl (by decide)
  ·exact nums (p := 23) (by decide) rfl (by decide)
  ·exact nums (p := 24) (by decide) rfl (by decide)
  ·exact nums (p := 25) (by decide) rfl (by decide)
  ·exact nums (p := 26) (by decide) rfl (by decide)
 nodup := by decide
 self := by decide
theorem sh_border_top : Short [98, 111, 114, 100, 101, 114, 45, 116, 111, 112] [[98, 111, 114, 100, 101, 114, 45, 116, 111, 112, 45, 119, 105, 100, 116, 104], [98, 111, 114, 100, 101, 114, 45, 116, 111, 112, 45, 99, 111, 108, 111, 114]] where
 wide := wide_k2 _ _ rfl n_border_top (by decide) rfl (nb (by decide))
 inh := glob_inh _ _ (by decide) (by decide) n_border_top
 one := by decide
 num := fun x hx => by
  simp only [List.mem_cons, List.mem_nil_iff, or_false] at hx
  rcases hx with rfl | rfl
  ·exact nums (p := 19) (by decide) rfl (by decide)
  ·exact nums (p := 23) (by decide) rfl (by decide)
 nodup := by decide
 self := by decide
theorem sh_border_right : Short [98, 111, 114, 100, 101, 114, 45, 114, 105, 103, 104, 116] [[98, 111, 114, 100, 101, 114, 45, 114, 105, 103, 104, 116, 45, 119, 105, 100, 116, 104], [98, 111, 114, 100, 101, 114, 45, 114, 105, 103, 104, 116, 45, 99, 111, 108, 111, 114]] where
 wide := wide_k2 _ _ rfl n_border_right (by decide) rfl (nb (by decide))
 inh := glob_inh _ _ (by decide) (by decide) n_border_right
 one := by decide
 num := fun x hx => by
  simp only [List.mem_cons, List.mem_nil_iff, or_false] at hx
  rcases hx with rfl | rfl
  ·exact nums (p := 20) (by decide) rfl (by decide)
  ·exact nums (p := 24) (by decide) rfl (by decide)
 nodup := by decide
 self := by decide
theorem sh_border_bottom : Short [98, 111, 114, 100, 101, 114, 45, 98, 111, 116, 116, 111, 109] [[98, 111, 114, 100, 101, 114, 45, 98, 111, 116, 116, 111, 109, 45, 119, 105, 100, 116, 104], [98, 111, 114, 100, 101, 114, 45, 98, 111, 116, 116, 111, 109, 45, 99, 111, 108, 111, 114]] where
 wide := wide_k2 _ _ rfl n_border_bottom (by decide) rfl (nb (by decide))
 inh := glob_inh _ _ (by decide) (by decide) n_border_bottom
 one := by decide
 num := fun x hx => by
  simp only [List.mem_cons, List.mem_nil_iff, or_false] at hx
  rcases hx with rfl | rfl
  ·exact nums (p := 21) (by decide) rfl (by decide)
  ·exact nums (p := 25) (by decide) rfl (by decide)
 nodup := by decide
 self := by decide
theorem sh_border_left : Short [98, 111, 114, 100, 101, 114, 45, 108, 101, 102, 116] [[98, 111, 114, 100, 101, 114, 45, 108, 101, 102, 116, 45, 119, 105, 100, 116, 104], [98, 111, 114, 100, 101, 114, 45, 108, 101, 102, 116, 45, 99, 111, 108, 111, 114]] where
 wide := wide_k2 _ _ rfl n_border_left (by decide) rfl (nb (by decide))
 inh := glob_inh _ _ (by decide) (by decide) n_border_left
 one := by decide
 num := fun x hx => by
  simp only [List.mem_cons, List.mem_nil_iff, or_false] at hx
  rcases hx with rfl | rfl
  ·exact nums (p := 22) (by decide) rfl (by decide)
  ·exact nums (p := 26) (by decide) rfl (by decide)
 nodup := by decide
 self := by decide
theorem sh_background : Short [98, 97, 99, 107, 103, 114, 111, 117, 110, 100] [[98, 97, 99, 107, 103, 114, 111, 117, 110, 100, 45, 99, 111, 108, 111, 114]] where
 wide := wide_k1 _ _ rfl n_background (nb (by decide)) (nf (by decide))
 inh := glob_inh _ _ (by decide) (by decide) n_background
 one := by decide
 num := fun x hx => by
  simp only [List.mem_cons, List.mem_nil_iff, or_false] at hx
  subst hx
  ·exact nums (p := 36) (by decide) rfl (by decide)
 nodup := by decide
 self := by decide
theorem sh_flex : Short [102, 108, 101, 120] [[102, 108, 101, 120, 45, 103, 114, 111, 119], [102, 108, 101, 120, 45, 115, 104, 114, 105, 110, 107], [102, 108, 101, 120, 45, 98, 97, 115, 105, 115]] where
 wide := wide_k3 _ _ rfl n_flex (same_b rfl) (nb (by decide))
 inh := glob_inh _ _ (by decide) (by decide) n_flex
 one := by decide
 num := fun x hx => by
  simp only [List.mem_cons, List.mem_nil_iff, or_false] at hx
  rcases hx with rfl | rfl | rfl
  ·exact nums (p := 50) (by decide) rfl (by decide)
  ·exact nums (p := 51) (by decide) rfl (by decide)
  ·exact nums (p := 52) (by decide) rfl (by decide)
 nodup := by decide
 self := by decide
theorem sh_list_style : Short [108, 105, 115, 116, 45, 115, 116, 121, 108, 101] [[108, 105, 115, 116, 45, 115, 116, 121, 108, 101, 45, 116, 121, 112, 101]] where
 wide := wide_k1 _ _ rfl n_list_style (nb (by decide)) (nf (by decide))
 inh := glob_inh _ _ (by decide) (by decide) n_list_style
 one := by decide
 num := fun x hx => by
  simp only [List.mem_cons, List.mem_nil_iff, or_false] at hx
  subst hx
  ·exact nums (p := 57) (by decide) rfl (by decide)
 nodup := by decide
 self := by decide
def shortL : List Bs := [[109, 97, 114, 103, 105, 110], [112, 97, 100, 100, 105, 110, 103], [105, 110, 115, 101, 116], [98, 111, 114, 100, 101, 114, 45, 119, 105, 100, 116, 104], [98, 111, 114, 100, 101, 114, 45, 99, 111, 108, 111, 114], [98, 111, 114, 100, 101, 114], [98, 111, 114, 100, 101, 114, 45, 116, 111, 112], [98, 111, 114, 100, 101, 114, 45, 114, 105, 103, 104, 116], [98, 111, 114, 100, 101, 114, 45, 98, 111, 116, 116, 111, 109], [98, 111, 114, 100, 101, 114, 45, 108, 101, 102, 116], [98, 97, 99, 107, 103, 114, 111, 117, 110, 100], [102, 108, 101, 120], [108, 105, 115, 116, 45, 115, 116, 121, 108, 101]]
theorem short_all (r : Nat) (h : r < 13) : ∃ nm N, shortL[r]? = some nm /\ Short nm N := by
 match r, h with
 | 0, _ => exact ⟨_, _, rfl, sh_margin⟩
 | 1, _ => exact ⟨_, _, rfl, sh_padding⟩
 | 2, _ => exact ⟨_, _, rfl, sh_inset⟩
 | 3, _ => exact ⟨_, _, rfl, sh_border_width⟩
 | 4, _ => exact ⟨_, _, rfl, sh_border_color⟩
 | 5, _ => exact ⟨_, _, rfl, sh_border⟩
 | 6, _ => exact ⟨_, _, rfl, sh_border_top⟩
 | 7, _ => exact ⟨_, _, rfl, sh_border_right⟩
 | 8, _ => exact ⟨_, _, rfl, sh_border_bottom⟩
 | 9, _ => exact ⟨_, _, rfl, sh_border_left⟩
 | 10, _ => exact ⟨_, _, rfl, sh_background⟩
 | 11, _ => exact ⟨_, _, rfl, sh_flex⟩
 | 12, _ => exact ⟨_, _, rfl, sh_list_style⟩
end prp
end Go.Proofs.YthgffoanecknoaaGreatDoor
