/- Contracts and plain law, a bundle. -/
import Derived.Lib.Hide
import Derived.Test.YthgffoanecknoaaGreatDoorI7
import Derived.Test.YthgffoanecknoaaGreatDoorH1
set_option linter.unusedVariables false
set_option maxRecDepth 100000
set_option maxHeartbeats 16000000
open Go.Lib (hid)
namespace Go.Proofs.YthgffoanecknoaaGreatDoor
namespace doc
open Go.RowKit base tok cnt
set_option linter.unusedSimpArgs false
theorem paths_none (D : List Nd) (L : List Sy) (A B : Option Addr) (cap capL : Nat) (q : Bool) (z : Int) (hz : I64 z) (w : World) (hD : DocAt w w.heap.size A cap D) (hL : StyAt w w.heap.size B capL L) (hM : MaxL w) (hT : LibAt w) (hno : ¬ (fitsF D L = 0 /\ 0 <= z /\ z < D.length)) :
  Calls Tryz.prog 3 #[dcV A D.length cap q, .slice B L.length capL, .int .i64 z] w fun e w' => e = .returned (.bool true) /\ Below w.heap.size w w' := by
 have hK0 := hid (BSt.beg (w := w) (n := D.length) (A := A) (cap := cap) (q := q))
 have c4 := hid (fun W' (h : Below w.heap.size w W') => fourth_ct W' (hT.on h).pow)
 obtain ⟨E, hE, cP⟩ : ∃ E : Int, E ≠ 0 /\ ∀ W', Below w.heap.size w W' -> Calls Tryz.prog 7 #[dcV A D.length cap q, .slice B L.length capL, .int .i64 z] W' fun e w' => e = .returned (.tuple #[.slice none 0 0, .int .i64 E]) /\ Below W'.heap.size W' w' := by
  by_cases hf : fitsF D L = 0
  ·refine ⟨5, by decide, fun W' h => (Path_ct D L A B cap capL q z hz W' (hD.keep h h.size) (hL.keep h h.size) (hM.on h hM.lt) (hT.on h)).mono fun e w' ⟨hor, hb⟩ => ⟨?_, hb⟩⟩
   rcases hor with ⟨g, _⟩ | ⟨_, _, g⟩ | ⟨_, g, _⟩
   ·exact absurd hf g
   ·exact g
   ·exact absurd ⟨hf, g⟩ hno
  ·refine ⟨fitsF D L, hf, fun W' h => (Path_ct D L A B cap capL q z hz W' (hD.keep h h.size) (hL.keep h h.size) (hM.on h hM.lt) (hT.on h)).mono fun e w' ⟨hor, hb⟩ => ⟨?_, hb⟩⟩
   rcases hor with ⟨_, g⟩ | ⟨g, _⟩ | ⟨g, _⟩
   ·exact g
   ·exact absurd g hf
   ·exact absurd g hf
 have cN := hid (fun W' (h : Below w.heap.size w W') => (Numbers_ct D L A B cap capL q W' (hD.keep h h.size) (hL.keep h h.size) (hM.on h hM.lt) (hT.on h)).mono (R' := fun e w' => (∃ x y, e = .returned (.tuple #[x, .int .i64 y])) /\ Below W'.heap.size W' w') fun e w' ⟨hor, hb⟩ => ⟨by
  rcases hor with ⟨_, rfl⟩ | ⟨_, b, rfl, _⟩
  ·exact ⟨_, _, rfl⟩
  ·exact ⟨_, _, rfl⟩, hb⟩)
 have hE' : (E != 0) = true := by simpa using hE
 replace cP := hid cP
 clear hD hL hM hT hno hE
 go_enter Tryz.func3, Tryz.ntmps3
 go_wp2_with (first
  | (go_at_call 6; refine (c4.out _ hK0.out.2).mono ?_; rintro e W1 ⟨rfl, hb1⟩; have HS1 := hid (hK0.out.on hb1); have b1 := HS1.out.1.cell; clear hb1)
  | (go_at_call 7; refine (cP.out _ HS1.out.2).mono ?_; rintro e W2 ⟨rfl, hb1⟩; have HS2 := hid (HS1.out.on hb1); have b2 := HS2.out.1.cell; clear hb1)
  | (go_at_call 8; refine (cN.out _ HS2.out.2).mono ?_; rintro e W3 ⟨⟨x, y, rfl⟩, hb1⟩; have HS3 := hid (HS2.out.on hb1); have b3 := HS3.out.1.cell; clear hb1))
 go_ret
 exact ⟨rfl, HS3.out.2⟩
theorem ints_n {w : World} {base n : Nat} {v : Value} {l : List Int} (hn : l.length = n) (h : w.ownsRow base 3 1 v n (ivs l)) : ∃ A cap, v = .slice A n cap /\ Rd 1 icells w w.heap.size A n l := by
 subst hn
 obtain ⟨A, cap, hv, _, hr⟩ := ints_rd h
 exact ⟨A, cap, hv, hr⟩
theorem paths_node (D : List Nd) (L : List Sy) (A B : Option Addr) (cap capL : Nat) (q : Bool) (j : Nat) (hj : j < D.length) (w : World) (hD : DocAt w w.heap.size A cap D) (hL : StyAt w w.heap.size B capL L) (hM : MaxL w) (hT : LibAt w) (hf : fitsF D L = 0) :
  Calls Tryz.prog 3 #[dcV A D.length cap q, .slice B L.length capL, .int .i64 (j : Int)] w fun e w' => e = .returned (.bool true) /\ Below w.heap.size w w' := by
 obtain ⟨hG, hlen⟩ := fits_ok hf
 have hcp := hD.len
 unfold maxLen at hcp
 have hcl := hL.len
 unfold maxLen at hcl
 have hn2 := hG.len
 have cPz := hid (fun (z : Int) (hz : 0 <= z /\ z < D.length) W' (h : Below w.heap.size w W') => (Path_ct D L A B cap capL q z (by unfold I64; omega) W' (hD.keep h h.size) (hL.keep h h.size) (hM.on h hM.lt) (hT.on h)).mono (R' := fun e w' => (∃ v, e = .returned (.tuple #[v, .int .i64 0]) /\ w'.ownsRow W'.heap.size 3 1 v (pathG D L (numO D L) z).reverse.length (ivs (pathG D L (numO D L) z).reverse)) /\ Below W'.heap.size W' w') fun e w' ⟨hor, hb⟩ => ⟨by
  rcases hor with ⟨g, _⟩ | ⟨_, g, _⟩ | ⟨_, _, g⟩
  ·exact absurd hf g
  ·exact absurd hz g
  ·exact g, hb⟩)
 have cNz := hid (fun W' (h : Below w.heap.size w W') => (Numbers_ct D L A B cap capL q W' (hD.keep h h.size) (hL.keep h h.size) (hM.on h hM.lt) (hT.on h)).mono (R' := fun e w' => (∃ b, e = .returned (.tuple #[.slice (some ⟨b, 0, none⟩) D.length D.length, .int .i64 0]) /\ W'.heap.size <= b /\ Blk w' b 3 (intsC D.length (numO D L))) /\ Below W'.heap.size W' w') fun e w' ⟨hor, hb⟩ => ⟨by
  rcases hor with ⟨g, _⟩ | ⟨_, g⟩
  ·exact absurd hf g
  ·exact g, hb⟩)
 have c4 := hid (fun W' (h : Below w.heap.size w W') => fourth_ct W' (hT.on h).pow)
 have hK0 := hid (BSt.beg (w := w) (n := D.length) (A := A) (cap := cap) (q := q))
 have hrow := hD.row
 have hsty := hL.row
 obtain ⟨b, off, x, rfl, hbb, hx, g0, g1, g2, g3, g4, g5⟩ := ndRd hrow hj
 obtain ⟨b2, off2, s, rfl, hbb2, hs, k0, k1⟩ := syRd hsty (by rw [hlen]; exact hj)
 have hstep := path_step (L := L) (K := numO D L) hG hj
 have hpar := hG.par j
 rw [parAt_at hx] at hstep hpar
 have hit : itemF D L j = (decide (x.kind = 2) && decide ((s 0).1 = 1 /\ (s 0).2 = 8)) := by unfold itemF; rw [kindAt_at hx, dispAt_at hs]
 have hz := fun h => num_zero (D := D) (L := L) (j := j) h
 have hPl := pathG_len (D := D) (L := L) (K := numO D L) (n := j)
 obtain ⟨O, hO⟩ : ∃ O, numO D L = O := ⟨_, rfl⟩
 rw [hO] at cPz cNz hstep hz hPl
 have HCells := hid (fun W' (h : Below w.heap.size w W') => (show W'.cell? ⟨b, off + j * 6, none⟩ = some (.int .i64 x.kind) /\ W'.cell? ⟨b, off + j * 6 + 4, none⟩ = some (.int .i64 x.parent) /\ W'.cell? ⟨b2, off2 + j * 118, none⟩ = some (.int .i64 (s 0).1) /\ W'.cell? ⟨b2, off2 + j * 118 + 1, none⟩ = some (.int .i64 (s 0).2) from
  ⟨(h.cell (p := ⟨b, _, none⟩) hbb).trans g0, (h.cell (p := ⟨b, _, none⟩) hbb).trans g4, (h.cell (p := ⟨b2, _, none⟩) hbb2).trans k0, (h.cell (p := ⟨b2, _, none⟩) hbb2).trans k1⟩))
 rw [hlen] at cPz cNz hcl ⊢
 obtain ⟨n, hn⟩ : ∃ n, D.length = n := ⟨_, rfl⟩
 rw [hn] at cPz cNz hcp hcl hn2 hK0 hj hpar hPl ⊢
 have cP := hid (cPz.out j (by omega))
 have cN := hid cNz.out
 obtain ⟨U, hU⟩ : ∃ U, (pathG D L O x.parent).reverse = U := ⟨_, rfl⟩
 obtain ⟨P, hP⟩ : ∃ P, (pathG D L O j).reverse = P := ⟨_, rfl⟩
 obtain ⟨u, hu⟩ : ∃ u, U.length = u := ⟨_, rfl⟩
 obtain ⟨p, hp⟩ : ∃ p, P.length = p := ⟨_, rfl⟩
 have hpl : p <= 201 := by rw [<- hp, <- hP, List.length_reverse]; omega
 have hPU : P = U ++ if itemF D L j = true then [O j] else [] := by
  rw [<- hP, hstep, List.reverse_append, hU]
  by_cases h : itemF D L j = true
  ·rw [if_pos h]; rfl
  ·rw [if_neg h]; rfl
 have hup : u <= p /\ p <= u + 1 := by
  have := congrArg List.length hPU
  rw [List.length_append, hp, hu] at this
  split at this <;> simp at this <;> omega
 rw [hP, hp] at cP
 have heq := fun w => eq_val (s 0).1 (s 0).2 1 8 w
 have hj' : (j : Int) < (n : Int) := by omega
 have hj0 : ¬ (j : Int) < 0 := by omega
 have hj1 : ¬ (n : Int) <= (j : Int) := by omega
 obtain ⟨d, hd⟩ : ∃ d, decide ((s 0).1 = 1 /\ (s 0).2 = 8) = d := ⟨_, rfl⟩
 rw [hd] at heq hit
 have HPU := hid hPU
 have HZ := hid hz
 have HU := hid hu
 have HP := hid hp
 obtain ⟨i0, hi, hz0, hz1, hz2⟩ := info_parts infoI
 have Hi := hid hi
 have Hz0 := hid hz0
 have Hz1 := hid hz1
 have Hz2 := hid hz2
 clear hD hL hM hT hf hG hrow hsty hx hs hstep hlen hPU hz hi hz0 hz1 hz2 hO g0 g1 g2 g3 g4 g5 k0 k1 hp hP hd hn
 by_cases hpa : 0 <= x.parent
 ·have hpz : 0 <= x.parent /\ x.parent < (n : Int) := by omega
  have hpa' : (0 : Int) <= x.parent := hpa
  by_cases hk : x.kind = 2
  ·have hk' : (x.kind == 2) = true := by simp [hk]
   rw [decide_eq_true hk, Bool.true_and] at hit
   clear hpar hk
   cases d with
   | true =>
    go_enter Tryz.func3, Tryz.ntmps3
    go_wp2_with (first
     | (go_at_call 6; refine (c4.out _ hK0.out.2).mono ?_; rintro e W1 ⟨rfl, hb1⟩; have HS1 := hid (hK0.out.on hb1); have b1 := HS1.out.1.cell; clear hb1)
     | (go_at_call 7; refine (cP.out _ HS1.out.2).mono ?_; rintro e W2 ⟨⟨v, rfl, ho⟩, hb1⟩; have HV2 := hid ho; have HS2 := hid (HS1.out.on hb1); have b2 := HS2.out.1.cell; clear hb1 ho)
     | (go_at_call 8; refine (cN.out _ HS2.out.2).mono ?_; rintro e W3 ⟨⟨c, rfl, hcb, hB⟩, hb1⟩; have HV3 := hid (row_on HV2.out hb1); have HS3 := hid (HS2.out.on hb1); obtain ⟨A1, c1, rfl, r1⟩ := ints_n HP.out HV3.out; have R1 := hid r1; have b3 := HS3.out.1.cell; obtain ⟨m0, m4, k0, k1⟩ := HCells.out _ HS3.out.2; have hcl3 := hB.lt; have kn := (hB.cell j).trans (intsC_at O hj); clear hb1 hB hcb r1 HV2))
    have cP2 := hid (cPz.out x.parent hpz W3.drew HS3.out.2.drew)
    rw [hU, hu] at cP2
    have ZR : W3.heap.size <= W3.heap.size := Nat.le_refl _
    have hl3 : w.heap.size < W3.heap.size := HS3.out.1.lt
    have hbb3 : b < W3.heap.size := Nat.lt_trans hbb hl3
    go_region_held3 (fun w' => (∀ b o, b < W3.heap.size -> w'.cell? ⟨b, o, none⟩ = W3.cell? ⟨b, o, none⟩) /\ Below W3.heap.size W3 w')
     (first | exact As.beg | assumption | exact As.on hb3 (by assumption) ZR)
     ((go_at_call 7; refine cP2.out.mono ?_; rintro e W4 ⟨⟨v2, rfl, ho⟩, hb3⟩))
    all_goals
     rename_i hHeld
     have HB4 := hid hHeld.2
     have HV4 := hid (show W4.ownsRow W3.heap.size 3 1 v2 u (ivs U) from ho)
     clear hHeld
     obtain ⟨A2, c2, rfl, r2⟩ := ints_n HU.out HV4.out
     have R2 := hid r2
     have R4 := hid (R1.out.keep HB4.out HB4.out.size)
     have kn4 := (HB4.out.cell (p := ⟨c, j, none⟩) hcl3).trans kn
     clear r2
     go_wp2_with (at_builtin; refine wpList_append_own _ rfl _ _ 27 rfl W3.heap.size 3 i0 (.int .i64 0) 1 8 Tryz.underlying27 Hi.out Hz0.out Hz1.out Hz2.out rfl (by decide) _ _ _ rfl (HV4.out.alloc _) ⟨W4.heap.size, 0, none⟩ 1 1 [.int .i64 (O j)] rfl rfl ?c1 ?c2 ?c3 ?c4 ?c5 ?_)
     case c1 => exact (Blk.new (w := W4) (t := 3) (cs := #[.int .i64 (O j)]) rfl).news
     case c2 => simp [Value.oneCell']
     case c3 => unfold maxLen; omega
     case c4 => omega
     case c5 => have := HB4.out.size; (first | (simp; done) | (simp; omega))
     intro v' w5 hown5 hgrow5 hnil5
     have hb5 := below_app (HB4.out.alloc HB4.out.size _) hgrow5 (HV4.out.alloc _) (Nat.le_refl _) (by have := HB4.out.size; (first | (simp; done) | (simp; omega)))
     have HB5 := hid (HS3.out.2.trans (hb5.mono HS3.out.2.size))
     have hP5 : P = U ++ [O j] := by have e := HPU.out; rw [hit, if_pos rfl] at e; exact e
     have h5 : w5.ownsRow W3.heap.size 3 1 v' p (ivs P) := by
      have e : p = u + 1 := by rw [<- HP.out, hP5, List.length_append, HU.out]; rfl
      rw [hP5, <- ivs_app, e]
      exact hown5
     obtain ⟨A3, c3, rfl, r3⟩ := ints_n HP.out h5
     have R3 := hid r3
     have R5 := hid (R1.out.keep hb5 hb5.size)
     have kn5 := (hb5.cell (p := ⟨c, j, none⟩) hcl3).trans kn
     clear hown5 hgrow5 hnil5 h5 r3 hP5 hb5
     go_wp2_with (go_at_call 9; refine (same_yes P p HP.out (by omega) _ _ _ _ _ R5.out R3.out).mono ?_; rintro e W6 ⟨rfl, hb6⟩; have HB6 := hid (tb HB5 hb6); clear hb6)
     go_ret
     exact ⟨rfl, HB6.out⟩
   | false =>
    go_enter Tryz.func3, Tryz.ntmps3
    go_wp2_with (first
     | (go_at_call 6; refine (c4.out _ hK0.out.2).mono ?_; rintro e W1 ⟨rfl, hb1⟩; have HS1 := hid (hK0.out.on hb1); have b1 := HS1.out.1.cell; clear hb1)
     | (go_at_call 7; refine (cP.out _ HS1.out.2).mono ?_; rintro e W2 ⟨⟨v, rfl, ho⟩, hb1⟩; have HV2 := hid ho; have HS2 := hid (HS1.out.on hb1); have b2 := HS2.out.1.cell; clear hb1 ho)
     | (go_at_call 8; refine (cN.out _ HS2.out.2).mono ?_; rintro e W3 ⟨⟨c, rfl, hcb, hB⟩, hb1⟩; have HV3 := hid (row_on HV2.out hb1); have HS3 := hid (HS2.out.on hb1); obtain ⟨A1, c1, rfl, r1⟩ := ints_n HP.out HV3.out; have R1 := hid r1; have b3 := HS3.out.1.cell; obtain ⟨m0, m4, k0, k1⟩ := HCells.out _ HS3.out.2; have hcl3 := hB.lt; have kn := (hB.cell j).trans (intsC_at O hj); clear hb1 hB hcb r1 HV2))
    have cP2 := hid (cPz.out x.parent hpz W3.drew HS3.out.2.drew)
    rw [hU, hu] at cP2
    have ZR : W3.heap.size <= W3.heap.size := Nat.le_refl _
    have hl3 : w.heap.size < W3.heap.size := HS3.out.1.lt
    have hbb3 : b < W3.heap.size := Nat.lt_trans hbb hl3
    go_region_held3 (fun w' => (∀ b o, b < W3.heap.size -> w'.cell? ⟨b, o, none⟩ = W3.cell? ⟨b, o, none⟩) /\ Below W3.heap.size W3 w')
     (first | exact As.beg | assumption | exact As.on hb3 (by assumption) ZR)
     ((go_at_call 7; refine cP2.out.mono ?_; rintro e W4 ⟨⟨v2, rfl, ho⟩, hb3⟩))
    all_goals
     rename_i hHeld
     have HB4 := hid hHeld.2
     have HV4 := hid (show W4.ownsRow W3.heap.size 3 1 v2 u (ivs U) from ho)
     clear hHeld
     obtain ⟨A2, c2, rfl, r2⟩ := ints_n HU.out HV4.out
     have R2 := hid r2
     have R4 := hid (R1.out.keep HB4.out HB4.out.size)
     have kn4 := (HB4.out.cell (p := ⟨c, j, none⟩) hcl3).trans kn
     clear r2
     have hP4 : P = U := by have e := HPU.out; rw [hit, if_neg (by decide), List.append_nil] at e; exact e
     have hpu : u = p := by rw [<- HP.out, <- HU.out, hP4]
     have hOj : O j = 0 := HZ.out hit
     rw [hOj] at kn4
     subst hpu
     have R6 := hid (show Rd 1 icells W4 W4.heap.size A2 u P from hP4 ▸ R2.out)
     clear hP4 hOj
     go_wp2_with (go_at_call 9; refine (same_yes P u HP.out (by omega) _ _ _ _ _ R4.out R6.out).mono ?_; rintro e W6 ⟨rfl, hb6⟩; have HB6 := hid ((HS3.out.2.trans (HB4.out.mono HS3.out.2.size)).trans (hb6.mono (Nat.le_trans HS3.out.2.size HB4.out.size))); have kn6 := (hb6.cell (p := ⟨c, j, none⟩) (Nat.lt_of_lt_of_le hcl3 HB4.out.size)).trans kn4; clear hb6)
     go_ret
     exact ⟨rfl, HB6.out⟩
  ·have hk' : (x.kind == 2) = false := by simp [hk]
   rw [decide_eq_false hk, Bool.false_and] at hit
   clear hpar hk
   go_enter Tryz.func3, Tryz.ntmps3
   go_wp2_with (first
    | (go_at_call 6; refine (c4.out _ hK0.out.2).mono ?_; rintro e W1 ⟨rfl, hb1⟩; have HS1 := hid (hK0.out.on hb1); have b1 := HS1.out.1.cell; clear hb1)
    | (go_at_call 7; refine (cP.out _ HS1.out.2).mono ?_; rintro e W2 ⟨⟨v, rfl, ho⟩, hb1⟩; have HV2 := hid ho; have HS2 := hid (HS1.out.on hb1); have b2 := HS2.out.1.cell; clear hb1 ho)
    | (go_at_call 8; refine (cN.out _ HS2.out.2).mono ?_; rintro e W3 ⟨⟨c, rfl, hcb, hB⟩, hb1⟩; have HV3 := hid (row_on HV2.out hb1); have HS3 := hid (HS2.out.on hb1); obtain ⟨A1, c1, rfl, r1⟩ := ints_n HP.out HV3.out; have R1 := hid r1; have b3 := HS3.out.1.cell; obtain ⟨m0, m4, k0, k1⟩ := HCells.out _ HS3.out.2; have hcl3 := hB.lt; have kn := (hB.cell j).trans (intsC_at O hj); clear hb1 hB hcb r1 HV2))
   have cP2 := hid (cPz.out x.parent hpz W3.drew HS3.out.2.drew)
   rw [hU, hu] at cP2
   have ZR : W3.heap.size <= W3.heap.size := Nat.le_refl _
   have hl3 : w.heap.size < W3.heap.size := HS3.out.1.lt
   have hbb3 : b < W3.heap.size := Nat.lt_trans hbb hl3
   go_region_held3 (fun w' => (∀ b o, b < W3.heap.size -> w'.cell? ⟨b, o, none⟩ = W3.cell? ⟨b, o, none⟩) /\ Below W3.heap.size W3 w')
    (first | exact As.beg | assumption | exact As.on hb3 (by assumption) ZR)
    ((go_at_call 7; refine cP2.out.mono ?_; rintro e W4 ⟨⟨v2, rfl, ho⟩, hb3⟩))
   all_goals
    rename_i hHeld
    have HB4 := hid hHeld.2
    have HV4 := hid (show W4.ownsRow W3.heap.size 3 1 v2 u (ivs U) from ho)
    clear hHeld
    obtain ⟨A2, c2, rfl, r2⟩ := ints_n HU.out HV4.out
    have R2 := hid r2
    have R4 := hid (R1.out.keep HB4.out HB4.out.size)
    have kn4 := (HB4.out.cell (p := ⟨c, j, none⟩) hcl3).trans kn
    clear r2
    have hP4 : P = U := by have e := HPU.out; rw [hit, if_neg (by decide), List.append_nil] at e; exact e
    have hpu : u = p := by rw [<- HP.out, <- HU.out, hP4]
    have hOj : O j = 0 := HZ.out hit
    rw [hOj] at kn4
    subst hpu
    have R6 := hid (show Rd 1 icells W4 W4.heap.size A2 u P from hP4 ▸ R2.out)
    clear hP4 hOj
    go_wp2_with (go_at_call 9; refine (same_yes P u HP.out (by omega) _ _ _ _ _ R4.out R6.out).mono ?_; rintro e W6 ⟨rfl, hb6⟩; have HB6 := hid ((HS3.out.2.trans (HB4.out.mono HS3.out.2.size)).trans (hb6.mono (Nat.le_trans HS3.out.2.size HB4.out.size))); have kn6 := (hb6.cell (p := ⟨c, j, none⟩) (Nat.lt_of_lt_of_le hcl3 HB4.out.size)).trans kn4; clear hb6)
    go_ret
    exact ⟨rfl, HB6.out⟩
 ·have hpa' : ¬ (0 : Int) <= x.parent := hpa
  have hU0 : U = [] := by
   rw [<- hU]
   unfold pathG
   rw [if_neg hpa]
   rfl
  subst hU0
  by_cases hk : x.kind = 2
  ·have hk' : (x.kind == 2) = true := by simp [hk]
   rw [decide_eq_true hk, Bool.true_and] at hit
   clear hpar hk hpa
   cases d with
   | true =>
    go_enter Tryz.func3, Tryz.ntmps3
    go_wp2_with (first
     | (go_at_call 6; refine (c4.out _ hK0.out.2).mono ?_; rintro e W1 ⟨rfl, hb1⟩; have HS1 := hid (hK0.out.on hb1); have b1 := HS1.out.1.cell; clear hb1)
     | (go_at_call 7; refine (cP.out _ HS1.out.2).mono ?_; rintro e W2 ⟨⟨v, rfl, ho⟩, hb1⟩; have HV2 := hid ho; have HS2 := hid (HS1.out.on hb1); have b2 := HS2.out.1.cell; clear hb1 ho)
     | (go_at_call 8; refine (cN.out _ HS2.out.2).mono ?_; rintro e W3 ⟨⟨c, rfl, hcb, hB⟩, hb1⟩; have HV3 := hid (row_on HV2.out hb1); have HS3 := hid (HS2.out.on hb1); obtain ⟨A1, c1, rfl, r1⟩ := ints_n HP.out HV3.out; have R1 := hid r1; have b3 := HS3.out.1.cell; obtain ⟨m0, m4, k0, k1⟩ := HCells.out _ HS3.out.2; have hcl3 := hB.lt; have kn := (hB.cell j).trans (intsC_at O hj); have HV4 := hid (show W3.ownsRow W3.heap.size 3 1 (.slice none 0 0) 0 (ivs []) from World.ownsRow_nil _ _ _ _); clear hb1 hB hcb r1 HV2)
     | (at_builtin; refine wpList_append_own _ rfl _ _ 27 rfl W3.heap.size 3 i0 (.int .i64 0) 1 8 Tryz.underlying27 Hi.out Hz0.out Hz1.out Hz2.out rfl (by decide) _ _ _ rfl (HV4.out.alloc _) ⟨W3.heap.size, 0, none⟩ 1 1 [.int .i64 (O j)] rfl rfl ?c1 ?c2 ?c3 ?c4 ?c5 ?_))
    case c1 => exact (Blk.new (w := W3) (t := 3) (cs := #[.int .i64 (O j)]) rfl).news
    case c2 => simp [Value.oneCell']
    case c3 => unfold maxLen; omega
    case c4 => omega
    case c5 => have := (Below.refl W3.heap.size W3).size; (first | (simp; done) | (simp; omega))
    intro v' w5 hown5 hgrow5 hnil5
    have hb5 := below_app ((Below.refl W3.heap.size W3).alloc (Below.refl W3.heap.size W3).size _) hgrow5 (HV4.out.alloc _) (Nat.le_refl _) (by have := (Below.refl W3.heap.size W3).size; (first | (simp; done) | (simp; omega)))
    have HB5 := hid (HS3.out.2.trans (hb5.mono HS3.out.2.size))
    have hP5 : P = [] ++ [O j] := by have e := HPU.out; rw [hit, if_pos rfl] at e; exact e
    have h5 : w5.ownsRow W3.heap.size 3 1 v' p (ivs P) := by
     have e : p = 0 + 1 := by rw [<- HP.out, hP5, List.length_append]; rfl
     rw [hP5, <- ivs_app, e]
     exact hown5
    obtain ⟨A3, c3, rfl, r3⟩ := ints_n HP.out h5
    have R3 := hid r3
    have R5 := hid (R1.out.keep hb5 hb5.size)
    have kn5 := (hb5.cell (p := ⟨c, j, none⟩) hcl3).trans kn
    clear hown5 hgrow5 hnil5 h5 r3 hP5 hb5
    go_wp2_with (go_at_call 9; refine (same_yes P p HP.out (by omega) _ _ _ _ _ R5.out R3.out).mono ?_; rintro e W6 ⟨rfl, hb6⟩; have HB6 := hid (tb HB5 hb6); clear hb6)
    go_ret
    exact ⟨rfl, HB6.out⟩
   | false =>
    have hp0 : p = 0 := by
     have e := HPU.out
     rw [hit, if_neg (by decide)] at e
     rw [<- HP.out, e]
     rfl
    subst hp0
    have hOj : O j = 0 := HZ.out hit
    have hP0 : P = [] := List.eq_nil_of_length_eq_zero HP.out
    go_enter Tryz.func3, Tryz.ntmps3
    go_wp2_with (first
     | (go_at_call 6; refine (c4.out _ hK0.out.2).mono ?_; rintro e W1 ⟨rfl, hb1⟩; have HS1 := hid (hK0.out.on hb1); have b1 := HS1.out.1.cell; clear hb1)
     | (go_at_call 7; refine (cP.out _ HS1.out.2).mono ?_; rintro e W2 ⟨⟨v, rfl, ho⟩, hb1⟩; have HV2 := hid ho; have HS2 := hid (HS1.out.on hb1); have b2 := HS2.out.1.cell; clear hb1 ho)
     | (go_at_call 8; refine (cN.out _ HS2.out.2).mono ?_; rintro e W3 ⟨⟨c, rfl, hcb, hB⟩, hb1⟩; have HV3 := hid (row_on HV2.out hb1); have HS3 := hid (HS2.out.on hb1); obtain ⟨A1, c1, rfl, r1⟩ := ints_n HP.out HV3.out; have R1 := hid r1; have b3 := HS3.out.1.cell; obtain ⟨m0, m4, k0, k1⟩ := HCells.out _ HS3.out.2; have hcl3 := hB.lt; have kn := (hB.cell j).trans (intsC_at O hj); have hkl := hcl3; rw [hOj] at kn; clear hb1 hB hcb r1 HV2)
     | (go_at_call 9; refine (same_yes P 0 HP.out (by omega) _ _ _ _ _ (R1.out) ((hP0 ▸ Rd.nil : Rd 1 icells W3 W3.heap.size none 0 P))).mono ?_; rintro e W6 ⟨rfl, hb6⟩; have HB6 := hid (HS3.out.2.trans (hb6.mono HS3.out.2.size)); have kn6 := (hb6.cell (p := ⟨c, j, none⟩) hcl3).trans kn; clear hb6))
    go_ret
    exact ⟨rfl, HB6.out⟩
  ·have hk' : (x.kind == 2) = false := by simp [hk]
   rw [decide_eq_false hk, Bool.false_and] at hit
   clear hpar hk hpa
   have hp0 : p = 0 := by
    have e := HPU.out
    rw [hit, if_neg (by decide)] at e
    rw [<- HP.out, e]
    rfl
   subst hp0
   have hOj : O j = 0 := HZ.out hit
   have hP0 : P = [] := List.eq_nil_of_length_eq_zero HP.out
   go_enter Tryz.func3, Tryz.ntmps3
   go_wp2_with (first
    | (go_at_call 6; refine (c4.out _ hK0.out.2).mono ?_; rintro e W1 ⟨rfl, hb1⟩; have HS1 := hid (hK0.out.on hb1); have b1 := HS1.out.1.cell; clear hb1)
    | (go_at_call 7; refine (cP.out _ HS1.out.2).mono ?_; rintro e W2 ⟨⟨v, rfl, ho⟩, hb1⟩; have HV2 := hid ho; have HS2 := hid (HS1.out.on hb1); have b2 := HS2.out.1.cell; clear hb1 ho)
    | (go_at_call 8; refine (cN.out _ HS2.out.2).mono ?_; rintro e W3 ⟨⟨c, rfl, hcb, hB⟩, hb1⟩; have HV3 := hid (row_on HV2.out hb1); have HS3 := hid (HS2.out.on hb1); obtain ⟨A1, c1, rfl, r1⟩ := ints_n HP.out HV3.out; have R1 := hid r1; have b3 := HS3.out.1.cell; obtain ⟨m0, m4, k0, k1⟩ := HCells.out _ HS3.out.2; have hcl3 := hB.lt; have kn := (hB.cell j).trans (intsC_at O hj); have hkl := hcl3; rw [hOj] at kn; clear hb1 hB hcb r1 HV2)
    | (go_at_call 9; refine (same_yes P 0 HP.out (by omega) _ _ _ _ _ (R1.out) ((hP0 ▸ Rd.nil : Rd 1 icells W3 W3.heap.size none 0 P))).mono ?_; rintro e W6 ⟨rfl, hb6⟩; have HB6 := hid (HS3.out.2.trans (hb6.mono HS3.out.2.size)); have kn6 := (hb6.cell (p := ⟨c, j, none⟩) hcl3).trans kn; clear hb6))
   go_ret
   exact ⟨rfl, HB6.out⟩
theorem law_ct (D : List Nd) (L : List Sy) (A B : Option Addr) (cap capL : Nat) (q : Bool) (z : Int) (hz : I64 z) (w : World) (hD : DocAt w w.heap.size A cap D) (hL : StyAt w w.heap.size B capL L) (hM : MaxL w) (hT : LibAt w) :
  Calls Tryz.prog 3 #[dcV A D.length cap q, .slice B L.length capL, .int .i64 z] w fun e w' => e = .returned (.bool true) /\ Below w.heap.size w w' := by
 by_cases h : fitsF D L = 0 /\ 0 <= z /\ z < D.length
 ·obtain ⟨j, rfl⟩ : ∃ j : Nat, z = j := ⟨z.toNat, by omega⟩
  exact paths_node D L A B cap capL q j (by omega) w hD hL hM hT h.1
 ·exact paths_none D L A B cap capL q z hz w hD hL hM hT h
end doc
end Go.Proofs.YthgffoanecknoaaGreatDoor
