/- Contracts and plain law, a bundle. -/
import Derived.Lib.Hide
import Derived.Test.YthgffoanecknoaaGreatDoorI5
set_option linter.unusedVariables false
set_option maxRecDepth 100000
set_option maxHeartbeats 16000000
open Go.Lib (hid)
namespace Go.Proofs.YthgffoanecknoaaGreatDoor
namespace doc
open Go.RowKit base tok cnt
set_option linter.unusedSimpArgs false
def attrsAt (D : List Nd) (n : Int) : List At := ((D[n.toNat]?).map Nd.attrs).getD []
theorem attrsAt_at {D : List Nd} {j : Nat} {x : Nd} (h : D[j]? = some x) : attrsAt D j = x.attrs := by unfold attrsAt; rw [Int.toNat_natCast, h]; rfl
def numK (D : List Nd) (L : List Sy) : (Nat -> Int) -> Int -> List Int -> (Nat -> Int)
 | o, _, [] => o
 | o, nx, k :: R => if itemF D L k = true then numK D L (upd o k.toNat ((toldF valB (attrsAt D k)).getD nx)) (min ((toldF valB (attrsAt D k)).getD nx + 1) 1000000) R else numK D L o nx R
def numX (D : List Nd) (L : List Sy) (i : Nat) (o : Nat -> Int) (x : Nd) : Nat -> Int :=
 if x.parent < 0 /\ itemF D L i = true then upd (numK D L o ((toldF startB x.attrs).getD 1) x.kids) i ((toldF valB x.attrs).getD 1) else numK D L o ((toldF startB x.attrs).getD 1) x.kids
def numP (D : List Nd) (L : List Sy) : Nat -> (Nat -> Int) -> List Nd -> (Nat -> Int)
 | _, o, [] => o
 | i, o, x :: R => numP D L (i + 1) (numX D L i o x) R
def numO (D : List Nd) (L : List Sy) : Nat -> Int := numP D L 0 (fun _ => 0) D
theorem numK_step {D : List Nd} {L : List Sy} {o : Nat -> Int} {nx : Int} {K : List Int} {t : Nat} {k : Int} (h : K[t]? = some k) : numK D L o nx (K.drop t) = if itemF D L k = true then numK D L (upd o k.toNat ((toldF valB (attrsAt D k)).getD nx)) (min ((toldF valB (attrsAt D k)).getD nx + 1) 1000000) (K.drop (t + 1)) else numK D L o nx (K.drop (t + 1)) := by
 obtain ⟨hl, he⟩ := List.getElem?_eq_some_iff.1 h
 rw [List.drop_eq_getElem_cons hl, he, numK]
theorem numP_step {D : List Nd} {L : List Sy} {o : Nat -> Int} {i : Nat} {x : Nd} (h : D[i]? = some x) : numP D L i o (D.drop i) = numP D L (i + 1) (numX D L i o x) (D.drop (i + 1)) := by
 obtain ⟨hl, he⟩ := List.getElem?_eq_some_iff.1 h
 rw [List.drop_eq_getElem_cons hl, he, numP]
theorem told_in {s : Bs} {V : List At} {nx : Int} (h : -1000000 <= nx /\ nx <= 1000000) : -1000000 <= (toldF s V).getD nx /\ (toldF s V).getD nx <= 1000000 := by
 cases e : toldF s V with
 | none => exact h
 | some v => exact toldF_bd e
theorem numbers_ct (D : List Nd) (L : List Sy) (A B : Option Addr) (cap capL n : Nat) (q : Bool) (w : World) (hD : DocAt w w.heap.size A cap D) (hL : StyAt w w.heap.size B capL L) (hn : D.length = n) (hm : L.length = n) (hn2 : n <= 200) (hK : ∀ x ∈ D, ∀ k ∈ x.kids, 0 <= k /\ k < (n : Int)) (h4 : ∀ x ∈ D, ∀ a ∈ x.attrs, a.2.length <= 400) (hT : LibAt w) :
  Calls Tryz.prog 17 #[dcV A n cap q, .slice B n capL] w fun e w' => (∃ b, e = .returned (.slice (some ⟨b, 0, none⟩) n n) /\ w.heap.size <= b /\ Blk w' b 3 (intsC n (numO D L))) /\ Below w.heap.size w w' := by
 have HD := hid hD
 have HL := hid hL
 have HN := hid hn
 have HM := hid hm
 have HK := hid hK
 have H4 := hid h4
 have HT := hid hT
 have hK0 := hid (show NSt w (((w.alloc (.cells #[.slice A n cap, .bool q] 24)).alloc (.cells (intsC n (fun _ => 0)) 3)).alloc (.cells #[.slice (some ⟨w.heap.size + 1, 0, none⟩) n n] 27)) n A cap q (fun _ => 0) from
  ⟨((Blk.new rfl).alloc _).alloc _, (Blk.new (by simp)).alloc _, Blk.new (by simp), (((Below.refl _ w).alloc (Nat.le_refl _) _).alloc (by simp) _).alloc (by simp; omega) _⟩)
 obtain ⟨O, hO⟩ : ∃ O, numO D L = O := ⟨_, rfl⟩
 have HO := hid (show numP D L 0 (fun _ => 0) D = O from hO)
 rw [hO]
 clear hD hL hn hm hK h4 hT hO
 go_enter Tryz.func17, Tryz.ntmps17
 have hmk := fun w => run_mkn Tryz.underlying27 (z := .int .i64 0) (b := 8) (by kernel_rfl) rfl (by decide) n (by omega) w
 rw [intsC_nil] at hmk
 go_wp2_with fail
 clear hmk
 go_loopw [21] (fun y wr => ∃ (i : Nat) (o : Nat -> Int), i <= n /\ y = .int .i64 i /\ numP D L i o (D.drop i) = O /\ NSt w wr n A cap q o) (fun y _ => n - (intOf y).toNat)
 case atStart => exact ⟨0, _, Nat.zero_le _, rfl, HO.out, hK0.out⟩
 case round =>
  obtain ⟨i, o, hil, rfl, hinv, hst⟩ := hrel
  have HInv := hid hinv
  have HS := hid hst
  clear hinv
  obtain ⟨wo, hwo⟩ : ∃ wo : World, wo = wr := ⟨_, rfl⟩
  subst hwo
  have b0 := HS.out.doc.cell
  by_cases hlt : i < n
  ·have hlt' : (i : Int) < (n : Int) := by omega
   have hDr := (HD.out.keep hst.bel (Nat.le_refl _))
   have hrow := hDr.row
   rw [HN.out] at hrow
   obtain ⟨b, off, x, hA, hbb, hx, g0, g1, g2, g3, g4, g5⟩ := ndRd hrow hlt
   subst hA
   have HX := hid hx
   have hmem := List.mem_of_getElem? hx
   have HA := hid (HS.out.alloc (.cells (ndC x) 34))
   have QN := hid (Blk.new (w := wo) (t := 34) (cs := ndC x) rfl)
   have HNB := hid (show w.heap.size + 3 <= wo.heap.size by have := hst.box.lt; omega)
   have HKx := hid (HK.out x hmem)
   have hkl := (hDr.each x hmem).kidL
   unfold maxLen at hkl
   have cT := hid (fun W' (h : Below w.heap.size w W') => told_ct x startB W' ((HD.out.each x hmem).keep h h.size) (H4.out x hmem) (HT.out.on h))
   have hbd := told_in (s := startB) (V := x.attrs) (nx := 1) (by decide)
   obtain ⟨O1, hO1⟩ : ∃ O1, numK D L o ((toldF startB x.attrs).getD 1) x.kids = O1 := ⟨_, rfl⟩
   have hstep := numP_step (L := L) (o := o) hx
   rw [HInv.out] at hstep
   unfold numX at hstep
   rw [hO1] at hstep
   have HStep := hid hstep
   have HO1 := hid hO1
   clear hDr hrow hx hst hmem hstep hO1
   obtain ⟨T, hTT⟩ : ∃ T, toldF startB x.attrs = T := ⟨_, rfl⟩
   rw [hTT] at cT hbd HO1
   clear hTT
   obtain ⟨nx, hnx⟩ : ∃ nx, T.getD 1 = nx := ⟨_, rfl⟩
   rw [hnx] at hbd HO1
   cases T
   all_goals
    simp only [Option.getD_none, Option.isSome_none, Option.getD_some, Option.isSome_some] at cT hnx
    subst hnx
    go_wp2_with (go_at_call 37; refine (cT.out _ HA.out.bel).mono ?_; rintro e W1 ⟨rfl, hb1⟩; have HS1 := hid (HA.out.on hb1); have HQ1 := hid (QN.out.below hb1 QN.out.lt); have e0 := HQ1.out.cell; clear hb1)
    go_loopw [9, 36] (fun nv y wr => ∃ (t : Nat) (nx : Int) (o' : Nat -> Int), t <= x.kids.length /\ y = .int .i64 t /\ nv = .int .i64 nx /\ (-1000000 <= nx /\ nx <= 1000000) /\ numK D L o' nx (x.kids.drop t) = O1 /\ NSt w wr n (some ⟨b, off, none⟩) cap q o' /\ Blk wr wo.heap.size 34 (ndC x)) (fun _ y _ => x.kids.length - (intOf y).toNat)
    case atStart => exact ⟨0, _, o, Nat.zero_le _, rfl, rfl, hbd, HO1.out, HS1.out, HQ1.out⟩
    case round =>
     clear hbd e0
     obtain ⟨t, nx, o', htl, rfl, rfl, hnx, hink, hst, hq⟩ := hrel
     have HInk := hid hink
     have HS2 := hid hst
     have HQ2 := hid hq
     clear hink hq
     have d0 := HS2.out.doc.cell
     have e0 := HQ2.out.cell
     by_cases htt : t < x.kids.length
     ·have htt' : (t : Int) < (x.kids.length : Int) := by omega
      have hDr := (HD.out.keep hst.bel (Nat.le_refl _))
      have hLr := (HL.out.keep hst.bel (Nat.le_refl _))
      obtain ⟨kb, koff, k, hkA, hkb, hk, ck⟩ := inRd (hDr.each x (List.mem_of_getElem? HX.out)).kids htt
      have hkr := HKx.out k (List.mem_of_getElem? hk)
      obtain ⟨m, rfl⟩ : ∃ m : Nat, k = m := ⟨k.toNat, by omega⟩
      have hmn : m < n := by omega
      have hstep := numK_step (D := D) (L := L) (o := o') (nx := nx) hk
      rw [HInk.out, Int.toNat_natCast] at hstep
      have cI := hid (item_ct D L (some ⟨b, off, none⟩) B cap capL n q m hmn wr (HD.out.keep hst.bel hst.bel.size) (HL.out.keep hst.bel hst.bel.size) HN.out HM.out)
      obtain ⟨y, hy⟩ : ∃ y, D[m]? = some y := ⟨_, List.getElem?_eq_getElem (by rw [HN.out]; exact hmn)⟩
      rw [attrsAt_at hy] at hstep
      have cO := hid (fun W' (h : NSt w W' n (some ⟨b, off, none⟩) cap q o') => one_n D (some ⟨b, off, none⟩) cap n q w W' o' m hmn y hy HN.out (H4.out y (List.mem_of_getElem? hy)) nx hnx HD.out HT.out h)
      have hbn := told_in (s := valB) (V := y.attrs) hnx
      obtain ⟨v, hv⟩ : ∃ v, (toldF valB y.attrs).getD nx = v := ⟨_, rfl⟩
      rw [hv] at hstep hbn cO
      have HStep2 := hid hstep
      rw [hkA]
      clear hDr hLr hk hkr hstep hy hv hkA hst
      cases hi : itemF D L m with
      | true =>
       rw [hi] at cI
       have hF := hid (HStep2.out.trans (if_pos hi)).symm
       clear hi
       go_wp2_with (first
        | (go_at_call 18; (with_reducible refine cI.out.mono ?_); rintro e W2 ⟨rfl, hb1⟩; have HS3 := hid (HS2.out.on hb1); have HQ3 := hid (HQ2.out.below hb1 HQ2.out.lt); clear hb1)
        | (go_at_call 36; (with_reducible refine (cO.out _ HS3.out).mono ?_); rintro e W3 ⟨rfl, hs4, hsm⟩; have HS4 := hid hs4; have HQ4 := hid (show Blk W3 wo.heap.size 34 (ndC x) from (hsm _ HQ3.out.lt (by have := HNB.out; omega)).trans HQ3.out); clear hs4 hsm))
       go_roundw
       case rel => exact ⟨t + 1, _, _, by omega, by go_num, rfl, by omega, hF.out, HS4.out, HQ4.out⟩
       case measure => simp [intOf]; omega
      | false =>
       rw [hi] at cI
       have hF := hid (HStep2.out.trans (if_neg (by rw [hi]; decide))).symm
       clear hi
       go_wp2_with (go_at_call 18; (with_reducible refine cI.out.mono ?_); rintro e W2 ⟨rfl, hb1⟩; have HS3 := hid (HS2.out.on hb1); have HQ3 := hid (HQ2.out.below hb1 HQ2.out.lt); clear hb1)
       go_roundw
       case rel => exact ⟨t + 1, nx, o', by omega, by go_num, rfl, hnx, hF.out, HS3.out, HQ3.out⟩
       case measure => simp [intOf]; omega
     ·obtain rfl : t = x.kids.length := by omega
      have hO2 : o' = O1 := by rw [<- HInk.out, List.drop_length]; rfl
      subst hO2
      by_cases hp : x.parent < 0
      ·have cI := hid (item_ct D L (some ⟨b, off, none⟩) B cap capL n q i hlt wr (HD.out.keep hst.bel hst.bel.size) (HL.out.keep hst.bel hst.bel.size) HN.out HM.out)
       have cO := hid (fun W' (h : NSt w W' n (some ⟨b, off, none⟩) cap q o') => one_n D (some ⟨b, off, none⟩) cap n q w W' o' i hlt x HX.out HN.out (H4.out x (List.mem_of_getElem? HX.out)) 1 (by decide) HD.out HT.out h)
       clear hst
       cases hi : itemF D L i with
       | true =>
        rw [hi] at cI
        have hF := hid (HStep.out.trans (by rw [if_pos ⟨hp, hi⟩])).symm
        clear hi
        go_wp2_with (first
         | (go_at_call 18; (with_reducible refine cI.out.mono ?_); rintro e W2 ⟨rfl, hb1⟩; have HS3 := hid (HS2.out.on hb1); have HQ3 := hid (HQ2.out.below hb1 HQ2.out.lt); clear hb1)
         | (go_at_call 36; (with_reducible refine (cO.out _ HS3.out).mono ?_); rintro e W3 ⟨rfl, hs4, hsm⟩; have HS4 := hid hs4; clear hs4 hsm))
        go_roundw
        case rel => exact ⟨i + 1, _, by omega, by go_num, hF.out, HS4.out⟩
        case measure => simp [intOf]; omega
       | false =>
        rw [hi] at cI
        have hF := hid (HStep.out.trans (by rw [if_neg (fun g => by rw [hi] at g; exact absurd g.2 (by decide))])).symm
        clear hi
        go_wp2_with (go_at_call 18; (with_reducible refine cI.out.mono ?_); rintro e W2 ⟨rfl, hb1⟩; have HS3 := hid (HS2.out.on hb1); clear hb1)
        go_roundw
        case rel => exact ⟨i + 1, _, by omega, by go_num, hF.out, HS3.out⟩
        case measure => simp [intOf]; omega
      ·have hF := hid (HStep.out.trans (by rw [if_neg (fun g => hp g.1)])).symm
       clear hst
       go_wp2_with fail
       go_roundw
       case rel => exact ⟨i + 1, _, by omega, by go_num, hF.out, HS2.out⟩
       case measure => simp [intOf]; omega
  ·obtain rfl : i = n := by omega
   have hF := hid (show o = O by rw [<- HInv.out, List.drop_of_length_le (by rw [HN.out]; omega)]; rfl)
   have b2 := HS.out.box.cell
   clear hst
   go_wp2_with fail
   go_ret
   exact ⟨⟨_, rfl, by omega, by have := HS.out.out; rwa [hF.out] at this⟩, HS.out.bel⟩
end doc
end Go.Proofs.YthgffoanecknoaaGreatDoor
