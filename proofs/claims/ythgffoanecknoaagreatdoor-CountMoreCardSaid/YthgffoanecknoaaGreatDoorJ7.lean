/- Contracts and plain law, a bundle. -/
import Derived.Deep.RegionHeld3
import Derived.Lib.Hide
import Derived.Test.YthgffoanecknoaaGreatDoorJ5
import Derived.Test.YthgffoanecknoaaGreatDoorI7
import Derived.Test.YthgffoanecknoaaGreatDoorH1
set_option linter.unusedVariables false
set_option maxRecDepth 100000
set_option maxHeartbeats 16000000
open Go.Lib (hid)
namespace Go.Proofs.YthgffoanecknoaaGreatDoor
namespace doc
open Go.RowKit base tok cnt
set_option linter.unusedSimpArgs false
theorem DocAt.more {w : World} {A : Option Addr} {cap : Nat} {D : List Nd} (h : DocAt w w.heap.size A cap D) (o : Obj) : DocAt (w.alloc o) (w.alloc o).heap.size A cap D :=
 h.keep ((Below.refl _ w).alloc (Nat.le_refl _) o) (by rw [World.size_alloc]; exact Nat.le_succ _)
theorem more_some (D : List Nd) (L : List Sy) (A B : Option Addr) (cap capL : Nat) (q : Bool) (z : Int) (nm : Bs) (hnm : nm.length <= maxLen) (w : World) (hD : DocAt w w.heap.size A cap D) (hL : StyAt w w.heap.size B capL L) (hM : MaxL w) (hT : LibAt w) (hI : InitAt w) (hno : fitsF D L = 0) :
  Calls Tryz.prog 5 #[dcV A D.length cap q, .slice B L.length capL, .int .i64 z, .string (bs nm)] w fun e w' => e = .returned (.bool true) /\ Below w.heap.size w w' := by
 have hlenL := (fits_ok hno).2
 have hgood := (fits_ok hno).1
 obtain ⟨bL, oL, hBL, hbL, hnL⟩ := sty_news (f := scells) (by decide) scells_len (by rw [hlenL]; exact hgood.len.1) hL.row
 subst hBL
 have HNL := hid (show ∀ W', Below w.heap.size w W' -> ∀ j u, (flatR scells L)[j]? = some u -> W'.cell? ((⟨bL, oL, none⟩ : Addr).add j) = some u from fun W' hb j u hu => (hb.cell (p := (⟨bL, oL, none⟩ : Addr).add j) (by rw [add_none]; exact hbL)).trans (hnL j u hu))
 have HFl := hid (show (flatR scells L).length = L.length * 118 from flatR_len scells_len L)
 have hn200 := hgood.len
 have hK0 := hid (BSt.beg (w := w) (n := D.length) (A := A) (cap := cap) (q := q))
 have c4 := hid (fun W' (h : Below w.heap.size w W') => fourth_ct W' (hT.on h).pow)
 have cN := hid (fun W' (h : Below w.heap.size w W') => (Numbers_ct D L A _ cap capL q W' (hD.keep h h.size) (hL.keep h h.size) (hM.on h hM.lt) (hT.on h)).mono (R' := fun e w' => (∃ b, e = .returned (.tuple #[.slice (some ⟨b, 0, none⟩) D.length D.length, .int .i64 0]) /\ W'.heap.size <= b /\ Blk w' b 3 (intsC D.length (numO D L))) /\ Below W'.heap.size W' w') fun e w' ⟨hor, hb⟩ => ⟨by
  rcases hor with ⟨g, _⟩ | ⟨_, g⟩
  ·exact absurd hno g
  ·exact g, hb⟩)
 have cA := hid (fun W' (h : Below w.heap.size w W') => make_u D A cap q nm hnm W' (hD.keep h h.size))
 have cP := hid (fun X A1 c1 q1 md k (hX : First D nm X md k) W' => put_u D X A1 c1 q1 z md k nm hX W')
 have HD := hid hD
 have HL := hid hL
 have HM := hid hM
 have HT := hid hT
 have HI := hid hI
 have HNo := hid hno
 obtain ⟨n, hn⟩ : ∃ n, D.length = n := ⟨_, rfl⟩
 have HN := hid hn
 rw [hlenL] at cN HFl ⊢
 rw [hn] at hK0 cN cA HFl hn200 ⊢
 clear hD hL hM hT hno hn hnm hI hlenL hgood hbL hnL
 go_enter Tryz.func5, Tryz.ntmps5
 go_wp2_with (first
  | (go_at_call 6; refine (c4.out _ hK0.out.2).mono ?_; rintro e W1 ⟨rfl, hb1⟩; have HS1 := hid (hK0.out.on hb1); have b1 := HS1.out.1.cell; clear hb1)
  | (go_at_call 8; refine (cN.out _ HS1.out.2).mono ?_; rintro e W2 ⟨⟨b, rfl, hbs, hbk⟩, hb1⟩; have HS2 := hid (HS1.out.on hb1); have HV2 := hid hbk; have b2 := HS2.out.1.cell; clear hb1 hbs hbk)
  | (go_at_call 13; refine (cA.out _ HS2.out.2).mono ?_; rintro e W3 ⟨⟨X, A1, c1, q1, md, k, rfl, hX, hfst⟩, hb1⟩; have HX3 := hid hX; have HFst := hid hfst; have HS3 := hid (HS2.out.on hb1); have HV3 := hid (HV2.out.below hb1 HV2.out.lt); have b3 := HS3.out.1.cell; have HX4 := hid (hX.more (.cells #[.slice A1 X.length c1, .bool q1] 24)); clear hb1 hX hfst cA))
 go_at_call 13
 refine (cP.out _ _ _ _ _ _ HFst.out _ HX4.out).mono ?_
 rintro e W5 ⟨⟨Y, A2, c2, q2, m2, k2, rfl, hY, hsnd⟩, hb1⟩
 have HS5 := hid ((HS3.out.alloc _).on hb1)
 have HV5 := hid ((HV3.out.alloc _).below hb1 (HV3.out.alloc _).lt)
 have HY5 := hid hY
 have HSnd := hid hsnd
 clear hb1 hY hsnd cP b3 b2 b1
 by_cases hk : k ≠ 0
 ·have hk' : (k != 0) = true := by simpa using hk
  clear hk
  go_wp2_with fail
  go_ret
  exact ⟨rfl, HS5.out.2.alloc HS5.out.2.size _⟩
 obtain rfl : k = 0 := by simpa using hk
 by_cases hk2 : k2 ≠ 0
 ·have hk' : (k2 != 0) = true := by simpa using hk2
  clear hk hk2
  go_wp2_with fail
  go_ret
  exact ⟨rfl, HS5.out.2.alloc HS5.out.2.size _⟩
 obtain rfl : k2 = 0 := by simpa using hk2
 have HSe := hid (HSnd.out rfl)
 clear hk hk2
 go_wp2_with fail
 have HYn := hid (show Y.length = n + 1 from (second_len HSe.out).trans (by rw [HN.out]))
 rw [HYn.out]
 obtain ⟨U, hU⟩ : ∃ U, W5.alloc (.cells #[.slice A2 (n + 1) c2, .bool q2] 24) = U := ⟨_, rfl⟩
 have HSU := hid (show BSt w U n A cap q by rw [<- hU]; exact HS5.out.alloc _)
 have HVU := hid (show Blk U b 3 (intsC n (numO D L)) by rw [<- hU]; exact HV5.out.alloc _)
 have HYU := hid (show Blk U W5.heap.size 24 #[.slice A2 (n + 1) c2, .bool q2] by rw [<- hU]; exact Blk.new rfl)
 have HzU := hid (show U.heap.size = W5.heap.size + 1 by rw [<- hU]; simp)
 have HDU := hid (show DocAt U U.heap.size A2 c2 Y by rw [<- hU]; exact HY5.out.more _)
 rw [hU]
 clear hU
 have HZ := hid (show Blk (U.alloc (.cells Tryz.zeroCells38 38)) (W5.heap.size + 1) 38 (scells (partS 0)).toArray by rw [part_zero]; exact Blk.new HzU.out.symm)
 have HBZ := hid (show Below U.heap.size U (U.alloc (.cells Tryz.zeroCells38 38)) from (Below.refl _ U).alloc (Nat.le_refl _) _)
 obtain ⟨Z, hZ⟩ : ∃ Z, U.alloc (.cells Tryz.zeroCells38 38) = Z := ⟨_, rfl⟩
 rw [hZ] at HZ HBZ ⊢
 clear hZ
 go_loopw [19] (fun y wr => ∃ i : Nat, i <= 59 /\ y = .int .i64 i /\ Blk wr (W5.heap.size + 1) 38 (scells (partS i)).toArray /\ Below U.heap.size U wr) (fun y _ => 59 - (intOf y).toNat)
 case atStart => exact ⟨0, Nat.zero_le _, rfl, HZ.out, HBZ.out⟩
 case round =>
  obtain ⟨i, hil, rfl, hblk, hbel⟩ := hrel
  have HBlk := hid hblk
  have HBel := hid hbel
  clear hblk hbel
  by_cases hlt : i < 59
  ·have hlt' : (i : Int) < 59 := by omega
   have hi0 : (0 : Int) <= (i : Int) := by omega
   have cI := hid (Initial_ct i hlt wr (HI.out.on (HSU.out.2.trans (HBel.out.mono HSU.out.2.size))))
   have hn0 := part_next hlt
   have Q0 := hid (show (scells (partS i)).toArray[i * 2]? = some (.int .i64 (partS i i).1) by simpa using scells_at (partS i) hlt 0 (by decide))
   have Q1 := hid (show (scells (partS i)).toArray[i * 2 + 1]? = some (.int .i64 (partS i i).2) by simpa using scells_at (partS i) hlt 1 (by decide))
   have HN0 := hid hn0
   have HLt := hid hlt
   clear hn0 hlt
   go_wp2_with (go_at_call 14; refine cI.out.mono ?_; rintro e W6 ⟨rfl, hb1⟩; have HB6 := hid (HBlk.out.below hb1 HBlk.out.lt); have HBe6 := hid (tb HBel hb1); have p0 := (HB6.out.cell (i * 2)).trans Q0.out; have p1 := (HB6.out.cell (i * 2 + 1)).trans Q1.out; have f6 := HB6.out.frozen; clear hb1)
   go_roundw
   case rel => exact ⟨i + 1, by have := HLt.out; omega, by go_num, by rw [<- HN0.out]; exact (HB6.out.put _ _).put _ _, (HBe6.out.setCell (by have := HzU.out; show U.heap.size <= W5.heap.size + 1; omega) _).setCell (by have := HzU.out; show U.heap.size <= W5.heap.size + 1; omega) _⟩
   case measure => have := HLt.out; simp [intOf]; omega
  ·obtain rfl : i = 59 := by omega
   have p0 := HBlk.out.cell 0
   have p1 := HBlk.out.cell 1
   rw [show (scells (partS 59)).toArray[0]? = some (.int .i64 (partS 59 0).1) by simpa using scells_at (partS 59) (p := 0) (by decide) 0 (by decide)] at p0
   rw [show (scells (partS 59)).toArray[1]? = some (.int .i64 (partS 59 0).2) by simpa using scells_at (partS 59) (p := 0) (by decide) 1 (by decide)] at p1
   have f6 := HBlk.out.frozen
   go_wp2_with fail
   obtain ⟨V, hV⟩ : ∃ V, (wr.setCell ⟨W5.heap.size + 1, 0, none⟩ (.int .i64 1)).setCell ⟨W5.heap.size + 1, 1, none⟩ (.int .i64 8) = V := ⟨_, rfl⟩
   have HXV := hid (show Blk V (W5.heap.size + 1) 38 (scells itemS).toArray by rw [<- hV, <- part_item]; exact (HBlk.out.put _ _).put _ _)
   have HBV := hid (show Below U.heap.size U V by rw [<- hV]; exact (HBel.out.setCell (by have := HzU.out; show U.heap.size <= W5.heap.size + 1; omega) _).setCell (by have := HzU.out; show U.heap.size <= W5.heap.size + 1; omega) _)
   rw [hV]
   clear hV p0 p1 f6
   have HYV := hid (HYU.out.below HBV.out HYU.out.lt)
   have HS := hid (show ∀ w', Below V.heap.size V w' -> w'.rangeAt (W5.heap.size + 1) 0 (scells itemS) /\ w'.cell? ⟨W5.heap.size, 0, none⟩ = some (.slice A2 (n + 1) c2) /\ w'.cell? ⟨W5.heap.size, 1, none⟩ = some (.bool q2) /\ Below V.heap.size V w' from fun w' hb =>
    ⟨fun j v hv => by rw [Nat.zero_add, (HXV.out.below hb HXV.out.lt).cell j, List.getElem?_toArray]; exact hv, (HYV.out.below hb HYV.out.lt).cell 0, (HYV.out.below hb HYV.out.lt).cell 1, hb⟩)
   have hus : Tryz.prog.underlying 38 = some (.array 59 36) := Tryz.underlying38
   have his : (Tryz.prog.info? 38).map (·.size) = some (scells itemS).length := by rw [scells_len]; kernel_rfl
   obtain ⟨i0, hi, hz0, hz1, hz2⟩ := info_parts infoSty
   have Hi := hid hi
   have Hz0 := hid hz0
   have Hz1 := hid hz1
   have Hz2 := hid hz2
   have HBW := hid (show Below w.heap.size w V from HSU.out.2.trans (HBV.out.mono HSU.out.2.size))
   clear hi hz0 hz1 hz2
   have cM := hid (fun v W (hb : Below V.heap.size V W) (hr : W.ownsRow V.heap.size 38 118 v (n + 1) (flatR scells L ++ scells itemS)) => more_ct HN.out HSe.out HNo.out A2 v c2 q2 V.heap.size HL.out.each W (HDU.out.keep (tb HBV hb) (Nat.le_trans HBV.out.size hb.size)) hr (HM.out.on (tb HBW hb) HM.out.lt) (HT.out.on (tb HBW hb)))
   obtain ⟨XS, hXS⟩ : ∃ XS, scells itemS = XS := ⟨_, rfl⟩
   have HX1 := hid (show XS.length = 118 by rw [<- hXS]; exact scells_len _)
   have HX2 := hid (show ∀ u ∈ XS, u.oneCell' = true by rw [<- hXS]; exact sc_one _)
   rw [hXS] at HS his cM
   obtain ⟨ZS, hZS⟩ : ∃ ZS, (scells (partS 0)).toArray = ZS := ⟨_, rfl⟩
   have HZl := hid (show (Value.agg ZS).cells.size = 118 by rw [<- hZS]; exact zs_len)
   rw [hZS] at Hz0
   clear hXS hZS HXV
   go_region_held3 (fun w' => w'.rangeAt (W5.heap.size + 1) 0 XS /\ w'.cell? ⟨W5.heap.size, 0, none⟩ = some (.slice A2 (n + 1) c2) /\ w'.cell? ⟨W5.heap.size, 1, none⟩ = some (.bool q2) /\ Below V.heap.size V w')
    (first | exact HS.out _ ((Below.refl _ V).drew) | exact HS.out _ (b_alloc (by assumption) _) | exact HS.out _ HB7.out | exact HS.out _ HB6.out | exact HS.out _ HB3.out)
    (first
    | (refine step_append rfl _ _ 25 rfl V.heap.size 38 i0 (.agg ZS) 118 944 Tryz.underlying25 Hi.out Hz0.out Hz1.out Hz2.out HZl.out (by decide) _ 0 [] rfl (own_empty (by first | exact Blk.new rfl | exact (Blk.new rfl).alloc _ | exact Blk.new (by simp)) (by first | exact Nat.le_refl _ | simp)) _ n capL (flatR scells L) rfl HFl.out (HNL.out _ (b_w HBW.out (by assumption))) sty_one (by unfold maxLen; omega) (by omega) (b_sz (by assumption)) ?_; intro v3 w3 ho3 hg3 ha3; rw [Nat.zero_add, List.nil_append] at ho3; have HB3 := hid (b_grow (by assumption) hg3 (by first | exact Nat.le_refl _ | simp)); have HO3 := hid ho3; have HG3 := hid hg3; clear ho3 hg3 ha3)
    | (refine step_append rfl _ _ 25 rfl V.heap.size 38 i0 (.agg ZS) 118 944 Tryz.underlying25 Hi.out Hz0.out Hz1.out Hz2.out HZl.out (by decide) _ n (flatR scells L) rfl (by first | exact HO3.out | exact HO3.out.alloc _) _ 1 1 XS rfl (by rw [HX1.out]) (by first | exact blk_news (Blk.new rfl) | exact blk_news (blk_grown HG3.out (Blk.new rfl) (by show some _ ≠ some _; simp)) | exact blk_news (blk_grown HG3.out (Blk.new (by simp)) (by show some _ ≠ some _; simp)) | exact blk_news (blk_grown HG3.out ((Blk.new rfl).alloc _) (by show some _ ≠ some _; simp))) HX2.out (by unfold maxLen; omega) (by omega) (b_sz (by assumption)) ?_; intro v6 w6 ho6 hg6 ha6; have HB6 := hid (b_grow2 (by assumption) hg6 (by first | exact HO3.out | exact HO3.out.alloc _)); have HO6 := hid ho6; clear ho6 hg6 ha6)
    | (go_at_call 8; refine (cM.out _ _ HB6.out HO6.out).mono ?_; rintro e W7 ⟨⟨b7, o7, rfl, hb7, hk7, ho7⟩, hbl⟩; have HB7 := hid (tb HB6 hbl); have HK7 := hid hk7; have HO7 := hid ho7; clear hbl hb7 hk7 ho7)
    | (rw [if_neg (show ¬ (¬ XS.length = 118 ∨ 118 < XS.length) by rw [HX1.out]; decide), fold_zip XS _ (by rw [HX1.out]; rfl)]))
   all_goals
    have HBW7 := hid (HBW.out.trans (HB7.out.mono HBW.out.size))
    have HR1 := hid (ints_blk HK7.out (Nat.le_succ n) HO7.out)
    have HR2 := hid (ints_blk (HVU.out.below (HBV.out.trans (HB7.out.mono HBV.out.size)) HVU.out.lt) (Nat.le_refl n) (fun _ _ => rfl))
    have cS := hid (fun W (h : Below W7.heap.size W7 W) => same_yes ((List.range n).map (numO D L)) n (by simp) (by omega) _ _ (n + 1) n W (HR1.out.keep h h.size) (HR2.out.keep h h.size))
    have HBf := hid (Below.refl W7.heap.size W7)
    have hcast : (((n + 1 : Nat) : Int) == (n : Int) + 1) = true := by simp
    have hcast2 : (((n : Int) + 1) == (n : Int) + 1) = true := by simp
    have hle : (n : Int) <= ((n + 1 : Nat) : Int) := by omega
    have hle2 : (n : Int) <= (n : Int) + 1 := by omega
    go_wp2_with (go_at_call 9; refine (cS.out _ (by first | exact HBf.out | exact HBf.out.drew)).mono ?_; rintro e W8 ⟨rfl, hb8⟩; have HB8 := hid (tb HBW7 hb8); clear hb8)
    go_ret
    exact ⟨rfl, HB8.out⟩
end doc
end Go.Proofs.YthgffoanecknoaaGreatDoor
