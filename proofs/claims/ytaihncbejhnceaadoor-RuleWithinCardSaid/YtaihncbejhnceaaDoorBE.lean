/- Contracts and plain law, a bundle: Rul10 RulDA RulDB RulDC. -/
import Derived.Deep.RegionWith
import Derived.Test.YtaihncbejhnceaaDoorBD

namespace Go.Proofs.YtaihncbejhnceaaDoor.rul
open Go.RowKit Go.Proofs.YtaihncbejhnceaaDoor.base Go.Proofs.YtaihncbejhnceaaDoor.tok
set_option linter.unusedVariables false

theorem imp_sub (L : List Tk) : ((impP L).1).Sublist L := by
  have key : ∀ M : List Tk, ((impM M).1).Sublist M := by
    intro M
    unfold impM
    split
    · exact List.Sublist.refl _
    · split
      · exact List.Sublist.refl _
      · split
        · split
          · exact List.Sublist.refl _
          · split
            · exact ((solid_sub _).trans (List.dropLast_sublist _)).trans ((solid_sub _).trans (List.dropLast_sublist _))
            · exact List.Sublist.refl _
        · exact List.Sublist.refl _
  exact (key _).trans (solid_sub L)
theorem DI.drew {w W1 X : World} {nm vl im : Value} (h : DI w W1 X nm vl im) : DI w W1 X.drew nm vl im := ⟨h.1.drew, h.2.1.drew, h.2.2.1.drew, h.2.2.2.1.drew, h.2.2.2.2⟩
/-- what the walk holds of such a world -/
theorem DI.held {w W1 X : World} {nm vl im : Value} (h : DI w W1 X nm vl im) : (∀ i, X.cell? ⟨W1.heap.size, i, none⟩ = (#[nm, vl, im] : Array Value)[i]?) ∧ Below w.heap.size w X := ⟨h.cells.1, h.1⟩
theorem DI.stored {w W1 X : World} {nm vl im : Value} (h : DI w W1 X nm vl im) (a b c : Value) : (∀ i, (((X.setCell ⟨w.heap.size, 0, none⟩ a).setCell ⟨w.heap.size, 1, none⟩ b).setCell ⟨w.heap.size, 2, none⟩ c).cell? ⟨W1.heap.size, i, none⟩ = (#[nm, vl, im] : Array Value)[i]?) ∧ Below w.heap.size w (((X.setCell ⟨w.heap.size, 0, none⟩ a).setCell ⟨w.heap.size, 1, none⟩ b).setCell ⟨w.heap.size, 2, none⟩ c) :=
  ⟨(((h.2.2.2.1.far (Nat.ne_of_gt h.2.2.2.2) a).far (Nat.ne_of_gt h.2.2.2.2) b).far (Nat.ne_of_gt h.2.2.2.2) c).cell, ((h.1.setCell (Nat.le_refl _) a).setCell (Nat.le_refl _) b).setCell (Nat.le_refl _) c⟩

end Go.Proofs.YtaihncbejhnceaaDoor.rul

namespace Go.Proofs.YtaihncbejhnceaaDoor.rul
open Go.RowKit Go.Proofs.YtaihncbejhnceaaDoor.base Go.Proofs.YtaihncbejhnceaaDoor.tok
set_option linter.unusedVariables false

set_option maxRecDepth 100000 in
set_option maxHeartbeats 4000000 in
theorem decl_T_true (v : Value) (L : List Tk) (w : World) (tr tv : Bs) (tn : Int) (r : List Tk) (hM : solidP L = ⟨1, tr, tv, tn⟩ :: r) (ho : ownP tv = true) (c : Tk) (r2 : List Tk) (hR : solidP r = c :: r2) (hc : colonP c = true) (hp : plainP tv = true) (hfa : fairP (impP r2).1 = true) (hf : Fit L) (hL : TS w v L) (hF : FoldAt w) (hm : MaxL w) :
    Calls Tryd.prog 156 #[v] w fun e w' => e = .returned (.tuple #[.agg (Dc.mk tv (headP (impP r2).1) (impP r2).2).cells, .bool true]) ∧ Below w.heap.size w w' := by
  have cS1 := Lib.hid (fun X hX => solid_ct v L w X hf.1 hL hX)
  rw [hM] at cS1
  have hfM := hf.sub (solid_sub L)
  rw [hM] at hfM
  have hfr : Fit r := hfM.sub (List.sublist_cons_self _ _)
  have ht3 := (hfM.2.2 _ (List.mem_cons_self ..)).2.2
  simp only at ht3
  have cS2 := Lib.hid (fun (X : World) (v2 : Value) (h2 : TS w v2 r) (hX : Below w.heap.size w X) => solid_ct v2 r w X hfr.1 h2 hX)
  have cH := fun X => hasP_ct tv X
  rw [ho] at cH
  replace cH := Lib.hid cH
  have HM := Lib.hid hm
  have HF := Lib.hid hF
  have hz : ((r.length : Int) + 1 == 0) = false := by simp; omega
  have hz2 : (0 : Int) < (r.length : Int) + 1 := by omega
  rw [hR] at cS2
  have hfR := hfr.sub (solid_sub r)
  rw [hR] at hfR
  have hfr2 : Fit r2 := hfR.sub (List.sublist_cons_self _ _)
  have hy : ((r2.length : Int) + 1 == 0) = false := by simp; omega
  have hy2 : (0 : Int) < (r2.length : Int) + 1 := by omega
  obtain ⟨ck, cr, cv, cn⟩ := c
  have cC := Lib.hid (fun X => asks_at colon_ct hc X)
  have cP := fun X hX => plain_ct tv (by omega) X hX
  rw [hp] at cP
  replace cP := Lib.hid cP
  have hfl : Fit (impP r2).1 := hfr2.sub (imp_sub r2)
  have cI := fun (X : World) (v : Value) (h : TS w v r2) (hX : Below w.heap.size w X) (hF : FoldAt X) => imp_ct v r2 w X hfr2 h hX hF
  generalize hIm : impP r2 = I at *
  obtain ⟨l, im⟩ := I
  simp only at hfl cI hfa ⊢
  replace cI := Lib.hid cI
  have cHd := fun (X : World) (v : Value) (h : TS X v l) => head_ct v l X hfl.1 h hfl.2.1
  have cF := fun (X : World) (v : Value) (h : TS X v l) => fair_ct l.length v l X (Nat.le_refl _) hfl h
  rw [hfa] at cF
  generalize hVl : headP l = vl at *
  replace cHd := Lib.hid cHd
  replace cF := Lib.hid cF
  clear hL hF hf hm hM hfM hfr ho ht3 hR hfR hfr2 hc hp hfa hfl hIm hVl
  go_enter Tryd.func156, Tryd.ntmps156
  go_wp2_with (first
    | (go_at_call 63; (with_reducible refine (cS1.out _ ((Below.refl _ _).alloc (Nat.le_refl _) _)).mono ?_); rintro e W1 ⟨⟨v1, rfl, hts1⟩, hb1⟩; have HB1 := Lib.hid (((Below.refl w.heap.size w).alloc (Nat.le_refl _) _).trans (hb1.mono (by simp))); have hR1 := (Blk.new (w := w) (t := 65) (cs := #[.string .empty, .string .empty, .bool false]) rfl).below hb1 (by simp); have fR1 := hR1.frozen; have cR1 := hR1.cell; have HR1 := Lib.hid hR1; obtain ⟨A1, cap1, rfl, hc1, hr1⟩ := hts1; obtain ⟨b1l, o1, rfl, hbl1, e0, e1, e2, e3⟩ := tok_zero (Rd.keep hr1 HB1.out HB1.out.size) (by simp); have HT2 := Lib.hid (show TS w (.slice (addrAt 4 (some ⟨b1l, o1, none⟩) cap1 1) r.length (cap1 - 1)) r from ts_from hr1 hc1 (i := 1) (by simp)); have hsl1 := slice_one (some ⟨b1l, o1, none⟩) r.length cap1; have D1 := Lib.hid (DI.new HB1.out HR1.out (.string (bs tv)) (.string ⟨#[]⟩) (.bool false)); have d1c := D1.out.cells.1; have d1f := D1.out.cells.2.1; have d1r := D1.out.cells.2.2.1; have d1q := D1.out.cells.2.2.2; clear hr1; clear hb1 hR1)
    | (go_at_call 120; (with_reducible refine (cH.out _).mono ?_); rintro e Wh ⟨rfl, rfl⟩)
    | (go_at_call 63; (with_reducible refine (cS2.out _ _ HT2.out D1.out.bel).mono ?_); rintro e W3 ⟨⟨v3, rfl, hts3⟩, hb3⟩; have D3 := Lib.hid (D1.out.on hb3); have d3c := D3.out.cells.1; have d3f := D3.out.cells.2.1; have d3r := D3.out.cells.2.2.1; have d3q := D3.out.cells.2.2.2; obtain ⟨A3, cap3, rfl, hc3, hr3⟩ := hts3; obtain ⟨b3l, o3, rfl, hbl3, f0, f1, f2, f3⟩ := tok_zero (Rd.keep hr3 D3.out.bel D3.out.bel.size) (by simp); have HT3 := Lib.hid (show TS w (.slice (addrAt 4 (some ⟨b3l, o3, none⟩) cap3 1) r2.length (cap3 - 1)) r2 from ts_from hr3 hc3 (i := 1) (by simp)); have hsl3 := slice_one (some ⟨b3l, o3, none⟩) r2.length cap3; clear hb3 hr3 d1c d1f d1r d1q)
    | (go_at_call 189; (with_reducible refine (cC.out _).mono ?_); rintro e W4 ⟨rfl, hb4⟩; have D4 := Lib.hid (D3.out.on hb4); have d4c := D4.out.cells.1; have d4f := D4.out.cells.2.1; have d4r := D4.out.cells.2.2.1; have d4q := D4.out.cells.2.2.2; clear hb4 f0 f1 f2 f3 d3c d3f d3r d3q)
    | (go_at_call 190; (with_reducible refine (cP.out _ (HM.out.on D4.out.bel HM.out.lt)).mono ?_); rintro e W5 ⟨rfl, hb5⟩; have D5 := Lib.hid (D4.out.on hb5); have d5c := D5.out.cells.1; have d5f := D5.out.cells.2.1; have d5r := D5.out.cells.2.2.1; have d5q := D5.out.cells.2.2.2; clear hb5 d4c d4f d4r d4q)
    | (go_at_call 191; (with_reducible refine (cI.out _ _ HT3.out D5.out.bel (HF.out.on D5.out.bel)).mono ?_); rintro e W6 ⟨⟨v6, rfl, hts6⟩, hb6⟩; have D6 := Lib.hid (D5.out.on hb6); have d6c := D6.out.cells.1; have d6f := D6.out.cells.2.1; have d6r := D6.out.cells.2.2.1; have d6q := D6.out.cells.2.2.2; have HT6 := Lib.hid hts6; clear hb6 hts6 d5c d5f d5r d5q)
    | (go_at_call 107; (with_reducible refine (cHd.out _ _ (HT6.out.on (D6.out.put2 _).bel)).mono ?_); rintro e W7 ⟨rfl, hb7⟩; have D7 := Lib.hid ((D6.out.put2 _).on hb7); have d7c := D7.out.cells.1; have d7f := D7.out.cells.2.1; have d7r := D7.out.cells.2.2.1; have d7q := D7.out.cells.2.2.2; clear hb7 d6c d6f d6r d6q))
  generalize hV : W7.setCell ⟨W1.heap.size, 1, none⟩ (.string (bs vl)) = V
  have D8 := Lib.hid (show DI w W1 V (.string (bs tv)) (.string (bs vl)) (.bool im) by subst hV; exact D7.out.put1 _)
  have HTd := Lib.hid (show TS V.drew v6 l from HT6.out.on D8.out.drew.bel)
  clear hV d7c d7f d7r d7q
  have d8c := D8.out.drew.cells.1
  first | (go_region_with (first | (go_at_call 192; (with_reducible refine (cF.out _ _ HTd.out).mono ?_); rintro e W9 ⟨rfl, hb9⟩; have D9 := Lib.hid (D8.out.drew.on hb9); have d9c := D9.out.cells.1; have d9r := D9.out.cells.2.2.1; have d9q := D9.out.cells.2.2.2; have d9s := fun a b c => (D9.out.stored a b c).1; clear hb9))) | fail
  all_goals
    go_wp2
    have e := (D9.out.fin (.string (bs tv)) (.string (bs vl)) (.bool im)).1
    refine bodyPost_ret (v := .tuple #[.agg #[.string (bs tv), .string (bs vl), .bool im], .bool true]) (by simp [results, Tryd.results156, go_sem, e]) rfl ⟨rfl, ?_⟩
    exact (D9.out.fin (.string (bs tv)) (.string (bs vl)) (.bool im)).2

end Go.Proofs.YtaihncbejhnceaaDoor.rul

namespace Go.Proofs.YtaihncbejhnceaaDoor.rul
open Go.RowKit Go.Proofs.YtaihncbejhnceaaDoor.base Go.Proofs.YtaihncbejhnceaaDoor.tok
set_option linter.unusedVariables false

set_option maxRecDepth 100000 in
set_option maxHeartbeats 4000000 in
theorem decl_F_true (v : Value) (L : List Tk) (w : World) (tr tv : Bs) (tn : Int) (r : List Tk) (hM : solidP L = ⟨1, tr, tv, tn⟩ :: r) (ho : ownP tv = true) (c : Tk) (r2 : List Tk) (hR : solidP r = c :: r2) (hc : colonP c = true) (hp : plainP tv = true) (hfa : fairP (impP r2).1 = false) (hf : Fit L) (hL : TS w v L) (hF : FoldAt w) (hm : MaxL w) :
    Calls Tryd.prog 156 #[v] w fun e w' => e = .returned (.tuple #[.agg (Dc.mk tv (headP (impP r2).1) (impP r2).2).cells, .bool false]) ∧ Below w.heap.size w w' := by
  have cS1 := Lib.hid (fun X hX => solid_ct v L w X hf.1 hL hX)
  rw [hM] at cS1
  have hfM := hf.sub (solid_sub L)
  rw [hM] at hfM
  have hfr : Fit r := hfM.sub (List.sublist_cons_self _ _)
  have ht3 := (hfM.2.2 _ (List.mem_cons_self ..)).2.2
  simp only at ht3
  have cS2 := Lib.hid (fun (X : World) (v2 : Value) (h2 : TS w v2 r) (hX : Below w.heap.size w X) => solid_ct v2 r w X hfr.1 h2 hX)
  have cH := fun X => hasP_ct tv X
  rw [ho] at cH
  replace cH := Lib.hid cH
  have HM := Lib.hid hm
  have HF := Lib.hid hF
  have hz : ((r.length : Int) + 1 == 0) = false := by simp; omega
  have hz2 : (0 : Int) < (r.length : Int) + 1 := by omega
  rw [hR] at cS2
  have hfR := hfr.sub (solid_sub r)
  rw [hR] at hfR
  have hfr2 : Fit r2 := hfR.sub (List.sublist_cons_self _ _)
  have hy : ((r2.length : Int) + 1 == 0) = false := by simp; omega
  have hy2 : (0 : Int) < (r2.length : Int) + 1 := by omega
  obtain ⟨ck, cr, cv, cn⟩ := c
  have cC := Lib.hid (fun X => asks_at colon_ct hc X)
  have cP := fun X hX => plain_ct tv (by omega) X hX
  rw [hp] at cP
  replace cP := Lib.hid cP
  have hfl : Fit (impP r2).1 := hfr2.sub (imp_sub r2)
  have cI := fun (X : World) (v : Value) (h : TS w v r2) (hX : Below w.heap.size w X) (hF : FoldAt X) => imp_ct v r2 w X hfr2 h hX hF
  generalize hIm : impP r2 = I at *
  obtain ⟨l, im⟩ := I
  simp only at hfl cI hfa ⊢
  replace cI := Lib.hid cI
  have cHd := fun (X : World) (v : Value) (h : TS X v l) => head_ct v l X hfl.1 h hfl.2.1
  have cF := fun (X : World) (v : Value) (h : TS X v l) => fair_ct l.length v l X (Nat.le_refl _) hfl h
  rw [hfa] at cF
  generalize hVl : headP l = vl at *
  replace cHd := Lib.hid cHd
  replace cF := Lib.hid cF
  clear hL hF hf hm hM hfM hfr ho ht3 hR hfR hfr2 hc hp hfa hfl hIm hVl
  go_enter Tryd.func156, Tryd.ntmps156
  go_wp2_with (first
    | (go_at_call 63; (with_reducible refine (cS1.out _ ((Below.refl _ _).alloc (Nat.le_refl _) _)).mono ?_); rintro e W1 ⟨⟨v1, rfl, hts1⟩, hb1⟩; have HB1 := Lib.hid (((Below.refl w.heap.size w).alloc (Nat.le_refl _) _).trans (hb1.mono (by simp))); have hR1 := (Blk.new (w := w) (t := 65) (cs := #[.string .empty, .string .empty, .bool false]) rfl).below hb1 (by simp); have fR1 := hR1.frozen; have cR1 := hR1.cell; have HR1 := Lib.hid hR1; obtain ⟨A1, cap1, rfl, hc1, hr1⟩ := hts1; obtain ⟨b1l, o1, rfl, hbl1, e0, e1, e2, e3⟩ := tok_zero (Rd.keep hr1 HB1.out HB1.out.size) (by simp); have HT2 := Lib.hid (show TS w (.slice (addrAt 4 (some ⟨b1l, o1, none⟩) cap1 1) r.length (cap1 - 1)) r from ts_from hr1 hc1 (i := 1) (by simp)); have hsl1 := slice_one (some ⟨b1l, o1, none⟩) r.length cap1; have D1 := Lib.hid (DI.new HB1.out HR1.out (.string (bs tv)) (.string ⟨#[]⟩) (.bool false)); have d1c := D1.out.cells.1; have d1f := D1.out.cells.2.1; have d1r := D1.out.cells.2.2.1; have d1q := D1.out.cells.2.2.2; clear hr1; clear hb1 hR1)
    | (go_at_call 120; (with_reducible refine (cH.out _).mono ?_); rintro e Wh ⟨rfl, rfl⟩)
    | (go_at_call 63; (with_reducible refine (cS2.out _ _ HT2.out D1.out.bel).mono ?_); rintro e W3 ⟨⟨v3, rfl, hts3⟩, hb3⟩; have D3 := Lib.hid (D1.out.on hb3); have d3c := D3.out.cells.1; have d3f := D3.out.cells.2.1; have d3r := D3.out.cells.2.2.1; have d3q := D3.out.cells.2.2.2; obtain ⟨A3, cap3, rfl, hc3, hr3⟩ := hts3; obtain ⟨b3l, o3, rfl, hbl3, f0, f1, f2, f3⟩ := tok_zero (Rd.keep hr3 D3.out.bel D3.out.bel.size) (by simp); have HT3 := Lib.hid (show TS w (.slice (addrAt 4 (some ⟨b3l, o3, none⟩) cap3 1) r2.length (cap3 - 1)) r2 from ts_from hr3 hc3 (i := 1) (by simp)); have hsl3 := slice_one (some ⟨b3l, o3, none⟩) r2.length cap3; clear hb3 hr3 d1c d1f d1r d1q)
    | (go_at_call 189; (with_reducible refine (cC.out _).mono ?_); rintro e W4 ⟨rfl, hb4⟩; have D4 := Lib.hid (D3.out.on hb4); have d4c := D4.out.cells.1; have d4f := D4.out.cells.2.1; have d4r := D4.out.cells.2.2.1; have d4q := D4.out.cells.2.2.2; clear hb4 f0 f1 f2 f3 d3c d3f d3r d3q)
    | (go_at_call 190; (with_reducible refine (cP.out _ (HM.out.on D4.out.bel HM.out.lt)).mono ?_); rintro e W5 ⟨rfl, hb5⟩; have D5 := Lib.hid (D4.out.on hb5); have d5c := D5.out.cells.1; have d5f := D5.out.cells.2.1; have d5r := D5.out.cells.2.2.1; have d5q := D5.out.cells.2.2.2; clear hb5 d4c d4f d4r d4q)
    | (go_at_call 191; (with_reducible refine (cI.out _ _ HT3.out D5.out.bel (HF.out.on D5.out.bel)).mono ?_); rintro e W6 ⟨⟨v6, rfl, hts6⟩, hb6⟩; have D6 := Lib.hid (D5.out.on hb6); have d6c := D6.out.cells.1; have d6f := D6.out.cells.2.1; have d6r := D6.out.cells.2.2.1; have d6q := D6.out.cells.2.2.2; have HT6 := Lib.hid hts6; clear hb6 hts6 d5c d5f d5r d5q)
    | (go_at_call 107; (with_reducible refine (cHd.out _ _ (HT6.out.on (D6.out.put2 _).bel)).mono ?_); rintro e W7 ⟨rfl, hb7⟩; have D7 := Lib.hid ((D6.out.put2 _).on hb7); have d7c := D7.out.cells.1; have d7f := D7.out.cells.2.1; have d7r := D7.out.cells.2.2.1; have d7q := D7.out.cells.2.2.2; clear hb7 d6c d6f d6r d6q))
  generalize hV : W7.setCell ⟨W1.heap.size, 1, none⟩ (.string (bs vl)) = V
  have D8 := Lib.hid (show DI w W1 V (.string (bs tv)) (.string (bs vl)) (.bool im) by subst hV; exact D7.out.put1 _)
  have HTd := Lib.hid (show TS V.drew v6 l from HT6.out.on D8.out.drew.bel)
  clear hV d7c d7f d7r d7q
  have d8c := D8.out.drew.cells.1
  have hu : (undef : Value) = .tuple #[] := rfl
  first | (go_region_with (first | (go_at_call 192; (with_reducible refine (cF.out _ _ HTd.out).mono ?_); rintro e W9 ⟨rfl, hb9⟩; have D9 := Lib.hid (D8.out.drew.on hb9); have d9c := D9.out.cells.1; have d9r := D9.out.cells.2.2.1; have d9q := D9.out.cells.2.2.2; have d9s := fun a b c => (D9.out.stored a b c).1; clear hb9))) | fail
  all_goals
    go_wp2
    have e := (D9.out.fin (.string (bs tv)) (.string (bs vl)) (.bool im)).1
    refine bodyPost_ret (v := .tuple #[.agg #[.string (bs tv), .string (bs vl), .bool im], .bool false]) (by simp [results, Tryd.results156, go_sem, e]) rfl ⟨rfl, ?_⟩
    exact (D9.out.fin (.string (bs tv)) (.string (bs vl)) (.bool im)).2

end Go.Proofs.YtaihncbejhnceaaDoor.rul

namespace Go.Proofs.YtaihncbejhnceaaDoor.rul
open Go.RowKit Go.Proofs.YtaihncbejhnceaaDoor.base Go.Proofs.YtaihncbejhnceaaDoor.tok
set_option linter.unusedVariables false

set_option maxRecDepth 100000 in
set_option maxHeartbeats 4000000 in
theorem decl_F_false (v : Value) (L : List Tk) (w : World) (tr tv : Bs) (tn : Int) (r : List Tk) (hM : solidP L = ⟨1, tr, tv, tn⟩ :: r) (ho : ownP tv = false) (c : Tk) (r2 : List Tk) (hR : solidP r = c :: r2) (hc : colonP c = true) (hp : plainP (tv.map lowB) = true) (hfa : fairP (impP r2).1 = false) (hf : Fit L) (hL : TS w v L) (hF : FoldAt w) (hm : MaxL w) :
    Calls Tryd.prog 156 #[v] w fun e w' => e = .returned (.tuple #[.agg (Dc.mk (tv.map lowB) (headP (impP r2).1) (impP r2).2).cells, .bool false]) ∧ Below w.heap.size w w' := by
  have cS1 := Lib.hid (fun X hX => solid_ct v L w X hf.1 hL hX)
  rw [hM] at cS1
  have hfM := hf.sub (solid_sub L)
  rw [hM] at hfM
  have hfr : Fit r := hfM.sub (List.sublist_cons_self _ _)
  have ht3 := (hfM.2.2 _ (List.mem_cons_self ..)).2.2
  simp only at ht3
  have cS2 := Lib.hid (fun (X : World) (v2 : Value) (h2 : TS w v2 r) (hX : Below w.heap.size w X) => solid_ct v2 r w X hfr.1 h2 hX)
  have cH := fun X => hasP_ct tv X
  rw [ho] at cH
  replace cH := Lib.hid cH
  have HM := Lib.hid hm
  have HF := Lib.hid hF
  have cL := Lib.hid (fun X => show Calls Tryd.prog 188 #[.string (bs tv)] X fun e w' => e = .returned (.string (bs (tv.map lowB))) ∧ Below X.heap.size X w' from lower_ct (bs tv) (by rw [bs_size]; omega) X)
  have hz : ((r.length : Int) + 1 == 0) = false := by simp; omega
  have hz2 : (0 : Int) < (r.length : Int) + 1 := by omega
  rw [hR] at cS2
  have hfR := hfr.sub (solid_sub r)
  rw [hR] at hfR
  have hfr2 : Fit r2 := hfR.sub (List.sublist_cons_self _ _)
  have hy : ((r2.length : Int) + 1 == 0) = false := by simp; omega
  have hy2 : (0 : Int) < (r2.length : Int) + 1 := by omega
  obtain ⟨ck, cr, cv, cn⟩ := c
  have cC := Lib.hid (fun X => asks_at colon_ct hc X)
  have cP := fun X hX => plain_ct (tv.map lowB) (by rw [List.length_map]; omega) X hX
  rw [hp] at cP
  replace cP := Lib.hid cP
  have hfl : Fit (impP r2).1 := hfr2.sub (imp_sub r2)
  have cI := fun (X : World) (v : Value) (h : TS w v r2) (hX : Below w.heap.size w X) (hF : FoldAt X) => imp_ct v r2 w X hfr2 h hX hF
  generalize hIm : impP r2 = I at *
  obtain ⟨l, im⟩ := I
  simp only at hfl cI hfa ⊢
  replace cI := Lib.hid cI
  have cHd := fun (X : World) (v : Value) (h : TS X v l) => head_ct v l X hfl.1 h hfl.2.1
  have cF := fun (X : World) (v : Value) (h : TS X v l) => fair_ct l.length v l X (Nat.le_refl _) hfl h
  rw [hfa] at cF
  generalize hVl : headP l = vl at *
  replace cHd := Lib.hid cHd
  replace cF := Lib.hid cF
  clear hL hF hf hm hM hfM hfr ho ht3 hR hfR hfr2 hc hp hfa hfl hIm hVl
  go_enter Tryd.func156, Tryd.ntmps156
  go_wp2_with (first
    | (go_at_call 63; (with_reducible refine (cS1.out _ ((Below.refl _ _).alloc (Nat.le_refl _) _)).mono ?_); rintro e W1 ⟨⟨v1, rfl, hts1⟩, hb1⟩; have HB1 := Lib.hid (((Below.refl w.heap.size w).alloc (Nat.le_refl _) _).trans (hb1.mono (by simp))); have hR1 := (Blk.new (w := w) (t := 65) (cs := #[.string .empty, .string .empty, .bool false]) rfl).below hb1 (by simp); have fR1 := hR1.frozen; have cR1 := hR1.cell; have HR1 := Lib.hid hR1; obtain ⟨A1, cap1, rfl, hc1, hr1⟩ := hts1; obtain ⟨b1l, o1, rfl, hbl1, e0, e1, e2, e3⟩ := tok_zero (Rd.keep hr1 HB1.out HB1.out.size) (by simp); have HT2 := Lib.hid (show TS w (.slice (addrAt 4 (some ⟨b1l, o1, none⟩) cap1 1) r.length (cap1 - 1)) r from ts_from hr1 hc1 (i := 1) (by simp)); have hsl1 := slice_one (some ⟨b1l, o1, none⟩) r.length cap1; have D1 := Lib.hid (DI.new HB1.out HR1.out (.string (bs tv)) (.string ⟨#[]⟩) (.bool false)); have d1c := D1.out.cells.1; have d1f := D1.out.cells.2.1; have d1r := D1.out.cells.2.2.1; have d1q := D1.out.cells.2.2.2; clear hr1; clear hb1 hR1)
    | (go_at_call 120; (with_reducible refine (cH.out _).mono ?_); rintro e Wh ⟨rfl, rfl⟩)
    | (go_at_call 188; (with_reducible refine (cL.out _).mono ?_); rintro e W2 ⟨rfl, hb2⟩; have D2 := Lib.hid (D1.out.on hb2); have d2c := D2.out.cells.1; have d2f := D2.out.cells.2.1; have d2r := D2.out.cells.2.2.1; have d2q := D2.out.cells.2.2.2; clear hb2 d1c d1f d1r d1q)
    | (go_at_call 63; (with_reducible refine (cS2.out _ _ HT2.out (D2.out.put0 _).bel).mono ?_); rintro e W3 ⟨⟨v3, rfl, hts3⟩, hb3⟩; have D3 := Lib.hid ((D2.out.put0 _).on hb3); have d3c := D3.out.cells.1; have d3f := D3.out.cells.2.1; have d3r := D3.out.cells.2.2.1; have d3q := D3.out.cells.2.2.2; obtain ⟨A3, cap3, rfl, hc3, hr3⟩ := hts3; obtain ⟨b3l, o3, rfl, hbl3, f0, f1, f2, f3⟩ := tok_zero (Rd.keep hr3 D3.out.bel D3.out.bel.size) (by simp); have HT3 := Lib.hid (show TS w (.slice (addrAt 4 (some ⟨b3l, o3, none⟩) cap3 1) r2.length (cap3 - 1)) r2 from ts_from hr3 hc3 (i := 1) (by simp)); have hsl3 := slice_one (some ⟨b3l, o3, none⟩) r2.length cap3; clear hb3 hr3 d2c d2f d2r d2q)
    | (go_at_call 189; (with_reducible refine (cC.out _).mono ?_); rintro e W4 ⟨rfl, hb4⟩; have D4 := Lib.hid (D3.out.on hb4); have d4c := D4.out.cells.1; have d4f := D4.out.cells.2.1; have d4r := D4.out.cells.2.2.1; have d4q := D4.out.cells.2.2.2; clear hb4 f0 f1 f2 f3 d3c d3f d3r d3q)
    | (go_at_call 190; (with_reducible refine (cP.out _ (HM.out.on D4.out.bel HM.out.lt)).mono ?_); rintro e W5 ⟨rfl, hb5⟩; have D5 := Lib.hid (D4.out.on hb5); have d5c := D5.out.cells.1; have d5f := D5.out.cells.2.1; have d5r := D5.out.cells.2.2.1; have d5q := D5.out.cells.2.2.2; clear hb5 d4c d4f d4r d4q)
    | (go_at_call 191; (with_reducible refine (cI.out _ _ HT3.out D5.out.bel (HF.out.on D5.out.bel)).mono ?_); rintro e W6 ⟨⟨v6, rfl, hts6⟩, hb6⟩; have D6 := Lib.hid (D5.out.on hb6); have d6c := D6.out.cells.1; have d6f := D6.out.cells.2.1; have d6r := D6.out.cells.2.2.1; have d6q := D6.out.cells.2.2.2; have HT6 := Lib.hid hts6; clear hb6 hts6 d5c d5f d5r d5q)
    | (go_at_call 107; (with_reducible refine (cHd.out _ _ (HT6.out.on (D6.out.put2 _).bel)).mono ?_); rintro e W7 ⟨rfl, hb7⟩; have D7 := Lib.hid ((D6.out.put2 _).on hb7); have d7c := D7.out.cells.1; have d7f := D7.out.cells.2.1; have d7r := D7.out.cells.2.2.1; have d7q := D7.out.cells.2.2.2; clear hb7 d6c d6f d6r d6q))
  generalize hV : W7.setCell ⟨W1.heap.size, 1, none⟩ (.string (bs vl)) = V
  have D8 := Lib.hid (show DI w W1 V (.string (bs (tv.map lowB))) (.string (bs vl)) (.bool im) by subst hV; exact D7.out.put1 _)
  have HTd := Lib.hid (show TS V.drew v6 l from HT6.out.on D8.out.drew.bel)
  clear hV d7c d7f d7r d7q
  have d8c := D8.out.drew.cells.1
  have hu : (undef : Value) = .tuple #[] := rfl
  first | (go_region_with (first | (go_at_call 192; (with_reducible refine (cF.out _ _ HTd.out).mono ?_); rintro e W9 ⟨rfl, hb9⟩; have D9 := Lib.hid (D8.out.drew.on hb9); have d9c := D9.out.cells.1; have d9r := D9.out.cells.2.2.1; have d9q := D9.out.cells.2.2.2; have d9s := fun a b c => (D9.out.stored a b c).1; clear hb9))) | fail
  all_goals
    go_wp2
    have e := (D9.out.fin (.string (bs (tv.map lowB))) (.string (bs vl)) (.bool im)).1
    refine bodyPost_ret (v := .tuple #[.agg #[.string (bs (tv.map lowB)), .string (bs vl), .bool im], .bool false]) (by simp [results, Tryd.results156, go_sem, e]) rfl ⟨rfl, ?_⟩
    exact (D9.out.fin (.string (bs (tv.map lowB))) (.string (bs vl)) (.bool im)).2

end Go.Proofs.YtaihncbejhnceaaDoor.rul
