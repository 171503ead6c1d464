/- Contracts and plain law, a bundle: RulDD RulDE Rul11 Rul12 RulL0 Rul13 Rul14 Rul15. -/
import Derived.Laws.StructEq
import Derived.Test.YtaihncbejhnceaaDoorBE
import Derived.Test.YtaihncbejhnceaaDoorBD
import Derived.Test.YtaihncbejhnceaaDoorBC

namespace Go.Proofs.YtaihncbejhnceaaDoor.rul
open Go.RowKit Go.Proofs.YtaihncbejhnceaaDoor.base Go.Proofs.YtaihncbejhnceaaDoor.tok
set_option linter.unusedVariables false

set_option maxRecDepth 100000 in
set_option maxHeartbeats 4000000 in
theorem decl_TE_false (v : Value) (L : List Tk) (w : World) (tr tv : Bs) (tn : Int) (r : List Tk) (hM : solidP L = ⟨1, tr, tv, tn⟩ :: r) (ho : ownP tv = false) (c : Tk) (r2 : List Tk) (hR : solidP r = c :: r2) (hc : colonP c = true) (hp : plainP (tv.map lowB) = true) (hfa : fairP (impP r2).1 = true) (hve : headP (impP r2).1 = []) (hf : Fit L) (hL : TS w v L) (hF : FoldAt w) (hm : MaxL w) :
    Calls Tryd.prog 156 #[v] w fun e w' => e = .returned (.tuple #[.agg (Dc.mk (tv.map lowB) (headP (impP r2).1) (impP r2).2).cells, .bool false]) ∧ Below w.heap.size w w' := by
  have cS1 := Lib.hid (fun X hX => solid_ct v L w X hf.1 hL hX)
  rw [hM] at cS1
  have hfM := hf.sub (solid_sub L)
  rw [hM] at hfM
  have hfr : Fit r := hfM.sub (List.sublist_cons_self _ _)
  have ht3 := (hfM.2.2 _ (List.mem_cons_self ..)).2.2
  simp only at ht3
  have cS2 := Lib.hid (fun (X : World) (v2 : Value) (h2 : TS w v2 r) (hX : Below w.heap.size w X) => solid_ct v2 r w X hfr.1 h2 hX)
  have cH := fun X => hasP_ct tv X
  rw [ho] at cH
  replace cH := Lib.hid cH
  have HM := Lib.hid hm
  have HF := Lib.hid hF
  have cL := Lib.hid (fun X => show Calls Tryd.prog 188 #[.string (bs tv)] X fun e w' => e = .returned (.string (bs (tv.map lowB))) ∧ Below X.heap.size X w' from lower_ct (bs tv) (by rw [bs_size]; omega) X)
  have hz : ((r.length : Int) + 1 == 0) = false := by simp; omega
  have hz2 : (0 : Int) < (r.length : Int) + 1 := by omega
  rw [hR] at cS2
  have hfR := hfr.sub (solid_sub r)
  rw [hR] at hfR
  have hfr2 : Fit r2 := hfR.sub (List.sublist_cons_self _ _)
  have hy : ((r2.length : Int) + 1 == 0) = false := by simp; omega
  have hy2 : (0 : Int) < (r2.length : Int) + 1 := by omega
  obtain ⟨ck, cr, cv, cn⟩ := c
  have cC := Lib.hid (fun X => asks_at colon_ct hc X)
  have cP := fun X hX => plain_ct (tv.map lowB) (by rw [List.length_map]; omega) X hX
  rw [hp] at cP
  replace cP := Lib.hid cP
  have hfl : Fit (impP r2).1 := hfr2.sub (imp_sub r2)
  have cI := fun (X : World) (v : Value) (h : TS w v r2) (hX : Below w.heap.size w X) (hF : FoldAt X) => imp_ct v r2 w X hfr2 h hX hF
  generalize hIm : impP r2 = I at *
  obtain ⟨l, im⟩ := I
  simp only at hfl cI hfa hve ⊢
  replace cI := Lib.hid cI
  have cHd := fun (X : World) (v : Value) (h : TS X v l) => head_ct v l X hfl.1 h hfl.2.1
  have cF := fun (X : World) (v : Value) (h : TS X v l) => fair_ct l.length v l X (Nat.le_refl _) hfl h
  rw [hfa] at cF
  generalize hVl : headP l = vl at *
  replace cHd := Lib.hid cHd
  replace cF := Lib.hid cF
  have hemp : (bs vl).toList = [] := by rw [bs_toList, hve]
  have hemp2 : (bs vl).toList.isEmpty = true := by rw [hemp]; rfl
  clear hve hemp
  clear hL hF hf hm hM hfM hfr ho ht3 hR hfR hfr2 hc hp hfa hfl hIm hVl
  go_enter Tryd.func156, Tryd.ntmps156
  go_wp2_with (first
    | (go_at_call 63; (with_reducible refine (cS1.out _ ((Below.refl _ _).alloc (Nat.le_refl _) _)).mono ?_); rintro e W1 ⟨⟨v1, rfl, hts1⟩, hb1⟩; have HB1 := Lib.hid (((Below.refl w.heap.size w).alloc (Nat.le_refl _) _).trans (hb1.mono (by simp))); have hR1 := (Blk.new (w := w) (t := 65) (cs := #[.string .empty, .string .empty, .bool false]) rfl).below hb1 (by simp); have fR1 := hR1.frozen; have cR1 := hR1.cell; have HR1 := Lib.hid hR1; obtain ⟨A1, cap1, rfl, hc1, hr1⟩ := hts1; obtain ⟨b1l, o1, rfl, hbl1, e0, e1, e2, e3⟩ := tok_zero (Rd.keep hr1 HB1.out HB1.out.size) (by simp); have HT2 := Lib.hid (show TS w (.slice (addrAt 4 (some ⟨b1l, o1, none⟩) cap1 1) r.length (cap1 - 1)) r from ts_from hr1 hc1 (i := 1) (by simp)); have hsl1 := slice_one (some ⟨b1l, o1, none⟩) r.length cap1; have D1 := Lib.hid (DI.new HB1.out HR1.out (.string (bs tv)) (.string ⟨#[]⟩) (.bool false)); have d1c := D1.out.cells.1; have d1f := D1.out.cells.2.1; have d1r := D1.out.cells.2.2.1; have d1q := D1.out.cells.2.2.2; clear hr1; clear hb1 hR1)
    | (go_at_call 120; (with_reducible refine (cH.out _).mono ?_); rintro e Wh ⟨rfl, rfl⟩)
    | (go_at_call 188; (with_reducible refine (cL.out _).mono ?_); rintro e W2 ⟨rfl, hb2⟩; have D2 := Lib.hid (D1.out.on hb2); have d2c := D2.out.cells.1; have d2f := D2.out.cells.2.1; have d2r := D2.out.cells.2.2.1; have d2q := D2.out.cells.2.2.2; clear hb2 d1c d1f d1r d1q)
    | (go_at_call 63; (with_reducible refine (cS2.out _ _ HT2.out (D2.out.put0 _).bel).mono ?_); rintro e W3 ⟨⟨v3, rfl, hts3⟩, hb3⟩; have D3 := Lib.hid ((D2.out.put0 _).on hb3); have d3c := D3.out.cells.1; have d3f := D3.out.cells.2.1; have d3r := D3.out.cells.2.2.1; have d3q := D3.out.cells.2.2.2; obtain ⟨A3, cap3, rfl, hc3, hr3⟩ := hts3; obtain ⟨b3l, o3, rfl, hbl3, f0, f1, f2, f3⟩ := tok_zero (Rd.keep hr3 D3.out.bel D3.out.bel.size) (by simp); have HT3 := Lib.hid (show TS w (.slice (addrAt 4 (some ⟨b3l, o3, none⟩) cap3 1) r2.length (cap3 - 1)) r2 from ts_from hr3 hc3 (i := 1) (by simp)); have hsl3 := slice_one (some ⟨b3l, o3, none⟩) r2.length cap3; clear hb3 hr3 d2c d2f d2r d2q)
    | (go_at_call 189; (with_reducible refine (cC.out _).mono ?_); rintro e W4 ⟨rfl, hb4⟩; have D4 := Lib.hid (D3.out.on hb4); have d4c := D4.out.cells.1; have d4f := D4.out.cells.2.1; have d4r := D4.out.cells.2.2.1; have d4q := D4.out.cells.2.2.2; clear hb4 f0 f1 f2 f3 d3c d3f d3r d3q)
    | (go_at_call 190; (with_reducible refine (cP.out _ (HM.out.on D4.out.bel HM.out.lt)).mono ?_); rintro e W5 ⟨rfl, hb5⟩; have D5 := Lib.hid (D4.out.on hb5); have d5c := D5.out.cells.1; have d5f := D5.out.cells.2.1; have d5r := D5.out.cells.2.2.1; have d5q := D5.out.cells.2.2.2; clear hb5 d4c d4f d4r d4q)
    | (go_at_call 191; (with_reducible refine (cI.out _ _ HT3.out D5.out.bel (HF.out.on D5.out.bel)).mono ?_); rintro e W6 ⟨⟨v6, rfl, hts6⟩, hb6⟩; have D6 := Lib.hid (D5.out.on hb6); have d6c := D6.out.cells.1; have d6f := D6.out.cells.2.1; have d6r := D6.out.cells.2.2.1; have d6q := D6.out.cells.2.2.2; have HT6 := Lib.hid hts6; clear hb6 hts6 d5c d5f d5r d5q)
    | (go_at_call 107; (with_reducible refine (cHd.out _ _ (HT6.out.on (D6.out.put2 _).bel)).mono ?_); rintro e W7 ⟨rfl, hb7⟩; have D7 := Lib.hid ((D6.out.put2 _).on hb7); have d7c := D7.out.cells.1; have d7f := D7.out.cells.2.1; have d7r := D7.out.cells.2.2.1; have d7q := D7.out.cells.2.2.2; clear hb7 d6c d6f d6r d6q))
  generalize hV : W7.setCell ⟨W1.heap.size, 1, none⟩ (.string (bs vl)) = V
  have D8 := Lib.hid (show DI w W1 V (.string (bs (tv.map lowB))) (.string (bs vl)) (.bool im) by subst hV; exact D7.out.put1 _)
  have HTd := Lib.hid (show TS V.drew v6 l from HT6.out.on D8.out.drew.bel)
  clear hV d7c d7f d7r d7q
  have d8c := D8.out.drew.cells.1
  first | (go_region_with (first | (go_at_call 192; (with_reducible refine (cF.out _ _ HTd.out).mono ?_); rintro e W9 ⟨rfl, hb9⟩; have D9 := Lib.hid (D8.out.drew.on hb9); have d9c := D9.out.cells.1; have d9r := D9.out.cells.2.2.1; have d9q := D9.out.cells.2.2.2; have d9s := fun a b c => (D9.out.stored a b c).1; clear hb9))) | fail
  all_goals
    go_wp2
    have e := (D9.out.fin (.string (bs (tv.map lowB))) (.string (bs vl)) (.bool im)).1
    refine bodyPost_ret (v := .tuple #[.agg #[.string (bs (tv.map lowB)), .string (bs vl), .bool im], .bool false]) (by simp [results, Tryd.results156, go_sem, e]) rfl ⟨rfl, ?_⟩
    exact (D9.out.fin (.string (bs (tv.map lowB))) (.string (bs vl)) (.bool im)).2

end Go.Proofs.YtaihncbejhnceaaDoor.rul

namespace Go.Proofs.YtaihncbejhnceaaDoor.rul
open Go.RowKit Go.Proofs.YtaihncbejhnceaaDoor.base Go.Proofs.YtaihncbejhnceaaDoor.tok
set_option linter.unusedVariables false

set_option maxRecDepth 100000 in
set_option maxHeartbeats 4000000 in
theorem decl_TV_false (v : Value) (L : List Tk) (w : World) (tr tv : Bs) (tn : Int) (r : List Tk) (hM : solidP L = ⟨1, tr, tv, tn⟩ :: r) (ho : ownP tv = false) (c : Tk) (r2 : List Tk) (hR : solidP r = c :: r2) (hc : colonP c = true) (hp : plainP (tv.map lowB) = true) (hfa : fairP (impP r2).1 = true) (hve : headP (impP r2).1 ≠ []) (hf : Fit L) (hL : TS w v L) (hF : FoldAt w) (hm : MaxL w) :
    Calls Tryd.prog 156 #[v] w fun e w' => e = .returned (.tuple #[.agg (Dc.mk (tv.map lowB) (headP (impP r2).1) (impP r2).2).cells, .bool true]) ∧ Below w.heap.size w w' := by
  have cS1 := Lib.hid (fun X hX => solid_ct v L w X hf.1 hL hX)
  rw [hM] at cS1
  have hfM := hf.sub (solid_sub L)
  rw [hM] at hfM
  have hfr : Fit r := hfM.sub (List.sublist_cons_self _ _)
  have ht3 := (hfM.2.2 _ (List.mem_cons_self ..)).2.2
  simp only at ht3
  have cS2 := Lib.hid (fun (X : World) (v2 : Value) (h2 : TS w v2 r) (hX : Below w.heap.size w X) => solid_ct v2 r w X hfr.1 h2 hX)
  have cH := fun X => hasP_ct tv X
  rw [ho] at cH
  replace cH := Lib.hid cH
  have HM := Lib.hid hm
  have HF := Lib.hid hF
  have cL := Lib.hid (fun X => show Calls Tryd.prog 188 #[.string (bs tv)] X fun e w' => e = .returned (.string (bs (tv.map lowB))) ∧ Below X.heap.size X w' from lower_ct (bs tv) (by rw [bs_size]; omega) X)
  have hz : ((r.length : Int) + 1 == 0) = false := by simp; omega
  have hz2 : (0 : Int) < (r.length : Int) + 1 := by omega
  rw [hR] at cS2
  have hfR := hfr.sub (solid_sub r)
  rw [hR] at hfR
  have hfr2 : Fit r2 := hfR.sub (List.sublist_cons_self _ _)
  have hy : ((r2.length : Int) + 1 == 0) = false := by simp; omega
  have hy2 : (0 : Int) < (r2.length : Int) + 1 := by omega
  obtain ⟨ck, cr, cv, cn⟩ := c
  have cC := Lib.hid (fun X => asks_at colon_ct hc X)
  have cP := fun X hX => plain_ct (tv.map lowB) (by rw [List.length_map]; omega) X hX
  rw [hp] at cP
  replace cP := Lib.hid cP
  have hfl : Fit (impP r2).1 := hfr2.sub (imp_sub r2)
  have cI := fun (X : World) (v : Value) (h : TS w v r2) (hX : Below w.heap.size w X) (hF : FoldAt X) => imp_ct v r2 w X hfr2 h hX hF
  generalize hIm : impP r2 = I at *
  obtain ⟨l, im⟩ := I
  simp only at hfl cI hfa hve ⊢
  replace cI := Lib.hid cI
  have cHd := fun (X : World) (v : Value) (h : TS X v l) => head_ct v l X hfl.1 h hfl.2.1
  have cF := fun (X : World) (v : Value) (h : TS X v l) => fair_ct l.length v l X (Nat.le_refl _) hfl h
  rw [hfa] at cF
  generalize hVl : headP l = vl at *
  replace cHd := Lib.hid cHd
  replace cF := Lib.hid cF
  have hemp2 : (bs vl).toList.isEmpty = false := by rw [bs_toList]; simpa using hve
  clear hve
  clear hL hF hf hm hM hfM hfr ho ht3 hR hfR hfr2 hc hp hfa hfl hIm hVl
  go_enter Tryd.func156, Tryd.ntmps156
  go_wp2_with (first
    | (go_at_call 63; (with_reducible refine (cS1.out _ ((Below.refl _ _).alloc (Nat.le_refl _) _)).mono ?_); rintro e W1 ⟨⟨v1, rfl, hts1⟩, hb1⟩; have HB1 := Lib.hid (((Below.refl w.heap.size w).alloc (Nat.le_refl _) _).trans (hb1.mono (by simp))); have hR1 := (Blk.new (w := w) (t := 65) (cs := #[.string .empty, .string .empty, .bool false]) rfl).below hb1 (by simp); have fR1 := hR1.frozen; have cR1 := hR1.cell; have HR1 := Lib.hid hR1; obtain ⟨A1, cap1, rfl, hc1, hr1⟩ := hts1; obtain ⟨b1l, o1, rfl, hbl1, e0, e1, e2, e3⟩ := tok_zero (Rd.keep hr1 HB1.out HB1.out.size) (by simp); have HT2 := Lib.hid (show TS w (.slice (addrAt 4 (some ⟨b1l, o1, none⟩) cap1 1) r.length (cap1 - 1)) r from ts_from hr1 hc1 (i := 1) (by simp)); have hsl1 := slice_one (some ⟨b1l, o1, none⟩) r.length cap1; have D1 := Lib.hid (DI.new HB1.out HR1.out (.string (bs tv)) (.string ⟨#[]⟩) (.bool false)); have d1c := D1.out.cells.1; have d1f := D1.out.cells.2.1; have d1r := D1.out.cells.2.2.1; have d1q := D1.out.cells.2.2.2; clear hr1; clear hb1 hR1)
    | (go_at_call 120; (with_reducible refine (cH.out _).mono ?_); rintro e Wh ⟨rfl, rfl⟩)
    | (go_at_call 188; (with_reducible refine (cL.out _).mono ?_); rintro e W2 ⟨rfl, hb2⟩; have D2 := Lib.hid (D1.out.on hb2); have d2c := D2.out.cells.1; have d2f := D2.out.cells.2.1; have d2r := D2.out.cells.2.2.1; have d2q := D2.out.cells.2.2.2; clear hb2 d1c d1f d1r d1q)
    | (go_at_call 63; (with_reducible refine (cS2.out _ _ HT2.out (D2.out.put0 _).bel).mono ?_); rintro e W3 ⟨⟨v3, rfl, hts3⟩, hb3⟩; have D3 := Lib.hid ((D2.out.put0 _).on hb3); have d3c := D3.out.cells.1; have d3f := D3.out.cells.2.1; have d3r := D3.out.cells.2.2.1; have d3q := D3.out.cells.2.2.2; obtain ⟨A3, cap3, rfl, hc3, hr3⟩ := hts3; obtain ⟨b3l, o3, rfl, hbl3, f0, f1, f2, f3⟩ := tok_zero (Rd.keep hr3 D3.out.bel D3.out.bel.size) (by simp); have HT3 := Lib.hid (show TS w (.slice (addrAt 4 (some ⟨b3l, o3, none⟩) cap3 1) r2.length (cap3 - 1)) r2 from ts_from hr3 hc3 (i := 1) (by simp)); have hsl3 := slice_one (some ⟨b3l, o3, none⟩) r2.length cap3; clear hb3 hr3 d2c d2f d2r d2q)
    | (go_at_call 189; (with_reducible refine (cC.out _).mono ?_); rintro e W4 ⟨rfl, hb4⟩; have D4 := Lib.hid (D3.out.on hb4); have d4c := D4.out.cells.1; have d4f := D4.out.cells.2.1; have d4r := D4.out.cells.2.2.1; have d4q := D4.out.cells.2.2.2; clear hb4 f0 f1 f2 f3 d3c d3f d3r d3q)
    | (go_at_call 190; (with_reducible refine (cP.out _ (HM.out.on D4.out.bel HM.out.lt)).mono ?_); rintro e W5 ⟨rfl, hb5⟩; have D5 := Lib.hid (D4.out.on hb5); have d5c := D5.out.cells.1; have d5f := D5.out.cells.2.1; have d5r := D5.out.cells.2.2.1; have d5q := D5.out.cells.2.2.2; clear hb5 d4c d4f d4r d4q)
    | (go_at_call 191; (with_reducible refine (cI.out _ _ HT3.out D5.out.bel (HF.out.on D5.out.bel)).mono ?_); rintro e W6 ⟨⟨v6, rfl, hts6⟩, hb6⟩; have D6 := Lib.hid (D5.out.on hb6); have d6c := D6.out.cells.1; have d6f := D6.out.cells.2.1; have d6r := D6.out.cells.2.2.1; have d6q := D6.out.cells.2.2.2; have HT6 := Lib.hid hts6; clear hb6 hts6 d5c d5f d5r d5q)
    | (go_at_call 107; (with_reducible refine (cHd.out _ _ (HT6.out.on (D6.out.put2 _).bel)).mono ?_); rintro e W7 ⟨rfl, hb7⟩; have D7 := Lib.hid ((D6.out.put2 _).on hb7); have d7c := D7.out.cells.1; have d7f := D7.out.cells.2.1; have d7r := D7.out.cells.2.2.1; have d7q := D7.out.cells.2.2.2; clear hb7 d6c d6f d6r d6q))
  generalize hV : W7.setCell ⟨W1.heap.size, 1, none⟩ (.string (bs vl)) = V
  have D8 := Lib.hid (show DI w W1 V (.string (bs (tv.map lowB))) (.string (bs vl)) (.bool im) by subst hV; exact D7.out.put1 _)
  have HTd := Lib.hid (show TS V.drew v6 l from HT6.out.on D8.out.drew.bel)
  clear hV d7c d7f d7r d7q
  have d8c := D8.out.drew.cells.1
  first | (go_region_with (first | (go_at_call 192; (with_reducible refine (cF.out _ _ HTd.out).mono ?_); rintro e W9 ⟨rfl, hb9⟩; have D9 := Lib.hid (D8.out.drew.on hb9); have d9c := D9.out.cells.1; have d9r := D9.out.cells.2.2.1; have d9q := D9.out.cells.2.2.2; have d9s := fun a b c => (D9.out.stored a b c).1; clear hb9))) | fail
  all_goals
    go_wp2
    have e := (D9.out.fin (.string (bs (tv.map lowB))) (.string (bs vl)) (.bool im)).1
    refine bodyPost_ret (v := .tuple #[.agg #[.string (bs (tv.map lowB)), .string (bs vl), .bool im], .bool true]) (by simp [results, Tryd.results156, go_sem, e]) rfl ⟨rfl, ?_⟩
    exact (D9.out.fin (.string (bs (tv.map lowB))) (.string (bs vl)) (.bool im)).2

end Go.Proofs.YtaihncbejhnceaaDoor.rul

namespace Go.Proofs.YtaihncbejhnceaaDoor.rul
open Go.RowKit Go.Proofs.YtaihncbejhnceaaDoor.base Go.Proofs.YtaihncbejhnceaaDoor.tok
set_option linter.unusedVariables false

theorem decl_ct (v : Value) (L : List Tk) (w : World) (hf : Fit L) (hL : TS w v L) (hF : FoldAt w) (hm : MaxL w) :
    Calls Tryd.prog 156 #[v] w fun e w' => e = .returned (.tuple #[.agg (declP L).1.cells, .bool (declP L).2]) ∧ Below w.heap.size w w' := by
  unfold declP
  cases hM : solidP L with
  | nil => exact decl_none v L w hM hf hL hF hm
  | cons t r =>
    by_cases hk : t.k = 1
    · obtain ⟨tk, tr, tv, tn⟩ := t
      simp only at hk
      subst hk
      show Calls _ _ _ _ fun e w' => e = .returned (.tuple #[.agg (declB (ownP tv) (nameD tv) (solidP r)).1.cells, .bool (declB (ownP tv) (nameD tv) (solidP r)).2]) ∧ _
      cases hR : solidP r with
      | nil =>
        cases ho : ownP tv
        · exact decl_C_false v L w tr tv tn r hM ho hR hf hL hF hm
        · exact decl_C_true v L w tr tv tn r hM ho hR hf hL hF hm
      | cons c r2 =>
        have hnd : nameD tv = if ownP tv then tv else tv.map lowB := rfl
        cases hc : colonP c
        · simp only [declB, hc, Bool.false_and, Bool.false_eq_true, if_false]
          cases ho : ownP tv
          · exact decl_D_false v L w tr tv tn r hM ho c r2 hR hc hf hL hF hm
          · exact decl_D_true v L w tr tv tn r hM ho c r2 hR hc hf hL hF hm
        · cases ho : ownP tv
          · rw [ho] at hnd
            simp only [Bool.false_eq_true, if_false] at hnd
            rw [hnd]
            cases hp : plainP (tv.map lowB)
            · simp only [declB, hc, hp, Bool.and_false, Bool.false_eq_true, if_false]
              exact decl_E_false v L w tr tv tn r hM ho c r2 hR hc hp hf hL hF hm
            · simp only [declB, hc, hp, Bool.and_true, if_true, Bool.false_or]
              cases hfa : fairP (impP r2).1
              · exact decl_F_false v L w tr tv tn r hM ho c r2 hR hc hp hfa hf hL hF hm
              · by_cases hve : headP (impP r2).1 = []
                · rw [decide_eq_false (fun h => h hve), Bool.and_false]
                  exact decl_TE_false v L w tr tv tn r hM ho c r2 hR hc hp hfa hve hf hL hF hm
                · rw [decide_eq_true hve, Bool.and_true]
                  exact decl_TV_false v L w tr tv tn r hM ho c r2 hR hc hp hfa hve hf hL hF hm
          · rw [ho] at hnd
            simp only [if_true] at hnd
            rw [hnd]
            cases hp : plainP tv
            · simp only [declB, hc, hp, Bool.and_false, Bool.false_eq_true, if_false]
              exact decl_E_true v L w tr tv tn r hM ho c r2 hR hc hp hf hL hF hm
            · simp only [declB, hc, hp, Bool.and_true, if_true, Bool.true_or]
              cases hfa : fairP (impP r2).1
              · exact decl_F_true v L w tr tv tn r hM ho c r2 hR hc hp hfa hf hL hF hm
              · exact decl_T_true v L w tr tv tn r hM ho c r2 hR hc hp hfa hf hL hF hm
    · have hd : declM (t :: r) = (noDc, false) := by simp only [declM]; rw [if_neg hk]
      rw [hd]
      exact decl_other v L w t r hM hk hf hL hF hm

end Go.Proofs.YtaihncbejhnceaaDoor.rul

namespace Go.Proofs.YtaihncbejhnceaaDoor.rul
open Go.RowKit Go.Proofs.YtaihncbejhnceaaDoor.base Go.Proofs.YtaihncbejhnceaaDoor.tok
set_option linter.unusedVariables false

abbrev dcells (d : Dc) : List Value := d.cells.toList
theorem dcells_len (d : Dc) : (dcells d).length = 3 := rfl
theorem infoD : (Tryd.prog.info? 65).map (fun i => (i.zero, i.size, i.bytes)) = some (some (.agg #[.string .empty, .string .empty, .bool false]), 3, 40) := by kernel_rfl

/-- declarations of tokens -/
def declsP : List Tk → List Dc
  | [] => []
  | t :: L => (if (declP ((t :: L).take (findP semiP (t :: L)))).2 then [(declP ((t :: L).take (findP semiP (t :: L)))).1] else []) ++ declsP ((t :: L).drop (findP semiP (t :: L) + 1))
termination_by L => L.length
decreasing_by simp; omega
theorem declsP_nil : declsP [] = [] := by rw [declsP]
theorem declsP_cons {M : List Tk} (h : M ≠ []) : declsP M = (if (declP (M.take (findP semiP M))).2 then [(declP (M.take (findP semiP M))).1] else []) ++ declsP (M.drop (findP semiP M + 1)) := by
  cases M with
  | nil => exact absurd rfl h
  | cons t L => rw [declsP]

theorem enters_semi : ∀ args w, (callFunc 67 args).run Tryd.prog w = .ok (.enter 67 args) w := Go.Proofs.enters_of Tryd.func67 (by kernel_rfl) rfl

def DeclsRel (w : World) (L : List Tk) (R : List Dc) (v x : Value) (wr : World) : Prop :=
  ∃ (i : Nat) (acc : List Dc), i ≤ L.length + 1 ∧ x = .int .i64 i ∧ acc.length ≤ i ∧ acc ++ declsP (L.drop i) = R ∧ wr.ownsRow w.heap.size 65 3 v acc.length (flatR dcells acc) ∧ Below w.heap.size w wr

set_option maxRecDepth 100000 in
set_option maxHeartbeats 8000000 in
theorem decls_row (v : Value) (L : List Tk) (w : World) (hf : Fit L) (hL : TS w v L) (hF : FoldAt w) (hm : MaxL w) :
    Calls Tryd.prog 108 #[v] w fun e w' => (∃ v', e = .returned v' ∧ w'.ownsRow w.heap.size 65 3 v' (declsP L).length (flatR dcells (declsP L))) ∧ Below w.heap.size w w' := by
  obtain ⟨i0, hi, hz0, hz1, hz2⟩ := info_parts infoD
  have Hz0 := Lib.hid hz0
  have Hi := Lib.hid hi
  have Hz1 := Lib.hid hz1
  have Hz2 := Lib.hid hz2
  clear hz0 hi hz1 hz2
  obtain ⟨A, cap, rfl, hc, hrd⟩ := hL
  have HL := Lib.hid hrd
  have HFit := Lib.hid hf
  have HF := Lib.hid hF
  have HM := Lib.hid hm
  have hn6 := hf.1
  generalize hR : declsP L = R
  have HR := Lib.hid hR
  clear hrd hf hR hF hm
  go_enter Tryd.func108, Tryd.ntmps108
  go_wp2_with fail
  go_loopw [3, 4] (fun v x wr => DeclsRel w L R v x wr) (fun _ x _ => L.length + 1 - (intOf x).toNat)
  case atStart => exact ⟨0, [], by omega, rfl, Nat.le_refl _, HR.out, World.ownsRow_nil _ _ _ _, Below.refl _ _⟩
  case round =>
    obtain ⟨i, acc, hi', rfl, hac, hinv, hrow, hbel⟩ := hrel
    have HBl := Lib.hid hbel
    have HInv := Lib.hid hinv
    replace hrow := Lib.hid hrow
    have hz := hbel.size
    obtain ⟨av, cp, rfl⟩ := row_form hrow.out
    clear hinv HR
    by_cases hlt : i < L.length
    · have hlt' : (i : Int) < (L.length : Int) := by omega
      have hix : (i : Int) ≤ 1000000 := by omega
      have hne : L.drop i ≠ [] := fun h => by have := congrArg List.length h; rw [List.length_drop] at this; simp at this; omega
      have hcons := declsP_cons hne
      have hfle := findP_le semiP _ (L.drop i) (Nat.le_refl _)
      rw [List.length_drop] at hfle
      have cFind := fun (W : World) (hW : TRd W W.heap.size A L.length L) => find_ct semiP 67 #[] enters_semi A cap L i (by omega) W hn6 hW HFit.out.raws (fun W' _ k n r v => by
        rw [Array.append_empty]
        exact semi_ct ⟨k, r, v, n⟩ W')
      generalize hq : findP semiP (L.drop i) = q at *
      have hsub : ((L.drop i).take q).Sublist L := (List.take_sublist _ _).trans (List.drop_sublist _ _)
      have hfs := HFit.out.sub hsub
      have cDecl := fun (W : World) (v : Value) (h : TS W v ((L.drop i).take q)) (hF : FoldAt W) (hm : MaxL W) => decl_ct v ((L.drop i).take q) W hfs h hF hm
      have hcut := fun (W : World) (h : TRd W W.heap.size A L.length L) => ts_cut h hc (i := i) (m := q) (by omega)
      have hsl : ∀ w, (Instr.slice 67 (.slice A L.length cap) (some (.int .i64 (i : Int))) (some (.int .i64 ((i : Int) + q))) none).run Tryd.prog w = .ok (.slice (addrAt 4 A cap i) q (cap - i)) w := fun w => by
        have := slice_both (P := Tryd.prog) (k := 4) Tryd.underlying67 Tryd.sizeOf104 A L.length cap (i : Int) ((i : Int) + q) (by omega) (by omega) (by omega) w
        rw [this, show ((i : Int) + q).toNat - (i : Int).toNat = q by omega, Int.toNat_natCast]
      have hqx : (q : Int) ≤ 1000000 := by omega
      have hdr : (L.drop i).drop (q + 1) = L.drop (i + q + 1) := by rw [List.drop_drop]; rfl
      rw [hdr] at hcons
      generalize hD : declP ((L.drop i).take q) = D at *
      obtain ⟨⟨dn, dv, di⟩, dok⟩ := D
      simp only at cDecl hcons
      generalize (L.drop i).take q = M at *
      replace cFind := Lib.hid cFind
      replace cDecl := Lib.hid cDecl
      replace hcut := Lib.hid hcut
      cases dok
      · have HNew := Lib.hid (show acc ++ declsP (L.drop (i + q + 1)) = R by rw [← HInv.out, hcons]; simp)
        have Hac := Lib.hid (show acc.length ≤ i + q + 1 ∧ i + q + 1 ≤ L.length + 1 by omega)
        clear hcons hne hfle hq hsub hfs hdr hD hac hbel
        go_wp2_with (first
          | (go_at_call 64; (with_reducible refine (cFind.out _ (HL.out.keep HBl.out HBl.out.size)).mono ?_); rintro e W1 ⟨rfl, hb1⟩; have HB1 := Lib.hid (HBl.out.trans (hb1.mono HBl.out.size)); have hrow1 := Lib.hid (row_on hrow.out hb1); clear hb1)
          | (go_at_call 156; (with_reducible refine (cDecl.out _ _ (hcut.out _ (HL.out.keep HB1.out HB1.out.size)) (HF.out.on HB1.out) (HM.out.on HB1.out HM.out.lt)).mono ?_); rintro e W2 ⟨rfl, hb2⟩; have HB2 := Lib.hid (HB1.out.trans (hb2.mono HB1.out.size)); have hrow2 := Lib.hid (row_on hrow1.out hb2); have hz2 := HB2.out.size; clear hb2))
        go_roundw
        case rel => exact ⟨i + q + 1, acc, Hac.out.2, by go_num, Hac.out.1, HNew.out, row_on hrow2.out ((Below.refl _ _).alloc (Nat.le_refl _) _), HB2.out.alloc HB2.out.size _⟩
        case measure => have := Hac.out; simp [intOf]; omega
      · have HNew := Lib.hid (show (acc ++ [⟨dn, dv, di⟩]) ++ declsP (L.drop (i + q + 1)) = R by rw [← HInv.out, hcons]; simp)
        have Hac := Lib.hid (show acc.length + 1 ≤ i + q + 1 ∧ i + q + 1 ≤ L.length + 1 by omega)
        have hacx : acc.length ≤ 1000001 := by omega
        clear hcons hne hfle hq hsub hfs hdr hD hac hbel
        go_wp2_with (first
          | (go_at_call 64; (with_reducible refine (cFind.out _ (HL.out.keep HBl.out HBl.out.size)).mono ?_); rintro e W1 ⟨rfl, hb1⟩; have HB1 := Lib.hid (HBl.out.trans (hb1.mono HBl.out.size)); have hrow1 := Lib.hid (row_on hrow.out hb1); clear hb1)
          | (go_at_call 156; (with_reducible refine (cDecl.out _ _ (hcut.out _ (HL.out.keep HB1.out HB1.out.size)) (HF.out.on HB1.out) (HM.out.on HB1.out HM.out.lt)).mono ?_); rintro e W2 ⟨rfl, hb2⟩; have HB2 := Lib.hid (HB1.out.trans (hb2.mono HB1.out.size)); have hrow2 := Lib.hid (row_on hrow1.out hb2); have hz2 := HB2.out.size; clear hb2)
          | (at_builtin; refine wpList_append_own _ rfl _ _ 39 rfl w.heap.size 65 i0 _ 3 40 Tryd.underlying39 Hi.out Hz0.out Hz1.out Hz2.out rfl (by decide) _ _ _ rfl ((hrow2.out.alloc _).alloc _) ⟨W2.heap.size + 1, 0, none⟩ 1 1 [.string (bs dn), .string (bs dv), .bool di] rfl rfl ?c1 ?c2 ?c3 ?c4 ?c5 ?_))
        case c1 => exact (Blk.new (w := W2.alloc (.cells #[.string (bs dn), .string (bs dv), .bool di] 65)) (t := 65) (cs := #[.string (bs dn), .string (bs dv), .bool di]) (by simp)).news
        case c2 => simp [Value.oneCell']
        case c3 => unfold maxLen; omega
        case c4 => omega
        case c5 => have := HB2.out.size; simp; omega
        intro v' w3 hown3 hgrow3 hnil3
        have hb3 := Lib.hid (below_app ((HB2.out.alloc HB2.out.size _).alloc (by have := HB2.out.size; simp; omega) _) hgrow3 ((hrow2.out.alloc _).alloc _) (Nat.le_refl _) (by have := HB2.out.size; simp; omega))
        replace hown3 := Lib.hid hown3
        clear hgrow3 hnil3
        go_wp2
        go_roundw
        case rel => exact ⟨i + q + 1, acc ++ [⟨dn, dv, di⟩], Hac.out.2, by go_num, by have := Hac.out.1; simp; omega, HNew.out, by simpa [flatR_snoc] using hown3.out, hb3.out⟩
        case measure => have := Hac.out; simp [intOf]; omega
    · have hfin := Lib.hid (show R = acc by rw [← HInv.out, List.drop_eq_nil_of_le (by omega), declsP_nil, List.append_nil])
      have hgt : ¬ (i : Int) < (L.length : Int) := by omega
      clear hbel
      go_wp2
      go_ret
      exact ⟨⟨_, rfl, by rw [hfin.out]; exact hrow.out⟩, HBl.out⟩

end Go.Proofs.YtaihncbejhnceaaDoor.rul

namespace Go.Proofs.YtaihncbejhnceaaDoor.rul
open Go.RowKit Go.Proofs.YtaihncbejhnceaaDoor.base Go.Proofs.YtaihncbejhnceaaDoor.tok
set_option linter.unusedVariables false

theorem textR_val (q : UInt8) : ∀ (n : Nat) (l : Bs), l.length ≤ n → (textR q l).2.2.length ≤ l.length
  | 0, l, h => by
    obtain rfl := List.eq_nil_of_length_eq_zero (Nat.le_zero.1 h)
    simp [textR]
  | n + 1, [], h => by simp [textR]
  | n + 1, [c], h => by
    rw [textR]
    (repeat' split) <;> simp
  | n + 1, c :: d :: r, h => by
    have h1 := textR_val q n (d :: r) (by simp at h ⊢; omega)
    have h2 := textR_val q n r (by simp at h; omega)
    rw [textR]
    simp only [List.length_cons] at h1 h2 ⊢
    (repeat' split) <;> simp <;> omega
theorem first_val (l : Bs) (h0 : l ≠ []) : (firstP l).val.length ≤ l.length := by
  have hl : 0 < l.length := List.length_pos_iff.2 h0
  have hn : ∀ a, (nameP (l.drop a)).1.length ≤ l.length := fun a => Nat.le_trans (nameP_val _) (by rw [List.length_drop]; omega)
  unfold firstP
  split
  · simp
  · split
    · unfold noteP; simp
    · split
      · unfold textP
        cases l with
        | nil => simp
        | cons q r =>
          simp only
          split
          · have := textR_val q _ r (Nat.le_refl _); simp; omega
          · simp
      · split
        · exact hn 1
        · split
          · exact hn 1
          · split
            · unfold numTkP
              split
              · simp; omega
              · split
                · simp only [List.length_map]; exact hn _
                · simp
            · split
              · unfold wordP
                split
                · exact hn 0
                · exact hn 0
              · simp
theorem cut_vals : ∀ (n : Nat) (l : Bs), l.length ≤ n → ∀ t ∈ cutP l, t.raw ≠ [] ∧ t.raw.length ≤ l.length ∧ t.val.length ≤ l.length
  | 0, l, h, t, ht => by
    obtain rfl := List.eq_nil_of_length_eq_zero (Nat.le_zero.1 h)
    rw [cutP_nil] at ht
    cases ht
  | n + 1, l, h, t, ht => by
    by_cases h0 : l = []
    · subst h0; rw [cutP_nil] at ht; cases ht
    · rw [cutP_cons h0] at ht
      have hp := (first_pre l h0).2
      have hr := first_raw l h0
      have hv := first_val l h0
      rcases List.mem_cons.1 ht with rfl | ht
      · refine ⟨fun e => by rw [e] at hp; simp at hp, ?_, hv⟩
        rw [hr, List.length_take]
        omega
      · obtain ⟨h1, h2, h3⟩ := cut_vals n (l.drop (firstP l).raw.length) (by rw [List.length_drop]; omega) t ht
        rw [List.length_drop] at h2 h3
        exact ⟨h1, by omega, by omega⟩
theorem fit_cut {l : Bs} (h : l.length ≤ 1000000) : Fit (cutP l) :=
  ⟨Nat.le_trans (cut_few l) h, by rw [cut_text]; exact h, fun t ht => by
    obtain ⟨h1, h2, h3⟩ := cut_vals _ l (Nat.le_refl _) t ht
    exact ⟨h1, by omega, by omega⟩⟩

end Go.Proofs.YtaihncbejhnceaaDoor.rul

namespace Go.Proofs.YtaihncbejhnceaaDoor.rul
open Go.RowKit Go.Proofs.YtaihncbejhnceaaDoor.base Go.Proofs.YtaihncbejhnceaaDoor.tok
set_option linter.unusedVariables false

/-- declarations in memory -/
abbrev DRd (w : World) (B : Nat) (A : Option Addr) (n : Nat) (L : List Dc) : Prop := Rd 3 dcells w B A n L
/-- what a text says; none: too much -/
def DeclsP (s : Bs) : Option (List Dc) := if 3000 < s.length then none else if 30 < (declsP (cutP s)).length then none else some (declsP (cutP s))

theorem decls_few (s : Bs) : (declsP (cutP s)).length ≤ s.length := by
  have key : ∀ (n : Nat) (L : List Tk), L.length ≤ n → (declsP L).length ≤ L.length := by
    intro n
    induction n with
    | zero =>
      intro L h
      obtain rfl := List.eq_nil_of_length_eq_zero (Nat.le_zero.1 h)
      rw [declsP_nil]; exact Nat.le_refl _
    | succ n ih =>
      intro L h
      by_cases h0 : L = []
      · subst h0; rw [declsP_nil]; exact Nat.le_refl _
      · rw [declsP_cons h0, List.length_append]
        have hp := List.length_pos_iff.2 h0
        have h1 := ih (L.drop (findP semiP L + 1)) (by rw [List.length_drop]; omega)
        rw [List.length_drop] at h1
        split <;> simp <;> omega
  exact Nat.le_trans (key _ _ (Nat.le_refl _)) (cut_few s)

theorem owns_base {w : World} {b0 b1 : Nat} {e : TypeId} {size n : Nat} {v : Value} {xs : List Value} (h : w.ownsRow b1 e size v n xs) (hb : b0 ≤ b1) : w.ownsRow b0 e size v n xs := by
  refine ⟨h.1, ?_⟩
  rcases h.2 with h1 | ⟨g, cap, cur, hv, hg, hr⟩
  · exact .inl h1
  · exact .inr ⟨g, cap, cur, hv, Nat.le_trans hb hg, hr⟩
/-- declarations as a row of the call's own, and where they are read -/
theorem decls_ct (v : Value) (L : List Tk) (w : World) (hf : Fit L) (hL : TS w v L) (hF : FoldAt w) (hm : MaxL w) :
    Calls Tryd.prog 108 #[v] w fun e w' => (∃ A cap, e = .returned (.slice A (declsP L).length cap) ∧ (declsP L).length ≤ cap ∧ DRd w' w'.heap.size A (declsP L).length (declsP L) ∧ w'.ownsRow w.heap.size 65 3 (.slice A (declsP L).length cap) (declsP L).length (flatR dcells (declsP L))) ∧ Below w.heap.size w w' :=
  (decls_row v L w hf hL hF hm).mono fun e w' ⟨⟨v', he, hr⟩, hb⟩ => by
    obtain ⟨A, c, rfl, hc, hg⟩ := row_rd dcells_len rfl hr
    exact ⟨⟨A, c, he, hc, hg, hr⟩, hb⟩

end Go.Proofs.YtaihncbejhnceaaDoor.rul

namespace Go.Proofs.YtaihncbejhnceaaDoor.rul
open Go.RowKit Go.Proofs.YtaihncbejhnceaaDoor.base Go.Proofs.YtaihncbejhnceaaDoor.tok
set_option linter.unusedVariables false

def dText (d : Dc) : Bs := d.name ++ [58] ++ d.val ++ (if d.imp then [33, 105, 109, 112, 111, 114, 116, 97, 110, 116] else []) ++ [59]
def dTexts (L : List Dc) : Bs := L.flatMap dText
theorem dTexts_step {L : List Dc} {k : Nat} {d : Dc} (h : L[k]? = some d) : dTexts (L.take (k + 1)) = dTexts (L.take k) ++ dText d := by
  obtain ⟨hl, he⟩ := List.getElem?_eq_some_iff.1 h
  rw [List.take_succ_eq_append_getElem hl, dTexts, List.flatMap_append, he]
  simp [dTexts]
theorem dTexts_part {L : List Dc} (k : Nat) : (dTexts (L.take k)).length ≤ (dTexts L).length := by
  conv => rhs; rw [← List.take_append_drop k L]
  simp only [dTexts, List.flatMap_append, List.length_append]
  omega
theorem DRd.tok {w : World} {B : Nat} {A : Option Addr} {n k : Nat} {L : List Dc} (h : DRd w B A n L) (hk : k < n) : ∃ b off d, A = some ⟨b, off, none⟩ ∧ b < B ∧ L[k]? = some d ∧
    w.cell? ⟨b, off + k * 3, none⟩ = some (.string (bs d.name)) ∧ w.cell? ⟨b, off + k * 3 + 1, none⟩ = some (.string (bs d.val)) ∧ w.cell? ⟨b, off + k * 3 + 2, none⟩ = some (.bool d.imp) := by
  obtain ⟨b, off, d, hA, hlt, hd, hc⟩ := Rd.at_ h hk
  exact ⟨b, off, d, hA, hlt, hd, hc 0 (by decide), hc 1 (by decide), hc 2 (by decide)⟩

end Go.Proofs.YtaihncbejhnceaaDoor.rul

namespace Go.Proofs.YtaihncbejhnceaaDoor.rul
open Go.RowKit Go.Proofs.YtaihncbejhnceaaDoor.base Go.Proofs.YtaihncbejhnceaaDoor.tok
set_option linter.unusedVariables false

theorem run_ne_dc (a b : Dc) (w : World) : (binOp .neq 65 (.agg #[.string (bs a.name), .string (bs a.val), .bool a.imp]) (.agg #[.string (bs b.name), .string (bs b.val), .bool b.imp])).run Tryd.prog w = .ok (.bool (decide (a ≠ b))) w := by
  rw [run_neq_struct, run_equalIn_agg w _ _ _ _ (by kernel_rfl) (by kernel_rfl)]
  simp only [Program.fieldsOf, Tryd.underlying65]
  obtain ⟨k1, r1, v1⟩ := a
  obtain ⟨k2, r2, v2⟩ := b
  simp [Op.eqFields, go_sem, Tryd.underlying9, Tryd.underlying4, bs_toList]
  (repeat' split) <;> simp_all

set_option maxRecDepth 100000 in
set_option maxHeartbeats 4000000 in
theorem sameD_ct (A1 A2 : Option Addr) (n1 n2 c1 c2 : Nat) (L1 L2 : List Dc) (w : World) (hn : n1 ≤ maxLen) (hn2 : n2 ≤ maxLen) (h1 : DRd w w.heap.size A1 n1 L1) (h2 : DRd w w.heap.size A2 n2 L2) :
    Calls Tryd.prog 38 #[.slice A1 n1 c1, .slice A2 n2 c2] w fun e w' => e = .returned (.bool (decide (L1 = L2))) ∧ ∃ m, w' = w.drewN m := by
  have H1 := Lib.hid h1
  have H2 := Lib.hid h2
  have l1 := Lib.hid h1.1
  have l2 := Lib.hid h2.1
  unfold maxLen at hn hn2
  clear h1 h2
  by_cases hne : n1 = n2
  · subst hne
    go_enter Tryd.func38, Tryd.ntmps38
    go_wp2_with fail
    go_loopw [5] (fun i wr => ∃ k : Nat, k ≤ n1 ∧ i = .int .i64 k ∧ L1.take k = L2.take k ∧ ∃ m, wr = w.drewN m) (fun i _ => n1 - (intOf i).toNat)
    case atStart => exact ⟨0, by omega, rfl, by simp, 0, rfl⟩
    case round =>
      obtain ⟨k, hk, rfl, heq, m0, rfl⟩ := hrel
      replace heq := Lib.hid heq
      by_cases hlt : k < n1
      · have hlt' : (k : Int) < (n1 : Int) := by omega
        obtain ⟨b, off, t, rfl, hb, hd, e0, e1, e2⟩ := DRd.tok H1.out hlt
        obtain ⟨b2, off2, u, rfl, hb2, hd2, f0, f1, f2⟩ := DRd.tok H2.out hlt
        replace hd := Lib.hid hd
        replace hd2 := Lib.hid hd2
        by_cases htu : t = u
        · have keq : ∀ W : World, (binOp .neq 65 (.agg #[.string (bs t.name), .string (bs t.val), .bool t.imp]) (.agg #[.string (bs u.name), .string (bs u.val), .bool u.imp])).run Tryd.prog W = .ok (.bool false) W := fun W => by rw [run_ne_dc t u W, decide_eq_false (by simp [htu])]
          replace htu := Lib.hid htu
          go_wp2_with fail
          go_quiet (fail)
          go_wp2
          go_roundw
          case rel =>
            refine ⟨k + 1, by omega, by go_num, ?_, _, rfl⟩
            obtain ⟨p1, p2⟩ := List.getElem?_eq_some_iff.1 hd.out
            obtain ⟨q1, q2⟩ := List.getElem?_eq_some_iff.1 hd2.out
            rw [List.take_succ_eq_append_getElem p1, List.take_succ_eq_append_getElem q1, p2, q2, heq.out, htu.out]
          case measure => simp [intOf]; omega
        · have keq : ∀ W : World, (binOp .neq 65 (.agg #[.string (bs t.name), .string (bs t.val), .bool t.imp]) (.agg #[.string (bs u.name), .string (bs u.val), .bool u.imp])).run Tryd.prog W = .ok (.bool true) W := fun W => by rw [run_ne_dc t u W, decide_eq_true htu]
          have hno : ¬ L1 = L2 := fun e => by
            rw [e, hd2.out] at hd
            exact htu (Option.some.inj hd.out).symm
          replace htu := Lib.hid htu
          replace hno := Lib.hid hno
          go_wp2_with fail
          go_quiet (fail)
          go_wp2
          go_ret
          exact ⟨ret_b (decide_eq_false hno.out).symm, _, by rw [World.drewN_drewN]⟩
      · obtain rfl : k = n1 := by omega
        have hyes : L1 = L2 := by
          have := heq.out
          rwa [List.take_of_length_le (by rw [l1.out]; exact Nat.le_refl _), List.take_of_length_le (by rw [l2.out]; exact Nat.le_refl _)] at this
        replace hyes := Lib.hid hyes
        go_wp2
        go_ret
        exact ⟨ret_b (decide_eq_true hyes.out).symm, _, rfl⟩
  · have hno : ¬ L1 = L2 := fun e => hne (by rw [← l1.out, ← l2.out, e])
    have hni : ((n1 : Int) != (n2 : Int)) = true := by simp; omega
    replace hno := Lib.hid hno
    replace hne := Lib.hid hne
    go_enter Tryd.func38, Tryd.ntmps38
    go_wp2
    go_ret
    exact ⟨ret_b (decide_eq_false hno.out).symm, 0, rfl⟩

end Go.Proofs.YtaihncbejhnceaaDoor.rul
