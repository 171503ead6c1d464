/- MediaWider: for every three numbers and whatever it is shown on the call returns true, and all that was there reads as before. The package-level variables that its row lists start as the program's text lays them (the card ties them). -/
import Derived.Test.YtmjbaimccbkmpaaGreatDoorBI
import Derived.Test.YtmjbaimccbkmpaaGreatDoorBG
import Derived.Test.YtmjbaimccbkmpaaGreatDoorBJ
import Derived.Test.YtmjbaimccbkmpaaGreatDoorBE
import Derived.Test.YtmjbaimccbkmpaaGreatDoorTie
import Derived.Test.YtmjbaimccbkmpaaGreatDoorCards

namespace Go.Proofs.YtmjbaimccbkmpaaGreatDoor.med
open Go.RowKit Go.Proofs.YtmjbaimccbkmpaaGreatDoor.base Go.Proofs.YtmjbaimccbkmpaaGreatDoor.tok Go.Proofs.YtmjbaimccbkmpaaGreatDoor.rul
set_option linter.unusedVariables false

theorem rest_of (a : Int) (m : Int) (h0 : 0 < m) (hm : m ≤ 1000000) : ∃ r : Int, 0 ≤ r ∧ r < m ∧ (IntKind.u64.wrap a).tmod m = r := by
  have h : 0 ≤ IntKind.u64.wrap a := by simp [IntKind.wrap, IntKind.bits, IntKind.signed]; omega
  generalize IntKind.u64.wrap a = v at *
  rw [Int.tmod_eq_emod_of_nonneg h]
  exact ⟨v % m, Int.emod_nonneg _ (by omega), Int.emod_lt_of_pos _ h0, rfl⟩
theorem qs_built (W : World) (a b c d : Int) : QS ((W.alloc (.cells #[.int .i64 a, .int .i64 b, .int .i64 c, .int .i64 d] 55)).alloc (.cells #[.bool false, .slice (some ⟨W.heap.size, 0, none⟩) 2 2] 53)) (.slice (some ⟨W.heap.size + 1, 0, none⟩) 1 1) [⟨false, [⟨a, b⟩, ⟨c, d⟩]⟩] := by
  have h1 := (Blk.new (w := W) (t := 55) (cs := #[.int .i64 a, .int .i64 b, .int .i64 c, .int .i64 d]) rfl).alloc (.cells #[.bool false, .slice (some ⟨W.heap.size, 0, none⟩) 2 2] 53)
  have h2 := Blk.new (w := W.alloc (.cells #[.int .i64 a, .int .i64 b, .int .i64 c, .int .i64 d] 55)) (k := W.heap.size + 1) (t := 53) (cs := #[.bool false, .slice (some ⟨W.heap.size, 0, none⟩) 2 2]) (by simp)
  refine qs_one h2 ⟨_, 2, rfl, Nat.le_refl _, ⟨rfl, fun _ => ⟨W.heap.size, 0, rfl, h1.lt, fun i x hx j hj => ?_⟩⟩, fun _ _ _ => Nat.zero_le _⟩
  have hi : i = 0 ∨ i = 1 := by have := (List.getElem?_eq_some_iff.1 hx).1; simp at this; omega
  have hj2 : j = 0 ∨ j = 1 := by omega
  rcases hi with rfl | rfl
  · obtain rfl : (⟨a, b⟩ : Fe) = x := by simpa using hx
    rcases hj2 with rfl | rfl <;> exact h1.cell _
  · obtain rfl : (⟨c, d⟩ : Fe) = x := by simpa using hx
    rcases hj2 with rfl | rfl <;> exact h1.cell _
theorem good_two {a b c d : Int} (ha : 4 ≤ a ∧ a ≤ 7) (hc : 4 ≤ c ∧ c ≤ 7) (hb : 0 ≤ b ∧ b ≤ 1000000) (hd : 0 ≤ d ∧ d ≤ 1000000) : ∀ q ∈ [(⟨false, [⟨a, b⟩, ⟨c, d⟩]⟩ : Qu)], GoodQ q := fun q hq => by
  obtain rfl : q = ⟨false, [⟨a, b⟩, ⟨c, d⟩]⟩ := by simpa using hq
  refine ⟨by simp, fun f hf => ?_⟩
  simp only [List.mem_cons, List.not_mem_nil, or_false] at hf
  rcases hf with rfl | rfl
  · exact .inr (.inl ⟨ha.1, ha.2, hb.1, hb.2⟩)
  · exact .inr (.inl ⟨hc.1, hc.2, hd.1, hd.2⟩)
theorem hold_two {a b c d : Int} (ha : 4 ≤ a ∧ a ≤ 7) (hc : 4 ≤ c ∧ c ≤ 7) (hb : 0 ≤ b ∧ b ≤ 1000000) (hd : 0 ≤ d ∧ d ≤ 1000000) (e : En) :
    ((holdP (textP [⟨false, [⟨a, b⟩, ⟨c, d⟩]⟩]) e).2 == 0) = false ∨ (((holdP (textP [⟨false, [⟨a, b⟩, ⟨c, d⟩]⟩]) e).2 == 0) = true ∧ envOk e = true ∧ (holdP (textP [⟨false, [⟨a, b⟩, ⟨c, d⟩]⟩]) e).1 = anyQ [⟨false, [⟨a, b⟩, ⟨c, d⟩]⟩] e) := by
  have hr := read_text (Q := [⟨false, [⟨a, b⟩, ⟨c, d⟩]⟩]) (by simp) (good_two ha hc hb hd)
  by_cases hl : 400 < (textP [⟨false, [⟨a, b⟩, ⟨c, d⟩]⟩]).length
  · rw [if_pos hl] at hr
    exact .inl (by rw [hold_none hr]; rfl)
  · rw [if_neg hl] at hr
    cases he : envOk e
    · exact .inl (by rw [hold_env hr he]; rfl)
    · exact .inr ⟨by rw [hold_some hr he]; rfl, rfl, by rw [hold_some hr he]⟩
theorem so_or (b : Bool) : (if b then (1 : Int) else -1) = 1 ↔ b = true := by cases b <;> simp
theorem any_least (r q : Int) (e : En) : anyQ [⟨false, [⟨4, r⟩, ⟨6, q⟩]⟩] e = (decide (r ≤ e.w) && decide (q ≤ e.h)) := by
  have h1 : soP ⟨4, r⟩ e = if decide (r ≤ e.w) then 1 else -1 := so_is rfl
  have h2 : soP ⟨6, q⟩ e = if decide (q ≤ e.h) then 1 else -1 := so_is rfl
  unfold anyQ allP
  simp only [List.any_cons, List.any_nil, Bool.or_false, Bool.false_eq_true, if_false, minF, h1, h2]
  cases decide (r ≤ e.w) <;> cases decide (q ≤ e.h) <;> decide
theorem any_most (r q : Int) (e : En) : anyQ [⟨false, [⟨5, r⟩, ⟨7, q⟩]⟩] e = (decide (e.w ≤ r) && decide (e.h ≤ q)) := by
  have h1 : soP ⟨5, r⟩ e = if decide (e.w ≤ r) then 1 else -1 := so_is rfl
  have h2 : soP ⟨7, q⟩ e = if decide (e.h ≤ q) then 1 else -1 := so_is rfl
  unfold anyQ allP
  simp only [List.any_cons, List.any_nil, Bool.or_false, Bool.false_eq_true, if_false, minF, h1, h2]
  cases decide (e.w ≤ r) <;> cases decide (e.h ≤ q) <;> decide

/-- the law, plain -/
theorem wider_plain (r q x y : Int) (hr : 0 ≤ r ∧ r < 5000) (hq : 0 ≤ q ∧ q < 5000) (hx : 0 ≤ x ∧ x < 500) (hy : 0 ≤ y ∧ y < 300) (e : En) (g : En) (hg : g = ⟨min (max e.w 0) 4000 + x, min (max e.h 0) 4000 + y, e.dark, e.pr⟩) (H1 H2 H3 H4 : Bool × Int)
    (h1 : holdP (textP [⟨false, [⟨4, r⟩, ⟨6, q⟩]⟩]) e = H1) (h2 : holdP (textP [⟨false, [⟨4, r⟩, ⟨6, q⟩]⟩]) g = H2) (h3 : holdP (textP [⟨false, [⟨5, r⟩, ⟨7, q⟩]⟩]) g = H3) (h4 : holdP (textP [⟨false, [⟨5, r⟩, ⟨7, q⟩]⟩]) e = H4) :
    (H1.2 == 0) = false ∨ ((H1.2 == 0) = true ∧ (H2.2 == 0) = false) ∨ ((H1.2 == 0) = true ∧ (H2.2 == 0) = true ∧ (H3.2 == 0) = false) ∨ ((H1.2 == 0) = true ∧ (H2.2 == 0) = true ∧ (H3.2 == 0) = true ∧ (H4.2 == 0) = false) ∨
    ((H1.2 == 0) = true ∧ (H2.2 == 0) = true ∧ (H3.2 == 0) = true ∧ (H4.2 == 0) = true ∧ (!H1.1 || H2.1) = true ∧ (!H3.1 || H4.1) = true) := by
  have a1 := hold_two (a := 4) (b := r) (c := 6) (d := q) ⟨by omega, by omega⟩ ⟨by omega, by omega⟩ ⟨by omega, by omega⟩ ⟨by omega, by omega⟩ e
  have a2 := hold_two (a := 4) (b := r) (c := 6) (d := q) ⟨by omega, by omega⟩ ⟨by omega, by omega⟩ ⟨by omega, by omega⟩ ⟨by omega, by omega⟩ g
  have a3 := hold_two (a := 5) (b := r) (c := 7) (d := q) ⟨by omega, by omega⟩ ⟨by omega, by omega⟩ ⟨by omega, by omega⟩ ⟨by omega, by omega⟩ g
  have a4 := hold_two (a := 5) (b := r) (c := 7) (d := q) ⟨by omega, by omega⟩ ⟨by omega, by omega⟩ ⟨by omega, by omega⟩ ⟨by omega, by omega⟩ e
  rw [h1, any_least] at a1
  rw [h2, any_least] at a2
  rw [h3, any_most] at a3
  rw [h4, any_most] at a4
  rcases a1 with a1 | ⟨a1, he, b1⟩
  · exact .inl a1
  rcases a2 with a2 | ⟨a2, _, b2⟩
  · exact .inr (.inl ⟨a1, a2⟩)
  rcases a3 with a3 | ⟨a3, _, b3⟩
  · exact .inr (.inr (.inl ⟨a1, a2, a3⟩))
  rcases a4 with a4 | ⟨a4, _, b4⟩
  · exact .inr (.inr (.inr (.inl ⟨a1, a2, a3, a4⟩)))
  unfold envOk at he
  have he2 := of_decide_eq_true he
  subst hg
  simp only at b2 b3
  refine .inr (.inr (.inr (.inr ⟨a1, a2, a3, a4, ?_, ?_⟩)))
  · rw [b1, b2]
    by_cases c1 : r ≤ e.w ∧ q ≤ e.h
    · rw [decide_eq_true (show r ≤ min (max e.w 0) 4000 + x by omega), decide_eq_true (show q ≤ min (max e.h 0) 4000 + y by omega)]
      simp
    · have : (decide (r ≤ e.w) && decide (q ≤ e.h)) = false := by
        rw [Bool.and_eq_false_iff, decide_eq_false_iff_not, decide_eq_false_iff_not]
        omega
      rw [this]
      rfl
  · rw [b3, b4]
    by_cases c1 : e.w ≤ r ∧ e.h ≤ q
    · rw [decide_eq_true c1.1, decide_eq_true c1.2]
      simp
    · have : (decide (min (max e.w 0) 4000 + x ≤ r) && decide (min (max e.h 0) 4000 + y ≤ q)) = false := by
        rw [Bool.and_eq_false_iff, decide_eq_false_iff_not, decide_eq_false_iff_not]
        omega
      rw [this]
      rfl

set_option maxRecDepth 100000 in
set_option maxHeartbeats 16000000 in
theorem wider.law_ct (n m : Int) (e : En) (more : Int) (w : World) (hE : MEnv w) :
    Calls Tryz.prog 6 #[.int .i64 n, .int .i64 m, e.v, .int .i64 more] w fun x w' => x = .returned (.bool true) ∧ Below w.heap.size w w' := by
  obtain ⟨r, r0, r1, hr⟩ := rest_of n 5000 (by omega) (by omega)
  obtain ⟨q, q0, q1, hq⟩ := rest_of m 5000 (by omega) (by omega)
  obtain ⟨x, x0, x1, hx⟩ := rest_of more 500 (by omega) (by omega)
  obtain ⟨y, y0, y1, hy⟩ := rest_of more 300 (by omega) (by omega)
  have g1 := good_two (a := 4) (b := r) (c := 6) (d := q) ⟨by omega, by omega⟩ ⟨by omega, by omega⟩ ⟨by omega, by omega⟩ ⟨by omega, by omega⟩
  have g2 := good_two (a := 5) (b := r) (c := 7) (d := q) ⟨by omega, by omega⟩ ⟨by omega, by omega⟩ ⟨by omega, by omega⟩ ⟨by omega, by omega⟩
  have c1 : cnt [(⟨false, [⟨4, r⟩, ⟨6, q⟩]⟩ : Qu)] ≤ 1203 := by simp [cnt]
  have c2 : cnt [(⟨false, [⟨5, r⟩, ⟨7, q⟩]⟩ : Qu)] ≤ 1203 := by simp [cnt]
  have l1 := text_len g1 c1
  have l2 := text_len g2 c2
  have cT1 := Lib.hid (fun v W hQ hE => mtext_ct v _ W hQ g1 (by simp) c1 hE)
  have cT2 := Lib.hid (fun v W hQ hE => mtext_ct v _ W hQ g2 (by simp) c2 hE)
  have cW := Lib.hid (fun W hE => wide_ct W hE)
  have HE := Lib.hid hE
  obtain ⟨ge, hge⟩ : ∃ ge : En, ge = ⟨min (max e.w 0) 4000 + x, min (max e.h 0) 4000 + y, e.dark, e.pr⟩ := ⟨_, rfl⟩
  have hfin := wider_plain r q x y ⟨r0, r1⟩ ⟨q0, q1⟩ ⟨x0, x1⟩ ⟨y0, y1⟩ e ge hge _ _ _ _ rfl rfl rfl rfl
  have cH1 := fun W hE => mholds_ct (textP [⟨false, [⟨4, r⟩, ⟨6, q⟩]⟩]) (by omega) e W hE
  have cH2 := fun W hE => mholds_ct (textP [⟨false, [⟨4, r⟩, ⟨6, q⟩]⟩]) (by omega) ge W hE
  have cH3 := fun W hE => mholds_ct (textP [⟨false, [⟨5, r⟩, ⟨7, q⟩]⟩]) (by omega) ge W hE
  have cH4 := fun W hE => mholds_ct (textP [⟨false, [⟨5, r⟩, ⟨7, q⟩]⟩]) (by omega) e W hE
  generalize holdP (textP [⟨false, [⟨4, r⟩, ⟨6, q⟩]⟩]) e = H1 at *
  generalize holdP (textP [⟨false, [⟨4, r⟩, ⟨6, q⟩]⟩]) ge = H2 at *
  generalize holdP (textP [⟨false, [⟨5, r⟩, ⟨7, q⟩]⟩]) ge = H3 at *
  generalize holdP (textP [⟨false, [⟨5, r⟩, ⟨7, q⟩]⟩]) e = H4 at *
  generalize textP [⟨false, [⟨4, r⟩, ⟨6, q⟩]⟩] = T1 at *
  generalize textP [⟨false, [⟨5, r⟩, ⟨7, q⟩]⟩] = T2 at *
  obtain ⟨xa, xe⟩ := H1
  obtain ⟨xb, xf⟩ := H2
  obtain ⟨xc, xg⟩ := H3
  obtain ⟨xd, xh⟩ := H4
  subst hge
  obtain ⟨ew, eh, ed, ep⟩ := e
  simp only [En.v] at cH1 cH2 cH3 cH4 hfin ⊢
  have u1 : IntKind.i64.wrap (min (max ew 0) 4000 + x) = min (max ew 0) 4000 + x := IntWalk.i64_in _ (by omega)
  have u2 : IntKind.i64.wrap (min (max eh 0) 4000 + y) = min (max eh 0) 4000 + y := IntWalk.i64_in _ (by omega)
  have u3 : IntKind.i64.wrap r = r := IntWalk.i64_in _ (by omega)
  have u4 : IntKind.i64.wrap q = q := IntWalk.i64_in _ (by omega)
  have u5 : IntKind.i64.wrap x = x := IntWalk.i64_in _ (by omega)
  have u6 : IntKind.i64.wrap y = y := IntWalk.i64_in _ (by omega)
  replace cH1 := Lib.hid cH1
  replace cH2 := Lib.hid cH2
  replace cH3 := Lib.hid cH3
  replace cH4 := Lib.hid cH4
  have HFin := Lib.hid hfin
  have hb0 := (Below.refl w.heap.size w).alloc (Nat.le_refl _) (.cells #[.int .i64 ew, .int .i64 eh, .bool ed, .bool ep] 48)
  have HB0 := Lib.hid hb0
  have HBlk := Lib.hid (Blk.new (w := w) (t := 48) (cs := #[.int .i64 ew, .int .i64 eh, .bool ed, .bool ep]) rfl)
  clear hE hb0 g1 g2 c1 c2 l1 l2 hfin
  go_enter Tryz.func6, Tryz.ntmps6
  go_upto_region 7 with (first
    | (go_at_call 12; (with_reducible refine (cW.out _ (HE.out.on HB0.out)).mono ?_); rintro e W1 ⟨rfl, hb1⟩; have HB1 := Lib.hid (HB0.out.trans (hb1.mono (by simp))); have bE1 := Lib.hid (HBlk.out.below hb1 (by simp)); clear hb1)
    | (go_at_call 14; (with_reducible refine (cT1.out _ _ (qs_built W1 4 r 6 q) (HE.out.on ((HB1.out.alloc HB1.out.size _).alloc (by have := HB1.out.size; simp; omega) _))).mono ?_); rintro e W2 ⟨rfl, hb2⟩; have HB2 := Lib.hid (((HB1.out.alloc HB1.out.size _).alloc (by have := HB1.out.size; simp; omega) _).trans (hb2.mono (by have := HB1.out.size; simp; omega))); have bE2 := Lib.hid (((bE1.out.alloc _).alloc _).below hb2 (by have := bE1.out.lt; simp; omega)); clear hb2 cT1)
    | (go_at_call 14; (with_reducible refine (cT2.out _ _ (qs_built W2 5 r 7 q) (HE.out.on ((HB2.out.alloc HB2.out.size _).alloc (by have := HB2.out.size; simp; omega) _))).mono ?_); rintro e W3 ⟨rfl, hb3⟩; have HB3 := Lib.hid (((HB2.out.alloc HB2.out.size _).alloc (by have := HB2.out.size; simp; omega) _).trans (hb3.mono (by have := HB2.out.size; simp; omega))); have bE3 := Lib.hid (((bE2.out.alloc _).alloc _).below hb3 (by have := bE2.out.lt; simp; omega)); have cE3 := bE3.out.cell; have zE3 := bE3.out.lt; clear hb3 cT2))
  generalize hV : W3.alloc (.cells #[.int .i64 (min (max ew 0) 4000 + x), .int .i64 (min (max eh 0) 4000 + y), .bool ed, .bool ep] 48) = V
  have HBV := Lib.hid (show Below w.heap.size w V by subst hV; exact HB3.out.alloc HB3.out.size _)
  have bE := Lib.hid (show Blk V w.heap.size 48 #[.int .i64 ew, .int .i64 eh, .bool ed, .bool ep] by subst hV; exact bE3.out.alloc _)
  have bG := Lib.hid (show Blk V W3.heap.size 48 #[.int .i64 (min (max ew 0) 4000 + x), .int .i64 (min (max eh 0) 4000 + y), .bool ed, .bool ep] by subst hV; exact Blk.new rfl)
  have cE := bE.out.cell
  have cG := bG.out.cell
  clear hV cE3 zE3 u1 u2 u3 u4 u5 u6
  generalize min (max ew 0) 4000 + x = gw at *
  generalize min (max eh 0) 4000 + y = gh at *
  go_upto_region 11 with (first
    | (go_at_call 16; (with_reducible refine (cH1.out _ (HE.out.on HBV.out)).mono ?_); rintro e W4 ⟨rfl, hb4⟩; have HB4 := Lib.hid (HBV.out.trans (hb4.mono HBV.out.size)); have bE4 := Lib.hid (bE.out.below hb4 bE.out.lt); have bG4 := Lib.hid (bG.out.below hb4 bG.out.lt); have cE4 := bE4.out.cell; have cG4 := bG4.out.cell; clear hb4 cE cG cH1)
    | (go_at_call 16; (with_reducible refine (cH2.out _ (HE.out.on HB4.out)).mono ?_); rintro e W5 ⟨rfl, hb5⟩; have HB5 := Lib.hid (HB4.out.trans (hb5.mono HB4.out.size)); have bE5 := Lib.hid (bE4.out.below hb5 bE4.out.lt); have bG5 := Lib.hid (bG4.out.below hb5 bG4.out.lt); have cE5 := bE5.out.cell; have cG5 := bG5.out.cell; clear hb5 cE4 cG4 cH2)
    | (go_at_call 16; (with_reducible refine (cH3.out _ (HE.out.on HB5.out)).mono ?_); rintro e W6 ⟨rfl, hb6⟩; have HB6 := Lib.hid (HB5.out.trans (hb6.mono HB5.out.size)); have bE6 := Lib.hid (bE5.out.below hb6 bE5.out.lt); have cE6 := bE6.out.cell; clear hb6 cE5 cG5 cH3)
    | (go_at_call 16; (with_reducible refine (cH4.out _ (HE.out.on HB6.out)).mono ?_); rintro e W7 ⟨rfl, hb7⟩; have HB7 := Lib.hid (HB6.out.trans (hb7.mono HB6.out.size)); clear hb7 cE6 cH4))
  rcases HFin.out with k1 | ⟨k1, k2⟩ | ⟨k1, k2, k3⟩ | ⟨k1, k2, k3, k4⟩ | ⟨k1, k2, k3, k4, p1, p2⟩
  · have n1 : (xe != 0) = true := by rw [bne, k1]; rfl
    go_wp2_with fail
    go_ret
    exact ⟨rfl, HB7.out⟩
  · have n1 : (xe != 0) = false := by rw [bne, k1]; rfl
    have n2 : (xf != 0) = true := by rw [bne, k2]; rfl
    go_wp2_with fail
    go_ret
    exact ⟨rfl, HB7.out⟩
  · have n1 : (xe != 0) = false := by rw [bne, k1]; rfl
    have n2 : (xf != 0) = false := by rw [bne, k2]; rfl
    have n3 : (xg != 0) = true := by rw [bne, k3]; rfl
    go_wp2_with fail
    go_ret
    exact ⟨rfl, HB7.out⟩
  · have n1 : (xe != 0) = false := by rw [bne, k1]; rfl
    have n2 : (xf != 0) = false := by rw [bne, k2]; rfl
    have n3 : (xg != 0) = false := by rw [bne, k3]; rfl
    have n4 : (xh != 0) = true := by rw [bne, k4]; rfl
    go_wp2_with fail
    go_ret
    exact ⟨rfl, HB7.out⟩
  · have n1 : (xe != 0) = false := by rw [bne, k1]; rfl
    have n2 : (xf != 0) = false := by rw [bne, k2]; rfl
    have n3 : (xg != 0) = false := by rw [bne, k3]; rfl
    have n4 : (xh != 0) = false := by rw [bne, k4]; rfl
    cases xa <;> cases xb <;> cases xc <;> cases xd <;> first
      | (exfalso; revert p1; decide)
      | (exfalso; revert p2; decide)
      | (clear p1 p2
         go_wp2_with fail
         go_ret
         exact ⟨rfl, HB7.out⟩)

end Go.Proofs.YtmjbaimccbkmpaaGreatDoor.med

namespace Go.Proofs.YtmjbaimccbkmpaaGreatDoor.med.wider
open Go.RowKit Go.Proofs.YtmjbaimccbkmpaaGreatDoor.base Go.Proofs.YtmjbaimccbkmpaaGreatDoor.tok Go.Proofs.YtmjbaimccbkmpaaGreatDoor.med Go.ChangeShapes Go.WideShapes Go.ChangeAt
set_option linter.unusedVariables false

set_option maxRecDepth 100000 in
theorem lifted (os : Os) (started : os.Started) (H : Type) (enc : TypeId × Value → H) :
    ReturnsInHanded {} Tryz.checked os 6 .any (fun w args => (Rows.mediaWiderSpec.pre enc Tryz.prog Tryz.f6 Rows.mediaWiderRow.domain false w args ∧ laidMetH Tryz.prog Rows.mediaWiderRow.laid w) ∧ sizedMet enc Tryz.prog Tryz.f6 (OpenSpec.ofChange Rows.mediaWiderSpec) false w args)
      (Rows.mediaWiderSpec.post enc Tryz.prog Tryz.f6 false true false false) := by
  refine returns_door (C := Tryz.checked) (X := fun w _ => laidMetH Tryz.prog Rows.mediaWiderRow.laid w) (fun _ _ _ hh h => h.of_heap hh) ownD started (by kernel_rfl) Tryz.func6
    (ChangeSpec.witness_shaped (enc := enc) (C := Tryz.checked) (os := os) (X := fun w _ => laidMetH Tryz.prog Rows.mediaWiderRow.laid w) false (World.laidAll Tryz.prog os Rows.mediaWiderRow.laid) #[.int .i64 0, .int .i64 0, .agg #[.int .i64 0, .int .i64 0, .bool false, .bool false], .int .i64 0] 8 (World.laidAll_os _ _ _)
      (World.shaped_of_ZipB (by kernel_rfl) (by kernel_rfl)) (by kernel_rfl) (by kernel_rfl) (by kernel_rfl)
      (by rw [MakeChecks.laidMetH_plain _ _ _ (by kernel_rfl)]; exact laidMet_laidAll _ (by kernel_rfl) (by kernel_rfl))) ?_
  intro W base args ds gs before hval0 hW hsz hlaid hsh
  have hval : ∀ (j : Nat) t v, Tryz.f6.params[j]? = some t → args[j]? = some v → Value.okWide Tryz.prog W .any base t v := hval0
  have hW' := hW
  obtain ⟨p, q, hA0, hV, -, -, -⟩ := hW
  have hA : DataW.TrodAll enc Tryz.prog W 0 (fun _ => true) true Tryz.f6.params.toList args.toList ds p := hA0
  rw [Tryz.params6] at hA hval
  obtain ⟨v0, vs0, d0, ds0, p0, q0, hargs, rfl, -, h0, r0⟩ := trodAll_cons hA
  obtain ⟨v1, vs1, d1, ds1, p1, q1, rfl, rfl, -, h1, r1⟩ := trodAll_cons r0
  obtain ⟨v2, vs2, d2, ds2, p2, q2, rfl, rfl, -, h2, r2⟩ := trodAll_cons r1
  obtain ⟨v3, vs3, d3, ds3, p3, q3, rfl, rfl, -, h3, r3⟩ := trodAll_cons r2
  obtain ⟨rfl, rfl, -⟩ := trodAll_nil r3
  obtain rfl : args = #[v0, v1, v2, v3] := by cases args; simp_all
  obtain ⟨rfl, -⟩ := trodVars_none hV
  obtain ⟨a, rfl, -, -, -⟩ := open_int Tryz.underlying3 (hval 0 _ _ rfl rfl) h0
  obtain ⟨b, rfl, -, -, -⟩ := open_int Tryz.underlying3 (hval 1 _ _ rfl rfl) h1
  obtain ⟨c, rfl⟩ := open_env (hval 2 _ _ rfl rfl) h2
  obtain ⟨d, rfl, -, -, -⟩ := open_int Tryz.underlying3 (hval 3 _ _ rfl rfl) h3
  rw [MakeChecks.laidMetH_plain _ _ _ (by kernel_rfl)] at hlaid
  exact (law_ct a b c d W ⟨maxLen_of hsh, words_laid hlaid (by simp [Rows.mediaWiderRow]), dim.pow_of hlaid (by simp [Rows.mediaWiderRow]), err_of (by kernel_rfl) (by kernel_rfl) hlaid.tail.tail.tail.tail.tail, err_of (by kernel_rfl) (by kernel_rfl) hlaid.tail.tail.tail.tail⟩).mono fun e W' ⟨he, bel⟩ => ⟨_, he, law_post laidOutD rfl Tryz.underlying4 rfl (by intro t ht; rw [Tryz.params6] at ht; revert t; decide +kernel) rfl hW' bel⟩

theorem holds : Rows.MediaWiderSaid :=
  OpenClaim.holds_of_wide 6 Tryz.f6 rfl rfl rfl rfl rfl rfl rfl ⟨rfl, rfl, rfl, rfl, rfl⟩ rfl rfl rfl rfl rfl (by kernel_rfl) Tryz.func6 (by kernel_rfl)
    (of_decide_eq_true (by kernel_rfl)) (by unfold Func.isWrapper; first | (rw [if_pos (by decide +kernel)]; kernel_rfl) | (rw [if_neg (by decide +kernel)]; exact ⟨rfl, rfl⟩))
    (fun os started H enc _ => lifted os started H enc)

theorem proved : Rows.MediaWiderCardSaid :=
  Claim7.holds_tied_plain_at .later [] Rows.mediaWiderCard.laidKinds true Rows.mediaWiderCard.stood.harness Rows.mediaWiderCard.stood.looks holds (fun _ h => by cases h) (by kernel_rfl) (fun _ h => by cases h) mediaWider_row_tie rfl ⟨rfl, rfl⟩ (by kernel_rfl) rfl
    (fun f fn hf hfn => by
      obtain rfl : f = 6 := Option.some.inj ((show Tryz.prog.funcNamed "clerestory/clerestorykeep2.MediaWider" = some 6 by kernel_rfl).symm.trans hf) |>.symm
      obtain rfl : fn = Tryz.f6 := (Option.some.inj (Tryz.func6.symm.trans hfn)).symm
      exact ⟨by kernel_rfl, fun j t ht => by
        rw [Tryz.params6] at ht
        have hm : t ∈ [3, 3, 48, 3] := by simpa using Array.mem_of_getElem? ht
        have hall : ([3, 3, 48, 3].all fun u => !Tryz.prog.wantsStandIn u) = true := by kernel_rfl
        exact (show Tryz.prog.wantsStandIn t = false by simpa using List.all_eq_true.1 hall t hm)⟩)
    (by kernel_rfl)
#print axioms proved

end Go.Proofs.YtmjbaimccbkmpaaGreatDoor.med.wider
