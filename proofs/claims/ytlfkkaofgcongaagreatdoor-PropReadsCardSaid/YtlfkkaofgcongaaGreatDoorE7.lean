/- Contracts and plain law, a bundle. -/
import Derived.Lib.Hide
import Derived.Test.YtlfkkaofgcongaaGreatDoorE6
set_option linter.unusedVariables false
set_option maxRecDepth 100000
set_option maxHeartbeats 16000000
open Go.Lib (hid)
namespace Go.Proofs.YtlfkkaofgcongaaGreatDoor
namespace clb
open Go.RowKit base tok dim rul cal
def ValC (N : Nat) : Prop := ∀ (b : Nat) (inb : Bool) (L : List Tk) (n : Nat) (g : Bool) (d : Nat) (w : World), L.length <= N -> GoodR L -> n <= 30 -> 6 * L.length + 1 <= d -> RdrAt w b L (n : Int) g -> Env b w ->
 Calls Tryz.prog 62 #[.pointer (some ⟨b, 0, none⟩), .bool inb] w (RetV b w (valF d inb L n))
def ProdC (N : Nat) : Prop := ∀ (b : Nat) (L : List Tk) (n : Nat) (g : Bool) (d : Nat) (w : World), L.length <= N -> GoodR L -> n <= 30 -> 6 * L.length + 2 <= d -> RdrAt w b L (n : Int) g -> Env b w ->
 Calls Tryz.prog 134 #[.pointer (some ⟨b, 0, none⟩)] w (RetP b w (prodF d L n))
def SumC (N : Nat) : Prop := ∀ (b : Nat) (L : List Tk) (n : Nat) (g : Bool) (d : Nat) (w : World), L.length <= N -> GoodR L -> n <= 30 -> 6 * L.length + 4 <= d -> RdrAt w b L (n : Int) g -> Env b w ->
 Calls Tryz.prog 92 #[.pointer (some ⟨b, 0, none⟩)] w (RetP b w (sumF d L n))
theorem GoodR.good {L : List Tk} (h : GoodR L) : GoodL L := fun t ht h7 => tok_num (h.2 t ht).1 h7
theorem gap_any (b : Nat) (L : List Tk) (k : Int) (g : Bool) (w : World) (h : RdrAt w b L k g) (hn : L.length <= 1000000) :
  Calls Tryz.prog 61 #[.pointer (some ⟨b, 0, none⟩)] w fun e w' => e = .returned (.bool (gapB L)) /\ RdrAt w' b (clb.gapP L) k g /\ w.grownBy w' (some b) := gap_ct b L k g w h hn
theorem die_any {G : Prop} {P : Program} {a : Act} {w : World} (h : wpAny P .any #[] (fun _ _ _ => G) 0 #[] a w) : G := h.2
theorem te_two {X : Nat -> Prop} {w : World} {c : Nat} {T : TypeId} {k : Int} {t u : Te} {x0 x1 x2 x3 y0 y1 y2 y3 : Value} (h : Blk w c T #[x0, x1, x2, x3, y0, y1, y2, y3]) (hX : X c) (ht : TeAt X w t (.agg #[x0, x1, x2, x3])) (hu : TeAt X w u (.agg #[y0, y1, y2, y3])) :
  TeAt X w (.op k [t, u]) (.agg #[.int .i64 k, .int .i64 0, .string ⟨#[]⟩, .slice (some ⟨c, 0, none⟩) 2 2]) := by
 rw [TeAt]
 refine ⟨c, 0, 2, rfl, by simp, hX, h.lt, ?_⟩
 rw [TesAt, TesAt, TesAt]
 exact ⟨⟨x0, x1, x2, x3, h.cell 0, h.cell 1, h.cell 2, h.cell 3, ht⟩, ⟨y0, y1, y2, y3, h.cell 4, h.cell 5, h.cell 6, h.cell 7, hu⟩, trivial⟩
def PRel (b : Nat) (w : World) (q : Nat) (N : Nat) (R : Option (Te × List Tk × Nat × Bool)) (wr : World) : Prop :=
 ∃ (t : Te) (L : List Tk) (n d : Nat) (g : Bool) (vk vn : Int) (vu : ByteArray) (va : Option Addr) (vl vc : Nat), prodG d t L n = R /\ L.length < N /\ GoodR L /\ n <= 30 /\ 6 * L.length + 3 <= d /\ RdrAt wr b L (n : Int) g /\
  TeAt (fun c => w.heap.size + 1 <= c /\ c ≠ q) wr t (.agg #[.int .i64 vk, .int .i64 vn, .string vu, .slice va vl vc]) /\ Blk wr q 50 #[.int .i64 vk, .int .i64 vn, .string vu, .slice va vl vc] /\
  Blk wr w.heap.size 50 #[.int .i64 0, .int .i64 0, .string ⟨#[]⟩, .slice none 0 0] /\ w.grownBy wr (some b) /\ q < wr.heap.size
theorem prod_ct (N : Nat) (hV : ValC N) : ProdC N := by
 intro b L n g d w hL hgood hn hd h hE
 obtain ⟨d, rfl⟩ : ∃ e, d = e + 1 := ⟨d - 1, by omega⟩
 have hg0 := gap_le L
 have hgl : (clb.gapP L).length <= N := Nat.le_trans hg0 hL
 have cG := hid (fun w h => gap_any b L (n : Int) g w h (by have := hgood.1; omega))
 have cV := fun w h hE => hV b true (clb.gapP L) n g d w hgl (hgood.suf (gap_suf L)) hn (by omega) h hE
 have hF : prodF (d + 1) L n = (valF d true (clb.gapP L) n).bind fun r => prodG d r.1 r.2.1 r.2.2 := by rw [prodF]
 rw [hF]
 have hinv := (inv_all d).1 true (clb.gapP L) n
 have hlt := h.lt
 have HR0 := hid (h.alloc (.cells #[.int .i64 0, .int .i64 0, .string ⟨#[]⟩, .slice none 0 0] 50))
 have HG0 := hid (show w.grownBy (w.alloc (.cells #[.int .i64 0, .int .i64 0, .string ⟨#[]⟩, .slice none 0 0] 50)) (some b) from grown_alloc (World.grownBy.refl _ _) _)
 have Q0 := hid (show Blk (w.alloc (.cells #[.int .i64 0, .int .i64 0, .string ⟨#[]⟩, .slice none 0 0] 50)) w.heap.size 50 #[.int .i64 0, .int .i64 0, .string ⟨#[]⟩, .slice none 0 0] from Blk.new rfl)
 have hz0 := hid (show w.heap.size + 1 <= (w.alloc (.cells #[.int .i64 0, .int .i64 0, .string ⟨#[]⟩, .slice none 0 0] 50)).heap.size by simp)
 replace hE := hid hE
 clear h hF
 cases hv : valF d true (clb.gapP L) n with
 | none =>
  rw [hv] at cV
  replace cV := hid cV
  simp only [Option.bind_none]
  clear hinv
  go_enter Tryz.func134, Tryz.ntmps134
  go_wp2_with (first
   | (go_at_call 61; (with_reducible refine (cG.out _ HR0.out).mono ?_); rintro e W1 ⟨rfl, hr1, hg1⟩; have HR1 := hid hr1; have HG1 := hid (HG0.out.trans hg1); clear hr1 hg1)
   | (go_at_call 62; (with_reducible refine (cV.out _ HR1.out (hE.out.on (below_one HG1.out hlt))).mono ?_); rintro e W2 ⟨hg2, x, hx, rfl⟩; have HX := hid hx; have HG2 := hid (HG1.out.trans hg2); clear hg2 hx))
  exact ⟨rfl, HG2.out, x, HX.out, rfl⟩
 | some r =>
  obtain ⟨t, M, m⟩ := r
  rw [hv] at cV
  replace cV := hid cV
  obtain ⟨-, -, hm30, hMs, hMl⟩ := hinv t M m (hgood.good.suf (gap_suf L)) hv
  have HM := hid (hgood.suf (hMs.trans (gap_suf L)))
  simp only [Option.bind_some]
  generalize hR : prodG d t M m = R
  replace hR := hid hR
  have hMN : M.length < N := by omega
  have hd3 : 6 * M.length + 3 <= d := by omega
  clear hinv hMs hv
  go_enter Tryz.func134, Tryz.ntmps134
  go_wp2_with (first
   | (go_at_call 61; (with_reducible refine (cG.out _ HR0.out).mono ?_); rintro e W1 ⟨rfl, hr1, hg1⟩; have HR1 := hid hr1; have HG1 := hid (HG0.out.trans hg1); have Q1 := hid (Blk_grown Q0.out hg1 (by omega)); have hz1 := Nat.le_trans hz0.out hg1.size; clear hr1 hg1)
   | (go_at_call 62; (with_reducible refine (cV.out _ HR1.out (hE.out.on (below_one HG1.out hlt))).mono ?_); rintro e W2 ⟨hg2, v, g2, rfl, ht2, hr2⟩; obtain ⟨vk, vn, vu, va, vl, vc, rfl⟩ := ht2.four; have HR2 := hid hr2; have HG2 := hid (HG1.out.trans hg2); have Q2 := hid (Blk_grown Q1.out hg2 (by omega)); have T2 := hid (ht2.wide (Y := fun c => w.heap.size + 1 <= c /\ c ≠ W2.heap.size) (fun c h h2 => ⟨Nat.le_trans hz1 h, by omega⟩)); have hz2 := Nat.le_trans hz1 hg2.size; clear hr2 hg2 ht2))
  go_loopw [] (fun wr => PRel b w W2.heap.size N R wr) (fun wr => cal.lenV (wr.cell? ⟨b, 0, none⟩))
  case atStart => exact ⟨t, M, m, d, g2, vk, vn, vu, va, vl, vc, hR.out, hMN, HM.out, hm30, hd3, HR2.out.alloc _, T2.out.on ((Below.refl _ _).alloc (Nat.le_refl _) _), Blk.new rfl, Q2.out.alloc _, grown_alloc HG2.out _, by simp⟩
  case round =>
   clear hR HM hMN hd3 hm30 hMl T2 HR2
   obtain ⟨t, L, n, d, g, vk, vn, vu, va, vl, vc, hR, hLN, hgd, hn, hd, hr, ht, hq, hz, hgr, hqz⟩ := hrel
   obtain ⟨d, rfl⟩ : ∃ e, d = e + 1 := ⟨d - 1, by omega⟩
   have hg0 := gap_le L
   have hgs := gap_suf L
   have hlenV := hr.lenV
   have c3 := hid (fun w h => gap_any b L (n : Int) g w h (by have := hgd.1; omega))
   have hF := hR
   rw [prodG] at hF
   replace hr := hid hr
   replace ht := hid ht
   replace hq := hid hq
   replace hz := hid hz
   replace hgr := hid hgr
   have hsz := hgr.out.size
   have HGD := hid hgd
   clear hgd hR
   cases hgp : clb.gapP L with
   | nil =>
    rw [hgp] at hF c3
    obtain rfl := hF
    have c9 := hid (fun w h => raw_end b (n : Int) (gapB L) ⟨#[42]⟩ w h)
    have c10 := hid (fun w h => raw_end b (n : Int) (gapB L) ⟨#[47]⟩ w h)
    go_wp2_with (first
     | (go_at_call 61; (with_reducible refine (c3.out _ hr.out).mono ?_); rintro e W3 ⟨rfl, hr3, hg3⟩; obtain ⟨A3, cap3, hc3, hb3, hrd3⟩ := id hr3; have hcl3 := hb3.cell; have hfr3 := hb3.frozen; have HR3 := hid (hr3.gapped (gapB L)); have q3 := (Blk_grown hq.out hg3 (by omega)).far (p := ⟨b, 2, none⟩) (by dsimp only; omega) (.bool (gapB L)); have z3 := hid ((Blk_grown hz.out hg3 (by omega)).far (p := ⟨b, 2, none⟩) (by dsimp only; omega) (.bool (gapB L))); have G3 := hid ((hgr.out.trans hg3).trans (grown_set W3 b 2 (.bool (gapB L)))); have T3 := hid ((ht.out.grown hg3 (fun c (h : w.heap.size + 1 <= c /\ c ≠ W2.heap.size) => by omega)).far (p := ⟨b, 2, none⟩) (fun c (h : w.heap.size + 1 <= c /\ c ≠ W2.heap.size) => by dsimp only; omega) (.bool (gapB L))); have qc3 := q3.cell; have qf3 := q3.frozen; have zc3 := z3.out.cell; have zf3 := z3.out.frozen; have Q3 := hid q3; clear hr3 hg3 q3 hb3 hrd3)
     | (go_at_call 93; (with_reducible refine (c9.out _ HR3.out).mono ?_); rintro e W4 ⟨rfl, rfl⟩)
     | (go_at_call 93; (with_reducible refine (c10.out _ HR3.out).mono ?_); rintro e W4 ⟨rfl, rfl⟩))
    have e := Blk.cell (Blk.four (z3.out) (.int .i64 vk) (.int .i64 vn) (.string vu) (.slice va vl vc))
    refine bodyPost_ret (v := .agg #[.int .i64 vk, .int .i64 vn, .string vu, .slice va vl vc]) (by simp [results, Tryz.results134, go_sem, e]) rfl ⟨?_, _, rfl, ?_, ?_⟩
    ·exact grown_far (grown_far (grown_far (grown_far G3.out (Nat.le_refl _)) (Nat.le_refl _)) (Nat.le_refl _)) (Nat.le_refl _)
    ·exact TeAt.wide (((((T3.out.far (p := ⟨w.heap.size, 0, none⟩) (fun c (h : w.heap.size + 1 <= c /\ c ≠ W2.heap.size) => by dsimp only; omega) _).far (p := ⟨w.heap.size, 1, none⟩) (fun c (h : w.heap.size + 1 <= c /\ c ≠ W2.heap.size) => by dsimp only; omega) _).far (p := ⟨w.heap.size, 2, none⟩) (fun c (h : w.heap.size + 1 <= c /\ c ≠ W2.heap.size) => by dsimp only; omega) _).far (p := ⟨w.heap.size, 3, none⟩) (fun c (h : w.heap.size + 1 <= c /\ c ≠ W2.heap.size) => by dsimp only; omega) _)) (fun c (h : w.heap.size + 1 <= c /\ c ≠ W2.heap.size) _ => (by omega : w.heap.size <= c))
    ·exact (((HR3.out.far (p := ⟨w.heap.size, 0, none⟩) (by dsimp only; omega) _).far (p := ⟨w.heap.size, 1, none⟩) (by dsimp only; omega) _).far (p := ⟨w.heap.size, 2, none⟩) (by dsimp only; omega) _).far (p := ⟨w.heap.size, 3, none⟩) (by dsimp only; omega) _
   | cons c M =>
    rw [hgp] at hF c3
    simp only at hF
    have hcM := hgp ▸ hgs
    have hMs := tail_suf hcM
    have hMl := tail_lt hcM
    by_cases h42 : c.raw = [42]
    ·rw [if_pos h42] at hF
     have c4 := hid (fun w h => raw_yes b c M (n : Int) (gapB L) ⟨#[42]⟩ w h h42)
     clear h42
     have c5 := hid (fun w h => gap_any b M (n : Int) (gapB L) w h (by have := HGD.out.1; omega))
     have hgM := gap_le M
     have hgMs := (gap_suf M).trans hMs
     have cV := fun w h hE => hV b true (clb.gapP M) n (gapB L) d w (by omega) (HGD.out.suf hgMs) hn (by omega) h hE
     have hinv := (inv_all d).1 true (clb.gapP M) n
     cases hv : valF d true (clb.gapP M) n with
     | none =>
      rw [hv] at cV hF
      replace cV := hid cV
      simp only [Option.bind_none] at hF
      obtain rfl := hF
      clear hinv
      go_wp2_with (first
       | (go_at_call 61; (with_reducible refine (c3.out _ hr.out).mono ?_); rintro e W3 ⟨rfl, hr3, hg3⟩; obtain ⟨A3, cap3, hc3, hb3, hrd3⟩ := id hr3; have hcl3 := hb3.cell; have hfr3 := hb3.frozen; have HR3 := hid (hr3.gapped (gapB L)); have q3 := (Blk_grown hq.out hg3 (by omega)).far (p := ⟨b, 2, none⟩) (by dsimp only; omega) (.bool (gapB L)); have z3 := hid ((Blk_grown hz.out hg3 (by omega)).far (p := ⟨b, 2, none⟩) (by dsimp only; omega) (.bool (gapB L))); have G3 := hid ((hgr.out.trans hg3).trans (grown_set W3 b 2 (.bool (gapB L)))); have T3 := hid ((ht.out.grown hg3 (fun c (h : w.heap.size + 1 <= c /\ c ≠ W2.heap.size) => by omega)).far (p := ⟨b, 2, none⟩) (fun c (h : w.heap.size + 1 <= c /\ c ≠ W2.heap.size) => by dsimp only; omega) (.bool (gapB L))); have qc3 := q3.cell; have qf3 := q3.frozen; have zc3 := z3.out.cell; have zf3 := z3.out.frozen; have Q3 := hid q3; clear hr3 hg3 q3 hb3 hrd3)
       | (go_at_call 93; (with_reducible refine (c4.out _ HR3.out).mono ?_); rintro e W4 ⟨rfl, hr4, hg4⟩; have HR4 := hid hr4; have G4 := hid (G3.out.trans hg4); have Q4 := hid (Blk_grown Q3.out hg4 (by omega)); have z4 := hid (Blk_grown z3.out hg4 (by omega)); have T4 := hid (T3.out.grown hg4 (fun c (h : w.heap.size + 1 <= c /\ c ≠ W2.heap.size) => by omega)); clear hr4 hg4)
       | (go_at_call 61; (with_reducible refine (c5.out _ HR4.out).mono ?_); rintro e W5 ⟨rfl, hr5, hg5⟩; have HR5 := hid (hr5.on (Below.refl _ _).drew hr5.lt); have G5 := hid ((G4.out.trans hg5).trans (grown_of_below (Below.refl _ _).drew _)); have Q5 := hid (Blk_grown Q4.out hg5 (by omega)).drew; have z5 := hid (Blk_grown z4.out hg5 (by omega)).drew; have T5 := hid ((T4.out.grown hg5 (fun c (h : w.heap.size + 1 <= c /\ c ≠ W2.heap.size) => by omega)).on (Below.refl _ _).drew); clear hr5 hg5))
      have qc5 := Q5.out.cell
      have hz5 := G5.out.size
      have hq5 := Q5.out.lt
      go_region_with (go_at_call 62; (with_reducible refine (cV.out _ HR5.out (hE.out.on (below_one G5.out hlt))).mono ?_); rintro e W6 ⟨hg6, x, hx, rfl⟩; have HX := hid hx; have G6 := hid (G5.out.trans hg6); clear hg6 hx; refine die_any (P := Tryz.prog) (a := ⟨#[], []⟩) (w := w) ?_)
      all_goals exact ⟨rfl, G6.out, x, HX.out, rfl⟩
     | some r =>
      obtain ⟨u, M2, m2⟩ := r
      rw [hv] at cV hF
      replace cV := hid cV
      obtain ⟨-, -, hm2, hs2, hl2⟩ := hinv u M2 m2 ((HGD.out.suf hgMs).good) hv
      have HG2 := hid (HGD.out.suf (hs2.trans hgMs))
      simp only [Option.bind_some] at hF
      clear hinv hv hs2
      have hcase : m2 + 1 <= 30 ∨ m2 = 30 := by omega
      rcases hcase with h30 | h30
      ·have hF2 := hid (show prodG d (.op 4 [t, u]) M2 (m2 + 1) = R by
        rw [<- hF]
        unfold madeP
        rw [if_pos h30]
        rfl)
       have c7 := fun g6 c w h => made_yes b M2 (m2 : Int) g6 ⟨4, 0, ⟨#[]⟩, some ⟨c, 0, none⟩, 2, 2⟩ (by omega) (by omega) w h
       dsimp only at c7
       replace c7 := hid c7
       clear hF
       go_wp2_with (first
        | (go_at_call 61; (with_reducible refine (c3.out _ hr.out).mono ?_); rintro e W3 ⟨rfl, hr3, hg3⟩; obtain ⟨A3, cap3, hc3, hb3, hrd3⟩ := id hr3; have hcl3 := hb3.cell; have hfr3 := hb3.frozen; have HR3 := hid (hr3.gapped (gapB L)); have q3 := (Blk_grown hq.out hg3 (by omega)).far (p := ⟨b, 2, none⟩) (by dsimp only; omega) (.bool (gapB L)); have z3 := hid ((Blk_grown hz.out hg3 (by omega)).far (p := ⟨b, 2, none⟩) (by dsimp only; omega) (.bool (gapB L))); have G3 := hid ((hgr.out.trans hg3).trans (grown_set W3 b 2 (.bool (gapB L)))); have T3 := hid ((ht.out.grown hg3 (fun c (h : w.heap.size + 1 <= c /\ c ≠ W2.heap.size) => by omega)).far (p := ⟨b, 2, none⟩) (fun c (h : w.heap.size + 1 <= c /\ c ≠ W2.heap.size) => by dsimp only; omega) (.bool (gapB L))); have qc3 := q3.cell; have qf3 := q3.frozen; have zc3 := z3.out.cell; have zf3 := z3.out.frozen; have Q3 := hid q3; clear hr3 hg3 q3 hb3 hrd3)
        | (go_at_call 93; (with_reducible refine (c4.out _ HR3.out).mono ?_); rintro e W4 ⟨rfl, hr4, hg4⟩; have HR4 := hid hr4; have G4 := hid (G3.out.trans hg4); have Q4 := hid (Blk_grown Q3.out hg4 (by omega)); have z4 := hid (Blk_grown z3.out hg4 (by omega)); have T4 := hid (T3.out.grown hg4 (fun c (h : w.heap.size + 1 <= c /\ c ≠ W2.heap.size) => by omega)); clear hr4 hg4)
        | (go_at_call 61; (with_reducible refine (c5.out _ HR4.out).mono ?_); rintro e W5 ⟨rfl, hr5, hg5⟩; have HR5 := hid (hr5.on (Below.refl _ _).drew hr5.lt); have G5 := hid ((G4.out.trans hg5).trans (grown_of_below (Below.refl _ _).drew _)); have Q5 := hid (Blk_grown Q4.out hg5 (by omega)).drew; have z5 := hid (Blk_grown z4.out hg5 (by omega)).drew; have T5 := hid ((T4.out.grown hg5 (fun c (h : w.heap.size + 1 <= c /\ c ≠ W2.heap.size) => by omega)).on (Below.refl _ _).drew); clear hr5 hg5))
       have qc5 := Q5.out.cell
       have hz5 := G5.out.size
       have hq5 := Q5.out.lt
       go_region_with (first
        | (go_at_call 62; (with_reducible refine (cV.out _ HR5.out (hE.out.on (below_one G5.out hlt))).mono ?_); rintro e W6 ⟨hg6, uv, g6, rfl, hu6, hr6⟩; obtain ⟨uk, un, uu, ua, ul, uc, rfl⟩ := hu6.four; have HR6 := hid hr6; have G6 := hid (G5.out.trans hg6); have Q6 := hid (Blk_grown Q5.out hg6 (by omega)); have z6 := hid (Blk_grown z5.out hg6 (by omega)); have T6 := hid (T5.out.grown hg6 (fun c (h : w.heap.size + 1 <= c /\ c ≠ W2.heap.size) => by omega)); have U6 := hid (hu6.wide (Y := fun c => w.heap.size + 1 <= c /\ c ≠ W2.heap.size) (fun c h h2 => have h3 := Nat.lt_of_lt_of_le hq5 h; ⟨by omega, by omega⟩)); have qc6 := Q6.out.cell; have qf6 := Q6.out.frozen; clear hr6 hg6 hu6)
        | (go_at_call 91; (with_reducible refine (c7.out _ _ _ (HR6.out.alloc _)).mono ?_); rintro e W7 ⟨rfl, hr7, hg7⟩; have hb6 := G6.out.size; have HR7 := hid hr7; have G7 := hid ((grown_alloc G6.out _).trans hg7); have q7 := Blk_grown (Q6.out.alloc _) hg7 (by omega); have z7 := hid (Blk_grown (z6.out.alloc _) hg7 (by omega)); have t7 := hid (Blk_grown (Blk.new (w := W6) (k := W6.heap.size) (t := 50) (cs := #[.int .i64 vk, .int .i64 vn, .string vu, .slice va vl vc, .int .i64 uk, .int .i64 un, .string uu, .slice ua ul uc]) rfl) hg7 (by omega)); have T7 := hid ((T6.out.on ((Below.refl _ _).alloc (Nat.le_refl _) (.cells #[.int .i64 vk, .int .i64 vn, .string vu, .slice va vl vc, .int .i64 uk, .int .i64 un, .string uu, .slice ua ul uc] 50))).grown hg7 (fun c (h : w.heap.size + 1 <= c /\ c ≠ W2.heap.size) => by omega)); have U7 := hid ((U6.out.on ((Below.refl _ _).alloc (Nat.le_refl _) (.cells #[.int .i64 vk, .int .i64 vn, .string vu, .slice va vl vc, .int .i64 uk, .int .i64 un, .string uu, .slice ua ul uc] 50))).grown hg7 (fun c (h : w.heap.size + 1 <= c /\ c ≠ W2.heap.size) => by omega)); have qc7 := q7.cell; have qf7 := q7.frozen; have Q7 := hid q7; clear hr7 hg7 q7))
       all_goals
        have hw6 := G6.out.size
        have hq6 := Q6.out.lt
        have HRn := hid ((((HR7.out.far (p := ⟨W2.heap.size, 0, none⟩) (by dsimp only; omega) (.int .i64 4)).far (p := ⟨W2.heap.size, 1, none⟩) (by dsimp only; omega) (.int .i64 0)).far (p := ⟨W2.heap.size, 2, none⟩) (by dsimp only; omega) (.string ⟨#[]⟩)).far (p := ⟨W2.heap.size, 3, none⟩) (by dsimp only; omega) (.slice (some ⟨W6.heap.size, 0, none⟩) 2 2))
        have TN := hid (te_two (k := 4) t7.out (X := fun c => w.heap.size + 1 <= c /\ c ≠ W2.heap.size) ⟨by omega, by omega⟩ T7.out U7.out)
        go_wp2
        go_roundw
        case rel =>
         refine ⟨.op 4 [t, u], M2, m2 + 1, d, g6, _, _, _, _, _, _, hF2.out, by omega, HG2.out, h30, by omega, HRn.out, ?_, Blk.four Q7.out _ _ _ _, ?_, ?_, ?_⟩
         ·exact (((TN.out.far (p := ⟨W2.heap.size, 0, none⟩) (fun c (h : w.heap.size + 1 <= c /\ c ≠ W2.heap.size) => h.2) _).far (p := ⟨W2.heap.size, 1, none⟩) (fun c (h : w.heap.size + 1 <= c /\ c ≠ W2.heap.size) => h.2) _).far (p := ⟨W2.heap.size, 2, none⟩) (fun c (h : w.heap.size + 1 <= c /\ c ≠ W2.heap.size) => h.2) _).far (p := ⟨W2.heap.size, 3, none⟩) (fun c (h : w.heap.size + 1 <= c /\ c ≠ W2.heap.size) => h.2) _
         ·exact ((((z7.out.far (by dsimp only; omega) _).far (by dsimp only; omega) _).far (by dsimp only; omega) _).far (by dsimp only; omega) _)
         ·exact grown_far (grown_far (grown_far (grown_far G7.out (by dsimp only; omega)) (by dsimp only; omega)) (by dsimp only; omega)) (by dsimp only; omega)
         ·have := Q7.out.lt; simpa [World.setCell] using this
        case measure =>
         rw [HRn.out.lenV, hlenV]
         omega
      ·have hF2 : (none : Option (Te × List Tk × Nat × Bool)) = R := by
        rw [<- hF]
        unfold madeP
        rw [if_neg (by omega)]
        rfl
       clear hF
       obtain rfl := hF2
       have c7 := fun g6 c w h => made_no b M2 (m2 : Int) g6 ⟨4, 0, ⟨#[]⟩, some ⟨c, 0, none⟩, 2, 2⟩ (by omega) w h
       dsimp only at c7
       replace c7 := hid c7
       go_wp2_with (first
        | (go_at_call 61; (with_reducible refine (c3.out _ hr.out).mono ?_); rintro e W3 ⟨rfl, hr3, hg3⟩; obtain ⟨A3, cap3, hc3, hb3, hrd3⟩ := id hr3; have hcl3 := hb3.cell; have hfr3 := hb3.frozen; have HR3 := hid (hr3.gapped (gapB L)); have q3 := (Blk_grown hq.out hg3 (by omega)).far (p := ⟨b, 2, none⟩) (by dsimp only; omega) (.bool (gapB L)); have z3 := hid ((Blk_grown hz.out hg3 (by omega)).far (p := ⟨b, 2, none⟩) (by dsimp only; omega) (.bool (gapB L))); have G3 := hid ((hgr.out.trans hg3).trans (grown_set W3 b 2 (.bool (gapB L)))); have T3 := hid ((ht.out.grown hg3 (fun c (h : w.heap.size + 1 <= c /\ c ≠ W2.heap.size) => by omega)).far (p := ⟨b, 2, none⟩) (fun c (h : w.heap.size + 1 <= c /\ c ≠ W2.heap.size) => by dsimp only; omega) (.bool (gapB L))); have qc3 := q3.cell; have qf3 := q3.frozen; have zc3 := z3.out.cell; have zf3 := z3.out.frozen; have Q3 := hid q3; clear hr3 hg3 q3 hb3 hrd3)
        | (go_at_call 93; (with_reducible refine (c4.out _ HR3.out).mono ?_); rintro e W4 ⟨rfl, hr4, hg4⟩; have HR4 := hid hr4; have G4 := hid (G3.out.trans hg4); have Q4 := hid (Blk_grown Q3.out hg4 (by omega)); have z4 := hid (Blk_grown z3.out hg4 (by omega)); have T4 := hid (T3.out.grown hg4 (fun c (h : w.heap.size + 1 <= c /\ c ≠ W2.heap.size) => by omega)); clear hr4 hg4)
        | (go_at_call 61; (with_reducible refine (c5.out _ HR4.out).mono ?_); rintro e W5 ⟨rfl, hr5, hg5⟩; have HR5 := hid (hr5.on (Below.refl _ _).drew hr5.lt); have G5 := hid ((G4.out.trans hg5).trans (grown_of_below (Below.refl _ _).drew _)); have Q5 := hid (Blk_grown Q4.out hg5 (by omega)).drew; have z5 := hid (Blk_grown z4.out hg5 (by omega)).drew; have T5 := hid ((T4.out.grown hg5 (fun c (h : w.heap.size + 1 <= c /\ c ≠ W2.heap.size) => by omega)).on (Below.refl _ _).drew); clear hr5 hg5))
       have qc5 := Q5.out.cell
       have hz5 := G5.out.size
       have hq5 := Q5.out.lt
       go_region_with (first
        | (go_at_call 62; (with_reducible refine (cV.out _ HR5.out (hE.out.on (below_one G5.out hlt))).mono ?_); rintro e W6 ⟨hg6, uv, g6, rfl, hu6, hr6⟩; obtain ⟨uk, un, uu, ua, ul, uc, rfl⟩ := hu6.four; have HR6 := hid hr6; have G6 := hid (G5.out.trans hg6); have Q6 := hid (Blk_grown Q5.out hg6 (by omega)); have z6 := hid (Blk_grown z5.out hg6 (by omega)); have T6 := hid (T5.out.grown hg6 (fun c (h : w.heap.size + 1 <= c /\ c ≠ W2.heap.size) => by omega)); have U6 := hid (hu6.wide (Y := fun c => w.heap.size + 1 <= c /\ c ≠ W2.heap.size) (fun c h h2 => have h3 := Nat.lt_of_lt_of_le hq5 h; ⟨by omega, by omega⟩)); have qc6 := Q6.out.cell; have qf6 := Q6.out.frozen; clear hr6 hg6 hu6)
        | (go_at_call 91; (with_reducible refine (c7.out _ _ _ (HR6.out.alloc _)).mono ?_); rintro e W7 ⟨rfl, hg7⟩; have G7 := hid ((grown_alloc G6.out _).trans hg7); clear hg7; refine die_any (P := Tryz.prog) (a := ⟨#[], []⟩) (w := w) ?_))
       all_goals exact ⟨rfl, G7.out, 2, .inl rfl, rfl⟩
    ·rw [if_neg h42] at hF
     have c9 := hid (fun w h => raw_no b c M (n : Int) (gapB L) ⟨#[42]⟩ w h h42)
     by_cases h47 : c.raw = [47]
     ·rw [if_pos h47] at hF
      have c4 := hid (fun w h => raw_yes b c M (n : Int) (gapB L) ⟨#[47]⟩ w h h47)
      clear h42 h47
      have c5 := hid (fun w h => gap_any b M (n : Int) (gapB L) w h (by have := HGD.out.1; omega))
      have hgM := gap_le M
      have hgMs := (gap_suf M).trans hMs
      have cV := fun w h hE => hV b true (clb.gapP M) n (gapB L) d w (by omega) (HGD.out.suf hgMs) hn (by omega) h hE
      have hinv := (inv_all d).1 true (clb.gapP M) n
      cases hv : valF d true (clb.gapP M) n with
      | none =>
       rw [hv] at cV hF
       replace cV := hid cV
       simp only [Option.bind_none] at hF
       obtain rfl := hF
       clear hinv
       go_wp2_with (first
        | (go_at_call 61; (with_reducible refine (c3.out _ hr.out).mono ?_); rintro e W3 ⟨rfl, hr3, hg3⟩; obtain ⟨A3, cap3, hc3, hb3, hrd3⟩ := id hr3; have hcl3 := hb3.cell; have hfr3 := hb3.frozen; have HR3 := hid (hr3.gapped (gapB L)); have q3 := (Blk_grown hq.out hg3 (by omega)).far (p := ⟨b, 2, none⟩) (by dsimp only; omega) (.bool (gapB L)); have z3 := hid ((Blk_grown hz.out hg3 (by omega)).far (p := ⟨b, 2, none⟩) (by dsimp only; omega) (.bool (gapB L))); have G3 := hid ((hgr.out.trans hg3).trans (grown_set W3 b 2 (.bool (gapB L)))); have T3 := hid ((ht.out.grown hg3 (fun c (h : w.heap.size + 1 <= c /\ c ≠ W2.heap.size) => by omega)).far (p := ⟨b, 2, none⟩) (fun c (h : w.heap.size + 1 <= c /\ c ≠ W2.heap.size) => by dsimp only; omega) (.bool (gapB L))); have qc3 := q3.cell; have qf3 := q3.frozen; have zc3 := z3.out.cell; have zf3 := z3.out.frozen; have Q3 := hid q3; clear hr3 hg3 q3 hb3 hrd3)
        | (go_at_call 93; (with_reducible refine (c9.out _ HR3.out).mono ?_); rintro e W3a ⟨rfl, rfl⟩)
        | (go_at_call 93; (with_reducible refine (c4.out _ HR3.out).mono ?_); rintro e W4 ⟨rfl, hr4, hg4⟩; have HR4 := hid hr4; have G4 := hid (G3.out.trans hg4); have Q4 := hid (Blk_grown Q3.out hg4 (by omega)); have z4 := hid (Blk_grown z3.out hg4 (by omega)); have T4 := hid (T3.out.grown hg4 (fun c (h : w.heap.size + 1 <= c /\ c ≠ W2.heap.size) => by omega)); clear hr4 hg4)
        | (go_at_call 61; (with_reducible refine (c5.out _ HR4.out).mono ?_); rintro e W5 ⟨rfl, hr5, hg5⟩; have HR5 := hid (hr5.on (Below.refl _ _).drew hr5.lt); have G5 := hid ((G4.out.trans hg5).trans (grown_of_below (Below.refl _ _).drew _)); have Q5 := hid (Blk_grown Q4.out hg5 (by omega)).drew; have z5 := hid (Blk_grown z4.out hg5 (by omega)).drew; have T5 := hid ((T4.out.grown hg5 (fun c (h : w.heap.size + 1 <= c /\ c ≠ W2.heap.size) => by omega)).on (Below.refl _ _).drew); clear hr5 hg5))
       have qc5 := Q5.out.cell
       have hz5 := G5.out.size
       have hq5 := Q5.out.lt
       go_region_with (go_at_call 62; (with_reducible refine (cV.out _ HR5.out (hE.out.on (below_one G5.out hlt))).mono ?_); rintro e W6 ⟨hg6, x, hx, rfl⟩; have HX := hid hx; have G6 := hid (G5.out.trans hg6); clear hg6 hx; refine die_any (P := Tryz.prog) (a := ⟨#[], []⟩) (w := w) ?_)
       all_goals exact ⟨rfl, G6.out, x, HX.out, rfl⟩
      | some r =>
       obtain ⟨u, M2, m2⟩ := r
       rw [hv] at cV hF
       replace cV := hid cV
       obtain ⟨-, -, hm2, hs2, hl2⟩ := hinv u M2 m2 ((HGD.out.suf hgMs).good) hv
       have HG2 := hid (HGD.out.suf (hs2.trans hgMs))
       simp only [Option.bind_some] at hF
       clear hinv hv hs2
       have hcase : m2 + 1 <= 30 ∨ m2 = 30 := by omega
       rcases hcase with h30 | h30
       ·have hF2 := hid (show prodG d (.op 5 [t, u]) M2 (m2 + 1) = R by
         rw [<- hF]
         unfold madeP
         rw [if_pos h30]
         rfl)
        have c7 := fun g6 c w h => made_yes b M2 (m2 : Int) g6 ⟨5, 0, ⟨#[]⟩, some ⟨c, 0, none⟩, 2, 2⟩ (by omega) (by omega) w h
        dsimp only at c7
        replace c7 := hid c7
        clear hF
        go_wp2_with (first
         | (go_at_call 61; (with_reducible refine (c3.out _ hr.out).mono ?_); rintro e W3 ⟨rfl, hr3, hg3⟩; obtain ⟨A3, cap3, hc3, hb3, hrd3⟩ := id hr3; have hcl3 := hb3.cell; have hfr3 := hb3.frozen; have HR3 := hid (hr3.gapped (gapB L)); have q3 := (Blk_grown hq.out hg3 (by omega)).far (p := ⟨b, 2, none⟩) (by dsimp only; omega) (.bool (gapB L)); have z3 := hid ((Blk_grown hz.out hg3 (by omega)).far (p := ⟨b, 2, none⟩) (by dsimp only; omega) (.bool (gapB L))); have G3 := hid ((hgr.out.trans hg3).trans (grown_set W3 b 2 (.bool (gapB L)))); have T3 := hid ((ht.out.grown hg3 (fun c (h : w.heap.size + 1 <= c /\ c ≠ W2.heap.size) => by omega)).far (p := ⟨b, 2, none⟩) (fun c (h : w.heap.size + 1 <= c /\ c ≠ W2.heap.size) => by dsimp only; omega) (.bool (gapB L))); have qc3 := q3.cell; have qf3 := q3.frozen; have zc3 := z3.out.cell; have zf3 := z3.out.frozen; have Q3 := hid q3; clear hr3 hg3 q3 hb3 hrd3)
         | (go_at_call 93; (with_reducible refine (c9.out _ HR3.out).mono ?_); rintro e W3a ⟨rfl, rfl⟩)
         | (go_at_call 93; (with_reducible refine (c4.out _ HR3.out).mono ?_); rintro e W4 ⟨rfl, hr4, hg4⟩; have HR4 := hid hr4; have G4 := hid (G3.out.trans hg4); have Q4 := hid (Blk_grown Q3.out hg4 (by omega)); have z4 := hid (Blk_grown z3.out hg4 (by omega)); have T4 := hid (T3.out.grown hg4 (fun c (h : w.heap.size + 1 <= c /\ c ≠ W2.heap.size) => by omega)); clear hr4 hg4)
         | (go_at_call 61; (with_reducible refine (c5.out _ HR4.out).mono ?_); rintro e W5 ⟨rfl, hr5, hg5⟩; have HR5 := hid (hr5.on (Below.refl _ _).drew hr5.lt); have G5 := hid ((G4.out.trans hg5).trans (grown_of_below (Below.refl _ _).drew _)); have Q5 := hid (Blk_grown Q4.out hg5 (by omega)).drew; have z5 := hid (Blk_grown z4.out hg5 (by omega)).drew; have T5 := hid ((T4.out.grown hg5 (fun c (h : w.heap.size + 1 <= c /\ c ≠ W2.heap.size) => by omega)).on (Below.refl _ _).drew); clear hr5 hg5))
        have qc5 := Q5.out.cell
        have hz5 := G5.out.size
        have hq5 := Q5.out.lt
        go_region_with (first
         | (go_at_call 62; (with_reducible refine (cV.out _ HR5.out (hE.out.on (below_one G5.out hlt))).mono ?_); rintro e W6 ⟨hg6, uv, g6, rfl, hu6, hr6⟩; obtain ⟨uk, un, uu, ua, ul, uc, rfl⟩ := hu6.four; have HR6 := hid hr6; have G6 := hid (G5.out.trans hg6); have Q6 := hid (Blk_grown Q5.out hg6 (by omega)); have z6 := hid (Blk_grown z5.out hg6 (by omega)); have T6 := hid (T5.out.grown hg6 (fun c (h : w.heap.size + 1 <= c /\ c ≠ W2.heap.size) => by omega)); have U6 := hid (hu6.wide (Y := fun c => w.heap.size + 1 <= c /\ c ≠ W2.heap.size) (fun c h h2 => have h3 := Nat.lt_of_lt_of_le hq5 h; ⟨by omega, by omega⟩)); have qc6 := Q6.out.cell; have qf6 := Q6.out.frozen; clear hr6 hg6 hu6)
         | (go_at_call 91; (with_reducible refine (c7.out _ _ _ (HR6.out.alloc _)).mono ?_); rintro e W7 ⟨rfl, hr7, hg7⟩; have hb6 := G6.out.size; have HR7 := hid hr7; have G7 := hid ((grown_alloc G6.out _).trans hg7); have q7 := Blk_grown (Q6.out.alloc _) hg7 (by omega); have z7 := hid (Blk_grown (z6.out.alloc _) hg7 (by omega)); have t7 := hid (Blk_grown (Blk.new (w := W6) (k := W6.heap.size) (t := 50) (cs := #[.int .i64 vk, .int .i64 vn, .string vu, .slice va vl vc, .int .i64 uk, .int .i64 un, .string uu, .slice ua ul uc]) rfl) hg7 (by omega)); have T7 := hid ((T6.out.on ((Below.refl _ _).alloc (Nat.le_refl _) (.cells #[.int .i64 vk, .int .i64 vn, .string vu, .slice va vl vc, .int .i64 uk, .int .i64 un, .string uu, .slice ua ul uc] 50))).grown hg7 (fun c (h : w.heap.size + 1 <= c /\ c ≠ W2.heap.size) => by omega)); have U7 := hid ((U6.out.on ((Below.refl _ _).alloc (Nat.le_refl _) (.cells #[.int .i64 vk, .int .i64 vn, .string vu, .slice va vl vc, .int .i64 uk, .int .i64 un, .string uu, .slice ua ul uc] 50))).grown hg7 (fun c (h : w.heap.size + 1 <= c /\ c ≠ W2.heap.size) => by omega)); have qc7 := q7.cell; have qf7 := q7.frozen; have Q7 := hid q7; clear hr7 hg7 q7))
        all_goals
         have hw6 := G6.out.size
         have hq6 := Q6.out.lt
         have HRn := hid ((((HR7.out.far (p := ⟨W2.heap.size, 0, none⟩) (by dsimp only; omega) (.int .i64 5)).far (p := ⟨W2.heap.size, 1, none⟩) (by dsimp only; omega) (.int .i64 0)).far (p := ⟨W2.heap.size, 2, none⟩) (by dsimp only; omega) (.string ⟨#[]⟩)).far (p := ⟨W2.heap.size, 3, none⟩) (by dsimp only; omega) (.slice (some ⟨W6.heap.size, 0, none⟩) 2 2))
         have TN := hid (te_two (k := 5) t7.out (X := fun c => w.heap.size + 1 <= c /\ c ≠ W2.heap.size) ⟨by omega, by omega⟩ T7.out U7.out)
         go_wp2
         go_roundw
         case rel =>
          refine ⟨.op 5 [t, u], M2, m2 + 1, d, g6, _, _, _, _, _, _, hF2.out, by omega, HG2.out, h30, by omega, HRn.out, ?_, Blk.four Q7.out _ _ _ _, ?_, ?_, ?_⟩
          ·exact (((TN.out.far (p := ⟨W2.heap.size, 0, none⟩) (fun c (h : w.heap.size + 1 <= c /\ c ≠ W2.heap.size) => h.2) _).far (p := ⟨W2.heap.size, 1, none⟩) (fun c (h : w.heap.size + 1 <= c /\ c ≠ W2.heap.size) => h.2) _).far (p := ⟨W2.heap.size, 2, none⟩) (fun c (h : w.heap.size + 1 <= c /\ c ≠ W2.heap.size) => h.2) _).far (p := ⟨W2.heap.size, 3, none⟩) (fun c (h : w.heap.size + 1 <= c /\ c ≠ W2.heap.size) => h.2) _
          ·exact ((((z7.out.far (by dsimp only; omega) _).far (by dsimp only; omega) _).far (by dsimp only; omega) _).far (by dsimp only; omega) _)
          ·exact grown_far (grown_far (grown_far (grown_far G7.out (by dsimp only; omega)) (by dsimp only; omega)) (by dsimp only; omega)) (by dsimp only; omega)
          ·have := Q7.out.lt; simpa [World.setCell] using this
         case measure =>
          rw [HRn.out.lenV, hlenV]
          omega
       ·have hF2 : (none : Option (Te × List Tk × Nat × Bool)) = R := by
         rw [<- hF]
         unfold madeP
         rw [if_neg (by omega)]
         rfl
        clear hF
        obtain rfl := hF2
        have c7 := fun g6 c w h => made_no b M2 (m2 : Int) g6 ⟨5, 0, ⟨#[]⟩, some ⟨c, 0, none⟩, 2, 2⟩ (by omega) w h
        dsimp only at c7
        replace c7 := hid c7
        go_wp2_with (first
         | (go_at_call 61; (with_reducible refine (c3.out _ hr.out).mono ?_); rintro e W3 ⟨rfl, hr3, hg3⟩; obtain ⟨A3, cap3, hc3, hb3, hrd3⟩ := id hr3; have hcl3 := hb3.cell; have hfr3 := hb3.frozen; have HR3 := hid (hr3.gapped (gapB L)); have q3 := (Blk_grown hq.out hg3 (by omega)).far (p := ⟨b, 2, none⟩) (by dsimp only; omega) (.bool (gapB L)); have z3 := hid ((Blk_grown hz.out hg3 (by omega)).far (p := ⟨b, 2, none⟩) (by dsimp only; omega) (.bool (gapB L))); have G3 := hid ((hgr.out.trans hg3).trans (grown_set W3 b 2 (.bool (gapB L)))); have T3 := hid ((ht.out.grown hg3 (fun c (h : w.heap.size + 1 <= c /\ c ≠ W2.heap.size) => by omega)).far (p := ⟨b, 2, none⟩) (fun c (h : w.heap.size + 1 <= c /\ c ≠ W2.heap.size) => by dsimp only; omega) (.bool (gapB L))); have qc3 := q3.cell; have qf3 := q3.frozen; have zc3 := z3.out.cell; have zf3 := z3.out.frozen; have Q3 := hid q3; clear hr3 hg3 q3 hb3 hrd3)
         | (go_at_call 93; (with_reducible refine (c9.out _ HR3.out).mono ?_); rintro e W3a ⟨rfl, rfl⟩)
         | (go_at_call 93; (with_reducible refine (c4.out _ HR3.out).mono ?_); rintro e W4 ⟨rfl, hr4, hg4⟩; have HR4 := hid hr4; have G4 := hid (G3.out.trans hg4); have Q4 := hid (Blk_grown Q3.out hg4 (by omega)); have z4 := hid (Blk_grown z3.out hg4 (by omega)); have T4 := hid (T3.out.grown hg4 (fun c (h : w.heap.size + 1 <= c /\ c ≠ W2.heap.size) => by omega)); clear hr4 hg4)
         | (go_at_call 61; (with_reducible refine (c5.out _ HR4.out).mono ?_); rintro e W5 ⟨rfl, hr5, hg5⟩; have HR5 := hid (hr5.on (Below.refl _ _).drew hr5.lt); have G5 := hid ((G4.out.trans hg5).trans (grown_of_below (Below.refl _ _).drew _)); have Q5 := hid (Blk_grown Q4.out hg5 (by omega)).drew; have z5 := hid (Blk_grown z4.out hg5 (by omega)).drew; have T5 := hid ((T4.out.grown hg5 (fun c (h : w.heap.size + 1 <= c /\ c ≠ W2.heap.size) => by omega)).on (Below.refl _ _).drew); clear hr5 hg5))
        have qc5 := Q5.out.cell
        have hz5 := G5.out.size
        have hq5 := Q5.out.lt
        go_region_with (first
         | (go_at_call 62; (with_reducible refine (cV.out _ HR5.out (hE.out.on (below_one G5.out hlt))).mono ?_); rintro e W6 ⟨hg6, uv, g6, rfl, hu6, hr6⟩; obtain ⟨uk, un, uu, ua, ul, uc, rfl⟩ := hu6.four; have HR6 := hid hr6; have G6 := hid (G5.out.trans hg6); have Q6 := hid (Blk_grown Q5.out hg6 (by omega)); have z6 := hid (Blk_grown z5.out hg6 (by omega)); have T6 := hid (T5.out.grown hg6 (fun c (h : w.heap.size + 1 <= c /\ c ≠ W2.heap.size) => by omega)); have U6 := hid (hu6.wide (Y := fun c => w.heap.size + 1 <= c /\ c ≠ W2.heap.size) (fun c h h2 => have h3 := Nat.lt_of_lt_of_le hq5 h; ⟨by omega, by omega⟩)); have qc6 := Q6.out.cell; have qf6 := Q6.out.frozen; clear hr6 hg6 hu6)
         | (go_at_call 91; (with_reducible refine (c7.out _ _ _ (HR6.out.alloc _)).mono ?_); rintro e W7 ⟨rfl, hg7⟩; have G7 := hid ((grown_alloc G6.out _).trans hg7); clear hg7; refine die_any (P := Tryz.prog) (a := ⟨#[], []⟩) (w := w) ?_))
        all_goals exact ⟨rfl, G7.out, 2, .inl rfl, rfl⟩
     ·rw [if_neg h47] at hF
      obtain rfl := hF
      have c10 := hid (fun w h => raw_no b c M (n : Int) (gapB L) ⟨#[47]⟩ w h h47)
      clear h42 h47
      go_wp2_with (first
       | (go_at_call 61; (with_reducible refine (c3.out _ hr.out).mono ?_); rintro e W3 ⟨rfl, hr3, hg3⟩; obtain ⟨A3, cap3, hc3, hb3, hrd3⟩ := id hr3; have hcl3 := hb3.cell; have hfr3 := hb3.frozen; have HR3 := hid (hr3.gapped (gapB L)); have q3 := (Blk_grown hq.out hg3 (by omega)).far (p := ⟨b, 2, none⟩) (by dsimp only; omega) (.bool (gapB L)); have z3 := hid ((Blk_grown hz.out hg3 (by omega)).far (p := ⟨b, 2, none⟩) (by dsimp only; omega) (.bool (gapB L))); have G3 := hid ((hgr.out.trans hg3).trans (grown_set W3 b 2 (.bool (gapB L)))); have T3 := hid ((ht.out.grown hg3 (fun c (h : w.heap.size + 1 <= c /\ c ≠ W2.heap.size) => by omega)).far (p := ⟨b, 2, none⟩) (fun c (h : w.heap.size + 1 <= c /\ c ≠ W2.heap.size) => by dsimp only; omega) (.bool (gapB L))); have qc3 := q3.cell; have qf3 := q3.frozen; have zc3 := z3.out.cell; have zf3 := z3.out.frozen; have Q3 := hid q3; clear hr3 hg3 q3 hb3 hrd3)
       | (go_at_call 93; (with_reducible refine (c9.out _ HR3.out).mono ?_); rintro e W4 ⟨rfl, rfl⟩)
       | (go_at_call 93; (with_reducible refine (c10.out _ HR3.out).mono ?_); rintro e W4 ⟨rfl, rfl⟩))
      have e := Blk.cell (Blk.four (z3.out) (.int .i64 vk) (.int .i64 vn) (.string vu) (.slice va vl vc))
      refine bodyPost_ret (v := .agg #[.int .i64 vk, .int .i64 vn, .string vu, .slice va vl vc]) (by simp [results, Tryz.results134, go_sem, e]) rfl ⟨?_, _, rfl, ?_, ?_⟩
      ·exact grown_far (grown_far (grown_far (grown_far G3.out (Nat.le_refl _)) (Nat.le_refl _)) (Nat.le_refl _)) (Nat.le_refl _)
      ·exact TeAt.wide (((((T3.out.far (p := ⟨w.heap.size, 0, none⟩) (fun c (h : w.heap.size + 1 <= c /\ c ≠ W2.heap.size) => by dsimp only; omega) _).far (p := ⟨w.heap.size, 1, none⟩) (fun c (h : w.heap.size + 1 <= c /\ c ≠ W2.heap.size) => by dsimp only; omega) _).far (p := ⟨w.heap.size, 2, none⟩) (fun c (h : w.heap.size + 1 <= c /\ c ≠ W2.heap.size) => by dsimp only; omega) _).far (p := ⟨w.heap.size, 3, none⟩) (fun c (h : w.heap.size + 1 <= c /\ c ≠ W2.heap.size) => by dsimp only; omega) _)) (fun c (h : w.heap.size + 1 <= c /\ c ≠ W2.heap.size) _ => (by omega : w.heap.size <= c))
      ·exact (((HR3.out.far (by dsimp only; omega) _).far (by dsimp only; omega) _).far (by dsimp only; omega) _).far (by dsimp only; omega) _
end clb
end Go.Proofs.YtlfkkaofgcongaaGreatDoor
