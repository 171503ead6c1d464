/- Contracts and plain law, a bundle. -/
import Derived.Lib.Hide
import Derived.Test.YtlfkkaofgcongaaGreatDoorE7
set_option linter.unusedVariables false
set_option maxRecDepth 100000
set_option maxHeartbeats 16000000
open Go.Lib (hid)
namespace Go.Proofs.YtlfkkaofgcongaaGreatDoor
namespace clb
open Go.RowKit base tok dim rul cal
theorem grown_undrew {w w' : World} {r : Option Nat} (h : w.grownBy w'.drew r) : w.grownBy w' r := ⟨h.os, h.tape, h.output, h.size, h.block⟩
def SRel (b : Nat) (w : World) (q : Nat) (N : Nat) (R : Option (Te × List Tk × Nat × Bool)) (wr : World) : Prop :=
 ∃ (t : Te) (L : List Tk) (n d : Nat) (g : Bool) (vk vn : Int) (vu : ByteArray) (va : Option Addr) (vl vc : Nat), sumG d t L n g = R /\ L.length < N /\ GoodR L /\ n <= 30 /\ 6 * L.length + 5 <= d /\ RdrAt wr b L (n : Int) g /\
  TeAt (fun c => w.heap.size + 1 <= c /\ c ≠ q) wr t (.agg #[.int .i64 vk, .int .i64 vn, .string vu, .slice va vl vc]) /\ Blk wr q 50 #[.int .i64 vk, .int .i64 vn, .string vu, .slice va vl vc] /\
  Blk wr w.heap.size 50 #[.int .i64 0, .int .i64 0, .string ⟨#[]⟩, .slice none 0 0] /\ w.grownBy wr (some b) /\ q < wr.heap.size
theorem sum_ct (N : Nat) (hP : ProdC N) : SumC N := by
 intro b L n g d w hL hgood hn hd h hE
 obtain ⟨d, rfl⟩ : ∃ e, d = e + 1 := ⟨d - 1, by omega⟩
 have cV := fun w h hE => hP b L n g d w hL hgood hn (by omega) h hE
 have hF : sumF (d + 1) L n = (prodF d L n).bind fun r => sumG d r.1 r.2.1 r.2.2.1 r.2.2.2 := by rw [sumF]
 rw [hF]
 have hinv := (inv_all d).2.1 L n
 have cN := hid (need_yes b)
 have cX := hid (need_no b)
 have hlt := h.lt
 have HR0 := hid (h.alloc (.cells #[.int .i64 0, .int .i64 0, .string ⟨#[]⟩, .slice none 0 0] 50))
 have HG0 := hid (show w.grownBy (w.alloc (.cells #[.int .i64 0, .int .i64 0, .string ⟨#[]⟩, .slice none 0 0] 50)) (some b) from grown_alloc (World.grownBy.refl _ _) _)
 have Q0 := hid (show Blk (w.alloc (.cells #[.int .i64 0, .int .i64 0, .string ⟨#[]⟩, .slice none 0 0] 50)) w.heap.size 50 #[.int .i64 0, .int .i64 0, .string ⟨#[]⟩, .slice none 0 0] from Blk.new rfl)
 have hz0 := hid (show w.heap.size + 1 <= (w.alloc (.cells #[.int .i64 0, .int .i64 0, .string ⟨#[]⟩, .slice none 0 0] 50)).heap.size by simp)
 replace hE := hid hE
 clear h hF
 cases hv : prodF d L n with
 | none =>
  rw [hv] at cV
  replace cV := hid cV
  simp only [Option.bind_none]
  clear hinv
  go_enter Tryz.func92, Tryz.ntmps92
  go_wp2_with (go_at_call 134; (with_reducible refine (cV.out _ HR0.out (hE.out.on (below_one HG0.out hlt))).mono ?_); rintro e W2 ⟨hg2, x, hx, rfl⟩; have HX := hid hx; have HG2 := hid (HG0.out.trans hg2); clear hg2 hx)
  exact ⟨rfl, HG2.out, x, HX.out, rfl⟩
 | some r =>
  obtain ⟨t, M, m, g2⟩ := r
  rw [hv] at cV
  replace cV := hid cV
  obtain ⟨-, -, hm30, hMs, hMl⟩ := hinv t M m g2 hgood.good hv
  have HM := hid (hgood.suf hMs)
  simp only [Option.bind_some]
  generalize hR : sumG d t M m g2 = R
  replace hR := hid hR
  have hMN : M.length < N := by omega
  have hd3 : 6 * M.length + 5 <= d := by omega
  clear hinv hMs hv
  go_enter Tryz.func92, Tryz.ntmps92
  go_wp2_with (go_at_call 134; (with_reducible refine (cV.out _ HR0.out (hE.out.on (below_one HG0.out hlt))).mono ?_); rintro e W2 ⟨hg2, v, rfl, ht2, hr2⟩; obtain ⟨vk, vn, vu, va, vl, vc, rfl⟩ := ht2.four; have HR2 := hid hr2; have HG2 := hid (HG0.out.trans hg2); have Q2 := hid (Blk_grown Q0.out hg2 (by omega)); have T2 := hid (ht2.wide (Y := fun c => w.heap.size + 1 <= c /\ c ≠ W2.heap.size) (fun c h h2 => ⟨Nat.le_trans hz0.out h, by omega⟩)); have hz2 := Nat.le_trans hz0.out hg2.size; clear hr2 hg2 ht2)
  go_loopw [] (fun wr => SRel b w W2.heap.size N R wr) (fun wr => cal.lenV (wr.cell? ⟨b, 0, none⟩))
  case atStart => exact ⟨t, M, m, d, g2, vk, vn, vu, va, vl, vc, hR.out, hMN, HM.out, hm30, hd3, HR2.out.alloc _, T2.out.on ((Below.refl _ _).alloc (Nat.le_refl _) _), Blk.new rfl, Q2.out.alloc _, grown_alloc HG2.out _, by simp⟩
  case round =>
   clear hR HM hMN hd3 hm30 hMl T2 HR2
   obtain ⟨t, L, n, d, g, vk, vn, vu, va, vl, vc, hR, hLN, hgd, hn, hd, hr, ht, hq, hz, hgr, hqz⟩ := hrel
   obtain ⟨d, rfl⟩ : ∃ e, d = e + 1 := ⟨d - 1, by omega⟩
   have hlenV := hr.lenV
   have qc := hq.cell
   have zc := hz.cell
   have zf := hz.frozen
   replace ht := hid ht
   replace hq := hid hq
   replace hz := hid hz
   replace hgr := hid hgr
   have hsz := hgr.out.size
   have HGD := hid hgd
   clear hgd
   cases L with
   | nil =>
    rw [sumG] at hR
    obtain rfl := hR
    obtain ⟨A0, cap0, hc0, hb0, hrd0⟩ := id hr
    have hcl0 := hb0.cell
    simp only [List.length_nil] at hcl0
    replace hr := hid hr
    clear hb0 hrd0
    go_wp2_with fail
    have e := Blk.cell (Blk.four (hz.out) (.int .i64 vk) (.int .i64 vn) (.string vu) (.slice va vl vc))
    refine bodyPost_ret (v := .agg #[.int .i64 vk, .int .i64 vn, .string vu, .slice va vl vc]) (by simp [results, Tryz.results92, go_sem, e]) rfl ⟨?_, _, rfl, ?_, ?_⟩
    ·exact grown_far (grown_far (grown_far (grown_far hgr.out (Nat.le_refl _)) (Nat.le_refl _)) (Nat.le_refl _)) (Nat.le_refl _)
    ·exact TeAt.wide (((((ht.out.far (p := ⟨w.heap.size, 0, none⟩) (fun c (h : w.heap.size + 1 <= c /\ c ≠ W2.heap.size) => by dsimp only; omega) _).far (p := ⟨w.heap.size, 1, none⟩) (fun c (h : w.heap.size + 1 <= c /\ c ≠ W2.heap.size) => by dsimp only; omega) _).far (p := ⟨w.heap.size, 2, none⟩) (fun c (h : w.heap.size + 1 <= c /\ c ≠ W2.heap.size) => by dsimp only; omega) _).far (p := ⟨w.heap.size, 3, none⟩) (fun c (h : w.heap.size + 1 <= c /\ c ≠ W2.heap.size) => by dsimp only; omega) _)) (fun c (h : w.heap.size + 1 <= c /\ c ≠ W2.heap.size) _ => (by omega : w.heap.size <= c))
    ·exact (((hr.out.far (by dsimp only; omega) _).far (by dsimp only; omega) _).far (by dsimp only; omega) _).far (by dsimp only; omega) _
   | cons c M =>
    rw [sumG] at hR
    have hF := hR
    have hMs : M <:+ c :: M := List.suffix_cons c M
    have hMl : M.length < (c :: M).length := by simp
    obtain ⟨tb, off, cap, hcp, htb, hltb, hcl, hfr, e0, e1, e2, e3, hnext, hsl⟩ := hr.turn
    replace hr := hid hr
    have hp : 0 < M.length + 1 := by omega
    simp only [List.length_cons] at hLN hd hMl
    clear hR
    by_cases h43 : c.raw = [43]
    ·rw [if_pos h43] at hF
     have q43 : ((bs c.raw).toList == [43]) = true := by rw [bs_toList, h43]; rfl
     clear h43
     have HR1 := hid hnext
     have G1 := hid (hgr.out.trans (grown_set wr b 0 (.slice (addrAt 4 (some ⟨tb, off, none⟩) cap 1) M.length (cap - 1))))
     have Q1 := hid (hq.out.far (p := ⟨b, 0, none⟩) (by dsimp only; omega) (.slice (addrAt 4 (some ⟨tb, off, none⟩) cap 1) M.length (cap - 1)))
     have z1 := hid (hz.out.far (p := ⟨b, 0, none⟩) (by dsimp only; omega) (.slice (addrAt 4 (some ⟨tb, off, none⟩) cap 1) M.length (cap - 1)))
     have T1 := hid (ht.out.far (p := ⟨b, 0, none⟩) (fun c (h : w.heap.size + 1 <= c /\ c ≠ W2.heap.size) => by dsimp only; omega) (.slice (addrAt 4 (some ⟨tb, off, none⟩) cap 1) M.length (cap - 1)))
     clear hnext
     cases g with
     | false =>
      simp only [Bool.false_and, Bool.false_eq_true, if_false] at hF
      obtain rfl := hF
      go_wp2_with (first
       | (go_at_call 63; (with_reducible refine (cN.out _).mono ?_); rintro e W5a ⟨rfl, rfl⟩)
       | (go_at_call 63; (with_reducible refine (cX.out _).mono ?_); rintro e W5b ⟨rfl, rfl⟩))
      exact ⟨rfl, G1.out, 4, .inr rfl, rfl⟩
     | true =>
      have c5 := fun w h => gap_any b M (n : Int) true w h (by have := HGD.out.1; simp only [List.length_cons] at this; omega)
      cases hgB : gapB M with
      | false =>
       rw [hgB] at hF c5
       simp only [Bool.and_false, Bool.false_eq_true, if_false] at hF
       obtain rfl := hF
       replace c5 := hid c5
       go_wp2_with (first
        | (go_at_call 61; (with_reducible refine (c5.out _ HR1.out).mono ?_); rintro e W5 ⟨rfl, hr5, hg5⟩; have HR5 := hid (hr5.on (Below.refl _ _).drew hr5.lt); have G5 := hid ((G1.out.trans hg5).trans (grown_of_below (Below.refl _ _).drew _)); have Q5 := hid (Blk_grown Q1.out hg5 (by omega)).drew; have z5 := hid (Blk_grown z1.out hg5 (by omega)).drew; have T5 := hid ((T1.out.grown hg5 (fun c (h : w.heap.size + 1 <= c /\ c ≠ W2.heap.size) => by omega)).on (Below.refl _ _).drew); clear hr5 hg5)
        | (go_at_call 63; (with_reducible refine (cN.out _).mono ?_); rintro e W5a ⟨rfl, rfl⟩)
        | (go_at_call 63; (with_reducible refine (cX.out _).mono ?_); rintro e W5b ⟨rfl, rfl⟩))
       exact ⟨rfl, grown_undrew G5.out, 4, .inr rfl, rfl⟩
      | true =>
       rw [hgB] at hF c5
       simp only [Bool.and_self, if_true] at hF
       replace c5 := hid c5
       have hgM := gap_le M
       have hgMs := (gap_suf M).trans hMs
       have cV := fun w h hE => hP b (clb.gapP M) n true d w (by omega) (HGD.out.suf hgMs) hn (by omega) h hE
       have hinv := (inv_all d).2.1 (clb.gapP M) n
       cases hv : prodF d (clb.gapP M) n with
       | none =>
        rw [hv] at cV hF
        replace cV := hid cV
        simp only [Option.bind_none] at hF
        obtain rfl := hF
        clear hinv
        go_wp2_with (first
         | (go_at_call 61; (with_reducible refine (c5.out _ HR1.out).mono ?_); rintro e W5 ⟨rfl, hr5, hg5⟩; have HR5 := hid (hr5.on (Below.refl _ _).drew hr5.lt); have G5 := hid ((G1.out.trans hg5).trans (grown_of_below (Below.refl _ _).drew _)); have Q5 := hid (Blk_grown Q1.out hg5 (by omega)).drew; have z5 := hid (Blk_grown z1.out hg5 (by omega)).drew; have T5 := hid ((T1.out.grown hg5 (fun c (h : w.heap.size + 1 <= c /\ c ≠ W2.heap.size) => by omega)).on (Below.refl _ _).drew); clear hr5 hg5)
         | (go_at_call 63; (with_reducible refine (cN.out _).mono ?_); rintro e W5a ⟨rfl, rfl⟩)
         | (go_at_call 63; (with_reducible refine (cX.out _).mono ?_); rintro e W5b ⟨rfl, rfl⟩))
        have qc5 := Q5.out.cell
        have hz5 := G5.out.size
        have hq5 := Q5.out.lt
        go_region_with (go_at_call 134; (with_reducible refine (cV.out _ HR5.out (hE.out.on (below_one G5.out hlt))).mono ?_); rintro e W6 ⟨hg6, x, hx, rfl⟩; have HX := hid hx; have G6 := hid (G5.out.trans hg6); clear hg6 hx; refine die_any (P := Tryz.prog) (a := ⟨#[], []⟩) (w := w) ?_)
        all_goals exact ⟨rfl, G6.out, x, HX.out, rfl⟩
       | some r =>
        obtain ⟨u, M2, m2, g6⟩ := r
        rw [hv] at cV hF
        replace cV := hid cV
        obtain ⟨-, -, hm2, hs2, hl2⟩ := hinv u M2 m2 g6 ((HGD.out.suf hgMs).good) hv
        have HG2 := hid (HGD.out.suf (hs2.trans hgMs))
        simp only [Option.bind_some] at hF
        clear hinv hv hs2
        have hcase : m2 + 1 <= 30 ∨ m2 = 30 := by omega
        rcases hcase with h30 | h30
        ·have hF2 := hid (show sumG d (.op 2 [t, u]) M2 (m2 + 1) g6 = R by
          rw [<- hF]
          unfold madeP
          rw [if_pos h30]
          rfl)
         have c7 := fun c w h => made_yes b M2 (m2 : Int) g6 ⟨2, 0, ⟨#[]⟩, some ⟨c, 0, none⟩, 2, 2⟩ (by omega) (by omega) w h
         dsimp only at c7
         replace c7 := hid c7
         clear hF
         go_wp2_with (first
          | (go_at_call 61; (with_reducible refine (c5.out _ HR1.out).mono ?_); rintro e W5 ⟨rfl, hr5, hg5⟩; have HR5 := hid (hr5.on (Below.refl _ _).drew hr5.lt); have G5 := hid ((G1.out.trans hg5).trans (grown_of_below (Below.refl _ _).drew _)); have Q5 := hid (Blk_grown Q1.out hg5 (by omega)).drew; have z5 := hid (Blk_grown z1.out hg5 (by omega)).drew; have T5 := hid ((T1.out.grown hg5 (fun c (h : w.heap.size + 1 <= c /\ c ≠ W2.heap.size) => by omega)).on (Below.refl _ _).drew); clear hr5 hg5)
          | (go_at_call 63; (with_reducible refine (cN.out _).mono ?_); rintro e W5a ⟨rfl, rfl⟩)
          | (go_at_call 63; (with_reducible refine (cX.out _).mono ?_); rintro e W5b ⟨rfl, rfl⟩))
         have qc5 := Q5.out.cell
         have hz5 := G5.out.size
         have hq5 := Q5.out.lt
         go_region_with (first
          | (go_at_call 134; (with_reducible refine (cV.out _ HR5.out (hE.out.on (below_one G5.out hlt))).mono ?_); rintro e W6 ⟨hg6, uv, rfl, hu6, hr6⟩; obtain ⟨uk, un, uu, ua, ul, uc, rfl⟩ := hu6.four; have HR6 := hid hr6; have G6 := hid (G5.out.trans hg6); have Q6 := hid (Blk_grown Q5.out hg6 (by omega)); have z6 := hid (Blk_grown z5.out hg6 (by omega)); have T6 := hid (T5.out.grown hg6 (fun c (h : w.heap.size + 1 <= c /\ c ≠ W2.heap.size) => by omega)); have U6 := hid (hu6.wide (Y := fun c => w.heap.size + 1 <= c /\ c ≠ W2.heap.size) (fun c h h2 => have h3 := Nat.lt_of_lt_of_le hq5 h; ⟨by omega, by omega⟩)); have qc6 := Q6.out.cell; have qf6 := Q6.out.frozen; clear hr6 hg6 hu6)
          | (go_at_call 91; (with_reducible refine (c7.out _ _ (HR6.out.alloc _)).mono ?_); rintro e W7 ⟨rfl, hr7, hg7⟩; have hb6 := G6.out.size; have HR7 := hid hr7; have G7 := hid ((grown_alloc G6.out _).trans hg7); have q7 := Blk_grown (Q6.out.alloc _) hg7 (by omega); have z7 := hid (Blk_grown (z6.out.alloc _) hg7 (by omega)); have t7 := hid (Blk_grown (Blk.new (w := W6) (k := W6.heap.size) (t := 50) (cs := #[.int .i64 vk, .int .i64 vn, .string vu, .slice va vl vc, .int .i64 uk, .int .i64 un, .string uu, .slice ua ul uc]) rfl) hg7 (by omega)); have T7 := hid ((T6.out.on ((Below.refl _ _).alloc (Nat.le_refl _) (.cells #[.int .i64 vk, .int .i64 vn, .string vu, .slice va vl vc, .int .i64 uk, .int .i64 un, .string uu, .slice ua ul uc] 50))).grown hg7 (fun c (h : w.heap.size + 1 <= c /\ c ≠ W2.heap.size) => by omega)); have U7 := hid ((U6.out.on ((Below.refl _ _).alloc (Nat.le_refl _) (.cells #[.int .i64 vk, .int .i64 vn, .string vu, .slice va vl vc, .int .i64 uk, .int .i64 un, .string uu, .slice ua ul uc] 50))).grown hg7 (fun c (h : w.heap.size + 1 <= c /\ c ≠ W2.heap.size) => by omega)); have qc7 := q7.cell; have qf7 := q7.frozen; have Q7 := hid q7; clear hr7 hg7 q7))
         all_goals
          have hw6 := G6.out.size
          have hq6 := Q6.out.lt
          have HRn := hid ((((HR7.out.far (p := ⟨W2.heap.size, 0, none⟩) (by dsimp only; omega) (.int .i64 2)).far (p := ⟨W2.heap.size, 1, none⟩) (by dsimp only; omega) (.int .i64 0)).far (p := ⟨W2.heap.size, 2, none⟩) (by dsimp only; omega) (.string ⟨#[]⟩)).far (p := ⟨W2.heap.size, 3, none⟩) (by dsimp only; omega) (.slice (some ⟨W6.heap.size, 0, none⟩) 2 2))
          have TN := hid (te_two (k := 2) t7.out (X := fun c => w.heap.size + 1 <= c /\ c ≠ W2.heap.size) ⟨by omega, by omega⟩ T7.out U7.out)
          go_wp2
          go_roundw
          case rel =>
           refine ⟨.op 2 [t, u], M2, m2 + 1, d, g6, _, _, _, _, _, _, hF2.out, by omega, HG2.out, h30, by omega, HRn.out, ?_, Blk.four Q7.out _ _ _ _, ?_, ?_, ?_⟩
           ·exact (((TN.out.far (p := ⟨W2.heap.size, 0, none⟩) (fun c (h : w.heap.size + 1 <= c /\ c ≠ W2.heap.size) => h.2) _).far (p := ⟨W2.heap.size, 1, none⟩) (fun c (h : w.heap.size + 1 <= c /\ c ≠ W2.heap.size) => h.2) _).far (p := ⟨W2.heap.size, 2, none⟩) (fun c (h : w.heap.size + 1 <= c /\ c ≠ W2.heap.size) => h.2) _).far (p := ⟨W2.heap.size, 3, none⟩) (fun c (h : w.heap.size + 1 <= c /\ c ≠ W2.heap.size) => h.2) _
           ·exact ((((z7.out.far (by dsimp only; omega) _).far (by dsimp only; omega) _).far (by dsimp only; omega) _).far (by dsimp only; omega) _)
           ·exact grown_far (grown_far (grown_far (grown_far G7.out (by dsimp only; omega)) (by dsimp only; omega)) (by dsimp only; omega)) (by dsimp only; omega)
           ·have := Q7.out.lt; simpa [World.setCell] using this
          case measure =>
           rw [HRn.out.lenV, hlenV]
           simp only [List.length_cons]
           omega
        ·have hF2 : (none : Option (Te × List Tk × Nat × Bool)) = R := by
          rw [<- hF]
          unfold madeP
          rw [if_neg (by omega)]
          rfl
         clear hF
         obtain rfl := hF2
         have c7 := fun c w h => made_no b M2 (m2 : Int) g6 ⟨2, 0, ⟨#[]⟩, some ⟨c, 0, none⟩, 2, 2⟩ (by omega) w h
         dsimp only at c7
         replace c7 := hid c7
         go_wp2_with (first
          | (go_at_call 61; (with_reducible refine (c5.out _ HR1.out).mono ?_); rintro e W5 ⟨rfl, hr5, hg5⟩; have HR5 := hid (hr5.on (Below.refl _ _).drew hr5.lt); have G5 := hid ((G1.out.trans hg5).trans (grown_of_below (Below.refl _ _).drew _)); have Q5 := hid (Blk_grown Q1.out hg5 (by omega)).drew; have z5 := hid (Blk_grown z1.out hg5 (by omega)).drew; have T5 := hid ((T1.out.grown hg5 (fun c (h : w.heap.size + 1 <= c /\ c ≠ W2.heap.size) => by omega)).on (Below.refl _ _).drew); clear hr5 hg5)
          | (go_at_call 63; (with_reducible refine (cN.out _).mono ?_); rintro e W5a ⟨rfl, rfl⟩)
          | (go_at_call 63; (with_reducible refine (cX.out _).mono ?_); rintro e W5b ⟨rfl, rfl⟩))
         have qc5 := Q5.out.cell
         have hz5 := G5.out.size
         have hq5 := Q5.out.lt
         go_region_with (first
          | (go_at_call 134; (with_reducible refine (cV.out _ HR5.out (hE.out.on (below_one G5.out hlt))).mono ?_); rintro e W6 ⟨hg6, uv, rfl, hu6, hr6⟩; obtain ⟨uk, un, uu, ua, ul, uc, rfl⟩ := hu6.four; have HR6 := hid hr6; have G6 := hid (G5.out.trans hg6); have Q6 := hid (Blk_grown Q5.out hg6 (by omega)); have z6 := hid (Blk_grown z5.out hg6 (by omega)); have T6 := hid (T5.out.grown hg6 (fun c (h : w.heap.size + 1 <= c /\ c ≠ W2.heap.size) => by omega)); have U6 := hid (hu6.wide (Y := fun c => w.heap.size + 1 <= c /\ c ≠ W2.heap.size) (fun c h h2 => have h3 := Nat.lt_of_lt_of_le hq5 h; ⟨by omega, by omega⟩)); have qc6 := Q6.out.cell; have qf6 := Q6.out.frozen; clear hr6 hg6 hu6)
          | (go_at_call 91; (with_reducible refine (c7.out _ _ (HR6.out.alloc _)).mono ?_); rintro e W7 ⟨rfl, hg7⟩; have G7 := hid ((grown_alloc G6.out _).trans hg7); clear hg7; refine die_any (P := Tryz.prog) (a := ⟨#[], []⟩) (w := w) ?_))
         all_goals exact ⟨rfl, G7.out, 2, .inl rfl, rfl⟩
    ·rw [if_neg h43] at hF
     have q43 : ((bs c.raw).toList == [43]) = false := by rw [bs_toList, beq_eq_false_iff_ne]; exact h43
     by_cases h45 : c.raw = [45]
     ·rw [if_pos h45] at hF
      have q45 : ((bs c.raw).toList == [45]) = true := by rw [bs_toList, h45]; rfl
      clear h43 h45
      have HR1 := hid hnext
      have G1 := hid (hgr.out.trans (grown_set wr b 0 (.slice (addrAt 4 (some ⟨tb, off, none⟩) cap 1) M.length (cap - 1))))
      have Q1 := hid (hq.out.far (p := ⟨b, 0, none⟩) (by dsimp only; omega) (.slice (addrAt 4 (some ⟨tb, off, none⟩) cap 1) M.length (cap - 1)))
      have z1 := hid (hz.out.far (p := ⟨b, 0, none⟩) (by dsimp only; omega) (.slice (addrAt 4 (some ⟨tb, off, none⟩) cap 1) M.length (cap - 1)))
      have T1 := hid (ht.out.far (p := ⟨b, 0, none⟩) (fun c (h : w.heap.size + 1 <= c /\ c ≠ W2.heap.size) => by dsimp only; omega) (.slice (addrAt 4 (some ⟨tb, off, none⟩) cap 1) M.length (cap - 1)))
      clear hnext
      cases g with
      | false =>
       simp only [Bool.false_and, Bool.false_eq_true, if_false] at hF
       obtain rfl := hF
       go_wp2_with (first
        | (go_at_call 63; (with_reducible refine (cN.out _).mono ?_); rintro e W5a ⟨rfl, rfl⟩)
        | (go_at_call 63; (with_reducible refine (cX.out _).mono ?_); rintro e W5b ⟨rfl, rfl⟩))
       exact ⟨rfl, G1.out, 4, .inr rfl, rfl⟩
      | true =>
       have c5 := fun w h => gap_any b M (n : Int) true w h (by have := HGD.out.1; simp only [List.length_cons] at this; omega)
       cases hgB : gapB M with
       | false =>
        rw [hgB] at hF c5
        simp only [Bool.and_false, Bool.false_eq_true, if_false] at hF
        obtain rfl := hF
        replace c5 := hid c5
        go_wp2_with (first
         | (go_at_call 61; (with_reducible refine (c5.out _ HR1.out).mono ?_); rintro e W5 ⟨rfl, hr5, hg5⟩; have HR5 := hid (hr5.on (Below.refl _ _).drew hr5.lt); have G5 := hid ((G1.out.trans hg5).trans (grown_of_below (Below.refl _ _).drew _)); have Q5 := hid (Blk_grown Q1.out hg5 (by omega)).drew; have z5 := hid (Blk_grown z1.out hg5 (by omega)).drew; have T5 := hid ((T1.out.grown hg5 (fun c (h : w.heap.size + 1 <= c /\ c ≠ W2.heap.size) => by omega)).on (Below.refl _ _).drew); clear hr5 hg5)
         | (go_at_call 63; (with_reducible refine (cN.out _).mono ?_); rintro e W5a ⟨rfl, rfl⟩)
         | (go_at_call 63; (with_reducible refine (cX.out _).mono ?_); rintro e W5b ⟨rfl, rfl⟩))
        exact ⟨rfl, grown_undrew G5.out, 4, .inr rfl, rfl⟩
       | true =>
        rw [hgB] at hF c5
        simp only [Bool.and_self, if_true] at hF
        replace c5 := hid c5
        have hgM := gap_le M
        have hgMs := (gap_suf M).trans hMs
        have cV := fun w h hE => hP b (clb.gapP M) n true d w (by omega) (HGD.out.suf hgMs) hn (by omega) h hE
        have hinv := (inv_all d).2.1 (clb.gapP M) n
        cases hv : prodF d (clb.gapP M) n with
        | none =>
         rw [hv] at cV hF
         replace cV := hid cV
         simp only [Option.bind_none] at hF
         obtain rfl := hF
         clear hinv
         go_wp2_with (first
          | (go_at_call 61; (with_reducible refine (c5.out _ HR1.out).mono ?_); rintro e W5 ⟨rfl, hr5, hg5⟩; have HR5 := hid (hr5.on (Below.refl _ _).drew hr5.lt); have G5 := hid ((G1.out.trans hg5).trans (grown_of_below (Below.refl _ _).drew _)); have Q5 := hid (Blk_grown Q1.out hg5 (by omega)).drew; have z5 := hid (Blk_grown z1.out hg5 (by omega)).drew; have T5 := hid ((T1.out.grown hg5 (fun c (h : w.heap.size + 1 <= c /\ c ≠ W2.heap.size) => by omega)).on (Below.refl _ _).drew); clear hr5 hg5)
          | (go_at_call 63; (with_reducible refine (cN.out _).mono ?_); rintro e W5a ⟨rfl, rfl⟩)
          | (go_at_call 63; (with_reducible refine (cX.out _).mono ?_); rintro e W5b ⟨rfl, rfl⟩))
         have qc5 := Q5.out.cell
         have hz5 := G5.out.size
         have hq5 := Q5.out.lt
         go_region_with (go_at_call 134; (with_reducible refine (cV.out _ HR5.out (hE.out.on (below_one G5.out hlt))).mono ?_); rintro e W6 ⟨hg6, x, hx, rfl⟩; have HX := hid hx; have G6 := hid (G5.out.trans hg6); clear hg6 hx; refine die_any (P := Tryz.prog) (a := ⟨#[], []⟩) (w := w) ?_)
         all_goals exact ⟨rfl, G6.out, x, HX.out, rfl⟩
        | some r =>
         obtain ⟨u, M2, m2, g6⟩ := r
         rw [hv] at cV hF
         replace cV := hid cV
         obtain ⟨-, -, hm2, hs2, hl2⟩ := hinv u M2 m2 g6 ((HGD.out.suf hgMs).good) hv
         have HG2 := hid (HGD.out.suf (hs2.trans hgMs))
         simp only [Option.bind_some] at hF
         clear hinv hv hs2
         have hcase : m2 + 1 <= 30 ∨ m2 = 30 := by omega
         rcases hcase with h30 | h30
         ·have hF2 := hid (show sumG d (.op 3 [t, u]) M2 (m2 + 1) g6 = R by
           rw [<- hF]
           unfold madeP
           rw [if_pos h30]
           rfl)
          have c7 := fun c w h => made_yes b M2 (m2 : Int) g6 ⟨3, 0, ⟨#[]⟩, some ⟨c, 0, none⟩, 2, 2⟩ (by omega) (by omega) w h
          dsimp only at c7
          replace c7 := hid c7
          clear hF
          go_wp2_with (first
           | (go_at_call 61; (with_reducible refine (c5.out _ HR1.out).mono ?_); rintro e W5 ⟨rfl, hr5, hg5⟩; have HR5 := hid (hr5.on (Below.refl _ _).drew hr5.lt); have G5 := hid ((G1.out.trans hg5).trans (grown_of_below (Below.refl _ _).drew _)); have Q5 := hid (Blk_grown Q1.out hg5 (by omega)).drew; have z5 := hid (Blk_grown z1.out hg5 (by omega)).drew; have T5 := hid ((T1.out.grown hg5 (fun c (h : w.heap.size + 1 <= c /\ c ≠ W2.heap.size) => by omega)).on (Below.refl _ _).drew); clear hr5 hg5)
           | (go_at_call 63; (with_reducible refine (cN.out _).mono ?_); rintro e W5a ⟨rfl, rfl⟩)
           | (go_at_call 63; (with_reducible refine (cX.out _).mono ?_); rintro e W5b ⟨rfl, rfl⟩))
          have qc5 := Q5.out.cell
          have hz5 := G5.out.size
          have hq5 := Q5.out.lt
          go_region_with (first
           | (go_at_call 134; (with_reducible refine (cV.out _ HR5.out (hE.out.on (below_one G5.out hlt))).mono ?_); rintro e W6 ⟨hg6, uv, rfl, hu6, hr6⟩; obtain ⟨uk, un, uu, ua, ul, uc, rfl⟩ := hu6.four; have HR6 := hid hr6; have G6 := hid (G5.out.trans hg6); have Q6 := hid (Blk_grown Q5.out hg6 (by omega)); have z6 := hid (Blk_grown z5.out hg6 (by omega)); have T6 := hid (T5.out.grown hg6 (fun c (h : w.heap.size + 1 <= c /\ c ≠ W2.heap.size) => by omega)); have U6 := hid (hu6.wide (Y := fun c => w.heap.size + 1 <= c /\ c ≠ W2.heap.size) (fun c h h2 => have h3 := Nat.lt_of_lt_of_le hq5 h; ⟨by omega, by omega⟩)); have qc6 := Q6.out.cell; have qf6 := Q6.out.frozen; clear hr6 hg6 hu6)
           | (go_at_call 91; (with_reducible refine (c7.out _ _ (HR6.out.alloc _)).mono ?_); rintro e W7 ⟨rfl, hr7, hg7⟩; have hb6 := G6.out.size; have HR7 := hid hr7; have G7 := hid ((grown_alloc G6.out _).trans hg7); have q7 := Blk_grown (Q6.out.alloc _) hg7 (by omega); have z7 := hid (Blk_grown (z6.out.alloc _) hg7 (by omega)); have t7 := hid (Blk_grown (Blk.new (w := W6) (k := W6.heap.size) (t := 50) (cs := #[.int .i64 vk, .int .i64 vn, .string vu, .slice va vl vc, .int .i64 uk, .int .i64 un, .string uu, .slice ua ul uc]) rfl) hg7 (by omega)); have T7 := hid ((T6.out.on ((Below.refl _ _).alloc (Nat.le_refl _) (.cells #[.int .i64 vk, .int .i64 vn, .string vu, .slice va vl vc, .int .i64 uk, .int .i64 un, .string uu, .slice ua ul uc] 50))).grown hg7 (fun c (h : w.heap.size + 1 <= c /\ c ≠ W2.heap.size) => by omega)); have U7 := hid ((U6.out.on ((Below.refl _ _).alloc (Nat.le_refl _) (.cells #[.int .i64 vk, .int .i64 vn, .string vu, .slice va vl vc, .int .i64 uk, .int .i64 un, .string uu, .slice ua ul uc] 50))).grown hg7 (fun c (h : w.heap.size + 1 <= c /\ c ≠ W2.heap.size) => by omega)); have qc7 := q7.cell; have qf7 := q7.frozen; have Q7 := hid q7; clear hr7 hg7 q7))
          all_goals
           have hw6 := G6.out.size
           have hq6 := Q6.out.lt
           have HRn := hid ((((HR7.out.far (p := ⟨W2.heap.size, 0, none⟩) (by dsimp only; omega) (.int .i64 3)).far (p := ⟨W2.heap.size, 1, none⟩) (by dsimp only; omega) (.int .i64 0)).far (p := ⟨W2.heap.size, 2, none⟩) (by dsimp only; omega) (.string ⟨#[]⟩)).far (p := ⟨W2.heap.size, 3, none⟩) (by dsimp only; omega) (.slice (some ⟨W6.heap.size, 0, none⟩) 2 2))
           have TN := hid (te_two (k := 3) t7.out (X := fun c => w.heap.size + 1 <= c /\ c ≠ W2.heap.size) ⟨by omega, by omega⟩ T7.out U7.out)
           go_wp2
           go_roundw
           case rel =>
            refine ⟨.op 3 [t, u], M2, m2 + 1, d, g6, _, _, _, _, _, _, hF2.out, by omega, HG2.out, h30, by omega, HRn.out, ?_, Blk.four Q7.out _ _ _ _, ?_, ?_, ?_⟩
            ·exact (((TN.out.far (p := ⟨W2.heap.size, 0, none⟩) (fun c (h : w.heap.size + 1 <= c /\ c ≠ W2.heap.size) => h.2) _).far (p := ⟨W2.heap.size, 1, none⟩) (fun c (h : w.heap.size + 1 <= c /\ c ≠ W2.heap.size) => h.2) _).far (p := ⟨W2.heap.size, 2, none⟩) (fun c (h : w.heap.size + 1 <= c /\ c ≠ W2.heap.size) => h.2) _).far (p := ⟨W2.heap.size, 3, none⟩) (fun c (h : w.heap.size + 1 <= c /\ c ≠ W2.heap.size) => h.2) _
            ·exact ((((z7.out.far (by dsimp only; omega) _).far (by dsimp only; omega) _).far (by dsimp only; omega) _).far (by dsimp only; omega) _)
            ·exact grown_far (grown_far (grown_far (grown_far G7.out (by dsimp only; omega)) (by dsimp only; omega)) (by dsimp only; omega)) (by dsimp only; omega)
            ·have := Q7.out.lt; simpa [World.setCell] using this
           case measure =>
            rw [HRn.out.lenV, hlenV]
            simp only [List.length_cons]
            omega
         ·have hF2 : (none : Option (Te × List Tk × Nat × Bool)) = R := by
           rw [<- hF]
           unfold madeP
           rw [if_neg (by omega)]
           rfl
          clear hF
          obtain rfl := hF2
          have c7 := fun c w h => made_no b M2 (m2 : Int) g6 ⟨3, 0, ⟨#[]⟩, some ⟨c, 0, none⟩, 2, 2⟩ (by omega) w h
          dsimp only at c7
          replace c7 := hid c7
          go_wp2_with (first
           | (go_at_call 61; (with_reducible refine (c5.out _ HR1.out).mono ?_); rintro e W5 ⟨rfl, hr5, hg5⟩; have HR5 := hid (hr5.on (Below.refl _ _).drew hr5.lt); have G5 := hid ((G1.out.trans hg5).trans (grown_of_below (Below.refl _ _).drew _)); have Q5 := hid (Blk_grown Q1.out hg5 (by omega)).drew; have z5 := hid (Blk_grown z1.out hg5 (by omega)).drew; have T5 := hid ((T1.out.grown hg5 (fun c (h : w.heap.size + 1 <= c /\ c ≠ W2.heap.size) => by omega)).on (Below.refl _ _).drew); clear hr5 hg5)
           | (go_at_call 63; (with_reducible refine (cN.out _).mono ?_); rintro e W5a ⟨rfl, rfl⟩)
           | (go_at_call 63; (with_reducible refine (cX.out _).mono ?_); rintro e W5b ⟨rfl, rfl⟩))
          have qc5 := Q5.out.cell
          have hz5 := G5.out.size
          have hq5 := Q5.out.lt
          go_region_with (first
           | (go_at_call 134; (with_reducible refine (cV.out _ HR5.out (hE.out.on (below_one G5.out hlt))).mono ?_); rintro e W6 ⟨hg6, uv, rfl, hu6, hr6⟩; obtain ⟨uk, un, uu, ua, ul, uc, rfl⟩ := hu6.four; have HR6 := hid hr6; have G6 := hid (G5.out.trans hg6); have Q6 := hid (Blk_grown Q5.out hg6 (by omega)); have z6 := hid (Blk_grown z5.out hg6 (by omega)); have T6 := hid (T5.out.grown hg6 (fun c (h : w.heap.size + 1 <= c /\ c ≠ W2.heap.size) => by omega)); have U6 := hid (hu6.wide (Y := fun c => w.heap.size + 1 <= c /\ c ≠ W2.heap.size) (fun c h h2 => have h3 := Nat.lt_of_lt_of_le hq5 h; ⟨by omega, by omega⟩)); have qc6 := Q6.out.cell; have qf6 := Q6.out.frozen; clear hr6 hg6 hu6)
           | (go_at_call 91; (with_reducible refine (c7.out _ _ (HR6.out.alloc _)).mono ?_); rintro e W7 ⟨rfl, hg7⟩; have G7 := hid ((grown_alloc G6.out _).trans hg7); clear hg7; refine die_any (P := Tryz.prog) (a := ⟨#[], []⟩) (w := w) ?_))
          all_goals exact ⟨rfl, G7.out, 2, .inl rfl, rfl⟩
     ·rw [if_neg h45] at hF
      obtain rfl := hF
      have q45 : ((bs c.raw).toList == [45]) = false := by rw [bs_toList, beq_eq_false_iff_ne]; exact h45
      clear h43 h45 hnext
      go_wp2_with fail
      have e := Blk.cell (Blk.four (hz.out) (.int .i64 vk) (.int .i64 vn) (.string vu) (.slice va vl vc))
      refine bodyPost_ret (v := .agg #[.int .i64 vk, .int .i64 vn, .string vu, .slice va vl vc]) (by simp [results, Tryz.results92, go_sem, e]) rfl ⟨?_, _, rfl, ?_, ?_⟩
      ·exact grown_far (grown_far (grown_far (grown_far hgr.out (Nat.le_refl _)) (Nat.le_refl _)) (Nat.le_refl _)) (Nat.le_refl _)
      ·exact TeAt.wide (((((ht.out.far (p := ⟨w.heap.size, 0, none⟩) (fun c (h : w.heap.size + 1 <= c /\ c ≠ W2.heap.size) => by dsimp only; omega) _).far (p := ⟨w.heap.size, 1, none⟩) (fun c (h : w.heap.size + 1 <= c /\ c ≠ W2.heap.size) => by dsimp only; omega) _).far (p := ⟨w.heap.size, 2, none⟩) (fun c (h : w.heap.size + 1 <= c /\ c ≠ W2.heap.size) => by dsimp only; omega) _).far (p := ⟨w.heap.size, 3, none⟩) (fun c (h : w.heap.size + 1 <= c /\ c ≠ W2.heap.size) => by dsimp only; omega) _)) (fun c (h : w.heap.size + 1 <= c /\ c ≠ W2.heap.size) _ => (by omega : w.heap.size <= c))
      ·exact (((hr.out.far (by dsimp only; omega) _).far (by dsimp only; omega) _).far (by dsimp only; omega) _).far (by dsimp only; omega) _
end clb
end Go.Proofs.YtlfkkaofgcongaaGreatDoor
