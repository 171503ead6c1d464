/- Contracts and plain law, a bundle. -/
import Derived.Recover
import Derived.Laws.Pointers
import Derived.WalkLawsBesides
import Derived.Lib.Hide
import Derived.Test.YtaobpkffcolobaaGreatDoorBM5
import Derived.Test.YtaobpkffcolobaaGreatDoorBL2
import Derived.Test.YtaobpkffcolobaaGreatDoorBG3
set_option linter.unusedVariables false
set_option maxRecDepth 100000
set_option maxHeartbeats 16000000
open Go.Lib (hid)
namespace Go.Proofs.YtaobpkffcolobaaGreatDoor
namespace sel
open Go.RowKit Go.Sort base tok rul
def PathsA (l : List Pa) : Prop := ∀ (A : Option Addr) (cap : Nat) (X : Nat -> Prop) (w : World), MaxL w -> PasV X w l A cap ->
 Calls Tryz.prog 24 #[.slice A l.length cap] w (rt w (.bool (okPs l)))
theorem okL_take {l : List Pa} {i : Nat} {p : Pa} (h : l[i]? = some p) : okL (l.take (i + 1)) = (okL (l.take i) && okP p) := by
 induction l generalizing i with
 | nil => cases h
 | cons x l ih =>
  cases i with
  | zero =>
   obtain rfl := Option.some.inj h
   simp only [List.take_succ_cons, List.take_zero, okL, Bool.and_true, Bool.true_and]
  | succ i => simp only [List.take_succ_cons, okL, ih (i := i) h, Bool.and_assoc]
theorem okL_bad {l : List Pa} {i : Nat} {p : Pa} (h : l[i]? = some p) (hp : okP p = false) : okL l = false := by
 induction l generalizing i with
 | nil => cases h
 | cons x l ih =>
  rw [okL]
  cases i with
  | zero =>
   obtain rfl := Option.some.inj h
   rw [hp, Bool.false_and]
  | succ i => rw [ih (i := i) h, Bool.and_false]
theorem okSS_take {l : List (List Ts)} {i : Nat} {s : List Ts} (h : l[i]? = some s) : okSS (l.take (i + 1)) = (okSS (l.take i) && (okS 0 s && !s.isEmpty)) := by
 induction l generalizing i with
 | nil => cases h
 | cons x l ih =>
  cases i with
  | zero =>
   obtain rfl := Option.some.inj h
   simp only [List.take_succ_cons, List.take_zero, okSS, Bool.and_true, Bool.true_and]
  | succ i => simp only [List.take_succ_cons, okSS, ih (i := i) h, Bool.and_assoc]
theorem okSS_bad {l : List (List Ts)} {i : Nat} {s : List Ts} (h : l[i]? = some s) (hs : (okS 0 s && !s.isEmpty) = false) : okSS l = false := by
 induction l generalizing i with
 | nil => cases h
 | cons x l ih =>
  rw [okSS]
  cases i with
  | zero =>
   obtain rfl := Option.some.inj h
   rw [hs, Bool.false_and]
  | succ i => rw [ih (i := i) h, Bool.and_false]
theorem okS_take {l : List Ts} {b i : Nat} {t : Ts} (h : l[i]? = some t) : okS b (l.take (i + 1)) = (okS b (l.take i) && okT (b + i) t) := by
 induction l generalizing i b with
 | nil => cases h
 | cons x l ih =>
  cases i with
  | zero =>
   obtain rfl := Option.some.inj h
   simp only [List.take_succ_cons, List.take_zero, okS, Bool.and_true, Bool.true_and, Nat.add_zero]
  | succ i => simp only [List.take_succ_cons, okS, ih (i := i) (b := b + 1) h, Bool.and_assoc, show b + 1 + i = b + (i + 1) by omega]
theorem okS_bad {l : List Ts} {b i : Nat} {t : Ts} (h : l[i]? = some t) (ht : okT (b + i) t = false) : okS b l = false := by
 induction l generalizing i b with
 | nil => cases h
 | cons x l ih =>
  rw [okS]
  cases i with
  | zero =>
   obtain rfl := Option.some.inj h
   rw [Nat.add_zero] at ht
   rw [ht, Bool.false_and]
  | succ i => rw [ih (i := i) (b := b + 1) h (by rw [show b + 1 + i = b + (i + 1) by omega]; exact ht), Bool.and_false]
theorem okPs_no {l : List Pa} (h : okL l = false) : okPs l = false := by rw [okPs, h, Bool.and_false]
theorem okP_none {steps : List (List Ts)} {joins : Bs} (h : steps.length = 0) : okP (.mk steps joins) = false := by
 obtain rfl := List.eq_nil_of_length_eq_zero h
 rw [okP]
 rfl
theorem okP_len {steps : List (List Ts)} {joins : Bs} (h : ¬ joins.length + 1 = steps.length) : okP (.mk steps joins) = false := by
 rw [okP, decide_eq_false h]
 simp
theorem okP_steps {steps : List (List Ts)} {joins : Bs} (h : okSS steps = false) : okP (.mk steps joins) = false := by
 rw [okP, h]
 simp
theorem okP_joins {steps : List (List Ts)} {joins : Bs} (h : joins.all joinOk = false) : okP (.mk steps joins) = false := by
 rw [okP, h, Bool.and_false]
theorem okP_yes {steps : List (List Ts)} {joins : Bs} (h0 : steps.length ≠ 0) (h1 : joins.length + 1 = steps.length) (h2 : okSS steps = true) (h3 : joins.all joinOk = true) : okP (.mk steps joins) = true := by
 rw [okP, decide_eq_true h1, h2, h3]
 cases steps with
 | nil => exact absurd rfl h0
 | cons s l => rfl
theorem all_take {js : Bs} {i : Nat} {c : UInt8} (h : js[i]? = some c) : (js.take (i + 1)).all joinOk = ((js.take i).all joinOk && joinOk c) := by
 rw [List.take_add_one, h]
 simp
theorem all_bad {js : Bs} {i : Nat} {c : UInt8} (h : js[i]? = some c) (hc : joinOk c = false) : js.all joinOk = false := by
 rw [List.all_eq_false]
 exact ⟨c, List.mem_of_getElem? h, by rw [hc]; simp⟩
theorem joinOk_no {c : UInt8} (h : joinOk c = false) : (Lib.indexByte [32, 62, 43, 126] c : Int) < 0 := by
 have h1 : c ≠ 32 /\ c ≠ 62 /\ c ≠ 43 /\ c ≠ 126 := by simpa [joinOk, and_assoc] using h
 obtain ⟨a1, a2, a3, a4⟩ := h1
 have : Lib.indexByte [32, 62, 43, 126] c = -1 := by simp [Lib.indexByte, Ne.symm a1, Ne.symm a2, Ne.symm a3, Ne.symm a4]
 omega
theorem pathsA_step (N : Nat) (IH : ∀ l, szL l < N -> PathsA l) (l : List Pa) (hsz : szL l <= N) (hN : N <= 2000000) : PathsA l := by
 intro A cap X w hM hv
 have hll := szL_len l
 have hfin : okL l = true -> okPs l = decide (0 < l.length) := fun h => by
  rw [okPs, h, Bool.and_true]
  cases l with
  | nil => rfl
  | cons p l =>
   rw [decide_eq_true (show 0 < (p :: l).length by simp)]
   rfl
 obtain ⟨m, hm⟩ : ∃ m, l.length = m := ⟨_, rfl⟩
 rw [hm] at hll hfin ⊢
 obtain ⟨R, hR⟩ : ∃ R, okPs l = R := ⟨_, rfl⟩
 have hbad : ∀ {i : Nat} {p : Pa}, l[i]? = some p -> okP p = false -> R = false := fun h hp => by rw [<- hR]; exact okPs_no (okL_bad h hp)
 rw [hR] at hfin ⊢
 have Hbad := hid (fun (i : Nat) (p : Pa) (h : l[i]? = some p) (hp : okP p = false) => hbad h hp)
 have Hfin := hid hfin
 have hcap : m <= cap := hm ▸ hv.1
 have Hm := hid hm
 have HM := hid hM
 have HSZ := hid hsz
 have HN := hid hN
 have hm9 : m <= 2000000 := by omega
 replace hv := hid hv
 replace IH := hid IH
 clear hm hM hbad hfin hR hsz hN hll
 go_enter Tryz.func24, Tryz.ntmps24
 go_wp2_with fail
 go_loopw [13] (fun i wr => ∃ j : Nat, j <= m /\ i = .int .i64 j /\ okL (l.take j) = true /\ Below w.heap.size w wr) (fun i _ => m - (intOf i).toNat)
 case atStart => exact ⟨0, Nat.zero_le _, rfl, by rw [List.take_zero, okL], Below.refl _ _⟩
 case round =>
  obtain ⟨wA, hwA⟩ : ∃ x, x = wr := ⟨wr, rfl⟩
  subst hwA
  obtain ⟨j, hj, rfl, hdj, hb⟩ := hrel
  have HB := hid hb
  have HDJ := hid hdj
  clear hdj
  by_cases hlt : j < m
  ·have hlt' : (j : Int) < (m : Int) := by omega
   obtain ⟨p, hp⟩ : ∃ p, l[j]? = some p := ⟨_, List.getElem?_eq_getElem (by rw [Hm.out]; exact hlt)⟩
   obtain ⟨c, o, rfl, -, hcl, hpa⟩ := hv.out.2 (by rw [Hm.out]; omega)
   obtain ⟨x0, x1, c0, c1, hp2⟩ := pas_at hpa hp
   obtain ⟨steps, joins⟩ := p
   obtain ⟨A1, cap1, J1, jc1, rfl, rfl, hc1, hjc1, hst, hjs⟩ := pa_open hp2
   have htl := szL_mem hp
   have hls := szSS_len steps
   replace c0 := (hb.cell (p := ⟨c, o + j * 2, none⟩) hcl).trans c0
   replace c1 := (hb.cell (p := ⟨c, o + j * 2 + 1, none⟩) hcl).trans c1
   replace hst := hid hst
   replace hjs := hid hjs
   have hzr := hb.size
   have hsz := HSZ.out
   have hN := HN.out
   have HP := hid hp
   have HSS := hid (show szSS steps < N by omega)
   have hjm : joins.length <= 2000000 := by omega
   have hsm : steps.length <= 2000000 := by omega
   have B0 := hid (fun (h : steps.length = 0) => Hbad.out j _ HP.out (okP_none (joins := joins) h))
   have B1 := hid (fun (h : ¬ joins.length + 1 = steps.length) => Hbad.out j _ HP.out (okP_len h))
   have B2 := hid (fun (h : okSS steps = false) => Hbad.out j _ HP.out (okP_steps (joins := joins) h))
   have B3 := hid (fun (h : joins.all joinOk = false) => Hbad.out j _ HP.out (okP_joins (steps := steps) h))
   have Y0 := hid (fun (h0 : steps.length ≠ 0) (h1 : joins.length + 1 = steps.length) (h2 : okSS steps = true) (h3 : joins.all joinOk = true) => show okL (l.take (j + 1)) = true by rw [okL_take HP.out, HDJ.out, okP_yes h0 h1 h2 h3]; rfl)
   obtain ⟨m1, hm1⟩ : ∃ m, steps.length = m := ⟨_, rfl⟩
   obtain ⟨mj, hmj⟩ : ∃ m, joins.length = m := ⟨_, rfl⟩
   rw [hm1] at hc1 c0 hst hsm B0 B1 Y0
   rw [hmj] at hjc1 c1 hjs hjm B1 Y0
   have Hm1 := hid hm1
   have Hmj := hid hmj
   clear hb hp hp2 hpa htl hm1 hmj hls hsz hN
   rcases (show m1 = 0 ∨ (m1 ≠ 0 /\ ¬ mj + 1 = m1) ∨ (m1 ≠ 0 /\ mj + 1 = m1) from by omega) with h1 | ⟨h1, h2⟩ | ⟨h1, h2⟩
   ·have HF := hid (B0.out h1)
    have hz0 : ((m1 : Int) == 0) = true := by rw [beq_iff_eq]; omega
    clear h1
    go_wp2_with fail
    go_ret
    exact ⟨by rw [HF.out]; rfl, HB.out.alloc hzr _⟩
   ·have HF := hid (B1.out h2)
    have hz0 : ((m1 : Int) == 0) = false := bq (by omega)
    have hz1 : ((mj : Int) == (m1 : Int) - 1) = false := bq (by omega)
    have hz1b : ((mj : Int) != (m1 : Int) - 1) = true := by rw [bne, hz1]; rfl
    clear h1 h2
    go_wp2_with fail
    go_ret
    exact ⟨by rw [HF.out]; rfl, HB.out.alloc hzr _⟩
   have hz0 : ((m1 : Int) == 0) = false := bq (by omega)
   have hz1 : ((mj : Int) == (m1 : Int) - 1) = true := by rw [beq_iff_eq]; omega
   have hz1b : ((mj : Int) != (m1 : Int) - 1) = false := by rw [bne, hz1]; rfl
   replace Y0 := hid (Y0.out h1 h2)
   clear h1 h2 B0 B1
   go_wp2_with fail
   go_loopw [34] (fun i wr2 => ∃ q : Nat, q <= m1 /\ i = .int .i64 q /\ okSS (steps.take q) = true /\ Below w.heap.size w wr2 /\ wr2.cell? ⟨wA.heap.size, 1, none⟩ = some (.slice J1 mj jc1) /\ wA.heap.size < wr2.heap.size) (fun i _ => m1 - (intOf i).toNat)
   case atStart => exact ⟨0, Nat.zero_le _, rfl, by rw [List.take_zero, okSS], HB.out.alloc hzr _, (Blk.new rfl : Blk (wA.alloc (.cells #[.slice A1 m1 cap1, .slice J1 mj jc1] 36)) wA.heap.size _ _).cell 1, by rw [World.size_alloc]; exact Nat.lt_succ_self _⟩
   case round =>
    obtain ⟨wB, hwB⟩ : ∃ x, x = wr := ⟨wr, rfl⟩
    subst hwB
    obtain ⟨q, hq, rfl, hdq, hb, hjcell, hwlt⟩ := hrel
    have HB2 := hid hb
    have HDQ := hid hdq
    clear hdq
    have hzr2 := hb.size
    by_cases hlt2 : q < m1
    ·have hlt2' : (q : Int) < (m1 : Int) := by omega
     obtain ⟨s, hs⟩ : ∃ s, steps[q]? = some s := ⟨_, List.getElem?_eq_getElem (by rw [Hm1.out]; exact hlt2)⟩
     obtain ⟨cb, ob, rfl, hcbl, hss⟩ := hst.out (by omega)
     obtain ⟨A2, cap2, s0, hsv⟩ := sss_at hss hs
     have htl := szSS_mem hs
     replace s0 := (hb.cell (p := ⟨cb, ob + q, none⟩) hcbl).trans s0
     have hss9 := HSS.out
     have hN := HN.out
     have HSz := hid (show szS s < N by omega)
     have hlS := szS_len s
     have hc2 := hsv.1
     have HS := hid hs
     have hs2m : s.length <= 2000000 := by omega
     have C0 := hid (fun (h : (okS 0 s && !s.isEmpty) = false) => B2.out (okSS_bad HS.out h))
     have Z0 := hid (fun (h : (okS 0 s && !s.isEmpty) = true) => show okSS (steps.take (q + 1)) = true by rw [okSS_take HS.out, HDQ.out, h]; rfl)
     have hem : s.length = 0 -> s.isEmpty = true := fun h => by rw [List.eq_nil_of_length_eq_zero h]; rfl
     have hem2 : s.length ≠ 0 -> s.isEmpty = false := fun h => by
      cases s with
      | nil => exact absurd rfl h
      | cons => rfl
     have Hem := hid hem
     have Hem2 := hid hem2
     obtain ⟨m2, hm2⟩ : ∃ m, s.length = m := ⟨_, rfl⟩
     have hsv' := hsv.2
     rw [hm2] at hc2 s0 hsv' hs2m Hem Hem2
     have hsvv := hid hsv'
     have Hm2 := hid hm2
     have HJ2 := hid hjcell
     clear hb hs hss htl hm2 hlS hsv hsv' hjcell hss9 hN hem hem2
     go_wp2_with fail
     go_loopw [40] (fun i wr3 => ∃ r : Nat, r <= m2 /\ i = .int .i64 r /\ okS 0 (s.take r) = true /\ Below w.heap.size w wr3 /\ wr3.cell? ⟨wA.heap.size, 1, none⟩ = some (.slice J1 mj jc1) /\ wA.heap.size < wr3.heap.size) (fun i _ => m2 - (intOf i).toNat)
     case atStart => exact ⟨0, Nat.zero_le _, rfl, by rw [List.take_zero, okS], HB2.out, HJ2.out, hwlt⟩
     case round =>
      obtain ⟨r, hr, rfl, hdr, hb, hjcell, hwlt3⟩ := hrel
      have HB3 := hid hb
      have HDR := hid hdr
      clear hdr
      have HJ3 := hid hjcell
      have hzr3 := hb.size
      by_cases hlt3 : r < m2
      ·have hlt3' : (r : Int) < (m2 : Int) := by omega
       obtain ⟨t, ht⟩ : ∃ t, s[r]? = some t := ⟨_, List.getElem?_eq_getElem (by rw [Hm2.out]; exact hlt3)⟩
       obtain ⟨cc, oc, rfl, -, hccl, hst3⟩ := hsvv.out (by omega)
       obtain ⟨xs, hxl, hxc, hta⟩ := ss_at hst3 ht
       have hszt := szS_mem ht
       have HTK := hid (okS_take (b := 0) ht)
       have HTB := hid (fun h => okS_bad (b := 0) ht h)
       rw [Nat.zero_add] at HTK HTB
       obtain ⟨k, nn, op, vv, a, b, subs⟩ := t
       obtain ⟨sA, sc, rfl, hpv⟩ := ts_form hta
       have t0 := (hb.cell (p := ⟨cc, oc + r * 7, none⟩) hccl).trans (hxc 0 (by decide))
       have t1 := (hb.cell (p := ⟨cc, oc + r * 7 + 1, none⟩) hccl).trans (hxc 1 (by decide))
       have t2 := (hb.cell (p := ⟨cc, oc + r * 7 + 2, none⟩) hccl).trans (hxc 2 (by decide))
       have t3 := (hb.cell (p := ⟨cc, oc + r * 7 + 3, none⟩) hccl).trans (hxc 3 (by decide))
       have t4 := (hb.cell (p := ⟨cc, oc + r * 7 + 4, none⟩) hccl).trans (hxc 4 (by decide))
       have t5 := (hb.cell (p := ⟨cc, oc + r * 7 + 5, none⟩) hccl).trans (hxc 5 (by decide))
       have t6 := (hb.cell (p := ⟨cc, oc + r * 7 + 6, none⟩) hccl).trans (hxc 6 (by decide))
       dsimp only [List.getElem?_cons_zero, List.getElem?_cons_succ] at t0 t1 t2 t3 t4 t5 t6
       rw [szT] at hszt
       have hsz9 := HSz.out
       have hN := HN.out
       have hnl : nn.length <= 2000000 := by omega
       have hsu : szL subs < N := by omega
       obtain ⟨T, hT⟩ : ∃ T, okT r (.mk k nn op vv a b subs) = T := ⟨_, rfl⟩
       have cT : ∀ (W : World) (hW : Below w.heap.size w W), Calls Tryz.prog 42 #[(aTs k (bs nn) (nv op) (bs vv) a b sA subs.length sc), .int .i64 r] W (rt W (.bool T)) := fun W hW => by
        have h := test_any r k nn op vv a b subs hnl sA sc W (HM.out.on hW HM.out.lt) (fun W' hW' hM' => IH.out subs hsu sA sc X W' hM' (hpv.on (hW.trans (hW'.mono hW.size))))
        rw [hT] at h
        exact h
       replace cT := hid cT
       rw [hT] at HTK HTB
       have HBa := hid (HB3.out.alloc hzr3 (oTs k (bs nn) (nv op) (bs vv) a b sA subs.length sc))
       have HBj := hid (show (wr.alloc (oTs k (bs nn) (nv op) (bs vv) a b sA subs.length sc)).cell? ⟨wA.heap.size, 1, none⟩ = some (.slice J1 mj jc1) from ((ba wr _).cell (p := ⟨wA.heap.size, 1, none⟩) hwlt3).trans HJ3.out)
       clear hb ht hst3 hxc hxl hta hpv hjcell hT hszt hsz9 hN hnl hsu
       cases T with
       | true =>
        go_wp2_with (go_at_call 42; (with_reducible refine (cT.out _ HBa.out).mono ?_); rintro e W4 ⟨rfl, hb4⟩; have HB4 := hid (tb HBa hb4); have hz4 := hb4.size; rw [World.size_alloc] at hz4; have HJ4 := hid ((hb4.cell (p := ⟨wA.heap.size, 1, none⟩) (by rw [World.size_alloc]; dsimp only; omega)).trans HBj.out); clear hb4)
        go_roundw
        case rel => exact ⟨r + 1, by omega, by go_num, by rw [HTK.out, HDR.out]; rfl, HB4.out, HJ4.out, by omega⟩
        case measure => simp [intOf]; omega
       | false =>
        have HF := hid (C0.out (by rw [HTB.out rfl, Bool.false_and]))
        go_wp2_with (go_at_call 42; (with_reducible refine (cT.out _ HBa.out).mono ?_); rintro e W4 ⟨rfl, hb4⟩; have HB4 := hid (tb HBa hb4); clear hb4)
        go_ret
        exact ⟨by rw [HF.out]; rfl, HB4.out⟩
      ·obtain rfl : r = m2 := by omega
       have HDS := HDR.out
       rw [List.take_of_length_le (by rw [Hm2.out]; exact Nat.le_refl _)] at HDS
       replace HDS := hid HDS
       clear hlt3 hb hjcell
       by_cases h0 : r = 0
       ·have HF := hid (C0.out (by rw [Hem.out h0, HDS.out]; rfl))
        have hz3 : ((r : Int) == 0) = true := by rw [beq_iff_eq]; omega
        clear h0
        go_wp2_with fail
        go_ret
        exact ⟨by rw [HF.out]; rfl, HB3.out⟩
       ·have HG := hid (Z0.out (by rw [Hem2.out h0, HDS.out]; rfl))
        have hz3 : ((r : Int) == 0) = false := bq (by omega)
        clear h0
        go_wp2_with fail
        go_roundw
        case rel => exact ⟨q + 1, by omega, by go_num, HG.out, HB3.out, HJ3.out, hwlt3⟩
        case measure => simp [intOf]; omega
    ·obtain rfl : q = m1 := by omega
     have HJ2 := hid hjcell
     have HDS := HDQ.out
     rw [List.take_of_length_le (by rw [Hm1.out]; exact Nat.le_refl _)] at HDS
     replace HDS := hid HDS
     clear hlt2 hb
     go_wp2_with fail
     go_loopw [57] (fun i wr3 => ∃ r : Nat, r <= mj /\ i = .int .i64 r /\ (joins.take r).all joinOk = true /\ Below w.heap.size w wr3) (fun i _ => mj - (intOf i).toNat)
     case atStart => exact ⟨0, Nat.zero_le _, rfl, by rw [List.take_zero]; rfl, HB2.out⟩
     case round =>
      obtain ⟨r, hr, rfl, hdr, hb⟩ := hrel
      have HB3 := hid hb
      have HDR := hid hdr
      clear hdr
      by_cases hlt3 : r < mj
      ·have hlt3' : (r : Int) < (mj : Int) := by omega
       obtain ⟨jc, hjc⟩ : ∃ c, joins[r]? = some c := ⟨_, List.getElem?_eq_getElem (by rw [Hmj.out]; exact hlt3)⟩
       obtain ⟨cd, od, rfl, hcdl, hjx⟩ := hjs.out (by omega)
       have j0 := (hb.cell (p := ⟨cd, od + r, none⟩) hcdl).trans (hjx r jc hjc)
       have HTK := hid (all_take hjc)
       have HTB := hid (fun h => all_bad hjc h)
       have cI : ∀ w, Calls Tryz.prog 43 #[.string ⟨#[32, 62, 43, 126]⟩, .int .u8 (nv jc)] w fun e w' => e = .returned (.int .i64 (Lib.indexByte [32, 62, 43, 126] jc)) /\ w = w' := fun w => jdx_ct jc w
       have hno := fun h => joinOk_no (c := jc) h
       have hye := fun h => joinOk_ne (c := jc) h
       obtain ⟨ix, hixe⟩ : ∃ ix : Int, (Lib.indexByte [32, 62, 43, 126] jc : Int) = ix := ⟨_, rfl⟩
       simp only [hixe] at cI hno hye
       replace cI := hid cI
       obtain ⟨T, hT⟩ : ∃ T, joinOk jc = T := ⟨_, rfl⟩
       rw [hT] at HTK HTB hno hye
       clear hixe hb hjx hjc hT
       cases T with
       | true =>
        have hix : decide (ix < 0) = false := by rw [decide_eq_false_iff_not]; exact hye rfl
        clear hno hye
        go_wp2_with (go_at_call 43; (with_reducible refine (cI.out _).mono ?_); rintro e W4 ⟨rfl, rfl⟩)
        go_roundw
        case rel => exact ⟨r + 1, by omega, by go_num, by rw [HTK.out, HDR.out]; rfl, HB3.out⟩
        case measure => simp [intOf]; omega
       | false =>
        have hix : decide (ix < 0) = true := by rw [decide_eq_true_eq]; exact hno rfl
        have HF := hid (B3.out (HTB.out rfl))
        clear hno hye
        go_wp2_with (go_at_call 43; (with_reducible refine (cI.out _).mono ?_); rintro e W4 ⟨rfl, rfl⟩)
        go_ret
        exact ⟨by rw [HF.out]; rfl, HB3.out⟩
      ·obtain rfl : r = mj := by omega
       have HDT := HDR.out
       rw [List.take_of_length_le (by rw [Hmj.out]; exact Nat.le_refl _)] at HDT
       replace HDT := hid HDT
       have HG := hid (Y0.out HDS.out HDT.out)
       clear hlt3 hb
       go_wp2_with fail
       go_roundw
       case rel => exact ⟨j + 1, by omega, by go_num, HG.out, HB3.out⟩
       case measure => simp [intOf]; omega
  ·obtain rfl : j = m := by omega
   have HDT := HDJ.out
   rw [List.take_of_length_le (by rw [Hm.out]; exact Nat.le_refl _)] at HDT
   have HF := hid (Hfin.out HDT)
   clear HDT
   go_wp2_with fail
   go_ret
   exact ⟨by rw [HF.out]; rfl, HB.out⟩
theorem pathsA_all : ∀ N, N <= 2000000 -> ∀ l, szL l <= N -> PathsA l
 | 0, hN, l, h => pathsA_step 0 (fun l h => absurd h (Nat.not_lt_zero _)) l h hN
 | N + 1, hN, l, h => pathsA_step (N + 1) (fun l h => pathsA_all N (by omega) l (by omega)) l h hN
def errC (l : List Pa) : Int := if okB 0 l = true then (if okPs l = true then 0 else 3) else 2
theorem errC_ok {l : List Pa} : errC l = 0 ↔ checkB l = true := by
 have e : checkB l = (okB 0 l && okPs l) := by
  unfold checkB okB okPs
  simp only [Bool.and_assoc, Nat.sub_zero]
 rw [e]
 unfold errC
 cases okB 0 l <;> cases okPs l <;> decide
theorem check_any (l : List Pa) (hsz : szL l <= 2000000) (A : Option Addr) (cap : Nat) (X : Nat -> Prop) (w : World) (hM : MaxL w) (hv : PasV X w l A cap) :
  Calls Tryz.prog 13 #[.slice A l.length cap] w (rt w (.int .i64 (errC l))) := by
 have cT0 := tests_any (szL l) l A cap X w 0 (Nat.le_refl _) (by omega) (by omega) hv
 rw [show ((0 : Nat) : Int) = 0 from rfl] at cT0
 have cP := hid (fun W (hb : Below w.heap.size w W) => pathsA_all 2000000 (Nat.le_refl _) l hsz A cap X W (hM.on hb hM.lt) (hv.on hb))
 rw [errC]
 unfold PathsA at cP
 cases hT : okB 0 l with
 | false =>
  rw [hT] at cT0
  have cT := hid cT0
  rw [if_neg Bool.false_ne_true]
  clear hM hv cT0 hT cP
  go_enter Tryz.func13, Tryz.ntmps13
  go_wp2_with (go_at_call 23; (with_reducible refine cT.out.mono ?_); rintro e W1 ⟨⟨k, -, -, rfl⟩, hb1⟩; have HB1 := hid hb1; clear hb1)
  go_ret
  exact ⟨rfl, HB1.out⟩
 | true =>
  rw [hT] at cT0
  have cT := hid cT0
  rw [if_pos rfl]
  obtain ⟨R, hR⟩ : ∃ R, okPs l = R := ⟨_, rfl⟩
  simp only [hR] at cP
  replace cP := hid cP.out
  rw [hR]
  clear hM hv cT0 hT hR
  cases R with
  | false =>
   rw [if_neg Bool.false_ne_true]
   go_enter Tryz.func13, Tryz.ntmps13
   go_wp2_with (first
    | (go_at_call 23; (with_reducible refine cT.out.mono ?_); rintro e W1 ⟨⟨k, -, -, rfl⟩, hb1⟩; have HB1 := hid hb1; clear hb1)
    | (go_at_call 24; (with_reducible refine (cP.out _ HB1.out).mono ?_); rintro e W2 ⟨rfl, hb2⟩; have HB2 := hid (tb HB1 hb2); clear hb2))
   go_ret
   exact ⟨rfl, HB2.out⟩
  | true =>
   rw [if_pos rfl]
   go_enter Tryz.func13, Tryz.ntmps13
   go_wp2_with (first
    | (go_at_call 23; (with_reducible refine cT.out.mono ?_); rintro e W1 ⟨⟨k, -, -, rfl⟩, hb1⟩; have HB1 := hid hb1; clear hb1)
    | (go_at_call 24; (with_reducible refine (cP.out _ HB1.out).mono ?_); rintro e W2 ⟨rfl, hb2⟩; have HB2 := hid (tb HB1 hb2); clear hb2))
   go_ret
   exact ⟨rfl, HB2.out⟩
end sel
namespace sel
open Go.RowKit base tok rul
theorem scatch_idle (p q : Addr) (w : World) :
  CallsD Tryz.prog 16 #[.pointer (some p), .pointer (some q)] .returning w fun e u' w' => e = .returned (.tuple #[]) /\ u' = .returning /\ w' = w := by
 refine callsD_of_wpS Tryz.func16 rfl fun c₀ cs hu => ?_
 apply wpS_seq
 apply wpS_region
 simp [wpOpsS, go_sem, recoverD, hu, Tryz.ntmps16, Exit.thenS]
 refine wpS_of_wp ?_
 go_wp2
 cases c₀
 simp_all [bodyPostS, results, Tryz.results16]
theorem sread_ok (s : Bs) (d : Nat) (l : List Pa) (hr : readS d s = some l) (w : World) (hE : SEnv w) :
  Calls Tryz.prog 9 #[.string (bs s)] w fun e w' => (∃ A cap, e = .returned (.tuple #[.slice A l.length cap, .int .i64 0]) /\ PasV (fun c => w.heap.size <= c) w' l A cap) /\ Below w.heap.size w w' := by
 have hmf : ∀ (fn : Fn) (first cap : Array Value) (w : World), (Instr.makeFunc fn first cap).run Tryz.prog w = .ok (.func fn first cap) w := fun _ _ _ _ => rfl
 obtain ⟨hs, hck, M, hL⟩ := read_open hr
 have hgood := good_cut hs
 have hl := cut_few s
 have hL' := list_up (e := d + 2404) (by omega) hL
 have hsm := ((in_all d).2.2.2.2 false [] (cutP s) l M hgood (by rw [SmL]; trivial) hL).1
 have cC := fun w hm => tok.cut_ct (bs s) (by rw [bs_size]; omega) w hm
 rw [show (bs s).data.toList = s from rfl] at cC
 replace cC := hid cC
 have cV := fun b w h hE => (reads_all 400).2 b false (cutP s) (d + 2404) w (by omega) hgood (by omega) h hE
 rw [hL', if_neg Bool.false_ne_true] at cV
 unfold RetLs at cV
 replace cV := hid cV
 have hszl := sm_szL l hsm
 have hl40 := (check_open hck).2.1
 have cK0 := fun A cap X w hM hv => check_any l (by omega) A cap X w hM hv
 rw [errC_ok.2 hck] at cK0
 have cK := hid cK0
 clear cK0 hszl
 have HE := hid hE
 have hq4 : decide ((400 : Int) < ((bs s).size : Int)) = false := decide_eq_false (by rw [bs_size]; omega)
 have hll := len_L l hsm
 clear hE hL hL' hr hsm hck hgood
 go_enter_defers Tryz.func9, Tryz.ntmps9
 have HB0 := hid (show Below w.heap.size w ((w.alloc (.cells #[.slice none 0 0] 24)).alloc (.cells #[.int .i64 0] 29)) from (ba _ _).alloc (by simp) _)
 have Q0 := hid (show Blk ((w.alloc (.cells #[.slice none 0 0] 24)).alloc (.cells #[.int .i64 0] 29)) w.heap.size 24 #[.slice none 0 0] from (Blk.new rfl).alloc _)
 have E0 := hid (show Blk ((w.alloc (.cells #[.slice none 0 0] 24)).alloc (.cells #[.int .i64 0] 29)) (w.heap.size + 1) 29 #[.int .i64 0] from Blk.new (by simp))
 go_wp2_with (first
  | (go_at_call 17; (with_reducible refine (cC.out _ (HE.out.max.on HB0.out HE.out.max.lt)).mono ?_); rintro e W1 ⟨⟨A, cap, rfl, hcap, hrd⟩, hb1⟩; have hz1 := hb1.size; simp only [World.size_alloc] at hz1; have HB1 := hid ((HB0.out.trans (hb1.mono (by simp <;> omega))).alloc (by omega) (.cells #[.slice A (cutP s).length cap] 60)); have Q1 := hid ((Q0.out.below hb1 (by simp <;> omega)).alloc (.cells #[.slice A (cutP s).length cap] 60)); have E1 := hid ((E0.out.below hb1 (by simp <;> omega)).alloc (.cells #[.slice A (cutP s).length cap] 60)); have HR1 := hid (show RdrS (W1.alloc (.cells #[.slice A (cutP s).length cap] 60)) W1.heap.size (cutP s) from ⟨A, cap, hcap, Blk.new rfl, Rd.keep hrd (ba _ _) (Nat.le_refl _)⟩); have HE1 := hid (show EnvS W1.heap.size (W1.alloc (.cells #[.slice A (cutP s).length cap] 60)) from fun v hv => HE.out.on (HB1.out.trans (hv.mono (by omega)))); clear hrd hb1)
  | (go_at_call 18; (with_reducible refine (cV.out _ _ HR1.out HE1.out).mono ?_); rintro e W2 ⟨hg2, ⟨A2, cap2, rfl, hv2⟩, hr2⟩; (try dsimp only at hv2); have hz2 := hg2.size; rw [World.size_alloc] at hz2; have q2 := Blk_grown Q1.out hg2 (by omega); have q2c := q2.cell; have q2f := q2.frozen; have q2l := q2.lt; have Q2 := hid (q2.put 0 (.slice A2 l.length cap2)); have E2 := hid ((Blk_grown E1.out hg2 (by omega)).far (p := ⟨w.heap.size, 0, none⟩) (by dsimp only; omega) (.slice A2 l.length cap2)); have V2 := hid (hv2.keep (Y := fun c => w.heap.size + 2 <= c) (w' := W2.setCell ⟨w.heap.size, 0, none⟩ (.slice A2 l.length cap2)) (by simp [World.setCell]) (fun c hc hl => ⟨(by rw [World.size_alloc] at hc; omega), Below.heap_setCell _ _ _ c (by rw [World.size_alloc] at hc; dsimp only; omega)⟩)); have HB2 := hid ((HB1.out.trans ((below_one hg2 (by rw [World.size_alloc]; omega)).mono (by omega))).setCell (p := ⟨w.heap.size, 0, none⟩) (Nat.le_refl _) (.slice A2 l.length cap2)); clear hg2 hv2 hr2 q2)
  | (go_at_call 13; (with_reducible refine (cK.out _ _ _ _ (HE.out.max.on HB2.out HE.out.max.lt) V2.out).mono ?_); rintro e W3 ⟨rfl, hb3⟩; have q3 := Q2.out.below hb3 Q2.out.lt; have q3c := q3.cell; have q3f := q3.frozen; have q3l := q3.lt; have Q3 := hid q3; have e3 := E2.out.below hb3 E2.out.lt; have e3c := e3.cell; have e3f := e3.frozen; have e3l := e3.lt; have E3 := hid e3; have V3 := hid (V2.out.on hb3); have HB3 := hid (tb HB2 hb3); clear hb3 q3 e3))
 refine leaves_cons (f := 16) (args := #[.pointer (some ⟨w.heap.size, 0, none⟩), .pointer (some ⟨w.heap.size + 1, 0, none⟩)]) (by simp) (by simp [go_sem]) ?_
 refine (scatch_idle ⟨w.heap.size, 0, none⟩ ⟨w.heap.size + 1, 0, none⟩ _).mono ?_
 rintro e u' w'' ⟨rfl, rfl, rfl⟩
 have ec := ((Q3.out.put 0 (.slice A2 l.length cap2)).far (p := ⟨w.heap.size + 1, 0, none⟩) (by dsimp only; omega) (.int .i64 0)).cell
 have fc := ((E3.out.far (p := ⟨w.heap.size, 0, none⟩) (by dsimp only; omega) (.slice A2 l.length cap2)).put 0 (.int .i64 0)).cell
 have VF := V3.out.keep (Y := fun c => w.heap.size <= c) (w' := (W3.setCell ⟨w.heap.size, 0, none⟩ (.slice A2 l.length cap2)).setCell ⟨w.heap.size + 1, 0, none⟩ (.int .i64 0)) (by simp [World.setCell]) (fun c (hc : w.heap.size + 2 <= c) hl => ⟨by omega, (Below.heap_setCell _ _ _ c (by dsimp only; omega)).trans (Below.heap_setCell _ _ _ c (by dsimp only; omega))⟩)
 have HF := (HB3.out.setCell (p := ⟨w.heap.size, 0, none⟩) (Nat.le_refl _) (.slice A2 l.length cap2)).setCell (p := ⟨w.heap.size + 1, 0, none⟩) (by dsimp only; omega) (.int .i64 0)
 generalize ((W3.setCell ⟨w.heap.size, 0, none⟩ (.slice A2 l.length cap2)).setCell ⟨w.heap.size + 1, 0, none⟩ (.int .i64 0)) = WF at *
 simp only [Leaves, settle]
 exact ⟨.tuple #[.slice A2 l.length cap2, .int .i64 0], by simp [results, Tryz.results9, go_sem, ec, fc], ⟨_, _, rfl, VF⟩, HF⟩
end sel
end Go.Proofs.YtaobpkffcolobaaGreatDoor
