/- Contracts and plain law, a bundle. -/
import Derived.Lib.Hide
import Derived.Test.YtaobpkffcolobaaGreatDoorBF
set_option linter.unusedVariables false
set_option maxRecDepth 100000
set_option maxHeartbeats 16000000
open Go.Lib (hid)
namespace Go.Proofs.YtaobpkffcolobaaGreatDoor
namespace sel
open Go.RowKit base tok rul
def TestsA (N : Nat) : Prop := ∀ (l : List Pa) (A : Option Addr) (cap : Nat) (X : Nat -> Prop) (w : World) (D : Nat), szL l <= N -> N <= 3000000 -> D + N <= 4000000 -> PasV X w l A cap ->
 Calls Tryz.prog 23 #[.slice A l.length cap, .int .i64 D] w fun e w' => (∃ k : Nat, k <= cntL l /\ (okB D l = true -> k = cntL l) /\ e = .returned (.tuple #[.int .i64 k, .bool (okB D l)])) /\ Below w.heap.size w w'
theorem testsA_step (N0 N1 : Nat) (hN01 : N1 = N0 + 1 ∨ N1 = 0) (IH : N1 ≠ 0 -> TestsA N0) : TestsA N1 := by
 intro l A cap X w D hsz hN3 hDN hv
 have hll := szL_len l
 have hcz := cnt_szL l
 obtain ⟨m, hm⟩ : ∃ m, l.length = m := ⟨_, rfl⟩
 rw [hm] at hll ⊢
 obtain ⟨T, hT⟩ : ∃ T, cntL l = T := ⟨_, rfl⟩
 rw [hT] at hcz
 have HT := hid hT
 have hcap : m <= cap := hm ▸ hv.1
 have Hm := hid hm
 have hm9 : m <= 3000000 := by omega
 have hT9 : T <= 3000000 := by omega
 have hD9 : D <= 4000000 := by omega
 have HSZ := hid hsz
 have HN3 := hid hN3
 have HDN := hid hDN
 replace hv := hid hv
 replace IH := hid IH
 have H01 := hid hN01
 clear hN01
 clear hm hT hsz hN3 hDN hll hcz
 go_enter Tryz.func23, Tryz.ntmps23
 go_wp2_with fail
 go_loopw [6, 17] (fun n i wr => ∃ j N : Nat, j <= m /\ i = .int .i64 j /\ n = .int .i64 N /\ N = cntL (l.take j) /\ deepL (3 - D) (l.take j) = true /\ Below w.heap.size w wr) (fun _ i _ => m - (intOf i).toNat)
 case atStart => exact ⟨0, 0, Nat.zero_le _, rfl, rfl, by rw [List.take_zero, cntL], by rw [List.take_zero, deepL], Below.refl _ _⟩
 case round =>
  obtain ⟨j, N, hj, rfl, rfl, hN, hdj, hb⟩ := hrel
  have HB := hid hb
  have HDJ := hid hdj
  clear hdj
  by_cases hlt : j < m
  ·have hlt' : (j : Int) < (m : Int) := by omega
   obtain ⟨p, hp⟩ : ∃ p, l[j]? = some p := ⟨_, List.getElem?_eq_getElem (by rw [Hm.out]; exact hlt)⟩
   obtain ⟨c, o, rfl, -, hcl, hpa⟩ := hv.out.2 (by rw [Hm.out]; omega)
   obtain ⟨x0, x1, c0, c1, hp2⟩ := pas_at hpa hp
   obtain ⟨steps, joins⟩ := p
   obtain ⟨A1, cap1, J1, jc1, rfl, rfl, hc1, -, hst, -⟩ := pa_open hp2
   obtain ⟨htk, htl⟩ := cntL_take hp
   have hls := szSS_len steps
   have hlm := szL_mem hp
   replace c0 := (hb.cell (p := ⟨c, o + j * 2, none⟩) hcl).trans c0
   replace c1 := (hb.cell (p := ⟨c, o + j * 2 + 1, none⟩) hcl).trans c1
   rw [HT.out] at htl
   replace hst := hid hst
   have hN40 : N + cntSS steps <= T := by omega
   have HN := hid (show cntL (l.take (j + 1)) = N + cntSS steps by omega)
   have hzr := hb.size
   obtain ⟨m1, hm1⟩ : ∃ m, steps.length = m := ⟨_, rfl⟩
   rw [hm1] at hc1 c0 hls hst
   have hm19 : m1 <= 3000000 := by have := HSZ.out; have := HN3.out; omega
   have Hm1 := hid hm1
   have HP := hid hp
   clear hb hp hp2 hpa htk htl hN hm1 hls hlm
   go_wp2_with fail
   go_loopw [6, 24] (fun n i wr2 => ∃ q N2 : Nat, q <= m1 /\ i = .int .i64 q /\ n = .int .i64 N2 /\ N2 = N + cntSS (steps.take q) /\ deepSS (3 - D) (steps.take q) = true /\ Below w.heap.size w wr2) (fun _ i _ => m1 - (intOf i).toNat)
   case atStart => exact ⟨0, N, Nat.zero_le _, rfl, rfl, by rw [List.take_zero, cntSS]; rfl, by rw [List.take_zero, deepSS], HB.out.alloc hzr _⟩
   case round =>
    obtain ⟨q, N2, hq, rfl, rfl, hN2, hdq, hb⟩ := hrel
    have HB2 := hid hb
    have HDQ := hid hdq
    clear hdq
    by_cases hlt2 : q < m1
    ·have hlt2' : (q : Int) < (m1 : Int) := by omega
     obtain ⟨s, hs⟩ : ∃ s, steps[q]? = some s := ⟨_, List.getElem?_eq_getElem (by rw [Hm1.out]; exact hlt2)⟩
     obtain ⟨cb, ob, rfl, hcbl, hss⟩ := hst.out (by omega)
     obtain ⟨A2, cap2, s0, hsv⟩ := sss_at hss hs
     obtain ⟨htk, htl⟩ := cntSS_take hs
     replace s0 := (hb.cell (p := ⟨cb, ob + q, none⟩) hcbl).trans s0
     have hcs := cntS_sub s
     have hN41 : N2 + s.length + subS s <= T := by omega
     have HN2 := hid (show N + cntSS (steps.take (q + 1)) = N2 + s.length + subS s by omega)
     have hzr2 := hb.size
     have hc2 := hsv.1
     obtain ⟨m2, hm2⟩ : ∃ m, s.length = m := ⟨_, rfl⟩
     have hsv' := hsv.2
     rw [hm2] at hc2 s0 hN41 hsv'
     have hm29 : m2 <= 3000000 := by omega
     have hsvv := hid hsv'
     have Hm2 := hid hm2
     have HS := hid hs
     clear hb hs hss htk htl hN2 hm2 hcs hsv hsv'
     go_wp2_with fail
     go_loopw [6, 34] (fun n i wr3 => ∃ r N3 : Nat, r <= m2 /\ i = .int .i64 r /\ n = .int .i64 N3 /\ N3 = N2 + m2 + subS (s.take r) /\ deepS (3 - D) (s.take r) = true /\ Below w.heap.size w wr3) (fun _ i _ => m2 - (intOf i).toNat)
     case atStart => exact ⟨0, N2 + m2, Nat.zero_le _, rfl, by simp, by rw [List.take_zero, subS]; rfl, by rw [List.take_zero, deepS], HB2.out⟩
     case round =>
      obtain ⟨r, N3, hr, rfl, rfl, hN3, hdr, hb⟩ := hrel
      have HB3 := hid hb
      have HDR := hid hdr
      clear hdr
      by_cases hlt3 : r < m2
      ·have hlt3' : (r : Int) < (m2 : Int) := by omega
       obtain ⟨t, ht⟩ : ∃ t, s[r]? = some t := ⟨_, List.getElem?_eq_getElem (by rw [Hm2.out]; exact hlt3)⟩
       obtain ⟨cc, oc, rfl, -, hccl, hst3⟩ := hsvv.out (by omega)
       obtain ⟨xs, hxl, hxc, hta⟩ := ss_at hst3 ht
       have hdt := deepS_take (d := 3 - D) ht
       obtain ⟨k, nn, op, vv, a, b, subs⟩ := t
       obtain ⟨sA, sc, rfl, hpv⟩ := ts_form hta
       obtain ⟨htk, htl⟩ := subS_take ht
       have t0 := (hb.cell (p := ⟨cc, oc + r * 7, none⟩) hccl).trans (hxc 0 (by decide))
       have t1 := (hb.cell (p := ⟨cc, oc + r * 7 + 1, none⟩) hccl).trans (hxc 1 (by decide))
       have t2 := (hb.cell (p := ⟨cc, oc + r * 7 + 2, none⟩) hccl).trans (hxc 2 (by decide))
       have t3 := (hb.cell (p := ⟨cc, oc + r * 7 + 3, none⟩) hccl).trans (hxc 3 (by decide))
       have t4 := (hb.cell (p := ⟨cc, oc + r * 7 + 4, none⟩) hccl).trans (hxc 4 (by decide))
       have t5 := (hb.cell (p := ⟨cc, oc + r * 7 + 5, none⟩) hccl).trans (hxc 5 (by decide))
       have t6 := (hb.cell (p := ⟨cc, oc + r * 7 + 6, none⟩) hccl).trans (hxc 6 (by decide))
       dsimp only [List.getElem?_cons_zero, List.getElem?_cons_succ] at t0 t1 t2 t3 t4 t5 t6
       have hN42 : N3 + cntL subs <= T := by omega
       have HN3a := hid (show N2 + m2 + subS (s.take (r + 1)) = N3 + cntL subs by omega)
       have hzr3 := hb.size
       rw [HDR.out, Bool.true_and] at hdt
       have HDT := hid hdt
       have HTT := hid ht
       clear hb ht hst3 hxc hxl hta htk htl hN3 hdt
       by_cases hne : subs = []
       ·subst hne
        have HN4 := HN3a.out
        rw [cntL_nil] at HN4
        clear hN42 hpv
        replace HN4 := hid HN4
        simp only [List.length_nil] at t6
        go_wp2_with fail
        go_roundw
        case rel => exact ⟨r + 1, N3, by omega, by go_num, rfl, HN4.out.symm, by rw [HDT.out, deepT_leaf], HB3.out.alloc hzr3 _⟩
        case measure => simp [intOf]; omega
       ·obtain ⟨C, hC⟩ : ∃ C, cntL subs = C := ⟨_, rfl⟩
        have hszs := szL_sub HP.out HS.out HTT.out
        have HZS := hid hszs
        have cT := fun w hv => IH.out (by have := HSZ.out; have := HZS.out; omega) subs sA sc X w (D + 1) (by have := HSZ.out; have := HZS.out; have := H01.out; omega) (by have := HN3.out; have := H01.out; have := HSZ.out; have := HZS.out; omega) (by have := HDN.out; have := H01.out; have := HSZ.out; have := HZS.out; omega) hv
        rw [hC] at cT hN42 HN3a
        have hpo := hid (hpv.on (HB3.out.alloc hzr3 (oTs k (bs nn) (nv op) (bs vv) a b sA subs.length sc)))
        have h0 : ((subs.length : Int) == 0) = false := by rw [beq_eq_false_iff_ne]; have := List.length_pos_iff.2 hne; omega
        replace HN3a := hid HN3a.out
        have Hne := hid hne
        clear hne hpv hC hszs
        have hbad : okB (D + 1) subs = false -> okB D l = false := fun h => okB_sub HP.out HS.out HTT.out Hne.out h
        have hbad2 : 3 <= D -> okB D l = false := fun h => okB_deep HP.out HS.out HTT.out (by rw [show 3 - D = 0 by omega]; exact deepT_zero Hne.out)
        have hbad3 : ∀ k : Nat, 40 < N3 + k -> k <= C -> okB D l = false := fun k h h2 => okB_few (by rw [HT.out]; omega)
        have hgood : okB (D + 1) subs = true -> D < 3 -> deepS (3 - D) (s.take (r + 1)) = true := fun h h2 => by
         rw [HDT.out, show 3 - D = (3 - (D + 1)) + 1 by omega, deepT_succ _ Hne.out]
         rw [okB, Bool.and_eq_true] at h
         exact h.1
        replace hbad := hid hbad
        replace hbad2 := hid hbad2
        replace hbad3 := hid hbad3
        replace hgood := hid hgood
        have hD1 : ((D + 1 : Nat) : Int) = (D : Int) + 1 := by omega
        rcases (show okB (D + 1) subs = false ∨ (okB (D + 1) subs = true /\ 3 <= D) ∨ (okB (D + 1) subs = true /\ D < 3 /\ 40 < N3 + C) ∨ (okB (D + 1) subs = true /\ D < 3 /\ N3 + C <= 40) from by
         cases okB (D + 1) subs
         ·exact .inl rfl
         ·rcases Nat.lt_or_ge D 3 with h | h
          ·rcases Nat.lt_or_ge 40 (N3 + C) with h2 | h2
           ·exact .inr (.inr (.inl ⟨rfl, h, h2⟩))
           ·exact .inr (.inr (.inr ⟨rfl, h, h2⟩))
          ·exact .inr (.inl ⟨rfl, h⟩)) with hbo | ⟨hbo, hD3⟩ | ⟨hbo, hD3, h4⟩ | ⟨hbo, hD3, h4⟩
        ·have hfin := hbad.out hbo
         have HF := hid hfin
         simp only [hbo, hD1] at cT
         replace cT := hid cT
         clear hbo hfin hD1
         go_wp2_with (go_at_call 23; (with_reducible refine (cT.out _ hpo.out).mono ?_); rintro e W4 ⟨⟨k4, hk4, hk5, rfl⟩, hb4⟩; have HB4 := hid ((HB3.out.alloc hzr3 (oTs k (bs nn) (nv op) (bs vv) a b sA subs.length sc)).trans (hb4.mono (by rw [World.size_alloc]; omega))); clear hk5; clear hb4)
         exact bodyPost_ret (v := .tuple #[.int .i64 ((N3 + k4) : Nat), .bool false]) (by simp [results, Tryz.results23, go_sem]) rfl ⟨⟨(N3 + k4), by rw [HT.out]; omega, fun h => (by rw [HF.out] at h; cases h), by rw [HF.out]⟩, HB4.out⟩
        ·have HF := hid (hbad2.out hD3)
         simp only [hbo, hD1] at cT
         replace cT := hid cT
         have h3 : decide ((3 : Int) <= (D : Int)) = true := dt (by omega)
         clear hbo hD1 hD3
         go_wp2_with (go_at_call 23; (with_reducible refine (cT.out _ hpo.out).mono ?_); rintro e W4 ⟨⟨k4, hk4, hk5, rfl⟩, hb4⟩; have HB4 := hid ((HB3.out.alloc hzr3 (oTs k (bs nn) (nv op) (bs vv) a b sA subs.length sc)).trans (hb4.mono (by rw [World.size_alloc]; omega))); clear hk5; clear hb4)
         exact bodyPost_ret (v := .tuple #[.int .i64 ((N3 + k4) : Nat), .bool false]) (by simp [results, Tryz.results23, go_sem]) rfl ⟨⟨(N3 + k4), by rw [HT.out]; omega, fun h => (by rw [HF.out] at h; cases h), by rw [HF.out]⟩, HB4.out⟩
        ·have HF := hid (hbad3.out C h4 (Nat.le_refl _))
         simp only [hbo, hD1] at cT
         replace cT := hid cT
         have h3 : decide ((3 : Int) <= (D : Int)) = false := df (by omega)
         have h40 : decide ((40 : Int) < (N3 : Int) + (C : Int)) = true := dt (by omega)
         clear hbo hD1 hD3
         go_wp2_with (go_at_call 23; (with_reducible refine (cT.out _ hpo.out).mono ?_); rintro e W4 ⟨⟨k4, hk4, hk5, rfl⟩, hb4⟩; have HB4 := hid ((HB3.out.alloc hzr3 (oTs k (bs nn) (nv op) (bs vv) a b sA subs.length sc)).trans (hb4.mono (by rw [World.size_alloc]; omega))); obtain rfl := hk5 trivial; clear hb4)
         exact bodyPost_ret (v := .tuple #[.int .i64 ((N3 + k4) : Nat), .bool false]) (by simp [results, Tryz.results23, go_sem]) rfl ⟨⟨(N3 + k4), by rw [HT.out]; omega, fun h => (by rw [HF.out] at h; cases h), by rw [HF.out]⟩, HB4.out⟩
        ·have hds := hgood.out hbo hD3
         have HDS := hid hds
         simp only [hbo, hD1] at cT
         replace cT := hid cT
         have h3 : decide ((3 : Int) <= (D : Int)) = false := df (by omega)
         have h40 : decide ((40 : Int) < (N3 : Int) + (C : Int)) = false := df (by omega)
         clear hbo hD1 hD3 hds
         go_wp2_with (go_at_call 23; (with_reducible refine (cT.out _ hpo.out).mono ?_); rintro e W4 ⟨⟨k4, hk4, hk5, rfl⟩, hb4⟩; have HB4 := hid ((HB3.out.alloc hzr3 (oTs k (bs nn) (nv op) (bs vv) a b sA subs.length sc)).trans (hb4.mono (by rw [World.size_alloc]; omega))); obtain rfl := hk5 trivial; clear hb4)
         go_roundw
         case rel => exact ⟨r + 1, N3 + k4, by omega, by go_num, by simp, HN3a.out.symm, HDS.out, HB4.out⟩
         case measure => simp [intOf]; omega
      ·obtain rfl : r = m2 := by omega
       have hN5 := hN3
       rw [List.take_of_length_le (by rw [Hm2.out]; exact Nat.le_refl _)] at hN5
       have HDS := HDR.out
       rw [List.take_of_length_le (by rw [Hm2.out]; exact Nat.le_refl _)] at HDS
       replace HDS := hid HDS
       clear hN3 hlt3
       go_wp2_with fail
       go_roundw
       case rel => exact ⟨q + 1, N3, by omega, by go_num, rfl, by rw [HN2.out, Hm2.out]; exact hN5, by rw [deepSS_take HS.out, HDQ.out, HDS.out]; rfl, HB3.out⟩
       case measure => simp [intOf]; omega
    ·obtain rfl : q = m1 := by omega
     have hN5 := hN2
     rw [List.take_of_length_le (by rw [Hm1.out]; exact Nat.le_refl _)] at hN5
     have HDS := HDQ.out
     rw [List.take_of_length_le (by rw [Hm1.out]; exact Nat.le_refl _)] at HDS
     replace HDS := hid HDS
     clear hN2 hlt2
     go_wp2_with fail
     go_roundw
     case rel => exact ⟨j + 1, N2, by omega, by go_num, rfl, by rw [HN.out]; exact hN5, by rw [deepL_take HP.out, HDJ.out, HDS.out]; rfl, HB2.out⟩
     case measure => simp [intOf]; omega
  ·obtain rfl : j = m := by omega
   rw [List.take_of_length_le (by rw [Hm.out]; exact Nat.le_refl _), HT.out] at hN
   subst hN
   have HDL := HDJ.out
   rw [List.take_of_length_le (by rw [Hm.out]; exact Nat.le_refl _)] at HDL
   have hok : okB D l = decide ((N : Int) <= 40) := by
    rw [okB, HDL, Bool.true_and, HT.out]
    exact decide_eq_decide.2 (by omega)
   clear HDL
   have HOK := hid hok
   clear hok
   go_wp2_with fail
   exact bodyPost_ret (v := .tuple #[.int .i64 N, .bool (decide ((N : Int) <= 40))]) (by simp [results, Tryz.results23, go_sem]) rfl ⟨⟨N, by rw [HT.out]; exact Nat.le_refl _, fun _ => HT.out.symm, by rw [HOK.out]⟩, HB.out⟩
theorem tests_any : ∀ N, TestsA N
 | 0 => testsA_step 0 0 (.inr rfl) (fun h => absurd rfl h)
 | N + 1 => testsA_step N (N + 1) (.inl rfl) (fun _ => tests_any N)
end sel
end Go.Proofs.YtaobpkffcolobaaGreatDoor
