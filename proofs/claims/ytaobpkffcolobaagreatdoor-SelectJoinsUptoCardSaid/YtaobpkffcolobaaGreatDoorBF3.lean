/- Contracts and plain law, a bundle. -/
import Derived.Lib.QuietBelow
import Derived.Lib.Hide
import Derived.Test.YtaobpkffcolobaaGreatDoorBF
set_option linter.unusedVariables false
set_option maxRecDepth 100000
set_option maxHeartbeats 16000000
open Go.Lib (hid)
namespace Go.Proofs.YtaobpkffcolobaaGreatDoor
namespace sel
open Go.RowKit Go.Sort base tok rul
def SameL (l : List Pa) : Prop := ∀ (A A' : Option Addr) (cap cap' : Nat) (X Y : Nat -> Prop) (w : World), PasV X w l A cap -> PasV Y w l A' cap' ->
 Calls Tryz.prog 10 #[.slice A l.length cap, .slice A' l.length cap'] w (rt w (.bool true))
def SameS (s : List Ts) : Prop := ∀ (A A' : Option Addr) (cap cap' : Nat) (X Y : Nat -> Prop) (w : World), SsV X w s A cap -> SsV Y w s A' cap' ->
 Calls Tryz.prog 19 #[.slice A s.length cap, .slice A' s.length cap'] w (rt w (.bool true))
theorem SsV.on {X : Nat -> Prop} {w w' : World} {l : List Ts} {A : Option Addr} {cap : Nat} (h : SsV X w l A cap) (hb : Below w.heap.size w w') : SsV X w' l A cap := h.keep hb.size (fun c hc hl => ⟨hc, hb.block c hl⟩)
theorem str_nil (cap : Nat) (w : World) : (convert 34 9 (.slice none 0 cap)).run Tryz.prog w = .ok (.string (bs [])) w := by
 rw [run_convert_bytes_string w 34 9 5 none 0 cap Tryz.underlying34 Tryz.underlying5 Tryz.underlying9]
 rfl
theorem str_of {js : Bs} {J : Option Addr} {jc : Nat} {w : World} (h : 0 < js.length -> ∃ c o, J = some ⟨c, o, none⟩ /\ c < w.heap.size /\ ∀ (i : Nat) (x : UInt8), js[i]? = some x -> w.cell? ⟨c, o + i, none⟩ = some (.int .u8 (nv x))) (W : World) (hW : Below w.heap.size w W) :
  (convert 34 9 (.slice J js.length jc)).run Tryz.prog W = .ok (.string (bs js)) W := by
 by_cases h0 : 0 < js.length
 ·obtain ⟨c, o, rfl, hc, hx⟩ := h h0
  exact run_convert_bytes_back W 34 9 5 ⟨c, o, none⟩ jc js Tryz.underlying34 Tryz.underlying5 Tryz.underlying9 (fun j hj => by
   rw [show (⟨c, o, none⟩ : Addr).add j = ⟨c, o + j, none⟩ by unfold Addr.add; split <;> simp_all]
   exact (hW.cell (p := ⟨c, o + j, none⟩) hc).trans (hx j _ (List.getElem?_eq_getElem hj)))
 ·obtain rfl := List.eq_nil_of_length_eq_zero (show js.length = 0 by omega)
  cases J with
  | none => exact str_nil jc W
  | some a => exact run_convert_bytes_back W 34 9 5 a jc [] Tryz.underlying34 Tryz.underlying5 Tryz.underlying9 (fun j hj => absurd hj (Nat.not_lt_zero _))
theorem sameStep_of (N : Nat) (IH : ∀ l, cntL l < N -> SmL l -> SameL l) (s : List Ts) (hc : cntS s <= N) (hc2 : cntS s <= 1000000) (hsm : SmS s) : SameS s := by
 intro A A' cap cap' X Y w hv hv'
 have hls := len_S s
 obtain ⟨m, hm⟩ : ∃ m, s.length = m := ⟨_, rfl⟩
 rw [hm] at hls ⊢
 have hcap : m <= cap := hm ▸ hv.1
 have hcap' : m <= cap' := hm ▸ hv'.1
 have hml : m <= 1000000 := by omega
 have Hm := hid hm
 replace hv := hid hv
 replace hv' := hid hv'
 replace hsm := hid hsm
 replace IH := hid IH
 clear hm
 go_enter Tryz.func19, Tryz.ntmps19
 go_wp2_with fail
 go_loopw [5] (fun i wr => ∃ j : Nat, j <= m /\ i = .int .i64 j /\ Below w.heap.size w wr) (fun i _ => m - (intOf i).toNat)
 case atStart => exact ⟨0, Nat.zero_le _, rfl, Below.refl _ _⟩
 case round =>
  obtain ⟨j, hj, rfl, hb⟩ := hrel
  have HB := hid hb
  by_cases hlt : j < m
  ·have hlt' : (j : Int) < (m : Int) := by omega
   obtain ⟨t, ht⟩ : ∃ t, s[j]? = some t := ⟨_, List.getElem?_eq_getElem (by rw [Hm.out]; exact hlt)⟩
   obtain ⟨c, o, rfl, -, hcl, hss⟩ := hv.out.2 (by rw [Hm.out]; omega)
   obtain ⟨c', o', rfl, -, hcl', hss'⟩ := hv'.out.2 (by rw [Hm.out]; omega)
   obtain ⟨xs, -, hxc, hta⟩ := ss_at hss ht
   obtain ⟨ys, -, hyc, hta'⟩ := ss_at hss' ht
   obtain ⟨k, nn, op, vv, a, b, subs⟩ := t
   obtain ⟨sA, sc, rfl, hpv⟩ := ts_form hta
   obtain ⟨tA, tc, rfl, hpv'⟩ := ts_form hta'
   obtain ⟨htk, htl⟩ := subS_take ht
   have hcs := cntS_sub s
   have hsm3 := smS_mem hsm.out ht
   rw [SmT] at hsm3
   have t0 := (hb.cell (p := ⟨c, o + j * 7, none⟩) hcl).trans (hxc 0 (by decide))
   have t1 := (hb.cell (p := ⟨c, o + j * 7 + 1, none⟩) hcl).trans (hxc 1 (by decide))
   have t2 := (hb.cell (p := ⟨c, o + j * 7 + 2, none⟩) hcl).trans (hxc 2 (by decide))
   have t3 := (hb.cell (p := ⟨c, o + j * 7 + 3, none⟩) hcl).trans (hxc 3 (by decide))
   have t4 := (hb.cell (p := ⟨c, o + j * 7 + 4, none⟩) hcl).trans (hxc 4 (by decide))
   have t5 := (hb.cell (p := ⟨c, o + j * 7 + 5, none⟩) hcl).trans (hxc 5 (by decide))
   have t6 := (hb.cell (p := ⟨c, o + j * 7 + 6, none⟩) hcl).trans (hxc 6 (by decide))
   have u0 := (hb.cell (p := ⟨c', o' + j * 7, none⟩) hcl').trans (hyc 0 (by decide))
   have u1 := (hb.cell (p := ⟨c', o' + j * 7 + 1, none⟩) hcl').trans (hyc 1 (by decide))
   have u2 := (hb.cell (p := ⟨c', o' + j * 7 + 2, none⟩) hcl').trans (hyc 2 (by decide))
   have u3 := (hb.cell (p := ⟨c', o' + j * 7 + 3, none⟩) hcl').trans (hyc 3 (by decide))
   have u4 := (hb.cell (p := ⟨c', o' + j * 7 + 4, none⟩) hcl').trans (hyc 4 (by decide))
   have u5 := (hb.cell (p := ⟨c', o' + j * 7 + 5, none⟩) hcl').trans (hyc 5 (by decide))
   have u6 := (hb.cell (p := ⟨c', o' + j * 7 + 6, none⟩) hcl').trans (hyc 6 (by decide))
   dsimp only [List.getElem?_cons_zero, List.getElem?_cons_succ] at t0 t1 t2 t3 t4 t5 t6 u0 u1 u2 u3 u4 u5 u6
   have cT := hid (fun (W : World) (hW : Below w.heap.size w W) => IH.out subs (by rw [Hm.out] at hcs; omega) hsm3.2.2.2.2.2.2 sA tA sc tc X Y W (hpv.on hW) (hpv'.on hW))
   have hzr := hb.size
   have hlw : c < wr.heap.size := by omega
   have hlw' : c' < wr.heap.size := by omega
   have hat := ba wr (oTs k (bs nn) (nv op) (bs vv) a b sA subs.length sc)
   have HBa := hid (HB.out.trans ((hat.alloc (by rw [World.size_alloc]; omega) (oTs k (bs nn) (nv op) (bs vv) a b tA subs.length tc)).mono hzr))
   clear hb ht hss hss' hxc hyc hta hta' htk htl hcs hsm3 hpv hpv' hat
   go_wp2_with (go_at_call 10; (with_reducible refine (cT.out _ HBa.out).mono ?_); rintro e W4 ⟨rfl, hb4⟩; have HB4 := hid (tb HBa hb4); clear hb4)
   go_roundw
   case rel => exact ⟨j + 1, by omega, by go_num, HB4.out⟩
   case measure => simp [intOf]; omega
  ·obtain rfl : j = m := by omega
   go_wp2_with fail
   go_ret
   exact ⟨rfl, HB.out⟩
theorem samePaths_of (N : Nat) (IH : ∀ l, cntL l < N -> SmL l -> SameL l) (l : List Pa) (hc : cntL l <= N) (hc2 : cntL l <= 1000000) (hsm : SmL l) : SameL l := by
 intro A A' cap cap' X Y w hv hv'
 have hls := len_L l hsm
 obtain ⟨m, hm⟩ : ∃ m, l.length = m := ⟨_, rfl⟩
 rw [hm] at hls ⊢
 have hcap : m <= cap := hm ▸ hv.1
 have hcap' : m <= cap' := hm ▸ hv'.1
 have hml : m <= 1000000 := by omega
 have Hm := hid hm
 replace hv := hid hv
 replace hv' := hid hv'
 replace hsm := hid hsm
 replace IH := hid IH
 clear hm hls
 go_enter Tryz.func10, Tryz.ntmps10
 go_wp2_with fail
 go_loopw [5] (fun i wr => ∃ j : Nat, j <= m /\ i = .int .i64 j /\ Below w.heap.size w wr) (fun i _ => m - (intOf i).toNat)
 case atStart => exact ⟨0, Nat.zero_le _, rfl, Below.refl _ _⟩
 case round =>
  obtain ⟨wA, hwA⟩ : ∃ x, x = wr := ⟨wr, rfl⟩
  subst hwA
  obtain ⟨j, hj, rfl, hb⟩ := hrel
  have HB := hid hb
  by_cases hlt : j < m
  ·have hlt' : (j : Int) < (m : Int) := by omega
   obtain ⟨p, hp⟩ : ∃ p, l[j]? = some p := ⟨_, List.getElem?_eq_getElem (by rw [Hm.out]; exact hlt)⟩
   obtain ⟨c, o, rfl, -, hcl, hpa⟩ := hv.out.2 (by rw [Hm.out]; omega)
   obtain ⟨c', o', rfl, -, hcl', hpa'⟩ := hv'.out.2 (by rw [Hm.out]; omega)
   obtain ⟨x0, x1, c0, c1, hp2⟩ := pas_at hpa hp
   obtain ⟨y0, y1, d0, d1, hp2'⟩ := pas_at hpa' hp
   obtain ⟨steps, joins⟩ := p
   obtain ⟨A1, cap1, J1, jc1, rfl, rfl, hc1, hjc1, hst, hjs⟩ := pa_open hp2
   obtain ⟨A2, cap2, J2, jc2, rfl, rfl, hc2', hjc2, hst', hjs'⟩ := pa_open hp2'
   obtain ⟨hsne, hjl, hsm1'⟩ := smL_mem hsm.out hp
   obtain ⟨htk, htl⟩ := cntL_take hp
   have hsm1 := hid hsm1'
   have hls := len_SS steps hsm1'
   replace c0 := (hb.cell (p := ⟨c, o + j * 2, none⟩) hcl).trans c0
   replace c1 := (hb.cell (p := ⟨c, o + j * 2 + 1, none⟩) hcl).trans c1
   replace d0 := (hb.cell (p := ⟨c', o' + j * 2, none⟩) hcl').trans d0
   replace d1 := (hb.cell (p := ⟨c', o' + j * 2 + 1, none⟩) hcl').trans d1
   have hcv := hid (fun d os => str_of hjs (jc := jc1) _ (hb.trans ((below_regrown wA d os).mono hb.size)))
   have hcv' := hid (fun d os => str_of hjs' (jc := jc2) _ (hb.trans ((below_regrown wA d os).mono hb.size)))
   have k0 := cell_regrown c0
   have k1 := cell_regrown c1
   have k2 := cell_regrown d0
   have k3 := cell_regrown d1
   have g1 := hcv.out
   have g2 := hcv'.out
   have hst2 := hid hst
   have hst2' := hid hst'
   have hcs : cntSS steps <= N /\ cntSS steps <= 1000000 := by omega
   replace hcs := hid hcs
   have hzr := hb.size
   have hlw : c < wA.heap.size := by omega
   have hlw' : c' < wA.heap.size := by omega
   obtain ⟨m1, hm1⟩ : ∃ m, steps.length = m := ⟨_, rfl⟩
   rw [hm1] at hc1 hc2' c0 d0 hls k0 k2
   have hle1 : m1 <= 1000000 := by have := hcs.out.2; omega
   have hjz : joins.length <= 1000000 := by omega
   have Hm1 := hid hm1
   clear hb hp hp2 hp2' hpa hpa' hsm1' htk htl hm1 hls hsne hjl hjs hjs' hst hst' hcv hcv'
   go_wp2_with fail
   refine wp_region_quiet_below (by kernel_rfl) (by kernel_rfl) ?_
   repeat (quiet_step (fail))
   refine wpQuiet_nil ?_
   intro _ hw'
   obtain ⟨⟨dq, osq⟩, hw''⟩ := hw'
   subst hw''
   have HBw := hid (HB.out.trans ((below_regrown wA dq osq).mono hzr))
   have bw := below_regrown wA dq osq
   have zw := bw.size
   clear k0 k1 k2 k3 g1 g2
   generalize grow (redrawn wA dq) osq = wC at *
   replace c0 := (bw.cell (p := ⟨c, o + j * 2, none⟩) hlw).trans c0
   replace d0 := (bw.cell (p := ⟨c', o' + j * 2, none⟩) hlw').trans d0
   have HC0 := hid c0
   have HD0 := hid d0
   have hlc : c < wC.heap.size := Nat.lt_of_lt_of_le hlw zw
   have hlc' : c' < wC.heap.size := Nat.lt_of_lt_of_le hlw' zw
   clear bw zw c1 d1
   go_wp2_with fail
   go_loopw [6] (fun i wr2 => ∃ q : Nat, q <= m1 /\ i = .int .i64 q /\ Below wC.heap.size wC wr2) (fun i _ => m1 - (intOf i).toNat)
   case atStart => exact ⟨0, Nat.zero_le _, rfl, Below.refl _ _⟩
   case round =>
    obtain ⟨q, hq, rfl, hb⟩ := hrel
    have HB2 := hid (tb HBw hb)
    have HB3 := hid hb
    have e0 := (hb.cell (p := ⟨c, o + j * 2, none⟩) hlc).trans HC0.out
    have f0 := (hb.cell (p := ⟨c', o' + j * 2, none⟩) hlc').trans HD0.out
    clear hb c0 d0
    by_cases hlt2 : q < m1
    ·have hlt2' : (q : Int) < (m1 : Int) := by omega
     obtain ⟨s, hs⟩ : ∃ s, steps[q]? = some s := ⟨_, List.getElem?_eq_getElem (by rw [Hm1.out]; exact hlt2)⟩
     obtain ⟨cb, ob, rfl, hcbl, hss⟩ := hst2.out (by rw [Hm1.out]; omega)
     obtain ⟨cb', ob', rfl, hcbl', hss'⟩ := hst2'.out (by rw [Hm1.out]; omega)
     obtain ⟨B1, bc1, s0, hsv⟩ := sss_at hss hs
     obtain ⟨B2, bc2, s0', hsv'⟩ := sss_at hss' hs
     obtain ⟨htk, htl⟩ := cntSS_take hs
     obtain ⟨-, hsm2⟩ := smSS_mem hsm1.out hs
     have hcss := hcs.out
     replace s0 := (HB2.out.cell (p := ⟨cb, ob + q, none⟩) hcbl).trans s0
     replace s0' := (HB2.out.cell (p := ⟨cb', ob' + q, none⟩) hcbl').trans s0'
     have n0 := cell_regrown e0
     have n1 := cell_regrown f0
     have n2 := cell_regrown s0
     have n3 := cell_regrown s0'
     have cQ : ∀ d os, Calls Tryz.prog 19 #[.slice B1 s.length bc1, .slice B2 s.length bc2] (grow (redrawn wr d) os) fun e w'' => e = .returned (.bool true) /\ ∃ p : Regrown, w'' = grow (redrawn wr p.d) p.os := fun d os =>
      Calls.regrown_of (sameStep_of N IH.out s (by omega) (by omega) hsm2 B1 B2 bc1 bc2 X Y _ (hsv.on (HB2.out.trans ((below_regrown wr d os).mono HB2.out.size))) (hsv'.on (HB2.out.trans ((below_regrown wr d os).mono HB2.out.size))))
     clear hs hss hss' hsv hsv' htk htl hsm2 hcss
     go_wp2_with fail
     refine wp_region_quiet_below (by kernel_rfl) (by kernel_rfl) ?_
     repeat (quiet_step (exact cQ _ _))
     refine wpQuiet_nil ?_
     intro _ hw'
     obtain ⟨⟨dq, osq⟩, hw''⟩ := hw'
     subst hw''
     have HB4 := hid (HB3.out.trans ((below_regrown wr dq osq).mono HB3.out.size))
     clear n0 n1 n2 n3 cQ
     generalize grow (redrawn wr dq) osq = wD at *
     go_wp2_with fail
     go_roundw
     case rel => exact ⟨q + 1, by omega, by go_num, HB4.out⟩
     case measure => simp [intOf]; omega
    ·obtain rfl : q = m1 := by omega
     clear hlt2
     go_wp2_with fail
     go_roundw
     case rel => exact ⟨j + 1, by omega, by go_num, HB2.out⟩
     case measure => simp [intOf]; omega
  ·obtain rfl : j = m := by omega
   go_wp2_with fail
   go_ret
   exact ⟨rfl, HB.out⟩
theorem same_all : ∀ N, N <= 1000000 -> ∀ l, cntL l <= N -> SmL l -> SameL l
 | 0, _, l, h, hs => samePaths_of 0 (fun l h hs => absurd h (Nat.not_lt_zero _)) l h (by omega) hs
 | N + 1, hN, l, h, hs => samePaths_of (N + 1) (fun l h hs => same_all N (by omega) l (by omega) hs) l h (by omega) hs
end sel
end Go.Proofs.YtaobpkffcolobaaGreatDoor
