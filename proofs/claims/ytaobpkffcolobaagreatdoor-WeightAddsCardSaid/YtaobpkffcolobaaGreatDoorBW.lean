/- Contracts and plain law, a bundle. -/
import Derived.Lib.Hide
import Derived.Test.YtaobpkffcolobaaGreatDoorBF
import Derived.Test.YtaobpkffcolobaaGreatDoorBG3
import Derived.Test.YtaobpkffcolobaaGreatDoorBO
import Derived.Test.YtaobpkffcolobaaGreatDoorBN
set_option linter.unusedVariables false
set_option maxRecDepth 100000
set_option maxHeartbeats 16000000
open Go.Lib (hid)
namespace Go.Proofs.YtaobpkffcolobaaGreatDoor
namespace sel
open Go.RowKit base tok rul
mutual
def wtT : Ts -> Int
 | .mk k _ _ _ _ _ subs => if k = 1 then 0 else if k = 2 then 1 else if k = 3 then 1000000 else if k = 10 ∨ k = 11 then wtL subs else 1000
def wtS : List Ts -> Int
 | [] => 0
 | t :: l => wtT t + wtS l
def wtSS : List (List Ts) -> Int
 | [] => 0
 | s :: l => wtS s + wtSS l
def wtP : Pa -> Int
 | .mk steps _ => wtSS steps
def wtL : List Pa -> Int
 | [] => 0
 | p :: l => max (wtP p) (wtL l)
end
mutual
theorem wt_T : ∀ t : Ts, 0 <= wtT t /\ wtT t <= 1000000 * (cntT t : Int)
 | .mk k n op v a b subs => by
  have := wt_L subs
  rw [wtT, cntT]
  split
  ·omega
  split
  ·omega
  split
  ·omega
  split <;> omega
theorem wt_S : ∀ l : List Ts, 0 <= wtS l /\ wtS l <= 1000000 * (cntS l : Int)
 | [] => by rw [wtS, cntS]; omega
 | t :: l => by
  have h1 := wt_T t
  have h2 := wt_S l
  rw [wtS, cntS]
  omega
theorem wt_SS : ∀ l : List (List Ts), 0 <= wtSS l /\ wtSS l <= 1000000 * (cntSS l : Int)
 | [] => by rw [wtSS, cntSS]; omega
 | s :: l => by
  have h1 := wt_S s
  have h2 := wt_SS l
  rw [wtSS, cntSS]
  omega
theorem wt_P : ∀ p : Pa, 0 <= wtP p /\ wtP p <= 1000000 * (cntP p : Int)
 | .mk steps joins => by
  have h1 := wt_SS steps
  rw [wtP, cntP]
  exact h1
theorem wt_L : ∀ l : List Pa, 0 <= wtL l /\ wtL l <= 1000000 * (cntL l : Int)
 | [] => by rw [wtL, cntL]; omega
 | p :: l => by
  have h1 := wt_P p
  have h2 := wt_L l
  rw [wtL, cntL]
  omega
end
theorem wtL_take {l : List Pa} {i : Nat} {p : Pa} (h : l[i]? = some p) : wtL (l.take (i + 1)) = max (wtL (l.take i)) (wtP p) := by
 induction l generalizing i with
 | nil => cases h
 | cons x l ih =>
  cases i with
  | zero =>
   obtain rfl := Option.some.inj h
   have := wt_P x
   simp only [List.take_succ_cons, List.take_zero, wtL]
   omega
  | succ i =>
   rw [List.take_succ_cons, List.take_succ_cons, wtL, wtL, ih (i := i) h]
   omega
theorem wtSS_take {l : List (List Ts)} {i : Nat} {s : List Ts} (h : l[i]? = some s) : wtSS (l.take (i + 1)) = wtSS (l.take i) + wtS s := by
 induction l generalizing i with
 | nil => cases h
 | cons x l ih =>
  cases i with
  | zero =>
   obtain rfl := Option.some.inj h
   simp only [List.take_succ_cons, List.take_zero, wtSS]
   omega
  | succ i =>
   rw [List.take_succ_cons, List.take_succ_cons, wtSS, wtSS, ih (i := i) h]
   omega
theorem wtS_take {l : List Ts} {i : Nat} {t : Ts} (h : l[i]? = some t) : wtS (l.take (i + 1)) = wtS (l.take i) + wtT t := by
 induction l generalizing i with
 | nil => cases h
 | cons x l ih =>
  cases i with
  | zero =>
   obtain rfl := Option.some.inj h
   simp only [List.take_succ_cons, List.take_zero, wtS]
   omega
  | succ i =>
   rw [List.take_succ_cons, List.take_succ_cons, wtS, wtS, ih (i := i) h]
   omega
theorem wtS_app (a b : List Ts) : wtS (a ++ b) = wtS a + wtS b := by
 induction a with
 | nil => rw [List.nil_append, wtS]; omega
 | cons t a ih => rw [List.cons_append, wtS, wtS, ih]; omega
theorem wtSS_app (a b : List (List Ts)) : wtSS (a ++ b) = wtSS a + wtSS b := by
 induction a with
 | nil => rw [List.nil_append, wtSS]; omega
 | cons t a ih => rw [List.cons_append, wtSS, wtSS, ih]; omega
def HeavyC (l : List Pa) : Prop := ∀ (A : Option Addr) (cap : Nat) (X : Nat -> Prop) (w : World), PasV X w l A cap ->
 Calls Tryz.prog 25 #[.slice A l.length cap] w (rt w (.int .i64 (wtL l)))
theorem wtest_ct (k : Int) (n : ByteArray) (op : Int) (v : ByteArray) (a b : Int) (subs : List Pa) (A : Option Addr) (cap : Nat) (w : World) (nn : Bs) (oo : UInt8) (vv : Bs)
  (hS : ∀ W, Below w.heap.size w W -> Calls Tryz.prog 25 #[.slice A subs.length cap] W (rt W (.int .i64 (wtL subs)))) :
  Calls Tryz.prog 74 #[(aTs k n op v a b A subs.length cap)] w (rt w (.int .i64 (wtT (.mk k nn oo vv a b subs)))) := by
 rw [wtT]
 have hk : k = 1 ∨ k = 2 ∨ k = 3 ∨ (k = 10 ∨ k = 11) ∨ (k ≠ 1 /\ k ≠ 2 /\ k ≠ 3 /\ k ≠ 10 /\ k ≠ 11) := by omega
 have HB0 := hid ((Below.refl w.heap.size w).alloc (Nat.le_refl _) (oTs k n op v a b A subs.length cap))
 have cS := hid hS
 clear hS
 rcases hk with rfl | rfl | rfl | (rfl | rfl) | ⟨h1, h2, h3, h4, h5⟩
 ·rw [if_pos rfl]
  go_enter Tryz.func74, Tryz.ntmps74
  go_wp2_with fail
  go_ret
  exact ⟨rfl, HB0.out⟩
 ·rw [if_neg (by decide), if_pos rfl]
  go_enter Tryz.func74, Tryz.ntmps74
  go_wp2_with fail
  go_ret
  exact ⟨rfl, HB0.out⟩
 ·rw [if_neg (by decide), if_neg (by decide), if_pos rfl]
  go_enter Tryz.func74, Tryz.ntmps74
  go_wp2_with fail
  go_ret
  exact ⟨rfl, HB0.out⟩
 ·rw [if_neg (by decide), if_neg (by decide), if_neg (by decide), if_pos (by decide)]
  go_enter Tryz.func74, Tryz.ntmps74
  go_wp2_with (go_at_call 25; (with_reducible refine (cS.out _ HB0.out).mono ?_); rintro e W1 ⟨rfl, hb1⟩; have HB1 := hid (HB0.out.trans (hb1.mono HB0.out.size)); clear hb1)
  go_ret
  exact ⟨rfl, HB1.out⟩
 ·rw [if_neg (by decide), if_neg (by decide), if_neg (by decide), if_pos (by decide)]
  go_enter Tryz.func74, Tryz.ntmps74
  go_wp2_with (go_at_call 25; (with_reducible refine (cS.out _ HB0.out).mono ?_); rintro e W1 ⟨rfl, hb1⟩; have HB1 := hid (HB0.out.trans (hb1.mono HB0.out.size)); clear hb1)
  go_ret
  exact ⟨rfl, HB1.out⟩
 ·rw [if_neg h1, if_neg h2, if_neg h3, if_neg (by omega)]
  have e1 : (k == 1) = false := by rw [beq_eq_false_iff_ne]; exact h1
  have e2 : (k == 2) = false := by rw [beq_eq_false_iff_ne]; exact h2
  have e3 : (k == 3) = false := by rw [beq_eq_false_iff_ne]; exact h3
  have e4 : (k == 10) = false := by rw [beq_eq_false_iff_ne]; exact h4
  have e5 : (k == 11) = false := by rw [beq_eq_false_iff_ne]; exact h5
  go_enter Tryz.func74, Tryz.ntmps74
  go_wp2_with fail
  go_ret
  exact ⟨rfl, HB0.out⟩
theorem wpath_ct (N : Nat) (IH : ∀ l, cntL l < N -> SmL l -> HeavyC l) (hN : N <= 1000000) (steps : List (List Ts)) (hc : cntSS steps <= N) (hsm : SmSS steps) (A1 : Option Addr) (cap1 : Nat) (V : Value) (X : Nat -> Prop) (w : World) (hcap : steps.length <= cap1)
  (hst : 0 < steps.length -> ∃ c o, A1 = some ⟨c, o, none⟩ /\ c < w.heap.size /\ SssAt X w c o steps) :
  Calls Tryz.prog 44 #[.agg #[.slice A1 steps.length cap1, V]] w (rt w (.int .i64 (wtSS steps))) := by
 have hls := len_SS steps hsm
 have hwt := wt_SS steps
 obtain ⟨m1, hm1⟩ : ∃ m, steps.length = m := ⟨_, rfl⟩
 rw [hm1] at hcap hls hst ⊢
 have Hm1 := hid hm1
 have hle : m1 <= 1000000 := by omega
 have HC := hid hc
 have HN := hid hN
 have HSM := hid hsm
 replace hst := hid hst
 replace IH := hid IH
 have HB0 := hid ((Below.refl w.heap.size w).alloc (Nat.le_refl _) (.cells #[.slice A1 m1 cap1, V] 36))
 clear hm1 hc hN hsm hls hwt
 go_enter Tryz.func44, Tryz.ntmps44
 go_wp2_with fail
 go_loopw [3, 11] (fun n i wr => ∃ q : Nat, ∃ W : Int, q <= m1 /\ i = .int .i64 q /\ n = .int .i64 W /\ W = wtSS (steps.take q) /\ 0 <= W /\ W <= 1000000000000 /\ Below w.heap.size w wr) (fun _ i _ => m1 - (intOf i).toNat)
 case atStart => exact ⟨0, 0, Nat.zero_le _, rfl, rfl, by rw [List.take_zero, wtSS], by omega, by omega, HB0.out⟩
 case round =>
  obtain ⟨q, W, hq, rfl, rfl, hW, hW0, hW1, hb⟩ := hrel
  have HB2 := hid hb
  by_cases hlt : q < m1
  ·have hlt' : (q : Int) < (m1 : Int) := by omega
   obtain ⟨s, hs⟩ : ∃ s, steps[q]? = some s := ⟨_, List.getElem?_eq_getElem (by rw [Hm1.out]; exact hlt)⟩
   obtain ⟨cb, ob, rfl, hcbl, hss⟩ := hst.out (by omega)
   obtain ⟨A2, cap2, s0, hsv⟩ := sss_at hss hs
   obtain ⟨htk, htl⟩ := cntSS_take hs
   have hwk := wtSS_take hs
   obtain ⟨-, hsm2'⟩ := smSS_mem HSM.out hs
   have hlS := len_S s
   have hbd := wt_SS (steps.take (q + 1))
   have hbs := wt_S s
   replace s0 := (hb.cell (p := ⟨cb, ob + q, none⟩) hcbl).trans s0
   have hc2 := hsv.1
   have hC := HC.out
   have hN := HN.out
   have HCS := hid (show cntS s <= N by omega)
   have hnext : W + wtS s <= 1000000000000 := by rw [hW]; omega
   have HWK := hid (show wtSS (steps.take (q + 1)) = W + wtS s by rw [hW]; exact hwk)
   obtain ⟨m2, hm2⟩ : ∃ m, s.length = m := ⟨_, rfl⟩
   have hsv' := hsv.2
   rw [hm2] at hc2 s0 hsv' hlS
   have hm29 : m2 <= 1000000 := by omega
   have hsvv := hid hsv'
   have Hm2 := hid hm2
   have HNX := hid hnext
   have HSM2 := hid hsm2'
   clear hb hs hss htk htl hm2 hsv hsv' hwk hsm2' hlS hbd hbs hC hN hnext hW
   go_wp2_with fail
   go_loopw [3, 17] (fun n i wr2 => ∃ r : Nat, ∃ W2 : Int, r <= m2 /\ i = .int .i64 r /\ n = .int .i64 W2 /\ W2 = W + wtS (s.take r) /\ 0 <= W2 /\ W2 <= 1000000000000 /\ Below w.heap.size w wr2) (fun _ i _ => m2 - (intOf i).toNat)
   case atStart => exact ⟨0, W, Nat.zero_le _, rfl, rfl, by rw [List.take_zero, wtS]; omega, hW0, hW1, HB2.out⟩
   case round =>
    obtain ⟨r, W2, hr, rfl, rfl, hW2, hW20, hW21, hb⟩ := hrel
    have HB3 := hid hb
    have hzr := hb.size
    by_cases hlt2 : r < m2
    ·have hlt2' : (r : Int) < (m2 : Int) := by omega
     obtain ⟨t, ht⟩ : ∃ t, s[r]? = some t := ⟨_, List.getElem?_eq_getElem (by rw [Hm2.out]; exact hlt2)⟩
     obtain ⟨cc, oc, rfl, -, hccl, hst3⟩ := hsvv.out (by omega)
     obtain ⟨xs, hxl, hxc, hta⟩ := ss_at hst3 ht
     have hwk := wtS_take ht
     have hwt := wt_T t
     have hle2 := wt_S s
     have hcs3 := cntS_sub s
     have hsm3 := smS_mem HSM2.out ht
     obtain ⟨T, hT⟩ : ∃ T, wtT t = T := ⟨_, rfl⟩
     rw [hT] at hwk hwt
     have hrest : wtS (s.take (r + 1)) <= wtS s := by
      have h1 := wtS_app (s.take (r + 1)) (s.drop (r + 1))
      rw [List.take_append_drop] at h1
      have h2 := (wt_S (s.drop (r + 1))).1
      omega
     obtain ⟨k, nn, op, vv, a, b, subs⟩ := t
     obtain ⟨htk, htl⟩ := subS_take ht
     obtain ⟨sA, sc, rfl, hpv⟩ := ts_form hta
     rw [SmT] at hsm3
     have t0 := (hb.cell (p := ⟨cc, oc + r * 7, none⟩) hccl).trans (hxc 0 (by decide))
     have t1 := (hb.cell (p := ⟨cc, oc + r * 7 + 1, none⟩) hccl).trans (hxc 1 (by decide))
     have t2 := (hb.cell (p := ⟨cc, oc + r * 7 + 2, none⟩) hccl).trans (hxc 2 (by decide))
     have t3 := (hb.cell (p := ⟨cc, oc + r * 7 + 3, none⟩) hccl).trans (hxc 3 (by decide))
     have t4 := (hb.cell (p := ⟨cc, oc + r * 7 + 4, none⟩) hccl).trans (hxc 4 (by decide))
     have t5 := (hb.cell (p := ⟨cc, oc + r * 7 + 5, none⟩) hccl).trans (hxc 5 (by decide))
     have t6 := (hb.cell (p := ⟨cc, oc + r * 7 + 6, none⟩) hccl).trans (hxc 6 (by decide))
     dsimp only [List.getElem?_cons_zero, List.getElem?_cons_succ] at t0 t1 t2 t3 t4 t5 t6
     have hCS := HCS.out
     have hsub : cntL subs < N := by rw [Hm2.out] at hcs3; omega
     have hIH := IH.out subs hsub hsm3.2.2.2.2.2.2
     unfold HeavyC at hIH
     have cT : ∀ (W : World) (hW : Below w.heap.size w W), Calls Tryz.prog 74 #[(aTs k (bs nn) (nv op) (bs vv) a b sA subs.length sc)] W (rt W (.int .i64 T)) := fun W hW => by
      have h := wtest_ct k (bs nn) (nv op) (bs vv) a b subs sA sc W nn op vv (fun W' hW' => hIH sA sc X W' (hpv.on (hW.trans (hW'.mono hW.size))))
      rw [hT] at h
      exact h
     replace cT := hid cT
     have HBa := hid (HB3.out.alloc hzr (oTs k (bs nn) (nv op) (bs vv) a b sA subs.length sc))
     have hnx := HNX.out
     have hsum : W2 + T <= 1000000000000 /\ 0 <= W2 + T := by omega
     have HW2 := hid (show W2 + T = W + wtS (s.take (r + 1)) by omega)
     clear hb ht hst3 hxc hxl hta hpv hT htk htl hcs3 hsm3 hIH hsub hCS hwk hle2 hrest hnx hW2
     go_wp2_with (go_at_call 74; (with_reducible refine (cT.out _ HBa.out).mono ?_); rintro e W4 ⟨rfl, hb4⟩; have HB4 := hid (HBa.out.trans (hb4.mono HBa.out.size)); clear hb4)
     go_roundw
     case rel => exact ⟨r + 1, W2 + T, by omega, by go_num, by go_num, HW2.out, hsum.2, hsum.1, HB4.out⟩
     case measure => simp [intOf]; omega
    ·obtain rfl : r = m2 := by omega
     rw [List.take_of_length_le (by rw [Hm2.out]; exact Nat.le_refl _)] at hW2
     clear hlt2 hb
     go_wp2_with fail
     go_roundw
     case rel => exact ⟨q + 1, W2, by omega, by go_num, rfl, by rw [HWK.out, hW2], hW20, hW21, HB3.out⟩
     case measure => simp [intOf]; omega
  ·obtain rfl : q = m1 := by omega
   rw [List.take_of_length_le (by rw [Hm1.out]; exact Nat.le_refl _)] at hW
   subst hW
   clear hlt hb
   go_wp2_with fail
   go_ret
   exact ⟨rfl, HB2.out⟩
theorem heavy_step (N : Nat) (IH : ∀ l, cntL l < N -> SmL l -> HeavyC l) (hN : N <= 1000000) (l : List Pa) (hc : cntL l <= N) (hsm : SmL l) : HeavyC l := by
 intro A cap X w hv
 have hll := len_L l hsm
 obtain ⟨m, hm⟩ : ∃ m, l.length = m := ⟨_, rfl⟩
 rw [hm] at hll ⊢
 have hcap : m <= cap := hm ▸ hv.1
 have hml : m <= 1000000 := by omega
 have Hm := hid hm
 have HC := hid hc
 have HN := hid hN
 have HSM := hid hsm
 replace hv := hid hv
 replace IH := hid IH
 clear hm hc hN hsm hll
 go_enter Tryz.func25, Tryz.ntmps25
 go_wp2_with fail
 go_loopw [3, 8] (fun n i wr => ∃ j : Nat, ∃ W : Int, j <= m /\ i = .int .i64 j /\ n = .int .i64 W /\ W = wtL (l.take j) /\ 0 <= W /\ W <= 1000000000000 /\ Below w.heap.size w wr) (fun _ i _ => m - (intOf i).toNat)
 case atStart => exact ⟨0, 0, Nat.zero_le _, rfl, rfl, by rw [List.take_zero, wtL], by omega, by omega, Below.refl _ _⟩
 case round =>
  obtain ⟨j, W, hj, rfl, rfl, hW, hW0, hW1, hb⟩ := hrel
  have HB := hid hb
  have hzr := hb.size
  by_cases hlt : j < m
  ·have hlt' : (j : Int) < (m : Int) := by omega
   obtain ⟨p, hp⟩ : ∃ p, l[j]? = some p := ⟨_, List.getElem?_eq_getElem (by rw [Hm.out]; exact hlt)⟩
   obtain ⟨c, o, rfl, -, hcl, hpa⟩ := hv.out.2 (by rw [Hm.out]; omega)
   obtain ⟨x0, x1, c0, c1, hp2⟩ := pas_at hpa hp
   have hwk := wtL_take hp
   obtain ⟨steps, joins⟩ := p
   obtain ⟨A1, cap1, J1, jc1, rfl, rfl, hc1, hjc1, hst, hjs⟩ := pa_open hp2
   obtain ⟨htk, htl⟩ := cntL_take hp
   obtain ⟨-, -, hsm1⟩ := smL_mem HSM.out hp
   have hwp := wt_SS steps
   rw [wtP] at hwk
   replace c0 := (hb.cell (p := ⟨c, o + j * 2, none⟩) hcl).trans c0
   replace c1 := (hb.cell (p := ⟨c, o + j * 2 + 1, none⟩) hcl).trans c1
   have hC := HC.out
   have hN := HN.out
   obtain ⟨T, hT⟩ : ∃ T, wtSS steps = T := ⟨_, rfl⟩
   have hcs : cntSS steps <= N := by omega
   have cT : ∀ (W : World) (hW : Below w.heap.size w W), Calls Tryz.prog 44 #[.agg #[.slice A1 steps.length cap1, .slice J1 joins.length jc1]] W (rt W (.int .i64 T)) := fun W hW => by
    have h := wpath_ct N IH.out HN.out steps hcs hsm1 A1 cap1 (.slice J1 joins.length jc1) X W hc1 (fun h0 => by
     obtain ⟨cb, ob, e, hlt, hss⟩ := hst h0
     exact ⟨cb, ob, e, Nat.lt_of_lt_of_le hlt hW.size, SssAt.keep hW.size (fun c hc hl => ⟨hc, hW.block c hl⟩) cb (hW.block cb hlt) steps ob hss⟩)
    rw [hT] at h
    exact h
   replace cT := hid cT
   have HBa := hid (HB.out.alloc hzr (.cells #[.slice A1 steps.length cap1, .slice J1 joins.length jc1] 36))
   rw [hT] at hwk hwp
   have HW2 := hid (show max W T = wtL (l.take (j + 1)) by rw [hwk, hW])
   have hbd : 0 <= max W T /\ max W T <= 1000000000000 := by omega
   have HBD := hid hbd
   clear hb hp hp2 hpa hT htk htl hsm1 hwp hC hN hcs hwk hW hst hjs hbd
   go_wp2_with (go_at_call 44; (with_reducible refine (cT.out _ HBa.out).mono ?_); rintro e W4 ⟨rfl, hb4⟩; have HB4 := hid (HBa.out.trans (hb4.mono HBa.out.size)); clear hb4)
   go_roundw
   case rel => exact ⟨j + 1, max W T, by omega, by go_num, rfl, HW2.out, HBD.out.1, HBD.out.2, HB4.out⟩
   case measure => simp [intOf]; omega
  ·obtain rfl : j = m := by omega
   rw [List.take_of_length_le (by rw [Hm.out]; exact Nat.le_refl _)] at hW
   subst hW
   clear hlt hb
   go_wp2_with fail
   go_ret
   exact ⟨rfl, HB.out⟩
theorem heavy_all : ∀ N, N <= 1000000 -> ∀ l, cntL l <= N -> SmL l -> HeavyC l
 | 0, hN, l, h, hs => heavy_step 0 (fun l h => absurd h (Nat.not_lt_zero _)) hN l h hs
 | N + 1, hN, l, h, hs => heavy_step (N + 1) (fun l h hs => heavy_all N (by omega) l (by omega) hs) hN l h hs
end sel
namespace sel
open Go.RowKit base tok dim rul
def ofW : Option (List Pa) -> Int
 | none => 0
 | some l => wtL l
def ofE (s : Bs) : Option (List Pa) -> Int
 | none => badN s
 | some _ => 0
theorem badN_ne (s : Bs) : badN s ≠ 0 := by
 unfold badN
 split <;> decide
theorem of_ct (s : Bs) (d : Nat) (hd : 2404 <= d) (w : World) (hE : SEnv w) :
  Calls Tryz.prog 14 #[.string (bs s)] w (rt w (.tuple #[.int .i64 (ofW (readS d s)), .int .i64 (ofE s (readS d s))])) := by
 have cR0 := sread_any s d hd
 have hsm : ∀ l, readS d s = some l -> SmL l /\ cntL l <= 40 := fun l h => by
  obtain ⟨-, h1, -, h2⟩ := read_small h
  exact ⟨h1, h2⟩
 have HE := hid hE
 clear hE
 cases hr : readS d s with
 | none =>
  rw [hr] at cR0
  unfold SReadC at cR0
  have hb := badN_ne s
  simp only [ofW, ofE]
  generalize badN s = x at *
  have hz : (x == 0) = false := by rw [beq_eq_false_iff_ne]; exact hb
  have hz2 : (x != 0) = true := by rw [bne, hz]; rfl
  have cR := hid cR0
  clear cR0 hb hr hsm
  go_enter Tryz.func14, Tryz.ntmps14
  go_wp2_with (go_at_call 9; (with_reducible refine (cR.out _ HE.out).mono ?_); rintro e W1 ⟨rfl, hb1⟩; have HB1 := hid hb1; clear hb1)
  exact bodyPost_ret (v := .tuple #[.int .i64 0, .int .i64 x]) (by simp [results, Tryz.results14, go_sem]) rfl ⟨rfl, HB1.out⟩
 | some l =>
  rw [hr] at cR0
  unfold SReadC at cR0
  obtain ⟨h1, h2⟩ := hsm l hr
  have cH0 := heavy_all 40 (by omega) l h2 h1
  unfold HeavyC at cH0
  simp only [ofW, ofE]
  generalize wtL l = x at *
  have cH := hid cH0
  have cR := hid cR0
  clear cR0 cH0 h1 h2 hr hsm
  go_enter Tryz.func14, Tryz.ntmps14
  go_wp2_with (first
   | (go_at_call 9; (with_reducible refine (cR.out _ HE.out).mono ?_); rintro e W1 ⟨⟨A, cap, rfl, hv⟩, hb1⟩; have HB1 := hid hb1; have V1 := hid hv; clear hb1 hv)
   | (go_at_call 25; (with_reducible refine (cH.out _ _ _ _ V1.out).mono ?_); rintro e W2 ⟨rfl, hb2⟩; have HB2 := hid (HB1.out.trans (hb2.mono HB1.out.size)); clear hb2))
  exact bodyPost_ret (v := .tuple #[.int .i64 x, .int .i64 0]) (by simp [results, Tryz.results14, go_sem]) rfl ⟨rfl, HB2.out⟩
theorem plain_ct (s : Bs) (d : Nat) (hd : 2404 <= d) (l : List Pa) (hr : readS d s = some l) (w : World) (hE : SEnv w) (hT : PowAt w) :
  Calls Tryz.prog 15 #[.string (bs s)] w (rt w (.tuple #[.string (bs (textT l)), .bool (decide (textN l = 0))])) := by
 have cR0 := sread_any s d hd
 rw [hr] at cR0
 unfold SReadC at cR0
 obtain ⟨-, -, hsz, -⟩ := read_small hr
 have cT0 := fun A cap X w hM hP hv => text_any l (by omega) A cap X w hM hP hv
 have HE := hid hE
 have HT := hid hT
 have hb : (textN l == 0) = decide (textN l = 0) := rfl
 obtain ⟨x, hx⟩ : ∃ x, textN l = x := ⟨_, rfl⟩
 obtain ⟨t, ht⟩ : ∃ t, textT l = t := ⟨_, rfl⟩
 rw [hx, ht] at cT0
 rw [hx, ht]
 have cR := hid cR0
 have cT := hid cT0
 clear cR0 cT0 hr hE hT hsz hb hx ht
 go_enter Tryz.func15, Tryz.ntmps15
 go_wp2_with (first
  | (go_at_call 9; (with_reducible refine (cR.out _ HE.out).mono ?_); rintro e W1 ⟨⟨A, cap, rfl, hv⟩, hb1⟩; have HB1 := hid hb1; have V1 := hid hv; clear hb1 hv)
  | (go_at_call 12; (with_reducible refine (cT.out _ _ _ _ (HE.out.on HB1.out).max (HT.out.on HB1.out) V1.out).mono ?_); rintro e W2 ⟨rfl, hb2⟩; have HB2 := hid (HB1.out.trans (hb2.mono HB1.out.size)); clear hb2))
 exact bodyPost_ret (v := .tuple #[.string (bs t), .bool (decide (x = 0))]) (by simp [results, Tryz.results15, go_sem] <;> rfl) rfl ⟨rfl, HB2.out⟩
theorem of_told {T : List Pa} (h0 : T ≠ []) (h : okL T = true) : ∃ c i : Int, (∀ w, SEnv w -> Calls Tryz.prog 14 #[.string (bs (listTx T))] w (rt w (.tuple #[.int .i64 c, .int .i64 i]))) /\ ((i = 0 /\ c = wtL T) ∨ i ≠ 0) := by
 obtain ⟨d0, hd0⟩ := told_read h0 h
 refine ⟨_, _, fun w hE => of_ct (listTx T) (max d0 2404) (by omega) w hE, ?_⟩
 have hr := hd0 (max d0 2404) (by omega)
 by_cases h4 : 400 < (listTx T).length
 ·right
  have : readS (max d0 2404) (listTx T) = none := by unfold readS; rw [if_pos h4]
  rw [this]
  exact badN_ne _
 ·by_cases hc : checkB T = true
  ·left
   have : readS (max d0 2404) (listTx T) = some T := by
    unfold readS
    rw [if_neg h4, hr]
    simp only
    rw [if_pos hc]
   rw [this]
   exact ⟨rfl, rfl⟩
  ·right
   have : readS (max d0 2404) (listTx T) = none := by
    unfold readS
    rw [if_neg h4, hr]
    simp only
    rw [if_neg hc]
   rw [this]
   exact badN_ne _
theorem sss_app (s2 : List Ts) (l2 : List (List Ts)) (j : UInt8) (j2 : Bs) : ∀ (l1 : List (List Ts)) (j1 : Bs), j1.length = l1.length -> sssTx (l1 ++ s2 :: l2) (j1 ++ j :: j2) = sssTx l1 j1 ++ (sepTx j ++ ssTx s2 ++ sssTx l2 j2)
 | [], [], _ => by
  rw [List.nil_append, List.nil_append, sssTx]
  simp only [sssTx, List.nil_append]
 | [], _ :: _, h => by cases h
 | _ :: _, [], h => by cases h
 | s :: l1, i :: j1, h => by
  rw [List.cons_append, List.cons_append, sssTx, sss_app s2 l2 j j2 l1 j1 (by simpa using h), sssTx]
  simp only [List.append_assoc]
def joinPa (j : UInt8) : Pa -> Pa -> Pa
 | .mk s1 j1, .mk s2 j2 => .mk (s1 ++ s2) (j1 ++ j :: j2)
theorem join_text {p q : Pa} (j : UInt8) (hp : okP p = true) (hq : okP q = true) : paTx (joinPa j p q) = paTx p ++ (sepTx j ++ paTx q) := by
 obtain ⟨s1, j1⟩ := p
 obtain ⟨s2, j2⟩ := q
 rw [okP] at hp hq
 have h1 := (and_t (and_t hp).1).1
 have h2 := (and_t (and_t hq).1).1
 cases s1 with
 | nil => cases (and_t h1).1
 | cons a l1 =>
  cases s2 with
  | nil => cases (and_t h2).1
  | cons b l2 =>
   have hl := of_decide_eq_true (and_t h1).2
   rw [joinPa, List.cons_append, paTx, sss_app b l2 j j2 l1 j1 (by simpa using hl), paTx, paTx]
   simp only [List.append_assoc]
theorem okSS_app : ∀ (a b : List (List Ts)), okSS a = true -> okSS b = true -> okSS (a ++ b) = true
 | [], b, _, h => h
 | s :: a, b, h, hb => by
  rw [okSS] at h
  rw [List.cons_append, okSS, (and_t h).1, okSS_app a b (and_t h).2 hb]
  rfl
theorem join_ok {p q : Pa} {j : UInt8} (hj : joinOk j = true) (hp : okP p = true) (hq : okP q = true) : okP (joinPa j p q) = true := by
 obtain ⟨s1, j1⟩ := p
 obtain ⟨s2, j2⟩ := q
 rw [okP] at hp hq
 obtain ⟨a1, a2⟩ := and_t hp
 obtain ⟨a3, a4⟩ := and_t a1
 obtain ⟨a5, a6⟩ := and_t a3
 obtain ⟨b1, b2⟩ := and_t hq
 obtain ⟨b3, b4⟩ := and_t b1
 obtain ⟨b5, b6⟩ := and_t b3
 have n1 := of_decide_eq_true a6
 have n2 := of_decide_eq_true b6
 rw [joinPa]
 refine okP_yes ?_ ?_ (okSS_app s1 s2 a4 b4) ?_
 ·rw [List.length_append]; omega
 ·simp only [List.length_append, List.length_cons]; omega
 ·rw [List.all_append, List.all_cons, a2, hj, b2]; rfl
theorem join_wt (j : UInt8) (p q : Pa) : wtP (joinPa j p q) = wtP p + wtP q := by
 obtain ⟨s1, j1⟩ := p
 obtain ⟨s2, j2⟩ := q
 rw [joinPa, wtP, wtP, wtP, wtSS_app]
theorem wt_one (p : Pa) : wtL [p] = wtP p := by
 have := (wt_P p).1
 rw [wtL, wtL]
 omega
def nestPa (k : Int) (l : List Pa) : Pa := .mk [[.mk k [] 0 [] 0 0 l]] []
theorem nest_ok {k : Int} (hk : k = 10 ∨ k = 11) {l : List Pa} (h0 : l ≠ []) (h : okL l = true) : okL [nestPa k l] = true := by
 cases l with
 | nil => exact absurd rfl h0
 | cons p l =>
  rw [okL] at h
  rcases hk with rfl | rfl <;> (rw [okL, okL, nestPa, okP, okSS, okSS, okS, okS, okT.eq_def]; simp only [h]; rfl)
theorem nest_wt {k : Int} (hk : k = 10 ∨ k = 11) (l : List Pa) : wtL [nestPa k l] = wtL l := by
 rw [wt_one, nestPa, wtP, wtSS, wtSS, wtS, wtS, wtT]
 rcases hk with rfl | rfl <;> (rw [if_neg (by decide), if_neg (by decide), if_neg (by decide), if_pos (by decide)]; omega)
theorem nest_text (k : Int) (l : List Pa) : listTx [nestPa k l] = testTx k [] 0 [] 0 0 (listTx l) := by
 rw [list_one, nestPa, paTx, sssTx, ssTx, ssTx, tsTx, List.append_nil, List.append_nil]
 rfl
end sel
end Go.Proofs.YtaobpkffcolobaaGreatDoor
