/- Contracts and plain law, a bundle. -/
import Derived.Lib.Hide
import Derived.Test.YtaobpkffcolobaaGreatDoorBL
import Derived.Test.YtaobpkffcolobaaGreatDoorBF2
import Derived.Test.YtaobpkffcolobaaGreatDoorBF
import Derived.Test.YtaobpkffcolobaaGreatDoorBH
set_option linter.unusedVariables false
set_option maxRecDepth 100000
set_option maxHeartbeats 16000000
open Go.Lib (hid)
namespace Go.Proofs.YtaobpkffcolobaaGreatDoor
namespace sel
open Go.RowKit base tok dim rul quo
def TestTxC (t : Ts) : Prop := ∀ (k : Int) (n : Bs) (op : UInt8) (v : Bs) (a b : Int) (subs : List Pa), t = .mk k n op v a b subs -> ∀ (A : Option Addr) (cap : Nat) (X : Nat -> Prop) (W : World), PowAt W -> PasV X W subs A cap ->
 Calls Tryz.prog 39 #[(aTs k (bs n) (nv op) (bs v) a b A subs.length cap)] W fun e W' => e = .returned (.string (bs (tsTx t))) /\ Below W.heap.size W W'
def AllTx (l : List Pa) : Prop := ∀ (i : Nat) (steps : List (List Ts)) (joins : Bs) (q : Nat) (s : List Ts) (r : Nat) (t : Ts), l[i]? = some (.mk steps joins) -> steps[q]? = some s -> s[r]? = some t -> TestTxC t
theorem ss_le : ∀ (s : List Ts) (r : Nat), (ssTx (s.take r)).length <= (ssTx s).length
 | [], r => by simp
 | t :: l, 0 => by rw [List.take_zero, ssTx]; exact Nat.zero_le _
 | t :: l, r + 1 => by
  rw [List.take_succ_cons, ssTx, ssTx, List.length_append, List.length_append]
  have := ss_le l r
  omega
theorem sss_le : ∀ (l : List (List Ts)) (js : Bs) (r : Nat), (sssTx (l.take r) js).length <= (sssTx l js).length
 | [], js, r => by simp
 | t :: l, js, 0 => by rw [List.take_zero, sssTx]; exact Nat.zero_le _
 | t :: l, [], r + 1 => by rw [List.take_succ_cons, sssTx]; exact Nat.zero_le _
 | t :: l, j :: js, r + 1 => by
  rw [List.take_succ_cons, sssTx, sssTx]
  have := sss_le l js r
  simp only [List.length_append]
  omega
theorem pa_le (steps : List (List Ts)) (joins : Bs) (k : Nat) : (paN steps joins k).length <= (paTx (.mk steps joins)).length := by
 cases steps with
 | nil => rw [paN]; simp
 | cons s l =>
  cases k with
  | zero => rw [paN_zero]; exact Nat.zero_le _
  | succ k =>
   rw [paN, List.take_succ_cons, paTx, paTx, List.length_append, List.length_append]
   have := sss_le l joins k
   omega
theorem nv_inj {a : UInt8} (h : nv a = 32) : a = 32 := UInt8.toNat_inj.1 (by unfold nv at h; have : (32 : UInt8).toNat = 32 := rfl; omega)
theorem writeBlank (B b : Nat) (l : Bs) (w : World) (h : IsB B b l w) (hlen : l.length + 1 <= 140737488355328) (hBw : B <= w.heap.size) :
  Calls Tryz.prog 36 #[(pn b), .int .u8 32] w fun e w' => e = .returned .nilIface /\ IsB B b (l ++ [32]) w' /\ Below B w w' /\ Keeps b w w' := writeByte_keep B b l 32 w h hlen hBw
theorem writeJoin (B b : Nat) (l : Bs) (k : Nat) (x : UInt8) (w : World) (hk : Blk w k 5 #[.int .u8 (nv x), .int .u8 32]) (hkb : k ≠ b) (h : IsB B b l w) (hlen : l.length + 2 <= 140737488355328) (hBw : B <= w.heap.size) :
  Calls Tryz.prog 37 #[(pn b), .slice (some ⟨k, 0, none⟩) 2 2] w fun e w' => e = .returned (.tuple #[.int .i64 2, .nilIface]) /\ IsB B b (l ++ [x, 32]) w' /\ Below B w w' /\ Keeps b w w' := writeTwo_keep B b l k 2 x 32 w hk hkb h hlen hBw
theorem row_below {w w' : World} {B base : Nat} {e : TypeId} {size n : Nat} {v : Value} {xs : List Value} (h : w.ownsRow base e size v n xs) (hb : Below B w w') (hB : ∀ g, v.ownBlock = some g -> g < B) : w'.ownsRow base e size v n xs := by
 refine ⟨h.1, ?_⟩
 rcases h.2 with h1 | ⟨g, cap, cur, rfl, h2, h3, h4⟩
 ·exact .inl h1
 ·exact .inr ⟨g, cap, cur, rfl, h2, (hb.block g (hB g rfl)).trans h3, h4⟩
theorem cal_join (ts : List Bs) (sep : Bs) : Lib.join ((ts.map bs).map (·.data.toList)) sep = Lib.join ts sep := by
 congr 1
 rw [List.map_map]
 exact (List.map_congr_left fun x _ => rfl).trans (List.map_id ts)
theorem okL_len {l : List Pa} (h : okL l = true) {i : Nat} {steps : List (List Ts)} {joins : Bs} (hi : l[i]? = some (.mk steps joins)) : steps ≠ [] /\ joins.length + 1 = steps.length := by
 induction l generalizing i with
 | nil => cases hi
 | cons x l ih =>
  rw [okL] at h
  obtain ⟨h1, h2⟩ := and_t h
  cases i with
  | zero =>
   obtain rfl := Option.some.inj hi
   rw [okP] at h1
   obtain ⟨a1, -⟩ := and_t h1
   obtain ⟨a3, -⟩ := and_t a1
   obtain ⟨a5, a6⟩ := and_t a3
   exact ⟨fun e => (by rw [e] at a5; cases a5), of_decide_eq_true a6⟩
  | succ i => exact ih h2 hi
theorem text_of (l : List Pa) (hne : l ≠ []) (hok : okL l = true) (hc : szL l <= 3000000) (hT : AllTx l) (hlen : ∀ (i : Nat) (p : Pa), l[i]? = some p -> (paTx p).length <= 100000000) (hlen2 : (listTx l).length <= 1000000000) (A : Option Addr) (cap : Nat) (X : Nat -> Prop) (w : World) (hP : PowAt w) (hv : PasV X w l A cap) :
  Calls Tryz.prog 22 #[.slice A l.length cap] w (rt w (.string (bs (listTx l)))) := by
 obtain ⟨i0, hi, hz0, hz1, hz2⟩ := info_parts infoStr
 have Hz0 := hid hz0
 have Hi := hid hi
 have Hz1 := hid hz1
 have Hz2 := hid hz2
 clear hz0 hi hz1 hz2
 have hll := szL_len l
 have hm0 := List.length_pos_iff.2 hne
 obtain ⟨m, hm⟩ : ∃ m, l.length = m := ⟨_, rfl⟩
 have hpl := pas_len l
 rw [hm] at hll hm0 hpl ⊢
 have hcap : m <= cap := hm ▸ hv.1
 have hml : m <= 3000000 := by omega
 have Hm := hid hm
 have Hpl := hid hpl
 have HP := hid hP
 replace hv := hid hv
 replace hok := hid hok
 replace hT := hid hT
 replace hlen := hid hlen
 replace hlen2 := hid hlen2
 replace hc := hid hc
 clear hm hpl hP hne hll
 go_enter Tryz.func22, Tryz.ntmps22
 go_wp2_with fail
 go_loopw [3, 14] (fun x i wr => ∃ j : Nat, j <= m /\ i = .int .i64 j /\ wr.ownsRow w.heap.size 9 1 x j (((pasTx l).take j).map (fun s => .string (bs s))) /\ Below w.heap.size w wr) (fun _ i _ => m - (intOf i).toNat)
 case atStart => exact ⟨0, Nat.zero_le _, rfl, World.ownsRow_nil _ _ _ _, Below.refl _ _⟩
 case round =>
  obtain ⟨wA, hwA⟩ : ∃ x, x = wr := ⟨wr, rfl⟩
  subst hwA
  obtain ⟨j, hj, rfl, hrow, hb⟩ := hrel
  obtain ⟨ra, rc, rfl⟩ := row_form hrow
  have HB := hid hb
  have HO := hid hrow
  by_cases hlt : j < m
  ·have hlt' : (j : Int) < (m : Int) := by omega
   obtain ⟨p, hp⟩ : ∃ p, l[j]? = some p := ⟨_, List.getElem?_eq_getElem (by rw [Hm.out]; exact hlt)⟩
   obtain ⟨c, o, rfl, -, hcl, hpa⟩ := hv.out.2 (by rw [Hm.out]; omega)
   obtain ⟨x0, x1, c0, c1, hp2⟩ := pas_at hpa hp
   have hpt := pas_get hp
   have hplen := hlen.out j p hp
   obtain ⟨steps, joins⟩ := p
   obtain ⟨A1, cap1, J1, jc1, rfl, rfl, hc1, hjc1, hst, hjs⟩ := pa_open hp2
   obtain ⟨hsne, hjl⟩ := okL_len hok.out hp
   have htl := szL_mem hp
   have hls := szSS_len steps
   have hcs := hc.out
   replace c0 := (hb.cell (p := ⟨c, o + j * 2, none⟩) hcl).trans c0
   replace c1 := (hb.cell (p := ⟨c, o + j * 2 + 1, none⟩) hcl).trans c1
   have hT1 := hid (fun q s r t h1 h2 => hT.out j steps joins q s r t hp h1 h2)
   have hst2 := hid hst
   have hjs2 := hid hjs
   have hzr := hb.size
   have hcs1 : szSS steps <= 3000000 := by omega
   obtain ⟨m1, hm1⟩ : ∃ m, steps.length = m := ⟨_, rfl⟩
   obtain ⟨mj, hmj⟩ : ∃ m, joins.length = m := ⟨_, rfl⟩
   rw [hm1] at hc1 c0 hls hjl
   rw [hmj] at hjc1 c1 hjl
   have hle1 : m1 <= 3000000 := by omega
   have Hm1 := hid hm1
   have Hmj := hid hmj
   have HPT := hid hpt
   have HPL := hid hplen
   have HCS1 := hid hcs1
   clear hb hrow hp hp2 hpa htl hm1 hmj hls hst hjs hpt hplen hcs hcs1 hsne
   have QP := (Blk.new rfl : Blk (wA.alloc (.cells #[.slice A1 m1 cap1, .slice J1 mj jc1] 36)) wA.heap.size 36 #[.slice A1 m1 cap1, .slice J1 mj jc1])
   have IB := hid (IsB.new (wA.alloc (.cells #[.slice A1 m1 cap1, .slice J1 mj jc1] 36)) (wA.heap.size + 1) (by rw [World.size_alloc]; exact Nat.le_refl _))
   rw [World.size_alloc] at IB
   obtain ⟨W0, hW0⟩ : ∃ W, W = (wA.alloc (.cells #[.slice A1 m1 cap1, .slice J1 mj jc1] 36)).alloc (.cells #[.pointer none, .slice none 0 0] 83) := ⟨_, rfl⟩
   have QP0 := hid (show Blk W0 wA.heap.size 36 #[.slice A1 m1 cap1, .slice J1 mj jc1] from by rw [hW0]; exact QP.alloc _)
   have IB0 := hid (show IsB (wA.heap.size + 1) (wA.heap.size + 1) [] W0 from by rw [hW0]; exact IB.out)
   have HBW0 := hid (show Below w.heap.size w W0 from by rw [hW0]; exact (HB.out.alloc hzr _).alloc (by rw [World.size_alloc]; omega) _)
   have HO0 := hid (show W0.ownsRow w.heap.size 9 1 (.slice ra j rc) j (((pasTx l).take j).map (fun s => .string (bs s))) from by rw [hW0]; exact (HO.out.alloc _).alloc _)
   have hzW0 : W0.heap.size = wA.heap.size + 2 := by rw [hW0]; simp
   have hown := (HO.out.lt)
   have HW0 := hid hW0
   clear QP IB hW0
   go_wp2_with fail
   go_loopw [21] (fun i wr2 => ∃ q : Nat, q <= m1 /\ i = .int .i64 q /\ IsB (wA.heap.size + 1) (wA.heap.size + 1) (paN steps joins q) wr2 /\ Below (wA.heap.size + 1) W0 wr2) (fun i _ => m1 - (intOf i).toNat)
   case atStart => exact ⟨0, Nat.zero_le _, rfl, by rw [paN_zero, <- HW0.out]; exact IB0.out, by rw [<- HW0.out]; exact Below.refl _ _⟩
   case round =>
    obtain ⟨wB, hwB⟩ : ∃ x, x = wr := ⟨wr, rfl⟩
    subst hwB
    obtain ⟨q, hq, rfl, hib, hb⟩ := hrel
    have HIB := hid hib
    have HBB := hid hb
    have hzB := hb.size
    have qp := QP0.out.below hb (by omega)
    have qpc := qp.cell
    have HQP := hid qp
    have HBW := hid (HBW0.out.trans (hb.mono (by have := HB.out.size; omega)))
    have hzBw := HBW.out.size
    clear hib hb qp
    by_cases hlt2 : q < m1
    ·skip
     have hlt2' : (q : Int) < (m1 : Int) := by omega
     obtain ⟨s, hs⟩ : ∃ s, steps[q]? = some s := ⟨_, List.getElem?_eq_getElem (by rw [Hm1.out]; exact hlt2)⟩
     obtain ⟨cb, ob, rfl, hcbl, hss⟩ := hst2.out (by rw [Hm1.out]; omega)
     obtain ⟨A2, cap2, s0, hsv⟩ := sss_at hss hs
     replace s0 := (HBW.out.cell (p := ⟨cb, ob + q, none⟩) hcbl).trans s0
     have htl := szSS_mem hs
     have hlS := szS_len s
     have hcs1 := HCS1.out
     have hc2 := hsv.1
     obtain ⟨m2, hm2⟩ : ∃ m, s.length = m := ⟨_, rfl⟩
     have hsv' := hsv.2
     rw [hm2] at hc2 s0 hsv' hlS
     have hle2 : m2 <= 3000000 := by omega
     have hsvv := hid hsv'
     have Hm2 := hid hm2
     have hsq := hid hs
     have hpl1 := pa_le steps joins (q + 1)
     have hPL := HPL.out
     clear hss hsv hsv' hm2 htl hlS hcs1
     rcases (show q = 0 ∨ ∃ i, q = i + 1 from by cases q; exact .inl rfl; exact .inr ⟨_, rfl⟩) with rfl | ⟨i, rfl⟩
     ·have h1 := paN_one (joins := joins) hs
      rw [Nat.add_zero] at s0
      obtain ⟨T0, hT⟩ : ∃ T : Bs, T = [] := ⟨_, rfl⟩
      have hT0 := hid (show T0 ++ ssTx s = paN steps joins (0 + 1) by rw [hT, List.nil_append]; exact h1.symm)
      have hTL := hid (show T0.length + (ssTx s).length <= 100000000 by rw [<- List.length_append, hT0.out]; omega)
      have IBT := hid (show IsB (wA.heap.size + 1) (wA.heap.size + 1) T0 wB from by rw [hT, <- paN_zero steps joins]; exact HIB.out)
      have HBT := HBB
      clear hs h1 hT hpl1 hPL HIB
      go_wp2_with fail
      go_loopw [42] (fun i wr3 => ∃ r : Nat, r <= m2 /\ i = .int .i64 r /\ IsB (wA.heap.size + 1) (wA.heap.size + 1) (T0 ++ ssTx (s.take r)) wr3 /\ Below (wA.heap.size + 1) W0 wr3) (fun i _ => m2 - (intOf i).toNat)
      case atStart => exact ⟨0, Nat.zero_le _, rfl, by rw [List.take_zero, ssTx, List.append_nil]; exact IBT.out, HBT.out⟩
      case round =>
       obtain ⟨r, hr, rfl, hib, hb⟩ := hrel
       have HI := hid hib
       have HBR := hid hb
       have HWR := hid (HBW0.out.trans (hb.mono (by omega)))
       have hzR := HWR.out.size
       have hzR2 := hb.size
       by_cases hlt3 : r < m2
       ·have hlt3' : (r : Int) < (m2 : Int) := by omega
        obtain ⟨t, ht⟩ : ∃ t, s[r]? = some t := ⟨_, List.getElem?_eq_getElem (by rw [Hm2.out]; exact hlt3)⟩
        obtain ⟨cc, oc, rfl, -, hccl, hst3⟩ := hsvv.out (by omega)
        obtain ⟨xs, hxl, hxc, hta⟩ := ss_at hst3 ht
        have hstep := ss_step ht
        have hle := ss_le s (r + 1)
        have cT0 := hT1.out 0 s r t hsq.out ht
        obtain ⟨k, nn, op, vv, a, b, subs⟩ := t
        obtain ⟨sA, sc, rfl, hpv⟩ := ts_form hta
        have t0 := (HWR.out.cell (p := ⟨cc, oc + r * 7, none⟩) hccl).trans (hxc 0 (by decide))
        have t1 := (HWR.out.cell (p := ⟨cc, oc + r * 7 + 1, none⟩) hccl).trans (hxc 1 (by decide))
        have t2 := (HWR.out.cell (p := ⟨cc, oc + r * 7 + 2, none⟩) hccl).trans (hxc 2 (by decide))
        have t3 := (HWR.out.cell (p := ⟨cc, oc + r * 7 + 3, none⟩) hccl).trans (hxc 3 (by decide))
        have t4 := (HWR.out.cell (p := ⟨cc, oc + r * 7 + 4, none⟩) hccl).trans (hxc 4 (by decide))
        have t5 := (HWR.out.cell (p := ⟨cc, oc + r * 7 + 5, none⟩) hccl).trans (hxc 5 (by decide))
        have t6 := (HWR.out.cell (p := ⟨cc, oc + r * 7 + 6, none⟩) hccl).trans (hxc 6 (by decide))
        dsimp only [List.getElem?_cons_zero, List.getElem?_cons_succ] at t0 t1 t2 t3 t4 t5 t6
        have cT := hid (fun (W : World) (hW : Below w.heap.size w W) => cT0 k nn op vv a b subs rfl sA sc X W (HP.out.on hW) (hpv.on hW))
        have hal := ba wr (oTs k (bs nn) (nv op) (bs vv) a b sA subs.length sc)
        have HWa := hid (HWR.out.trans (hal.mono hzR))
        have HBa := hid (HBR.out.trans (hal.mono (by omega)))
        have HIa := hid (HI.out.on hal)
        rw [hstep, List.length_append] at hle
        have hln : (T0 ++ ssTx (s.take r)).length + (tsTx (.mk k nn op vv a b subs)).length <= 100000000 := by rw [List.length_append]; have := hTL.out; omega
        have HST := hid hstep
        clear hib hb ht hst3 hxc hxl hta hpv cT0 hal hle hstep
        generalize hTS : tsTx (.mk k nn op vv a b subs) = ts1 at *
        go_wp2_with (first
         | (go_at_call 39; (with_reducible refine (cT.out _ HWa.out).mono ?_); rintro e W4 ⟨rfl, hb4⟩; have HB4 := hid (HBa.out.trans (hb4.mono (by rw [World.size_alloc]; omega))); have HI4 := hid (HIa.out.on hb4); have hz4 := hb4.size; rw [World.size_alloc] at hz4; clear hb4)
         | (go_at_call 38; (with_reducible refine (writeString_keep (wA.heap.size + 1) (wA.heap.size + 1) (T0 ++ ssTx (s.take r)) (bs ts1) _ HI4.out (by rw [bs_size]; omega) (by omega)).mono ?_); rintro e W5 ⟨rfl, hi5, hb5, -⟩; have HI5 := hid hi5; have HB5 := hid (HB4.out.trans hb5); clear hi5 hb5))
        go_roundw
        case rel =>
         refine ⟨_, _, _, _, _, _, _, _, _, ?_, rfl⟩
         exact ⟨r + 1, by omega, rfl, by rw [HST.out, <- List.append_assoc]; exact HI5.out, HB5.out⟩
        case measure => simp [intOf]; omega
       ·obtain rfl : r = m2 := by omega
        rw [List.take_of_length_le (by rw [Hm2.out]; exact Nat.le_refl _), hT0.out] at hib
        have HI6 := hid hib
        clear hib hb hlt3
        go_wp2_with fail
        go_roundw
        case rel => exact ⟨0 + 1, by omega, by go_num, HI6.out, HBR.out⟩
        case measure => simp [intOf]; omega
     ·obtain ⟨jx, hjx⟩ : ∃ j, joins[i]? = some j := ⟨_, List.getElem?_eq_getElem (by rw [Hmj.out]; omega)⟩
      have h1 := paN_step hs hjx
      obtain ⟨cJ, oJ, rfl, hcJ, hjcell⟩ := hjs2.out (by rw [Hmj.out]; omega)
      have j0 := hjcell i jx hjx
      have hjB : (i : Int) < (mj : Int) := by omega
      have hgt : decide ((0 : Int) < ((i : Int) + 1)) = true := dt (by omega)
      by_cases hj32 : jx = 32
      ·subst hj32
       obtain ⟨T0, hT⟩ : ∃ T : Bs, T = paN steps joins (i + 1) ++ [32] := ⟨_, rfl⟩
       have hT0 := hid (show T0 ++ ssTx s = paN steps joins (i + 1 + 1) by rw [hT, h1]; rfl)
       have hTL := hid (show T0.length + (ssTx s).length <= 100000000 by rw [<- List.length_append, hT0.out]; omega)
       have hln0 : (paN steps joins (i + 1)).length <= 100000000 := by have := pa_le steps joins (i + 1); omega
       have HTe := hid hT
       clear hs h1 hT hpl1 hPL hjx hjcell
       go_wp2_with (go_at_call 36; (with_reducible refine (writeBlank (wA.heap.size + 1) (wA.heap.size + 1) (paN steps joins (i + 1)) _ HIB.out (by omega) (by omega)).mono ?_); rintro e W1 ⟨rfl, hi1, hb1, -⟩; have HBT := hid (HBB.out.trans hb1); have IBT := hid (show IsB (wA.heap.size + 1) (wA.heap.size + 1) T0 W1 from by rw [HTe.out]; exact hi1); have q1c := (HQP.out.below hb1 (by omega)).cell; have j1 := ((HBW0.out.trans (HBT.out.mono (by omega))).cell (p := ⟨cJ, oJ + i, none⟩) hcJ).trans j0; clear hi1 hb1)
       go_loopw [42] (fun i wr3 => ∃ r : Nat, r <= m2 /\ i = .int .i64 r /\ IsB (wA.heap.size + 1) (wA.heap.size + 1) (T0 ++ ssTx (s.take r)) wr3 /\ Below (wA.heap.size + 1) W0 wr3) (fun i _ => m2 - (intOf i).toNat)
       case atStart => exact ⟨0, Nat.zero_le _, rfl, by rw [List.take_zero, ssTx, List.append_nil]; exact IBT.out, HBT.out⟩
       case round =>
        obtain ⟨r, hr, rfl, hib, hb⟩ := hrel
        have HI := hid hib
        have HBR := hid hb
        have HWR := hid (HBW0.out.trans (hb.mono (by omega)))
        have hzR := HWR.out.size
        have hzR2 := hb.size
        by_cases hlt3 : r < m2
        ·have hlt3' : (r : Int) < (m2 : Int) := by omega
         obtain ⟨t, ht⟩ : ∃ t, s[r]? = some t := ⟨_, List.getElem?_eq_getElem (by rw [Hm2.out]; exact hlt3)⟩
         obtain ⟨cc, oc, rfl, -, hccl, hst3⟩ := hsvv.out (by omega)
         obtain ⟨xs, hxl, hxc, hta⟩ := ss_at hst3 ht
         have hstep := ss_step ht
         have hle := ss_le s (r + 1)
         have cT0 := hT1.out (i + 1) s r t hsq.out ht
         obtain ⟨k, nn, op, vv, a, b, subs⟩ := t
         obtain ⟨sA, sc, rfl, hpv⟩ := ts_form hta
         have t0 := (HWR.out.cell (p := ⟨cc, oc + r * 7, none⟩) hccl).trans (hxc 0 (by decide))
         have t1 := (HWR.out.cell (p := ⟨cc, oc + r * 7 + 1, none⟩) hccl).trans (hxc 1 (by decide))
         have t2 := (HWR.out.cell (p := ⟨cc, oc + r * 7 + 2, none⟩) hccl).trans (hxc 2 (by decide))
         have t3 := (HWR.out.cell (p := ⟨cc, oc + r * 7 + 3, none⟩) hccl).trans (hxc 3 (by decide))
         have t4 := (HWR.out.cell (p := ⟨cc, oc + r * 7 + 4, none⟩) hccl).trans (hxc 4 (by decide))
         have t5 := (HWR.out.cell (p := ⟨cc, oc + r * 7 + 5, none⟩) hccl).trans (hxc 5 (by decide))
         have t6 := (HWR.out.cell (p := ⟨cc, oc + r * 7 + 6, none⟩) hccl).trans (hxc 6 (by decide))
         dsimp only [List.getElem?_cons_zero, List.getElem?_cons_succ] at t0 t1 t2 t3 t4 t5 t6
         have cT := hid (fun (W : World) (hW : Below w.heap.size w W) => cT0 k nn op vv a b subs rfl sA sc X W (HP.out.on hW) (hpv.on hW))
         have hal := ba wr (oTs k (bs nn) (nv op) (bs vv) a b sA subs.length sc)
         have HWa := hid (HWR.out.trans (hal.mono hzR))
         have HBa := hid (HBR.out.trans (hal.mono (by omega)))
         have HIa := hid (HI.out.on hal)
         rw [hstep, List.length_append] at hle
         have hln : (T0 ++ ssTx (s.take r)).length + (tsTx (.mk k nn op vv a b subs)).length <= 100000000 := by rw [List.length_append]; have := hTL.out; omega
         have HST := hid hstep
         clear hib hb ht hst3 hxc hxl hta hpv cT0 hal hle hstep
         generalize hTS : tsTx (.mk k nn op vv a b subs) = ts1 at *
         go_wp2_with (first
          | (go_at_call 39; (with_reducible refine (cT.out _ HWa.out).mono ?_); rintro e W4 ⟨rfl, hb4⟩; have HB4 := hid (HBa.out.trans (hb4.mono (by rw [World.size_alloc]; omega))); have HI4 := hid (HIa.out.on hb4); have hz4 := hb4.size; rw [World.size_alloc] at hz4; clear hb4)
          | (go_at_call 38; (with_reducible refine (writeString_keep (wA.heap.size + 1) (wA.heap.size + 1) (T0 ++ ssTx (s.take r)) (bs ts1) _ HI4.out (by rw [bs_size]; omega) (by omega)).mono ?_); rintro e W5 ⟨rfl, hi5, hb5, -⟩; have HI5 := hid hi5; have HB5 := hid (HB4.out.trans hb5); clear hi5 hb5))
         go_roundw
         case rel =>
          refine ⟨_, _, _, _, _, _, _, _, _, ?_, rfl⟩
          exact ⟨r + 1, by omega, rfl, by rw [HST.out, <- List.append_assoc]; exact HI5.out, HB5.out⟩
         case measure => simp [intOf]; omega
        ·obtain rfl : r = m2 := by omega
         rw [List.take_of_length_le (by rw [Hm2.out]; exact Nat.le_refl _), hT0.out] at hib
         have HI6 := hid hib
         clear hib hb hlt3
         go_wp2_with fail
         go_roundw
         case rel => exact ⟨i + 1 + 1, by omega, by go_num, HI6.out, HBR.out⟩
         case measure => simp [intOf]; omega
      ·have hj0 : (nv jx == 32) = false := by rw [beq_eq_false_iff_ne]; intro e; exact hj32 (nv_inj e)
       have hj1 : ¬ jx.toNat = 32 := fun e => hj32 (UInt8.toNat_inj.1 e)
       obtain ⟨T0, hT⟩ : ∃ T : Bs, T = paN steps joins (i + 1) ++ [32] ++ [jx, 32] := ⟨_, rfl⟩
       have hT0 := hid (show T0 ++ ssTx s = paN steps joins (i + 1 + 1) by rw [hT, h1, sepTx, if_neg hj32]; simp)
       have hTL := hid (show T0.length + (ssTx s).length <= 100000000 by rw [<- List.length_append, hT0.out]; omega)
       have hln0 : (paN steps joins (i + 1)).length <= 100000000 := by have := pa_le steps joins (i + 1); omega
       have HTe := hid hT
       clear hs h1 hT hpl1 hPL hjx hjcell hj32
       go_wp2_with (first
        | (go_at_call 36; (with_reducible refine (writeBlank (wA.heap.size + 1) (wA.heap.size + 1) (paN steps joins (i + 1)) _ HIB.out (by omega) (by omega)).mono ?_); rintro e W1 ⟨rfl, hi1, hb1, -⟩; have HB1 := hid (HBB.out.trans hb1); have q1c := (HQP.out.below hb1 (by omega)).cell; have j1 := ((HBW0.out.trans (HB1.out.mono (by omega))).cell (p := ⟨cJ, oJ + i, none⟩) hcJ).trans j0; have hz1 := HB1.out.size; have HI1 := hid (IsB.on hi1 (ba W1 (.cells #[.int .u8 (nv jx), .int .u8 32] 5))); clear hi1 hb1)
        | (go_at_call 37; (with_reducible refine (writeJoin (wA.heap.size + 1) (wA.heap.size + 1) (paN steps joins (i + 1) ++ [32]) W1.heap.size jx _ (Blk.new rfl) (by omega) HI1.out (by simp; omega) (by simp; omega)).mono ?_); rintro e W2 ⟨rfl, hi2, hb2, -⟩; have HBT := hid ((HB1.out.alloc (by omega) (.cells #[.int .u8 (nv jx), .int .u8 32] 5)).trans hb2); have IBT := hid (show IsB (wA.heap.size + 1) (wA.heap.size + 1) T0 W2 from by rw [HTe.out]; exact hi2); clear hi2 hb2))
       go_loopw [42] (fun i wr3 => ∃ r : Nat, r <= m2 /\ i = .int .i64 r /\ IsB (wA.heap.size + 1) (wA.heap.size + 1) (T0 ++ ssTx (s.take r)) wr3 /\ Below (wA.heap.size + 1) W0 wr3) (fun i _ => m2 - (intOf i).toNat)
       case atStart => exact ⟨0, Nat.zero_le _, rfl, by rw [List.take_zero, ssTx, List.append_nil]; exact IBT.out, HBT.out⟩
       case round =>
        obtain ⟨r, hr, rfl, hib, hb⟩ := hrel
        have HI := hid hib
        have HBR := hid hb
        have HWR := hid (HBW0.out.trans (hb.mono (by omega)))
        have hzR := HWR.out.size
        have hzR2 := hb.size
        by_cases hlt3 : r < m2
        ·have hlt3' : (r : Int) < (m2 : Int) := by omega
         obtain ⟨t, ht⟩ : ∃ t, s[r]? = some t := ⟨_, List.getElem?_eq_getElem (by rw [Hm2.out]; exact hlt3)⟩
         obtain ⟨cc, oc, rfl, -, hccl, hst3⟩ := hsvv.out (by omega)
         obtain ⟨xs, hxl, hxc, hta⟩ := ss_at hst3 ht
         have hstep := ss_step ht
         have hle := ss_le s (r + 1)
         have cT0 := hT1.out (i + 1) s r t hsq.out ht
         obtain ⟨k, nn, op, vv, a, b, subs⟩ := t
         obtain ⟨sA, sc, rfl, hpv⟩ := ts_form hta
         have t0 := (HWR.out.cell (p := ⟨cc, oc + r * 7, none⟩) hccl).trans (hxc 0 (by decide))
         have t1 := (HWR.out.cell (p := ⟨cc, oc + r * 7 + 1, none⟩) hccl).trans (hxc 1 (by decide))
         have t2 := (HWR.out.cell (p := ⟨cc, oc + r * 7 + 2, none⟩) hccl).trans (hxc 2 (by decide))
         have t3 := (HWR.out.cell (p := ⟨cc, oc + r * 7 + 3, none⟩) hccl).trans (hxc 3 (by decide))
         have t4 := (HWR.out.cell (p := ⟨cc, oc + r * 7 + 4, none⟩) hccl).trans (hxc 4 (by decide))
         have t5 := (HWR.out.cell (p := ⟨cc, oc + r * 7 + 5, none⟩) hccl).trans (hxc 5 (by decide))
         have t6 := (HWR.out.cell (p := ⟨cc, oc + r * 7 + 6, none⟩) hccl).trans (hxc 6 (by decide))
         dsimp only [List.getElem?_cons_zero, List.getElem?_cons_succ] at t0 t1 t2 t3 t4 t5 t6
         have cT := hid (fun (W : World) (hW : Below w.heap.size w W) => cT0 k nn op vv a b subs rfl sA sc X W (HP.out.on hW) (hpv.on hW))
         have hal := ba wr (oTs k (bs nn) (nv op) (bs vv) a b sA subs.length sc)
         have HWa := hid (HWR.out.trans (hal.mono hzR))
         have HBa := hid (HBR.out.trans (hal.mono (by omega)))
         have HIa := hid (HI.out.on hal)
         rw [hstep, List.length_append] at hle
         have hln : (T0 ++ ssTx (s.take r)).length + (tsTx (.mk k nn op vv a b subs)).length <= 100000000 := by rw [List.length_append]; have := hTL.out; omega
         have HST := hid hstep
         clear hib hb ht hst3 hxc hxl hta hpv cT0 hal hle hstep
         generalize hTS : tsTx (.mk k nn op vv a b subs) = ts1 at *
         go_wp2_with (first
          | (go_at_call 39; (with_reducible refine (cT.out _ HWa.out).mono ?_); rintro e W4 ⟨rfl, hb4⟩; have HB4 := hid (HBa.out.trans (hb4.mono (by rw [World.size_alloc]; omega))); have HI4 := hid (HIa.out.on hb4); have hz4 := hb4.size; rw [World.size_alloc] at hz4; clear hb4)
          | (go_at_call 38; (with_reducible refine (writeString_keep (wA.heap.size + 1) (wA.heap.size + 1) (T0 ++ ssTx (s.take r)) (bs ts1) _ HI4.out (by rw [bs_size]; omega) (by omega)).mono ?_); rintro e W5 ⟨rfl, hi5, hb5, -⟩; have HI5 := hid hi5; have HB5 := hid (HB4.out.trans hb5); clear hi5 hb5))
         go_roundw
         case rel => exact ⟨r + 1, by omega, by go_num, by rw [HST.out, <- List.append_assoc]; exact HI5.out, HB5.out⟩
         case measure => simp [intOf]; omega
        ·obtain rfl : r = m2 := by omega
         rw [List.take_of_length_le (by rw [Hm2.out]; exact Nat.le_refl _), hT0.out] at hib
         have HI6 := hid hib
         clear hib hb hlt3
         go_wp2_with fail
         go_roundw
         case rel => exact ⟨i + 1 + 1, by omega, by go_num, HI6.out, HBR.out⟩
         case measure => simp [intOf]; omega
    ·obtain rfl : q = m1 := by omega
     have hpn := paN_all steps joins
     rw [Hm1.out] at hpn
     have cS := hid (builderString_ct (wA.heap.size + 1) (wA.heap.size + 1) (paN steps joins q) wB HIB.out (by omega))
     have HPN := hid hpn
     have hsn := hid (show ((pasTx l).take (j + 1)).map (fun s => Value.string (bs s)) = ((pasTx l).take j).map (fun s => Value.string (bs s)) ++ [.string (bs (paTx (.mk steps joins)))] by
      obtain ⟨h1, h2⟩ := List.getElem?_eq_some_iff.1 HPT.out
      rw [List.take_succ_eq_append_getElem h1, h2, List.map_append]
      rfl)
     rw [show (⟨(paN steps joins q).toArray⟩ : ByteArray) = bs (paTx (.mk steps joins)) from by rw [hpn]; rfl] at cS
     clear hpn hlt2
     go_wp2_with (first
      | (go_at_call 40; (with_reducible refine cS.out.mono ?_); rintro e W3 ⟨rfl, hb3⟩; have HB3 := hid (HBB.out.trans hb3); have HO3 := hid (row_below HO0.out (HBB.out.trans hb3) (fun g hg => Nat.lt_succ_of_lt (hown g hg).2)); have HW3 := hid (HBW.out.trans (hb3.mono (by omega))); have hz3 := hb3.size; clear hb3)
      | (at_builtin; refine wpList_append_own _ rfl _ _ 23 rfl w.heap.size 9 i0 (.string .empty) 1 16 Tryz.underlying23 Hi.out Hz0.out Hz1.out Hz2.out rfl (by decide) _ _ _ rfl (HO3.out.alloc (.cells #[.string (bs (paTx (.mk steps joins)))] 9)) ⟨W3.heap.size, 0, none⟩ 1 1 [.string (bs (paTx (.mk steps joins)))] rfl rfl (Blk.new (w := W3) (t := 9) (cs := #[.string (bs (paTx (.mk steps joins)))]) rfl).news (by simp [Value.oneCell']) (by unfold maxLen; omega) (by omega) (by simp; omega) ?_; intro v4 w4 hown4 hgrow4 _; obtain ⟨a4, c4, rfl⟩ := row_form hown4; have hb4 := below_app (HW3.out.alloc HW3.out.size (.cells #[.string (bs (paTx (.mk steps joins)))] 9)) hgrow4 (HO3.out.alloc _) (Nat.le_refl _) (by simp; omega); have HB4 := hid hb4; have HO4 := hid hown4; clear hown4 hgrow4 hb4))
     go_roundw
     case rel => exact ⟨j + 1, by omega, by go_num, by rw [hsn.out]; exact HO4.out, HB4.out⟩
     case measure => simp [intOf]; omega
  ·obtain rfl : j = m := by omega
   have hr := hrow
   rw [List.take_of_length_le (by rw [Hpl.out]; exact Nat.le_refl _)] at hr
   obtain ⟨g, cp, hg1, hg2, hg3, hg4, hg5⟩ := row_fresh (w := w) hr hm0
   obtain ⟨rfl, rfl⟩ : ra = some ⟨g, 0, none⟩ /\ rc = cp := by injection hg1 with h1 _ h3; exact ⟨h1, h3⟩
   have cJ := Tryz.strings_Join g 0 rc ((pasTx l).map bs) ⟨#[44, 32]⟩ wA (fun i x hx => by
    rw [Nat.zero_add]
    refine hg5 i _ ?_
    rw [List.getElem?_map] at hx ⊢
    cases ht : (pasTx l)[i]? with
    | none => rw [ht] at hx; cases hx
    | some y => rw [ht] at hx; obtain rfl := Option.some.inj hx; rfl) hg3 (by rw [List.length_map, Hpl.out]; omega) (by rw [List.length_map, Hpl.out]; exact hg4) (by rw [show (⟨#[44, 32]⟩ : ByteArray).data.toList = [44, 32] from rfl, cal_join]; exact Nat.le_trans hlen2.out (by decide))
   rw [List.length_map, Hpl.out, show (⟨#[44, 32]⟩ : ByteArray).data.toList = [44, 32] from rfl, cal_join] at cJ
   replace cJ := hid cJ
   clear hr hrow hb hg1 hg2 hg3 hg4 hg5
   go_wp2_with (go_at_call 41; (with_reducible refine cJ.out.mono ?_); rintro e W2 ⟨rfl, hb3⟩; have HB3 := hid (tb HB hb3); clear hb3)
   go_ret
   exact ⟨rfl, HB3.out⟩
end sel
end Go.Proofs.YtaobpkffcolobaaGreatDoor
