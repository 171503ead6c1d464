/- Contracts and plain law, a bundle. -/
import Derived.Lib.LaidU8
import Derived.Deep.QuietTactic
import Derived.BigQuiet
import Derived.Lib.ItoaNum
import Derived.Lib.TrimByte
import Derived.Lib.LaidTab
import Derived.Lib.Hide
import Derived.Test.YtlfkkaofgcongaaGreatDoorBC
import Derived.Test.YtlfkkaofgcongaaGreatDoorBC1
import Derived.Test.YtlfkkaofgcongaaGreatDoorBS
set_option linter.unusedVariables false
set_option maxRecDepth 100000
set_option maxHeartbeats 16000000
open Go.Lib (hid)
namespace Go.Proofs.YtlfkkaofgcongaaGreatDoor
namespace dim
open Go.RowKit base tok
def StrsAt (w : World) (R o : Nat) (L : List Bs) : Prop := R < w.heap.size /\ ∀ (i : Nat) (s : Bs), L[i]? = some s -> w.cell? ⟨R, o + i, none⟩ = some (.string (bs s))
theorem StrsAt.on {w w' : World} {R o : Nat} {L : List Bs} (h : StrsAt w R o L) (hb : Below w.heap.size w w') : StrsAt w' R o L :=
 ⟨Nat.lt_of_lt_of_le h.1 hb.size, fun i s hi => (hb.cell (p := ⟨R, o + i, none⟩) h.1).trans (h.2 i s hi)⟩
def strsData (L : List Bs) : DataW Unit := .slice (L.map fun s => .lit (.string s)) []
theorem strs_of_reads {P : Program} {w : World} {name : String} {g : Nat} {t e : TypeId} {L : List Bs} (hn : P.globalNamed name = some g) (hy : (P.globals[g]?).map (·.type) = some t)
  (ht : P.underlying t = some (.slice e)) (he : P.underlying e = some .string) (hc : P.cellsOf e = 1) (hl : 0 < L.length) (h : Lib.VarReads P w name (strsData L)) :
  ∃ R o cap, w.cell? ⟨g, 0, none⟩ = some (.slice (some ⟨R, o, none⟩) L.length cap) /\ StrsAt w R o L := by
 obtain ⟨g', t', cs, fuel, p, hg, hty, hvar, hd⟩ := h
 obtain rfl := Option.some.inj (hn.symm.trans hg)
 obtain rfl := Option.some.inj (hy.symm.trans hty)
 rcases DataW.trod_slice ht hd with ⟨_, hx⟩ | ⟨a, len, cap, el, rs, m, rfl, hcs, hx, _, hlc, _, hel, helem, hsp, _⟩
 ·cases hx
 have e0 := congrArg Prod.fst hx
 simp only [strsData, DataW.slice.injEq] at e0
 obtain ⟨eE, eR⟩ := e0
 have hlen : len = L.length := by
  have := congrArg List.length eE
  simp at this
  omega
 have hcell : ∀ i s, L[i]? = some s -> w.cell? (a.add i) = some (.string (bs s)) := by
  intro i s hs
  have hi := (List.getElem?_eq_some_iff.1 hs).1
  have h1 := helem i (by omega)
  rw [hc] at h1
  obtain ⟨b, hb⟩ : ∃ b, el[i]? = some b := ⟨el[i]'(by omega), List.getElem?_eq_getElem (by omega)⟩
  rw [hb] at h1
  obtain ⟨ce, hce, hte⟩ := Option.bind_eq_some_iff.1 h1
  obtain ⟨z, hz, hbz, _⟩ := DataW.trod_string he hte
  have hb1 : b.1 = .lit (.string s) := by
   have := congrArg (·[i]?) eE
   simp [hb, hs] at this
   exact this.symm
  rw [hbz] at hb1
  simp only [DataW.lit.injEq, Lit.string.injEq] at hb1
  obtain ⟨_, _, hcc⟩ := World.cells?_some hce
  have := hcc 0 (by omega)
  rw [hz] at this
  simp only [Nat.mul_one] at this
  have e1 : (a.add i).add 0 = a.add i := by simp [Addr.add]
  rw [e1] at this
  rw [this, <- hb1]
  cases z
  simp [bs]
 obtain ⟨R, o, sR⟩ := a
 obtain ⟨s0, h0⟩ : ∃ s, L[0]? = some s := ⟨L[0], List.getElem?_eq_getElem hl⟩
 have h00 := hcell 0 s0 h0
 have ez : (Addr.add ⟨R, o, sR⟩ 0) = ⟨R, o, sR⟩ := by simp [Addr.add]
 rw [ez] at h00
 obtain rfl : sR = none := Go.Proofs.cell_spot h00
 refine ⟨R, o, cap, ?_, ?_, fun j s hj => ?_⟩
 ·rw [World.var?_cell hg hvar 0, <- Array.getElem?_toList, hcs, hlen]
  rfl
 ·rcases Nat.lt_or_ge R w.heap.size with hR | hR
  ·exact hR
  ·rw [World.cell?, Array.getElem?_eq_none hR] at h00
   cases h00
 ·have := hcell j s hj
  rwa [Addr.add_lit] at this
theorem index_ct (w : World) (R o cap : Nat) (L : List Bs) (s : Bs) (h : StrsAt w R o L) (hc : L.length <= maxLen) :
  Calls Tryz.prog 52 #[.slice (some ⟨R, o, none⟩) L.length cap, .string (bs s)] w fun e w' => (∃ r : Int, e = .returned (.int .i64 r) /\ (0 <= r ↔ s ∈ L)) /\ w' = w := by
 have H := hid h
 unfold maxLen at hc
 obtain ⟨n, hn⟩ : ∃ n, L.length = n := ⟨_, rfl⟩
 rw [hn] at hc
 rw [hn]
 clear h
 go_enter Tryz.func52, Tryz.ntmps52
 go_wp2_with fail
 go_loopw [8] (fun i wr => ∃ k : Nat, k <= n /\ i = .int .i64 k /\ (∀ x ∈ L.take k, ¬ x = s) /\ wr = w) (fun i _ => n - (intOf i).toNat)
 case atStart => exact ⟨0, by omega, rfl, by simp, rfl⟩
 case round =>
  obtain ⟨k, hk, rfl, hno, rfl⟩ := hrel
  replace hno := hid hno
  by_cases hlt : k < n
  ·have hlt' : (k : Int) < (n : Int) := by omega
   have hkl : k < L.length := by omega
   have hx := List.getElem?_eq_getElem hkl
   generalize hxd : L[k] = x at hx
   have e0 := H.out.2 k x hx
   by_cases hxs : s = x
   ·have hmem : s ∈ L := by
     rw [hxs]
     exact List.mem_of_getElem? hx
    have heq : ((bs s).toList == (bs x).toList) = true := by rw [hxs]; simp
    replace hmem := hid hmem
    replace hxs := hid hxs
    clear hx hxd
    go_wp2
    go_ret
    exact ⟨⟨_, rfl, iff_of_true (by omega) hmem.out⟩, rfl⟩
   ·have heq : ((bs s).toList == (bs x).toList) = false := by
     rw [bs_toList, bs_toList]
     simpa using hxs
    have hno2 := hid (show ∀ y ∈ L.take (k + 1), ¬ y = s from by
     rw [List.take_succ_eq_append_getElem hkl]
     intro y hy
     rcases List.mem_append.1 hy with hy | hy
     ·exact hno.out y hy
     ·obtain rfl : y = L[k] := by simpa using hy
      rw [hxd]
      exact fun e => hxs e.symm)
    replace hxs := hid hxs
    clear hx hxd
    go_wp2
    go_roundw
    case rel => exact ⟨k + 1, by omega, by go_num, hno2.out, trivial⟩
    case measure => simp [intOf]; omega
  ·obtain rfl : k = n := by omega
   have hnm : ¬ s ∈ L := fun hm => hno.out s (by rw [<- hn, List.take_length]; exact hm) rfl
   replace hnm := hid hnm
   go_wp2
   go_ret
   exact ⟨⟨_, rfl, iff_of_false (by omega) hnm.out⟩, rfl⟩
theorem contains_ct (w : World) (R o cap : Nat) (L : List Bs) (s : Bs) (h : StrsAt w R o L) (hc : L.length <= maxLen) (hm : s ∈ L) :
  Calls Tryz.prog 133 #[.slice (some ⟨R, o, none⟩) L.length cap, .string (bs s)] w fun e w' => e = .returned (.bool true) /\ w' = w := by
 have cI := hid ((index_ct w R o cap L s h hc).mono (R' := fun e w' => ∃ r : Int, e = .returned (.int .i64 r) /\ decide (r ≥ 0) = true /\ w' = w) fun e w' ⟨⟨r, he, hr⟩, hw⟩ => ⟨r, he, decide_eq_true (hr.2 hm), hw⟩)
 generalize L.length = n at *
 go_enter Tryz.func133, Tryz.ntmps133
 go_wp2_with ((go_at_call 52; (with_reducible refine cI.out.mono ?_); rintro e w1 ⟨r, rfl, hr, rfl⟩))
 go_ret
 exact ⟨rfl, rfl⟩
theorem in_ct (n lo hi : Int) (w : World) :
  Calls Tryz.prog 135 #[.int .i64 n, .int .i64 lo, .int .i64 hi] w fun e w' => e = .returned (.bool (decide (lo <= n) && decide (n <= hi))) /\ w' = w := by
 by_cases h1 : lo <= n
 ·have d1 : decide (n ≥ lo) = true := decide_eq_true h1
  rw [decide_eq_true h1, Bool.true_and]
  go_enter Tryz.func135, Tryz.ntmps135
  go_wp2
  go_ret
  exact ⟨rfl, rfl⟩
 ·have d1 : decide (n ≥ lo) = false := decide_eq_false h1
  rw [decide_eq_false h1, Bool.false_and]
  go_enter Tryz.func135, Tryz.ntmps135
  go_wp2
  go_ret
  exact ⟨rfl, rfl⟩
theorem ret_int {a b : Int} (h : a = b) : Ending.returned (.int .i64 a) = .returned (.int .i64 b) := by rw [h]
theorem clip_ct (n : Int) (w : World) :
  Calls Tryz.prog 136 #[.int .i64 n] w fun e w' => e = .returned (.int .i64 (min (max n (-16777216)) 16777216)) /\ w' = w := by
 go_enter Tryz.func136, Tryz.ntmps136
 go_wp2
 go_ret
 refine ⟨ret_int ?_, rfl⟩
 omega
theorem quo_1000 (a : Int) : a / 1000 = if a.tmod 1000 < 0 then a.tdiv 1000 - 1 else a.tdiv 1000 := by
 have h1 := Int.mul_tdiv_add_tmod a 1000
 have h5 := Int.tmod_lt_of_pos a (show (0 : Int) < 1000 by decide)
 have h6 := Int.lt_tmod_of_pos a (show (0 : Int) < 1000 by decide)
 split <;> omega
theorem down1000_ct (a : Int) (ha : -4611686018427387904 <= a) (ha2 : a <= 4611686018427387904) (w : World) :
  Calls Tryz.prog 137 #[.int .i64 a, .int .i64 1000] w fun e w' => e = .returned (.int .i64 (a / 1000)) /\ w' = w := by
 have hq := quo_1000 a
 by_cases hz : a.tmod 1000 < 0
 ·rw [if_pos hz] at hq
  have d1 : decide (a.tmod 1000 < 0) = true := decide_eq_true hz
  have r1 := IntWalk.i64_in (a.tdiv 1000) (by omega)
  have r2 := IntWalk.i64_in (a.tdiv 1000 - 1) (by omega)
  replace hq := hid hq
  go_enter Tryz.func137, Tryz.ntmps137
  go_wp2
  go_ret
  exact ⟨ret_int hq.out.symm, rfl⟩
 ·rw [if_neg hz] at hq
  have d1 : decide (a.tmod 1000 < 0) = false := decide_eq_false hz
  have r1 := IntWalk.i64_in (a.tdiv 1000) (by omega)
  replace hq := hid hq
  go_enter Tryz.func137, Tryz.ntmps137
  go_wp2
  go_ret
  exact ⟨ret_int hq.out.symm, rfl⟩
theorem quo_100000 (a : Int) : a / 100000 = if a.tmod 100000 < 0 then a.tdiv 100000 - 1 else a.tdiv 100000 := by
 have h1 := Int.mul_tdiv_add_tmod a 100000
 have h5 := Int.tmod_lt_of_pos a (show (0 : Int) < 100000 by decide)
 have h6 := Int.lt_tmod_of_pos a (show (0 : Int) < 100000 by decide)
 split <;> omega
theorem down100000_ct (a : Int) (ha : -4611686018427387904 <= a) (ha2 : a <= 4611686018427387904) (w : World) :
  Calls Tryz.prog 137 #[.int .i64 a, .int .i64 100000] w fun e w' => e = .returned (.int .i64 (a / 100000)) /\ w' = w := by
 have hq := quo_100000 a
 by_cases hz : a.tmod 100000 < 0
 ·rw [if_pos hz] at hq
  have d1 : decide (a.tmod 100000 < 0) = true := decide_eq_true hz
  have r1 := IntWalk.i64_in (a.tdiv 100000) (by omega)
  have r2 := IntWalk.i64_in (a.tdiv 100000 - 1) (by omega)
  replace hq := hid hq
  go_enter Tryz.func137, Tryz.ntmps137
  go_wp2
  go_ret
  exact ⟨ret_int hq.out.symm, rfl⟩
 ·rw [if_neg hz] at hq
  have d1 : decide (a.tmod 100000 < 0) = false := decide_eq_false hz
  have r1 := IntWalk.i64_in (a.tdiv 100000) (by omega)
  replace hq := hid hq
  go_enter Tryz.func137, Tryz.ntmps137
  go_wp2
  go_ret
  exact ⟨ret_int hq.out.symm, rfl⟩
end dim
namespace dim
open Go.RowKit base tok
def unitsL : List Bs := [[], [112, 120], [101, 109], [114, 101, 109], [118, 119], [118, 104], [37]]
def UnitsAt (w : World) : Prop := 1 < w.heap.size /\ ∃ R o cap, w.cell? ⟨1, 0, none⟩ = some (.slice (some ⟨R, o, none⟩) 7 cap) /\ StrsAt w R o unitsL
theorem UnitsAt.on {w w' : World} (h : UnitsAt w) (hb : Below w.heap.size w w') : UnitsAt w' := by
 obtain ⟨h0, R, o, cap, hc, hs⟩ := h
 exact ⟨Nat.lt_of_lt_of_le h0 hb.size, R, o, cap, (hb.cell (p := ⟨_, 0, none⟩) h0).trans hc, hs.on hb⟩
theorem one_tok {w : World} {B : Nat} {A : Option Addr} {t : Tk} (h : TRd w B A 1 [t]) : ∃ b off, A = some ⟨b, off, none⟩ /\ b < B /\
  w.cell? ⟨b, off, none⟩ = some (.int .i64 t.k) /\ w.cell? ⟨b, off + 1, none⟩ = some (.string (bs t.raw)) /\ w.cell? ⟨b, off + 2, none⟩ = some (.string (bs t.val)) /\ w.cell? ⟨b, off + 3, none⟩ = some (.int .i64 t.num) := by
 obtain ⟨b, off, u, hA, hlt, hd, e0, e1, e2, e3⟩ := TRd.tok h (show 0 < 1 by decide)
 obtain rfl : t = u := by simpa using hd
 simp only [Nat.zero_mul, Nat.add_zero] at e0 e1 e2 e3
 exact ⟨b, off, hA, hlt, e0, e1, e2, e3⟩
theorem read_ct (s : ByteArray) (hs : s.size < 4294967281) (raw u : Bs) (n : Int) (hcut : cutP s.data.toList = [⟨7, raw, u, n⟩]) (hu : u ∈ unitsL) (w : World) (hm : MaxL w) (hU : UnitsAt w) :
  Calls Tryz.prog 90 #[.string s] w (rt w (.tuple #[.agg #[.int .i64 n, .string (bs u)], .int .i64 0])) := by
 have cC : ∀ w, MaxL w -> Calls Tryz.prog 40 #[.string s] w fun e w' => (∃ b off cap, e = .returned (.slice (some ⟨b, off, none⟩) 1 cap) /\ b < w'.heap.size /\ w'.cell? ⟨b, off, none⟩ = some (.int .i64 7) /\ w'.cell? ⟨b, off + 1, none⟩ = some (.string (bs raw)) /\ w'.cell? ⟨b, off + 2, none⟩ = some (.string (bs u)) /\ w'.cell? ⟨b, off + 3, none⟩ = some (.int .i64 n)) /\ Below w.heap.size w w' := fun w hm =>
  (cut_ct s hs w hm).mono fun e w' ⟨⟨A, cap, he, _, hr⟩, hb⟩ => by
   rw [hcut] at he hr
   obtain ⟨b, off, rfl, hlt, e0, e1, e2, e3⟩ := one_tok hr
   exact ⟨⟨b, off, cap, he, hlt, e0, e1, e2, e3⟩, hb⟩
 replace cC := hid cC
 replace hcut := hid hcut
 replace hU := hid hU
 replace hu := hid hu
 go_enter Tryz.func90, Tryz.ntmps90
 go_wp2_with ((go_at_call 40; (with_reducible refine (cC.out _ (hm.on (ba w _) hm.lt)).mono ?_); rintro e W1 ⟨⟨b, off, cap, rfl, hlt, e0, e1, e2, e3⟩, hb1⟩; have HB1 := hid ((ba w _).trans (hb1.mono (by simp))); have hblk := (Blk.new (w := w) (t := 47) (cs := #[.int .i64 0, .string .empty]) rfl).below hb1 (by simp)))
 obtain ⟨hg, R, o, ucap, hc, hst⟩ := hU.out.on HB1.out
 have cI : ∀ n, Calls Tryz.prog 133 #[.slice (some ⟨R, o, none⟩) 7 ucap, .string (bs u)] (W1.drewN n) fun e w' => e = .returned (.bool true) /\ W1.drewN n = w' := fun n => (contains_ct (W1.drewN n) R o ucap unitsL u hst (by decide) hu.out).mono fun e w' ⟨he, hw⟩ => ⟨he, hw.symm⟩
 replace cI := hid cI
 have hx : (0 : Int) < 1 := by decide
 go_quiet ((go_at_call 133; exact quiet_left (cI.out _)))
 go_wp2_with fail
 have r1 := hblk.cell
 have r2 := hblk.frozen
 have r3 := fun v => (hblk.put 0 v).cell
 have r4 := fun v => (hblk.put 0 v).frozen
 go_region
 go_wp2
 have e := (((hblk.drewN (nq + 1)).put 0 (.int .i64 n)).put 1 (.string (bs u))).cell
 refine bodyPost_ret (v := .tuple #[.agg #[.int .i64 n, .string (bs u)], .int .i64 0]) (by simp [results, Tryz.results90, go_sem, e]) rfl ⟨rfl, ?_⟩
 exact ((base.below_drewN HB1.out (nq + 1)).setCell (Nat.le_refl _) _).setCell (Nat.le_refl _) _
end dim
namespace dim
open Go.RowKit base tok
theorem nv_dig {k : Nat} (h : k < 10) : nv (UInt8.ofNat (48 + k)) = 48 + (k : Int) := by
 simp only [nv, UInt8.toNat_ofNat']
 omega
theorem dig_dig {k : Nat} (h : k < 10) : digI (nv (UInt8.ofNat (48 + k))) = true := by
 rw [nv_dig h]
 simp [digI]
 omega
theorem addD_dig {n : Int} {k : Nat} (h : k < 10) (hn : 10 * n + k <= 1000000000) : addD n (UInt8.ofNat (48 + k)) = 10 * n + k := by
 unfold addD
 rw [nv_dig h]
 omega
theorem dec_step {u : Nat} (h : ¬ u < 10) : Lib.decDigits u = Lib.decDigits (u / 10) ++ [UInt8.ofNat (48 + u % 10)] := by
 rw [Lib.decDigits, dif_neg h]
theorem dec_fold : ∀ (u : Nat), u <= 1000000000 -> (Lib.decDigits u).foldl addD 0 = (u : Int) := by
 intro u
 induction u using Nat.strongRecOn with
 | _ u ih =>
  intro hu
  by_cases h : u < 10
  ·rw [Lib.decDigits_one h]
   simp only [List.foldl_cons, List.foldl_nil]
   rw [addD_dig h (by omega)]
   omega
  ·rw [dec_step h, List.foldl_append, ih (u / 10) (by omega) (by omega)]
   simp only [List.foldl_cons, List.foldl_nil]
   rw [addD_dig (by omega) (by omega)]
   omega
theorem dec_digs : ∀ (u : Nat), ∀ c ∈ Lib.decDigits u, digI (nv c) = true := by
 intro u
 induction u using Nat.strongRecOn with
 | _ u ih =>
  by_cases h : u < 10
  ·rw [Lib.decDigits_one h]
   intro c hc
   obtain rfl : c = UInt8.ofNat (48 + u) := by simpa using hc
   exact dig_dig h
  ·rw [dec_step h]
   intro c hc
   rcases List.mem_append.1 hc with hc | hc
   ·exact ih (u / 10) (by omega) c hc
   ·obtain rfl : c = UInt8.ofNat (48 + u % 10) := by simpa using hc
    exact dig_dig (by omega)
theorem dec_ne (u : Nat) : Lib.decDigits u ≠ [] := by
 by_cases h : u < 10
 ·rw [Lib.decDigits_one h]; simp
 ·rw [dec_step h]; simp
theorem dec_three {r : Nat} (h : r < 1000) : Lib.decDigits (1000 + r) = 49 :: [UInt8.ofNat (48 + r / 100), UInt8.ofNat (48 + r / 10 % 10), UInt8.ofNat (48 + r % 10)] := by
 rw [dec_step (by omega), dec_step (u := (1000 + r) / 10) (by omega), dec_step (u := (1000 + r) / 10 / 10) (by omega), Lib.decDigits_one (i := (1000 + r) / 10 / 10 / 10) (by omega)]
 have e1 : (1000 + r) / 10 / 10 / 10 = 1 := by omega
 have e2 : (1000 + r) / 10 / 10 % 10 = r / 100 := by omega
 have e3 : (1000 + r) / 10 % 10 = r / 10 % 10 := by omega
 have e4 : (1000 + r) % 10 = r % 10 := by omega
 rw [e1, e2, e3, e4]
 rfl
theorem digits_app (d r : Bs) (hd : ∀ c ∈ d, digI (nv c) = true) (hr : ∀ c, r.head? = some c -> digI (nv c) = false) : digitsP (d ++ r) = d.length := by
 unfold digitsP
 induction d with
 | nil =>
  cases r with
  | nil => rfl
  | cons c r => simp [hr c rfl]
 | cons c d ih =>
  simp only [List.cons_append, List.takeWhile_cons, hd c (by simp), if_true, List.length_cons]
  rw [ih (fun x hx => hd x (by simp [hx]))]
end dim
namespace dim
open Go.RowKit base tok
def fracP (r : Nat) : Bs := Lib.trimRightB [UInt8.ofNat (48 + r / 100), UInt8.ofNat (48 + r / 10 % 10), UInt8.ofNat (48 + r % 10)] 48
theorem frac_all : ∀ r : Fin 1000, (fracP r.val).getD 0 48 = UInt8.ofNat (48 + r.val / 100) /\ (fracP r.val).getD 1 48 = UInt8.ofNat (48 + r.val / 10 % 10) /\ (fracP r.val).getD 2 48 = UInt8.ofNat (48 + r.val % 10) /\ (fracP r.val).all (fun c => digI (nv c)) = true := by
 decide +kernel
theorem frac_is {r : Nat} (h : r < 1000) : (fracP r).getD 0 48 = UInt8.ofNat (48 + r / 100) /\ (fracP r).getD 1 48 = UInt8.ofNat (48 + r / 10 % 10) /\ (fracP r).getD 2 48 = UInt8.ofNat (48 + r % 10) /\ ∀ c ∈ fracP r, digI (nv c) = true := by
 obtain ⟨h0, h1, h2, h3⟩ := frac_all ⟨r, h⟩
 exact ⟨h0, h1, h2, fun c hc => List.all_eq_true.1 h3 c hc⟩
def pointP (fr : Bs) : Bs := if fr = [] then [] else 46 :: fr
def plainP (m : Nat) : Bs := Lib.decDigits (m / 1000) ++ pointP (fracP (m % 1000))
theorem not_dig46 : digI (nv 46) = false := by decide
theorem sum_is {m : Nat} (hm : m <= 1000000000) : addD (addD (addD ((Lib.decDigits (m / 1000)).foldl addD 0) ((fracP (m % 1000)).getD 0 48)) ((fracP (m % 1000)).getD 1 48)) ((fracP (m % 1000)).getD 2 48) = (m : Int) := by
 obtain ⟨h0, h1, h2, -⟩ := frac_is (r := m % 1000) (by omega)
 have a1 := addD_dig (n := ((m / 1000 : Nat) : Int)) (k := m % 1000 / 100) (by omega) (by omega)
 have a2 := addD_dig (n := 10 * ((m / 1000 : Nat) : Int) + ((m % 1000 / 100 : Nat) : Int)) (k := m % 1000 / 10 % 10) (by omega) (by omega)
 have a3 := addD_dig (n := 10 * (10 * ((m / 1000 : Nat) : Int) + ((m % 1000 / 100 : Nat) : Int)) + ((m % 1000 / 10 % 10 : Nat) : Int)) (k := m % 1000 % 10) (by omega) (by omega)
 rw [h0, h1, h2, dec_fold _ (by omega), a1, a2, a3]
 omega
theorem number_at (s u : Bs) (m : Nat) (hm : m <= 1000000000) (neg : Bool) (hu : ∀ c, u.head? = some c -> digI (nv c) = false /\ ¬ nv c = 46)
  (hs : (s = [] /\ neg = false) ∨ (s = [45] /\ neg = true)) :
  numberP (s ++ (plainP m ++ u)) = (if neg then -(m : Int) else (m : Int), s.length + (plainP m).length) := by
 have hW := dec_digs (m / 1000)
 have hWn := dec_ne (m / 1000)
 have hS := sum_is hm
 obtain ⟨-, -, -, hF⟩ := frac_is (r := m % 1000) (by omega)
 unfold plainP
 generalize Lib.decDigits (m / 1000) = W at *
 generalize fracP (m % 1000) = fr at *
 obtain ⟨c, W', rfl⟩ := List.exists_cons_of_ne_nil hWn
 have hc := hW c (by simp)
 simp [digI] at hc
 have hsign : signAt (s ++ (c :: W' ++ pointP fr ++ u)) = s.length /\ negP (s ++ (c :: W' ++ pointP fr ++ u)) = neg := by
  rcases hs with ⟨rfl, rfl⟩ | ⟨rfl, rfl⟩
  ·refine ⟨?_, ?_⟩
   ·show (if nv c = 43 ∨ nv c = 45 then 1 else 0) = 0
    rw [if_neg (by omega)]
   ·show decide (nv c = 45) = false
    exact decide_eq_false (by omega)
  ·exact ⟨rfl, rfl⟩
 obtain ⟨h1, h2⟩ := hsign
 have hrest : ∀ x, (pointP fr ++ u).head? = some x -> digI (nv x) = false := by
  intro x hx
  unfold pointP at hx
  split at hx
  ·exact (hu x (by simpa using hx)).1
  ·obtain rfl : (46 : UInt8) = x := by simpa using hx
   exact not_dig46
 have d1 : (s ++ (c :: W' ++ pointP fr ++ u)).drop s.length = (c :: W') ++ (pointP fr ++ u) := by
  rw [List.drop_left, List.append_assoc]
 have h3 := digits_app (c :: W') (pointP fr ++ u) hW hrest
 have d2 : (s ++ (c :: W' ++ pointP fr ++ u)).drop (s.length + (c :: W').length) = pointP fr ++ u := by
  rw [<- List.drop_drop, d1, List.drop_left]
 have h4 : behindP (pointP fr ++ u) = fr.length := by
  unfold pointP
  split
  ·rename_i h
   subst h
   cases u with
   | nil => rfl
   | cons x r =>
    show (if nv x = 46 then digitsP r else 0) = 0
    rw [if_neg (hu x rfl).2]
  ·show (if nv (46 : UInt8) = 46 then digitsP (fr ++ u) else 0) = fr.length
   rw [if_pos (by decide)]
   exact digits_app fr u hF (fun x hx => (hu x hx).1)
 have d3 : ((s ++ (c :: W' ++ pointP fr ++ u)).drop (s.length + (c :: W').length + 1)).take fr.length = fr := by
  rw [<- List.drop_drop, d2]
  unfold pointP
  split
  ·rename_i h
   subst h
   rfl
  ·simp
 have hsum : sumP (s ++ (c :: W' ++ pointP fr ++ u)) s.length (c :: W').length fr.length = (m : Int) := by
  unfold sumP
  rw [d1, List.take_left, d3]
  exact hS
 have hlen : (pointP fr).length = if fr.length = 0 then 0 else 1 + fr.length := by
  unfold pointP
  cases fr with
  | nil => rfl
  | cons x r => simp; omega
 unfold numberP
 rw [h1, h2, d1, h3, d2, h4]
 unfold numAt
 rw [if_neg (by simp), hsum]
 simp only [List.length_append, hlen]
 rw [Nat.add_assoc]
end dim
namespace dim
open Go.RowKit base tok
theorem unit_names {u : Bs} (h : u ∈ unitsL) : u = [] ∨ u = [37] ∨ (Lib.hasPrefix u [37] = false /\ beginsP u = true /\ nameP u = (u, u.length) /\ u.map lowB = u) := by
 simp only [unitsL, List.mem_cons, List.not_mem_nil, or_false] at h
 rcases h with rfl | rfl | rfl | rfl | rfl | rfl | rfl
 ·exact .inl rfl
 ·exact .inr (.inr ⟨by decide, by decide, by rw [nameP, if_neg (by decide), if_pos (by decide), nameP, if_pos (by decide)]; rfl, by decide⟩)
 ·exact .inr (.inr ⟨by decide, by decide, by rw [nameP, if_neg (by decide), if_pos (by decide), nameP, if_pos (by decide)]; rfl, by decide⟩)
 ·exact .inr (.inr ⟨by decide, by decide, by rw [nameP, if_neg (by decide), if_pos (by decide), nameP, if_neg (by decide), if_pos (by decide), nameP, if_pos (by decide)]; rfl, by decide⟩)
 ·exact .inr (.inr ⟨by decide, by decide, by rw [nameP, if_neg (by decide), if_pos (by decide), nameP, if_pos (by decide)]; rfl, by decide⟩)
 ·exact .inr (.inr ⟨by decide, by decide, by rw [nameP, if_neg (by decide), if_pos (by decide), nameP, if_pos (by decide)]; rfl, by decide⟩)
 ·exact .inr (.inl rfl)
theorem unit_head {u : Bs} (h : u ∈ unitsL) : ∀ c, u.head? = some c -> digI (nv c) = false /\ ¬ nv c = 46 := by
 simp only [unitsL, List.mem_cons, List.not_mem_nil, or_false] at h
 intro c hc
 rcases h with rfl | rfl | rfl | rfl | rfl | rfl | rfl <;> simp at hc <;> subst hc <;> exact ⟨by decide, by decide⟩
theorem space_head {l : Bs} {c : UInt8} (h : l.head? = some c) (hc : 33 <= nv c) : spaceP l = 0 := by
 cases l with
 | nil => cases h
 | cons a r =>
  obtain rfl : a = c := by simpa using h
  have hb : blankB a = false := by
   cases hb : blankB a
   ·rfl
   ·exfalso
    simp only [blankB, List.contains_eq_mem, List.mem_cons, List.not_mem_nil, or_false, decide_eq_true_eq] at hb
    rcases hb with rfl | rfl | rfl | rfl | rfl <;> revert hc <;> decide
  unfold spaceP
  rw [List.takeWhile_cons_of_neg (by simp [hb])]
  rfl
theorem prefix_head {l : Bs} {c : UInt8} (h : l.head? = some c) (hc : ¬ nv c = 47) : Lib.hasPrefix l [47, 42] = false := by
 cases l with
 | nil => cases h
 | cons a r =>
  obtain rfl : a = c := by simpa using h
  have ha : ((47 : UInt8) == a) = false := by
   rw [beq_eq_false_iff_ne]
   rintro rfl
   exact hc rfl
  unfold Lib.hasPrefix
  rw [List.isPrefixOf_cons_cons, ha]
  rfl
theorem text_cut (s u : Bs) (m : Nat) (hm : m <= 1000000000) (neg : Bool) (hu : u ∈ unitsL) (hs : (s = [] /\ neg = false) ∨ (s = [45] /\ neg = true)) :
  cutP (s ++ (plainP m ++ u)) = [⟨7, s ++ (plainP m ++ u), u, if neg then -(m : Int) else (m : Int)⟩] := by
 have hnum := number_at s u m hm neg (unit_head hu) hs
 obtain ⟨c, W, hW⟩ := List.exists_cons_of_ne_nil (dec_ne (m / 1000))
 have hcd := dec_digs (m / 1000) c (by rw [hW]; simp)
 simp [digI] at hcd
 have hhead : ∃ x, (s ++ (plainP m ++ u)).head? = some x /\ (nv x = 45 ∨ (48 <= nv x /\ nv x <= 57)) := by
  rcases hs with ⟨rfl, -⟩ | ⟨rfl, -⟩
  ·refine ⟨c, ?_, .inr hcd⟩
   unfold plainP
   rw [hW]
   rfl
  ·exact ⟨45, rfl, .inl rfl⟩
 have hpos : 0 < (plainP m).length := by
  unfold plainP
  rw [hW]
  simp
 obtain ⟨x, hx, hxr⟩ := hhead
 have hdrop : (s ++ (plainP m ++ u)).drop (s.length + (plainP m).length) = u := by
  rw [<- List.append_assoc, <- List.length_append, List.drop_left]
 have hlen : (s ++ (plainP m ++ u)).length = s.length + (plainP m).length + u.length := by
  simp only [List.length_append]
  omega
 generalize hL : s ++ (plainP m ++ u) = l at *
 have hn0 : 0 < s.length + (plainP m).length := by omega
 generalize s.length + (plainP m).length = n at *
 have hne : l ≠ [] := by
  rintro rfl
  cases hx
 have hq : quoteP l = false := by
  cases hq : quoteP l
  ·rfl
  ·have := quote_head hx hq
   omega
 have hf : firstP l = ⟨7, l, u, if neg then -(m : Int) else (m : Int)⟩ := by
  have htk : 0 < n -> firstP l = numTkP l (if neg then -(m : Int) else (m : Int)) n := by
   intro h0
   rw [firstP, if_neg (by rw [space_head hx (by omega)]; omega), if_neg (by rw [prefix_head hx (by omega)]; decide), if_neg (by rw [hq]; decide), if_neg (by rw [hash_head hx (by omega)]; decide),
    if_neg (by rw [at_head hx (by omega)]; decide), hnum, if_pos h0]
  rw [htk hn0]
  unfold numTkP
  rw [hdrop]
  rcases unit_names hu with rfl | rfl | ⟨h1, h2, h3, h4⟩
  ·rw [if_neg (by decide), if_neg (by decide), List.take_of_length_le (by rw [hlen]; simp)]
  ·rw [if_pos (by decide), List.take_of_length_le (by rw [hlen]; simp)]
  ·rw [if_neg (by rw [h1]; decide), if_pos h2, h3]
   simp only
   rw [h4, List.take_of_length_le (by omega)]
 rw [cutP_cons hne, hf]
 simp [cutP_nil]
end dim
namespace dim
open Go.RowKit base tok
theorem grow_below (w : World) (k : Nat) (os : Array Obj) : Below w.heap.size w (Go.Sort.grow (w.drewN k) os) := by
 refine ⟨rfl, rfl, rfl, ?_, fun i hi => ?_⟩
 ·simp [Go.Sort.grow]
 ·simp only [Go.Sort.grow]
  rw [Array.getElem?_append_left (by simpa using hi)]
  rfl
def PowAt (w : World) : Prop := 2 < w.heap.size /\ Lib.TabIs Tryz.prog w "internal/strconv.uint64pow10" .u64 Lib.pow10Tab
theorem PowAt.on {w w' : World} (h : PowAt w) (hb : Below w.heap.size w w') : PowAt w' := by
 refine ⟨Nat.lt_of_lt_of_le h.1 hb.size, ?_⟩
 have hg : Tryz.prog.globalNamed "internal/strconv.uint64pow10" = some 2 := by kernel_rfl
 have h2 := h.2
 unfold Lib.TabIs World.var? at h2 ⊢
 rw [hg] at h2 ⊢
 simp only [Option.bind_some] at h2 ⊢
 rw [hb.block _ h.1]
 exact h2
theorem itoa_ct (n : Int) (h0 : -9223372036854775808 <= n) (h1 : n <= 9223372036854775807) (w : World) (hT : PowAt w) :
  Calls Tryz.prog 50 #[.int .i64 n] w (rt w (.string (bs (Lib.itoa n)))) :=
 (Tryz.strconv_Itoa n h0 h1 w hT.2).mono fun e w' ⟨he, k, os, hw⟩ => ⟨he, by rw [hw]; exact grow_below w k os⟩
theorem trimR_ct (s : ByteArray) (w : World) (hs : s.size <= 9223372036854775807) :
  Calls Tryz.prog 51 #[.string s, .string ⟨#[48]⟩] w fun e w' => e = .returned (.string (bs (Lib.trimRightB s.data.toList 48))) /\ w' = w :=
 Tryz.strings_TrimRight_one s 48 (by decide) w hs
end dim
namespace dim
open Go.RowKit base tok
theorem three_len (r : Nat) : (bs (Lib.decDigits (1000 + r % 1000))).size = 4 := by
 rw [dec_three (by omega)]
 rfl
theorem three_drop (r : Nat) : Lib.trimRightB ((bs (Lib.decDigits (1000 + r % 1000))).extract 1 4).data.toList 48 = fracP (r % 1000) := by
 rw [dec_three (by omega)]
 rfl
theorem dec_len (u : Nat) (h : u <= 1000000000) : (Lib.decDigits u).length <= 10 := by
 have key : ∀ (k u : Nat), u < 10 ^ (k + 1) -> (Lib.decDigits u).length <= k + 1 := by
  intro k
  induction k with
  | zero =>
   intro u hu
   rw [Lib.decDigits_one (by omega)]
   simp
  | succ k ih =>
   intro u hu
   by_cases h10 : u < 10
   ·rw [Lib.decDigits_one h10]; simp
   ·rw [dec_step h10, List.length_append]
    have := ih (u / 10) (by rw [Nat.pow_succ] at hu; omega)
    simp
    omega
 exact key 9 u (by omega)
theorem frac_len {r : Nat} (h : r < 1000) : (fracP r).length <= 3 := by
 unfold fracP Lib.trimRightB
 rw [List.length_reverse]
 exact (List.dropWhile_suffix _).length_le
theorem text_plain (m : Nat) (hm : m <= 1000000000) (u : Bs) (hu : u.length <= 3) (w : World) (hT : PowAt w) :
  Calls Tryz.prog 29 #[.agg #[.int .i64 m, .string (bs u)]] w (rt w (.string (bs (plainP m ++ u)))) := by
 have q1 : (m : Int).tdiv 1000 = (m : Int) / 1000 := by rw [Int.tdiv_eq_ediv_of_nonneg (by omega)]
 have q2 : (m : Int).tmod 1000 = (m : Int) % 1000 := by rw [Int.tmod_eq_emod_of_nonneg (by omega)]
 have hl := three_len m
 have hd := three_drop m
 have hW := dec_len (m / 1000) (by omega)
 have hF := frac_len (r := m % 1000) (by omega)
 have cI1 : ∀ w, PowAt w -> Calls Tryz.prog 50 #[.int .i64 ((m : Int) / 1000)] w (rt w (.string (bs (Lib.decDigits (m / 1000))))) := fun w h => by
  rw [show (m : Int) / 1000 = ((m / 1000 : Nat) : Int) from by omega]
  have := itoa_ct ((m / 1000 : Nat) : Int) (by omega) (by omega) w h
  rwa [show Lib.itoa ((m / 1000 : Nat) : Int) = Lib.decDigits (m / 1000) from by unfold Lib.itoa; rw [if_neg (by omega)]; rfl] at this
 have cI2 : ∀ w, PowAt w -> Calls Tryz.prog 50 #[.int .i64 (1000 + (m : Int) % 1000)] w (rt w (.string (bs (Lib.decDigits (1000 + m % 1000))))) := fun w h => by
  rw [show (m : Int) % 1000 = ((m % 1000 : Nat) : Int) from by omega]
  have := itoa_ct (1000 + ((m % 1000 : Nat) : Int)) (by omega) (by omega) w h
  rwa [show Lib.itoa (1000 + ((m % 1000 : Nat) : Int)) = Lib.decDigits (1000 + m % 1000) from by unfold Lib.itoa; rw [if_neg (by omega)]; congr 1] at this
 have cR : ∀ w, Calls Tryz.prog 51 #[.string ((bs (Lib.decDigits (1000 + m % 1000))).extract 1 4), .string ⟨#[48]⟩] w fun e w' => e = .returned (.string (bs (fracP (m % 1000)))) /\ w' = w := fun w => by
  have := trimR_ct ((bs (Lib.decDigits (1000 + m % 1000))).extract 1 4) w (by simp only [ByteArray.size_extract]; omega)
  rwa [hd] at this
 have m1 : max (m : Int) (-1000000000) = m := by omega
 have m2 : min (m : Int) 1000000000 = m := by omega
 have lt : decide ((m : Int) < 0) = false := decide_eq_false (by omega)
 have r1 := IntWalk.i64_in ((m : Int) / 1000) (by omega)
 have r2 := IntWalk.i64_in ((m : Int) % 1000) (by omega)
 have r3 := IntWalk.i64_in (1000 + (m : Int) % 1000) (by omega)
 have hZ : ByteArray.empty ++ bs (Lib.decDigits (m / 1000)) = bs (Lib.decDigits (m / 1000)) := by simp [bs]
 replace cI1 := hid cI1
 replace cI2 := hid cI2
 replace cR := hid cR
 replace hd := hid hd
 have hP : plainP m = Lib.decDigits (m / 1000) ++ pointP (fracP (m % 1000)) := rfl
 rw [hP]
 clear hP
 generalize hWd : Lib.decDigits (m / 1000) = Wd at *
 generalize hDd : Lib.decDigits (1000 + m % 1000) = D at *
 generalize hFd : fracP (m % 1000) = fr at *
 replace hWd := hid hWd
 replace hDd := hid hDd
 replace hFd := hid hFd
 have y1 : (bs Wd).size = Wd.length := rfl
 have y2 : (bs fr).size = fr.length := rfl
 have y3 : (bs u).size = u.length := rfl
 have z1 : ¬ 9223372036854775807 < 1 + (bs fr).size := by omega
 have z2 : ¬ 9223372036854775807 < (bs Wd).size + (1 + (bs fr).size) := by omega
 have z3 : ¬ 9223372036854775807 < (bs Wd).size + (1 + (bs fr).size) + (bs u).size := by omega
 have z4 : ¬ 9223372036854775807 < (bs Wd).size + (bs u).size := by omega
 have z5 : ¬ 9223372036854775807 < (bs Wd).size := by omega
 clear y1 y2 y3
 by_cases hfr : fr = []
 ·have t1 : (bs fr).toList = [] := by rw [bs_toList, hfr]
  have hend := hid (show (⟨#[]⟩ : ByteArray) ++ bs Wd ++ bs u = bs (Wd ++ pointP fr ++ u) by unfold pointP; rw [if_pos hfr]; exact ByteArray.ext (by simp [bs, ByteArray.data_append]))
  clear hfr
  go_enter Tryz.func29, Tryz.ntmps29
  go_wp2_with (first
   | (go_at_call 50; (with_reducible refine (cI1.out _ (hT.on (ba w _))).mono ?_); rintro e W1 ⟨rfl, hb1⟩; have HB1 := hid ((ba w _).trans (hb1.mono (by simp))); have hblk := (Blk.new (w := w) (t := 47) (cs := #[.int .i64 m, .string (bs u)]) rfl).below hb1 (by simp); replace hblk := hid hblk; clear hb1)
   | (go_at_call 50; (with_reducible refine (cI2.out _ (hT.on HB1.out)).mono ?_); rintro e W2 ⟨rfl, hb2⟩; have HB2 := hid (tb HB1 hb2); have hblk2 := hblk.out.below hb2 hblk.out.lt; have p2 := hblk2.cell; clear hb2)
   | (go_at_call 51; (with_reducible refine (cR.out _).mono ?_); rintro e W3 ⟨rfl, rfl⟩))
  go_ret
  exact ⟨by rw [<- hend.out]; rfl, HB2.out⟩
 ·have t1 : (bs fr).toList.isEmpty = false := by rw [bs_toList]; simpa using hfr
  have hend := hid (show (⟨#[]⟩ : ByteArray) ++ bs Wd ++ (⟨#[46]⟩ ++ bs fr) ++ bs u = bs (Wd ++ pointP fr ++ u) by unfold pointP; rw [if_neg hfr]; exact ByteArray.ext (by simp [bs, ByteArray.data_append]))
  clear hfr
  go_enter Tryz.func29, Tryz.ntmps29
  go_wp2_with (first
   | (go_at_call 50; (with_reducible refine (cI1.out _ (hT.on (ba w _))).mono ?_); rintro e W1 ⟨rfl, hb1⟩; have HB1 := hid ((ba w _).trans (hb1.mono (by simp))); have hblk := (Blk.new (w := w) (t := 47) (cs := #[.int .i64 m, .string (bs u)]) rfl).below hb1 (by simp); replace hblk := hid hblk; clear hb1)
   | (go_at_call 50; (with_reducible refine (cI2.out _ (hT.on HB1.out)).mono ?_); rintro e W2 ⟨rfl, hb2⟩; have HB2 := hid (tb HB1 hb2); have hblk2 := hblk.out.below hb2 hblk.out.lt; have p2 := hblk2.cell; clear hb2)
   | (go_at_call 51; (with_reducible refine (cR.out _).mono ?_); rintro e W3 ⟨rfl, rfl⟩))
  go_ret
  exact ⟨by rw [<- hend.out]; rfl, HB2.out⟩
end dim
namespace dim
open Go.RowKit base tok
theorem text_minus (m : Nat) (hm : m <= 1000000000) (h0 : 1 <= m) (u : Bs) (hu : u.length <= 3) (w : World) (hT : PowAt w) :
  Calls Tryz.prog 29 #[.agg #[.int .i64 (-(m : Int)), .string (bs u)]] w (rt w (.string (bs ([45] ++ (plainP m ++ u))))) := by
 have q1 : (m : Int).tdiv 1000 = (m : Int) / 1000 := by rw [Int.tdiv_eq_ediv_of_nonneg (by omega)]
 have q2 : (m : Int).tmod 1000 = (m : Int) % 1000 := by rw [Int.tmod_eq_emod_of_nonneg (by omega)]
 have hl := three_len m
 have hd := three_drop m
 have hW := dec_len (m / 1000) (by omega)
 have hF := frac_len (r := m % 1000) (by omega)
 have cI1 : ∀ w, PowAt w -> Calls Tryz.prog 50 #[.int .i64 ((m : Int) / 1000)] w (rt w (.string (bs (Lib.decDigits (m / 1000))))) := fun w h => by
  rw [show (m : Int) / 1000 = ((m / 1000 : Nat) : Int) from by omega]
  have := itoa_ct ((m / 1000 : Nat) : Int) (by omega) (by omega) w h
  rwa [show Lib.itoa ((m / 1000 : Nat) : Int) = Lib.decDigits (m / 1000) from by unfold Lib.itoa; rw [if_neg (by omega)]; rfl] at this
 have cI2 : ∀ w, PowAt w -> Calls Tryz.prog 50 #[.int .i64 (1000 + (m : Int) % 1000)] w (rt w (.string (bs (Lib.decDigits (1000 + m % 1000))))) := fun w h => by
  rw [show (m : Int) % 1000 = ((m % 1000 : Nat) : Int) from by omega]
  have := itoa_ct (1000 + ((m % 1000 : Nat) : Int)) (by omega) (by omega) w h
  rwa [show Lib.itoa (1000 + ((m % 1000 : Nat) : Int)) = Lib.decDigits (1000 + m % 1000) from by unfold Lib.itoa; rw [if_neg (by omega)]; congr 1] at this
 have cR : ∀ w, Calls Tryz.prog 51 #[.string ((bs (Lib.decDigits (1000 + m % 1000))).extract 1 4), .string ⟨#[48]⟩] w fun e w' => e = .returned (.string (bs (fracP (m % 1000)))) /\ w' = w := fun w => by
  have := trimR_ct ((bs (Lib.decDigits (1000 + m % 1000))).extract 1 4) w (by simp only [ByteArray.size_extract]; omega)
  rwa [hd] at this
 have m1 : max (-(m : Int)) (-1000000000) = -m := by omega
 have m2 : min (-(m : Int)) 1000000000 = -m := by omega
 have m3 : IntKind.i64.wrap (- -(m : Int)) = m := by rw [Int.neg_neg]; exact IntWalk.i64_in _ (by omega)
 have lt : decide (-(m : Int) < 0) = true := decide_eq_true (by omega)
 have r1 := IntWalk.i64_in ((m : Int) / 1000) (by omega)
 have r2 := IntWalk.i64_in ((m : Int) % 1000) (by omega)
 have r3 := IntWalk.i64_in (1000 + (m : Int) % 1000) (by omega)
 have hZ : ByteArray.empty ++ bs (Lib.decDigits (m / 1000)) = bs (Lib.decDigits (m / 1000)) := by simp [bs]
 replace cI1 := hid cI1
 replace cI2 := hid cI2
 replace cR := hid cR
 replace hd := hid hd
 have hP : plainP m = Lib.decDigits (m / 1000) ++ pointP (fracP (m % 1000)) := rfl
 rw [hP]
 clear hP
 generalize hWd : Lib.decDigits (m / 1000) = Wd at *
 generalize hDd : Lib.decDigits (1000 + m % 1000) = D at *
 generalize hFd : fracP (m % 1000) = fr at *
 replace hWd := hid hWd
 replace hDd := hid hDd
 replace hFd := hid hFd
 have y1 : (bs Wd).size = Wd.length := rfl
 have y2 : (bs fr).size = fr.length := rfl
 have y3 : (bs u).size = u.length := rfl
 have z1 : ¬ 9223372036854775807 < 1 + (bs fr).size := by omega
 have z2 : ¬ 9223372036854775807 < 1 + (bs Wd).size + (1 + (bs fr).size) := by omega
 have z3 : ¬ 9223372036854775807 < 1 + (bs Wd).size + (1 + (bs fr).size) + (bs u).size := by omega
 have z4 : ¬ 9223372036854775807 < 1 + (bs Wd).size + (bs u).size := by omega
 have z5 : ¬ 9223372036854775807 < 1 + (bs Wd).size := by omega
 clear y1 y2 y3
 by_cases hfr : fr = []
 ·have t1 : (bs fr).toList = [] := by rw [bs_toList, hfr]
  have hend := hid (show (⟨#[45]⟩ : ByteArray) ++ bs Wd ++ bs u = bs (45 :: (Wd ++ pointP fr ++ u)) by unfold pointP; rw [if_pos hfr]; exact ByteArray.ext (by simp [bs, ByteArray.data_append]))
  clear hfr
  go_enter Tryz.func29, Tryz.ntmps29
  go_wp2_with (first
   | (go_at_call 50; (with_reducible refine (cI1.out _ (hT.on (ba w _))).mono ?_); rintro e W1 ⟨rfl, hb1⟩; have HB1 := hid ((ba w _).trans (hb1.mono (by simp))); have hblk := (Blk.new (w := w) (t := 47) (cs := #[.int .i64 (-(m : Int)), .string (bs u)]) rfl).below hb1 (by simp); replace hblk := hid hblk; clear hb1)
   | (go_at_call 50; (with_reducible refine (cI2.out _ (hT.on HB1.out)).mono ?_); rintro e W2 ⟨rfl, hb2⟩; have HB2 := hid (tb HB1 hb2); have hblk2 := hblk.out.below hb2 hblk.out.lt; have p2 := hblk2.cell; clear hb2)
   | (go_at_call 51; (with_reducible refine (cR.out _).mono ?_); rintro e W3 ⟨rfl, rfl⟩))
  go_ret
  exact ⟨by rw [<- hend.out]; rfl, HB2.out⟩
 ·have t1 : (bs fr).toList.isEmpty = false := by rw [bs_toList]; simpa using hfr
  have hend := hid (show (⟨#[45]⟩ : ByteArray) ++ bs Wd ++ (⟨#[46]⟩ ++ bs fr) ++ bs u = bs (45 :: (Wd ++ pointP fr ++ u)) by unfold pointP; rw [if_neg hfr]; exact ByteArray.ext (by simp [bs, ByteArray.data_append]))
  clear hfr
  go_enter Tryz.func29, Tryz.ntmps29
  go_wp2_with (first
   | (go_at_call 50; (with_reducible refine (cI1.out _ (hT.on (ba w _))).mono ?_); rintro e W1 ⟨rfl, hb1⟩; have HB1 := hid ((ba w _).trans (hb1.mono (by simp))); have hblk := (Blk.new (w := w) (t := 47) (cs := #[.int .i64 (-(m : Int)), .string (bs u)]) rfl).below hb1 (by simp); replace hblk := hid hblk; clear hb1)
   | (go_at_call 50; (with_reducible refine (cI2.out _ (hT.on HB1.out)).mono ?_); rintro e W2 ⟨rfl, hb2⟩; have HB2 := hid (tb HB1 hb2); have hblk2 := hblk.out.below hb2 hblk.out.lt; have p2 := hblk2.cell; clear hb2)
   | (go_at_call 51; (with_reducible refine (cR.out _).mono ?_); rintro e W3 ⟨rfl, rfl⟩))
  go_ret
  exact ⟨by rw [<- hend.out]; rfl, HB2.out⟩
end dim
namespace dim
open Go.RowKit base tok
def inB (n lo hi : Int) : Bool := decide (lo <= n) && decide (n <= hi)
def okP (n em rem vw vh : Int) : Bool := inB n (-1000000000) 1000000000 && inB em 0 16777216 && inB rem 0 16777216 && inB vw 1 4000 && inB vh 1 4000
def clipI (x : Int) : Int := min (max x (-16777216)) 16777216
theorem inB_iff (n lo hi : Int) : inB n lo hi = true ↔ lo <= n /\ n <= hi := by simp [inB]
theorem mulb {x y X Y : Int} (h0 : -X <= x) (h1 : x <= X) (k0 : 0 <= y) (k1 : y <= Y) : -(X * Y) <= x * y /\ x * y <= X * Y := by
 have hX : 0 <= X := by omega
 have a := Int.mul_le_mul_of_nonneg_right h1 k0
 have b := Int.mul_le_mul_of_nonneg_left k1 hX
 have c := Int.mul_le_mul_of_nonneg_right h0 k0
 rw [Int.neg_mul] at c
 omega
theorem in_b (n lo hi : Int) (w : World) :
  Calls Tryz.prog 135 #[.int .i64 n, .int .i64 lo, .int .i64 hi] w fun e w' => e = .returned (.bool (inB n lo hi)) /\ w' = w := in_ct n lo hi w
def refusedT : Value := .tuple #[.int .i64 0, .int .i64 1]
theorem okP_of {n em rem vw vh : Int} (h : okP n em rem vw vh = true) : inB n (-1000000000) 1000000000 = true /\ inB em 0 16777216 = true /\ inB rem 0 16777216 = true /\ inB vw 1 4000 = true /\ inB vh 1 4000 = true := by
 simp only [okP, Bool.and_eq_true] at h
 exact ⟨h.1.1.1.1, h.1.1.1.2, h.1.1.2, h.1.2, h.2⟩
theorem okP_not {n em rem vw vh : Int} (h : okP n em rem vw vh = false) : inB n (-1000000000) 1000000000 = false ∨ (inB n (-1000000000) 1000000000 = true /\ inB em 0 16777216 = false) ∨ (inB n (-1000000000) 1000000000 = true /\ inB em 0 16777216 = true /\ inB rem 0 16777216 = false) ∨
  (inB n (-1000000000) 1000000000 = true /\ inB em 0 16777216 = true /\ inB rem 0 16777216 = true /\ inB vw 1 4000 = false) ∨ (inB n (-1000000000) 1000000000 = true /\ inB em 0 16777216 = true /\ inB rem 0 16777216 = true /\ inB vw 1 4000 = true /\ inB vh 1 4000 = false) := by
 unfold okP at h
 cases h1 : inB n (-1000000000) 1000000000 <;> cases h2 : inB em 0 16777216 <;> cases h3 : inB rem 0 16777216 <;> cases h4 : inB vw 1 4000 <;> cases h5 : inB vh 1 4000 <;> simp_all
theorem px_bad (u : ByteArray) (n em rem vw vh : Int) (h : okP n em rem vw vh = false) (w : World) :
  Calls Tryz.prog 97 #[.agg #[.int .i64 n, .string u], .agg #[.int .i64 em, .int .i64 rem, .int .i64 vw, .int .i64 vh]] w fun e w' =>
   e = .returned refusedT /\ Below w.heap.size w w' := by
 rcases okP_not h with h1 | ⟨h1, h2⟩ | ⟨h1, h2, h3⟩ | ⟨h1, h2, h3, h4⟩ | ⟨h1, h2, h3, h4, h5⟩
 ·clear h
  go_enter Tryz.func97, Tryz.ntmps97
  go_wp2_with ((go_at_call 135; (with_reducible refine (in_b _ _ _ _).mono ?_); rintro e W1 ⟨rfl, rfl⟩))
  refine bodyPost_ret (v := refusedT) (by simp [results, Tryz.results97, go_sem, refusedT]) rfl ⟨rfl, ?_⟩
  exact (ba w _).alloc (by simp) _
 ·clear h
  go_enter Tryz.func97, Tryz.ntmps97
  go_wp2_with ((go_at_call 135; (with_reducible refine (in_b _ _ _ _).mono ?_); rintro e W1 ⟨rfl, rfl⟩))
  refine bodyPost_ret (v := refusedT) (by simp [results, Tryz.results97, go_sem, refusedT]) rfl ⟨rfl, ?_⟩
  exact (ba w _).alloc (by simp) _
 ·clear h
  go_enter Tryz.func97, Tryz.ntmps97
  go_wp2_with ((go_at_call 135; (with_reducible refine (in_b _ _ _ _).mono ?_); rintro e W1 ⟨rfl, rfl⟩))
  refine bodyPost_ret (v := refusedT) (by simp [results, Tryz.results97, go_sem, refusedT]) rfl ⟨rfl, ?_⟩
  exact (ba w _).alloc (by simp) _
 ·clear h
  go_enter Tryz.func97, Tryz.ntmps97
  go_wp2_with ((go_at_call 135; (with_reducible refine (in_b _ _ _ _).mono ?_); rintro e W1 ⟨rfl, rfl⟩))
  refine bodyPost_ret (v := refusedT) (by simp [results, Tryz.results97, go_sem, refusedT]) rfl ⟨rfl, ?_⟩
  exact (ba w _).alloc (by simp) _
 ·clear h
  go_enter Tryz.func97, Tryz.ntmps97
  go_wp2_with ((go_at_call 135; (with_reducible refine (in_b _ _ _ _).mono ?_); rintro e W1 ⟨rfl, rfl⟩))
  refine bodyPost_ret (v := refusedT) (by simp [results, Tryz.results97, go_sem, refusedT]) rfl ⟨rfl, ?_⟩
  exact (ba w _).alloc (by simp) _
theorem px_px (n em rem vw vh : Int) (h : okP n em rem vw vh = true) (w : World) :
  Calls Tryz.prog 97 #[.agg #[.int .i64 n, .string ⟨#[112, 120]⟩], .agg #[.int .i64 em, .int .i64 rem, .int .i64 vw, .int .i64 vh]] w fun e w' =>
   e = .returned (.tuple #[.int .i64 (clipI (n * 64 / 1000)), .int .i64 0]) /\ Below w.heap.size w w' := by
 obtain ⟨h1, h2, h3, h4, h5⟩ := okP_of h
 clear h
 have b1 := (inB_iff _ _ _).1 h1
 have b2 := (inB_iff _ _ _).1 h2
 have b3 := (inB_iff _ _ _).1 h3
 have b4 := (inB_iff _ _ _).1 h4
 have b5 := (inB_iff _ _ _).1 h5
 obtain ⟨m0, m1⟩ := mulb (x := n) (X := 1000000000) (y := 64) (Y := 64) (by omega) (by omega) (by omega) (by omega)
 have cD := hid (fun w => down1000_ct (n * 64) (by omega) (by omega) w)
 have cP := hid (fun w => clip_ct (n * 64 / 1000) w)
 have r1 := IntWalk.i64_in (n * 64) (by omega)
 clear b1 b2 b3 b4 b5 m0 m1
 go_enter Tryz.func97, Tryz.ntmps97
 go_wp2_with (first
  | (go_at_call 135; (with_reducible refine (in_b _ _ _ _).mono ?_); rintro e W1 ⟨rfl, rfl⟩)
  | (go_at_call 137; (with_reducible refine (cD.out _).mono ?_); rintro e W1 ⟨rfl, rfl⟩)
  | (go_at_call 136; (with_reducible refine (cP.out _).mono ?_); rintro e W1 ⟨rfl, rfl⟩))
 refine bodyPost_ret (v := .tuple #[.int .i64 (clipI (n * 64 / 1000)), .int .i64 0]) (by simp [results, Tryz.results97, go_sem, clipI]) rfl ⟨rfl, ?_⟩
 exact (ba w _).alloc (by simp) _
theorem px_em (n em rem vw vh : Int) (h : okP n em rem vw vh = true) (w : World) :
  Calls Tryz.prog 97 #[.agg #[.int .i64 n, .string ⟨#[101, 109]⟩], .agg #[.int .i64 em, .int .i64 rem, .int .i64 vw, .int .i64 vh]] w fun e w' =>
   e = .returned (.tuple #[.int .i64 (clipI (n * em / 1000)), .int .i64 0]) /\ Below w.heap.size w w' := by
 obtain ⟨h1, h2, h3, h4, h5⟩ := okP_of h
 clear h
 have b1 := (inB_iff _ _ _).1 h1
 have b2 := (inB_iff _ _ _).1 h2
 have b3 := (inB_iff _ _ _).1 h3
 have b4 := (inB_iff _ _ _).1 h4
 have b5 := (inB_iff _ _ _).1 h5
 obtain ⟨m0, m1⟩ := mulb (x := n) (X := 1000000000) (y := em) (Y := 16777216) (by omega) (by omega) (by omega) (by omega)
 have cD := hid (fun w => down1000_ct (n * em) (by omega) (by omega) w)
 have cP := hid (fun w => clip_ct (n * em / 1000) w)
 have r1 := IntWalk.i64_in (n * em) (by omega)
 clear b1 b2 b3 b4 b5 m0 m1
 go_enter Tryz.func97, Tryz.ntmps97
 go_wp2_with (first
  | (go_at_call 135; (with_reducible refine (in_b _ _ _ _).mono ?_); rintro e W1 ⟨rfl, rfl⟩)
  | (go_at_call 137; (with_reducible refine (cD.out _).mono ?_); rintro e W1 ⟨rfl, rfl⟩)
  | (go_at_call 136; (with_reducible refine (cP.out _).mono ?_); rintro e W1 ⟨rfl, rfl⟩))
 refine bodyPost_ret (v := .tuple #[.int .i64 (clipI (n * em / 1000)), .int .i64 0]) (by simp [results, Tryz.results97, go_sem, clipI]) rfl ⟨rfl, ?_⟩
 exact (ba w _).alloc (by simp) _
theorem px_rem (n em rem vw vh : Int) (h : okP n em rem vw vh = true) (w : World) :
  Calls Tryz.prog 97 #[.agg #[.int .i64 n, .string ⟨#[114, 101, 109]⟩], .agg #[.int .i64 em, .int .i64 rem, .int .i64 vw, .int .i64 vh]] w fun e w' =>
   e = .returned (.tuple #[.int .i64 (clipI (n * rem / 1000)), .int .i64 0]) /\ Below w.heap.size w w' := by
 obtain ⟨h1, h2, h3, h4, h5⟩ := okP_of h
 clear h
 have b1 := (inB_iff _ _ _).1 h1
 have b2 := (inB_iff _ _ _).1 h2
 have b3 := (inB_iff _ _ _).1 h3
 have b4 := (inB_iff _ _ _).1 h4
 have b5 := (inB_iff _ _ _).1 h5
 obtain ⟨m0, m1⟩ := mulb (x := n) (X := 1000000000) (y := rem) (Y := 16777216) (by omega) (by omega) (by omega) (by omega)
 have cD := hid (fun w => down1000_ct (n * rem) (by omega) (by omega) w)
 have cP := hid (fun w => clip_ct (n * rem / 1000) w)
 have r1 := IntWalk.i64_in (n * rem) (by omega)
 clear b1 b2 b3 b4 b5 m0 m1
 go_enter Tryz.func97, Tryz.ntmps97
 go_wp2_with (first
  | (go_at_call 135; (with_reducible refine (in_b _ _ _ _).mono ?_); rintro e W1 ⟨rfl, rfl⟩)
  | (go_at_call 137; (with_reducible refine (cD.out _).mono ?_); rintro e W1 ⟨rfl, rfl⟩)
  | (go_at_call 136; (with_reducible refine (cP.out _).mono ?_); rintro e W1 ⟨rfl, rfl⟩))
 refine bodyPost_ret (v := .tuple #[.int .i64 (clipI (n * rem / 1000)), .int .i64 0]) (by simp [results, Tryz.results97, go_sem, clipI]) rfl ⟨rfl, ?_⟩
 exact (ba w _).alloc (by simp) _
theorem px_vw (n em rem vw vh : Int) (h : okP n em rem vw vh = true) (w : World) :
  Calls Tryz.prog 97 #[.agg #[.int .i64 n, .string ⟨#[118, 119]⟩], .agg #[.int .i64 em, .int .i64 rem, .int .i64 vw, .int .i64 vh]] w fun e w' =>
   e = .returned (.tuple #[.int .i64 (clipI (n * (64 * vw) / 100000)), .int .i64 0]) /\ Below w.heap.size w w' := by
 obtain ⟨h1, h2, h3, h4, h5⟩ := okP_of h
 clear h
 have b1 := (inB_iff _ _ _).1 h1
 have b2 := (inB_iff _ _ _).1 h2
 have b3 := (inB_iff _ _ _).1 h3
 have b4 := (inB_iff _ _ _).1 h4
 have b5 := (inB_iff _ _ _).1 h5
 obtain ⟨m0, m1⟩ := mulb (x := n) (X := 1000000000) (y := (64 * vw)) (Y := 256000) (by omega) (by omega) (by omega) (by omega)
 have cD := hid (fun w => down100000_ct (n * (64 * vw)) (by omega) (by omega) w)
 have cP := hid (fun w => clip_ct (n * (64 * vw) / 100000) w)
 have r1 := IntWalk.i64_in (n * (64 * vw)) (by omega)
 have r0 := IntWalk.i64_in (64 * vw) (by omega)
 clear b1 b2 b3 b4 b5 m0 m1
 go_enter Tryz.func97, Tryz.ntmps97
 go_wp2_with (first
  | (go_at_call 135; (with_reducible refine (in_b _ _ _ _).mono ?_); rintro e W1 ⟨rfl, rfl⟩)
  | (go_at_call 137; (with_reducible refine (cD.out _).mono ?_); rintro e W1 ⟨rfl, rfl⟩)
  | (go_at_call 136; (with_reducible refine (cP.out _).mono ?_); rintro e W1 ⟨rfl, rfl⟩))
 refine bodyPost_ret (v := .tuple #[.int .i64 (clipI (n * (64 * vw) / 100000)), .int .i64 0]) (by simp [results, Tryz.results97, go_sem, clipI]) rfl ⟨rfl, ?_⟩
 exact (ba w _).alloc (by simp) _
theorem px_vh (n em rem vw vh : Int) (h : okP n em rem vw vh = true) (w : World) :
  Calls Tryz.prog 97 #[.agg #[.int .i64 n, .string ⟨#[118, 104]⟩], .agg #[.int .i64 em, .int .i64 rem, .int .i64 vw, .int .i64 vh]] w fun e w' =>
   e = .returned (.tuple #[.int .i64 (clipI (n * (64 * vh) / 100000)), .int .i64 0]) /\ Below w.heap.size w w' := by
 obtain ⟨h1, h2, h3, h4, h5⟩ := okP_of h
 clear h
 have b1 := (inB_iff _ _ _).1 h1
 have b2 := (inB_iff _ _ _).1 h2
 have b3 := (inB_iff _ _ _).1 h3
 have b4 := (inB_iff _ _ _).1 h4
 have b5 := (inB_iff _ _ _).1 h5
 obtain ⟨m0, m1⟩ := mulb (x := n) (X := 1000000000) (y := (64 * vh)) (Y := 256000) (by omega) (by omega) (by omega) (by omega)
 have cD := hid (fun w => down100000_ct (n * (64 * vh)) (by omega) (by omega) w)
 have cP := hid (fun w => clip_ct (n * (64 * vh) / 100000) w)
 have r1 := IntWalk.i64_in (n * (64 * vh)) (by omega)
 have r0 := IntWalk.i64_in (64 * vh) (by omega)
 clear b1 b2 b3 b4 b5 m0 m1
 go_enter Tryz.func97, Tryz.ntmps97
 go_wp2_with (first
  | (go_at_call 135; (with_reducible refine (in_b _ _ _ _).mono ?_); rintro e W1 ⟨rfl, rfl⟩)
  | (go_at_call 137; (with_reducible refine (cD.out _).mono ?_); rintro e W1 ⟨rfl, rfl⟩)
  | (go_at_call 136; (with_reducible refine (cP.out _).mono ?_); rintro e W1 ⟨rfl, rfl⟩))
 refine bodyPost_ret (v := .tuple #[.int .i64 (clipI (n * (64 * vh) / 100000)), .int .i64 0]) (by simp [results, Tryz.results97, go_sem, clipI]) rfl ⟨rfl, ?_⟩
 exact (ba w _).alloc (by simp) _
end dim
end Go.Proofs.YtlfkkaofgcongaaGreatDoor
