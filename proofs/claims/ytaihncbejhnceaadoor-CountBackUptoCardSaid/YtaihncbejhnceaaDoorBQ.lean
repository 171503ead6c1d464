/- Contracts and plain law, a bundle: Dim0 Dim1 DimL0 DimL1 DimL2 DimT DimT1 CntL Cnt0 Cnt1 Cnt2. -/
import Derived.Lib.LaidU8
import Derived.Deep.QuietTactic
import Derived.BigQuiet
import Derived.Lib.ItoaNum
import Derived.Lib.TrimByte
import Derived.Lib.LaidTab
import Derived.Lib.Case
import Derived.Test.YtaihncbejhnceaaDoorBB
import Derived.Test.YtaihncbejhnceaaDoorBC
import Derived.Test.YtaihncbejhnceaaDoorShelf
import Derived.Test.YtaihncbejhnceaaDoorShelfCnt
import Derived.Test.YtaihncbejhnceaaDoorBA
import Derived.Test.YtaihncbejhnceaaDoorBD

namespace Go.Proofs.YtaihncbejhnceaaDoor.dim
open Go.RowKit Go.Proofs.YtaihncbejhnceaaDoor.base Go.Proofs.YtaihncbejhnceaaDoor.tok
set_option linter.unusedVariables false

/-- strings lie there, one behind the other -/
def StrsAt (w : World) (R o : Nat) (L : List Bs) : Prop := R < w.heap.size ∧ ∀ (i : Nat) (s : Bs), L[i]? = some s → w.cell? ⟨R, o + i, none⟩ = some (.string (bs s))

theorem StrsAt.on {w w' : World} {R o : Nat} {L : List Bs} (h : StrsAt w R o L) (hb : Below w.heap.size w w') : StrsAt w' R o L :=
  ⟨Nat.lt_of_lt_of_le h.1 hb.size, fun i s hi => (hb.cell (p := ⟨R, o + i, none⟩) h.1).trans (h.2 i s hi)⟩

def strsData (L : List Bs) : DataW Unit := .slice (L.map fun s => .lit (.string s)) []

theorem strs_of_reads {P : Program} {w : World} {name : String} {g : Nat} {t e : TypeId} {L : List Bs} (hn : P.globalNamed name = some g) (hy : (P.globals[g]?).map (·.type) = some t)
    (ht : P.underlying t = some (.slice e)) (he : P.underlying e = some .string) (hc : P.cellsOf e = 1) (hl : 0 < L.length) (h : Lib.VarReads P w name (strsData L)) :
    ∃ R o cap, w.cell? ⟨g, 0, none⟩ = some (.slice (some ⟨R, o, none⟩) L.length cap) ∧ StrsAt w R o L := by
  obtain ⟨g', t', cs, fuel, p, hg, hty, hvar, hd⟩ := h
  obtain rfl := Option.some.inj (hn.symm.trans hg)
  obtain rfl := Option.some.inj (hy.symm.trans hty)
  rcases DataW.trod_slice ht hd with ⟨_, hx⟩ | ⟨a, len, cap, el, rs, m, rfl, hcs, hx, _, hlc, _, hel, helem, hsp, _⟩
  · cases hx
  have e0 := congrArg Prod.fst hx
  simp only [strsData, DataW.slice.injEq] at e0
  obtain ⟨eE, eR⟩ := e0
  have hlen : len = L.length := by
    have := congrArg List.length eE
    simp at this
    omega
  have hcell : ∀ i s, L[i]? = some s → w.cell? (a.add i) = some (.string (bs s)) := by
    intro i s hs
    have hi := (List.getElem?_eq_some_iff.1 hs).1
    have h1 := helem i (by omega)
    rw [hc] at h1
    obtain ⟨b, hb⟩ : ∃ b, el[i]? = some b := ⟨el[i]'(by omega), List.getElem?_eq_getElem (by omega)⟩
    rw [hb] at h1
    obtain ⟨ce, hce, hte⟩ := Option.bind_eq_some_iff.1 h1
    obtain ⟨z, hz, hbz, _⟩ := DataW.trod_string he hte
    have hb1 : b.1 = .lit (.string s) := by
      have := congrArg (·[i]?) eE
      simp [hb, hs] at this
      exact this.symm
    rw [hbz] at hb1
    simp only [DataW.lit.injEq, Lit.string.injEq] at hb1
    obtain ⟨_, _, hcc⟩ := World.cells?_some hce
    have := hcc 0 (by omega)
    rw [hz] at this
    simp only [Nat.mul_one] at this
    have e1 : (a.add i).add 0 = a.add i := by simp [Addr.add]
    rw [e1] at this
    rw [this, ← hb1]
    cases z
    simp [bs]
  obtain ⟨R, o, sR⟩ := a
  obtain ⟨s0, h0⟩ : ∃ s, L[0]? = some s := ⟨L[0], List.getElem?_eq_getElem hl⟩
  have h00 := hcell 0 s0 h0
  have ez : (Addr.add ⟨R, o, sR⟩ 0) = ⟨R, o, sR⟩ := by simp [Addr.add]
  rw [ez] at h00
  obtain rfl : sR = none := Go.Proofs.cell_spot h00
  refine ⟨R, o, cap, ?_, ?_, fun j s hj => ?_⟩
  · rw [World.var?_cell hg hvar 0, ← Array.getElem?_toList, hcs, hlen]
    rfl
  · rcases Nat.lt_or_ge R w.heap.size with hR | hR
    · exact hR
    · rw [World.cell?, Array.getElem?_eq_none hR] at h00
      cases h00
  · have := hcell j s hj
    rwa [Addr.add_lit] at this


set_option maxRecDepth 100000 in
set_option maxHeartbeats 2000000 in
/-- the place of the first one that is it; -1 -/
theorem index_ct (w : World) (R o cap : Nat) (L : List Bs) (s : Bs) (h : StrsAt w R o L) (hc : L.length ≤ maxLen) :
    Calls Tryd.prog 91 #[.slice (some ⟨R, o, none⟩) L.length cap, .string (bs s)] w fun e w' => (∃ r : Int, e = .returned (.int .i64 r) ∧ (0 ≤ r ↔ s ∈ L)) ∧ w' = w := by
  have H := Lib.hid h
  unfold maxLen at hc
  obtain ⟨n, hn⟩ : ∃ n, L.length = n := ⟨_, rfl⟩
  rw [hn] at hc
  rw [hn]
  clear h
  go_enter Tryd.func91, Tryd.ntmps91
  go_wp2_with fail
  go_loopw [8] (fun i wr => ∃ k : Nat, k ≤ n ∧ i = .int .i64 k ∧ (∀ x ∈ L.take k, ¬ x = s) ∧ wr = w) (fun i _ => n - (intOf i).toNat)
  case atStart => exact ⟨0, by omega, rfl, by simp, rfl⟩
  case round =>
    obtain ⟨k, hk, rfl, hno, rfl⟩ := hrel
    replace hno := Lib.hid hno
    by_cases hlt : k < n
    · have hlt' : (k : Int) < (n : Int) := by omega
      have hkl : k < L.length := by omega
      have hx := List.getElem?_eq_getElem hkl
      generalize hxd : L[k] = x at hx
      have e0 := H.out.2 k x hx
      by_cases hxs : s = x
      · have hmem : s ∈ L := by
          rw [hxs]
          exact List.mem_of_getElem? hx
        have heq : ((bs s).toList == (bs x).toList) = true := by rw [hxs]; simp
        replace hmem := Lib.hid hmem
        replace hxs := Lib.hid hxs
        clear hx hxd
        go_wp2
        go_ret
        exact ⟨⟨_, rfl, iff_of_true (by omega) hmem.out⟩, rfl⟩
      · have heq : ((bs s).toList == (bs x).toList) = false := by
          rw [bs_toList, bs_toList]
          simpa using hxs
        have hno2 := Lib.hid (show ∀ y ∈ L.take (k + 1), ¬ y = s from by
          rw [List.take_succ_eq_append_getElem hkl]
          intro y hy
          rcases List.mem_append.1 hy with hy | hy
          · exact hno.out y hy
          · obtain rfl : y = L[k] := by simpa using hy
            rw [hxd]
            exact fun e => hxs e.symm)
        replace hxs := Lib.hid hxs
        clear hx hxd
        go_wp2
        go_roundw
        case rel => exact ⟨k + 1, by omega, by go_num, hno2.out, trivial⟩
        case measure => simp [intOf]; omega
    · obtain rfl : k = n := by omega
      have hnm : ¬ s ∈ L := fun hm => hno.out s (by rw [← hn, List.take_length]; exact hm) rfl
      replace hnm := Lib.hid hnm
      go_wp2
      go_ret
      exact ⟨⟨_, rfl, iff_of_false (by omega) hnm.out⟩, rfl⟩

theorem contains_ct (w : World) (R o cap : Nat) (L : List Bs) (s : Bs) (h : StrsAt w R o L) (hc : L.length ≤ maxLen) (hm : s ∈ L) :
    Calls Tryd.prog 137 #[.slice (some ⟨R, o, none⟩) L.length cap, .string (bs s)] w fun e w' => e = .returned (.bool true) ∧ w' = w := by
  have cI := Lib.hid ((index_ct w R o cap L s h hc).mono (R' := fun e w' => ∃ r : Int, e = .returned (.int .i64 r) ∧ decide (r ≥ 0) = true ∧ w' = w) fun e w' ⟨⟨r, he, hr⟩, hw⟩ => ⟨r, he, decide_eq_true (hr.2 hm), hw⟩)
  generalize L.length = n at *
  go_enter Tryd.func137, Tryd.ntmps137
  go_wp2_with ((go_at_call 91; (with_reducible refine cI.out.mono ?_); rintro e w1 ⟨r, rfl, hr, rfl⟩))
  go_ret
  exact ⟨rfl, rfl⟩

theorem ret_int {a b : Int} (h : a = b) : Ending.returned (.int .i64 a) = .returned (.int .i64 b) := by rw [h]

/-- rounding down -/
theorem quo_1000 (a : Int) : a / 1000 = if a.tmod 1000 < 0 then a.tdiv 1000 - 1 else a.tdiv 1000 := by
  have h1 := Int.mul_tdiv_add_tmod a 1000
  have h5 := Int.tmod_lt_of_pos a (show (0 : Int) < 1000 by decide)
  have h6 := Int.lt_tmod_of_pos a (show (0 : Int) < 1000 by decide)
  split <;> omega

theorem quo_100000 (a : Int) : a / 100000 = if a.tmod 100000 < 0 then a.tdiv 100000 - 1 else a.tdiv 100000 := by
  have h1 := Int.mul_tdiv_add_tmod a 100000
  have h5 := Int.tmod_lt_of_pos a (show (0 : Int) < 100000 by decide)
  have h6 := Int.lt_tmod_of_pos a (show (0 : Int) < 100000 by decide)
  split <;> omega

end Go.Proofs.YtaihncbejhnceaaDoor.dim

namespace Go.Proofs.YtaihncbejhnceaaDoor.dim
open Go.RowKit Go.Proofs.YtaihncbejhnceaaDoor.base Go.Proofs.YtaihncbejhnceaaDoor.tok
set_option linter.unusedVariables false

def unitsL : List Bs := [[], [112, 120], [101, 109], [114, 101, 109], [118, 119], [118, 104], [37]]

/-- dim.units as it is laid -/
def UnitsAt (w : World) : Prop := 0 < w.heap.size ∧ ∃ R o cap, w.cell? ⟨0, 0, none⟩ = some (.slice (some ⟨R, o, none⟩) 7 cap) ∧ StrsAt w R o unitsL
theorem UnitsAt.on {w w' : World} (h : UnitsAt w) (hb : Below w.heap.size w w') : UnitsAt w' := by
  obtain ⟨h0, R, o, cap, hc, hs⟩ := h
  exact ⟨Nat.lt_of_lt_of_le h0 hb.size, R, o, cap, (hb.cell (p := ⟨_, 0, none⟩) h0).trans hc, hs.on hb⟩

theorem one_tok {w : World} {B : Nat} {A : Option Addr} {t : Tk} (h : TRd w B A 1 [t]) : ∃ b off, A = some ⟨b, off, none⟩ ∧ b < B ∧
    w.cell? ⟨b, off, none⟩ = some (.int .i64 t.k) ∧ w.cell? ⟨b, off + 1, none⟩ = some (.string (bs t.raw)) ∧ w.cell? ⟨b, off + 2, none⟩ = some (.string (bs t.val)) ∧ w.cell? ⟨b, off + 3, none⟩ = some (.int .i64 t.num) := by
  obtain ⟨b, off, u, hA, hlt, hd, e0, e1, e2, e3⟩ := TRd.tok h (show 0 < 1 by decide)
  obtain rfl : t = u := by simpa using hd
  simp only [Nat.zero_mul, Nat.add_zero] at e0 e1 e2 e3
  exact ⟨b, off, hA, hlt, e0, e1, e2, e3⟩

set_option maxRecDepth 100000 in
set_option maxHeartbeats 4000000 in
theorem read_ct (s : ByteArray) (hs : s.size < 4294967281) (raw u : Bs) (n : Int) (hcut : cutP s.data.toList = [⟨7, raw, u, n⟩]) (hu : u ∈ unitsL) (w : World) (hm : MaxL w) (hU : UnitsAt w) :
    Calls Tryd.prog 86 #[.string s] w fun e w' => e = .returned (.tuple #[.agg #[.int .i64 n, .string (bs u)], .int .i64 0]) ∧ Below w.heap.size w w' := by
  have cC : ∀ w, MaxL w → Calls Tryd.prog 32 #[.string s] w fun e w' => (∃ b off cap, e = .returned (.slice (some ⟨b, off, none⟩) 1 cap) ∧ b < w'.heap.size ∧ w'.cell? ⟨b, off, none⟩ = some (.int .i64 7) ∧ w'.cell? ⟨b, off + 1, none⟩ = some (.string (bs raw)) ∧ w'.cell? ⟨b, off + 2, none⟩ = some (.string (bs u)) ∧ w'.cell? ⟨b, off + 3, none⟩ = some (.int .i64 n)) ∧ Below w.heap.size w w' := fun w hm =>
    (cut_ct s hs w hm).mono fun e w' ⟨⟨A, cap, he, _, hr⟩, hb⟩ => by
      rw [hcut] at he hr
      obtain ⟨b, off, rfl, hlt, e0, e1, e2, e3⟩ := one_tok hr
      exact ⟨⟨b, off, cap, he, hlt, e0, e1, e2, e3⟩, hb⟩
  replace cC := Lib.hid cC
  replace hcut := Lib.hid hcut
  replace hU := Lib.hid hU
  replace hu := Lib.hid hu
  go_enter Tryd.func86, Tryd.ntmps86
  go_wp2_with ((go_at_call 32; (with_reducible refine (cC.out _ (hm.on ((Below.refl w.heap.size w).alloc (Nat.le_refl _) _) hm.lt)).mono ?_); rintro e W1 ⟨⟨b, off, cap, rfl, hlt, e0, e1, e2, e3⟩, hb1⟩; have HB1 := Lib.hid (((Below.refl w.heap.size w).alloc (Nat.le_refl _) _).trans (hb1.mono (by simp))); have hblk := (Blk.new (w := w) (t := 48) (cs := #[.int .i64 0, .string .empty]) rfl).below hb1 (by simp)))
  obtain ⟨hg, R, o, ucap, hc, hst⟩ := hU.out.on HB1.out
  have cI : ∀ n, Calls Tryd.prog 137 #[.slice (some ⟨R, o, none⟩) 7 ucap, .string (bs u)] (W1.drewN n) fun e w' => e = .returned (.bool true) ∧ W1.drewN n = w' := fun n => (contains_ct (W1.drewN n) R o ucap unitsL u hst (by decide) hu.out).mono fun e w' ⟨he, hw⟩ => ⟨he, hw.symm⟩
  replace cI := Lib.hid cI
  have hx : (0 : Int) < 1 := by decide
  go_quiet ((go_at_call 137; exact quiet_left (cI.out _)))
  go_wp2_with fail
  have r1 := hblk.cell
  have r2 := hblk.frozen
  have r3 := fun v => (hblk.put 0 v).cell
  have r4 := fun v => (hblk.put 0 v).frozen
  go_region
  go_wp2
  have e := (((hblk.drewN (nq + 1)).put 0 (.int .i64 n)).put 1 (.string (bs u))).cell
  refine bodyPost_ret (v := .tuple #[.agg #[.int .i64 n, .string (bs u)], .int .i64 0]) (by simp [results, Tryd.results86, go_sem, e]) rfl ⟨rfl, ?_⟩
  exact ((Go.Proofs.YtaihncbejhnceaaDoor.base.below_drewN HB1.out (nq + 1)).setCell (Nat.le_refl _) _).setCell (Nat.le_refl _) _

theorem cut_half : cutP [49, 46, 53, 48, 101, 109] = [⟨7, [49, 46, 53, 48, 101, 109], [101, 109], 1500⟩] := by
  have f3 : firstP [49, 46, 53, 48, 101, 109] = ⟨7, [49, 46, 53, 48, 101, 109], [101, 109], 1500⟩ := by
    have hn : nameP [101, 109] = ([101, 109], 2) := by
      rw [nameP, if_neg (by decide), if_pos (by decide), nameP, if_pos (by decide)]
    have hnum : numberP [49, 46, 53, 48, 101, 109] = (1500, 4) := by decide
    rw [firstP, if_neg (by decide), if_neg (by decide), if_neg (by decide), if_neg (by decide), if_neg (by decide), hnum, if_pos (by decide)]
    simp only [numTkP]
    rw [if_neg (by decide), if_pos (by decide)]
    simp only [List.drop_succ_cons, List.drop_zero, hn]
    decide
  rw [cutP_cons (by decide), f3]
  simp [cutP_nil]

theorem run_eq_dim (a b : Int × Bs) (w : World) : (binOp .eql 48 (.agg #[.int .i64 a.1, .string (bs a.2)]) (.agg #[.int .i64 b.1, .string (bs b.2)])).run Tryd.prog w = .ok (.bool (decide (a = b))) w := by
  rw [run_eql_struct, run_equalIn_agg w _ _ _ _ (by kernel_rfl) (by kernel_rfl)]
  simp only [Program.fieldsOf, Tryd.underlying48]
  obtain ⟨k1, r1⟩ := a
  obtain ⟨k2, r2⟩ := b
  simp [Op.eqFields, go_sem, Tryd.underlying9, Tryd.underlying3, bs_toList]
  (repeat' split) <;> simp_all

end Go.Proofs.YtaihncbejhnceaaDoor.dim

namespace Go.Proofs.YtaihncbejhnceaaDoor.dim
open Go.RowKit Go.Proofs.YtaihncbejhnceaaDoor.base Go.Proofs.YtaihncbejhnceaaDoor.tok
set_option linter.unusedVariables false

theorem nv_dig {k : Nat} (h : k < 10) : nv (UInt8.ofNat (48 + k)) = 48 + (k : Int) := by
  simp only [nv, UInt8.toNat_ofNat']
  omega
theorem dig_dig {k : Nat} (h : k < 10) : digI (nv (UInt8.ofNat (48 + k))) = true := by
  rw [nv_dig h]
  simp [digI]
  omega
theorem addD_dig {n : Int} {k : Nat} (h : k < 10) (hn : 10 * n + k ≤ 1000000000) : addD n (UInt8.ofNat (48 + k)) = 10 * n + k := by
  unfold addD
  rw [nv_dig h]
  omega

theorem dec_step {u : Nat} (h : ¬ u < 10) : Lib.decDigits u = Lib.decDigits (u / 10) ++ [UInt8.ofNat (48 + u % 10)] := by
  rw [Lib.decDigits, dif_neg h]

theorem dec_fold : ∀ (u : Nat), u ≤ 1000000000 → (Lib.decDigits u).foldl addD 0 = (u : Int) := by
  intro u
  induction u using Nat.strongRecOn with
  | _ u ih =>
    intro hu
    by_cases h : u < 10
    · rw [Lib.decDigits_one h]
      simp only [List.foldl_cons, List.foldl_nil]
      rw [addD_dig h (by omega)]
      omega
    · rw [dec_step h, List.foldl_append, ih (u / 10) (by omega) (by omega)]
      simp only [List.foldl_cons, List.foldl_nil]
      rw [addD_dig (by omega) (by omega)]
      omega
theorem dec_digs : ∀ (u : Nat), ∀ c ∈ Lib.decDigits u, digI (nv c) = true := by
  intro u
  induction u using Nat.strongRecOn with
  | _ u ih =>
    by_cases h : u < 10
    · rw [Lib.decDigits_one h]
      intro c hc
      obtain rfl : c = UInt8.ofNat (48 + u) := by simpa using hc
      exact dig_dig h
    · rw [dec_step h]
      intro c hc
      rcases List.mem_append.1 hc with hc | hc
      · exact ih (u / 10) (by omega) c hc
      · obtain rfl : c = UInt8.ofNat (48 + u % 10) := by simpa using hc
        exact dig_dig (by omega)
theorem dec_ne (u : Nat) : Lib.decDigits u ≠ [] := by
  by_cases h : u < 10
  · rw [Lib.decDigits_one h]; simp
  · rw [dec_step h]; simp

/-- three digits behind a one -/
theorem dec_three {r : Nat} (h : r < 1000) : Lib.decDigits (1000 + r) = 49 :: [UInt8.ofNat (48 + r / 100), UInt8.ofNat (48 + r / 10 % 10), UInt8.ofNat (48 + r % 10)] := by
  rw [dec_step (by omega), dec_step (u := (1000 + r) / 10) (by omega), dec_step (u := (1000 + r) / 10 / 10) (by omega), Lib.decDigits_one (i := (1000 + r) / 10 / 10 / 10) (by omega)]
  have e1 : (1000 + r) / 10 / 10 / 10 = 1 := by omega
  have e2 : (1000 + r) / 10 / 10 % 10 = r / 100 := by omega
  have e3 : (1000 + r) / 10 % 10 = r / 10 % 10 := by omega
  have e4 : (1000 + r) % 10 = r % 10 := by omega
  rw [e1, e2, e3, e4]
  rfl

/-- how many digits begin what begins with digits -/
theorem digits_app (d r : Bs) (hd : ∀ c ∈ d, digI (nv c) = true) (hr : ∀ c, r.head? = some c → digI (nv c) = false) : digitsP (d ++ r) = d.length := by
  unfold digitsP
  induction d with
  | nil =>
    cases r with
    | nil => rfl
    | cons c r => simp [hr c rfl]
  | cons c d ih =>
    simp only [List.cons_append, List.takeWhile_cons, hd c (by simp), if_true, List.length_cons]
    rw [ih (fun x hx => hd x (by simp [hx]))]

end Go.Proofs.YtaihncbejhnceaaDoor.dim

namespace Go.Proofs.YtaihncbejhnceaaDoor.dim
open Go.RowKit Go.Proofs.YtaihncbejhnceaaDoor.base Go.Proofs.YtaihncbejhnceaaDoor.tok
set_option linter.unusedVariables false

/-- the digits behind the point -/
def fracP (r : Nat) : Bs := Lib.trimRightB [UInt8.ofNat (48 + r / 100), UInt8.ofNat (48 + r / 10 % 10), UInt8.ofNat (48 + r % 10)] 48

set_option maxRecDepth 100000 in
theorem frac_all : ∀ r : Fin 1000, (fracP r.val).getD 0 48 = UInt8.ofNat (48 + r.val / 100) ∧ (fracP r.val).getD 1 48 = UInt8.ofNat (48 + r.val / 10 % 10) ∧ (fracP r.val).getD 2 48 = UInt8.ofNat (48 + r.val % 10) ∧ (fracP r.val).all (fun c => digI (nv c)) = true := by
  decide +kernel
theorem frac_is {r : Nat} (h : r < 1000) : (fracP r).getD 0 48 = UInt8.ofNat (48 + r / 100) ∧ (fracP r).getD 1 48 = UInt8.ofNat (48 + r / 10 % 10) ∧ (fracP r).getD 2 48 = UInt8.ofNat (48 + r % 10) ∧ ∀ c ∈ fracP r, digI (nv c) = true := by
  obtain ⟨h0, h1, h2, h3⟩ := frac_all ⟨r, h⟩
  exact ⟨h0, h1, h2, fun c hc => List.all_eq_true.1 h3 c hc⟩

/-- what stands behind the whole digits -/
def pointP (fr : Bs) : Bs := if fr = [] then [] else 46 :: fr
/-- the text of a number without its sign -/
def plainP (m : Nat) : Bs := Lib.decDigits (m / 1000) ++ pointP (fracP (m % 1000))

theorem not_dig46 : digI (nv 46) = false := by decide

/-- what the sum of the digits is -/
theorem sum_is {m : Nat} (hm : m ≤ 1000000000) : addD (addD (addD ((Lib.decDigits (m / 1000)).foldl addD 0) ((fracP (m % 1000)).getD 0 48)) ((fracP (m % 1000)).getD 1 48)) ((fracP (m % 1000)).getD 2 48) = (m : Int) := by
  obtain ⟨h0, h1, h2, -⟩ := frac_is (r := m % 1000) (by omega)
  have a1 := addD_dig (n := ((m / 1000 : Nat) : Int)) (k := m % 1000 / 100) (by omega) (by omega)
  have a2 := addD_dig (n := 10 * ((m / 1000 : Nat) : Int) + ((m % 1000 / 100 : Nat) : Int)) (k := m % 1000 / 10 % 10) (by omega) (by omega)
  have a3 := addD_dig (n := 10 * (10 * ((m / 1000 : Nat) : Int) + ((m % 1000 / 100 : Nat) : Int)) + ((m % 1000 / 10 % 10 : Nat) : Int)) (k := m % 1000 % 10) (by omega) (by omega)
  rw [h0, h1, h2, dec_fold _ (by omega), a1, a2, a3]
  omega

theorem number_at (s u : Bs) (m : Nat) (hm : m ≤ 1000000000) (neg : Bool) (hu : ∀ c, u.head? = some c → digI (nv c) = false ∧ ¬ nv c = 46)
    (hs : (s = [] ∧ neg = false) ∨ (s = [45] ∧ neg = true)) :
    numberP (s ++ (plainP m ++ u)) = (if neg then -(m : Int) else (m : Int), s.length + (plainP m).length) := by
  have hW := dec_digs (m / 1000)
  have hWn := dec_ne (m / 1000)
  have hS := sum_is hm
  obtain ⟨-, -, -, hF⟩ := frac_is (r := m % 1000) (by omega)
  unfold plainP
  generalize Lib.decDigits (m / 1000) = W at *
  generalize fracP (m % 1000) = fr at *
  obtain ⟨c, W', rfl⟩ := List.exists_cons_of_ne_nil hWn
  have hc := hW c (by simp)
  simp [digI] at hc
  have hsign : signAt (s ++ (c :: W' ++ pointP fr ++ u)) = s.length ∧ negP (s ++ (c :: W' ++ pointP fr ++ u)) = neg := by
    rcases hs with ⟨rfl, rfl⟩ | ⟨rfl, rfl⟩
    · refine ⟨?_, ?_⟩
      · show (if nv c = 43 ∨ nv c = 45 then 1 else 0) = 0
        rw [if_neg (by omega)]
      · show decide (nv c = 45) = false
        exact decide_eq_false (by omega)
    · exact ⟨rfl, rfl⟩
  obtain ⟨h1, h2⟩ := hsign
  have hrest : ∀ x, (pointP fr ++ u).head? = some x → digI (nv x) = false := by
    intro x hx
    unfold pointP at hx
    split at hx
    · exact (hu x (by simpa using hx)).1
    · obtain rfl : (46 : UInt8) = x := by simpa using hx
      exact not_dig46
  have d1 : (s ++ (c :: W' ++ pointP fr ++ u)).drop s.length = (c :: W') ++ (pointP fr ++ u) := by
    rw [List.drop_left, List.append_assoc]
  have h3 := digits_app (c :: W') (pointP fr ++ u) hW hrest
  have d2 : (s ++ (c :: W' ++ pointP fr ++ u)).drop (s.length + (c :: W').length) = pointP fr ++ u := by
    rw [← List.drop_drop, d1, List.drop_left]
  have h4 : behindP (pointP fr ++ u) = fr.length := by
    unfold pointP
    split
    · rename_i h
      subst h
      cases u with
      | nil => rfl
      | cons x r =>
        show (if nv x = 46 then digitsP r else 0) = 0
        rw [if_neg (hu x rfl).2]
    · show (if nv (46 : UInt8) = 46 then digitsP (fr ++ u) else 0) = fr.length
      rw [if_pos (by decide)]
      exact digits_app fr u hF (fun x hx => (hu x hx).1)
  have d3 : ((s ++ (c :: W' ++ pointP fr ++ u)).drop (s.length + (c :: W').length + 1)).take fr.length = fr := by
    rw [← List.drop_drop, d2]
    unfold pointP
    split
    · rename_i h
      subst h
      rfl
    · simp
  have hsum : sumP (s ++ (c :: W' ++ pointP fr ++ u)) s.length (c :: W').length fr.length = (m : Int) := by
    unfold sumP
    rw [d1, List.take_left, d3]
    exact hS
  have hlen : (pointP fr).length = if fr.length = 0 then 0 else 1 + fr.length := by
    unfold pointP
    cases fr with
    | nil => rfl
    | cons x r => simp; omega
  unfold numberP
  rw [h1, h2, d1, h3, d2, h4]
  unfold numAt
  rw [if_neg (by simp), hsum]
  simp only [List.length_append, hlen]
  rw [Nat.add_assoc]

end Go.Proofs.YtaihncbejhnceaaDoor.dim

namespace Go.Proofs.YtaihncbejhnceaaDoor.dim
open Go.RowKit Go.Proofs.YtaihncbejhnceaaDoor.base Go.Proofs.YtaihncbejhnceaaDoor.tok
set_option linter.unusedVariables false

theorem unit_names {u : Bs} (h : u ∈ unitsL) : u = [] ∨ u = [37] ∨ (Lib.hasPrefix u [37] = false ∧ beginsP u = true ∧ nameP u = (u, u.length) ∧ u.map lowB = u) := by
  simp only [unitsL, List.mem_cons, List.not_mem_nil, or_false] at h
  rcases h with rfl | rfl | rfl | rfl | rfl | rfl | rfl
  · exact .inl rfl
  · exact .inr (.inr ⟨by decide, by decide, by rw [nameP, if_neg (by decide), if_pos (by decide), nameP, if_pos (by decide)]; rfl, by decide⟩)
  · exact .inr (.inr ⟨by decide, by decide, by rw [nameP, if_neg (by decide), if_pos (by decide), nameP, if_pos (by decide)]; rfl, by decide⟩)
  · exact .inr (.inr ⟨by decide, by decide, by rw [nameP, if_neg (by decide), if_pos (by decide), nameP, if_neg (by decide), if_pos (by decide), nameP, if_pos (by decide)]; rfl, by decide⟩)
  · exact .inr (.inr ⟨by decide, by decide, by rw [nameP, if_neg (by decide), if_pos (by decide), nameP, if_pos (by decide)]; rfl, by decide⟩)
  · exact .inr (.inr ⟨by decide, by decide, by rw [nameP, if_neg (by decide), if_pos (by decide), nameP, if_pos (by decide)]; rfl, by decide⟩)
  · exact .inr (.inl rfl)
theorem unit_head {u : Bs} (h : u ∈ unitsL) : ∀ c, u.head? = some c → digI (nv c) = false ∧ ¬ nv c = 46 := by
  simp only [unitsL, List.mem_cons, List.not_mem_nil, or_false] at h
  intro c hc
  rcases h with rfl | rfl | rfl | rfl | rfl | rfl | rfl <;> simp at hc <;> subst hc <;> exact ⟨by decide, by decide⟩

theorem space_head {l : Bs} {c : UInt8} (h : l.head? = some c) (hc : 33 ≤ nv c) : spaceP l = 0 := by
  cases l with
  | nil => cases h
  | cons a r =>
    obtain rfl : a = c := by simpa using h
    have hb : blankB a = false := by
      cases hb : blankB a
      · rfl
      · exfalso
        simp only [blankB, List.contains_eq_mem, List.mem_cons, List.not_mem_nil, or_false, decide_eq_true_eq] at hb
        rcases hb with rfl | rfl | rfl | rfl | rfl <;> revert hc <;> decide
    unfold spaceP
    rw [List.takeWhile_cons_of_neg (by simp [hb])]
    rfl
theorem prefix_head {l : Bs} {c : UInt8} (h : l.head? = some c) (hc : ¬ nv c = 47) : Lib.hasPrefix l [47, 42] = false := by
  cases l with
  | nil => cases h
  | cons a r =>
    obtain rfl : a = c := by simpa using h
    have ha : ((47 : UInt8) == a) = false := by
      rw [beq_eq_false_iff_ne]
      rintro rfl
      exact hc rfl
    unfold Lib.hasPrefix
    rw [List.isPrefixOf_cons_cons, ha]
    rfl

theorem text_cut (s u : Bs) (m : Nat) (hm : m ≤ 1000000000) (neg : Bool) (hu : u ∈ unitsL) (hs : (s = [] ∧ neg = false) ∨ (s = [45] ∧ neg = true)) :
    cutP (s ++ (plainP m ++ u)) = [⟨7, s ++ (plainP m ++ u), u, if neg then -(m : Int) else (m : Int)⟩] := by
  have hnum := number_at s u m hm neg (unit_head hu) hs
  obtain ⟨c, W, hW⟩ := List.exists_cons_of_ne_nil (dec_ne (m / 1000))
  have hcd := dec_digs (m / 1000) c (by rw [hW]; simp)
  simp [digI] at hcd
  have hhead : ∃ x, (s ++ (plainP m ++ u)).head? = some x ∧ (nv x = 45 ∨ (48 ≤ nv x ∧ nv x ≤ 57)) := by
    rcases hs with ⟨rfl, -⟩ | ⟨rfl, -⟩
    · refine ⟨c, ?_, .inr hcd⟩
      unfold plainP
      rw [hW]
      rfl
    · exact ⟨45, rfl, .inl rfl⟩
  have hpos : 0 < (plainP m).length := by
    unfold plainP
    rw [hW]
    simp
  obtain ⟨x, hx, hxr⟩ := hhead
  have hdrop : (s ++ (plainP m ++ u)).drop (s.length + (plainP m).length) = u := by
    rw [← List.append_assoc, ← List.length_append, List.drop_left]
  have hlen : (s ++ (plainP m ++ u)).length = s.length + (plainP m).length + u.length := by
    simp only [List.length_append]
    omega
  generalize hL : s ++ (plainP m ++ u) = l at *
  have hn0 : 0 < s.length + (plainP m).length := by omega
  generalize s.length + (plainP m).length = n at *

  have hne : l ≠ [] := by
    rintro rfl
    cases hx
  have hq : quoteP l = false := by
    cases hq : quoteP l
    · rfl
    · have := quote_head hx hq
      omega
  have hf : firstP l = ⟨7, l, u, if neg then -(m : Int) else (m : Int)⟩ := by
    have htk : 0 < n → firstP l = numTkP l (if neg then -(m : Int) else (m : Int)) n := by
      intro h0
      rw [firstP, if_neg (by rw [space_head hx (by omega)]; omega), if_neg (by rw [prefix_head hx (by omega)]; decide), if_neg (by rw [hq]; decide), if_neg (by rw [hash_head hx (by omega)]; decide),
        if_neg (by rw [at_head hx (by omega)]; decide), hnum, if_pos h0]
    rw [htk hn0]
    unfold numTkP
    rw [hdrop]
    rcases unit_names hu with rfl | rfl | ⟨h1, h2, h3, h4⟩
    · rw [if_neg (by decide), if_neg (by decide), List.take_of_length_le (by rw [hlen]; simp)]
    · rw [if_pos (by decide), List.take_of_length_le (by rw [hlen]; simp)]
    · rw [if_neg (by rw [h1]; decide), if_pos h2, h3]
      simp only
      rw [h4, List.take_of_length_le (by omega)]
  rw [cutP_cons hne, hf]
  simp [cutP_nil]

end Go.Proofs.YtaihncbejhnceaaDoor.dim

namespace Go.Proofs.YtaihncbejhnceaaDoor.dim
open Go.RowKit Go.Proofs.YtaihncbejhnceaaDoor.base Go.Proofs.YtaihncbejhnceaaDoor.tok
set_option linter.unusedVariables false

theorem grow_below (w : World) (k : Nat) (os : Array Obj) : Below w.heap.size w (Go.Sort.grow (w.drewN k) os) := by
  refine ⟨rfl, rfl, rfl, ?_, fun i hi => ?_⟩
  · simp [Go.Sort.grow]
  · simp only [Go.Sort.grow]
    rw [Array.getElem?_append_left (by simpa using hi)]
    rfl

/-- the table of powers is there -/
def PowAt (w : World) : Prop := 4 < w.heap.size ∧ Lib.TabIs Tryd.prog w "internal/strconv.uint64pow10" .u64 Lib.pow10Tab

theorem PowAt.on {w w' : World} (h : PowAt w) (hb : Below w.heap.size w w') : PowAt w' := by
  refine ⟨Nat.lt_of_lt_of_le h.1 hb.size, ?_⟩
  have hg : Tryd.prog.globalNamed "internal/strconv.uint64pow10" = some 4 := by kernel_rfl
  have h2 := h.2
  unfold Lib.TabIs World.var? at h2 ⊢
  rw [hg] at h2 ⊢
  simp only [Option.bind_some] at h2 ⊢
  rw [hb.block _ h.1]
  exact h2

theorem itoa_ct (n : Int) (h0 : -9223372036854775808 ≤ n) (h1 : n ≤ 9223372036854775807) (w : World) (hT : PowAt w) :
    Calls Tryd.prog 79 #[.int .i64 n] w fun e w' => e = .returned (.string (bs (Lib.itoa n))) ∧ Below w.heap.size w w' :=
  (Tryd.strconv_Itoa n h0 h1 w hT.2).mono fun e w' ⟨he, k, os, hw⟩ => ⟨he, by rw [hw]; exact grow_below w k os⟩

theorem trimR_ct (s : ByteArray) (w : World) (hs : s.size ≤ 9223372036854775807) :
    Calls Tryd.prog 92 #[.string s, .string ⟨#[48]⟩] w fun e w' => e = .returned (.string (bs (Lib.trimRightB s.data.toList 48))) ∧ w' = w :=
  Tryd.strings_TrimRight_one s 48 (by decide) w hs


/-- what dim.Text tells -/
def textD (m : Nat) (neg : Bool) (u : Bs) : Bs := (if neg then [45] else []) ++ (plainP m ++ u)

end Go.Proofs.YtaihncbejhnceaaDoor.dim

namespace Go.Proofs.YtaihncbejhnceaaDoor.dim
open Go.RowKit Go.Proofs.YtaihncbejhnceaaDoor.base Go.Proofs.YtaihncbejhnceaaDoor.tok
set_option linter.unusedVariables false

theorem three_len (r : Nat) : (bs (Lib.decDigits (1000 + r % 1000))).size = 4 := by
  rw [dec_three (by omega)]
  rfl
theorem three_drop (r : Nat) : Lib.trimRightB ((bs (Lib.decDigits (1000 + r % 1000))).extract 1 4).data.toList 48 = fracP (r % 1000) := by
  rw [dec_three (by omega)]
  rfl
theorem dec_len (u : Nat) (h : u ≤ 1000000000) : (Lib.decDigits u).length ≤ 10 := by
  have key : ∀ (k u : Nat), u < 10 ^ (k + 1) → (Lib.decDigits u).length ≤ k + 1 := by
    intro k
    induction k with
    | zero =>
      intro u hu
      rw [Lib.decDigits_one (by omega)]
      simp
    | succ k ih =>
      intro u hu
      by_cases h10 : u < 10
      · rw [Lib.decDigits_one h10]; simp
      · rw [dec_step h10, List.length_append]
        have := ih (u / 10) (by rw [Nat.pow_succ] at hu; omega)
        simp
        omega
  exact key 9 u (by omega)

theorem frac_len {r : Nat} (h : r < 1000) : (fracP r).length ≤ 3 := by
  unfold fracP Lib.trimRightB
  rw [List.length_reverse]
  exact (List.dropWhile_suffix _).length_le

set_option maxRecDepth 100000 in
set_option maxHeartbeats 4000000 in
theorem text_plain (m : Nat) (hm : m ≤ 1000000000) (u : Bs) (hu : u.length ≤ 3) (w : World) (hT : PowAt w) :
    Calls Tryd.prog 50 #[.agg #[.int .i64 m, .string (bs u)]] w fun e w' => e = .returned (.string (bs (plainP m ++ u))) ∧ Below w.heap.size w w' := by
  have q1 : (m : Int).tdiv 1000 = (m : Int) / 1000 := by rw [Int.tdiv_eq_ediv_of_nonneg (by omega)]
  have q2 : (m : Int).tmod 1000 = (m : Int) % 1000 := by rw [Int.tmod_eq_emod_of_nonneg (by omega)]
  have hl := three_len m
  have hd := three_drop m
  have hW := dec_len (m / 1000) (by omega)
  have hF := frac_len (r := m % 1000) (by omega)
  have cI1 : ∀ w, PowAt w → Calls Tryd.prog 79 #[.int .i64 ((m : Int) / 1000)] w fun e w' => e = .returned (.string (bs (Lib.decDigits (m / 1000)))) ∧ Below w.heap.size w w' := fun w h => by
    rw [show (m : Int) / 1000 = ((m / 1000 : Nat) : Int) from by omega]
    have := itoa_ct ((m / 1000 : Nat) : Int) (by omega) (by omega) w h
    rwa [show Lib.itoa ((m / 1000 : Nat) : Int) = Lib.decDigits (m / 1000) from by unfold Lib.itoa; rw [if_neg (by omega)]; rfl] at this
  have cI2 : ∀ w, PowAt w → Calls Tryd.prog 79 #[.int .i64 (1000 + (m : Int) % 1000)] w fun e w' => e = .returned (.string (bs (Lib.decDigits (1000 + m % 1000)))) ∧ Below w.heap.size w w' := fun w h => by
    rw [show (m : Int) % 1000 = ((m % 1000 : Nat) : Int) from by omega]
    have := itoa_ct (1000 + ((m % 1000 : Nat) : Int)) (by omega) (by omega) w h
    rwa [show Lib.itoa (1000 + ((m % 1000 : Nat) : Int)) = Lib.decDigits (1000 + m % 1000) from by unfold Lib.itoa; rw [if_neg (by omega)]; congr 1] at this
  have cR : ∀ w, Calls Tryd.prog 92 #[.string ((bs (Lib.decDigits (1000 + m % 1000))).extract 1 4), .string ⟨#[48]⟩] w fun e w' => e = .returned (.string (bs (fracP (m % 1000)))) ∧ w' = w := fun w => by
    have := trimR_ct ((bs (Lib.decDigits (1000 + m % 1000))).extract 1 4) w (by simp only [ByteArray.size_extract]; omega)
    rwa [hd] at this
  have m1 : max (m : Int) (-1000000000) = m := by omega
  have m2 : min (m : Int) 1000000000 = m := by omega
  have lt : decide ((m : Int) < 0) = false := decide_eq_false (by omega)
  have r1 := IntWalk.i64_in ((m : Int) / 1000) (by omega)
  have r2 := IntWalk.i64_in ((m : Int) % 1000) (by omega)
  have r3 := IntWalk.i64_in (1000 + (m : Int) % 1000) (by omega)
  have hZ : ByteArray.empty ++ bs (Lib.decDigits (m / 1000)) = bs (Lib.decDigits (m / 1000)) := by simp [bs]
  replace cI1 := Lib.hid cI1
  replace cI2 := Lib.hid cI2
  replace cR := Lib.hid cR
  replace hd := Lib.hid hd
  have hP : plainP m = Lib.decDigits (m / 1000) ++ pointP (fracP (m % 1000)) := rfl
  rw [hP]
  clear hP
  generalize hWd : Lib.decDigits (m / 1000) = Wd at *
  generalize hDd : Lib.decDigits (1000 + m % 1000) = D at *
  generalize hFd : fracP (m % 1000) = fr at *
  replace hWd := Lib.hid hWd
  replace hDd := Lib.hid hDd
  replace hFd := Lib.hid hFd
  have y1 : (bs Wd).size = Wd.length := rfl
  have y2 : (bs fr).size = fr.length := rfl
  have y3 : (bs u).size = u.length := rfl
  have z1 : ¬ 9223372036854775807 < 1 + (bs fr).size := by omega
  have z2 : ¬ 9223372036854775807 < (bs Wd).size + (1 + (bs fr).size) := by omega
  have z3 : ¬ 9223372036854775807 < (bs Wd).size + (1 + (bs fr).size) + (bs u).size := by omega
  have z4 : ¬ 9223372036854775807 < (bs Wd).size + (bs u).size := by omega
  have z5 : ¬ 9223372036854775807 < (bs Wd).size := by omega
  clear y1 y2 y3
  by_cases hfr : fr = []
  · have t1 : (bs fr).toList = [] := by rw [bs_toList, hfr]
    have hend := Lib.hid (show (⟨#[]⟩ : ByteArray) ++ bs Wd ++ bs u = bs (Wd ++ pointP fr ++ u) by unfold pointP; rw [if_pos hfr]; exact ByteArray.ext (by simp [bs, ByteArray.data_append]))
    clear hfr
    go_enter Tryd.func50, Tryd.ntmps50
    go_wp2_with (first
      | (go_at_call 79; (with_reducible refine (cI1.out _ (hT.on ((Below.refl w.heap.size w).alloc (Nat.le_refl _) _))).mono ?_); rintro e W1 ⟨rfl, hb1⟩; have HB1 := Lib.hid (((Below.refl w.heap.size w).alloc (Nat.le_refl _) _).trans (hb1.mono (by simp))); have hblk := (Blk.new (w := w) (t := 48) (cs := #[.int .i64 m, .string (bs u)]) rfl).below hb1 (by simp); replace hblk := Lib.hid hblk; clear hb1)
      | (go_at_call 79; (with_reducible refine (cI2.out _ (hT.on HB1.out)).mono ?_); rintro e W2 ⟨rfl, hb2⟩; have HB2 := Lib.hid (HB1.out.trans (hb2.mono HB1.out.size)); have hblk2 := hblk.out.below hb2 hblk.out.lt; have p2 := hblk2.cell; clear hb2)
      | (go_at_call 92; (with_reducible refine (cR.out _).mono ?_); rintro e W3 ⟨rfl, rfl⟩))
    go_ret
    exact ⟨by rw [← hend.out]; rfl, HB2.out⟩
  · have t1 : (bs fr).toList.isEmpty = false := by rw [bs_toList]; simpa using hfr
    have hend := Lib.hid (show (⟨#[]⟩ : ByteArray) ++ bs Wd ++ (⟨#[46]⟩ ++ bs fr) ++ bs u = bs (Wd ++ pointP fr ++ u) by unfold pointP; rw [if_neg hfr]; exact ByteArray.ext (by simp [bs, ByteArray.data_append]))
    clear hfr
    go_enter Tryd.func50, Tryd.ntmps50
    go_wp2_with (first
      | (go_at_call 79; (with_reducible refine (cI1.out _ (hT.on ((Below.refl w.heap.size w).alloc (Nat.le_refl _) _))).mono ?_); rintro e W1 ⟨rfl, hb1⟩; have HB1 := Lib.hid (((Below.refl w.heap.size w).alloc (Nat.le_refl _) _).trans (hb1.mono (by simp))); have hblk := (Blk.new (w := w) (t := 48) (cs := #[.int .i64 m, .string (bs u)]) rfl).below hb1 (by simp); replace hblk := Lib.hid hblk; clear hb1)
      | (go_at_call 79; (with_reducible refine (cI2.out _ (hT.on HB1.out)).mono ?_); rintro e W2 ⟨rfl, hb2⟩; have HB2 := Lib.hid (HB1.out.trans (hb2.mono HB1.out.size)); have hblk2 := hblk.out.below hb2 hblk.out.lt; have p2 := hblk2.cell; clear hb2)
      | (go_at_call 92; (with_reducible refine (cR.out _).mono ?_); rintro e W3 ⟨rfl, rfl⟩))
    go_ret
    exact ⟨by rw [← hend.out]; rfl, HB2.out⟩

end Go.Proofs.YtaihncbejhnceaaDoor.dim

namespace Go.Proofs.YtaihncbejhnceaaDoor.cnt
open Go.RowKit Go.Proofs.YtaihncbejhnceaaDoor.base Go.Proofs.YtaihncbejhnceaaDoor.tok Go.Proofs.YtaihncbejhnceaaDoor.dim
set_option linter.unusedVariables false

/-- the letters of a number, the last one first -/
def letR : Nat → Nat → Bs
  | 0, _ => []
  | f + 1, n => if n = 0 then [] else UInt8.ofNat (97 + (n - 1) % 26) :: letR f ((n - 1) / 26)
def letP (n : Nat) : Bs := (letR n n).reverse
def romT : List (Nat × Bs) := [(1000, [109]), (900, [99, 109]), (500, [100]), (400, [99, 100]), (100, [99]), (90, [120, 99]), (50, [108]), (40, [120, 108]), (10, [120]), (9, [105, 120]), (5, [118]), (4, [105, 118]), (1, [105])]
def romF : List (Nat × Bs) → Nat → Bs
  | [], _ => []
  | (d, s) :: T, n => (List.replicate (n / d) s).flatten ++ romF T (n % d)
def romP (n : Nat) : Bs := romF romT n
/-- a mark -/
def markP (k n : Nat) : Bs := if k = 2 then Lib.decDigits n else if k = 3 then letP n else if k = 4 then Lib.toUpperA (letP n) else if k = 5 then romP n else Lib.toUpperA (romP n)

/-! ### Letters: shorter, or as long and ahead -/
def shortB (s t : Bs) : Bool := decide (s.length < t.length) || (decide (s.length = t.length) && Op.bytesLess s t)
theorem less_irr : ∀ s : Bs, Op.bytesLess s s = false
  | [] => rfl
  | a :: s => by simp [Op.bytesLess, less_irr s]
theorem less_trans : ∀ s t u : Bs, Op.bytesLess s t = true → Op.bytesLess t u = true → Op.bytesLess s u = true
  | _, _, [], _, h2 => by simp [Op.bytesLess] at h2
  | _, [], _ :: _, h1, _ => by simp [Op.bytesLess] at h1
  | [], _ :: _, _ :: _, _, _ => by simp [Op.bytesLess]
  | a :: s, b :: t, c :: u, h1, h2 => by
    have ih := less_trans s t u
    simp only [Op.bytesLess, Bool.or_eq_true, Bool.and_eq_true, decide_eq_true_eq, beq_iff_eq, UInt8.lt_iff_toNat_lt] at h1 h2 ⊢
    rcases h1 with h1 | ⟨rfl, h1⟩
    · rcases h2 with h2 | ⟨rfl, h2⟩
      · left; omega
      · left; exact h1
    · rcases h2 with h2 | ⟨rfl, h2⟩
      · left; exact h2
      · right; exact ⟨rfl, ih h1 h2⟩
theorem short_irr (s : Bs) : shortB s s = false := by simp [shortB, less_irr]
theorem short_trans {s t u : Bs} (h1 : shortB s t = true) (h2 : shortB t u = true) : shortB s u = true := by
  simp only [shortB, Bool.or_eq_true, Bool.and_eq_true, decide_eq_true_eq] at h1 h2 ⊢
  rcases h1 with h1 | ⟨e1, h1⟩
  · rcases h2 with h2 | ⟨e2, h2⟩ <;> (left; omega)
  · rcases h2 with h2 | ⟨e2, h2⟩
    · left; omega
    · right; exact ⟨by omega, less_trans _ _ _ h1 h2⟩
set_option maxRecDepth 1000000 in
theorem short_next : ∀ n : Fin 3998, shortB (letP (n.val + 1)) (letP (n.val + 2)) = true := by decide +kernel
theorem short_up {x y : Nat} (h0 : 1 ≤ x) (h : x < y) (hy : y ≤ 3999) : shortB (letP x) (letP y) = true := by
  have key : ∀ d : Nat, x + d + 1 ≤ 3999 → shortB (letP x) (letP (x + d + 1)) = true := by
    intro d
    induction d with
    | zero =>
      intro h
      have := short_next ⟨x - 1, by omega⟩
      simp only at this
      rwa [show x - 1 + 1 = x from by omega, show x - 1 + 2 = x + 0 + 1 from by omega] at this
    | succ d ih =>
      intro h
      have h1 := ih (by omega)
      have h2 := short_next ⟨x + d, by omega⟩
      simp only at h2
      exact short_trans h1 (by rwa [show x + d + 2 = x + (d + 1) + 1 from by omega] at h2)
  have := key (y - x - 1) (by omega)
  rwa [show x + (y - x - 1) + 1 = y from by omega] at this
theorem short_is {x y : Nat} (hx : 1 ≤ x ∧ x ≤ 3999) (hy : 1 ≤ y ∧ y ≤ 3999) : shortB (letP x) (letP y) = decide (x < y) := by
  rcases Nat.lt_trichotomy x y with h | h | h
  · rw [short_up hx.1 h hy.2, decide_eq_true h]
  · subst h; rw [short_irr, decide_eq_false (by omega)]
  · rw [decide_eq_false (by omega)]
    cases hc : shortB (letP x) (letP y)
    · rfl
    · have := short_trans hc (short_up hy.1 h hx.2)
      rw [short_irr] at this
      cases this
theorem let_inj {x y : Nat} (hx : 1 ≤ x ∧ x ≤ 3999) (hy : 1 ≤ y ∧ y ≤ 3999) (h : letP x = letP y) : x = y := by
  have h1 := short_is hx hy
  have h2 := short_is hy hx
  rw [h, short_irr] at h1 h2
  have := of_decide_eq_false h1.symm
  have := of_decide_eq_false h2.symm
  omega

/-! ### Great letters are made small again -/
def smallB (c : UInt8) : Bool := decide (97 ≤ c.toNat ∧ c.toNat ≤ 122)
theorem up_back : ∀ i : Fin 256, smallB (UInt8.ofNat i.val) = true → Lib.lowerB (Lib.upperB (UInt8.ofNat i.val)) = UInt8.ofNat i.val := by decide +kernel
theorem up_back' {c : UInt8} (h : smallB c = true) : Lib.lowerB (Lib.upperB c) = c := by
  have := up_back ⟨c.toNat, c.toNat_lt⟩
  simp only [UInt8.ofNat_toNat] at this
  exact this h
theorem upA_inj {s t : Bs} (hs : ∀ c ∈ s, smallB c = true) (ht : ∀ c ∈ t, smallB c = true) (h : Lib.toUpperA s = Lib.toUpperA t) : s = t := by
  have key : ∀ l : Bs, (∀ c ∈ l, smallB c = true) → (Lib.toUpperA l).map Lib.lowerB = l := by
    intro l hl
    unfold Lib.toUpperA
    rw [List.map_map]
    conv => rhs; rw [← List.map_id l]
    exact List.map_congr_left fun c hc => up_back' (hl c hc)
  rw [← key s hs, ← key t ht, h]
theorem letR_small : ∀ (f n : Nat), ∀ c ∈ letR f n, smallB c = true
  | 0, _, c, h => by simp [letR] at h
  | f + 1, n, c, h => by
    unfold letR at h
    by_cases h0 : n = 0
    · rw [if_pos h0] at h; simp at h
    · rw [if_neg h0] at h
      rcases List.mem_cons.1 h with rfl | h
      · simp only [smallB, UInt8.toNat_ofNat', decide_eq_true_eq]
        omega
      · exact letR_small f _ c h
theorem let_small (n : Nat) : ∀ c ∈ letP n, smallB c = true := fun c h => letR_small n n c (by simpa [letP] using h)
theorem romT_small : ∀ p ∈ romT, ∀ c ∈ p.2, smallB c = true := by decide
theorem romF_small : ∀ (T : List (Nat × Bs)), (∀ p ∈ T, ∀ c ∈ p.2, smallB c = true) → ∀ n, ∀ c ∈ romF T n, smallB c = true
  | [], _, n, c, h => by simp [romF] at h
  | (d, s) :: T, hT, n, c, h => by
    unfold romF at h
    rcases List.mem_append.1 h with h | h
    · obtain ⟨l, hl, hc⟩ := List.mem_flatten.1 h
      obtain rfl := List.eq_of_mem_replicate hl
      exact hT (d, l) (by simp) c hc
    · exact romF_small T (fun p hp => hT p (by simp [hp])) _ c h
theorem rom_small (n : Nat) : ∀ c ∈ romP n, smallB c = true := romF_small romT romT_small n

/-! ### Roman digits, read again -/
def digV (c : UInt8) : Int := if c = 109 then 1000 else if c = 100 then 500 else if c = 99 then 100 else if c = 108 then 50 else if c = 120 then 10 else if c = 118 then 5 else 1
def romV : Bs → Int
  | [] => 0
  | [c] => digV c
  | c :: d :: r => (if digV c < digV d then - digV c else digV c) + romV (d :: r)
set_option maxRecDepth 1000000 in
theorem rom_back : ∀ n : Fin 4000, romV (romP n.val) = (n.val : Int) := by decide +kernel
theorem rom_inj {x y : Nat} (hx : x ≤ 3999) (hy : y ≤ 3999) (h : romP x = romP y) : x = y := by
  have h1 := rom_back ⟨x, by omega⟩
  have h2 := rom_back ⟨y, by omega⟩
  simp only at h1 h2
  rw [h, h2] at h1
  omega
theorem dec_inj {x y : Nat} (hx : x ≤ 3999) (hy : y ≤ 3999) (h : Lib.decDigits x = Lib.decDigits y) : x = y := by
  have h1 := dec_fold x (by omega)
  have h2 := dec_fold y (by omega)
  rw [h, h2] at h1
  omega

theorem mark_inj {k x y : Nat} (hx : 1 ≤ x ∧ x ≤ 3999) (hy : 1 ≤ y ∧ y ≤ 3999) : markP k x = markP k y ↔ x = y := by
  refine ⟨fun h => ?_, fun h => by rw [h]⟩
  unfold markP at h
  by_cases h2 : k = 2
  · rw [if_pos h2, if_pos h2] at h; exact dec_inj hx.2 hy.2 h
  rw [if_neg h2, if_neg h2] at h
  by_cases h3 : k = 3
  · rw [if_pos h3, if_pos h3] at h; exact let_inj hx hy h
  rw [if_neg h3, if_neg h3] at h
  by_cases h4 : k = 4
  · rw [if_pos h4, if_pos h4] at h; exact let_inj hx hy (upA_inj (let_small x) (let_small y) h)
  rw [if_neg h4, if_neg h4] at h
  by_cases h5 : k = 5
  · rw [if_pos h5, if_pos h5] at h; exact rom_inj hx.2 hy.2 h
  rw [if_neg h5, if_neg h5] at h
  exact rom_inj hx.2 hy.2 (upA_inj (rom_small x) (rom_small y) h)

/-! ### Letters, letter by letter -/
theorem letR_more : ∀ (f g n : Nat), n ≤ f → n ≤ g → letR f n = letR g n
  | 0, 0, _, _, _ => rfl
  | 0, g + 1, n, h, _ => by
    obtain rfl : n = 0 := by omega
    simp [letR]
  | f + 1, 0, n, _, h => by
    obtain rfl : n = 0 := by omega
    simp [letR]
  | f + 1, g + 1, n, h1, h2 => by
    unfold letR
    by_cases h0 : n = 0
    · rw [if_pos h0, if_pos h0]
    · rw [if_neg h0, if_neg h0, letR_more f g ((n - 1) / 26) (by omega) (by omega)]
theorem letR_step {n : Nat} (h : 0 < n) : letR n n = UInt8.ofNat (97 + (n - 1) % 26) :: letR ((n - 1) / 26) ((n - 1) / 26) := by
  obtain ⟨m, rfl⟩ : ∃ m, n = m + 1 := ⟨n - 1, by omega⟩
  conv => lhs; unfold letR
  rw [if_neg (by omega), letR_more m ((m + 1 - 1) / 26) _ (by omega) (Nat.le_refl _)]
theorem romF_more {d : Nat} {s : Bs} {T : List (Nat × Bs)} {n : Nat} (h0 : 0 < d) (h : d ≤ n) : romF ((d, s) :: T) n = s ++ romF ((d, s) :: T) (n - d) := by
  conv => lhs; unfold romF
  conv => rhs; unfold romF
  have e1 : n / d = (n - d) / d + 1 := by
    conv => lhs; rw [show n = (n - d) + d from by omega]
    rw [Nat.add_div_right _ h0]
  have e2 : n % d = (n - d) % d := by
    conv => lhs; rw [show n = (n - d) + d from by omega]
    rw [Nat.add_mod_right]
  rw [e1, e2, List.replicate_succ, List.flatten_cons, List.append_assoc]
theorem romF_less {d : Nat} {s : Bs} {T : List (Nat × Bs)} {n : Nat} (h : n < d) : romF ((d, s) :: T) n = romF T n := by
  show (List.replicate (n / d) s).flatten ++ romF T (n % d) = romF T n
  rw [Nat.div_eq_of_lt h, Nat.mod_eq_of_lt h]
  simp

end Go.Proofs.YtaihncbejhnceaaDoor.cnt

namespace Go.Proofs.YtaihncbejhnceaaDoor.cnt
open Go.RowKit Go.Proofs.YtaihncbejhnceaaDoor.base Go.Proofs.YtaihncbejhnceaaDoor.tok Go.Proofs.YtaihncbejhnceaaDoor.dim
set_option linter.unusedVariables false

theorem below_put {α : Type} [Inhabited α] (enc : α → Value) (w : World) (n blk off : Nat) (d : Array α) (B : Nat) (hB : B ≤ blk) : Below B w (Go.Sort.putRow enc (Go.Sort.ahead w n) blk off d) := by
  refine ⟨rfl, rfl, rfl, by rw [Go.Sort.size_putRow]; exact Nat.le_refl _, fun i hi => ?_⟩
  simp only [Go.Sort.putRow, Go.Sort.mapBlock, Go.Sort.ahead]
  rw [Array.getElem?_modify, if_neg (by omega)]

abbrev encB (b : UInt8) : Value := .int .u8 (b.toNat : Int)
theorem reverse_ct (blk cap : Nat) (l : Bs) (w : World) (hl : l.length ≤ 9223372036854775807) (h : ∀ (j : Nat) (u : UInt8), l[j]? = some u → w.cell? ⟨blk, j, none⟩ = some (.int .u8 (u.toNat : Int)) ∧ w.frozen? ⟨blk, j, none⟩ = false) :
    Calls Tryd.prog 122 #[.slice (some ⟨blk, 0, none⟩) l.length cap] w fun e w' => e = .returned (.tuple #[]) ∧ (∀ (j : Nat) (u : UInt8), l.reverse[j]? = some u → w'.cell? ⟨blk, j, none⟩ = some (.int .u8 (u.toNat : Int))) ∧ w.heap.size ≤ w'.heap.size ∧ ∀ B, B ≤ blk → Below B w w' := by
  have hH : Go.Sort.Holds encB w blk 0 l.toArray := fun j hj => by
    have hj' : j < l.length := by simpa using hj
    have := h j l[j] (List.getElem?_eq_getElem hj')
    rw [Nat.zero_add]
    rw [getElem!_pos l.toArray j hj]
    simpa using this
  refine (Tryd.slices_Reverse_bytes encB (fun _ => rfl) blk 0 cap l w hH hl).mono fun e w' ⟨he, n, hw⟩ => ⟨he, fun j u hu => ?_, ?_, fun B hB => ?_⟩
  · subst hw
    have hj := (List.getElem?_eq_some_iff.1 hu).1
    have h0 : Go.Sort.Holds encB (Go.Sort.ahead w n) blk 0 l.toArray := hH
    have := Go.Sort.cell?_putRow encB (Go.Sort.ahead w n) blk 0 l.toArray l.reverse.toArray h0 (by simp) j (by simpa using hj)
    rw [Nat.zero_add] at this
    rw [this, getElem!_pos l.reverse.toArray j (by simpa using hj)]
    obtain ⟨_, hq⟩ := List.getElem?_eq_some_iff.1 hu
    simp only [List.getElem_toArray, hq]
  · rw [hw, Go.Sort.size_putRow]; exact Nat.le_refl _
  · rw [hw]; exact below_put _ _ _ _ _ _ _ hB

theorem conv_back (blk cap : Nat) (l : Bs) (w : World) (h : ∀ (j : Nat) (u : UInt8), l[j]? = some u → w.cell? ⟨blk, j, none⟩ = some (.int .u8 (u.toNat : Int))) :
    (convert 62 9 (.slice (some ⟨blk, 0, none⟩) l.length cap)).run Tryd.prog w = .ok (.string (bs l)) w :=
  run_convert_bytes_back w 62 9 5 ⟨blk, 0, none⟩ cap l Tryd.underlying62 Tryd.underlying5 Tryd.underlying9 (fun j hj => by
    rw [add_zero_block]
    exact h j _ (List.getElem?_eq_getElem hj))
theorem conv_rev (blk cap : Nat) (l : Bs) (w : World) (h : ∀ (j : Nat) (u : UInt8), l.reverse[j]? = some u → w.cell? ⟨blk, j, none⟩ = some (.int .u8 (u.toNat : Int))) :
    (convert 62 9 (.slice (some ⟨blk, 0, none⟩) l.length cap)).run Tryd.prog w = .ok (.string (bs l.reverse)) w := by
  have := conv_back blk cap l.reverse w h
  rwa [List.length_reverse] at this

theorem letR_bd : ∀ (f n : Nat), n ≤ f → (letR f n).length ≤ n
  | 0, n, h => by simp [letR]
  | f + 1, n, h => by
    unfold letR
    by_cases h0 : n = 0
    · rw [if_pos h0]; simp
    · rw [if_neg h0, List.length_cons]
      have := letR_bd f ((n - 1) / 26) (by omega)
      omega

set_option maxRecDepth 100000 in
set_option maxHeartbeats 4000000 in
theorem letters_ct (n : Nat) (h0 : 1 ≤ n) (hn : n ≤ 1000000) (w : World) : Calls Tryd.prog 76 #[.int .i64 n] w fun e w' => e = .returned (.string (bs (letP n))) ∧ Below w.heap.size w w' := by
  obtain ⟨i0, hi, hz0, hz1, hz2⟩ := info_parts infoByte
  have Hz0 := Lib.hid hz0
  have Hi := Lib.hid hi
  have Hz1 := Lib.hid hz1
  have Hz2 := Lib.hid hz2
  have hlen := letR_bd n n (Nat.le_refl _)
  have hpos : 0 < (letR n n).length := by rw [letR_step (by omega)]; simp
  clear hz0 hi hz1 hz2
  go_enter Tryd.func76, Tryd.ntmps76
  go_wp2_with fail
  go_loopw [0, 3] (fun x v wr => ∃ (m : Nat) (acc : Bs), x = .int .i64 m ∧ m ≤ n ∧ letR n n = acc ++ letR m m ∧ wr.ownsRow w.heap.size 5 1 v acc.length (Lib.byteCells acc) ∧ Below w.heap.size w wr) (fun x _ _ => (intOf x).toNat)
  case atStart => exact ⟨n, [], rfl, Nat.le_refl _, rfl, World.ownsRow_nil _ _ _ _, Below.refl _ _⟩
  case round =>
    obtain ⟨m, acc, rfl, hmn, hinv, hrow, hbel⟩ := hrel
    have hz := hbel.size
    have hacc : acc.length ≤ n := by have := congrArg List.length hinv; rw [List.length_append] at this; omega
    have HBl := Lib.hid hbel
    replace hrow := Lib.hid hrow
    replace hinv := Lib.hid hinv
    clear hbel
    by_cases hm0 : m = 0
    · subst hm0
      have hfin := Lib.hid (show letR n n = acc by rw [hinv.out]; simp [letR])
      have hl : acc.length = (letR n n).length := by rw [hfin.out]
      have hrow' := hrow.out
      rcases hrow'.2 with ⟨hv, hz'⟩ | ⟨g, cap, cur, hv, hg0, hcs, hc, hb⟩
      · exact absurd hz' (by omega)
      subst hv
      have hgB := hg0
      have hcf : ∀ (j : Nat) (u : UInt8), acc[j]? = some u → wr.cell? ⟨g, j, none⟩ = some (.int .u8 (u.toNat : Int)) ∧ wr.frozen? ⟨g, j, none⟩ = false := fun j u hu => by
        have hj := (List.getElem?_eq_some_iff.1 hu).1
        exact ⟨(hrow'.cellAt j (by omega)).trans (by simp [Lib.byteCells, hu]), hrow'.frozenAt j⟩
      have cR := Lib.hid (reverse_ct g cap acc wr (by omega) hcf)
      clear hcf hrow' hg0 hcs hc hb hl hrow
      go_wp2_with ((go_at_call 122; (with_reducible refine (cR.out).mono ?_); rintro e W2 ⟨rfl, hc2, hz2, hb2⟩; have hcv := conv_rev g cap acc W2 hc2; have HB2 := Lib.hid (HBl.out.trans (hb2 _ hgB)); clear hc2 hb2))
      go_ret
      exact ⟨by rw [letP, hfin.out]; rfl, HB2.out⟩
    · have hmz : (1 : Int) ≤ m := by omega
      have hmx : (m : Int) ≤ 1000000 := by omega
      have hst := Lib.hid (letR_step (n := m) (by omega))
      obtain ⟨a, cp, rfl⟩ := row_form hrow.out
      go_wp2_with ((at_builtin; refine wpList_append_own _ rfl _ _ 62 rfl w.heap.size 5 i0 (.int .u8 0) 1 1 Tryd.underlying62 Hi.out Hz0.out Hz1.out Hz2.out rfl (by decide) _ _ _ rfl (hrow.out.alloc _) ⟨wr.heap.size, 0, none⟩ 1 1 [.int .u8 (97 + ((m : Int) - 1) % 26)] rfl rfl ?c1 ?c2 ?c3 ?c4 ?c5 ?_))
      case c1 => exact (Blk.new (w := wr) (t := 5) (cs := #[.int .u8 (97 + ((m : Int) - 1) % 26)]) rfl).news
      case c2 => simp [Value.oneCell']
      case c3 => unfold maxLen; omega
      case c4 => omega
      case c5 => simp; omega
      intro v' w3 hown3 hgrow3 hnil3
      have hb3 := Lib.hid (below_app (HBl.out.alloc HBl.out.size _) hgrow3 (hrow.out.alloc _) (Nat.le_refl _) (by simp; omega))
      replace hown3 := Lib.hid hown3
      clear hgrow3 hnil3
      go_wp2
      go_roundw
      case rel =>
        refine ⟨(m - 1) / 26, acc ++ [UInt8.ofNat (97 + (m - 1) % 26)], by congr 1; omega, by omega, ?_, ?_, hb3.out⟩
        · rw [hinv.out, hst.out]; simp
        · have he : (97 : Int) + ((m : Int) - 1) % 26 = (((UInt8.ofNat (97 + (m - 1) % 26)).toNat : Nat) : Int) := by
            rw [UInt8.toNat_ofNat']
            omega
          have h3 := hown3.out
          rw [he] at h3
          simpa [Lib.byteCells] using h3
      case measure => simp [intOf]; omega

end Go.Proofs.YtaihncbejhnceaaDoor.cnt

namespace Go.Proofs.YtaihncbejhnceaaDoor.cnt
open Go.RowKit Go.Proofs.YtaihncbejhnceaaDoor.base Go.Proofs.YtaihncbejhnceaaDoor.tok Go.Proofs.YtaihncbejhnceaaDoor.dim
set_option linter.unusedVariables false

theorem rom_at : ∀ k : Fin 13, ∃ p : Nat × Bs, romT[k.val]? = some p ∧ 1 ≤ p.1 ∧ p.1 ≤ 1000 ∧ p.2.length ≤ 2 := by
  intro k
  match k with
  | ⟨0, _⟩ => exact ⟨_, rfl, by decide, by decide, by decide⟩
  | ⟨1, _⟩ => exact ⟨_, rfl, by decide, by decide, by decide⟩
  | ⟨2, _⟩ => exact ⟨_, rfl, by decide, by decide, by decide⟩
  | ⟨3, _⟩ => exact ⟨_, rfl, by decide, by decide, by decide⟩
  | ⟨4, _⟩ => exact ⟨_, rfl, by decide, by decide, by decide⟩
  | ⟨5, _⟩ => exact ⟨_, rfl, by decide, by decide, by decide⟩
  | ⟨6, _⟩ => exact ⟨_, rfl, by decide, by decide, by decide⟩
  | ⟨7, _⟩ => exact ⟨_, rfl, by decide, by decide, by decide⟩
  | ⟨8, _⟩ => exact ⟨_, rfl, by decide, by decide, by decide⟩
  | ⟨9, _⟩ => exact ⟨_, rfl, by decide, by decide, by decide⟩
  | ⟨10, _⟩ => exact ⟨_, rfl, by decide, by decide, by decide⟩
  | ⟨11, _⟩ => exact ⟨_, rfl, by decide, by decide, by decide⟩
  | ⟨12, _⟩ => exact ⟨_, rfl, by decide, by decide, by decide⟩

theorem rom_idx0 : ∀ w, (Instr.index 145 (.agg #[.int .i64 1000, .string ⟨#[109]⟩, .int .i64 900, .string ⟨#[99, 109]⟩, .int .i64 500, .string ⟨#[100]⟩, .int .i64 400, .string ⟨#[99, 100]⟩, .int .i64 100, .string ⟨#[99]⟩, .int .i64 90, .string ⟨#[120, 99]⟩, .int .i64 50, .string ⟨#[108]⟩, .int .i64 40, .string ⟨#[120, 108]⟩, .int .i64 10, .string ⟨#[120]⟩, .int .i64 9, .string ⟨#[105, 120]⟩, .int .i64 5, .string ⟨#[118]⟩, .int .i64 4, .string ⟨#[105, 118]⟩, .int .i64 1, .string ⟨#[105]⟩]) (.int .i64 0)).run Tryd.prog w = .ok (.agg #[.int .i64 1000, .string ⟨#[109]⟩]) w := fun _ => by kernel_rfl
theorem rom_idx1 : ∀ w, (Instr.index 145 (.agg #[.int .i64 1000, .string ⟨#[109]⟩, .int .i64 900, .string ⟨#[99, 109]⟩, .int .i64 500, .string ⟨#[100]⟩, .int .i64 400, .string ⟨#[99, 100]⟩, .int .i64 100, .string ⟨#[99]⟩, .int .i64 90, .string ⟨#[120, 99]⟩, .int .i64 50, .string ⟨#[108]⟩, .int .i64 40, .string ⟨#[120, 108]⟩, .int .i64 10, .string ⟨#[120]⟩, .int .i64 9, .string ⟨#[105, 120]⟩, .int .i64 5, .string ⟨#[118]⟩, .int .i64 4, .string ⟨#[105, 118]⟩, .int .i64 1, .string ⟨#[105]⟩]) (.int .i64 1)).run Tryd.prog w = .ok (.agg #[.int .i64 900, .string ⟨#[99, 109]⟩]) w := fun _ => by kernel_rfl
theorem rom_idx2 : ∀ w, (Instr.index 145 (.agg #[.int .i64 1000, .string ⟨#[109]⟩, .int .i64 900, .string ⟨#[99, 109]⟩, .int .i64 500, .string ⟨#[100]⟩, .int .i64 400, .string ⟨#[99, 100]⟩, .int .i64 100, .string ⟨#[99]⟩, .int .i64 90, .string ⟨#[120, 99]⟩, .int .i64 50, .string ⟨#[108]⟩, .int .i64 40, .string ⟨#[120, 108]⟩, .int .i64 10, .string ⟨#[120]⟩, .int .i64 9, .string ⟨#[105, 120]⟩, .int .i64 5, .string ⟨#[118]⟩, .int .i64 4, .string ⟨#[105, 118]⟩, .int .i64 1, .string ⟨#[105]⟩]) (.int .i64 2)).run Tryd.prog w = .ok (.agg #[.int .i64 500, .string ⟨#[100]⟩]) w := fun _ => by kernel_rfl
theorem rom_idx3 : ∀ w, (Instr.index 145 (.agg #[.int .i64 1000, .string ⟨#[109]⟩, .int .i64 900, .string ⟨#[99, 109]⟩, .int .i64 500, .string ⟨#[100]⟩, .int .i64 400, .string ⟨#[99, 100]⟩, .int .i64 100, .string ⟨#[99]⟩, .int .i64 90, .string ⟨#[120, 99]⟩, .int .i64 50, .string ⟨#[108]⟩, .int .i64 40, .string ⟨#[120, 108]⟩, .int .i64 10, .string ⟨#[120]⟩, .int .i64 9, .string ⟨#[105, 120]⟩, .int .i64 5, .string ⟨#[118]⟩, .int .i64 4, .string ⟨#[105, 118]⟩, .int .i64 1, .string ⟨#[105]⟩]) (.int .i64 3)).run Tryd.prog w = .ok (.agg #[.int .i64 400, .string ⟨#[99, 100]⟩]) w := fun _ => by kernel_rfl
theorem rom_idx4 : ∀ w, (Instr.index 145 (.agg #[.int .i64 1000, .string ⟨#[109]⟩, .int .i64 900, .string ⟨#[99, 109]⟩, .int .i64 500, .string ⟨#[100]⟩, .int .i64 400, .string ⟨#[99, 100]⟩, .int .i64 100, .string ⟨#[99]⟩, .int .i64 90, .string ⟨#[120, 99]⟩, .int .i64 50, .string ⟨#[108]⟩, .int .i64 40, .string ⟨#[120, 108]⟩, .int .i64 10, .string ⟨#[120]⟩, .int .i64 9, .string ⟨#[105, 120]⟩, .int .i64 5, .string ⟨#[118]⟩, .int .i64 4, .string ⟨#[105, 118]⟩, .int .i64 1, .string ⟨#[105]⟩]) (.int .i64 4)).run Tryd.prog w = .ok (.agg #[.int .i64 100, .string ⟨#[99]⟩]) w := fun _ => by kernel_rfl
theorem rom_idx5 : ∀ w, (Instr.index 145 (.agg #[.int .i64 1000, .string ⟨#[109]⟩, .int .i64 900, .string ⟨#[99, 109]⟩, .int .i64 500, .string ⟨#[100]⟩, .int .i64 400, .string ⟨#[99, 100]⟩, .int .i64 100, .string ⟨#[99]⟩, .int .i64 90, .string ⟨#[120, 99]⟩, .int .i64 50, .string ⟨#[108]⟩, .int .i64 40, .string ⟨#[120, 108]⟩, .int .i64 10, .string ⟨#[120]⟩, .int .i64 9, .string ⟨#[105, 120]⟩, .int .i64 5, .string ⟨#[118]⟩, .int .i64 4, .string ⟨#[105, 118]⟩, .int .i64 1, .string ⟨#[105]⟩]) (.int .i64 5)).run Tryd.prog w = .ok (.agg #[.int .i64 90, .string ⟨#[120, 99]⟩]) w := fun _ => by kernel_rfl
theorem rom_idx6 : ∀ w, (Instr.index 145 (.agg #[.int .i64 1000, .string ⟨#[109]⟩, .int .i64 900, .string ⟨#[99, 109]⟩, .int .i64 500, .string ⟨#[100]⟩, .int .i64 400, .string ⟨#[99, 100]⟩, .int .i64 100, .string ⟨#[99]⟩, .int .i64 90, .string ⟨#[120, 99]⟩, .int .i64 50, .string ⟨#[108]⟩, .int .i64 40, .string ⟨#[120, 108]⟩, .int .i64 10, .string ⟨#[120]⟩, .int .i64 9, .string ⟨#[105, 120]⟩, .int .i64 5, .string ⟨#[118]⟩, .int .i64 4, .string ⟨#[105, 118]⟩, .int .i64 1, .string ⟨#[105]⟩]) (.int .i64 6)).run Tryd.prog w = .ok (.agg #[.int .i64 50, .string ⟨#[108]⟩]) w := fun _ => by kernel_rfl
theorem rom_idx7 : ∀ w, (Instr.index 145 (.agg #[.int .i64 1000, .string ⟨#[109]⟩, .int .i64 900, .string ⟨#[99, 109]⟩, .int .i64 500, .string ⟨#[100]⟩, .int .i64 400, .string ⟨#[99, 100]⟩, .int .i64 100, .string ⟨#[99]⟩, .int .i64 90, .string ⟨#[120, 99]⟩, .int .i64 50, .string ⟨#[108]⟩, .int .i64 40, .string ⟨#[120, 108]⟩, .int .i64 10, .string ⟨#[120]⟩, .int .i64 9, .string ⟨#[105, 120]⟩, .int .i64 5, .string ⟨#[118]⟩, .int .i64 4, .string ⟨#[105, 118]⟩, .int .i64 1, .string ⟨#[105]⟩]) (.int .i64 7)).run Tryd.prog w = .ok (.agg #[.int .i64 40, .string ⟨#[120, 108]⟩]) w := fun _ => by kernel_rfl
theorem rom_idx8 : ∀ w, (Instr.index 145 (.agg #[.int .i64 1000, .string ⟨#[109]⟩, .int .i64 900, .string ⟨#[99, 109]⟩, .int .i64 500, .string ⟨#[100]⟩, .int .i64 400, .string ⟨#[99, 100]⟩, .int .i64 100, .string ⟨#[99]⟩, .int .i64 90, .string ⟨#[120, 99]⟩, .int .i64 50, .string ⟨#[108]⟩, .int .i64 40, .string ⟨#[120, 108]⟩, .int .i64 10, .string ⟨#[120]⟩, .int .i64 9, .string ⟨#[105, 120]⟩, .int .i64 5, .string ⟨#[118]⟩, .int .i64 4, .string ⟨#[105, 118]⟩, .int .i64 1, .string ⟨#[105]⟩]) (.int .i64 8)).run Tryd.prog w = .ok (.agg #[.int .i64 10, .string ⟨#[120]⟩]) w := fun _ => by kernel_rfl
theorem rom_idx9 : ∀ w, (Instr.index 145 (.agg #[.int .i64 1000, .string ⟨#[109]⟩, .int .i64 900, .string ⟨#[99, 109]⟩, .int .i64 500, .string ⟨#[100]⟩, .int .i64 400, .string ⟨#[99, 100]⟩, .int .i64 100, .string ⟨#[99]⟩, .int .i64 90, .string ⟨#[120, 99]⟩, .int .i64 50, .string ⟨#[108]⟩, .int .i64 40, .string ⟨#[120, 108]⟩, .int .i64 10, .string ⟨#[120]⟩, .int .i64 9, .string ⟨#[105, 120]⟩, .int .i64 5, .string ⟨#[118]⟩, .int .i64 4, .string ⟨#[105, 118]⟩, .int .i64 1, .string ⟨#[105]⟩]) (.int .i64 9)).run Tryd.prog w = .ok (.agg #[.int .i64 9, .string ⟨#[105, 120]⟩]) w := fun _ => by kernel_rfl
theorem rom_idx10 : ∀ w, (Instr.index 145 (.agg #[.int .i64 1000, .string ⟨#[109]⟩, .int .i64 900, .string ⟨#[99, 109]⟩, .int .i64 500, .string ⟨#[100]⟩, .int .i64 400, .string ⟨#[99, 100]⟩, .int .i64 100, .string ⟨#[99]⟩, .int .i64 90, .string ⟨#[120, 99]⟩, .int .i64 50, .string ⟨#[108]⟩, .int .i64 40, .string ⟨#[120, 108]⟩, .int .i64 10, .string ⟨#[120]⟩, .int .i64 9, .string ⟨#[105, 120]⟩, .int .i64 5, .string ⟨#[118]⟩, .int .i64 4, .string ⟨#[105, 118]⟩, .int .i64 1, .string ⟨#[105]⟩]) (.int .i64 10)).run Tryd.prog w = .ok (.agg #[.int .i64 5, .string ⟨#[118]⟩]) w := fun _ => by kernel_rfl
theorem rom_idx11 : ∀ w, (Instr.index 145 (.agg #[.int .i64 1000, .string ⟨#[109]⟩, .int .i64 900, .string ⟨#[99, 109]⟩, .int .i64 500, .string ⟨#[100]⟩, .int .i64 400, .string ⟨#[99, 100]⟩, .int .i64 100, .string ⟨#[99]⟩, .int .i64 90, .string ⟨#[120, 99]⟩, .int .i64 50, .string ⟨#[108]⟩, .int .i64 40, .string ⟨#[120, 108]⟩, .int .i64 10, .string ⟨#[120]⟩, .int .i64 9, .string ⟨#[105, 120]⟩, .int .i64 5, .string ⟨#[118]⟩, .int .i64 4, .string ⟨#[105, 118]⟩, .int .i64 1, .string ⟨#[105]⟩]) (.int .i64 11)).run Tryd.prog w = .ok (.agg #[.int .i64 4, .string ⟨#[105, 118]⟩]) w := fun _ => by kernel_rfl
theorem rom_idx12 : ∀ w, (Instr.index 145 (.agg #[.int .i64 1000, .string ⟨#[109]⟩, .int .i64 900, .string ⟨#[99, 109]⟩, .int .i64 500, .string ⟨#[100]⟩, .int .i64 400, .string ⟨#[99, 100]⟩, .int .i64 100, .string ⟨#[99]⟩, .int .i64 90, .string ⟨#[120, 99]⟩, .int .i64 50, .string ⟨#[108]⟩, .int .i64 40, .string ⟨#[120, 108]⟩, .int .i64 10, .string ⟨#[120]⟩, .int .i64 9, .string ⟨#[105, 120]⟩, .int .i64 5, .string ⟨#[118]⟩, .int .i64 4, .string ⟨#[105, 118]⟩, .int .i64 1, .string ⟨#[105]⟩]) (.int .i64 12)).run Tryd.prog w = .ok (.agg #[.int .i64 1, .string ⟨#[105]⟩]) w := fun _ => by kernel_rfl
theorem rom_idx (k : Nat) (hk : k < 13) (d : Nat) (s : Bs) (h : romT[k]? = some (d, s)) (w : World) :
    (Instr.index 145 (.agg #[.int .i64 1000, .string ⟨#[109]⟩, .int .i64 900, .string ⟨#[99, 109]⟩, .int .i64 500, .string ⟨#[100]⟩, .int .i64 400, .string ⟨#[99, 100]⟩, .int .i64 100, .string ⟨#[99]⟩, .int .i64 90, .string ⟨#[120, 99]⟩, .int .i64 50, .string ⟨#[108]⟩, .int .i64 40, .string ⟨#[120, 108]⟩, .int .i64 10, .string ⟨#[120]⟩, .int .i64 9, .string ⟨#[105, 120]⟩, .int .i64 5, .string ⟨#[118]⟩, .int .i64 4, .string ⟨#[105, 118]⟩, .int .i64 1, .string ⟨#[105]⟩]) (.int .i64 (k : Int))).run Tryd.prog w = .ok (.agg #[.int .i64 (d : Int), .string (bs s)]) w := by
  match k, hk with
  | 0, _ =>
    obtain ⟨rfl, rfl⟩ : d = 1000 ∧ s = [109] := by simpa [romT, eq_comm] using h
    exact rom_idx0 w
  | 1, _ =>
    obtain ⟨rfl, rfl⟩ : d = 900 ∧ s = [99, 109] := by simpa [romT, eq_comm] using h
    exact rom_idx1 w
  | 2, _ =>
    obtain ⟨rfl, rfl⟩ : d = 500 ∧ s = [100] := by simpa [romT, eq_comm] using h
    exact rom_idx2 w
  | 3, _ =>
    obtain ⟨rfl, rfl⟩ : d = 400 ∧ s = [99, 100] := by simpa [romT, eq_comm] using h
    exact rom_idx3 w
  | 4, _ =>
    obtain ⟨rfl, rfl⟩ : d = 100 ∧ s = [99] := by simpa [romT, eq_comm] using h
    exact rom_idx4 w
  | 5, _ =>
    obtain ⟨rfl, rfl⟩ : d = 90 ∧ s = [120, 99] := by simpa [romT, eq_comm] using h
    exact rom_idx5 w
  | 6, _ =>
    obtain ⟨rfl, rfl⟩ : d = 50 ∧ s = [108] := by simpa [romT, eq_comm] using h
    exact rom_idx6 w
  | 7, _ =>
    obtain ⟨rfl, rfl⟩ : d = 40 ∧ s = [120, 108] := by simpa [romT, eq_comm] using h
    exact rom_idx7 w
  | 8, _ =>
    obtain ⟨rfl, rfl⟩ : d = 10 ∧ s = [120] := by simpa [romT, eq_comm] using h
    exact rom_idx8 w
  | 9, _ =>
    obtain ⟨rfl, rfl⟩ : d = 9 ∧ s = [105, 120] := by simpa [romT, eq_comm] using h
    exact rom_idx9 w
  | 10, _ =>
    obtain ⟨rfl, rfl⟩ : d = 5 ∧ s = [118] := by simpa [romT, eq_comm] using h
    exact rom_idx10 w
  | 11, _ =>
    obtain ⟨rfl, rfl⟩ : d = 4 ∧ s = [105, 118] := by simpa [romT, eq_comm] using h
    exact rom_idx11 w
  | 12, _ =>
    obtain ⟨rfl, rfl⟩ : d = 1 ∧ s = [105] := by simpa [romT, eq_comm] using h
    exact rom_idx12 w

theorem romF_bd : ∀ (T : List (Nat × Bs)), (∀ p ∈ T, 1 ≤ p.1 ∧ p.2.length ≤ 2 * p.1) → ∀ n, (romF T n).length ≤ 2 * n
  | [], _, n => by simp [romF]
  | (d, s) :: T, hT, n => by
    have h1 := romF_bd T (fun p hp => hT p (by simp [hp])) (n % d)
    obtain ⟨h2, h3⟩ := hT (d, s) (by simp)
    simp only at h2 h3
    show ((List.replicate (n / d) s).flatten ++ romF T (n % d)).length ≤ 2 * n
    rw [List.length_append]
    have h4 : (List.replicate (n / d) s).flatten.length = n / d * s.length := by simp [List.length_flatten]
    have h5 := Nat.div_add_mod n d
    have h6 : n / d * s.length ≤ n / d * (2 * d) := Nat.mul_le_mul_left _ h3
    have h7 : n / d * (2 * d) = 2 * (d * (n / d)) := by rw [Nat.mul_comm (n / d), Nat.mul_assoc]
    omega
theorem rom_bd (n : Nat) : (romP n).length ≤ 2 * n := romF_bd romT (by decide) n
theorem drop_at {k : Nat} {p : Nat × Bs} (h : romT[k]? = some p) : romT.drop k = p :: romT.drop (k + 1) := by
  obtain ⟨hl, he⟩ := List.getElem?_eq_some_iff.1 h
  rw [List.drop_eq_getElem_cons hl, he]

set_option maxRecDepth 100000 in
set_option maxHeartbeats 4000000 in
theorem roman_ct (n : Nat) (hn : n ≤ 3999) (w : World) : Calls Tryd.prog 78 #[.int .i64 n] w fun e w' => e = .returned (.string (bs (romP n))) ∧ Below w.heap.size w w' := by
  have hlen := rom_bd n
  go_enter Tryd.func78, Tryd.ntmps78
  go_wp2_with fail
  go_loopw [0, 20] (fun x i wr => ∃ (k m : Nat) (out : Bs), k ≤ 13 ∧ i = .int .i64 k ∧ x = .int .i64 m ∧ m ≤ 3999 ∧ romP n = out ++ romF (romT.drop k) m ∧ IsB w.heap.size w.heap.size out wr ∧ Below w.heap.size w wr ∧ w.heap.size < wr.heap.size) (fun _ i _ => 13 - (intOf i).toNat)
  case atStart => exact ⟨0, n, [], by omega, rfl, rfl, hn, rfl, IsB.new w _ (Nat.le_refl _), (Below.refl _ _).alloc (Nat.le_refl _) _, by simp⟩
  case round =>
    obtain ⟨k, m, out, hk, rfl, rfl, hm, hinv, hib, hbel, hlt⟩ := hrel
    have hol : out.length ≤ 7998 := by have := congrArg List.length hinv; rw [List.length_append] at this; omega
    have HIb := Lib.hid hib
    have HBl := Lib.hid hbel
    have HInv := Lib.hid hinv
    clear hib hbel hinv
    by_cases hk13 : k < 13
    · obtain ⟨⟨d, s⟩, hd, hd1, hd2, hs⟩ := rom_at ⟨k, hk13⟩
      simp only at hd hd1 hd2 hs
      have hidx := rom_idx k hk13 d s hd
      have HD := Lib.hid (drop_at hd)
      obtain ⟨wo, hwo⟩ : ∃ wo, wo = wr := ⟨_, rfl⟩
      subst hwo
      have kb : decide ((k : Int) < 13) = true := decide_eq_true (by omega)
      clear hd
      go_wp2_with fail
      generalize hV : wo.alloc (.cells #[.int .i64 (d : Int), .string (bs s)] 144) = V
      have HV := Lib.hid (show Below w.heap.size w V by subst hV; exact HBl.out.alloc HBl.out.size _)
      have cV := Lib.hid (show Blk V wo.heap.size 144 #[.int .i64 (d : Int), .string (bs s)] by subst hV; exact Blk.new rfl)
      have iV := Lib.hid (show IsB w.heap.size w.heap.size out V by subst hV; exact HIb.out.on ((Below.refl _ _).alloc (Nat.le_refl _) _))
      have zV : wo.heap.size < V.heap.size := by subst hV; simp
      clear hV hidx HIb HBl
      go_loopw [0] (fun x wx => ∃ (m : Nat) (out : Bs), x = .int .i64 m ∧ m ≤ 3999 ∧ romP n = out ++ romF ((d, s) :: romT.drop (k + 1)) m ∧ IsB w.heap.size w.heap.size out wx ∧ Below w.heap.size w wx ∧ Blk wx wo.heap.size 144 #[.int .i64 (d : Int), .string (bs s)]) (fun x _ => (intOf x).toNat)
      case atStart => exact ⟨m, out, rfl, hm, by rw [HInv.out, HD.out], iV.out, HV.out, cV.out⟩
      case round =>
        clear HInv hol iV HV cV zV hm
        obtain ⟨m, out, rfl, hm, hinv, hib, hbel, hblk⟩ := hrel
        have hol : out.length ≤ 7998 := by have := congrArg List.length hinv; rw [List.length_append] at this; omega
        have cx := hblk.cell
        have HBk := Lib.hid hblk
        have HIb := Lib.hid hib
        have HBl := Lib.hid hbel
        have HInv := Lib.hid hinv
        have hzr := hbel.size
        have hzk := hblk.lt
        clear hib hbel hinv hblk
        by_cases hge : d ≤ m
        · have hge' : (d : Int) ≤ m := by omega
          have hdz : (1 : Int) ≤ d := by omega
          have hmz : (m : Int) ≤ 3999 := by omega
          have HM := Lib.hid (romF_more (s := s) (T := romT.drop (k + 1)) (show 0 < d by omega) hge)
          have cW := Lib.hid (writeString_on w.heap.size w.heap.size out (bs s) wr HIb.out (by rw [bs_size]; omega) hzr wo.heap.size 144 #[.int .i64 (d : Int), .string (bs s)] HBk.out (by decide) (by omega))
          go_wp2_with ((go_at_call 71; (with_reducible refine (cW.out).mono ?_); rintro e W2 ⟨rfl, hib2, hb2, hk2⟩; have cx2 := hk2.cell; have HI2 := Lib.hid hib2; have HB2 := Lib.hid (HBl.out.trans hb2); have HK2 := Lib.hid hk2; clear hib2 hb2 hk2 cx))
          go_roundw
          case rel => exact ⟨m - d, out ++ s, by congr 1; omega, by omega, by rw [HInv.out, HM.out, List.append_assoc], HI2.out, HB2.out, HK2.out⟩
          case measure => simp [intOf]; omega
        · have hge' : (m : Int) < d := by omega
          have HL := Lib.hid (romF_less (s := s) (T := romT.drop (k + 1)) (show m < d by omega))
          go_wp2_with fail
          go_roundw
          case rel => exact ⟨k + 1, m, out, by omega, by go_num, rfl, hm, by rw [HInv.out, HL.out], HIb.out, HBl.out, by omega⟩
          case measure => simp [intOf]; omega
    · obtain rfl : k = 13 := by omega
      have hfin : romP n = out := by rw [HInv.out]; simp [romT, romF]
      have cS := Lib.hid (builderString_ct w.heap.size w.heap.size out _ HIb.out (by omega))
      have HF := Lib.hid hfin
      clear hfin
      go_wp2_with ((go_at_call 36; (with_reducible refine (cS.out).mono ?_); rintro e W2 ⟨rfl, hb2⟩; have HB2 := Lib.hid (HBl.out.trans (hb2.mono (by omega))); clear hb2))
      go_ret
      exact ⟨by rw [HF.out]; rfl, HB2.out⟩

end Go.Proofs.YtaihncbejhnceaaDoor.cnt

namespace Go.Proofs.YtaihncbejhnceaaDoor.cnt
open Go.RowKit Go.Proofs.YtaihncbejhnceaaDoor.base Go.Proofs.YtaihncbejhnceaaDoor.tok Go.Proofs.YtaihncbejhnceaaDoor.dim
set_option linter.unusedVariables false

theorem cin_ct (n lo hi : Int) (w : World) :
    Calls Tryd.prog 39 #[.int .i64 n, .int .i64 lo, .int .i64 hi] w fun e w' => e = .returned (.bool (decide (lo ≤ n) && decide (n ≤ hi))) ∧ w' = w := by
  by_cases h1 : lo ≤ n
  · have d1 : decide (n ≥ lo) = true := decide_eq_true h1
    rw [decide_eq_true h1, Bool.true_and]
    go_enter Tryd.func39, Tryd.ntmps39
    go_wp2
    go_ret
    exact ⟨rfl, rfl⟩
  · have d1 : decide (n ≥ lo) = false := decide_eq_false h1
    rw [decide_eq_false h1, Bool.false_and]
    go_enter Tryd.func39, Tryd.ntmps39
    go_wp2
    go_ret
    exact ⟨rfl, rfl⟩
theorem cin_yes (n lo hi : Int) (h1 : lo ≤ n) (h2 : n ≤ hi) (w : World) :
    Calls Tryd.prog 39 #[.int .i64 n, .int .i64 lo, .int .i64 hi] w fun e w' => e = .returned (.bool true) ∧ w = w' :=
  (cin_ct n lo hi w).mono fun e w' ⟨he, hw⟩ => ⟨by rw [he, decide_eq_true h1, decide_eq_true h2]; rfl, hw.symm⟩

theorem upper_ct (l : Bs) (hl : l.length ≤ 100000000) (h : ∀ c ∈ l, smallB c = true) (w : World) :
    Calls Tryd.prog 77 #[.string (bs l)] w fun e w' => e = .returned (.string (bs (Lib.toUpperA l))) ∧ Below w.heap.size w w' :=
  Tryd.strings_ToUpper_ascii (bs l) w (by rw [bs_size]; omega) fun j b hb => by
    have := h b (List.mem_of_getElem? hb)
    simp only [smallB, decide_eq_true_eq] at this
    omega

set_option maxRecDepth 100000 in
set_option maxHeartbeats 4000000 in
theorem mark_2 (n : Nat) (h1 : 1 ≤ n) (h2 : n ≤ 3999) (w : World) (hT : PowAt w) :
    Calls Tryd.prog 40 #[.int .i64 2, .int .i64 n] w fun e w' => e = .returned (.string (bs (Lib.decDigits n))) ∧ Below w.heap.size w w' := by
  have hz1 : (1 : Int) ≤ n := by omega
  have hz2 : (n : Int) ≤ 3999 := by omega
  have hz3 : (0 : Int) < n := by omega
  have cI := Lib.hid (show Calls Tryd.prog 79 #[.int .i64 n] w fun e w' => e = .returned (.string (bs (Lib.decDigits n))) ∧ Below w.heap.size w w' from by
    have := itoa_ct (n : Int) (by omega) (by omega) w hT
    rwa [show Lib.itoa (n : Int) = Lib.decDigits n from by unfold Lib.itoa; rw [if_neg (by omega)]; rfl] at this)
  clear hT
  go_enter Tryd.func40, Tryd.ntmps40
  go_wp2_with (first
    | (go_at_call 76; (with_reducible refine (cL.out _).mono ?_); rintro e W1 ⟨rfl, hb1⟩; have HB1 := Lib.hid hb1; clear hb1)
    | (go_at_call 78; (with_reducible refine (cR.out _).mono ?_); rintro e W1 ⟨rfl, hb1⟩; have HB1 := Lib.hid hb1; clear hb1)
    | (go_at_call 77; (with_reducible refine (cU.out _).mono ?_); rintro e W2 ⟨rfl, hb2⟩; have HB2 := Lib.hid (HB1.out.trans (hb2.mono HB1.out.size)); clear hb2)
    | (go_at_call 39; (with_reducible refine (cin_yes _ _ _ (by omega) (by omega) _).mono ?_); rintro e W3 ⟨rfl, rfl⟩)
    | (go_at_call 79; (with_reducible refine (cI.out).mono ?_); rintro e W1 ⟨rfl, hb1⟩; have HB1 := Lib.hid hb1; clear hb1))
  go_ret
  exact ⟨rfl, HB1.out⟩

set_option maxRecDepth 100000 in
set_option maxHeartbeats 4000000 in
theorem mark_3 (n : Nat) (h1 : 1 ≤ n) (h2 : n ≤ 3999) (w : World) (hT : PowAt w) :
    Calls Tryd.prog 40 #[.int .i64 3, .int .i64 n] w fun e w' => e = .returned (.string (bs (letP n))) ∧ Below w.heap.size w w' := by
  have hz1 : (1 : Int) ≤ n := by omega
  have hz2 : (n : Int) ≤ 3999 := by omega
  have hz3 : (0 : Int) < n := by omega
  have cL := Lib.hid (fun w => letters_ct n h1 (by omega) w)
  clear hT
  go_enter Tryd.func40, Tryd.ntmps40
  go_wp2_with (first
    | (go_at_call 76; (with_reducible refine (cL.out _).mono ?_); rintro e W1 ⟨rfl, hb1⟩; have HB1 := Lib.hid hb1; clear hb1)
    | (go_at_call 78; (with_reducible refine (cR.out _).mono ?_); rintro e W1 ⟨rfl, hb1⟩; have HB1 := Lib.hid hb1; clear hb1)
    | (go_at_call 77; (with_reducible refine (cU.out _).mono ?_); rintro e W2 ⟨rfl, hb2⟩; have HB2 := Lib.hid (HB1.out.trans (hb2.mono HB1.out.size)); clear hb2)
    | (go_at_call 39; (with_reducible refine (cin_yes _ _ _ (by omega) (by omega) _).mono ?_); rintro e W3 ⟨rfl, rfl⟩)
    | (go_at_call 79; (with_reducible refine (cI.out).mono ?_); rintro e W1 ⟨rfl, hb1⟩; have HB1 := Lib.hid hb1; clear hb1))
  go_ret
  exact ⟨rfl, HB1.out⟩

set_option maxRecDepth 100000 in
set_option maxHeartbeats 4000000 in
theorem mark_4 (n : Nat) (h1 : 1 ≤ n) (h2 : n ≤ 3999) (w : World) (hT : PowAt w) :
    Calls Tryd.prog 40 #[.int .i64 4, .int .i64 n] w fun e w' => e = .returned (.string (bs (Lib.toUpperA (letP n)))) ∧ Below w.heap.size w w' := by
  have hz1 : (1 : Int) ≤ n := by omega
  have hz2 : (n : Int) ≤ 3999 := by omega
  have hz3 : (0 : Int) < n := by omega
  have cL := Lib.hid (fun w => letters_ct n h1 (by omega) w)
  have cU := Lib.hid (fun w => upper_ct (letP n) (by have := letR_bd n n (Nat.le_refl _); unfold letP; rw [List.length_reverse]; omega) (let_small n) w)
  clear hT
  go_enter Tryd.func40, Tryd.ntmps40
  go_wp2_with (first
    | (go_at_call 76; (with_reducible refine (cL.out _).mono ?_); rintro e W1 ⟨rfl, hb1⟩; have HB1 := Lib.hid hb1; clear hb1)
    | (go_at_call 78; (with_reducible refine (cR.out _).mono ?_); rintro e W1 ⟨rfl, hb1⟩; have HB1 := Lib.hid hb1; clear hb1)
    | (go_at_call 77; (with_reducible refine (cU.out _).mono ?_); rintro e W2 ⟨rfl, hb2⟩; have HB2 := Lib.hid (HB1.out.trans (hb2.mono HB1.out.size)); clear hb2)
    | (go_at_call 39; (with_reducible refine (cin_yes _ _ _ (by omega) (by omega) _).mono ?_); rintro e W3 ⟨rfl, rfl⟩)
    | (go_at_call 79; (with_reducible refine (cI.out).mono ?_); rintro e W1 ⟨rfl, hb1⟩; have HB1 := Lib.hid hb1; clear hb1))
  go_ret
  exact ⟨rfl, HB2.out⟩

set_option maxRecDepth 100000 in
set_option maxHeartbeats 4000000 in
theorem mark_5 (n : Nat) (h1 : 1 ≤ n) (h2 : n ≤ 3999) (w : World) (hT : PowAt w) :
    Calls Tryd.prog 40 #[.int .i64 5, .int .i64 n] w fun e w' => e = .returned (.string (bs (romP n))) ∧ Below w.heap.size w w' := by
  have hz1 : (1 : Int) ≤ n := by omega
  have hz2 : (n : Int) ≤ 3999 := by omega
  have hz3 : (0 : Int) < n := by omega
  have cR := Lib.hid (fun w => roman_ct n h2 w)
  clear hT
  go_enter Tryd.func40, Tryd.ntmps40
  go_wp2_with (first
    | (go_at_call 76; (with_reducible refine (cL.out _).mono ?_); rintro e W1 ⟨rfl, hb1⟩; have HB1 := Lib.hid hb1; clear hb1)
    | (go_at_call 78; (with_reducible refine (cR.out _).mono ?_); rintro e W1 ⟨rfl, hb1⟩; have HB1 := Lib.hid hb1; clear hb1)
    | (go_at_call 77; (with_reducible refine (cU.out _).mono ?_); rintro e W2 ⟨rfl, hb2⟩; have HB2 := Lib.hid (HB1.out.trans (hb2.mono HB1.out.size)); clear hb2)
    | (go_at_call 39; (with_reducible refine (cin_yes _ _ _ (by omega) (by omega) _).mono ?_); rintro e W3 ⟨rfl, rfl⟩)
    | (go_at_call 79; (with_reducible refine (cI.out).mono ?_); rintro e W1 ⟨rfl, hb1⟩; have HB1 := Lib.hid hb1; clear hb1))
  go_ret
  exact ⟨rfl, HB1.out⟩

set_option maxRecDepth 100000 in
set_option maxHeartbeats 4000000 in
theorem mark_6 (n : Nat) (h1 : 1 ≤ n) (h2 : n ≤ 3999) (w : World) (hT : PowAt w) :
    Calls Tryd.prog 40 #[.int .i64 6, .int .i64 n] w fun e w' => e = .returned (.string (bs (Lib.toUpperA (romP n)))) ∧ Below w.heap.size w w' := by
  have hz1 : (1 : Int) ≤ n := by omega
  have hz2 : (n : Int) ≤ 3999 := by omega
  have hz3 : (0 : Int) < n := by omega
  have cR := Lib.hid (fun w => roman_ct n h2 w)
  have cU := Lib.hid (fun w => upper_ct (romP n) (by have := rom_bd n; omega) (rom_small n) w)
  clear hT
  go_enter Tryd.func40, Tryd.ntmps40
  go_wp2_with (first
    | (go_at_call 76; (with_reducible refine (cL.out _).mono ?_); rintro e W1 ⟨rfl, hb1⟩; have HB1 := Lib.hid hb1; clear hb1)
    | (go_at_call 78; (with_reducible refine (cR.out _).mono ?_); rintro e W1 ⟨rfl, hb1⟩; have HB1 := Lib.hid hb1; clear hb1)
    | (go_at_call 77; (with_reducible refine (cU.out _).mono ?_); rintro e W2 ⟨rfl, hb2⟩; have HB2 := Lib.hid (HB1.out.trans (hb2.mono HB1.out.size)); clear hb2)
    | (go_at_call 39; (with_reducible refine (cin_yes _ _ _ (by omega) (by omega) _).mono ?_); rintro e W3 ⟨rfl, rfl⟩)
    | (go_at_call 79; (with_reducible refine (cI.out).mono ?_); rintro e W1 ⟨rfl, hb1⟩; have HB1 := Lib.hid hb1; clear hb1))
  go_ret
  exact ⟨rfl, HB2.out⟩

theorem mark_any (k n : Nat) (hk : 2 ≤ k ∧ k ≤ 6) (h1 : 1 ≤ n) (h2 : n ≤ 3999) (w : World) (hT : PowAt w) :
    Calls Tryd.prog 40 #[.int .i64 k, .int .i64 n] w fun e w' => e = .returned (.string (bs (markP k n))) ∧ Below w.heap.size w w' := by
  match k, hk with
  | 2, _ => exact mark_2 n h1 h2 w hT
  | 3, _ => exact mark_3 n h1 h2 w hT
  | 4, _ => exact mark_4 n h1 h2 w hT
  | 5, _ => exact mark_5 n h1 h2 w hT
  | 6, _ => exact mark_6 n h1 h2 w hT

set_option maxRecDepth 100000 in
set_option maxHeartbeats 4000000 in
theorem Mark_ct (k n : Nat) (hk : 2 ≤ k ∧ k ≤ 6) (h1 : 1 ≤ n) (h2 : n ≤ 3999) (w : World) (hT : PowAt w) :
    Calls Tryd.prog 20 #[.int .i64 k, .int .i64 n] w fun e w' => e = .returned (.tuple #[.string (bs (markP k n)), .int .i64 0]) ∧ Below w.heap.size w w' := by
  have cM := Lib.hid (mark_any k n hk h1 h2 w hT)
  clear hT
  go_enter Tryd.func20, Tryd.ntmps20
  go_wp2_with (first
    | (go_at_call 39; (with_reducible refine (cin_yes _ _ _ (by omega) (by omega) _).mono ?_); rintro e W3 ⟨rfl, rfl⟩)
    | (go_at_call 40; (with_reducible refine (cM.out).mono ?_); rintro e W1 ⟨rfl, hb1⟩; have HB1 := Lib.hid hb1; clear hb1))
  go_ret2
  exact ⟨rfl, HB1.out⟩

set_option maxRecDepth 100000 in
set_option maxHeartbeats 4000000 in
theorem fourth_ct (w : World) (hT : PowAt w) :
    Calls Tryd.prog 19 #[] w fun e w' => e = .returned (.bool true) ∧ Below w.heap.size w w' := by
  have cM := Mark_ct 5 14 (by decide) (by decide) (by decide) w hT
  rw [show markP 5 14 = [120, 105, 118] from by decide +kernel] at cM
  replace cM := Lib.hid (show Calls Tryd.prog 20 #[.int .i64 5, .int .i64 14] w fun e w' => e = .returned (.tuple #[.string ⟨#[120, 105, 118]⟩, .int .i64 0]) ∧ Below w.heap.size w w' from cM)
  clear hT
  go_enter Tryd.func19, Tryd.ntmps19
  go_wp2_with ((go_at_call 20; (with_reducible refine (cM.out).mono ?_); rintro e W1 ⟨rfl, hb1⟩; have HB1 := Lib.hid hb1; clear hb1))
  go_ret
  exact ⟨rfl, HB1.out⟩

end Go.Proofs.YtaihncbejhnceaaDoor.cnt
