/- Contracts: slices.Contains over a slice of strings that lies where it is laid; dim.units as it is laid. -/
import Derived.Test.YtphdmdncboegjaaDoorTok21
import Derived.Lib.LaidU8
namespace Go.Proofs.YtphdmdncboegjaaDoor.dim
open Go.RowKit Go.Proofs.YtphdmdncboegjaaDoor.base Go.Proofs.YtphdmdncboegjaaDoor.tok
set_option linter.unusedVariables false

/-- strings lie there, one behind the other -/
def StrsAt (w : World) (R o : Nat) (L : List Bs) : Prop := R < w.heap.size ∧ ∀ (i : Nat) (s : Bs), L[i]? = some s → w.cell? ⟨R, o + i, none⟩ = some (.string (bs s))

theorem StrsAt.on {w w' : World} {R o : Nat} {L : List Bs} (h : StrsAt w R o L) (hb : Below w.heap.size w w') : StrsAt w' R o L :=
  ⟨Nat.lt_of_lt_of_le h.1 hb.size, fun i s hi => (hb.cell (p := ⟨R, o + i, none⟩) h.1).trans (h.2 i s hi)⟩

def strsData (L : List Bs) : DataW Unit := .slice (L.map fun s => .lit (.string s)) []

theorem strs_of_reads {P : Program} {w : World} {name : String} {g : Nat} {t e : TypeId} {L : List Bs} (hn : P.globalNamed name = some g) (hy : (P.globals[g]?).map (·.type) = some t)
    (ht : P.underlying t = some (.slice e)) (he : P.underlying e = some .string) (hc : P.cellsOf e = 1) (hl : 0 < L.length) (h : Lib.VarReads P w name (strsData L)) :
    ∃ R o cap, w.cell? ⟨g, 0, none⟩ = some (.slice (some ⟨R, o, none⟩) L.length cap) ∧ StrsAt w R o L := by
  obtain ⟨g', t', cs, fuel, p, hg, hty, hvar, hd⟩ := h
  obtain rfl := Option.some.inj (hn.symm.trans hg)
  obtain rfl := Option.some.inj (hy.symm.trans hty)
  rcases DataW.trod_slice ht hd with ⟨_, hx⟩ | ⟨a, len, cap, el, rs, m, rfl, hcs, hx, _, hlc, _, hel, helem, hsp, _⟩
  · cases hx
  have e0 := congrArg Prod.fst hx
  simp only [strsData, DataW.slice.injEq] at e0
  obtain ⟨eE, eR⟩ := e0
  have hlen : len = L.length := by
    have := congrArg List.length eE
    simp at this
    omega
  have hcell : ∀ i s, L[i]? = some s → w.cell? (a.add i) = some (.string (bs s)) := by
    intro i s hs
    have hi := (List.getElem?_eq_some_iff.1 hs).1
    have h1 := helem i (by omega)
    rw [hc] at h1
    obtain ⟨b, hb⟩ : ∃ b, el[i]? = some b := ⟨el[i]'(by omega), List.getElem?_eq_getElem (by omega)⟩
    rw [hb] at h1
    obtain ⟨ce, hce, hte⟩ := Option.bind_eq_some_iff.1 h1
    obtain ⟨z, hz, hbz, _⟩ := DataW.trod_string he hte
    have hb1 : b.1 = .lit (.string s) := by
      have := congrArg (·[i]?) eE
      simp [hb, hs] at this
      exact this.symm
    rw [hbz] at hb1
    simp only [DataW.lit.injEq, Lit.string.injEq] at hb1
    obtain ⟨_, _, hcc⟩ := World.cells?_some hce
    have := hcc 0 (by omega)
    rw [hz] at this
    simp only [Nat.mul_one] at this
    have e1 : (a.add i).add 0 = a.add i := by simp [Addr.add]
    rw [e1] at this
    rw [this, ← hb1]
    cases z
    simp [bs]
  obtain ⟨R, o, sR⟩ := a
  obtain ⟨s0, h0⟩ : ∃ s, L[0]? = some s := ⟨L[0], List.getElem?_eq_getElem hl⟩
  have h00 := hcell 0 s0 h0
  have ez : (Addr.add ⟨R, o, sR⟩ 0) = ⟨R, o, sR⟩ := by simp [Addr.add]
  rw [ez] at h00
  obtain rfl : sR = none := Go.Proofs.cell_spot h00
  refine ⟨R, o, cap, ?_, ?_, fun j s hj => ?_⟩
  · rw [World.var?_cell hg hvar 0, ← Array.getElem?_toList, hcs, hlen]
    rfl
  · rcases Nat.lt_or_ge R w.heap.size with hR | hR
    · exact hR
    · rw [World.cell?, Array.getElem?_eq_none hR] at h00
      cases h00
  · have := hcell j s hj
    rwa [Addr.add_lit] at this


set_option maxRecDepth 100000 in
set_option maxHeartbeats 2000000 in
/-- the place of the first one that is it; -1 -/
theorem index_ct (w : World) (R o cap : Nat) (L : List Bs) (s : Bs) (h : StrsAt w R o L) (hc : L.length ≤ maxLen) :
    Calls Tryd.prog 74 #[.slice (some ⟨R, o, none⟩) L.length cap, .string (bs s)] w fun e w' => (∃ r : Int, e = .returned (.int .i64 r) ∧ (0 ≤ r ↔ s ∈ L)) ∧ w' = w := by
  have H := Lib.hid h
  unfold maxLen at hc
  obtain ⟨n, hn⟩ : ∃ n, L.length = n := ⟨_, rfl⟩
  rw [hn] at hc
  rw [hn]
  clear h
  go_enter Tryd.func74, Tryd.ntmps74
  go_wp2_with fail
  go_loopw [8] (fun i wr => ∃ k : Nat, k ≤ n ∧ i = .int .i64 k ∧ (∀ x ∈ L.take k, ¬ x = s) ∧ wr = w) (fun i _ => n - (intOf i).toNat)
  case atStart => exact ⟨0, by omega, rfl, by simp, rfl⟩
  case round =>
    obtain ⟨k, hk, rfl, hno, rfl⟩ := hrel
    replace hno := Lib.hid hno
    by_cases hlt : k < n
    · have hlt' : (k : Int) < (n : Int) := by omega
      have hkl : k < L.length := by omega
      have hx := List.getElem?_eq_getElem hkl
      generalize hxd : L[k] = x at hx
      have e0 := H.out.2 k x hx
      by_cases hxs : s = x
      · have hmem : s ∈ L := by
          rw [hxs]
          exact List.mem_of_getElem? hx
        have heq : ((bs s).toList == (bs x).toList) = true := by rw [hxs]; simp
        replace hmem := Lib.hid hmem
        replace hxs := Lib.hid hxs
        clear hx hxd
        go_wp2
        go_ret
        exact ⟨⟨_, rfl, iff_of_true (by omega) hmem.out⟩, rfl⟩
      · have heq : ((bs s).toList == (bs x).toList) = false := by
          rw [bs_toList, bs_toList]
          simpa using hxs
        have hno2 := Lib.hid (show ∀ y ∈ L.take (k + 1), ¬ y = s from by
          rw [List.take_succ_eq_append_getElem hkl]
          intro y hy
          rcases List.mem_append.1 hy with hy | hy
          · exact hno.out y hy
          · obtain rfl : y = L[k] := by simpa using hy
            rw [hxd]
            exact fun e => hxs e.symm)
        replace hxs := Lib.hid hxs
        clear hx hxd
        go_wp2
        go_roundw
        case rel => exact ⟨k + 1, by omega, by go_num, hno2.out, trivial⟩
        case measure => simp [intOf]; omega
    · obtain rfl : k = n := by omega
      have hnm : ¬ s ∈ L := fun hm => hno.out s (by rw [← hn, List.take_length]; exact hm) rfl
      replace hnm := Lib.hid hnm
      go_wp2
      go_ret
      exact ⟨⟨_, rfl, iff_of_false (by omega) hnm.out⟩, rfl⟩

theorem contains_ct (w : World) (R o cap : Nat) (L : List Bs) (s : Bs) (h : StrsAt w R o L) (hc : L.length ≤ maxLen) (hm : s ∈ L) :
    Calls Tryd.prog 46 #[.slice (some ⟨R, o, none⟩) L.length cap, .string (bs s)] w fun e w' => e = .returned (.bool true) ∧ w' = w := by
  have cI := Lib.hid ((index_ct w R o cap L s h hc).mono (R' := fun e w' => ∃ r : Int, e = .returned (.int .i64 r) ∧ decide (r ≥ 0) = true ∧ w' = w) fun e w' ⟨⟨r, he, hr⟩, hw⟩ => ⟨r, he, decide_eq_true (hr.2 hm), hw⟩)
  generalize L.length = n at *
  go_enter Tryd.func46, Tryd.ntmps46
  go_wp2_with ((go_at_call 74; (with_reducible refine cI.out.mono ?_); rintro e w1 ⟨r, rfl, hr, rfl⟩))
  go_ret
  exact ⟨rfl, rfl⟩

theorem in_ct (n lo hi : Int) (w : World) :
    Calls Tryd.prog 37 #[.int .i64 n, .int .i64 lo, .int .i64 hi] w fun e w' => e = .returned (.bool (decide (lo ≤ n) && decide (n ≤ hi))) ∧ w' = w := by
  by_cases h1 : lo ≤ n
  · have d1 : decide (n ≥ lo) = true := decide_eq_true h1
    rw [decide_eq_true h1, Bool.true_and]
    go_enter Tryd.func37, Tryd.ntmps37
    go_wp2
    go_ret
    exact ⟨rfl, rfl⟩
  · have d1 : decide (n ≥ lo) = false := decide_eq_false h1
    rw [decide_eq_false h1, Bool.false_and]
    go_enter Tryd.func37, Tryd.ntmps37
    go_wp2
    go_ret
    exact ⟨rfl, rfl⟩

theorem ret_int {a b : Int} (h : a = b) : Ending.returned (.int .i64 a) = .returned (.int .i64 b) := by rw [h]

theorem clip_ct (n : Int) (w : World) :
    Calls Tryd.prog 38 #[.int .i64 n] w fun e w' => e = .returned (.int .i64 (min (max n (-16777216)) 16777216)) ∧ w' = w := by
  go_enter Tryd.func38, Tryd.ntmps38
  go_wp2
  go_ret
  refine ⟨ret_int ?_, rfl⟩
  omega

/-- rounding down -/
theorem quo_1000 (a : Int) : a / 1000 = if a.tmod 1000 < 0 then a.tdiv 1000 - 1 else a.tdiv 1000 := by
  have h1 := Int.mul_tdiv_add_tmod a 1000
  have h5 := Int.tmod_lt_of_pos a (show (0 : Int) < 1000 by decide)
  have h6 := Int.lt_tmod_of_pos a (show (0 : Int) < 1000 by decide)
  split <;> omega

set_option maxHeartbeats 1000000 in
theorem down1000_ct (a : Int) (ha : -4611686018427387904 ≤ a) (ha2 : a ≤ 4611686018427387904) (w : World) :
    Calls Tryd.prog 39 #[.int .i64 a, .int .i64 1000] w fun e w' => e = .returned (.int .i64 (a / 1000)) ∧ w' = w := by
  have hq := quo_1000 a
  by_cases hz : a.tmod 1000 < 0
  · rw [if_pos hz] at hq
    have d1 : decide (a.tmod 1000 < 0) = true := decide_eq_true hz
    have r1 := IntWalk.i64_in (a.tdiv 1000) (by omega)
    have r2 := IntWalk.i64_in (a.tdiv 1000 - 1) (by omega)
    replace hq := Lib.hid hq
    go_enter Tryd.func39, Tryd.ntmps39
    go_wp2
    go_ret
    exact ⟨ret_int hq.out.symm, rfl⟩
  · rw [if_neg hz] at hq
    have d1 : decide (a.tmod 1000 < 0) = false := decide_eq_false hz
    have r1 := IntWalk.i64_in (a.tdiv 1000) (by omega)
    replace hq := Lib.hid hq
    go_enter Tryd.func39, Tryd.ntmps39
    go_wp2
    go_ret
    exact ⟨ret_int hq.out.symm, rfl⟩

theorem quo_100000 (a : Int) : a / 100000 = if a.tmod 100000 < 0 then a.tdiv 100000 - 1 else a.tdiv 100000 := by
  have h1 := Int.mul_tdiv_add_tmod a 100000
  have h5 := Int.tmod_lt_of_pos a (show (0 : Int) < 100000 by decide)
  have h6 := Int.lt_tmod_of_pos a (show (0 : Int) < 100000 by decide)
  split <;> omega

set_option maxHeartbeats 1000000 in
theorem down100000_ct (a : Int) (ha : -4611686018427387904 ≤ a) (ha2 : a ≤ 4611686018427387904) (w : World) :
    Calls Tryd.prog 39 #[.int .i64 a, .int .i64 100000] w fun e w' => e = .returned (.int .i64 (a / 100000)) ∧ w' = w := by
  have hq := quo_100000 a
  by_cases hz : a.tmod 100000 < 0
  · rw [if_pos hz] at hq
    have d1 : decide (a.tmod 100000 < 0) = true := decide_eq_true hz
    have r1 := IntWalk.i64_in (a.tdiv 100000) (by omega)
    have r2 := IntWalk.i64_in (a.tdiv 100000 - 1) (by omega)
    replace hq := Lib.hid hq
    go_enter Tryd.func39, Tryd.ntmps39
    go_wp2
    go_ret
    exact ⟨ret_int hq.out.symm, rfl⟩
  · rw [if_neg hz] at hq
    have d1 : decide (a.tmod 100000 < 0) = false := decide_eq_false hz
    have r1 := IntWalk.i64_in (a.tdiv 100000) (by omega)
    replace hq := Lib.hid hq
    go_enter Tryd.func39, Tryd.ntmps39
    go_wp2
    go_ret
    exact ⟨ret_int hq.out.symm, rfl⟩

end Go.Proofs.YtphdmdncboegjaaDoor.dim
