/- Contracts: lower, named, number. -/
import Derived.Test.YtphdmdncboegjaaDoorNum4
namespace Go.Proofs.YtphdmdncboegjaaDoor.tok
open Go.RowKit Go.Proofs.YtphdmdncboegjaaDoor.base
set_option linter.unusedVariables false

/-- a great letter made small -/
def lowB (c : UInt8) : UInt8 := if 65 ≤ nv c ∧ nv c ≤ 90 then UInt8.ofNat (c.toNat + 32) else c
theorem lowB_great {c : UInt8} (h : 65 ≤ nv c ∧ nv c ≤ 90) : nv (lowB c) = nv c + 32 := by
  unfold lowB
  rw [if_pos h]
  simp only [nv] at h ⊢
  rw [UInt8.toNat_ofNat']
  omega
theorem lowB_other {c : UInt8} (h : ¬ (65 ≤ nv c ∧ nv c ≤ 90)) : lowB c = c := by unfold lowB; rw [if_neg h]
def lowAt (l : Bs) (k : Nat) : Bs := (l.take k).map lowB ++ l.drop k
theorem lowAt_len (l : Bs) (k : Nat) : (lowAt l k).length = l.length := by simp [lowAt]; omega
theorem lowAt_end (l : Bs) : lowAt l l.length = l.map lowB := by simp [lowAt]
theorem lowAt_get {l : Bs} {k : Nat} {c : UInt8} (h : l[k]? = some c) : (lowAt l k)[k]? = some c := by
  obtain ⟨h1, h2⟩ := List.getElem?_eq_some_iff.1 h
  unfold lowAt
  rw [List.getElem?_append_right (by simp; omega)]
  simp
  rw [Nat.min_eq_left (by omega)]
  simpa using h
theorem lowAt_step {l : Bs} {k : Nat} {c : UInt8} (h : l[k]? = some c) : lowAt l (k + 1) = (lowAt l k).set k (lowB c) := by
  obtain ⟨h1, h2⟩ := List.getElem?_eq_some_iff.1 h
  unfold lowAt
  rw [List.take_succ_eq_append_getElem h1, List.map_append, h2, List.drop_eq_getElem_cons h1, h2]
  rw [List.set_append_right _ _ (by simp; omega)]
  simp
  rw [Nat.min_eq_left (by omega)]
  simp

theorem set_same {l : Bs} {k : Nat} {c : UInt8} (h : l[k]? = some c) : l.set k c = l := by
  apply List.ext_getElem?
  intro j
  rw [List.getElem?_set]
  by_cases hj : k = j
  · subst hj
    have := (List.getElem?_eq_some_iff.1 h).1
    rw [if_pos rfl, if_pos this, h]
  · rw [if_neg hj]

/-- bytes in memory -/
def BytesAt (w : World) (b : Nat) (l : Bs) : Prop := (∀ (j : Nat) (u : UInt8), l[j]? = some u → w.cell? ⟨b, j, none⟩ = some (.int .u8 (nv u))) ∧ ∀ j, j < l.length → w.frozen? ⟨b, j, none⟩ = false
theorem BytesAt.put {w : World} {b k : Nat} {l : Bs} {u : UInt8} {x : Int} (h : BytesAt w b l) (hk : k < l.length) (hx : x = nv u) : BytesAt (w.setCell ⟨b, k, none⟩ (.int .u8 x)) b (l.set k u) := by
  subst hx
  refine ⟨fun j v hv => ?_, fun j hj => ?_⟩
  · rw [List.getElem?_set] at hv
    by_cases hj : k = j
    · subst hj
      rw [if_pos rfl, if_pos hk] at hv
      obtain rfl := Option.some.inj hv
      have hc := h.1 k l[k] (List.getElem?_eq_getElem hk)
      exact World.cell?_setCell_same' w ⟨b, k, none⟩ _ (by rw [hc]; rfl)
    · rw [if_neg hj] at hv
      rw [World.cell?_setCell_other w ⟨b, k, none⟩ ⟨b, j, none⟩ _ (by intro e; injection e with _ e2 _; exact hj e2)]
      exact h.1 j v hv
  · have := h.2 j (by simpa using hj)
    simpa using this

set_option maxRecDepth 100000 in
set_option maxHeartbeats 2000000 in
theorem lower_ct (s : ByteArray) (hs : s.size ≤ 140737488355328) (w : World) : Calls Tryd.prog 99 #[.string s] w fun e w' => e = .returned (.string (bs (s.data.toList.map lowB))) ∧ Below w.heap.size w w' := by
  have hz := Lib.hid (Lib.size_eq s)
  go_enter Tryd.func99, Tryd.ntmps99
  go_wp2_with fail
  obtain ⟨cp, W1, hcv, hb1, hz1, hby, hfy⟩ := bytes_of s w
  rw [hcv]
  simp only [Result.andThen]
  rw [Oper.upon_value]
  have hB0 := Lib.hid (show BytesAt W1 w.heap.size s.data.toList from ⟨hby, fun j hj => hfy j (by rw [hz.out]; exact hj)⟩)
  replace hb1 := Lib.hid hb1
  clear hcv hby hfy
  go_wp2_with fail
  go_loopw [10] (fun i wr => ∃ k : Nat, k ≤ s.size ∧ i = .int .i64 k ∧ BytesAt wr w.heap.size (lowAt s.data.toList k) ∧ W1.grownBy wr (some w.heap.size)) (fun i _ => s.size - (intOf i).toNat)
  case atStart => exact ⟨0, by omega, rfl, by simpa [lowAt] using hB0.out, World.grownBy.refl _ _⟩
  case round =>
    obtain ⟨k, hk, rfl, hby, hgr⟩ := hrel
    replace hgr := Lib.hid hgr
    by_cases hlt : k < s.size
    · have hlt' : (k : Int) < (s.size : Int) := by omega
      obtain ⟨c, hc⟩ : ∃ c, s.data.toList[k]? = some c := ⟨s.data.toList[k]'(by rw [← Lib.size_eq]; exact hlt), List.getElem?_eq_getElem _⟩
      have hkl : k < (lowAt s.data.toList k).length := by rw [lowAt_len, ← Lib.size_eq]; exact hlt
      have hcell := hby.1 k c (lowAt_get hc)
      have hfr := hby.2 k hkl
      have hst := Lib.hid (lowAt_step hc)
      have hsm := Lib.hid (set_same (lowAt_get hc))
      have hby' := Lib.hid hby
      have c0 := nv_nn c
      have c1 := nv_lt c
      clear hc hby
      by_cases h1 : 65 ≤ nv c
      · by_cases h2 : nv c ≤ 90
        · have hlo := Lib.hid (lowB_great ⟨h1, h2⟩)
          generalize hx : nv c = x at *
          replace hx := Lib.hid hx
          go_wp2_with fail
          go_roundw
          case rel =>
            refine ⟨k + 1, by omega, by go_num, ?_, hgr.out.trans (grown_set _ _ _ _)⟩
            rw [hst.out]
            exact hby'.out.put hkl hlo.out.symm
          case measure => simp [intOf]; omega
        · have hlo := Lib.hid (lowB_other (c := c) (fun h => h2 h.2))
          generalize hx : nv c = x at *
          replace hx := Lib.hid hx
          go_wp2_with fail
          go_roundw
          case rel => exact ⟨k + 1, by omega, by go_num, by rw [hst.out, hlo.out, hsm.out]; exact hby'.out, hgr.out⟩
          case measure => simp [intOf]; omega
      · have hlo := Lib.hid (lowB_other (c := c) (fun h => h1 h.1))
        generalize hx : nv c = x at *
        replace hx := Lib.hid hx
        go_wp2_with fail
        go_roundw
        case rel => exact ⟨k + 1, by omega, by go_num, by rw [hst.out, hlo.out, hsm.out]; exact hby'.out, hgr.out⟩
        case measure => simp [intOf]; omega
    · obtain rfl : k = s.size := by omega
      have hfin : lowAt s.data.toList s.size = s.data.toList.map lowB := by rw [Lib.size_eq]; exact lowAt_end _
      have hln : (s.data.toList.map lowB).length = s.size := by rw [List.length_map, Lib.size_eq]
      have hcv : ∀ cap, (convert 70 9 (.slice (some ⟨w.heap.size, 0, none⟩) s.size cap)).run Tryd.prog wr = .ok (.string (bs (s.data.toList.map lowB))) wr := fun cap => by
        have := run_convert_bytes_back wr 70 9 5 ⟨w.heap.size, 0, none⟩ cap (s.data.toList.map lowB) Tryd.underlying70 Tryd.underlying5 Tryd.underlying9 (fun j hj => by
          rw [add_zero_block]
          have hb2 := hby.1
          rw [hfin] at hb2
          exact hb2 j _ (List.getElem?_eq_getElem hj))
        rw [hln] at this
        exact this
      have hB := Lib.hid (below_grow hb1.out hgr.out (Nat.le_refl _) (by have := hb1.out.size; omega))
      clear hby hfin hln
      go_wp2
      go_ret
      exact ⟨rfl, hB.out⟩

end Go.Proofs.YtphdmdncboegjaaDoor.tok
