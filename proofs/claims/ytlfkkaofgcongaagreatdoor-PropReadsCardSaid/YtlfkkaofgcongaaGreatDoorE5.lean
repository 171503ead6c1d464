/- Contracts and plain law, a bundle. -/
import Derived.Lib.Hide
import Derived.Test.YtlfkkaofgcongaaGreatDoorE4
set_option linter.unusedVariables false
set_option maxRecDepth 100000
set_option maxHeartbeats 16000000
open Go.Lib (hid)
namespace Go.Proofs.YtlfkkaofgcongaaGreatDoor
namespace cal
open Go.RowKit base tok dim rul
theorem RdrAt.lenV {w : World} {b : Nat} {L : List Tk} {k : Int} {g : Bool} (h : RdrAt w b L k g) : cal.lenV (w.cell? ⟨b, 0, none⟩) = L.length := by
 obtain ⟨A, cap, hc, hb, hr⟩ := h
 rw [hb.cell 0]
 rfl
theorem TmAt.grown {w w' : World} {b c o : Nat} {L : List Tm} (h : TmAt w c o L) (hg : w.grownBy w' (some b)) (hne : c ≠ b) : TmAt w' c o L :=
 ⟨Nat.lt_of_lt_of_le h.1 hg.size, fun i t ht => by
  have e : ∀ j, w'.cell? ⟨c, j, none⟩ = w.cell? ⟨c, j, none⟩ := fun j => by
   simp only [World.cell?]
   rw [hg.block c h.1 (fun e => hne (Option.some.inj e))]
  obtain ⟨a0, a1, a2, a3⟩ := h.2 i t ht
  exact ⟨(e _).trans a0, (e _).trans a1, (e _).trans a2, (e _).trans a3⟩⟩
theorem TmAt.far {w : World} {b o : Nat} {L : List Tm} (h : TmAt w b o L) {p : Addr} (hp : b ≠ p.block) (v : Value) : TmAt (w.setCell p v) b o L :=
 ⟨by simpa [World.setCell] using h.1, fun i t ht => by
  have e : ∀ j, (w.setCell p v).cell? ⟨b, j, none⟩ = w.cell? ⟨b, j, none⟩ := fun j => World.cell?_setCell_other w p ⟨b, j, none⟩ v (by intro e; subst e; exact hp rfl)
  obtain ⟨a0, a1, a2, a3⟩ := h.2 i t ht
  exact ⟨(e _).trans a0, (e _).trans a1, (e _).trans a2, (e _).trans a3⟩⟩
end cal
namespace cal
open Go.RowKit base tok dim rul
theorem low_ct (s : ByteArray) (hs : s.size <= 140737488355328) (w : World) : Calls Tryz.prog 94 #[.string s] w (rt w (.string (bs (s.data.toList.map lowB)))) := by
 have hz := hid (Lib.size_eq s)
 go_enter Tryz.func94, Tryz.ntmps94
 go_wp2_with fail
 obtain ⟨cp, W1, hcv, hb1, hz1, hby, hfy⟩ := bytes_of s w
 rw [hcv]
 simp only [Result.andThen]
 rw [Oper.upon_value]
 have hB0 := hid (show BytesAt W1 w.heap.size s.data.toList from ⟨hby, fun j hj => hfy j (by rw [hz.out]; exact hj)⟩)
 replace hb1 := hid hb1
 clear hcv hby hfy
 go_wp2_with fail
 go_loopw [10] (fun i wr => ∃ k : Nat, k <= s.size /\ i = .int .i64 k /\ BytesAt wr w.heap.size (lowAt s.data.toList k) /\ W1.grownBy wr (some w.heap.size)) (fun i _ => s.size - (intOf i).toNat)
 case atStart => exact ⟨0, by omega, rfl, by simpa [lowAt] using hB0.out, World.grownBy.refl _ _⟩
 case round =>
  obtain ⟨k, hk, rfl, hby, hgr⟩ := hrel
  replace hgr := hid hgr
  by_cases hlt : k < s.size
  ·have hlt' : (k : Int) < (s.size : Int) := by omega
   obtain ⟨c, hc⟩ : ∃ c, s.data.toList[k]? = some c := ⟨s.data.toList[k]'(by rw [<- Lib.size_eq]; exact hlt), List.getElem?_eq_getElem _⟩
   have hkl : k < (lowAt s.data.toList k).length := by rw [lowAt_len, <- Lib.size_eq]; exact hlt
   have hcell := hby.1 k c (lowAt_get hc)
   have hfr := hby.2 k hkl
   have hst := hid (lowAt_step hc)
   have hsm := hid (set_same (lowAt_get hc))
   have hby' := hid hby
   have c0 := nv_nn c
   have c1 := nv_lt c
   clear hc hby
   by_cases h1 : 65 <= nv c
   ·by_cases h2 : nv c <= 90
    ·have hlo := hid (lowB_great ⟨h1, h2⟩)
     generalize hx : nv c = x at *
     replace hx := hid hx
     go_wp2_with fail
     go_roundw
     case rel =>
      refine ⟨k + 1, by omega, by go_num, ?_, hgr.out.trans (grown_set _ _ _ _)⟩
      rw [hst.out]
      exact hby'.out.put hkl hlo.out.symm
     case measure => simp [intOf]; omega
    ·have hlo := hid (lowB_other (c := c) (fun h => h2 h.2))
     generalize hx : nv c = x at *
     replace hx := hid hx
     go_wp2_with fail
     go_roundw
     case rel => exact ⟨k + 1, by omega, by go_num, by rw [hst.out, hlo.out, hsm.out]; exact hby'.out, hgr.out⟩
     case measure => simp [intOf]; omega
   ·have hlo := hid (lowB_other (c := c) (fun h => h1 h.1))
    generalize hx : nv c = x at *
    replace hx := hid hx
    go_wp2_with fail
    go_roundw
    case rel => exact ⟨k + 1, by omega, by go_num, by rw [hst.out, hlo.out, hsm.out]; exact hby'.out, hgr.out⟩
    case measure => simp [intOf]; omega
  ·obtain rfl : k = s.size := by omega
   have hfin : lowAt s.data.toList s.size = s.data.toList.map lowB := by rw [Lib.size_eq]; exact lowAt_end _
   have hln : (s.data.toList.map lowB).length = s.size := by rw [List.length_map, Lib.size_eq]
   have hcv : ∀ cap, (convert 98 9 (.slice (some ⟨w.heap.size, 0, none⟩) s.size cap)).run Tryz.prog wr = .ok (.string (bs (s.data.toList.map lowB))) wr := fun cap => by
    have := run_convert_bytes_back wr 98 9 5 ⟨w.heap.size, 0, none⟩ cap (s.data.toList.map lowB) Tryz.underlying98 Tryz.underlying5 Tryz.underlying9 (fun j hj => by
     rw [add_zero_block]
     have hb2 := hby.1
     rw [hfin] at hb2
     exact hb2 j _ (List.getElem?_eq_getElem hj))
    rw [hln] at this
    exact this
   have hB := hid (below_grow hb1.out hgr.out (Nat.le_refl _) (by have := hb1.out.size; omega))
   clear hby hfin hln
   go_wp2
   go_ret
   exact ⟨rfl, hB.out⟩
end cal
end Go.Proofs.YtlfkkaofgcongaaGreatDoor
