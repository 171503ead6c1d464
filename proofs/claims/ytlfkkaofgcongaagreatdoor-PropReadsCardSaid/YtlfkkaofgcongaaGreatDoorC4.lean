/- Contracts and plain law, a bundle. -/
import Derived.Deep.AppendLies
import Derived.Lib.Hide
import Derived.Test.YtlfkkaofgcongaaGreatDoorC2
import Derived.Test.YtlfkkaofgcongaaGreatDoorC3
import Derived.Test.YtlfkkaofgcongaaGreatDoorBC
set_option linter.unusedVariables false
set_option maxRecDepth 100000
set_option maxHeartbeats 16000000
open Go.Lib (hid)
namespace Go.Proofs.YtlfkkaofgcongaaGreatDoor
namespace prp
open Go.RowKit base tok
theorem in_yes (p : Nat) (hp : p < 59) (w : World) : Calls Tryz.prog 26 #[.int .i64 p] w (rt w (.bool true)) := by
 have h1 : (p : Int) < 59 := by omega
 have h0 : (0 : Int) <= (p : Int) := by omega
 go_enter Tryz.func26, Tryz.ntmps26
 go_wp2
 exact bodyPost_ret (v := .bool true) (by simp [results, Tryz.results26, go_sem]) rfl ⟨rfl, Below.refl _ _⟩
theorem at_ct (p : Nat) (hp : p < 59) (w : World) : Calls Tryz.prog 25 #[.int .i64 p] w (rt w (rowV (rowP p))) := by
 have Q0 := hid (show Blk (w.alloc (.cells #[.string ⟨#[]⟩, .string ⟨#[]⟩, .string ⟨#[]⟩, .string ⟨#[]⟩, .bool false] 66)) w.heap.size 66 #[.string ⟨#[]⟩, .string ⟨#[]⟩, .string ⟨#[]⟩, .string ⟨#[]⟩, .bool false] from Blk.new rfl)
 have B0 := hid (ba w (.cells #[.string ⟨#[]⟩, .string ⟨#[]⟩, .string ⟨#[]⟩, .string ⟨#[]⟩, .bool false] 66))
 by_cases h1 : p < 20
 ·have h1' : (p : Int) < 20 := by omega
  go_enter Tryz.func25, Tryz.ntmps25
  go_wp2_with (first
   | (go_at_call 44; (with_reducible refine (firsts_ct p h1 _).mono ?_); rintro e W1 ⟨rfl, hb⟩; have HB1 := hid (B0.out.trans (hb.mono (by simp))); have Q1 := hid (Blk.below Q0.out hb (by simp)); have q1c := Q1.out.cell; have q1f := Q1.out.frozen; clear hb))
  have fc := (((((Q1.out.put 0 (.string (bs (rowP p).name))).put 1 (.string (bs (rowP p).kinds))).put 2 (.string (bs (rowP p).keys))).put 3 (.string (bs (rowP p).auto))).put 4 (.bool (rowP p).above)).cell
  refine bodyPost_ret (v := rowV (rowP p)) ?_ rfl ⟨rfl, (((((HB1.out.setCell (p := ⟨w.heap.size, 0, none⟩) (Nat.le_refl _) (.string (bs (rowP p).name))).setCell (p := ⟨w.heap.size, 1, none⟩) (Nat.le_refl _) (.string (bs (rowP p).kinds))).setCell (p := ⟨w.heap.size, 2, none⟩) (Nat.le_refl _) (.string (bs (rowP p).keys))).setCell (p := ⟨w.heap.size, 3, none⟩) (Nat.le_refl _) (.string (bs (rowP p).auto))).setCell (p := ⟨w.heap.size, 4, none⟩) (Nat.le_refl _) (.bool (rowP p).above))⟩
  simp [results, Tryz.results25, go_sem, fc]
 ·have h1' : ¬ (p : Int) < 20 := by omega
  by_cases h2 : p < 40
  ·have h2' : (p : Int) < 40 := by omega
   obtain ⟨q, hq⟩ : ∃ q, 20 + q = p := ⟨p - 20, by omega⟩
   have hq' : (p : Int) - 20 = (q : Int) := by omega
   have c1 : ∀ w, Calls Tryz.prog 45 #[.int .i64 q] w (rt w (rowV (rowP p))) := fun w => by have := seconds_ct q (by omega) w; rwa [hq] at this
   replace c1 := hid c1
   replace hq' := hid hq'
   clear hq
   go_enter Tryz.func25, Tryz.ntmps25
   go_wp2_with (first
    | (go_at_call 45; rw [hq'.out]; (with_reducible refine (c1.out _).mono ?_); rintro e W1 ⟨rfl, hb⟩; have HB1 := hid (B0.out.trans (hb.mono (by simp))); have Q1 := hid (Blk.below Q0.out hb (by simp)); have q1c := Q1.out.cell; have q1f := Q1.out.frozen; clear hb))
   have fc := (((((Q1.out.put 0 (.string (bs (rowP p).name))).put 1 (.string (bs (rowP p).kinds))).put 2 (.string (bs (rowP p).keys))).put 3 (.string (bs (rowP p).auto))).put 4 (.bool (rowP p).above)).cell
   refine bodyPost_ret (v := rowV (rowP p)) ?_ rfl ⟨rfl, (((((HB1.out.setCell (p := ⟨w.heap.size, 0, none⟩) (Nat.le_refl _) (.string (bs (rowP p).name))).setCell (p := ⟨w.heap.size, 1, none⟩) (Nat.le_refl _) (.string (bs (rowP p).kinds))).setCell (p := ⟨w.heap.size, 2, none⟩) (Nat.le_refl _) (.string (bs (rowP p).keys))).setCell (p := ⟨w.heap.size, 3, none⟩) (Nat.le_refl _) (.string (bs (rowP p).auto))).setCell (p := ⟨w.heap.size, 4, none⟩) (Nat.le_refl _) (.bool (rowP p).above))⟩
   simp [results, Tryz.results25, go_sem, fc]
  ·have h2' : ¬ (p : Int) < 40 := by omega
   obtain ⟨q, hq⟩ : ∃ q, 40 + q = p := ⟨p - 40, by omega⟩
   have hq' : (p : Int) - 40 = (q : Int) := by omega
   have c1 : ∀ w, Calls Tryz.prog 46 #[.int .i64 q] w (rt w (rowV (rowP p))) := fun w => by have := thirds_ct q (by omega) w; rwa [hq] at this
   replace c1 := hid c1
   replace hq' := hid hq'
   clear hq
   go_enter Tryz.func25, Tryz.ntmps25
   go_wp2_with (first
    | (go_at_call 46; rw [hq'.out]; (with_reducible refine (c1.out _).mono ?_); rintro e W1 ⟨rfl, hb⟩; have HB1 := hid (B0.out.trans (hb.mono (by simp))); have Q1 := hid (Blk.below Q0.out hb (by simp)); have q1c := Q1.out.cell; have q1f := Q1.out.frozen; clear hb))
   have fc := (((((Q1.out.put 0 (.string (bs (rowP p).name))).put 1 (.string (bs (rowP p).kinds))).put 2 (.string (bs (rowP p).keys))).put 3 (.string (bs (rowP p).auto))).put 4 (.bool (rowP p).above)).cell
   refine bodyPost_ret (v := rowV (rowP p)) ?_ rfl ⟨rfl, (((((HB1.out.setCell (p := ⟨w.heap.size, 0, none⟩) (Nat.le_refl _) (.string (bs (rowP p).name))).setCell (p := ⟨w.heap.size, 1, none⟩) (Nat.le_refl _) (.string (bs (rowP p).kinds))).setCell (p := ⟨w.heap.size, 2, none⟩) (Nat.le_refl _) (.string (bs (rowP p).keys))).setCell (p := ⟨w.heap.size, 3, none⟩) (Nat.le_refl _) (.string (bs (rowP p).auto))).setCell (p := ⟨w.heap.size, 4, none⟩) (Nat.le_refl _) (.bool (rowP p).above))⟩
   simp [results, Tryz.results25, go_sem, fc]
def letterP (k : Int) : Bs := if k = 1 then [107] else if k = 2 then [108] else if k = 3 then [112] else if k = 4 then [110] else if k = 5 then [99] else if k = 6 then [97] else [63]
theorem letter_ct (k : Int) (h1 : 1 <= k) (h2 : k <= 6) (w : World) : Calls Tryz.prog 39 #[.int .i64 k] w (rt w (.string (bs (letterP k)))) := by
 obtain rfl | rfl | rfl | rfl | rfl | rfl : k = 1 ∨ k = 2 ∨ k = 3 ∨ k = 4 ∨ k = 5 ∨ k = 6 := by omega
 all_goals
  go_enter Tryz.func39, Tryz.ntmps39
  go_wp2
  refine bodyPost_ret (v := .string (bs (letterP _))) ?_ rfl ⟨rfl, Below.refl _ _⟩
  simp [results, Tryz.results39, go_sem]
  rfl
theorem field_row0 (a b c d : ByteArray) (e : Bool) (w : World) : (Instr.field 66 (.agg #[.string a, .string b, .string c, .string d, .bool e]) 0).run Tryz.prog w = .ok (.string a) w := by kernel_rfl
theorem field_row1 (a b c d : ByteArray) (e : Bool) (w : World) : (Instr.field 66 (.agg #[.string a, .string b, .string c, .string d, .bool e]) 1).run Tryz.prog w = .ok (.string b) w := by kernel_rfl
theorem field_row3 (a b c d : ByteArray) (e : Bool) (w : World) : (Instr.field 66 (.agg #[.string a, .string b, .string c, .string d, .bool e]) 3).run Tryz.prog w = .ok (.string d) w := by kernel_rfl
end prp
namespace prp
open Go.RowKit base tok
theorem lower_ct (s : ByteArray) (hs : s.size <= 140737488355328) (w : World) : Calls Tryz.prog 32 #[.string s] w (rt w (.string (bs (s.data.toList.map lowB)))) := by
 have hz := hid (Lib.size_eq s)
 go_enter Tryz.func32, Tryz.ntmps32
 go_wp2_with fail
 obtain ⟨cp, W1, hcv, hb1, hz1, hby, hfy⟩ := bytes_of s w
 rw [hcv]
 simp only [Result.andThen]
 rw [Oper.upon_value]
 have hB0 := hid (show BytesAt W1 w.heap.size s.data.toList from ⟨hby, fun j hj => hfy j (by rw [hz.out]; exact hj)⟩)
 replace hb1 := hid hb1
 clear hcv hby hfy
 go_wp2_with fail
 go_loopw [10] (fun i wr => ∃ k : Nat, k <= s.size /\ i = .int .i64 k /\ BytesAt wr w.heap.size (lowAt s.data.toList k) /\ W1.grownBy wr (some w.heap.size)) (fun i _ => s.size - (intOf i).toNat)
 case atStart => exact ⟨0, by omega, rfl, by simpa [lowAt] using hB0.out, World.grownBy.refl _ _⟩
 case round =>
  obtain ⟨k, hk, rfl, hby, hgr⟩ := hrel
  replace hgr := hid hgr
  by_cases hlt : k < s.size
  ·have hlt' : (k : Int) < (s.size : Int) := by omega
   obtain ⟨c, hc⟩ : ∃ c, s.data.toList[k]? = some c := ⟨s.data.toList[k]'(by rw [<- Lib.size_eq]; exact hlt), List.getElem?_eq_getElem _⟩
   have hkl : k < (lowAt s.data.toList k).length := by rw [lowAt_len, <- Lib.size_eq]; exact hlt
   have hcell := hby.1 k c (lowAt_get hc)
   have hfr := hby.2 k hkl
   have hst := hid (lowAt_step hc)
   have hsm := hid (set_same (lowAt_get hc))
   have hby' := hid hby
   have c0 := nv_nn c
   have c1 := nv_lt c
   clear hc hby
   by_cases h1 : 65 <= nv c
   ·by_cases h2 : nv c <= 90
    ·have hlo := hid (lowB_great ⟨h1, h2⟩)
     generalize hx : nv c = x at *
     replace hx := hid hx
     go_wp2_with fail
     go_roundw
     case rel =>
      refine ⟨k + 1, by omega, by go_num, ?_, hgr.out.trans (grown_set _ _ _ _)⟩
      rw [hst.out]
      exact hby'.out.put hkl hlo.out.symm
     case measure => simp [intOf]; omega
    ·have hlo := hid (lowB_other (c := c) (fun h => h2 h.2))
     generalize hx : nv c = x at *
     replace hx := hid hx
     go_wp2_with fail
     go_roundw
     case rel => exact ⟨k + 1, by omega, by go_num, by rw [hst.out, hlo.out, hsm.out]; exact hby'.out, hgr.out⟩
     case measure => simp [intOf]; omega
   ·have hlo := hid (lowB_other (c := c) (fun h => h1 h.1))
    generalize hx : nv c = x at *
    replace hx := hid hx
    go_wp2_with fail
    go_roundw
    case rel => exact ⟨k + 1, by omega, by go_num, by rw [hst.out, hlo.out, hsm.out]; exact hby'.out, hgr.out⟩
    case measure => simp [intOf]; omega
  ·obtain rfl : k = s.size := by omega
   have hfin : lowAt s.data.toList s.size = s.data.toList.map lowB := by rw [Lib.size_eq]; exact lowAt_end _
   have hln : (s.data.toList.map lowB).length = s.size := by rw [List.length_map, Lib.size_eq]
   have hcv : ∀ cap, (convert 98 9 (.slice (some ⟨w.heap.size, 0, none⟩) s.size cap)).run Tryz.prog wr = .ok (.string (bs (s.data.toList.map lowB))) wr := fun cap => by
    have := run_convert_bytes_back wr 98 9 5 ⟨w.heap.size, 0, none⟩ cap (s.data.toList.map lowB) Tryz.underlying98 Tryz.underlying5 Tryz.underlying9 (fun j hj => by
     rw [add_zero_block]
     have hb2 := hby.1
     rw [hfin] at hb2
     exact hb2 j _ (List.getElem?_eq_getElem hj))
    rw [hln] at this
    exact this
   have hB := hid (below_grow hb1.out hgr.out (Nat.le_refl _) (by have := hb1.out.size; omega))
   clear hby hfin hln
   go_wp2
   go_ret
   exact ⟨rfl, hB.out⟩
end prp
namespace prp
open Go.RowKit base tok
end prp
end Go.Proofs.YtlfkkaofgcongaaGreatDoor
