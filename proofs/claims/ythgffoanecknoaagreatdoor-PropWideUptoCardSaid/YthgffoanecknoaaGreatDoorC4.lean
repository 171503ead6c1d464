/- Contracts and plain law, a bundle. -/
import Derived.Deep.AppendLies
import Derived.Lib.Hide
import Derived.Test.YthgffoanecknoaaGreatDoorC2
import Derived.Test.YthgffoanecknoaaGreatDoorC3
import Derived.Test.YthgffoanecknoaaGreatDoorBC
set_option linter.unusedVariables false
set_option maxRecDepth 100000
set_option maxHeartbeats 16000000
open Go.Lib (hid)
namespace Go.Proofs.YthgffoanecknoaaGreatDoor
namespace prp
open Go.RowKit base tok
theorem in_yes (p : Nat) (hp : p < 59) (w : World) : Calls Tryz.prog 38 #[.int .i64 p] w (rt w (.bool true)) := by
 have h1 : (p : Int) < 59 := by omega
 have h0 : (0 : Int) <= (p : Int) := by omega
 go_enter Tryz.func38, Tryz.ntmps38
 go_wp2
 exact bodyPost_ret (v := .bool true) (by simp [results, Tryz.results38, go_sem]) rfl ⟨rfl, Below.refl _ _⟩
theorem at_ct (p : Nat) (hp : p < 59) (w : World) : Calls Tryz.prog 30 #[.int .i64 p] w (rt w (rowV (rowP p))) := by
 have Q0 := hid (show Blk (w.alloc (.cells #[.string ⟨#[]⟩, .string ⟨#[]⟩, .string ⟨#[]⟩, .string ⟨#[]⟩, .bool false] 73)) w.heap.size 73 #[.string ⟨#[]⟩, .string ⟨#[]⟩, .string ⟨#[]⟩, .string ⟨#[]⟩, .bool false] from Blk.new rfl)
 have B0 := hid (ba w (.cells #[.string ⟨#[]⟩, .string ⟨#[]⟩, .string ⟨#[]⟩, .string ⟨#[]⟩, .bool false] 73))
 by_cases h1 : p < 20
 ·have h1' : (p : Int) < 20 := by omega
  go_enter Tryz.func30, Tryz.ntmps30
  go_wp2_with (first
   | (go_at_call 47; (with_reducible refine (firsts_ct p h1 _).mono ?_); rintro e W1 ⟨rfl, hb⟩; have HB1 := hid (B0.out.trans (hb.mono (by simp))); have Q1 := hid (Blk.below Q0.out hb (by simp)); have q1c := Q1.out.cell; have q1f := Q1.out.frozen; clear hb))
  have fc := (((((Q1.out.put 0 (.string (bs (rowP p).name))).put 1 (.string (bs (rowP p).kinds))).put 2 (.string (bs (rowP p).keys))).put 3 (.string (bs (rowP p).auto))).put 4 (.bool (rowP p).above)).cell
  refine bodyPost_ret (v := rowV (rowP p)) ?_ rfl ⟨rfl, (((((HB1.out.setCell (p := ⟨w.heap.size, 0, none⟩) (Nat.le_refl _) (.string (bs (rowP p).name))).setCell (p := ⟨w.heap.size, 1, none⟩) (Nat.le_refl _) (.string (bs (rowP p).kinds))).setCell (p := ⟨w.heap.size, 2, none⟩) (Nat.le_refl _) (.string (bs (rowP p).keys))).setCell (p := ⟨w.heap.size, 3, none⟩) (Nat.le_refl _) (.string (bs (rowP p).auto))).setCell (p := ⟨w.heap.size, 4, none⟩) (Nat.le_refl _) (.bool (rowP p).above))⟩
  simp [results, Tryz.results30, go_sem, fc]
 ·have h1' : ¬ (p : Int) < 20 := by omega
  by_cases h2 : p < 40
  ·have h2' : (p : Int) < 40 := by omega
   obtain ⟨q, hq⟩ : ∃ q, 20 + q = p := ⟨p - 20, by omega⟩
   have hq' : (p : Int) - 20 = (q : Int) := by omega
   have c1 : ∀ w, Calls Tryz.prog 48 #[.int .i64 q] w (rt w (rowV (rowP p))) := fun w => by have := seconds_ct q (by omega) w; rwa [hq] at this
   replace c1 := hid c1
   replace hq' := hid hq'
   clear hq
   go_enter Tryz.func30, Tryz.ntmps30
   go_wp2_with (first
    | (go_at_call 48; rw [hq'.out]; (with_reducible refine (c1.out _).mono ?_); rintro e W1 ⟨rfl, hb⟩; have HB1 := hid (B0.out.trans (hb.mono (by simp))); have Q1 := hid (Blk.below Q0.out hb (by simp)); have q1c := Q1.out.cell; have q1f := Q1.out.frozen; clear hb))
   have fc := (((((Q1.out.put 0 (.string (bs (rowP p).name))).put 1 (.string (bs (rowP p).kinds))).put 2 (.string (bs (rowP p).keys))).put 3 (.string (bs (rowP p).auto))).put 4 (.bool (rowP p).above)).cell
   refine bodyPost_ret (v := rowV (rowP p)) ?_ rfl ⟨rfl, (((((HB1.out.setCell (p := ⟨w.heap.size, 0, none⟩) (Nat.le_refl _) (.string (bs (rowP p).name))).setCell (p := ⟨w.heap.size, 1, none⟩) (Nat.le_refl _) (.string (bs (rowP p).kinds))).setCell (p := ⟨w.heap.size, 2, none⟩) (Nat.le_refl _) (.string (bs (rowP p).keys))).setCell (p := ⟨w.heap.size, 3, none⟩) (Nat.le_refl _) (.string (bs (rowP p).auto))).setCell (p := ⟨w.heap.size, 4, none⟩) (Nat.le_refl _) (.bool (rowP p).above))⟩
   simp [results, Tryz.results30, go_sem, fc]
  ·have h2' : ¬ (p : Int) < 40 := by omega
   obtain ⟨q, hq⟩ : ∃ q, 40 + q = p := ⟨p - 40, by omega⟩
   have hq' : (p : Int) - 40 = (q : Int) := by omega
   have c1 : ∀ w, Calls Tryz.prog 49 #[.int .i64 q] w (rt w (rowV (rowP p))) := fun w => by have := thirds_ct q (by omega) w; rwa [hq] at this
   replace c1 := hid c1
   replace hq' := hid hq'
   clear hq
   go_enter Tryz.func30, Tryz.ntmps30
   go_wp2_with (first
    | (go_at_call 49; rw [hq'.out]; (with_reducible refine (c1.out _).mono ?_); rintro e W1 ⟨rfl, hb⟩; have HB1 := hid (B0.out.trans (hb.mono (by simp))); have Q1 := hid (Blk.below Q0.out hb (by simp)); have q1c := Q1.out.cell; have q1f := Q1.out.frozen; clear hb))
   have fc := (((((Q1.out.put 0 (.string (bs (rowP p).name))).put 1 (.string (bs (rowP p).kinds))).put 2 (.string (bs (rowP p).keys))).put 3 (.string (bs (rowP p).auto))).put 4 (.bool (rowP p).above)).cell
   refine bodyPost_ret (v := rowV (rowP p)) ?_ rfl ⟨rfl, (((((HB1.out.setCell (p := ⟨w.heap.size, 0, none⟩) (Nat.le_refl _) (.string (bs (rowP p).name))).setCell (p := ⟨w.heap.size, 1, none⟩) (Nat.le_refl _) (.string (bs (rowP p).kinds))).setCell (p := ⟨w.heap.size, 2, none⟩) (Nat.le_refl _) (.string (bs (rowP p).keys))).setCell (p := ⟨w.heap.size, 3, none⟩) (Nat.le_refl _) (.string (bs (rowP p).auto))).setCell (p := ⟨w.heap.size, 4, none⟩) (Nat.le_refl _) (.bool (rowP p).above))⟩
   simp [results, Tryz.results30, go_sem, fc]
def letterP (k : Int) : Bs := if k = 1 then [107] else if k = 2 then [108] else if k = 3 then [112] else if k = 4 then [110] else if k = 5 then [99] else if k = 6 then [97] else [63]
theorem letter_ct (k : Int) (h1 : 1 <= k) (h2 : k <= 6) (w : World) : Calls Tryz.prog 40 #[.int .i64 k] w (rt w (.string (bs (letterP k)))) := by
 obtain rfl | rfl | rfl | rfl | rfl | rfl : k = 1 ∨ k = 2 ∨ k = 3 ∨ k = 4 ∨ k = 5 ∨ k = 6 := by omega
 all_goals
  go_enter Tryz.func40, Tryz.ntmps40
  go_wp2
  refine bodyPost_ret (v := .string (bs (letterP _))) ?_ rfl ⟨rfl, Below.refl _ _⟩
  simp [results, Tryz.results40, go_sem]
  rfl
theorem field_row0 (a b c d : ByteArray) (e : Bool) (w : World) : (Instr.field 73 (.agg #[.string a, .string b, .string c, .string d, .bool e]) 0).run Tryz.prog w = .ok (.string a) w := by kernel_rfl
theorem field_row1 (a b c d : ByteArray) (e : Bool) (w : World) : (Instr.field 73 (.agg #[.string a, .string b, .string c, .string d, .bool e]) 1).run Tryz.prog w = .ok (.string b) w := by kernel_rfl
def numF (s : Bs) (k : Nat) : Prop := ∀ j, j < k -> (rowP j).name ≠ s
theorem number_yes (s : Bs) (p : Nat) (hp : p < 59) (hs : (rowP p).name = s) (hn : numF s p) (w : World) : Calls Tryz.prog 12 #[.string (bs s)] w (rt w (.tuple #[.int .i64 p, .bool true])) := by
 replace hn := hid hn
 replace hs := hid hs
 have hfd := field_row0
 go_enter Tryz.func12, Tryz.ntmps12
 go_wp2_with fail
 go_loopw [5] (fun i wr => ∃ k : Nat, k <= p /\ i = .int .i64 k /\ Below w.heap.size w wr) (fun i _ => 59 - (intOf i).toNat)
 case atStart => exact ⟨0, by omega, rfl, Below.refl _ _⟩
 case round =>
  obtain ⟨k, hk, rfl, hb⟩ := hrel
  have k59 : (k : Int) < 59 := by omega
  have HB := hid hb
  clear hb
  have cA := hid (fun w => at_ct k (by omega) w)
  by_cases he : k = p
  ·subst he
   have e1 : ((bs (rowP k).name).toList == (bs s).toList) = true := by rw [bs_toList, bs_toList]; simp [hs.out]
   go_wp2_with (first
    | (go_at_call 30; (with_reducible refine (cA.out _).mono ?_); rintro e W1 ⟨rfl, hb⟩; unfold rowV; have HB1 := hid (tb HB hb); clear hb))
   exact bodyPost_ret (v := .tuple #[.int .i64 k, .bool true]) (by simp [results, Tryz.results12, go_sem]) rfl ⟨rfl, HB1.out⟩
  ·have e1 : ((bs (rowP k).name).toList == (bs s).toList) = false := by rw [bs_toList, bs_toList]; simp [hn.out k (by omega)]
   go_wp2_with (first
    | (go_at_call 30; (with_reducible refine (cA.out _).mono ?_); rintro e W1 ⟨rfl, hb⟩; unfold rowV; have HB1 := hid (tb HB hb); clear hb))
   go_roundw
   case rel => exact ⟨k + 1, by omega, by go_num, HB1.out⟩
   case measure => simp [intOf]; omega
end prp
namespace prp
open Go.RowKit base tok
theorem lower_ct (s : ByteArray) (hs : s.size <= 140737488355328) (w : World) : Calls Tryz.prog 43 #[.string s] w (rt w (.string (bs (s.data.toList.map lowB)))) := by
 have hz := hid (Lib.size_eq s)
 go_enter Tryz.func43, Tryz.ntmps43
 go_wp2_with fail
 obtain ⟨cp, W1, hcv, hb1, hz1, hby, hfy⟩ := bytes_of s w
 rw [hcv]
 simp only [Result.andThen]
 rw [Oper.upon_value]
 have hB0 := hid (show BytesAt W1 w.heap.size s.data.toList from ⟨hby, fun j hj => hfy j (by rw [hz.out]; exact hj)⟩)
 replace hb1 := hid hb1
 clear hcv hby hfy
 go_wp2_with fail
 go_loopw [10] (fun i wr => ∃ k : Nat, k <= s.size /\ i = .int .i64 k /\ BytesAt wr w.heap.size (lowAt s.data.toList k) /\ W1.grownBy wr (some w.heap.size)) (fun i _ => s.size - (intOf i).toNat)
 case atStart => exact ⟨0, by omega, rfl, by simpa [lowAt] using hB0.out, World.grownBy.refl _ _⟩
 case round =>
  obtain ⟨k, hk, rfl, hby, hgr⟩ := hrel
  replace hgr := hid hgr
  by_cases hlt : k < s.size
  ·have hlt' : (k : Int) < (s.size : Int) := by omega
   obtain ⟨c, hc⟩ : ∃ c, s.data.toList[k]? = some c := ⟨s.data.toList[k]'(by rw [<- Lib.size_eq]; exact hlt), List.getElem?_eq_getElem _⟩
   have hkl : k < (lowAt s.data.toList k).length := by rw [lowAt_len, <- Lib.size_eq]; exact hlt
   have hcell := hby.1 k c (lowAt_get hc)
   have hfr := hby.2 k hkl
   have hst := hid (lowAt_step hc)
   have hsm := hid (set_same (lowAt_get hc))
   have hby' := hid hby
   have c0 := nv_nn c
   have c1 := nv_lt c
   clear hc hby
   by_cases h1 : 65 <= nv c
   ·by_cases h2 : nv c <= 90
    ·have hlo := hid (lowB_great ⟨h1, h2⟩)
     generalize hx : nv c = x at *
     replace hx := hid hx
     go_wp2_with fail
     go_roundw
     case rel =>
      refine ⟨k + 1, by omega, by go_num, ?_, hgr.out.trans (grown_set _ _ _ _)⟩
      rw [hst.out]
      exact hby'.out.put hkl hlo.out.symm
     case measure => simp [intOf]; omega
    ·have hlo := hid (lowB_other (c := c) (fun h => h2 h.2))
     generalize hx : nv c = x at *
     replace hx := hid hx
     go_wp2_with fail
     go_roundw
     case rel => exact ⟨k + 1, by omega, by go_num, by rw [hst.out, hlo.out, hsm.out]; exact hby'.out, hgr.out⟩
     case measure => simp [intOf]; omega
   ·have hlo := hid (lowB_other (c := c) (fun h => h1 h.1))
    generalize hx : nv c = x at *
    replace hx := hid hx
    go_wp2_with fail
    go_roundw
    case rel => exact ⟨k + 1, by omega, by go_num, by rw [hst.out, hlo.out, hsm.out]; exact hby'.out, hgr.out⟩
    case measure => simp [intOf]; omega
  ·obtain rfl : k = s.size := by omega
   have hfin : lowAt s.data.toList s.size = s.data.toList.map lowB := by rw [Lib.size_eq]; exact lowAt_end _
   have hln : (s.data.toList.map lowB).length = s.size := by rw [List.length_map, Lib.size_eq]
   have hcv : ∀ cap, (convert 114 9 (.slice (some ⟨w.heap.size, 0, none⟩) s.size cap)).run Tryz.prog wr = .ok (.string (bs (s.data.toList.map lowB))) wr := fun cap => by
    have := run_convert_bytes_back wr 114 9 5 ⟨w.heap.size, 0, none⟩ cap (s.data.toList.map lowB) Tryz.underlying114 Tryz.underlying5 Tryz.underlying9 (fun j hj => by
     rw [add_zero_block]
     have hb2 := hby.1
     rw [hfin] at hb2
     exact hb2 j _ (List.getElem?_eq_getElem hj))
    rw [hln] at this
    exact this
   have hB := hid (below_grow hb1.out hgr.out (Nat.le_refl _) (by have := hb1.out.size; omega))
   clear hby hfin hln
   go_wp2
   go_ret
   exact ⟨rfl, hB.out⟩
theorem beq_dec (a b : Bs) : (a == b) = decide (a = b) := by by_cases h : a = b <;> simp [h]
def globalP (s : Bs) : Bool := decide (s.map lowB = [105, 110, 104, 101, 114, 105, 116]) || decide (s.map lowB = [105, 110, 105, 116, 105, 97, 108]) || decide (s.map lowB = [117, 110, 115, 101, 116])
theorem global_ct (s : Bs) (hs : s.length <= 140737488355328) (w : World) : Calls Tryz.prog 23 #[.string (bs s)] w (rt w (.bool (globalP s))) := by
 have cL := hid (lower_ct (bs s) hs)
 have hx : (bs s).data.toList.map lowB = s.map lowB := rfl
 generalize hg : globalP s = g
 unfold globalP at hg
 generalize s.map lowB = t at *
 have k1 : ((bs t).toList == [105, 110, 104, 101, 114, 105, 116]) = decide (t = [105, 110, 104, 101, 114, 105, 116]) := by rw [bs_toList]; exact beq_dec _ _
 have k2 : ((bs t).toList == [105, 110, 105, 116, 105, 97, 108]) = decide (t = [105, 110, 105, 116, 105, 97, 108]) := by rw [bs_toList]; exact beq_dec _ _
 have k3 : ((bs t).toList == [117, 110, 115, 101, 116]) = decide (t = [117, 110, 115, 101, 116]) := by rw [bs_toList]; exact beq_dec _ _
 replace hx := hid hx
 by_cases h1 : t = [105, 110, 104, 101, 114, 105, 116]
 ·rw [decide_eq_true h1] at hg k1
  rw [<- hg, Bool.true_or, Bool.true_or]
  clear h1 k2 k3 hg
  go_enter Tryz.func23, Tryz.ntmps23
  go_wp2_with (first
   | (go_at_call 43; (with_reducible refine (cL.out _).mono ?_); rintro e W1 ⟨rfl, hb⟩; rw [hx.out]; have HB := hid hb; clear hb))
  exact bodyPost_ret (v := .bool true) (by simp [results, Tryz.results23, go_sem]) rfl ⟨rfl, HB.out⟩
 ·rw [decide_eq_false h1] at hg k1
  by_cases h2 : t = [105, 110, 105, 116, 105, 97, 108]
  ·rw [decide_eq_true h2] at hg k2
   rw [<- hg, Bool.false_or, Bool.true_or]
   clear h1 h2 k3 hg
   go_enter Tryz.func23, Tryz.ntmps23
   go_wp2_with (first
    | (go_at_call 43; (with_reducible refine (cL.out _).mono ?_); rintro e W1 ⟨rfl, hb⟩; rw [hx.out]; have HB := hid hb; clear hb))
   exact bodyPost_ret (v := .bool true) (by simp [results, Tryz.results23, go_sem]) rfl ⟨rfl, HB.out⟩
  ·rw [decide_eq_false h2] at hg k2
   rw [<- hg, Bool.false_or, Bool.false_or]
   clear h1 h2 hg
   go_enter Tryz.func23, Tryz.ntmps23
   go_wp2_with (first
    | (go_at_call 43; (with_reducible refine (cL.out _).mono ?_); rintro e W1 ⟨rfl, hb⟩; rw [hx.out]; have HB := hid hb; clear hb))
   exact bodyPost_ret (v := .bool (decide (t = [117, 110, 115, 101, 116]))) (by simp [results, Tryz.results23, go_sem]) rfl ⟨rfl, HB.out⟩
end prp
namespace prp
open Go.RowKit base tok
def sidesB (h t : ByteArray) : List ByteArray := [h ++ ⟨#[116, 111, 112]⟩ ++ t, h ++ ⟨#[114, 105, 103, 104, 116]⟩ ++ t, h ++ ⟨#[98, 111, 116, 116, 111, 109]⟩ ++ t, h ++ ⟨#[108, 101, 102, 116]⟩ ++ t]
theorem infoS : (Tryz.prog.info? 9).map (fun i => (i.zero, i.size, i.bytes)) = some (some (.string .empty), 1, 16) := by kernel_rfl
theorem index_0 (w : World) : (Instr.index 100 (.agg #[.string ⟨#[116, 111, 112]⟩, .string ⟨#[114, 105, 103, 104, 116]⟩, .string ⟨#[98, 111, 116, 116, 111, 109]⟩, .string ⟨#[108, 101, 102, 116]⟩]) (.int .i64 0)).run Tryz.prog w = .ok (.string ⟨#[116, 111, 112]⟩) w := by kernel_rfl
theorem index_1 (w : World) : (Instr.index 100 (.agg #[.string ⟨#[116, 111, 112]⟩, .string ⟨#[114, 105, 103, 104, 116]⟩, .string ⟨#[98, 111, 116, 116, 111, 109]⟩, .string ⟨#[108, 101, 102, 116]⟩]) (.int .i64 1)).run Tryz.prog w = .ok (.string ⟨#[114, 105, 103, 104, 116]⟩) w := by kernel_rfl
theorem index_2 (w : World) : (Instr.index 100 (.agg #[.string ⟨#[116, 111, 112]⟩, .string ⟨#[114, 105, 103, 104, 116]⟩, .string ⟨#[98, 111, 116, 116, 111, 109]⟩, .string ⟨#[108, 101, 102, 116]⟩]) (.int .i64 2)).run Tryz.prog w = .ok (.string ⟨#[98, 111, 116, 116, 111, 109]⟩) w := by kernel_rfl
theorem index_3 (w : World) : (Instr.index 100 (.agg #[.string ⟨#[116, 111, 112]⟩, .string ⟨#[114, 105, 103, 104, 116]⟩, .string ⟨#[98, 111, 116, 116, 111, 109]⟩, .string ⟨#[108, 101, 102, 116]⟩]) (.int .i64 3)).run Tryz.prog w = .ok (.string ⟨#[108, 101, 102, 116]⟩) w := by kernel_rfl
theorem sides_ct (h t : ByteArray) (hh : h.size <= 100) (ht : t.size <= 100) (w : World) : Calls Tryz.prog 27 #[.string h, .string t] w fun e w' => (∃ v, e = .returned v /\ w'.ownsRow w.heap.size 9 1 v 4 ((sidesB h t).map .string)) /\ Below w.heap.size w w' := by
 obtain ⟨i0, hi, hz0, hz1, hz2⟩ := info_parts infoS
 have Hz0 := hid hz0
 have Hi := hid hi
 have Hz1 := hid hz1
 have Hz2 := hid hz2
 clear hz0 hi hz1 hz2
 go_enter Tryz.func27, Tryz.ntmps27
 go_wp2_with fail
 go_loopw [5, 9] (fun v i wr => ∃ k : Nat, k <= 4 /\ i = .int .i64 k /\ wr.ownsRow w.heap.size 9 1 v k (((sidesB h t).take k).map .string) /\ Below w.heap.size w wr) (fun _ i _ => 4 - (intOf i).toNat)
 case atStart => exact ⟨0, by omega, rfl, World.ownsRow_nil _ _ _ _, Below.refl _ _⟩
 case round =>
  obtain ⟨k, hk, rfl, hown, hb⟩ := hrel
  replace hown := hid hown
  have HB := hid hb
  clear hb
  obtain rfl | rfl | rfl | rfl | rfl : k = 0 ∨ k = 1 ∨ k = 2 ∨ k = 3 ∨ k = 4 := by omega
  ·have i1 : (0 : Int) < 4 := by decide
   have hix := index_0
   go_wp2_with (at_builtin; refine wpList_append_own _ rfl _ _ 41 rfl w.heap.size 9 i0 (.string .empty) 1 16 Tryz.underlying41 Hi.out Hz0.out Hz1.out Hz2.out rfl (by decide) _ _ _ rfl (hown.out.alloc _) ⟨wr.heap.size, 0, none⟩ 1 1 [.string (h ++ ⟨#[116, 111, 112]⟩ ++ t)] rfl rfl ?c1 ?c2 ?c3 ?c4 ?c5 ?_)
   case c1 => exact (Blk.new (w := wr) (t := 9) (cs := #[.string (h ++ ⟨#[116, 111, 112]⟩ ++ t)]) rfl).news
   case c2 => simp [Value.oneCell']
   case c3 => unfold maxLen; omega
   case c4 => omega
   case c5 => have := HB.out.size; simp; omega
   intro v' w1 hown1 hgrow hnil
   have hb1 := hid (below_app (HB.out.alloc HB.out.size _) hgrow (hown.out.alloc _) (Nat.le_refl _) (by simp; have := HB.out.size; omega))
   replace hown1 := hid hown1
   clear hgrow hnil
   go_wp2_with fail
   go_roundw
   case rel => exact ⟨1, by omega, by go_num, hown1.out, hb1.out⟩
   case measure => simp [intOf]
  ·have i1 : (1 : Int) < 4 := by decide
   have hix := index_1
   go_wp2_with (at_builtin; refine wpList_append_own _ rfl _ _ 41 rfl w.heap.size 9 i0 (.string .empty) 1 16 Tryz.underlying41 Hi.out Hz0.out Hz1.out Hz2.out rfl (by decide) _ _ _ rfl (hown.out.alloc _) ⟨wr.heap.size, 0, none⟩ 1 1 [.string (h ++ ⟨#[114, 105, 103, 104, 116]⟩ ++ t)] rfl rfl ?c1 ?c2 ?c3 ?c4 ?c5 ?_)
   case c1 => exact (Blk.new (w := wr) (t := 9) (cs := #[.string (h ++ ⟨#[114, 105, 103, 104, 116]⟩ ++ t)]) rfl).news
   case c2 => simp [Value.oneCell']
   case c3 => unfold maxLen; omega
   case c4 => omega
   case c5 => have := HB.out.size; simp; omega
   intro v' w1 hown1 hgrow hnil
   have hb1 := hid (below_app (HB.out.alloc HB.out.size _) hgrow (hown.out.alloc _) (Nat.le_refl _) (by simp; have := HB.out.size; omega))
   replace hown1 := hid hown1
   clear hgrow hnil
   go_wp2_with fail
   go_roundw
   case rel => exact ⟨2, by omega, by go_num, hown1.out, hb1.out⟩
   case measure => simp [intOf]
  ·have i1 : (2 : Int) < 4 := by decide
   have hix := index_2
   go_wp2_with (at_builtin; refine wpList_append_own _ rfl _ _ 41 rfl w.heap.size 9 i0 (.string .empty) 1 16 Tryz.underlying41 Hi.out Hz0.out Hz1.out Hz2.out rfl (by decide) _ _ _ rfl (hown.out.alloc _) ⟨wr.heap.size, 0, none⟩ 1 1 [.string (h ++ ⟨#[98, 111, 116, 116, 111, 109]⟩ ++ t)] rfl rfl ?c1 ?c2 ?c3 ?c4 ?c5 ?_)
   case c1 => exact (Blk.new (w := wr) (t := 9) (cs := #[.string (h ++ ⟨#[98, 111, 116, 116, 111, 109]⟩ ++ t)]) rfl).news
   case c2 => simp [Value.oneCell']
   case c3 => unfold maxLen; omega
   case c4 => omega
   case c5 => have := HB.out.size; simp; omega
   intro v' w1 hown1 hgrow hnil
   have hb1 := hid (below_app (HB.out.alloc HB.out.size _) hgrow (hown.out.alloc _) (Nat.le_refl _) (by simp; have := HB.out.size; omega))
   replace hown1 := hid hown1
   clear hgrow hnil
   go_wp2_with fail
   go_roundw
   case rel => exact ⟨3, by omega, by go_num, hown1.out, hb1.out⟩
   case measure => simp [intOf]
  ·have i1 : (3 : Int) < 4 := by decide
   have hix := index_3
   go_wp2_with (at_builtin; refine wpList_append_own _ rfl _ _ 41 rfl w.heap.size 9 i0 (.string .empty) 1 16 Tryz.underlying41 Hi.out Hz0.out Hz1.out Hz2.out rfl (by decide) _ _ _ rfl (hown.out.alloc _) ⟨wr.heap.size, 0, none⟩ 1 1 [.string (h ++ ⟨#[108, 101, 102, 116]⟩ ++ t)] rfl rfl ?c1 ?c2 ?c3 ?c4 ?c5 ?_)
   case c1 => exact (Blk.new (w := wr) (t := 9) (cs := #[.string (h ++ ⟨#[108, 101, 102, 116]⟩ ++ t)]) rfl).news
   case c2 => simp [Value.oneCell']
   case c3 => unfold maxLen; omega
   case c4 => omega
   case c5 => have := HB.out.size; simp; omega
   intro v' w1 hown1 hgrow hnil
   have hb1 := hid (below_app (HB.out.alloc HB.out.size _) hgrow (hown.out.alloc _) (Nat.le_refl _) (by simp; have := HB.out.size; omega))
   replace hown1 := hid hown1
   clear hgrow hnil
   go_wp2_with fail
   go_roundw
   case rel => exact ⟨4, by omega, by go_num, hown1.out, hb1.out⟩
   case measure => simp [intOf]
  ·have i1 : ¬ (4 : Int) < 4 := by decide
   go_wp2_with fail
   go_ret
   exact ⟨⟨_, rfl, hown.out⟩, HB.out⟩
end prp
end Go.Proofs.YthgffoanecknoaaGreatDoor
