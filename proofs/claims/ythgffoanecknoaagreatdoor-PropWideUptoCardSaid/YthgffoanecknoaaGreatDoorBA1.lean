/- Contracts and plain law, a bundle. -/
import Derived.Lib.Hide
import Derived.Test.YthgffoanecknoaaGreatDoorBA
set_option linter.unusedVariables false
set_option maxRecDepth 100000
set_option maxHeartbeats 16000000
open Go.Lib (hid)
namespace Go.Proofs.YthgffoanecknoaaGreatDoor
namespace tok
open Go.RowKit base
theorem number_none (s : ByteArray) (hs : s.size <= 140737488355328) (h0 : 0 < s.size) (n1 : ((s[0].toNat : Int) == 43) = false) (n2 : ((s[0].toNat : Int) == 45) = false)
  (wh be : Nat) (hp : Bool) (hwh : digitsP (s.data.toList.drop 0) = wh) (hp' : Lib.hasPrefix (s.data.toList.drop wh) [46] = hp) (hbe : be = if hp then digitsP (s.data.toList.drop (wh + 1)) else 0) (w : World) :
  Calls Tryz.prog 99 #[.string s] w fun e w' => e = .returned (.tuple #[.int .i64 (numAt s.data.toList 0 wh be false).1, .int .i64 ((numAt s.data.toList 0 wh be false).2 : Int)]) /\ Below w.heap.size w w' := by
 have HS : s.size <= maxLen := by unfold maxLen; omega
 have hfw : wh <= s.size := by
  have := digits_le (s.data.toList.drop 0)
  rw [hwh, List.length_drop, <- Lib.size_eq] at this
  omega
 have c1 : ∀ w, Calls Tryz.prog 141 #[.string s] w fun e w' => e = .returned (.int .i64 (wh : Int)) /\ Below w.heap.size w w' := fun w => by
  have := digits_ct s HS w
  rw [<- List.drop_zero (l := s.data.toList), hwh] at this
  exact this
 have c2 : ∀ w, Calls Tryz.prog 101 #[.string (s.extract wh s.size), .string (bs [46])] w fun e w' => e = .returned (.bool hp) /\ w = w' := fun w => by
  have := Tryz.strings_HasPrefix (s.extract wh s.size) (bs [46]) w
  rw [Lib.extract_to_end, show (bs [46]).data.toList = [46] from rfl, hp'] at this
  exact this.mono fun e w' ⟨h1, h2⟩ => ⟨h1, h2.symm⟩
 have hD := take_digits (s.data.toList.drop 0)
 rw [hwh] at hD
 replace hD := hid hD
 have he := empty_no h0
 replace c1 := hid c1
 replace c2 := hid c2
 replace HS := hid HS
 clear hwh
 cases hp
 ·clear hp'
  obtain rfl : be = 0 := by simpa using hbe
  by_cases hz : wh = 0
  ·have hz' : ((wh : Int) == 0) = true := by simp [hz]
   replace hz := hid hz
   clear hbe
   go_enter Tryz.func99, Tryz.ntmps99
   go_wp2_with (first | (go_at_call 141; (with_reducible refine (c1.out _).mono ?_); rintro e w1 ⟨rfl, hb1⟩) | (go_at_call 101; refine (c2.out _).mono ?_; rintro e w2 ⟨rfl, rfl⟩))
   go_ret2
   exact ⟨by simp [numAt, hz.out], hb1⟩
  ·have hz' : ((wh : Int) == 0) = false := by simp [hz]
   replace hz := hid hz
   clear hbe
   go_enter Tryz.func99, Tryz.ntmps99
   go_wp2_with (first | (go_at_call 141; (with_reducible refine (c1.out _).mono ?_); rintro e WB ⟨rfl, hb1⟩) | (go_at_call 101; refine (c2.out _).mono ?_; rintro e w2 ⟨rfl, rfl⟩))
   obtain ⟨D, hDe⟩ : ∃ D, D = (s.data.toList.drop 0).take wh := ⟨_, rfl⟩
   have hDl : D.length = wh := by rw [hDe, List.length_take, List.length_drop, <- Lib.size_eq]; omega
   have hdig := hD.out
   rw [<- hDe] at hdig
   have hdb := hid (fun k => fold_bd (D.take k) 0 (fun c hc => hdig c (List.mem_of_mem_take hc)) (by decide) (by decide))
   replace hdig := hid hdig
   obtain ⟨cp, W3, hcv, hb3, hz3, hby⟩ := bytes_of2 (s.extract 0 (wh)) (WB.alloc (.cells #[.int .i64 0] 3)) wh (WB.heap.size + 1) D (by simp; omega) (by simp) (by rw [hDe]; exact (by simp))
   have hB3 := hid ((hb1.alloc hb1.size _).trans (hb3.mono (by have := hb1.size; omega)))
   have bk3 := hid (Blk.below (show Blk (WB.alloc (.cells #[.int .i64 0] 3)) WB.heap.size 3 #[.int .i64 0] from Blk.new rfl) hb3 (by omega))
   have hwb := hb1.size
   rw [hcv]
   simp only [Result.andThen]
   rw [Oper.upon_value]
   replace hby := hid hby
   replace hDe := hid hDe
   replace hDl := hid hDl
   clear hcv hb3 hb1
   go_wp2_with fail
   go_loopw [54] (fun j wr => ∃ k : Nat, k <= wh /\ j = .int .i64 k /\ Blk wr WB.heap.size 3 #[.int .i64 ((D.take k).foldl addD 0)] /\ W3.grownBy wr (some WB.heap.size)) (fun j _ => wh - (intOf j).toNat)
   case atStart => exact ⟨0, by omega, rfl, bk3.out, World.grownBy.refl _ _⟩
   case round =>
    obtain ⟨k, hk, rfl, hbk, hgr⟩ := hrel
    by_cases hlt : k < wh
    ·have hlt' : (k : Int) < (wh : Int) := by omega
     obtain ⟨c, hc⟩ : ∃ c, D[k]? = some c := ⟨D[k]'(by have := hDl.out; omega), List.getElem?_eq_getElem _⟩
     have hcell : wr.cell? ⟨WB.heap.size + 1, k, none⟩ = some (.int .u8 (nv c)) := (hgr.cell_far ⟨WB.heap.size + 1, k, none⟩ (by simp only; omega) (by simp)).trans (hby.out k c hc)
     have hst := hid (fold_take hc 0)
     have hcd := hid (hdig.out c (List.mem_of_getElem? hc))
     have hfb := hid (hdb.out k)
     have hg := hid hgr
     replace hbk := hid hbk
     clear hc hgr
     go_wp2_with ((go_at_call 142; (with_reducible refine (add_ct c _ WB.heap.size _ hcd.out hfb.out.1 hfb.out.2 hbk.out).mono ?_); rintro e w4 ⟨rfl, hbk4, hg4⟩; replace hbk4 := hid hbk4; replace hg4 := hid hg4))
     go_roundw
     case rel => exact ⟨k + 1, by omega, by go_num, by rw [hst.out]; exact hbk4.out, hg.out.trans hg4.out⟩
     case measure => simp [intOf]; omega
    ·obtain rfl : k = wh := by omega
     have hfull : D.take k = D := List.take_of_length_le (by rw [hDl.out]; omega)
     rw [hfull] at hbk
     have hfb := hdb.out k
     rw [hfull] at hfb
     have hfb2 := hid (loop3_bd ([] : Bs) (D.foldl addD 0) (by simp) hfb.1 hfb.2)
     replace hbk := hid hbk
     replace hgr := hid hgr
     clear hfull hfb
     have hb0 : (0 : Int) <= 0 := by decide
     go_wp2_with fail
     go_loopw [79] (fun j wr => ∃ m : Nat, m <= 3 /\ j = .int .i64 m /\ Blk wr WB.heap.size 3 #[.int .i64 (loop3 ([] : Bs) (D.foldl addD 0) m)] /\ W3.grownBy wr (some WB.heap.size)) (fun j _ => 3 - (intOf j).toNat)
     case atStart => exact ⟨0, by omega, rfl, hbk.out, hgr.out⟩
     case round =>
      obtain ⟨m, hm, rfl, hbk5, hgr5⟩ := hrel
      replace hbk5 := hid hbk5
      replace hgr5 := hid hgr5
      by_cases hlt : m < 3
      ·have hlt' : (m : Int) < 3 := by omega
       have hst := hid (loop3_step ([] : Bs) (D.foldl addD 0) m)
       have hfb := hid (hfb2.out m)
       go_wp2_with ((go_at_call 142; (with_reducible refine (add48 _ WB.heap.size _ hfb.out.1 hfb.out.2 hbk5.out).mono ?_); rintro e w4 ⟨rfl, hbk4, hg4⟩; replace hbk4 := hid hbk4; replace hg4 := hid hg4))
       go_roundw
       case rel => exact ⟨m + 1, by omega, by go_num, by rw [hst.out]; exact hbk4.out, hgr5.out.trans hg4.out⟩
       case measure => simp [intOf]; omega
      ·obtain rfl : m = 3 := by omega
       have cc := hbk5.out.cell
       have cf := hbk5.out.frozen
       have hB5 := hid (below_grow hB3.out hgr5.out hwb (by have := hB3.out.size; omega))
       have hfb := hfb2.out 3
       have hse := hid (loop3_end ([] : Bs) (D.foldl addD 0))
       go_wp2
       go_ret2
       refine ⟨?_, hB5.out⟩
       have e : numAt s.data.toList 0 k 0 false = ( (loop3 ([] : Bs) (D.foldl addD 0) 3), 0 + k + 0) := by
        unfold numAt
        rw [if_neg (by have := hz.out; omega), hse.out, hDe.out]
        simp [sumP]
       rw [e]
       exact ret_num rfl (by omega)
 ·have hbe' : digitsP (s.data.toList.drop (wh + 1)) = be := by simpa using hbe.symm
  have hbd := digits_le (s.data.toList.drop (wh + 1))
  rw [hbe', List.length_drop, <- Lib.size_eq] at hbd
  have hFD := take_digits (s.data.toList.drop (wh + 1))
  rw [hbe'] at hFD
  replace hFD := hid hFD
  have hrs : wh + 1 <= s.size := by have := hp_room hp'; rw [Lib.size_eq]; exact this
  clear hp'
  have c3 : ∀ w, Calls Tryz.prog 141 #[.string ((s.extract wh s.size).extract 1 (s.size - wh))] w fun e w' => e = .returned (.int .i64 (be : Int)) /\ Below w.heap.size w w' := fun w => by
   have := digits_ct ((s.extract wh s.size).extract 1 (s.size - wh)) (sub_len _ _ (sub_len _ _ HS.out)) w
   rw [show ((s.extract wh s.size).extract 1 (s.size - wh)).data.toList = s.data.toList.drop (wh + 1) by rw [Lib.extract_data, Lib.extract_to_end, List.drop_drop, List.take_of_length_le (by rw [List.length_drop, <- Lib.size_eq]; omega)], hbe'] at this
   exact this
  replace c3 := hid c3
  clear hbe hbe'
  by_cases hz : wh + be = 0
  ·have hz' : ((wh : Int) + (be : Int) == 0) = true := by simp; omega
   have hzz : numAt s.data.toList 0 wh be false = (0, 0) := by simp [numAt, hz]
   rw [hzz]
   replace hz := hid hz
   replace hzz := hid hzz
   go_enter Tryz.func99, Tryz.ntmps99
   go_wp2_with (first | (go_at_call 141; (with_reducible refine (c1.out _).mono ?_); rintro e w1 ⟨rfl, hb1⟩) | (go_at_call 141; (with_reducible refine (c3.out _).mono ?_); rintro e w2 ⟨rfl, hb2⟩) | (go_at_call 101; refine (c2.out _).mono ?_; rintro e w2 ⟨rfl, rfl⟩))
   go_ret2
   exact ⟨rfl, hb1.trans (hb2.mono hb1.size)⟩
  ·have hz' : ((wh : Int) + (be : Int) == 0) = false := by simp; omega
   replace hz := hid hz
   by_cases hb : be = 0
   ·have hbi : (be : Int) <= 0 := by omega
    have hbn : decide (0 < be) = false := by simp; omega
    replace hb := hid hb
    go_enter Tryz.func99, Tryz.ntmps99
    go_wp2_with (first | (go_at_call 141; (with_reducible refine (c1.out _).mono ?_); rintro e w1 ⟨rfl, hb1'⟩) | (go_at_call 141; (with_reducible refine (c3.out _).mono ?_); rintro e WB ⟨rfl, hb2⟩) | (go_at_call 101; refine (c2.out _).mono ?_; rintro e w2 ⟨rfl, rfl⟩))
    have hb1 := hb1'.trans (hb2.mono hb1'.size)
    clear hb1' hb2
    obtain ⟨D, hDe⟩ : ∃ D, D = (s.data.toList.drop 0).take wh := ⟨_, rfl⟩
    have hDl : D.length = wh := by rw [hDe, List.length_take, List.length_drop, <- Lib.size_eq]; omega
    have hdig := hD.out
    rw [<- hDe] at hdig
    have hdb := hid (fun k => fold_bd (D.take k) 0 (fun c hc => hdig c (List.mem_of_mem_take hc)) (by decide) (by decide))
    replace hdig := hid hdig
    obtain ⟨cp, W3, hcv, hb3, hz3, hby⟩ := bytes_of2 (s.extract 0 (wh)) (WB.alloc (.cells #[.int .i64 0] 3)) wh (WB.heap.size + 1) D (by simp; omega) (by simp) (by rw [hDe]; exact (by simp))
    have hB3 := hid ((hb1.alloc hb1.size _).trans (hb3.mono (by have := hb1.size; omega)))
    have bk3 := hid (Blk.below (show Blk (WB.alloc (.cells #[.int .i64 0] 3)) WB.heap.size 3 #[.int .i64 0] from Blk.new rfl) hb3 (by omega))
    have hwb := hb1.size
    rw [hcv]
    simp only [Result.andThen]
    rw [Oper.upon_value]
    replace hby := hid hby
    replace hDe := hid hDe
    replace hDl := hid hDl
    clear hcv hb3 hb1
    go_wp2_with fail
    go_loopw [54] (fun j wr => ∃ k : Nat, k <= wh /\ j = .int .i64 k /\ Blk wr WB.heap.size 3 #[.int .i64 ((D.take k).foldl addD 0)] /\ W3.grownBy wr (some WB.heap.size)) (fun j _ => wh - (intOf j).toNat)
    case atStart => exact ⟨0, by omega, rfl, bk3.out, World.grownBy.refl _ _⟩
    case round =>
     obtain ⟨k, hk, rfl, hbk, hgr⟩ := hrel
     by_cases hlt : k < wh
     ·have hlt' : (k : Int) < (wh : Int) := by omega
      obtain ⟨c, hc⟩ : ∃ c, D[k]? = some c := ⟨D[k]'(by have := hDl.out; omega), List.getElem?_eq_getElem _⟩
      have hcell : wr.cell? ⟨WB.heap.size + 1, k, none⟩ = some (.int .u8 (nv c)) := (hgr.cell_far ⟨WB.heap.size + 1, k, none⟩ (by simp only; omega) (by simp)).trans (hby.out k c hc)
      have hst := hid (fold_take hc 0)
      have hcd := hid (hdig.out c (List.mem_of_getElem? hc))
      have hfb := hid (hdb.out k)
      have hg := hid hgr
      replace hbk := hid hbk
      clear hc hgr
      go_wp2_with ((go_at_call 142; (with_reducible refine (add_ct c _ WB.heap.size _ hcd.out hfb.out.1 hfb.out.2 hbk.out).mono ?_); rintro e w4 ⟨rfl, hbk4, hg4⟩; replace hbk4 := hid hbk4; replace hg4 := hid hg4))
      go_roundw
      case rel => exact ⟨k + 1, by omega, by go_num, by rw [hst.out]; exact hbk4.out, hg.out.trans hg4.out⟩
      case measure => simp [intOf]; omega
     ·obtain rfl : k = wh := by omega
      have hfull : D.take k = D := List.take_of_length_le (by rw [hDl.out]; omega)
      rw [hfull] at hbk
      have hfb := hdb.out k
      rw [hfull] at hfb
      have hfb2 := hid (loop3_bd ([] : Bs) (D.foldl addD 0) (by simp) hfb.1 hfb.2)
      replace hbk := hid hbk
      replace hgr := hid hgr
      clear hfull hfb
      have hb0 : (0 : Int) <= 0 := by decide
      go_wp2_with fail
      go_loopw [79] (fun j wr => ∃ m : Nat, m <= 3 /\ j = .int .i64 m /\ Blk wr WB.heap.size 3 #[.int .i64 (loop3 ([] : Bs) (D.foldl addD 0) m)] /\ W3.grownBy wr (some WB.heap.size)) (fun j _ => 3 - (intOf j).toNat)
      case atStart => exact ⟨0, by omega, rfl, hbk.out, hgr.out⟩
      case round =>
       obtain ⟨m, hm, rfl, hbk5, hgr5⟩ := hrel
       replace hbk5 := hid hbk5
       replace hgr5 := hid hgr5
       by_cases hlt : m < 3
       ·have hlt' : (m : Int) < 3 := by omega
        have hst := hid (loop3_step ([] : Bs) (D.foldl addD 0) m)
        have hfb := hid (hfb2.out m)
        go_wp2_with ((go_at_call 142; (with_reducible refine (add48 _ WB.heap.size _ hfb.out.1 hfb.out.2 hbk5.out).mono ?_); rintro e w4 ⟨rfl, hbk4, hg4⟩; replace hbk4 := hid hbk4; replace hg4 := hid hg4))
        go_roundw
        case rel => exact ⟨m + 1, by omega, by go_num, by rw [hst.out]; exact hbk4.out, hgr5.out.trans hg4.out⟩
        case measure => simp [intOf]; omega
       ·obtain rfl : m = 3 := by omega
        have cc := hbk5.out.cell
        have cf := hbk5.out.frozen
        have hB5 := hid (below_grow hB3.out hgr5.out hwb (by have := hB3.out.size; omega))
        have hfb := hfb2.out 3
        have hse := hid (loop3_end ([] : Bs) (D.foldl addD 0))
        go_wp2
        go_ret2
        refine ⟨?_, hB5.out⟩
        have e : numAt s.data.toList 0 k be false = ( (loop3 ([] : Bs) (D.foldl addD 0) 3), 0 + k + 0) := by
         unfold numAt
         rw [if_neg hz.out, hse.out, hDe.out]
         rw [if_pos hb.out]
         simp [sumP, hb.out]
        rw [e]
        exact ret_num rfl (by omega)
   ·have hbi : (0 : Int) < (be : Int) := by omega
    have hbn : decide (0 < be) = true := by simp; omega
    replace hb := hid hb
    go_enter Tryz.func99, Tryz.ntmps99
    go_wp2_with (first | (go_at_call 141; (with_reducible refine (c1.out _).mono ?_); rintro e w1 ⟨rfl, hb1'⟩) | (go_at_call 141; (with_reducible refine (c3.out _).mono ?_); rintro e WB ⟨rfl, hb2⟩) | (go_at_call 101; refine (c2.out _).mono ?_; rintro e w2 ⟨rfl, rfl⟩))
    have hb1 := hb1'.trans (hb2.mono hb1'.size)
    clear hb1' hb2
    obtain ⟨R, hR⟩ : ∃ R, R = (s.data.toList.drop (wh + 1)).take be := ⟨_, rfl⟩
    have hRl : R.length = be := by rw [hR, List.length_take, List.length_drop, <- Lib.size_eq]; omega
    replace hR := hid hR
    replace hRl := hid hRl
    obtain ⟨D, hDe⟩ : ∃ D, D = (s.data.toList.drop 0).take wh := ⟨_, rfl⟩
    have hDl : D.length = wh := by rw [hDe, List.length_take, List.length_drop, <- Lib.size_eq]; omega
    have hdig := hD.out
    rw [<- hDe] at hdig
    have hdb := hid (fun k => fold_bd (D.take k) 0 (fun c hc => hdig c (List.mem_of_mem_take hc)) (by decide) (by decide))
    replace hdig := hid hdig
    obtain ⟨cp, W3, hcv, hb3, hz3, hby⟩ := bytes_of2 (s.extract 0 (wh)) (WB.alloc (.cells #[.int .i64 0] 3)) wh (WB.heap.size + 1) D (by simp; omega) (by simp) (by rw [hDe]; exact (by simp))
    have hB3 := hid ((hb1.alloc hb1.size _).trans (hb3.mono (by have := hb1.size; omega)))
    have bk3 := hid (Blk.below (show Blk (WB.alloc (.cells #[.int .i64 0] 3)) WB.heap.size 3 #[.int .i64 0] from Blk.new rfl) hb3 (by omega))
    have hwb := hb1.size
    rw [hcv]
    simp only [Result.andThen]
    rw [Oper.upon_value]
    replace hby := hid hby
    replace hDe := hid hDe
    replace hDl := hid hDl
    clear hcv hb3 hb1
    go_wp2_with fail
    go_loopw [54] (fun j wr => ∃ k : Nat, k <= wh /\ j = .int .i64 k /\ Blk wr WB.heap.size 3 #[.int .i64 ((D.take k).foldl addD 0)] /\ W3.grownBy wr (some WB.heap.size)) (fun j _ => wh - (intOf j).toNat)
    case atStart => exact ⟨0, by omega, rfl, bk3.out, World.grownBy.refl _ _⟩
    case round =>
     obtain ⟨k, hk, rfl, hbk, hgr⟩ := hrel
     by_cases hlt : k < wh
     ·have hlt' : (k : Int) < (wh : Int) := by omega
      obtain ⟨c, hc⟩ : ∃ c, D[k]? = some c := ⟨D[k]'(by have := hDl.out; omega), List.getElem?_eq_getElem _⟩
      have hcell : wr.cell? ⟨WB.heap.size + 1, k, none⟩ = some (.int .u8 (nv c)) := (hgr.cell_far ⟨WB.heap.size + 1, k, none⟩ (by simp only; omega) (by simp)).trans (hby.out k c hc)
      have hst := hid (fold_take hc 0)
      have hcd := hid (hdig.out c (List.mem_of_getElem? hc))
      have hfb := hid (hdb.out k)
      have hg := hid hgr
      replace hbk := hid hbk
      clear hc hgr
      go_wp2_with ((go_at_call 142; (with_reducible refine (add_ct c _ WB.heap.size _ hcd.out hfb.out.1 hfb.out.2 hbk.out).mono ?_); rintro e w4 ⟨rfl, hbk4, hg4⟩; replace hbk4 := hid hbk4; replace hg4 := hid hg4))
      go_roundw
      case rel => exact ⟨k + 1, by omega, by go_num, by rw [hst.out]; exact hbk4.out, hg.out.trans hg4.out⟩
      case measure => simp [intOf]; omega
     ·obtain rfl : k = wh := by omega
      have hfull : D.take k = D := List.take_of_length_le (by rw [hDl.out]; omega)
      rw [hfull] at hbk
      have hfb := hdb.out k
      rw [hfull] at hfb
      have hfb2 := hid (loop3_bd R (D.foldl addD 0) (fun c hc => hFD.out c (by rw [<- hR.out]; exact hc)) hfb.1 hfb.2)
      replace hbk := hid hbk
      replace hgr := hid hgr
      clear hfull hfb
      have hfr : (s.extract (k + 1) (k + 1 + be)).data.toList = R := by rw [take_extract]; exact hR.out.symm
      have hfz : (s.extract (k + 1) (k + 1 + be)).size = be := by rw [Lib.size_eq, hfr]; exact hRl.out
      replace hfr := hid hfr
      replace hfz := hid hfz
      go_wp2_with fail
      go_loopw [79] (fun j wr => ∃ m : Nat, m <= 3 /\ j = .int .i64 m /\ Blk wr WB.heap.size 3 #[.int .i64 (loop3 R (D.foldl addD 0) m)] /\ W3.grownBy wr (some WB.heap.size)) (fun j _ => 3 - (intOf j).toNat)
      case atStart => exact ⟨0, by omega, rfl, hbk.out, hgr.out⟩
      case round =>
       obtain ⟨m, hm, rfl, hbk5, hgr5⟩ := hrel
       replace hbk5 := hid hbk5
       replace hgr5 := hid hgr5
       by_cases hlt : m < 3
       ·have hlt' : (m : Int) < 3 := by omega
        have hst := hid (loop3_step R (D.foldl addD 0) m)
        have hfb := hid (hfb2.out m)
        by_cases hmb : m < be
        ·have hmb' : (m : Int) < (be : Int) := by omega
         have hmz : m < (s.extract (k + 1) (k + 1 + be)).size := by rw [hfz.out]; exact hmb
         have hcR : R.getD m 48 = (s.extract (k + 1) (k + 1 + be))[m] := by
          rw [<- hfr.out]
          exact getD_byte hmz 48
         have hcd := hid (show digI (nv (s.extract (k + 1) (k + 1 + be))[m]) = true by rw [<- hcR]; exact getD_dig (fun c hc => hFD.out c (by rw [<- hR.out]; exact hc)) m)
         rw [hcR] at hst
         replace hcR := hid hcR
         go_wp2_with ((go_at_call 142; (with_reducible refine (add_ct _ _ WB.heap.size _ hcd.out hfb.out.1 hfb.out.2 hbk5.out).mono ?_); rintro e w4 ⟨rfl, hbk4, hg4⟩; replace hbk4 := hid hbk4; replace hg4 := hid hg4))
         go_roundw
         case rel => exact ⟨m + 1, by omega, by go_num, by rw [hst.out]; exact hbk4.out, hgr5.out.trans hg4.out⟩
         case measure => simp [intOf]; omega
        ·have hmb' : (be : Int) <= (m : Int) := by omega
         have hge : R.getD m 48 = 48 := by rw [List.getD_eq_getElem?_getD, List.getElem?_eq_none (by rw [hRl.out]; omega)]; rfl
         rw [hge] at hst
         replace hge := hid hge
         go_wp2_with ((go_at_call 142; (with_reducible refine (add48 _ WB.heap.size _ hfb.out.1 hfb.out.2 hbk5.out).mono ?_); rintro e w4 ⟨rfl, hbk4, hg4⟩; replace hbk4 := hid hbk4; replace hg4 := hid hg4))
         go_roundw
         case rel => exact ⟨m + 1, by omega, by go_num, by rw [hst.out]; exact hbk4.out, hgr5.out.trans hg4.out⟩
         case measure => simp [intOf]; omega
       ·obtain rfl : m = 3 := by omega
        have cc := hbk5.out.cell
        have cf := hbk5.out.frozen
        have hB5 := hid (below_grow hB3.out hgr5.out hwb (by have := hB3.out.size; omega))
        have hfb := hfb2.out 3
        have hse := hid (loop3_end R (D.foldl addD 0))
        go_wp2
        go_ret2
        refine ⟨?_, hB5.out⟩
        have e : numAt s.data.toList 0 k be false = ( (loop3 R (D.foldl addD 0) 3), 0 + k + (1 + be)) := by
         unfold numAt
         rw [if_neg hz.out, hse.out, hDe.out]
         rw [if_neg hb.out]
         simp [sumP, hR.out]
        rw [e]
        exact ret_num rfl (by omega)
end tok
end Go.Proofs.YthgffoanecknoaaGreatDoor
