/- Contracts and plain law, a bundle: Num1 Num2 Num3 Num4 Tok5 Tok6. -/
import Derived.Test.YtmjbaimccbkmpaaDoorBA

namespace Go.Proofs.YtmjbaimccbkmpaaDoor.tok
open Go.RowKit Go.Proofs.YtmjbaimccbkmpaaDoor.base
set_option linter.unusedVariables false

set_option maxRecDepth 100000 in
set_option maxHeartbeats 8000000 in
theorem number_none (s : ByteArray) (hs : s.size ≤ 140737488355328) (h0 : 0 < s.size) (n1 : ((s[0].toNat : Int) == 43) = false) (n2 : ((s[0].toNat : Int) == 45) = false)
    (wh be : Nat) (hp : Bool) (hwh : digitsP (s.data.toList.drop 0) = wh) (hp' : Lib.hasPrefix (s.data.toList.drop wh) [46] = hp) (hbe : be = if hp then digitsP (s.data.toList.drop (wh + 1)) else 0) (w : World) :
    Calls Tryd.prog 52 #[.string s] w fun e w' => e = .returned (.tuple #[.int .i64 (numAt s.data.toList 0 wh be false).1, .int .i64 ((numAt s.data.toList 0 wh be false).2 : Int)]) ∧ Below w.heap.size w w' := by
  have HS : s.size ≤ maxLen := by unfold maxLen; omega
  have hfw : wh ≤ s.size := by
    have := digits_le (s.data.toList.drop 0)
    rw [hwh, List.length_drop, ← Lib.size_eq] at this
    omega
  have c1 : ∀ w, Calls Tryd.prog 70 #[.string s] w fun e w' => e = .returned (.int .i64 (wh : Int)) ∧ Below w.heap.size w w' := fun w => by
    have := digits_ct s HS w
    rw [← List.drop_zero (l := s.data.toList), hwh] at this
    exact this
  have c2 : ∀ w, Calls Tryd.prog 39 #[.string (s.extract wh s.size), .string (bs [46])] w fun e w' => e = .returned (.bool hp) ∧ w = w' := fun w => by
    have := Tryd.strings_HasPrefix (s.extract wh s.size) (bs [46]) w
    rw [Lib.extract_to_end, show (bs [46]).data.toList = [46] from rfl, hp'] at this
    exact this.mono fun e w' ⟨h1, h2⟩ => ⟨h1, h2.symm⟩
  have hD := take_digits (s.data.toList.drop 0)
  rw [hwh] at hD
  replace hD := Lib.hid hD
  have he := empty_no h0
  replace c1 := Lib.hid c1
  replace c2 := Lib.hid c2
  replace HS := Lib.hid HS
  clear hwh
  cases hp
  · clear hp'
    obtain rfl : be = 0 := by simpa using hbe
    by_cases hz : wh = 0
    · have hz' : ((wh : Int) == 0) = true := by simp [hz]
      replace hz := Lib.hid hz
      clear hbe
      go_enter Tryd.func52, Tryd.ntmps52
      go_wp2_with (first | (go_at_call 70; (with_reducible refine (c1.out _).mono ?_); rintro e w1 ⟨rfl, hb1⟩) | (go_at_call 39; refine (c2.out _).mono ?_; rintro e w2 ⟨rfl, rfl⟩))
      go_ret2
      exact ⟨by simp [numAt, hz.out], hb1⟩
    · have hz' : ((wh : Int) == 0) = false := by simp [hz]
      replace hz := Lib.hid hz
      clear hbe
      go_enter Tryd.func52, Tryd.ntmps52
      go_wp2_with (first | (go_at_call 70; (with_reducible refine (c1.out _).mono ?_); rintro e WB ⟨rfl, hb1⟩) | (go_at_call 39; refine (c2.out _).mono ?_; rintro e w2 ⟨rfl, rfl⟩))
      obtain ⟨D, hDe⟩ : ∃ D, D = (s.data.toList.drop 0).take wh := ⟨_, rfl⟩
      have hDl : D.length = wh := by rw [hDe, List.length_take, List.length_drop, ← Lib.size_eq]; omega
      have hdig := hD.out
      rw [← hDe] at hdig
      have hdb := Lib.hid (fun k => fold_bd (D.take k) 0 (fun c hc => hdig c (List.mem_of_mem_take hc)) (by decide) (by decide))
      replace hdig := Lib.hid hdig
      obtain ⟨cp, W3, hcv, hb3, hz3, hby⟩ := bytes_of2 (s.extract 0 (wh)) (WB.alloc (.cells #[.int .i64 0] 3)) wh (WB.heap.size + 1) D (by simp; omega) (by simp) (by rw [hDe]; exact (by simp))
      have hB3 := Lib.hid ((hb1.alloc hb1.size _).trans (hb3.mono (by have := hb1.size; omega)))
      have bk3 := Lib.hid (Blk.below (show Blk (WB.alloc (.cells #[.int .i64 0] 3)) WB.heap.size 3 #[.int .i64 0] from Blk.new rfl) hb3 (by omega))
      have hwb := hb1.size
      rw [hcv]
      simp only [Result.andThen]
      rw [Oper.upon_value]
      replace hby := Lib.hid hby
      replace hDe := Lib.hid hDe
      replace hDl := Lib.hid hDl
      clear hcv hb3 hb1
      go_wp2_with fail
      go_loopw [54] (fun j wr => ∃ k : Nat, k ≤ wh ∧ j = .int .i64 k ∧ Blk wr WB.heap.size 3 #[.int .i64 ((D.take k).foldl addD 0)] ∧ W3.grownBy wr (some WB.heap.size)) (fun j _ => wh - (intOf j).toNat)
      case atStart => exact ⟨0, by omega, rfl, bk3.out, World.grownBy.refl _ _⟩
      case round =>
        obtain ⟨k, hk, rfl, hbk, hgr⟩ := hrel
        by_cases hlt : k < wh
        · have hlt' : (k : Int) < (wh : Int) := by omega
          obtain ⟨c, hc⟩ : ∃ c, D[k]? = some c := ⟨D[k]'(by have := hDl.out; omega), List.getElem?_eq_getElem _⟩
          have hcell : wr.cell? ⟨WB.heap.size + 1, k, none⟩ = some (.int .u8 (nv c)) := (hgr.cell_far ⟨WB.heap.size + 1, k, none⟩ (by simp only; omega) (by simp)).trans (hby.out k c hc)
          have hst := Lib.hid (fold_take hc 0)
          have hcd := Lib.hid (hdig.out c (List.mem_of_getElem? hc))
          have hfb := Lib.hid (hdb.out k)
          have hg := Lib.hid hgr
          replace hbk := Lib.hid hbk
          clear hc hgr
          go_wp2_with ((go_at_call 71; (with_reducible refine (add_ct c _ WB.heap.size _ hcd.out hfb.out.1 hfb.out.2 hbk.out).mono ?_); rintro e w4 ⟨rfl, hbk4, hg4⟩; replace hbk4 := Lib.hid hbk4; replace hg4 := Lib.hid hg4))
          go_roundw
          case rel => exact ⟨k + 1, by omega, by go_num, by rw [hst.out]; exact hbk4.out, hg.out.trans hg4.out⟩
          case measure => simp [intOf]; omega
        · obtain rfl : k = wh := by omega
          have hfull : D.take k = D := List.take_of_length_le (by rw [hDl.out]; omega)
          rw [hfull] at hbk
          have hfb := hdb.out k
          rw [hfull] at hfb
          have hfb2 := Lib.hid (loop3_bd ([] : Bs) (D.foldl addD 0) (by simp) hfb.1 hfb.2)
          replace hbk := Lib.hid hbk
          replace hgr := Lib.hid hgr
          clear hfull hfb
          have hb0 : (0 : Int) ≤ 0 := by decide
          go_wp2_with fail
          go_loopw [79] (fun j wr => ∃ m : Nat, m ≤ 3 ∧ j = .int .i64 m ∧ Blk wr WB.heap.size 3 #[.int .i64 (loop3 ([] : Bs) (D.foldl addD 0) m)] ∧ W3.grownBy wr (some WB.heap.size)) (fun j _ => 3 - (intOf j).toNat)
          case atStart => exact ⟨0, by omega, rfl, hbk.out, hgr.out⟩
          case round =>
            obtain ⟨m, hm, rfl, hbk5, hgr5⟩ := hrel
            replace hbk5 := Lib.hid hbk5
            replace hgr5 := Lib.hid hgr5
            by_cases hlt : m < 3
            · have hlt' : (m : Int) < 3 := by omega
              have hst := Lib.hid (loop3_step ([] : Bs) (D.foldl addD 0) m)
              have hfb := Lib.hid (hfb2.out m)
              go_wp2_with ((go_at_call 71; (with_reducible refine (add48 _ WB.heap.size _ hfb.out.1 hfb.out.2 hbk5.out).mono ?_); rintro e w4 ⟨rfl, hbk4, hg4⟩; replace hbk4 := Lib.hid hbk4; replace hg4 := Lib.hid hg4))
              go_roundw
              case rel => exact ⟨m + 1, by omega, by go_num, by rw [hst.out]; exact hbk4.out, hgr5.out.trans hg4.out⟩
              case measure => simp [intOf]; omega
            · obtain rfl : m = 3 := by omega
              have cc := hbk5.out.cell
              have cf := hbk5.out.frozen
              have hB5 := Lib.hid (below_grow hB3.out hgr5.out hwb (by have := hB3.out.size; omega))
              have hfb := hfb2.out 3
              have hse := Lib.hid (loop3_end ([] : Bs) (D.foldl addD 0))
              go_wp2
              go_ret2
              refine ⟨?_, hB5.out⟩
              have e : numAt s.data.toList 0 k 0 false = ( (loop3 ([] : Bs) (D.foldl addD 0) 3), 0 + k + 0) := by
                unfold numAt
                rw [if_neg (by have := hz.out; omega), hse.out, hDe.out]
                simp [sumP]
              rw [e]
              exact ret_num rfl (by omega)
  · have hbe' : digitsP (s.data.toList.drop (wh + 1)) = be := by simpa using hbe.symm
    have hbd := digits_le (s.data.toList.drop (wh + 1))
    rw [hbe', List.length_drop, ← Lib.size_eq] at hbd
    have hFD := take_digits (s.data.toList.drop (wh + 1))
    rw [hbe'] at hFD
    replace hFD := Lib.hid hFD
    have hrs : wh + 1 ≤ s.size := by have := hp_room hp'; rw [Lib.size_eq]; exact this
    clear hp'
    have c3 : ∀ w, Calls Tryd.prog 70 #[.string ((s.extract wh s.size).extract 1 (s.size - wh))] w fun e w' => e = .returned (.int .i64 (be : Int)) ∧ Below w.heap.size w w' := fun w => by
      have := digits_ct ((s.extract wh s.size).extract 1 (s.size - wh)) (sub_len _ _ (sub_len _ _ HS.out)) w
      rw [show ((s.extract wh s.size).extract 1 (s.size - wh)).data.toList = s.data.toList.drop (wh + 1) by rw [Lib.extract_data, Lib.extract_to_end, List.drop_drop, List.take_of_length_le (by rw [List.length_drop, ← Lib.size_eq]; omega)], hbe'] at this
      exact this
    replace c3 := Lib.hid c3
    clear hbe hbe'
    by_cases hz : wh + be = 0
    · have hz' : ((wh : Int) + (be : Int) == 0) = true := by simp; omega
      have hzz : numAt s.data.toList 0 wh be false = (0, 0) := by simp [numAt, hz]
      rw [hzz]
      replace hz := Lib.hid hz
      replace hzz := Lib.hid hzz
      go_enter Tryd.func52, Tryd.ntmps52
      go_wp2_with (first | (go_at_call 70; (with_reducible refine (c1.out _).mono ?_); rintro e w1 ⟨rfl, hb1⟩) | (go_at_call 70; (with_reducible refine (c3.out _).mono ?_); rintro e w2 ⟨rfl, hb2⟩) | (go_at_call 39; refine (c2.out _).mono ?_; rintro e w2 ⟨rfl, rfl⟩))
      go_ret2
      exact ⟨rfl, hb1.trans (hb2.mono hb1.size)⟩
    · have hz' : ((wh : Int) + (be : Int) == 0) = false := by simp; omega
      replace hz := Lib.hid hz
      by_cases hb : be = 0
      · have hbi : (be : Int) ≤ 0 := by omega
        have hbn : decide (0 < be) = false := by simp; omega
        replace hb := Lib.hid hb
        go_enter Tryd.func52, Tryd.ntmps52
        go_wp2_with (first | (go_at_call 70; (with_reducible refine (c1.out _).mono ?_); rintro e w1 ⟨rfl, hb1'⟩) | (go_at_call 70; (with_reducible refine (c3.out _).mono ?_); rintro e WB ⟨rfl, hb2⟩) | (go_at_call 39; refine (c2.out _).mono ?_; rintro e w2 ⟨rfl, rfl⟩))
        have hb1 := hb1'.trans (hb2.mono hb1'.size)
        clear hb1' hb2
        obtain ⟨D, hDe⟩ : ∃ D, D = (s.data.toList.drop 0).take wh := ⟨_, rfl⟩
        have hDl : D.length = wh := by rw [hDe, List.length_take, List.length_drop, ← Lib.size_eq]; omega
        have hdig := hD.out
        rw [← hDe] at hdig
        have hdb := Lib.hid (fun k => fold_bd (D.take k) 0 (fun c hc => hdig c (List.mem_of_mem_take hc)) (by decide) (by decide))
        replace hdig := Lib.hid hdig
        obtain ⟨cp, W3, hcv, hb3, hz3, hby⟩ := bytes_of2 (s.extract 0 (wh)) (WB.alloc (.cells #[.int .i64 0] 3)) wh (WB.heap.size + 1) D (by simp; omega) (by simp) (by rw [hDe]; exact (by simp))
        have hB3 := Lib.hid ((hb1.alloc hb1.size _).trans (hb3.mono (by have := hb1.size; omega)))
        have bk3 := Lib.hid (Blk.below (show Blk (WB.alloc (.cells #[.int .i64 0] 3)) WB.heap.size 3 #[.int .i64 0] from Blk.new rfl) hb3 (by omega))
        have hwb := hb1.size
        rw [hcv]
        simp only [Result.andThen]
        rw [Oper.upon_value]
        replace hby := Lib.hid hby
        replace hDe := Lib.hid hDe
        replace hDl := Lib.hid hDl
        clear hcv hb3 hb1
        go_wp2_with fail
        go_loopw [54] (fun j wr => ∃ k : Nat, k ≤ wh ∧ j = .int .i64 k ∧ Blk wr WB.heap.size 3 #[.int .i64 ((D.take k).foldl addD 0)] ∧ W3.grownBy wr (some WB.heap.size)) (fun j _ => wh - (intOf j).toNat)
        case atStart => exact ⟨0, by omega, rfl, bk3.out, World.grownBy.refl _ _⟩
        case round =>
          obtain ⟨k, hk, rfl, hbk, hgr⟩ := hrel
          by_cases hlt : k < wh
          · have hlt' : (k : Int) < (wh : Int) := by omega
            obtain ⟨c, hc⟩ : ∃ c, D[k]? = some c := ⟨D[k]'(by have := hDl.out; omega), List.getElem?_eq_getElem _⟩
            have hcell : wr.cell? ⟨WB.heap.size + 1, k, none⟩ = some (.int .u8 (nv c)) := (hgr.cell_far ⟨WB.heap.size + 1, k, none⟩ (by simp only; omega) (by simp)).trans (hby.out k c hc)
            have hst := Lib.hid (fold_take hc 0)
            have hcd := Lib.hid (hdig.out c (List.mem_of_getElem? hc))
            have hfb := Lib.hid (hdb.out k)
            have hg := Lib.hid hgr
            replace hbk := Lib.hid hbk
            clear hc hgr
            go_wp2_with ((go_at_call 71; (with_reducible refine (add_ct c _ WB.heap.size _ hcd.out hfb.out.1 hfb.out.2 hbk.out).mono ?_); rintro e w4 ⟨rfl, hbk4, hg4⟩; replace hbk4 := Lib.hid hbk4; replace hg4 := Lib.hid hg4))
            go_roundw
            case rel => exact ⟨k + 1, by omega, by go_num, by rw [hst.out]; exact hbk4.out, hg.out.trans hg4.out⟩
            case measure => simp [intOf]; omega
          · obtain rfl : k = wh := by omega
            have hfull : D.take k = D := List.take_of_length_le (by rw [hDl.out]; omega)
            rw [hfull] at hbk
            have hfb := hdb.out k
            rw [hfull] at hfb
            have hfb2 := Lib.hid (loop3_bd ([] : Bs) (D.foldl addD 0) (by simp) hfb.1 hfb.2)
            replace hbk := Lib.hid hbk
            replace hgr := Lib.hid hgr
            clear hfull hfb
            have hb0 : (0 : Int) ≤ 0 := by decide
            go_wp2_with fail
            go_loopw [79] (fun j wr => ∃ m : Nat, m ≤ 3 ∧ j = .int .i64 m ∧ Blk wr WB.heap.size 3 #[.int .i64 (loop3 ([] : Bs) (D.foldl addD 0) m)] ∧ W3.grownBy wr (some WB.heap.size)) (fun j _ => 3 - (intOf j).toNat)
            case atStart => exact ⟨0, by omega, rfl, hbk.out, hgr.out⟩
            case round =>
              obtain ⟨m, hm, rfl, hbk5, hgr5⟩ := hrel
              replace hbk5 := Lib.hid hbk5
              replace hgr5 := Lib.hid hgr5
              by_cases hlt : m < 3
              · have hlt' : (m : Int) < 3 := by omega
                have hst := Lib.hid (loop3_step ([] : Bs) (D.foldl addD 0) m)
                have hfb := Lib.hid (hfb2.out m)
                go_wp2_with ((go_at_call 71; (with_reducible refine (add48 _ WB.heap.size _ hfb.out.1 hfb.out.2 hbk5.out).mono ?_); rintro e w4 ⟨rfl, hbk4, hg4⟩; replace hbk4 := Lib.hid hbk4; replace hg4 := Lib.hid hg4))
                go_roundw
                case rel => exact ⟨m + 1, by omega, by go_num, by rw [hst.out]; exact hbk4.out, hgr5.out.trans hg4.out⟩
                case measure => simp [intOf]; omega
              · obtain rfl : m = 3 := by omega
                have cc := hbk5.out.cell
                have cf := hbk5.out.frozen
                have hB5 := Lib.hid (below_grow hB3.out hgr5.out hwb (by have := hB3.out.size; omega))
                have hfb := hfb2.out 3
                have hse := Lib.hid (loop3_end ([] : Bs) (D.foldl addD 0))
                go_wp2
                go_ret2
                refine ⟨?_, hB5.out⟩
                have e : numAt s.data.toList 0 k be false = ( (loop3 ([] : Bs) (D.foldl addD 0) 3), 0 + k + 0) := by
                  unfold numAt
                  rw [if_neg hz.out, hse.out, hDe.out]
                  rw [if_pos hb.out]
                  simp [sumP, hb.out]
                rw [e]
                exact ret_num rfl (by omega)
      · have hbi : (0 : Int) < (be : Int) := by omega
        have hbn : decide (0 < be) = true := by simp; omega
        replace hb := Lib.hid hb
        go_enter Tryd.func52, Tryd.ntmps52
        go_wp2_with (first | (go_at_call 70; (with_reducible refine (c1.out _).mono ?_); rintro e w1 ⟨rfl, hb1'⟩) | (go_at_call 70; (with_reducible refine (c3.out _).mono ?_); rintro e WB ⟨rfl, hb2⟩) | (go_at_call 39; refine (c2.out _).mono ?_; rintro e w2 ⟨rfl, rfl⟩))
        have hb1 := hb1'.trans (hb2.mono hb1'.size)
        clear hb1' hb2
        obtain ⟨R, hR⟩ : ∃ R, R = (s.data.toList.drop (wh + 1)).take be := ⟨_, rfl⟩
        have hRl : R.length = be := by rw [hR, List.length_take, List.length_drop, ← Lib.size_eq]; omega
        replace hR := Lib.hid hR
        replace hRl := Lib.hid hRl
        obtain ⟨D, hDe⟩ : ∃ D, D = (s.data.toList.drop 0).take wh := ⟨_, rfl⟩
        have hDl : D.length = wh := by rw [hDe, List.length_take, List.length_drop, ← Lib.size_eq]; omega
        have hdig := hD.out
        rw [← hDe] at hdig
        have hdb := Lib.hid (fun k => fold_bd (D.take k) 0 (fun c hc => hdig c (List.mem_of_mem_take hc)) (by decide) (by decide))
        replace hdig := Lib.hid hdig
        obtain ⟨cp, W3, hcv, hb3, hz3, hby⟩ := bytes_of2 (s.extract 0 (wh)) (WB.alloc (.cells #[.int .i64 0] 3)) wh (WB.heap.size + 1) D (by simp; omega) (by simp) (by rw [hDe]; exact (by simp))
        have hB3 := Lib.hid ((hb1.alloc hb1.size _).trans (hb3.mono (by have := hb1.size; omega)))
        have bk3 := Lib.hid (Blk.below (show Blk (WB.alloc (.cells #[.int .i64 0] 3)) WB.heap.size 3 #[.int .i64 0] from Blk.new rfl) hb3 (by omega))
        have hwb := hb1.size
        rw [hcv]
        simp only [Result.andThen]
        rw [Oper.upon_value]
        replace hby := Lib.hid hby
        replace hDe := Lib.hid hDe
        replace hDl := Lib.hid hDl
        clear hcv hb3 hb1
        go_wp2_with fail
        go_loopw [54] (fun j wr => ∃ k : Nat, k ≤ wh ∧ j = .int .i64 k ∧ Blk wr WB.heap.size 3 #[.int .i64 ((D.take k).foldl addD 0)] ∧ W3.grownBy wr (some WB.heap.size)) (fun j _ => wh - (intOf j).toNat)
        case atStart => exact ⟨0, by omega, rfl, bk3.out, World.grownBy.refl _ _⟩
        case round =>
          obtain ⟨k, hk, rfl, hbk, hgr⟩ := hrel
          by_cases hlt : k < wh
          · have hlt' : (k : Int) < (wh : Int) := by omega
            obtain ⟨c, hc⟩ : ∃ c, D[k]? = some c := ⟨D[k]'(by have := hDl.out; omega), List.getElem?_eq_getElem _⟩
            have hcell : wr.cell? ⟨WB.heap.size + 1, k, none⟩ = some (.int .u8 (nv c)) := (hgr.cell_far ⟨WB.heap.size + 1, k, none⟩ (by simp only; omega) (by simp)).trans (hby.out k c hc)
            have hst := Lib.hid (fold_take hc 0)
            have hcd := Lib.hid (hdig.out c (List.mem_of_getElem? hc))
            have hfb := Lib.hid (hdb.out k)
            have hg := Lib.hid hgr
            replace hbk := Lib.hid hbk
            clear hc hgr
            go_wp2_with ((go_at_call 71; (with_reducible refine (add_ct c _ WB.heap.size _ hcd.out hfb.out.1 hfb.out.2 hbk.out).mono ?_); rintro e w4 ⟨rfl, hbk4, hg4⟩; replace hbk4 := Lib.hid hbk4; replace hg4 := Lib.hid hg4))
            go_roundw
            case rel => exact ⟨k + 1, by omega, by go_num, by rw [hst.out]; exact hbk4.out, hg.out.trans hg4.out⟩
            case measure => simp [intOf]; omega
          · obtain rfl : k = wh := by omega
            have hfull : D.take k = D := List.take_of_length_le (by rw [hDl.out]; omega)
            rw [hfull] at hbk
            have hfb := hdb.out k
            rw [hfull] at hfb
            have hfb2 := Lib.hid (loop3_bd R (D.foldl addD 0) (fun c hc => hFD.out c (by rw [← hR.out]; exact hc)) hfb.1 hfb.2)
            replace hbk := Lib.hid hbk
            replace hgr := Lib.hid hgr
            clear hfull hfb
            have hfr : (s.extract (k + 1) (k + 1 + be)).data.toList = R := by rw [take_extract]; exact hR.out.symm
            have hfz : (s.extract (k + 1) (k + 1 + be)).size = be := by rw [Lib.size_eq, hfr]; exact hRl.out
            replace hfr := Lib.hid hfr
            replace hfz := Lib.hid hfz
            go_wp2_with fail
            go_loopw [79] (fun j wr => ∃ m : Nat, m ≤ 3 ∧ j = .int .i64 m ∧ Blk wr WB.heap.size 3 #[.int .i64 (loop3 R (D.foldl addD 0) m)] ∧ W3.grownBy wr (some WB.heap.size)) (fun j _ => 3 - (intOf j).toNat)
            case atStart => exact ⟨0, by omega, rfl, hbk.out, hgr.out⟩
            case round =>
              obtain ⟨m, hm, rfl, hbk5, hgr5⟩ := hrel
              replace hbk5 := Lib.hid hbk5
              replace hgr5 := Lib.hid hgr5
              by_cases hlt : m < 3
              · have hlt' : (m : Int) < 3 := by omega
                have hst := Lib.hid (loop3_step R (D.foldl addD 0) m)
                have hfb := Lib.hid (hfb2.out m)
                by_cases hmb : m < be
                · have hmb' : (m : Int) < (be : Int) := by omega
                  have hmz : m < (s.extract (k + 1) (k + 1 + be)).size := by rw [hfz.out]; exact hmb
                  have hcR : R.getD m 48 = (s.extract (k + 1) (k + 1 + be))[m] := by
                    rw [← hfr.out]
                    exact getD_byte hmz 48
                  have hcd := Lib.hid (show digI (nv (s.extract (k + 1) (k + 1 + be))[m]) = true by rw [← hcR]; exact getD_dig (fun c hc => hFD.out c (by rw [← hR.out]; exact hc)) m)
                  rw [hcR] at hst
                  replace hcR := Lib.hid hcR
                  go_wp2_with ((go_at_call 71; (with_reducible refine (add_ct _ _ WB.heap.size _ hcd.out hfb.out.1 hfb.out.2 hbk5.out).mono ?_); rintro e w4 ⟨rfl, hbk4, hg4⟩; replace hbk4 := Lib.hid hbk4; replace hg4 := Lib.hid hg4))
                  go_roundw
                  case rel => exact ⟨m + 1, by omega, by go_num, by rw [hst.out]; exact hbk4.out, hgr5.out.trans hg4.out⟩
                  case measure => simp [intOf]; omega
                · have hmb' : (be : Int) ≤ (m : Int) := by omega
                  have hge : R.getD m 48 = 48 := by rw [List.getD_eq_getElem?_getD, List.getElem?_eq_none (by rw [hRl.out]; omega)]; rfl
                  rw [hge] at hst
                  replace hge := Lib.hid hge
                  go_wp2_with ((go_at_call 71; (with_reducible refine (add48 _ WB.heap.size _ hfb.out.1 hfb.out.2 hbk5.out).mono ?_); rintro e w4 ⟨rfl, hbk4, hg4⟩; replace hbk4 := Lib.hid hbk4; replace hg4 := Lib.hid hg4))
                  go_roundw
                  case rel => exact ⟨m + 1, by omega, by go_num, by rw [hst.out]; exact hbk4.out, hgr5.out.trans hg4.out⟩
                  case measure => simp [intOf]; omega
              · obtain rfl : m = 3 := by omega
                have cc := hbk5.out.cell
                have cf := hbk5.out.frozen
                have hB5 := Lib.hid (below_grow hB3.out hgr5.out hwb (by have := hB3.out.size; omega))
                have hfb := hfb2.out 3
                have hse := Lib.hid (loop3_end R (D.foldl addD 0))
                go_wp2
                go_ret2
                refine ⟨?_, hB5.out⟩
                have e : numAt s.data.toList 0 k be false = ( (loop3 R (D.foldl addD 0) 3), 0 + k + (1 + be)) := by
                  unfold numAt
                  rw [if_neg hz.out, hse.out, hDe.out]
                  rw [if_neg hb.out]
                  simp [sumP, hR.out]
                rw [e]
                exact ret_num rfl (by omega)

end Go.Proofs.YtmjbaimccbkmpaaDoor.tok

namespace Go.Proofs.YtmjbaimccbkmpaaDoor.tok
open Go.RowKit Go.Proofs.YtmjbaimccbkmpaaDoor.base
set_option linter.unusedVariables false

set_option maxRecDepth 100000 in
set_option maxHeartbeats 8000000 in
theorem number_plus (s : ByteArray) (hs : s.size ≤ 140737488355328) (h0 : 0 < s.size) (n1 : ((s[0].toNat : Int) == 43) = true) (n2 : ((s[0].toNat : Int) == 45) = false)
    (wh be : Nat) (hp : Bool) (hwh : digitsP (s.data.toList.drop 1) = wh) (hp' : Lib.hasPrefix (s.data.toList.drop (1 + wh)) [46] = hp) (hbe : be = if hp then digitsP (s.data.toList.drop ((1 + wh) + 1)) else 0) (w : World) :
    Calls Tryd.prog 52 #[.string s] w fun e w' => e = .returned (.tuple #[.int .i64 (numAt s.data.toList 1 wh be false).1, .int .i64 ((numAt s.data.toList 1 wh be false).2 : Int)]) ∧ Below w.heap.size w w' := by
  have HS : s.size ≤ maxLen := by unfold maxLen; omega
  have hfw : (1 + wh) ≤ s.size := by
    have := digits_le (s.data.toList.drop 1)
    rw [hwh, List.length_drop, ← Lib.size_eq] at this
    omega
  have c1 : ∀ w, Calls Tryd.prog 70 #[.string (s.extract 1 s.size)] w fun e w' => e = .returned (.int .i64 (wh : Int)) ∧ Below w.heap.size w w' := fun w => by
    have := digits_ct (s.extract 1 s.size) (sub_len _ _ HS) w
    rw [Lib.extract_to_end, hwh] at this
    exact this
  have c2 : ∀ w, Calls Tryd.prog 39 #[.string (s.extract (1 + wh) s.size), .string (bs [46])] w fun e w' => e = .returned (.bool hp) ∧ w = w' := fun w => by
    have := Tryd.strings_HasPrefix (s.extract (1 + wh) s.size) (bs [46]) w
    rw [Lib.extract_to_end, show (bs [46]).data.toList = [46] from rfl, hp'] at this
    exact this.mono fun e w' ⟨h1, h2⟩ => ⟨h1, h2.symm⟩
  have hD := take_digits (s.data.toList.drop 1)
  rw [hwh] at hD
  replace hD := Lib.hid hD
  have he := empty_no h0
  replace c1 := Lib.hid c1
  replace c2 := Lib.hid c2
  replace HS := Lib.hid HS
  clear hwh
  cases hp
  · clear hp'
    obtain rfl : be = 0 := by simpa using hbe
    by_cases hz : wh = 0
    · have hz' : ((wh : Int) == 0) = true := by simp [hz]
      replace hz := Lib.hid hz
      clear hbe
      go_enter Tryd.func52, Tryd.ntmps52
      go_wp2_with (first | (go_at_call 70; (with_reducible refine (c1.out _).mono ?_); rintro e w1 ⟨rfl, hb1⟩) | (go_at_call 39; refine (c2.out _).mono ?_; rintro e w2 ⟨rfl, rfl⟩))
      go_ret2
      exact ⟨by simp [numAt, hz.out], hb1⟩
    · have hz' : ((wh : Int) == 0) = false := by simp [hz]
      replace hz := Lib.hid hz
      clear hbe
      go_enter Tryd.func52, Tryd.ntmps52
      go_wp2_with (first | (go_at_call 70; (with_reducible refine (c1.out _).mono ?_); rintro e WB ⟨rfl, hb1⟩) | (go_at_call 39; refine (c2.out _).mono ?_; rintro e w2 ⟨rfl, rfl⟩))
      obtain ⟨D, hDe⟩ : ∃ D, D = (s.data.toList.drop 1).take wh := ⟨_, rfl⟩
      have hDl : D.length = wh := by rw [hDe, List.length_take, List.length_drop, ← Lib.size_eq]; omega
      have hdig := hD.out
      rw [← hDe] at hdig
      have hdb := Lib.hid (fun k => fold_bd (D.take k) 0 (fun c hc => hdig c (List.mem_of_mem_take hc)) (by decide) (by decide))
      replace hdig := Lib.hid hdig
      obtain ⟨cp, W3, hcv, hb3, hz3, hby⟩ := bytes_of2 (s.extract 1 ((1 + wh))) (WB.alloc (.cells #[.int .i64 0] 3)) wh (WB.heap.size + 1) D (by simp; omega) (by simp) (by rw [hDe]; exact (take_extract s 1 wh))
      have hB3 := Lib.hid ((hb1.alloc hb1.size _).trans (hb3.mono (by have := hb1.size; omega)))
      have bk3 := Lib.hid (Blk.below (show Blk (WB.alloc (.cells #[.int .i64 0] 3)) WB.heap.size 3 #[.int .i64 0] from Blk.new rfl) hb3 (by omega))
      have hwb := hb1.size
      rw [hcv]
      simp only [Result.andThen]
      rw [Oper.upon_value]
      replace hby := Lib.hid hby
      replace hDe := Lib.hid hDe
      replace hDl := Lib.hid hDl
      clear hcv hb3 hb1
      go_wp2_with fail
      go_loopw [54] (fun j wr => ∃ k : Nat, k ≤ wh ∧ j = .int .i64 k ∧ Blk wr WB.heap.size 3 #[.int .i64 ((D.take k).foldl addD 0)] ∧ W3.grownBy wr (some WB.heap.size)) (fun j _ => wh - (intOf j).toNat)
      case atStart => exact ⟨0, by omega, rfl, bk3.out, World.grownBy.refl _ _⟩
      case round =>
        obtain ⟨k, hk, rfl, hbk, hgr⟩ := hrel
        by_cases hlt : k < wh
        · have hlt' : (k : Int) < (wh : Int) := by omega
          obtain ⟨c, hc⟩ : ∃ c, D[k]? = some c := ⟨D[k]'(by have := hDl.out; omega), List.getElem?_eq_getElem _⟩
          have hcell : wr.cell? ⟨WB.heap.size + 1, k, none⟩ = some (.int .u8 (nv c)) := (hgr.cell_far ⟨WB.heap.size + 1, k, none⟩ (by simp only; omega) (by simp)).trans (hby.out k c hc)
          have hst := Lib.hid (fold_take hc 0)
          have hcd := Lib.hid (hdig.out c (List.mem_of_getElem? hc))
          have hfb := Lib.hid (hdb.out k)
          have hg := Lib.hid hgr
          replace hbk := Lib.hid hbk
          clear hc hgr
          go_wp2_with ((go_at_call 71; (with_reducible refine (add_ct c _ WB.heap.size _ hcd.out hfb.out.1 hfb.out.2 hbk.out).mono ?_); rintro e w4 ⟨rfl, hbk4, hg4⟩; replace hbk4 := Lib.hid hbk4; replace hg4 := Lib.hid hg4))
          go_roundw
          case rel => exact ⟨k + 1, by omega, by go_num, by rw [hst.out]; exact hbk4.out, hg.out.trans hg4.out⟩
          case measure => simp [intOf]; omega
        · obtain rfl : k = wh := by omega
          have hfull : D.take k = D := List.take_of_length_le (by rw [hDl.out]; omega)
          rw [hfull] at hbk
          have hfb := hdb.out k
          rw [hfull] at hfb
          have hfb2 := Lib.hid (loop3_bd ([] : Bs) (D.foldl addD 0) (by simp) hfb.1 hfb.2)
          replace hbk := Lib.hid hbk
          replace hgr := Lib.hid hgr
          clear hfull hfb
          have hb0 : (0 : Int) ≤ 0 := by decide
          go_wp2_with fail
          go_loopw [79] (fun j wr => ∃ m : Nat, m ≤ 3 ∧ j = .int .i64 m ∧ Blk wr WB.heap.size 3 #[.int .i64 (loop3 ([] : Bs) (D.foldl addD 0) m)] ∧ W3.grownBy wr (some WB.heap.size)) (fun j _ => 3 - (intOf j).toNat)
          case atStart => exact ⟨0, by omega, rfl, hbk.out, hgr.out⟩
          case round =>
            obtain ⟨m, hm, rfl, hbk5, hgr5⟩ := hrel
            replace hbk5 := Lib.hid hbk5
            replace hgr5 := Lib.hid hgr5
            by_cases hlt : m < 3
            · have hlt' : (m : Int) < 3 := by omega
              have hst := Lib.hid (loop3_step ([] : Bs) (D.foldl addD 0) m)
              have hfb := Lib.hid (hfb2.out m)
              go_wp2_with ((go_at_call 71; (with_reducible refine (add48 _ WB.heap.size _ hfb.out.1 hfb.out.2 hbk5.out).mono ?_); rintro e w4 ⟨rfl, hbk4, hg4⟩; replace hbk4 := Lib.hid hbk4; replace hg4 := Lib.hid hg4))
              go_roundw
              case rel => exact ⟨m + 1, by omega, by go_num, by rw [hst.out]; exact hbk4.out, hgr5.out.trans hg4.out⟩
              case measure => simp [intOf]; omega
            · obtain rfl : m = 3 := by omega
              have cc := hbk5.out.cell
              have cf := hbk5.out.frozen
              have hB5 := Lib.hid (below_grow hB3.out hgr5.out hwb (by have := hB3.out.size; omega))
              have hfb := hfb2.out 3
              have hse := Lib.hid (loop3_end ([] : Bs) (D.foldl addD 0))
              go_wp2
              go_ret2
              refine ⟨?_, hB5.out⟩
              have e : numAt s.data.toList 1 k 0 false = ( (loop3 ([] : Bs) (D.foldl addD 0) 3), 1 + k + 0) := by
                unfold numAt
                rw [if_neg (by have := hz.out; omega), hse.out, hDe.out]
                simp [sumP]
              rw [e]
              exact ret_num rfl (by omega)
  · have hbe' : digitsP (s.data.toList.drop ((1 + wh) + 1)) = be := by simpa using hbe.symm
    have hbd := digits_le (s.data.toList.drop ((1 + wh) + 1))
    rw [hbe', List.length_drop, ← Lib.size_eq] at hbd
    have hFD := take_digits (s.data.toList.drop ((1 + wh) + 1))
    rw [hbe'] at hFD
    replace hFD := Lib.hid hFD
    have hrs : (1 + wh) + 1 ≤ s.size := by have := hp_room hp'; rw [Lib.size_eq]; exact this
    clear hp'
    have c3 : ∀ w, Calls Tryd.prog 70 #[.string ((s.extract (1 + wh) s.size).extract 1 (s.size - (1 + wh)))] w fun e w' => e = .returned (.int .i64 (be : Int)) ∧ Below w.heap.size w w' := fun w => by
      have := digits_ct ((s.extract (1 + wh) s.size).extract 1 (s.size - (1 + wh))) (sub_len _ _ (sub_len _ _ HS.out)) w
      rw [show ((s.extract (1 + wh) s.size).extract 1 (s.size - (1 + wh))).data.toList = s.data.toList.drop ((1 + wh) + 1) by rw [Lib.extract_data, Lib.extract_to_end, List.drop_drop, List.take_of_length_le (by rw [List.length_drop, ← Lib.size_eq]; omega)], hbe'] at this
      exact this
    replace c3 := Lib.hid c3
    clear hbe hbe'
    by_cases hz : wh + be = 0
    · have hz' : ((wh : Int) + (be : Int) == 0) = true := by simp; omega
      have hzz : numAt s.data.toList 1 wh be false = (0, 0) := by simp [numAt, hz]
      rw [hzz]
      replace hz := Lib.hid hz
      replace hzz := Lib.hid hzz
      go_enter Tryd.func52, Tryd.ntmps52
      go_wp2_with (first | (go_at_call 70; (with_reducible refine (c1.out _).mono ?_); rintro e w1 ⟨rfl, hb1⟩) | (go_at_call 70; (with_reducible refine (c3.out _).mono ?_); rintro e w2 ⟨rfl, hb2⟩) | (go_at_call 39; refine (c2.out _).mono ?_; rintro e w2 ⟨rfl, rfl⟩))
      go_ret2
      exact ⟨rfl, hb1.trans (hb2.mono hb1.size)⟩
    · have hz' : ((wh : Int) + (be : Int) == 0) = false := by simp; omega
      replace hz := Lib.hid hz
      by_cases hb : be = 0
      · have hbi : (be : Int) ≤ 0 := by omega
        have hbn : decide (0 < be) = false := by simp; omega
        replace hb := Lib.hid hb
        go_enter Tryd.func52, Tryd.ntmps52
        go_wp2_with (first | (go_at_call 70; (with_reducible refine (c1.out _).mono ?_); rintro e w1 ⟨rfl, hb1'⟩) | (go_at_call 70; (with_reducible refine (c3.out _).mono ?_); rintro e WB ⟨rfl, hb2⟩) | (go_at_call 39; refine (c2.out _).mono ?_; rintro e w2 ⟨rfl, rfl⟩))
        have hb1 := hb1'.trans (hb2.mono hb1'.size)
        clear hb1' hb2
        obtain ⟨D, hDe⟩ : ∃ D, D = (s.data.toList.drop 1).take wh := ⟨_, rfl⟩
        have hDl : D.length = wh := by rw [hDe, List.length_take, List.length_drop, ← Lib.size_eq]; omega
        have hdig := hD.out
        rw [← hDe] at hdig
        have hdb := Lib.hid (fun k => fold_bd (D.take k) 0 (fun c hc => hdig c (List.mem_of_mem_take hc)) (by decide) (by decide))
        replace hdig := Lib.hid hdig
        obtain ⟨cp, W3, hcv, hb3, hz3, hby⟩ := bytes_of2 (s.extract 1 ((1 + wh))) (WB.alloc (.cells #[.int .i64 0] 3)) wh (WB.heap.size + 1) D (by simp; omega) (by simp) (by rw [hDe]; exact (take_extract s 1 wh))
        have hB3 := Lib.hid ((hb1.alloc hb1.size _).trans (hb3.mono (by have := hb1.size; omega)))
        have bk3 := Lib.hid (Blk.below (show Blk (WB.alloc (.cells #[.int .i64 0] 3)) WB.heap.size 3 #[.int .i64 0] from Blk.new rfl) hb3 (by omega))
        have hwb := hb1.size
        rw [hcv]
        simp only [Result.andThen]
        rw [Oper.upon_value]
        replace hby := Lib.hid hby
        replace hDe := Lib.hid hDe
        replace hDl := Lib.hid hDl
        clear hcv hb3 hb1
        go_wp2_with fail
        go_loopw [54] (fun j wr => ∃ k : Nat, k ≤ wh ∧ j = .int .i64 k ∧ Blk wr WB.heap.size 3 #[.int .i64 ((D.take k).foldl addD 0)] ∧ W3.grownBy wr (some WB.heap.size)) (fun j _ => wh - (intOf j).toNat)
        case atStart => exact ⟨0, by omega, rfl, bk3.out, World.grownBy.refl _ _⟩
        case round =>
          obtain ⟨k, hk, rfl, hbk, hgr⟩ := hrel
          by_cases hlt : k < wh
          · have hlt' : (k : Int) < (wh : Int) := by omega
            obtain ⟨c, hc⟩ : ∃ c, D[k]? = some c := ⟨D[k]'(by have := hDl.out; omega), List.getElem?_eq_getElem _⟩
            have hcell : wr.cell? ⟨WB.heap.size + 1, k, none⟩ = some (.int .u8 (nv c)) := (hgr.cell_far ⟨WB.heap.size + 1, k, none⟩ (by simp only; omega) (by simp)).trans (hby.out k c hc)
            have hst := Lib.hid (fold_take hc 0)
            have hcd := Lib.hid (hdig.out c (List.mem_of_getElem? hc))
            have hfb := Lib.hid (hdb.out k)
            have hg := Lib.hid hgr
            replace hbk := Lib.hid hbk
            clear hc hgr
            go_wp2_with ((go_at_call 71; (with_reducible refine (add_ct c _ WB.heap.size _ hcd.out hfb.out.1 hfb.out.2 hbk.out).mono ?_); rintro e w4 ⟨rfl, hbk4, hg4⟩; replace hbk4 := Lib.hid hbk4; replace hg4 := Lib.hid hg4))
            go_roundw
            case rel => exact ⟨k + 1, by omega, by go_num, by rw [hst.out]; exact hbk4.out, hg.out.trans hg4.out⟩
            case measure => simp [intOf]; omega
          · obtain rfl : k = wh := by omega
            have hfull : D.take k = D := List.take_of_length_le (by rw [hDl.out]; omega)
            rw [hfull] at hbk
            have hfb := hdb.out k
            rw [hfull] at hfb
            have hfb2 := Lib.hid (loop3_bd ([] : Bs) (D.foldl addD 0) (by simp) hfb.1 hfb.2)
            replace hbk := Lib.hid hbk
            replace hgr := Lib.hid hgr
            clear hfull hfb
            have hb0 : (0 : Int) ≤ 0 := by decide
            go_wp2_with fail
            go_loopw [79] (fun j wr => ∃ m : Nat, m ≤ 3 ∧ j = .int .i64 m ∧ Blk wr WB.heap.size 3 #[.int .i64 (loop3 ([] : Bs) (D.foldl addD 0) m)] ∧ W3.grownBy wr (some WB.heap.size)) (fun j _ => 3 - (intOf j).toNat)
            case atStart => exact ⟨0, by omega, rfl, hbk.out, hgr.out⟩
            case round =>
              obtain ⟨m, hm, rfl, hbk5, hgr5⟩ := hrel
              replace hbk5 := Lib.hid hbk5
              replace hgr5 := Lib.hid hgr5
              by_cases hlt : m < 3
              · have hlt' : (m : Int) < 3 := by omega
                have hst := Lib.hid (loop3_step ([] : Bs) (D.foldl addD 0) m)
                have hfb := Lib.hid (hfb2.out m)
                go_wp2_with ((go_at_call 71; (with_reducible refine (add48 _ WB.heap.size _ hfb.out.1 hfb.out.2 hbk5.out).mono ?_); rintro e w4 ⟨rfl, hbk4, hg4⟩; replace hbk4 := Lib.hid hbk4; replace hg4 := Lib.hid hg4))
                go_roundw
                case rel => exact ⟨m + 1, by omega, by go_num, by rw [hst.out]; exact hbk4.out, hgr5.out.trans hg4.out⟩
                case measure => simp [intOf]; omega
              · obtain rfl : m = 3 := by omega
                have cc := hbk5.out.cell
                have cf := hbk5.out.frozen
                have hB5 := Lib.hid (below_grow hB3.out hgr5.out hwb (by have := hB3.out.size; omega))
                have hfb := hfb2.out 3
                have hse := Lib.hid (loop3_end ([] : Bs) (D.foldl addD 0))
                go_wp2
                go_ret2
                refine ⟨?_, hB5.out⟩
                have e : numAt s.data.toList 1 k be false = ( (loop3 ([] : Bs) (D.foldl addD 0) 3), 1 + k + 0) := by
                  unfold numAt
                  rw [if_neg hz.out, hse.out, hDe.out]
                  rw [if_pos hb.out]
                  simp [sumP, hb.out]
                rw [e]
                exact ret_num rfl (by omega)
      · have hbi : (0 : Int) < (be : Int) := by omega
        have hbn : decide (0 < be) = true := by simp; omega
        replace hb := Lib.hid hb
        go_enter Tryd.func52, Tryd.ntmps52
        go_wp2_with (first | (go_at_call 70; (with_reducible refine (c1.out _).mono ?_); rintro e w1 ⟨rfl, hb1'⟩) | (go_at_call 70; (with_reducible refine (c3.out _).mono ?_); rintro e WB ⟨rfl, hb2⟩) | (go_at_call 39; refine (c2.out _).mono ?_; rintro e w2 ⟨rfl, rfl⟩))
        have hb1 := hb1'.trans (hb2.mono hb1'.size)
        clear hb1' hb2
        obtain ⟨R, hR⟩ : ∃ R, R = (s.data.toList.drop ((1 + wh) + 1)).take be := ⟨_, rfl⟩
        have hRl : R.length = be := by rw [hR, List.length_take, List.length_drop, ← Lib.size_eq]; omega
        replace hR := Lib.hid hR
        replace hRl := Lib.hid hRl
        obtain ⟨D, hDe⟩ : ∃ D, D = (s.data.toList.drop 1).take wh := ⟨_, rfl⟩
        have hDl : D.length = wh := by rw [hDe, List.length_take, List.length_drop, ← Lib.size_eq]; omega
        have hdig := hD.out
        rw [← hDe] at hdig
        have hdb := Lib.hid (fun k => fold_bd (D.take k) 0 (fun c hc => hdig c (List.mem_of_mem_take hc)) (by decide) (by decide))
        replace hdig := Lib.hid hdig
        obtain ⟨cp, W3, hcv, hb3, hz3, hby⟩ := bytes_of2 (s.extract 1 ((1 + wh))) (WB.alloc (.cells #[.int .i64 0] 3)) wh (WB.heap.size + 1) D (by simp; omega) (by simp) (by rw [hDe]; exact (take_extract s 1 wh))
        have hB3 := Lib.hid ((hb1.alloc hb1.size _).trans (hb3.mono (by have := hb1.size; omega)))
        have bk3 := Lib.hid (Blk.below (show Blk (WB.alloc (.cells #[.int .i64 0] 3)) WB.heap.size 3 #[.int .i64 0] from Blk.new rfl) hb3 (by omega))
        have hwb := hb1.size
        rw [hcv]
        simp only [Result.andThen]
        rw [Oper.upon_value]
        replace hby := Lib.hid hby
        replace hDe := Lib.hid hDe
        replace hDl := Lib.hid hDl
        clear hcv hb3 hb1
        go_wp2_with fail
        go_loopw [54] (fun j wr => ∃ k : Nat, k ≤ wh ∧ j = .int .i64 k ∧ Blk wr WB.heap.size 3 #[.int .i64 ((D.take k).foldl addD 0)] ∧ W3.grownBy wr (some WB.heap.size)) (fun j _ => wh - (intOf j).toNat)
        case atStart => exact ⟨0, by omega, rfl, bk3.out, World.grownBy.refl _ _⟩
        case round =>
          obtain ⟨k, hk, rfl, hbk, hgr⟩ := hrel
          by_cases hlt : k < wh
          · have hlt' : (k : Int) < (wh : Int) := by omega
            obtain ⟨c, hc⟩ : ∃ c, D[k]? = some c := ⟨D[k]'(by have := hDl.out; omega), List.getElem?_eq_getElem _⟩
            have hcell : wr.cell? ⟨WB.heap.size + 1, k, none⟩ = some (.int .u8 (nv c)) := (hgr.cell_far ⟨WB.heap.size + 1, k, none⟩ (by simp only; omega) (by simp)).trans (hby.out k c hc)
            have hst := Lib.hid (fold_take hc 0)
            have hcd := Lib.hid (hdig.out c (List.mem_of_getElem? hc))
            have hfb := Lib.hid (hdb.out k)
            have hg := Lib.hid hgr
            replace hbk := Lib.hid hbk
            clear hc hgr
            go_wp2_with ((go_at_call 71; (with_reducible refine (add_ct c _ WB.heap.size _ hcd.out hfb.out.1 hfb.out.2 hbk.out).mono ?_); rintro e w4 ⟨rfl, hbk4, hg4⟩; replace hbk4 := Lib.hid hbk4; replace hg4 := Lib.hid hg4))
            go_roundw
            case rel => exact ⟨k + 1, by omega, by go_num, by rw [hst.out]; exact hbk4.out, hg.out.trans hg4.out⟩
            case measure => simp [intOf]; omega
          · obtain rfl : k = wh := by omega
            have hfull : D.take k = D := List.take_of_length_le (by rw [hDl.out]; omega)
            rw [hfull] at hbk
            have hfb := hdb.out k
            rw [hfull] at hfb
            have hfb2 := Lib.hid (loop3_bd R (D.foldl addD 0) (fun c hc => hFD.out c (by rw [← hR.out]; exact hc)) hfb.1 hfb.2)
            replace hbk := Lib.hid hbk
            replace hgr := Lib.hid hgr
            clear hfull hfb
            have hfr : (s.extract ((1 + k) + 1) ((1 + k) + 1 + be)).data.toList = R := by rw [take_extract]; exact hR.out.symm
            have hfz : (s.extract ((1 + k) + 1) ((1 + k) + 1 + be)).size = be := by rw [Lib.size_eq, hfr]; exact hRl.out
            replace hfr := Lib.hid hfr
            replace hfz := Lib.hid hfz
            go_wp2_with fail
            go_loopw [79] (fun j wr => ∃ m : Nat, m ≤ 3 ∧ j = .int .i64 m ∧ Blk wr WB.heap.size 3 #[.int .i64 (loop3 R (D.foldl addD 0) m)] ∧ W3.grownBy wr (some WB.heap.size)) (fun j _ => 3 - (intOf j).toNat)
            case atStart => exact ⟨0, by omega, rfl, hbk.out, hgr.out⟩
            case round =>
              obtain ⟨m, hm, rfl, hbk5, hgr5⟩ := hrel
              replace hbk5 := Lib.hid hbk5
              replace hgr5 := Lib.hid hgr5
              by_cases hlt : m < 3
              · have hlt' : (m : Int) < 3 := by omega
                have hst := Lib.hid (loop3_step R (D.foldl addD 0) m)
                have hfb := Lib.hid (hfb2.out m)
                by_cases hmb : m < be
                · have hmb' : (m : Int) < (be : Int) := by omega
                  have hmz : m < (s.extract ((1 + k) + 1) ((1 + k) + 1 + be)).size := by rw [hfz.out]; exact hmb
                  have hcR : R.getD m 48 = (s.extract ((1 + k) + 1) ((1 + k) + 1 + be))[m] := by
                    rw [← hfr.out]
                    exact getD_byte hmz 48
                  have hcd := Lib.hid (show digI (nv (s.extract ((1 + k) + 1) ((1 + k) + 1 + be))[m]) = true by rw [← hcR]; exact getD_dig (fun c hc => hFD.out c (by rw [← hR.out]; exact hc)) m)
                  rw [hcR] at hst
                  replace hcR := Lib.hid hcR
                  go_wp2_with ((go_at_call 71; (with_reducible refine (add_ct _ _ WB.heap.size _ hcd.out hfb.out.1 hfb.out.2 hbk5.out).mono ?_); rintro e w4 ⟨rfl, hbk4, hg4⟩; replace hbk4 := Lib.hid hbk4; replace hg4 := Lib.hid hg4))
                  go_roundw
                  case rel => exact ⟨m + 1, by omega, by go_num, by rw [hst.out]; exact hbk4.out, hgr5.out.trans hg4.out⟩
                  case measure => simp [intOf]; omega
                · have hmb' : (be : Int) ≤ (m : Int) := by omega
                  have hge : R.getD m 48 = 48 := by rw [List.getD_eq_getElem?_getD, List.getElem?_eq_none (by rw [hRl.out]; omega)]; rfl
                  rw [hge] at hst
                  replace hge := Lib.hid hge
                  go_wp2_with ((go_at_call 71; (with_reducible refine (add48 _ WB.heap.size _ hfb.out.1 hfb.out.2 hbk5.out).mono ?_); rintro e w4 ⟨rfl, hbk4, hg4⟩; replace hbk4 := Lib.hid hbk4; replace hg4 := Lib.hid hg4))
                  go_roundw
                  case rel => exact ⟨m + 1, by omega, by go_num, by rw [hst.out]; exact hbk4.out, hgr5.out.trans hg4.out⟩
                  case measure => simp [intOf]; omega
              · obtain rfl : m = 3 := by omega
                have cc := hbk5.out.cell
                have cf := hbk5.out.frozen
                have hB5 := Lib.hid (below_grow hB3.out hgr5.out hwb (by have := hB3.out.size; omega))
                have hfb := hfb2.out 3
                have hse := Lib.hid (loop3_end R (D.foldl addD 0))
                go_wp2
                go_ret2
                refine ⟨?_, hB5.out⟩
                have e : numAt s.data.toList 1 k be false = ( (loop3 R (D.foldl addD 0) 3), 1 + k + (1 + be)) := by
                  unfold numAt
                  rw [if_neg hz.out, hse.out, hDe.out]
                  rw [if_neg hb.out]
                  simp [sumP, hR.out]
                rw [e]
                exact ret_num rfl (by omega)

end Go.Proofs.YtmjbaimccbkmpaaDoor.tok

namespace Go.Proofs.YtmjbaimccbkmpaaDoor.tok
open Go.RowKit Go.Proofs.YtmjbaimccbkmpaaDoor.base
set_option linter.unusedVariables false

set_option maxRecDepth 100000 in
set_option maxHeartbeats 8000000 in
theorem number_minus (s : ByteArray) (hs : s.size ≤ 140737488355328) (h0 : 0 < s.size) (n1 : ((s[0].toNat : Int) == 43) = false) (n2 : ((s[0].toNat : Int) == 45) = true)
    (wh be : Nat) (hp : Bool) (hwh : digitsP (s.data.toList.drop 1) = wh) (hp' : Lib.hasPrefix (s.data.toList.drop (1 + wh)) [46] = hp) (hbe : be = if hp then digitsP (s.data.toList.drop ((1 + wh) + 1)) else 0) (w : World) :
    Calls Tryd.prog 52 #[.string s] w fun e w' => e = .returned (.tuple #[.int .i64 (numAt s.data.toList 1 wh be true).1, .int .i64 ((numAt s.data.toList 1 wh be true).2 : Int)]) ∧ Below w.heap.size w w' := by
  have HS : s.size ≤ maxLen := by unfold maxLen; omega
  have hfw : (1 + wh) ≤ s.size := by
    have := digits_le (s.data.toList.drop 1)
    rw [hwh, List.length_drop, ← Lib.size_eq] at this
    omega
  have c1 : ∀ w, Calls Tryd.prog 70 #[.string (s.extract 1 s.size)] w fun e w' => e = .returned (.int .i64 (wh : Int)) ∧ Below w.heap.size w w' := fun w => by
    have := digits_ct (s.extract 1 s.size) (sub_len _ _ HS) w
    rw [Lib.extract_to_end, hwh] at this
    exact this
  have c2 : ∀ w, Calls Tryd.prog 39 #[.string (s.extract (1 + wh) s.size), .string (bs [46])] w fun e w' => e = .returned (.bool hp) ∧ w = w' := fun w => by
    have := Tryd.strings_HasPrefix (s.extract (1 + wh) s.size) (bs [46]) w
    rw [Lib.extract_to_end, show (bs [46]).data.toList = [46] from rfl, hp'] at this
    exact this.mono fun e w' ⟨h1, h2⟩ => ⟨h1, h2.symm⟩
  have hD := take_digits (s.data.toList.drop 1)
  rw [hwh] at hD
  replace hD := Lib.hid hD
  have he := empty_no h0
  replace c1 := Lib.hid c1
  replace c2 := Lib.hid c2
  replace HS := Lib.hid HS
  clear hwh
  cases hp
  · clear hp'
    obtain rfl : be = 0 := by simpa using hbe
    by_cases hz : wh = 0
    · have hz' : ((wh : Int) == 0) = true := by simp [hz]
      replace hz := Lib.hid hz
      clear hbe
      go_enter Tryd.func52, Tryd.ntmps52
      go_wp2_with (first | (go_at_call 70; (with_reducible refine (c1.out _).mono ?_); rintro e w1 ⟨rfl, hb1⟩) | (go_at_call 39; refine (c2.out _).mono ?_; rintro e w2 ⟨rfl, rfl⟩))
      go_ret2
      exact ⟨by simp [numAt, hz.out], hb1⟩
    · have hz' : ((wh : Int) == 0) = false := by simp [hz]
      replace hz := Lib.hid hz
      clear hbe
      go_enter Tryd.func52, Tryd.ntmps52
      go_wp2_with (first | (go_at_call 70; (with_reducible refine (c1.out _).mono ?_); rintro e WB ⟨rfl, hb1⟩) | (go_at_call 39; refine (c2.out _).mono ?_; rintro e w2 ⟨rfl, rfl⟩))
      obtain ⟨D, hDe⟩ : ∃ D, D = (s.data.toList.drop 1).take wh := ⟨_, rfl⟩
      have hDl : D.length = wh := by rw [hDe, List.length_take, List.length_drop, ← Lib.size_eq]; omega
      have hdig := hD.out
      rw [← hDe] at hdig
      have hdb := Lib.hid (fun k => fold_bd (D.take k) 0 (fun c hc => hdig c (List.mem_of_mem_take hc)) (by decide) (by decide))
      replace hdig := Lib.hid hdig
      obtain ⟨cp, W3, hcv, hb3, hz3, hby⟩ := bytes_of2 (s.extract 1 ((1 + wh))) (WB.alloc (.cells #[.int .i64 0] 3)) wh (WB.heap.size + 1) D (by simp; omega) (by simp) (by rw [hDe]; exact (take_extract s 1 wh))
      have hB3 := Lib.hid ((hb1.alloc hb1.size _).trans (hb3.mono (by have := hb1.size; omega)))
      have bk3 := Lib.hid (Blk.below (show Blk (WB.alloc (.cells #[.int .i64 0] 3)) WB.heap.size 3 #[.int .i64 0] from Blk.new rfl) hb3 (by omega))
      have hwb := hb1.size
      rw [hcv]
      simp only [Result.andThen]
      rw [Oper.upon_value]
      replace hby := Lib.hid hby
      replace hDe := Lib.hid hDe
      replace hDl := Lib.hid hDl
      clear hcv hb3 hb1
      go_wp2_with fail
      go_loopw [54] (fun j wr => ∃ k : Nat, k ≤ wh ∧ j = .int .i64 k ∧ Blk wr WB.heap.size 3 #[.int .i64 ((D.take k).foldl addD 0)] ∧ W3.grownBy wr (some WB.heap.size)) (fun j _ => wh - (intOf j).toNat)
      case atStart => exact ⟨0, by omega, rfl, bk3.out, World.grownBy.refl _ _⟩
      case round =>
        obtain ⟨k, hk, rfl, hbk, hgr⟩ := hrel
        by_cases hlt : k < wh
        · have hlt' : (k : Int) < (wh : Int) := by omega
          obtain ⟨c, hc⟩ : ∃ c, D[k]? = some c := ⟨D[k]'(by have := hDl.out; omega), List.getElem?_eq_getElem _⟩
          have hcell : wr.cell? ⟨WB.heap.size + 1, k, none⟩ = some (.int .u8 (nv c)) := (hgr.cell_far ⟨WB.heap.size + 1, k, none⟩ (by simp only; omega) (by simp)).trans (hby.out k c hc)
          have hst := Lib.hid (fold_take hc 0)
          have hcd := Lib.hid (hdig.out c (List.mem_of_getElem? hc))
          have hfb := Lib.hid (hdb.out k)
          have hg := Lib.hid hgr
          replace hbk := Lib.hid hbk
          clear hc hgr
          go_wp2_with ((go_at_call 71; (with_reducible refine (add_ct c _ WB.heap.size _ hcd.out hfb.out.1 hfb.out.2 hbk.out).mono ?_); rintro e w4 ⟨rfl, hbk4, hg4⟩; replace hbk4 := Lib.hid hbk4; replace hg4 := Lib.hid hg4))
          go_roundw
          case rel => exact ⟨k + 1, by omega, by go_num, by rw [hst.out]; exact hbk4.out, hg.out.trans hg4.out⟩
          case measure => simp [intOf]; omega
        · obtain rfl : k = wh := by omega
          have hfull : D.take k = D := List.take_of_length_le (by rw [hDl.out]; omega)
          rw [hfull] at hbk
          have hfb := hdb.out k
          rw [hfull] at hfb
          have hfb2 := Lib.hid (loop3_bd ([] : Bs) (D.foldl addD 0) (by simp) hfb.1 hfb.2)
          replace hbk := Lib.hid hbk
          replace hgr := Lib.hid hgr
          clear hfull hfb
          have hb0 : (0 : Int) ≤ 0 := by decide
          go_wp2_with fail
          go_loopw [79] (fun j wr => ∃ m : Nat, m ≤ 3 ∧ j = .int .i64 m ∧ Blk wr WB.heap.size 3 #[.int .i64 (loop3 ([] : Bs) (D.foldl addD 0) m)] ∧ W3.grownBy wr (some WB.heap.size)) (fun j _ => 3 - (intOf j).toNat)
          case atStart => exact ⟨0, by omega, rfl, hbk.out, hgr.out⟩
          case round =>
            obtain ⟨m, hm, rfl, hbk5, hgr5⟩ := hrel
            replace hbk5 := Lib.hid hbk5
            replace hgr5 := Lib.hid hgr5
            by_cases hlt : m < 3
            · have hlt' : (m : Int) < 3 := by omega
              have hst := Lib.hid (loop3_step ([] : Bs) (D.foldl addD 0) m)
              have hfb := Lib.hid (hfb2.out m)
              go_wp2_with ((go_at_call 71; (with_reducible refine (add48 _ WB.heap.size _ hfb.out.1 hfb.out.2 hbk5.out).mono ?_); rintro e w4 ⟨rfl, hbk4, hg4⟩; replace hbk4 := Lib.hid hbk4; replace hg4 := Lib.hid hg4))
              go_roundw
              case rel => exact ⟨m + 1, by omega, by go_num, by rw [hst.out]; exact hbk4.out, hgr5.out.trans hg4.out⟩
              case measure => simp [intOf]; omega
            · obtain rfl : m = 3 := by omega
              have cc := hbk5.out.cell
              have cf := hbk5.out.frozen
              have hB5 := Lib.hid (below_grow hB3.out hgr5.out hwb (by have := hB3.out.size; omega))
              have hfb := hfb2.out 3
              have hse := Lib.hid (loop3_end ([] : Bs) (D.foldl addD 0))
              go_wp2
              go_ret2
              refine ⟨?_, hB5.out.setCell (by simp; omega) _⟩
              have e : numAt s.data.toList 1 k 0 true = (- (loop3 ([] : Bs) (D.foldl addD 0) 3), 1 + k + 0) := by
                unfold numAt
                rw [if_neg (by have := hz.out; omega), hse.out, hDe.out]
                simp [sumP]
              rw [e]
              exact ret_num rfl (by omega)
  · have hbe' : digitsP (s.data.toList.drop ((1 + wh) + 1)) = be := by simpa using hbe.symm
    have hbd := digits_le (s.data.toList.drop ((1 + wh) + 1))
    rw [hbe', List.length_drop, ← Lib.size_eq] at hbd
    have hFD := take_digits (s.data.toList.drop ((1 + wh) + 1))
    rw [hbe'] at hFD
    replace hFD := Lib.hid hFD
    have hrs : (1 + wh) + 1 ≤ s.size := by have := hp_room hp'; rw [Lib.size_eq]; exact this
    clear hp'
    have c3 : ∀ w, Calls Tryd.prog 70 #[.string ((s.extract (1 + wh) s.size).extract 1 (s.size - (1 + wh)))] w fun e w' => e = .returned (.int .i64 (be : Int)) ∧ Below w.heap.size w w' := fun w => by
      have := digits_ct ((s.extract (1 + wh) s.size).extract 1 (s.size - (1 + wh))) (sub_len _ _ (sub_len _ _ HS.out)) w
      rw [show ((s.extract (1 + wh) s.size).extract 1 (s.size - (1 + wh))).data.toList = s.data.toList.drop ((1 + wh) + 1) by rw [Lib.extract_data, Lib.extract_to_end, List.drop_drop, List.take_of_length_le (by rw [List.length_drop, ← Lib.size_eq]; omega)], hbe'] at this
      exact this
    replace c3 := Lib.hid c3
    clear hbe hbe'
    by_cases hz : wh + be = 0
    · have hz' : ((wh : Int) + (be : Int) == 0) = true := by simp; omega
      have hzz : numAt s.data.toList 1 wh be true = (0, 0) := by simp [numAt, hz]
      rw [hzz]
      replace hz := Lib.hid hz
      replace hzz := Lib.hid hzz
      go_enter Tryd.func52, Tryd.ntmps52
      go_wp2_with (first | (go_at_call 70; (with_reducible refine (c1.out _).mono ?_); rintro e w1 ⟨rfl, hb1⟩) | (go_at_call 70; (with_reducible refine (c3.out _).mono ?_); rintro e w2 ⟨rfl, hb2⟩) | (go_at_call 39; refine (c2.out _).mono ?_; rintro e w2 ⟨rfl, rfl⟩))
      go_ret2
      exact ⟨rfl, hb1.trans (hb2.mono hb1.size)⟩
    · have hz' : ((wh : Int) + (be : Int) == 0) = false := by simp; omega
      replace hz := Lib.hid hz
      by_cases hb : be = 0
      · have hbi : (be : Int) ≤ 0 := by omega
        have hbn : decide (0 < be) = false := by simp; omega
        replace hb := Lib.hid hb
        go_enter Tryd.func52, Tryd.ntmps52
        go_wp2_with (first | (go_at_call 70; (with_reducible refine (c1.out _).mono ?_); rintro e w1 ⟨rfl, hb1'⟩) | (go_at_call 70; (with_reducible refine (c3.out _).mono ?_); rintro e WB ⟨rfl, hb2⟩) | (go_at_call 39; refine (c2.out _).mono ?_; rintro e w2 ⟨rfl, rfl⟩))
        have hb1 := hb1'.trans (hb2.mono hb1'.size)
        clear hb1' hb2
        obtain ⟨D, hDe⟩ : ∃ D, D = (s.data.toList.drop 1).take wh := ⟨_, rfl⟩
        have hDl : D.length = wh := by rw [hDe, List.length_take, List.length_drop, ← Lib.size_eq]; omega
        have hdig := hD.out
        rw [← hDe] at hdig
        have hdb := Lib.hid (fun k => fold_bd (D.take k) 0 (fun c hc => hdig c (List.mem_of_mem_take hc)) (by decide) (by decide))
        replace hdig := Lib.hid hdig
        obtain ⟨cp, W3, hcv, hb3, hz3, hby⟩ := bytes_of2 (s.extract 1 ((1 + wh))) (WB.alloc (.cells #[.int .i64 0] 3)) wh (WB.heap.size + 1) D (by simp; omega) (by simp) (by rw [hDe]; exact (take_extract s 1 wh))
        have hB3 := Lib.hid ((hb1.alloc hb1.size _).trans (hb3.mono (by have := hb1.size; omega)))
        have bk3 := Lib.hid (Blk.below (show Blk (WB.alloc (.cells #[.int .i64 0] 3)) WB.heap.size 3 #[.int .i64 0] from Blk.new rfl) hb3 (by omega))
        have hwb := hb1.size
        rw [hcv]
        simp only [Result.andThen]
        rw [Oper.upon_value]
        replace hby := Lib.hid hby
        replace hDe := Lib.hid hDe
        replace hDl := Lib.hid hDl
        clear hcv hb3 hb1
        go_wp2_with fail
        go_loopw [54] (fun j wr => ∃ k : Nat, k ≤ wh ∧ j = .int .i64 k ∧ Blk wr WB.heap.size 3 #[.int .i64 ((D.take k).foldl addD 0)] ∧ W3.grownBy wr (some WB.heap.size)) (fun j _ => wh - (intOf j).toNat)
        case atStart => exact ⟨0, by omega, rfl, bk3.out, World.grownBy.refl _ _⟩
        case round =>
          obtain ⟨k, hk, rfl, hbk, hgr⟩ := hrel
          by_cases hlt : k < wh
          · have hlt' : (k : Int) < (wh : Int) := by omega
            obtain ⟨c, hc⟩ : ∃ c, D[k]? = some c := ⟨D[k]'(by have := hDl.out; omega), List.getElem?_eq_getElem _⟩
            have hcell : wr.cell? ⟨WB.heap.size + 1, k, none⟩ = some (.int .u8 (nv c)) := (hgr.cell_far ⟨WB.heap.size + 1, k, none⟩ (by simp only; omega) (by simp)).trans (hby.out k c hc)
            have hst := Lib.hid (fold_take hc 0)
            have hcd := Lib.hid (hdig.out c (List.mem_of_getElem? hc))
            have hfb := Lib.hid (hdb.out k)
            have hg := Lib.hid hgr
            replace hbk := Lib.hid hbk
            clear hc hgr
            go_wp2_with ((go_at_call 71; (with_reducible refine (add_ct c _ WB.heap.size _ hcd.out hfb.out.1 hfb.out.2 hbk.out).mono ?_); rintro e w4 ⟨rfl, hbk4, hg4⟩; replace hbk4 := Lib.hid hbk4; replace hg4 := Lib.hid hg4))
            go_roundw
            case rel => exact ⟨k + 1, by omega, by go_num, by rw [hst.out]; exact hbk4.out, hg.out.trans hg4.out⟩
            case measure => simp [intOf]; omega
          · obtain rfl : k = wh := by omega
            have hfull : D.take k = D := List.take_of_length_le (by rw [hDl.out]; omega)
            rw [hfull] at hbk
            have hfb := hdb.out k
            rw [hfull] at hfb
            have hfb2 := Lib.hid (loop3_bd ([] : Bs) (D.foldl addD 0) (by simp) hfb.1 hfb.2)
            replace hbk := Lib.hid hbk
            replace hgr := Lib.hid hgr
            clear hfull hfb
            have hb0 : (0 : Int) ≤ 0 := by decide
            go_wp2_with fail
            go_loopw [79] (fun j wr => ∃ m : Nat, m ≤ 3 ∧ j = .int .i64 m ∧ Blk wr WB.heap.size 3 #[.int .i64 (loop3 ([] : Bs) (D.foldl addD 0) m)] ∧ W3.grownBy wr (some WB.heap.size)) (fun j _ => 3 - (intOf j).toNat)
            case atStart => exact ⟨0, by omega, rfl, hbk.out, hgr.out⟩
            case round =>
              obtain ⟨m, hm, rfl, hbk5, hgr5⟩ := hrel
              replace hbk5 := Lib.hid hbk5
              replace hgr5 := Lib.hid hgr5
              by_cases hlt : m < 3
              · have hlt' : (m : Int) < 3 := by omega
                have hst := Lib.hid (loop3_step ([] : Bs) (D.foldl addD 0) m)
                have hfb := Lib.hid (hfb2.out m)
                go_wp2_with ((go_at_call 71; (with_reducible refine (add48 _ WB.heap.size _ hfb.out.1 hfb.out.2 hbk5.out).mono ?_); rintro e w4 ⟨rfl, hbk4, hg4⟩; replace hbk4 := Lib.hid hbk4; replace hg4 := Lib.hid hg4))
                go_roundw
                case rel => exact ⟨m + 1, by omega, by go_num, by rw [hst.out]; exact hbk4.out, hgr5.out.trans hg4.out⟩
                case measure => simp [intOf]; omega
              · obtain rfl : m = 3 := by omega
                have cc := hbk5.out.cell
                have cf := hbk5.out.frozen
                have hB5 := Lib.hid (below_grow hB3.out hgr5.out hwb (by have := hB3.out.size; omega))
                have hfb := hfb2.out 3
                have hse := Lib.hid (loop3_end ([] : Bs) (D.foldl addD 0))
                go_wp2
                go_ret2
                refine ⟨?_, hB5.out.setCell (by simp; omega) _⟩
                have e : numAt s.data.toList 1 k be true = (- (loop3 ([] : Bs) (D.foldl addD 0) 3), 1 + k + 0) := by
                  unfold numAt
                  rw [if_neg hz.out, hse.out, hDe.out]
                  rw [if_pos hb.out]
                  simp [sumP, hb.out]
                rw [e]
                exact ret_num rfl (by omega)
      · have hbi : (0 : Int) < (be : Int) := by omega
        have hbn : decide (0 < be) = true := by simp; omega
        replace hb := Lib.hid hb
        go_enter Tryd.func52, Tryd.ntmps52
        go_wp2_with (first | (go_at_call 70; (with_reducible refine (c1.out _).mono ?_); rintro e w1 ⟨rfl, hb1'⟩) | (go_at_call 70; (with_reducible refine (c3.out _).mono ?_); rintro e WB ⟨rfl, hb2⟩) | (go_at_call 39; refine (c2.out _).mono ?_; rintro e w2 ⟨rfl, rfl⟩))
        have hb1 := hb1'.trans (hb2.mono hb1'.size)
        clear hb1' hb2
        obtain ⟨R, hR⟩ : ∃ R, R = (s.data.toList.drop ((1 + wh) + 1)).take be := ⟨_, rfl⟩
        have hRl : R.length = be := by rw [hR, List.length_take, List.length_drop, ← Lib.size_eq]; omega
        replace hR := Lib.hid hR
        replace hRl := Lib.hid hRl
        obtain ⟨D, hDe⟩ : ∃ D, D = (s.data.toList.drop 1).take wh := ⟨_, rfl⟩
        have hDl : D.length = wh := by rw [hDe, List.length_take, List.length_drop, ← Lib.size_eq]; omega
        have hdig := hD.out
        rw [← hDe] at hdig
        have hdb := Lib.hid (fun k => fold_bd (D.take k) 0 (fun c hc => hdig c (List.mem_of_mem_take hc)) (by decide) (by decide))
        replace hdig := Lib.hid hdig
        obtain ⟨cp, W3, hcv, hb3, hz3, hby⟩ := bytes_of2 (s.extract 1 ((1 + wh))) (WB.alloc (.cells #[.int .i64 0] 3)) wh (WB.heap.size + 1) D (by simp; omega) (by simp) (by rw [hDe]; exact (take_extract s 1 wh))
        have hB3 := Lib.hid ((hb1.alloc hb1.size _).trans (hb3.mono (by have := hb1.size; omega)))
        have bk3 := Lib.hid (Blk.below (show Blk (WB.alloc (.cells #[.int .i64 0] 3)) WB.heap.size 3 #[.int .i64 0] from Blk.new rfl) hb3 (by omega))
        have hwb := hb1.size
        rw [hcv]
        simp only [Result.andThen]
        rw [Oper.upon_value]
        replace hby := Lib.hid hby
        replace hDe := Lib.hid hDe
        replace hDl := Lib.hid hDl
        clear hcv hb3 hb1
        go_wp2_with fail
        go_loopw [54] (fun j wr => ∃ k : Nat, k ≤ wh ∧ j = .int .i64 k ∧ Blk wr WB.heap.size 3 #[.int .i64 ((D.take k).foldl addD 0)] ∧ W3.grownBy wr (some WB.heap.size)) (fun j _ => wh - (intOf j).toNat)
        case atStart => exact ⟨0, by omega, rfl, bk3.out, World.grownBy.refl _ _⟩
        case round =>
          obtain ⟨k, hk, rfl, hbk, hgr⟩ := hrel
          by_cases hlt : k < wh
          · have hlt' : (k : Int) < (wh : Int) := by omega
            obtain ⟨c, hc⟩ : ∃ c, D[k]? = some c := ⟨D[k]'(by have := hDl.out; omega), List.getElem?_eq_getElem _⟩
            have hcell : wr.cell? ⟨WB.heap.size + 1, k, none⟩ = some (.int .u8 (nv c)) := (hgr.cell_far ⟨WB.heap.size + 1, k, none⟩ (by simp only; omega) (by simp)).trans (hby.out k c hc)
            have hst := Lib.hid (fold_take hc 0)
            have hcd := Lib.hid (hdig.out c (List.mem_of_getElem? hc))
            have hfb := Lib.hid (hdb.out k)
            have hg := Lib.hid hgr
            replace hbk := Lib.hid hbk
            clear hc hgr
            go_wp2_with ((go_at_call 71; (with_reducible refine (add_ct c _ WB.heap.size _ hcd.out hfb.out.1 hfb.out.2 hbk.out).mono ?_); rintro e w4 ⟨rfl, hbk4, hg4⟩; replace hbk4 := Lib.hid hbk4; replace hg4 := Lib.hid hg4))
            go_roundw
            case rel => exact ⟨k + 1, by omega, by go_num, by rw [hst.out]; exact hbk4.out, hg.out.trans hg4.out⟩
            case measure => simp [intOf]; omega
          · obtain rfl : k = wh := by omega
            have hfull : D.take k = D := List.take_of_length_le (by rw [hDl.out]; omega)
            rw [hfull] at hbk
            have hfb := hdb.out k
            rw [hfull] at hfb
            have hfb2 := Lib.hid (loop3_bd R (D.foldl addD 0) (fun c hc => hFD.out c (by rw [← hR.out]; exact hc)) hfb.1 hfb.2)
            replace hbk := Lib.hid hbk
            replace hgr := Lib.hid hgr
            clear hfull hfb
            have hfr : (s.extract ((1 + k) + 1) ((1 + k) + 1 + be)).data.toList = R := by rw [take_extract]; exact hR.out.symm
            have hfz : (s.extract ((1 + k) + 1) ((1 + k) + 1 + be)).size = be := by rw [Lib.size_eq, hfr]; exact hRl.out
            replace hfr := Lib.hid hfr
            replace hfz := Lib.hid hfz
            go_wp2_with fail
            go_loopw [79] (fun j wr => ∃ m : Nat, m ≤ 3 ∧ j = .int .i64 m ∧ Blk wr WB.heap.size 3 #[.int .i64 (loop3 R (D.foldl addD 0) m)] ∧ W3.grownBy wr (some WB.heap.size)) (fun j _ => 3 - (intOf j).toNat)
            case atStart => exact ⟨0, by omega, rfl, hbk.out, hgr.out⟩
            case round =>
              obtain ⟨m, hm, rfl, hbk5, hgr5⟩ := hrel
              replace hbk5 := Lib.hid hbk5
              replace hgr5 := Lib.hid hgr5
              by_cases hlt : m < 3
              · have hlt' : (m : Int) < 3 := by omega
                have hst := Lib.hid (loop3_step R (D.foldl addD 0) m)
                have hfb := Lib.hid (hfb2.out m)
                by_cases hmb : m < be
                · have hmb' : (m : Int) < (be : Int) := by omega
                  have hmz : m < (s.extract ((1 + k) + 1) ((1 + k) + 1 + be)).size := by rw [hfz.out]; exact hmb
                  have hcR : R.getD m 48 = (s.extract ((1 + k) + 1) ((1 + k) + 1 + be))[m] := by
                    rw [← hfr.out]
                    exact getD_byte hmz 48
                  have hcd := Lib.hid (show digI (nv (s.extract ((1 + k) + 1) ((1 + k) + 1 + be))[m]) = true by rw [← hcR]; exact getD_dig (fun c hc => hFD.out c (by rw [← hR.out]; exact hc)) m)
                  rw [hcR] at hst
                  replace hcR := Lib.hid hcR
                  go_wp2_with ((go_at_call 71; (with_reducible refine (add_ct _ _ WB.heap.size _ hcd.out hfb.out.1 hfb.out.2 hbk5.out).mono ?_); rintro e w4 ⟨rfl, hbk4, hg4⟩; replace hbk4 := Lib.hid hbk4; replace hg4 := Lib.hid hg4))
                  go_roundw
                  case rel => exact ⟨m + 1, by omega, by go_num, by rw [hst.out]; exact hbk4.out, hgr5.out.trans hg4.out⟩
                  case measure => simp [intOf]; omega
                · have hmb' : (be : Int) ≤ (m : Int) := by omega
                  have hge : R.getD m 48 = 48 := by rw [List.getD_eq_getElem?_getD, List.getElem?_eq_none (by rw [hRl.out]; omega)]; rfl
                  rw [hge] at hst
                  replace hge := Lib.hid hge
                  go_wp2_with ((go_at_call 71; (with_reducible refine (add48 _ WB.heap.size _ hfb.out.1 hfb.out.2 hbk5.out).mono ?_); rintro e w4 ⟨rfl, hbk4, hg4⟩; replace hbk4 := Lib.hid hbk4; replace hg4 := Lib.hid hg4))
                  go_roundw
                  case rel => exact ⟨m + 1, by omega, by go_num, by rw [hst.out]; exact hbk4.out, hgr5.out.trans hg4.out⟩
                  case measure => simp [intOf]; omega
              · obtain rfl : m = 3 := by omega
                have cc := hbk5.out.cell
                have cf := hbk5.out.frozen
                have hB5 := Lib.hid (below_grow hB3.out hgr5.out hwb (by have := hB3.out.size; omega))
                have hfb := hfb2.out 3
                have hse := Lib.hid (loop3_end R (D.foldl addD 0))
                go_wp2
                go_ret2
                refine ⟨?_, hB5.out.setCell (by simp; omega) _⟩
                have e : numAt s.data.toList 1 k be true = (- (loop3 R (D.foldl addD 0) 3), 1 + k + (1 + be)) := by
                  unfold numAt
                  rw [if_neg hz.out, hse.out, hDe.out]
                  rw [if_neg hb.out]
                  simp [sumP, hR.out]
                rw [e]
                exact ret_num rfl (by omega)

end Go.Proofs.YtmjbaimccbkmpaaDoor.tok

namespace Go.Proofs.YtmjbaimccbkmpaaDoor.tok
open Go.RowKit Go.Proofs.YtmjbaimccbkmpaaDoor.base
set_option linter.unusedVariables false

set_option maxRecDepth 100000 in
set_option maxHeartbeats 2000000 in
theorem number_empty (s : ByteArray) (h0 : s.size = 0) (w : World) :
    Calls Tryd.prog 52 #[.string s] w fun e w' => e = .returned (.tuple #[.int .i64 0, .int .i64 0]) ∧ Below w.heap.size w w' := by
  obtain ⟨⟨l⟩⟩ := s
  have hl : l = [] := List.eq_nil_of_length_eq_zero h0
  subst hl
  have c1 : ∀ w, Calls Tryd.prog 70 #[.string ⟨#[]⟩] w fun e w' => e = .returned (.int .i64 0) ∧ Below w.heap.size w w' := fun w => digits_ct (⟨#[]⟩ : ByteArray) (show 0 ≤ maxLen from Nat.zero_le _) w
  have c2 : ∀ w, Calls Tryd.prog 39 #[.string ⟨#[]⟩, .string ⟨#[46]⟩] w fun e w' => e = .returned (.bool false) ∧ w = w' := fun w => (Tryd.strings_HasPrefix (⟨#[]⟩ : ByteArray) (bs [46]) w).mono fun e w' ⟨h1, h2⟩ => ⟨h1, h2.symm⟩
  replace c1 := Lib.hid c1
  replace c2 := Lib.hid c2
  clear h0
  go_enter Tryd.func52, Tryd.ntmps52
  go_wp2_with (first | (go_at_call 70; refine (c1.out _).mono ?_; rintro e w1 ⟨rfl, hb1⟩) | (go_at_call 39; refine (c2.out _).mono ?_; rintro e w2 ⟨rfl, rfl⟩))
  go_ret2
  exact ⟨rfl, hb1⟩

theorem sign_of {s : ByteArray} (h0 : 0 < s.size) : signAt s.data.toList = (if nv s[0] = 43 ∨ nv s[0] = 45 then 1 else 0) ∧ negP s.data.toList = decide (nv s[0] = 45) := by
  obtain ⟨⟨l⟩⟩ := s
  match l, h0 with
  | a :: r, _ => exact ⟨rfl, rfl⟩
theorem behind_of (l : Bs) (k : Nat) : behindP (l.drop k) = if Lib.hasPrefix (l.drop k) [46] then digitsP (l.drop (k + 1)) else 0 := by
  rw [Nat.add_comm, ← List.drop_drop, List.drop_drop]
  rcases h : l.drop k with _ | ⟨c, t⟩
  · rfl
  · have ht : l.drop (k + 1) = t := by
      have := congrArg (List.drop 1) h
      rw [List.drop_drop] at this
      simpa using this
    rw [Nat.add_comm, ht]
    by_cases hc : nv c = 46
    · have : c = 46 := by
        apply UInt8.toNat_inj.1
        simp only [nv] at hc
        have : (46 : UInt8).toNat = 46 := rfl
        omega
      subst this
      rfl
    · have : ¬ c = 46 := fun e => hc (by rw [e]; rfl)
      simp [behindP, Lib.hasPrefix, hc, List.isPrefixOf, Ne.symm this]

theorem number_ct (s : ByteArray) (hs : s.size ≤ 140737488355328) (w : World) :
    Calls Tryd.prog 52 #[.string s] w fun e w' => e = .returned (.tuple #[.int .i64 (numberP s.data.toList).1, .int .i64 ((numberP s.data.toList).2 : Int)]) ∧ Below w.heap.size w w' := by
  rcases Nat.eq_zero_or_pos s.size with h0 | h0
  · have hn : numberP s.data.toList = (0, 0) := by
      obtain ⟨⟨l⟩⟩ := s
      have hl : l = [] := List.eq_nil_of_length_eq_zero h0
      subst hl
      rfl
    rw [hn]
    exact number_empty s h0 w
  · obtain ⟨h1, h2⟩ := sign_of h0
    unfold numberP
    rw [h1, h2]
    by_cases a : nv s[0] = 43
    · rw [if_pos (Or.inl a), decide_eq_false (by omega : ¬ nv s[0] = 45)]
      exact number_plus s hs h0 (by simpa using a) (by simp only [nv] at a; simp; omega) _ _ _ rfl rfl (behind_of _ _) w
    · by_cases b : nv s[0] = 45
      · rw [if_pos (Or.inr b), decide_eq_true b]
        exact number_minus s hs h0 (by simpa using a) (by simpa using b) _ _ _ rfl rfl (behind_of _ _) w
      · rw [if_neg (by omega), decide_eq_false b]
        refine (number_none s hs h0 (by simpa using a) (by simpa using b) _ _ _ rfl rfl ?_ w)
        have := behind_of s.data.toList (0 + digitsP (s.data.toList.drop 0))
        rw [Nat.zero_add] at this
        rw [Nat.zero_add]
        exact this

end Go.Proofs.YtmjbaimccbkmpaaDoor.tok

namespace Go.Proofs.YtmjbaimccbkmpaaDoor.tok
open Go.RowKit Go.Proofs.YtmjbaimccbkmpaaDoor.base
set_option linter.unusedVariables false

/-- a great letter made small -/
def lowB (c : UInt8) : UInt8 := if 65 ≤ nv c ∧ nv c ≤ 90 then UInt8.ofNat (c.toNat + 32) else c
theorem lowB_great {c : UInt8} (h : 65 ≤ nv c ∧ nv c ≤ 90) : nv (lowB c) = nv c + 32 := by
  unfold lowB
  rw [if_pos h]
  simp only [nv] at h ⊢
  rw [UInt8.toNat_ofNat']
  omega
theorem lowB_other {c : UInt8} (h : ¬ (65 ≤ nv c ∧ nv c ≤ 90)) : lowB c = c := by unfold lowB; rw [if_neg h]
def lowAt (l : Bs) (k : Nat) : Bs := (l.take k).map lowB ++ l.drop k
theorem lowAt_len (l : Bs) (k : Nat) : (lowAt l k).length = l.length := by simp [lowAt]; omega
theorem lowAt_end (l : Bs) : lowAt l l.length = l.map lowB := by simp [lowAt]
theorem lowAt_get {l : Bs} {k : Nat} {c : UInt8} (h : l[k]? = some c) : (lowAt l k)[k]? = some c := by
  obtain ⟨h1, h2⟩ := List.getElem?_eq_some_iff.1 h
  unfold lowAt
  rw [List.getElem?_append_right (by simp; omega)]
  simp
  rw [Nat.min_eq_left (by omega)]
  simpa using h
theorem lowAt_step {l : Bs} {k : Nat} {c : UInt8} (h : l[k]? = some c) : lowAt l (k + 1) = (lowAt l k).set k (lowB c) := by
  obtain ⟨h1, h2⟩ := List.getElem?_eq_some_iff.1 h
  unfold lowAt
  rw [List.take_succ_eq_append_getElem h1, List.map_append, h2, List.drop_eq_getElem_cons h1, h2]
  rw [List.set_append_right _ _ (by simp; omega)]
  simp
  rw [Nat.min_eq_left (by omega)]
  simp

theorem set_same {l : Bs} {k : Nat} {c : UInt8} (h : l[k]? = some c) : l.set k c = l := by
  apply List.ext_getElem?
  intro j
  rw [List.getElem?_set]
  by_cases hj : k = j
  · subst hj
    have := (List.getElem?_eq_some_iff.1 h).1
    rw [if_pos rfl, if_pos this, h]
  · rw [if_neg hj]

/-- bytes in memory -/
def BytesAt (w : World) (b : Nat) (l : Bs) : Prop := (∀ (j : Nat) (u : UInt8), l[j]? = some u → w.cell? ⟨b, j, none⟩ = some (.int .u8 (nv u))) ∧ ∀ j, j < l.length → w.frozen? ⟨b, j, none⟩ = false
theorem BytesAt.put {w : World} {b k : Nat} {l : Bs} {u : UInt8} {x : Int} (h : BytesAt w b l) (hk : k < l.length) (hx : x = nv u) : BytesAt (w.setCell ⟨b, k, none⟩ (.int .u8 x)) b (l.set k u) := by
  subst hx
  refine ⟨fun j v hv => ?_, fun j hj => ?_⟩
  · rw [List.getElem?_set] at hv
    by_cases hj : k = j
    · subst hj
      rw [if_pos rfl, if_pos hk] at hv
      obtain rfl := Option.some.inj hv
      have hc := h.1 k l[k] (List.getElem?_eq_getElem hk)
      exact World.cell?_setCell_same' w ⟨b, k, none⟩ _ (by rw [hc]; rfl)
    · rw [if_neg hj] at hv
      rw [World.cell?_setCell_other w ⟨b, k, none⟩ ⟨b, j, none⟩ _ (by intro e; injection e with _ e2 _; exact hj e2)]
      exact h.1 j v hv
  · have := h.2 j (by simpa using hj)
    simpa using this

set_option maxRecDepth 100000 in
set_option maxHeartbeats 2000000 in
theorem lower_ct (s : ByteArray) (hs : s.size ≤ 140737488355328) (w : World) : Calls Tryd.prog 72 #[.string s] w fun e w' => e = .returned (.string (bs (s.data.toList.map lowB))) ∧ Below w.heap.size w w' := by
  have hz := Lib.hid (Lib.size_eq s)
  go_enter Tryd.func72, Tryd.ntmps72
  go_wp2_with fail
  obtain ⟨cp, W1, hcv, hb1, hz1, hby, hfy⟩ := bytes_of s w
  rw [hcv]
  simp only [Result.andThen]
  rw [Oper.upon_value]
  have hB0 := Lib.hid (show BytesAt W1 w.heap.size s.data.toList from ⟨hby, fun j hj => hfy j (by rw [hz.out]; exact hj)⟩)
  replace hb1 := Lib.hid hb1
  clear hcv hby hfy
  go_wp2_with fail
  go_loopw [10] (fun i wr => ∃ k : Nat, k ≤ s.size ∧ i = .int .i64 k ∧ BytesAt wr w.heap.size (lowAt s.data.toList k) ∧ W1.grownBy wr (some w.heap.size)) (fun i _ => s.size - (intOf i).toNat)
  case atStart => exact ⟨0, by omega, rfl, by simpa [lowAt] using hB0.out, World.grownBy.refl _ _⟩
  case round =>
    obtain ⟨k, hk, rfl, hby, hgr⟩ := hrel
    replace hgr := Lib.hid hgr
    by_cases hlt : k < s.size
    · have hlt' : (k : Int) < (s.size : Int) := by omega
      obtain ⟨c, hc⟩ : ∃ c, s.data.toList[k]? = some c := ⟨s.data.toList[k]'(by rw [← Lib.size_eq]; exact hlt), List.getElem?_eq_getElem _⟩
      have hkl : k < (lowAt s.data.toList k).length := by rw [lowAt_len, ← Lib.size_eq]; exact hlt
      have hcell := hby.1 k c (lowAt_get hc)
      have hfr := hby.2 k hkl
      have hst := Lib.hid (lowAt_step hc)
      have hsm := Lib.hid (set_same (lowAt_get hc))
      have hby' := Lib.hid hby
      have c0 := nv_nn c
      have c1 := nv_lt c
      clear hc hby
      by_cases h1 : 65 ≤ nv c
      · by_cases h2 : nv c ≤ 90
        · have hlo := Lib.hid (lowB_great ⟨h1, h2⟩)
          generalize hx : nv c = x at *
          replace hx := Lib.hid hx
          go_wp2_with fail
          go_roundw
          case rel =>
            refine ⟨k + 1, by omega, by go_num, ?_, hgr.out.trans (grown_set _ _ _ _)⟩
            rw [hst.out]
            exact hby'.out.put hkl hlo.out.symm
          case measure => simp [intOf]; omega
        · have hlo := Lib.hid (lowB_other (c := c) (fun h => h2 h.2))
          generalize hx : nv c = x at *
          replace hx := Lib.hid hx
          go_wp2_with fail
          go_roundw
          case rel => exact ⟨k + 1, by omega, by go_num, by rw [hst.out, hlo.out, hsm.out]; exact hby'.out, hgr.out⟩
          case measure => simp [intOf]; omega
      · have hlo := Lib.hid (lowB_other (c := c) (fun h => h1 h.1))
        generalize hx : nv c = x at *
        replace hx := Lib.hid hx
        go_wp2_with fail
        go_roundw
        case rel => exact ⟨k + 1, by omega, by go_num, by rw [hst.out, hlo.out, hsm.out]; exact hby'.out, hgr.out⟩
        case measure => simp [intOf]; omega
    · obtain rfl : k = s.size := by omega
      have hfin : lowAt s.data.toList s.size = s.data.toList.map lowB := by rw [Lib.size_eq]; exact lowAt_end _
      have hln : (s.data.toList.map lowB).length = s.size := by rw [List.length_map, Lib.size_eq]
      have hcv : ∀ cap, (convert 34 9 (.slice (some ⟨w.heap.size, 0, none⟩) s.size cap)).run Tryd.prog wr = .ok (.string (bs (s.data.toList.map lowB))) wr := fun cap => by
        have := run_convert_bytes_back wr 34 9 5 ⟨w.heap.size, 0, none⟩ cap (s.data.toList.map lowB) Tryd.underlying34 Tryd.underlying5 Tryd.underlying9 (fun j hj => by
          rw [add_zero_block]
          have hb2 := hby.1
          rw [hfin] at hb2
          exact hb2 j _ (List.getElem?_eq_getElem hj))
        rw [hln] at this
        exact this
      have hB := Lib.hid (below_grow hb1.out hgr.out (Nat.le_refl _) (by have := hb1.out.size; omega))
      clear hby hfin hln
      go_wp2
      go_ret
      exact ⟨rfl, hB.out⟩

end Go.Proofs.YtmjbaimccbkmpaaDoor.tok

namespace Go.Proofs.YtmjbaimccbkmpaaDoor.tok
open Go.RowKit Go.Proofs.YtmjbaimccbkmpaaDoor.base
set_option linter.unusedVariables false

/-- a token -/
structure Tk where
  k : Int
  raw : Bs
  val : Bs
  num : Int
deriving DecidableEq

abbrev Tk.cells (t : Tk) : Array Value := #[.int .i64 t.k, .string (bs t.raw), .string (bs t.val), .int .i64 t.num]

/-- a name, behind so many bytes -/
def namedP (k : Int) (l : Bs) (a : Nat) : Tk := ⟨k, l.take (a + (nameP (l.drop a)).2), (nameP (l.drop a)).1, 0⟩

theorem nameP_le : ∀ (n : Nat) (l : Bs), l.length ≤ n → (nameP l).2 ≤ l.length
  | 0, l, h => by
    obtain rfl := List.eq_nil_of_length_eq_zero (Nat.le_zero.1 h)
    simp [nameP]
  | n + 1, [], h => by simp [nameP]
  | n + 1, [c], h => by
    rw [nameP]
    split <;> simp
  | n + 1, c :: d :: r, h => by
    rw [nameP]
    split
    · have := nameP_le n r (by simp at h; omega)
      simp; omega
    · split
      · have := nameP_le n (d :: r) (by simp at h ⊢; omega)
        simp at this ⊢; omega
      · simp

theorem nameP_val (l : Bs) : (nameP l).1.length ≤ l.length := by
  have h : ∀ (n : Nat) (l : Bs), l.length ≤ n → (nameP l).1.length ≤ l.length := by
    intro n
    induction n with
    | zero =>
      intro l h
      obtain rfl := List.eq_nil_of_length_eq_zero (Nat.le_zero.1 h)
      simp [nameP]
    | succ n ih =>
      intro l h
      match l, h with
      | [], _ => simp [nameP]
      | [c], _ =>
        rw [nameP]
        split <;> simp
      | c :: d :: r, h =>
        rw [nameP]
        split
        · have := ih r (by simp at h; omega)
          simp; omega
        · split
          · have := ih (d :: r) (by simp at h ⊢; omega)
            simp at this ⊢; omega
          · simp
  exact h _ l (Nat.le_refl _)

theorem Blk.four {w : World} {k : Nat} {t : TypeId} {a b c d : Value} (h : Blk w k t #[a, b, c, d]) (a' b' c' d' : Value) : Blk ((((w.setCell ⟨k, 0, none⟩ a').setCell ⟨k, 1, none⟩ b').setCell ⟨k, 2, none⟩ c').setCell ⟨k, 3, none⟩ d') k t #[a', b', c', d'] := (((h.put 0 a').put 1 b').put 2 c').put 3 d'

theorem hp_roomc {l : Bs} {k : Nat} {c : UInt8} (h : Lib.hasPrefix (l.drop k) [c] = true) : k + 1 ≤ l.length := by
  rcases Nat.lt_or_ge k l.length with h1 | h1
  · omega
  · rw [List.drop_eq_nil_of_le h1] at h
    simp [Lib.hasPrefix] at h

theorem take_ex (s : ByteArray) (n : Nat) : s.extract 0 n = bs (s.data.toList.take n) := by
  rw [Lib.extract_eq]
  simp [bs]

theorem ret_tok {k k' : Int} {r r' v v' : ByteArray} {n n' : Int} (h1 : k = k') (h2 : r = r') (h3 : v = v') (h4 : n = n') : Ending.returned (.agg #[.int .i64 k, .string r, .string v, .int .i64 n]) = Ending.returned (.agg #[.int .i64 k', .string r', .string v', .int .i64 n']) := by rw [h1, h2, h3, h4]

set_option maxRecDepth 100000 in
set_option maxHeartbeats 2000000 in
theorem named_ct (k : Int) (s : ByteArray) (a : Nat) (hs : s.size ≤ 140737488355328) (ha : a ≤ s.size) (w : World) : Calls Tryd.prog 50 #[.int .i64 k, .string s, .int .i64 (a : Int)] w fun e w' => e = .returned (.agg (namedP k s.data.toList a).cells) ∧ Below w.heap.size w w' := by
  have hsub : (s.extract a s.size).size ≤ 140737488355328 := by simp only [ByteArray.size_extract]; omega
  have c1 := fun w => name_ct (s.extract a s.size) hsub w
  rw [Lib.extract_to_end] at c1
  have hle := nameP_le _ (s.data.toList.drop a) (Nat.le_refl _)
  rw [List.length_drop, ← Lib.size_eq] at hle
  have hP : namedP k s.data.toList a = ⟨k, s.data.toList.take (a + (nameP (s.data.toList.drop a)).2), (nameP (s.data.toList.drop a)).1, 0⟩ := rfl
  generalize hNP : namedP k s.data.toList a = NP at *
  generalize nameP (s.data.toList.drop a) = V at *
  replace c1 := Lib.hid c1
  replace hP := Lib.hid hP
  clear hNP
  obtain ⟨V1, V2⟩ := V
  simp only at hle
  go_enter Tryd.func50, Tryd.ntmps50
  go_wp2_with ((go_at_call 69; (with_reducible refine (c1.out _).mono ?_); rintro e w1 ⟨rfl, hb1⟩; have rb := Lib.hid (Blk.below (show Blk (w.alloc (.cells #[.int .i64 0, .string ⟨#[]⟩, .string ⟨#[]⟩, .int .i64 0] 43)) w.heap.size 43 #[.int .i64 0, .string ⟨#[]⟩, .string ⟨#[]⟩, .int .i64 0] from Blk.new rfl) hb1 (by simp)); have rc := rb.out.cell; have rf := rb.out.frozen; have hB := Lib.hid (((Below.refl w.heap.size w).alloc (Nat.le_refl _) _).trans (hb1.mono (by simp))); clear hb1))
  have e := (Blk.four rb.out (.int .i64 k) (.string (s.extract 0 (a + V2))) (.string (bs V1)) (.int .i64 0)).cell
  refine bodyPost_ret (v := .agg #[.int .i64 k, .string (s.extract 0 (a + V2)), .string (bs V1), .int .i64 0]) (by simp [results, Tryd.results50, go_sem, e]) rfl ⟨?_, ?_⟩
  · rw [hP.out]
    exact ret_tok rfl (take_ex _ _) rfl rfl
  · exact (((hB.out.setCell (by simp) _).setCell (by simp) _).setCell (by simp) _).setCell (by simp) _

/-- a number's token, with its unit -/
def numTkP (l : Bs) (num : Int) (n : Nat) : Tk :=
  if Lib.hasPrefix (l.drop n) [37] then ⟨7, l.take (n + 1), [37], num⟩
  else if beginsP (l.drop n) then ⟨7, l.take (n + (nameP (l.drop n)).2), (nameP (l.drop n)).1.map lowB, num⟩
  else ⟨7, l.take n, [], num⟩

set_option maxRecDepth 100000 in
set_option maxHeartbeats 4000000 in
theorem number_tk (s : ByteArray) (num : Int) (n : Nat) (hs : s.size ≤ 140737488355328) (hn : n ≤ s.size) (w : World) : Calls Tryd.prog 53 #[.string s, .int .i64 num, .int .i64 (n : Int)] w fun e w' => e = .returned (.agg (numTkP s.data.toList num n).cells) ∧ Below w.heap.size w w' := by
  have hsub : (s.extract n s.size).size ≤ 140737488355328 := by simp only [ByteArray.size_extract]; omega
  have c1 := fun w => name_ct (s.extract n s.size) hsub w
  rw [Lib.extract_to_end] at c1
  have c2 := fun w => begins_ct (s.extract n s.size) (by unfold maxLen; omega) w
  rw [Lib.extract_to_end] at c2
  have c3 : ∀ w, Calls Tryd.prog 39 #[.string (s.extract n s.size), .string ⟨#[37]⟩] w fun e w' => e = .returned (.bool (Lib.hasPrefix (s.data.toList.drop n) [37])) ∧ w = w' := fun w => by
    have := Tryd.strings_HasPrefix (s.extract n s.size) (bs [37]) w
    rw [Lib.extract_to_end] at this
    exact this.mono fun e w' ⟨h1, h2⟩ => ⟨h1, h2.symm⟩
  have hle := nameP_le _ (s.data.toList.drop n) (Nat.le_refl _)
  rw [List.length_drop, ← Lib.size_eq] at hle
  have hnl := Nat.le_refl (nameP (s.data.toList.drop n)).1.length
  have hP : numTkP s.data.toList num n = if Lib.hasPrefix (s.data.toList.drop n) [37] then ⟨7, s.data.toList.take (n + 1), [37], num⟩
  else if beginsP (s.data.toList.drop n) then ⟨7, s.data.toList.take (n + (nameP (s.data.toList.drop n)).2), (nameP (s.data.toList.drop n)).1.map lowB, num⟩
  else ⟨7, s.data.toList.take n, [], num⟩ := rfl
  generalize hNP : numTkP s.data.toList num n = NP at *
  generalize hpp : Lib.hasPrefix (s.data.toList.drop n) [37] = pp at *
  generalize beginsP (s.data.toList.drop n) = bb at *
  have hnv := nameP_val (s.data.toList.drop n)
  generalize nameP (s.data.toList.drop n) = V at *
  obtain ⟨V1, V2⟩ := V
  simp only at hle hP hnv
  have hVs : (bs V1).size ≤ 140737488355328 := by
    rw [List.length_drop, ← Lib.size_eq] at hnv
    show V1.length ≤ _
    omega
  have c4 : ∀ w, Calls Tryd.prog 72 #[.string (bs V1)] w fun e w' => e = .returned (.string (bs (V1.map lowB))) ∧ Below w.heap.size w w' := fun w => lower_ct (bs V1) hVs w
  replace c4 := Lib.hid c4
  replace c1 := Lib.hid c1
  replace c2 := Lib.hid c2
  replace c3 := Lib.hid c3
  clear hNP hnl hnv
  cases pp
  · replace hpp := Lib.hid hpp
    cases bb
    · replace hP := Lib.hid hP
      go_enter Tryd.func53, Tryd.ntmps53
      go_wp2_with (first | (go_at_call 39; (with_reducible refine (c3.out _).mono ?_); rintro e w1 ⟨rfl, rfl⟩) | (go_at_call 51; (with_reducible refine (c2.out _).mono ?_); rintro e w1 ⟨rfl, rfl⟩))
      refine bodyPost_ret (v := .agg #[.int .i64 7, .string (s.extract 0 n), .string ⟨#[]⟩, .int .i64 num]) (by simp [results, Tryd.results53, go_sem]) rfl ⟨?_, ((Below.refl _ _).alloc (Nat.le_refl _) _).alloc (by simp) _⟩
      rw [hP.out]
      exact ret_tok rfl (take_ex _ _) rfl rfl
    · replace hP := Lib.hid hP
      go_enter Tryd.func53, Tryd.ntmps53
      go_wp2_with (first | (go_at_call 39; (with_reducible refine (c3.out _).mono ?_); rintro e w1 ⟨rfl, rfl⟩) | (go_at_call 51; (with_reducible refine (c2.out _).mono ?_); rintro e w1 ⟨rfl, rfl⟩) | (go_at_call 69; (with_reducible refine (c1.out _).mono ?_); rintro e W1 ⟨rfl, hb1⟩))
      have rb0 := Lib.hid (Blk.below (show Blk ((w.alloc (.cells #[.int .i64 0, .string ⟨#[]⟩, .string ⟨#[]⟩, .int .i64 0] 43)).alloc (.cells #[.int .i64 7, .string (s.extract 0 n), .string ⟨#[]⟩, .int .i64 num] 43)) w.heap.size 43 #[.int .i64 0, .string ⟨#[]⟩, .string ⟨#[]⟩, .int .i64 0] from (Blk.new rfl).alloc _) hb1 (by simp; omega))
      have rb1 := Lib.hid (Blk.below (show Blk ((w.alloc (.cells #[.int .i64 0, .string ⟨#[]⟩, .string ⟨#[]⟩, .int .i64 0] 43)).alloc (.cells #[.int .i64 7, .string (s.extract 0 n), .string ⟨#[]⟩, .int .i64 num] 43)) (w.heap.size + 1) 43 #[.int .i64 7, .string (s.extract 0 n), .string ⟨#[]⟩, .int .i64 num] from Blk.new (by simp)) hb1 (by simp))
      have hB1 := Lib.hid ((((Below.refl w.heap.size w).alloc (Nat.le_refl _) _).alloc (by simp) _).trans (hb1.mono (by simp; omega)))
      have hz1 := hb1.size
      simp at hz1
      clear hb1
      have hnk : n + V2 ≤ s.size := by omega
      have hnk1 : (n : Int) + (V2 : Int) ≤ (s.size : Int) := by omega
      have hnk2 : (0 : Int) ≤ (n : Int) + (V2 : Int) := by omega
      have hwr := IntWalk.i64_in ((n : Int) + (V2 : Int)) (by omega)
      have htn : ((n : Int) + (V2 : Int)).toNat = n + V2 := by omega
      go_region_held3 (fun w' => True) (trivial)
        ((go_at_call 72; (with_reducible refine (c4.out _).mono ?_); rintro e W2 ⟨rfl, hb2⟩; have rb2 := Lib.hid (Blk.below rb0.out.drew hb2 (by simp; omega)); have rb3 := Lib.hid (Blk.below rb1.out.drew hb2 (by simp; omega)); have hB2 := Lib.hid (hB1.out.drew.trans (hb2.mono (by simp; omega))); have rc := rb3.out.cell; have rf := rb3.out.frozen; clear hb2))
      all_goals
        have rc0 := rb2.out.cell
        have rf0 := rb2.out.frozen
        have z2 := rb3.out.lt
        go_wp2
        have e := Blk.cell (Blk.four (Blk.far (Blk.far rb2.out (p := ⟨w.heap.size + 1, 1, none⟩) (by simp) (.string (s.extract 0 (n + V2)))) (p := ⟨w.heap.size + 1, 2, none⟩) (by simp) (.string (bs (V1.map lowB)))) (.int .i64 7) (.string (s.extract 0 (n + V2))) (.string (bs (V1.map lowB))) (.int .i64 num))
        refine bodyPost_ret (v := .agg #[.int .i64 7, .string (s.extract 0 (n + V2)), .string (bs (V1.map lowB)), .int .i64 num]) (by simp [results, Tryd.results53, go_sem, e]) rfl ⟨?_, ?_⟩
        · rw [hP.out]
          exact ret_tok rfl (take_ex _ _) rfl rfl
        · exact (((((hB2.out.setCell (by simp) _).setCell (by simp) _).setCell (by simp) _).setCell (by simp) _).setCell (by simp) _).setCell (by simp) _
  · have hr := hp_roomc hpp
    rw [← Lib.size_eq] at hr
    replace hP := Lib.hid hP
    replace hpp := Lib.hid hpp
    go_enter Tryd.func53, Tryd.ntmps53
    go_wp2_with ((go_at_call 39; (with_reducible refine (c3.out _).mono ?_); rintro e w1 ⟨rfl, rfl⟩))
    refine bodyPost_ret (v := .agg #[.int .i64 7, .string (s.extract 0 (n + 1)), .string ⟨#[37]⟩, .int .i64 num]) (by simp [results, Tryd.results53, go_sem]) rfl ⟨?_, ((Below.refl _ _).alloc (Nat.le_refl _) _).alloc (by simp) _⟩
    rw [hP.out]
    exact ret_tok rfl (take_ex _ _) rfl rfl

end Go.Proofs.YtmjbaimccbkmpaaDoor.tok
