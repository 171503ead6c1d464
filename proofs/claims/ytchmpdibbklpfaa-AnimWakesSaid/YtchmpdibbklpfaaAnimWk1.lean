/- Contracts: Wake. -/
import Derived.Test.YtchmpdibbklpfaaAnimWk0
namespace Go.Proofs.Ytchmpdibbklpfaa.anim.wakes
open Go.RowKit Go.Proofs.Ytchmpdibbklpfaa.base
set_option linter.unusedVariables false

set_option maxRecDepth 100000 in
set_option maxHeartbeats 4000000 in
theorem wake_ct (A : Option Addr) (n cap : Nat) (L : List AnimD) (now : Int) (w : World) (hn : n ≤ maxLen) (hL : LRd w w.heap.size A n L) :
    Calls Try.prog 21 #[.slice A n cap, .int .i64 now] w fun e w' => (∃ wh is, e = .returned (.tuple #[.int .i64 wh, .bool is, .int .i64 (rightE L now)]) ∧ Woke L now wh is) ∧ Below w.heap.size w w' := by
  have HL := Lib.hid hL
  have hlen := Lib.hid hL.1
  have HN := Lib.hid hn
  clear hL
  unfold maxLen at hn
  go_enter Try.func21, Try.ntmps21
  go_wp2_with fail
  refine (right_ct A n cap L now _ HN.out HL.out).mono ?_
  rintro e W1 ⟨rfl, hb⟩
  have HB1 := Lib.hid hb
  clear hb
  by_cases hr : rightE L now = 0
  · obtain ⟨r1, r2, r3, r4⟩ := right_ok hr
    have R2 := Lib.hid r2
    have hr' : (rightE L now != 0) = false := by simp [hr]
    have HR := Lib.hid hr
    clear r2 hr
    go_wp2_with fail
    go_loopw [8, 9, 22] (fun a b i wr => ∃ (k : Nat) (wh : Int) (is : Bool), k ≤ n ∧ a = .int .i64 wh ∧ b = .bool is ∧ i = .int .i64 k ∧ Outer L k now wh is ∧ Below w.heap.size w wr) (fun _ _ i _ => n - (intOf i).toNat)
    case atStart => exact ⟨0, 0, false, by omega, rfl, rfl, rfl, ⟨fun h => (by cases h), fun e he => (by simp at he)⟩, HB1.out⟩
    case round =>
      obtain ⟨k, wh, is, hk, rfl, rfl, rfl, hout, hbel⟩ := hrel
      obtain ⟨WO, hWO⟩ : ∃ WO, WO = wr := ⟨_, rfl⟩
      subst hWO
      replace hout := Lib.hid hout
      by_cases hlt : k < n
      · obtain ⟨b, off, d, rfl, hb, hd, hrd, e0, e1, e2, e3, e4, e5, e6, e7, e8, e9, e10, e11⟩ := (HL.out.keep hbel hbel.size).at_ hlt
        have hok := Lib.hid (okA (R2.out k d hd))
        replace hd := Lib.hid hd
        have HBel := Lib.hid hbel
        clear hbel hrd
        have i1 : (k : Int) < (n : Int) := by omega
        go_wp2_with fail
        generalize hV : WO.alloc (.cells #[.int .i64 d.from_, .int .i64 d.len, .int .i64 d.times, .bool d.turn, .bool d.stays, .int .i64 d.kind, .int .i64 d.c0, .int .i64 d.c1, .int .i64 d.c2, .int .i64 d.c3, .int .i64 d.n, .slice d.fA d.fl d.fc] 50) = V
        have HV := Lib.hid (show Below w.heap.size w V by subst hV; exact HBel.out.alloc HBel.out.size _)
        have cV := (show Blk V WO.heap.size 50 #[.int .i64 d.from_, .int .i64 d.len, .int .i64 d.times, .bool d.turn, .bool d.stays, .int .i64 d.kind, .int .i64 d.c0, .int .i64 d.c1, .int .i64 d.c2, .int .i64 d.c3, .int .i64 d.n, .slice d.fA d.fl d.fc] by subst hV; exact Blk.new rfl).cell
        have zV : WO.heap.size + 1 ≤ V.heap.size := by subst hV; simp
        have zV' : WO.heap.size < WO.heap.size + 1 := by omega
        clear hV e0 e1 e2 e3 e4 e5 e6 e7 e8 e9 e10 e11
        obtain ⟨f0, f1⟩ := hok.out.fr
        obtain ⟨l0, l1⟩ := hok.out.ln
        obtain ⟨t0, t1⟩ := hok.out.tm
        have hw1 : IntKind.i64.wrap (now + 1) = now + 1 := IntWalk.i64_in _ (by omega)
        go_region_held3 (fun w' => (∀ b o, b < WO.heap.size + 1 → w'.cell? ⟨b, o, none⟩ = V.cell? ⟨b, o, none⟩) ∧ Below (WO.heap.size + 1) V w')
          (first | exact As.beg | assumption | exact As.on hb3 (by assumption) zV)
          (first | (go_at_call 30; (with_reducible refine (end_ct d _ f0 f1 l0 l1 t0 t1).mono ?_); rintro e w3 ⟨rfl, hb3⟩))
        have HS := Lib.hid (show (∀ (b o : Nat), b < WO.heap.size + 1 → w3.cell? ⟨b, o, none⟩ = V.cell? ⟨b, o, none⟩) ∧ Below (WO.heap.size + 1) V w3 by assumption)
        have HB3 := Lib.hid (HV.out.trans (HS.out.2.mono (by have := HBel.out.size; omega)))
        have c3 : ∀ i, w3.cell? ⟨WO.heap.size, i, none⟩ = (#[.int .i64 d.from_, .int .i64 d.len, .int .i64 d.times, .bool d.turn, .bool d.stays, .int .i64 d.kind, .int .i64 d.c0, .int .i64 d.c1, .int .i64 d.c2, .int .i64 d.c3, .int .i64 d.n, .slice d.fA d.fl d.fc] : Array Value)[i]? := fun i => (HS.out.1 _ i zV').trans (cV i)
        have z3 : WO.heap.size < w3.heap.size := Nat.lt_of_lt_of_le (by omega) HS.out.2.size
        have C3 := Lib.hid c3
        rename_i hHeld
        clear c3 HS cV hb3 hHeld HV zV
        go_wp2_with fail
        have hE : d.from_ + 1 ≤ endI d := by
          have h1 : 1 * 1 ≤ d.times * d.len := Int.mul_le_mul t0 l0 (by omega) (by omega)
          have h2 : endI d = d.from_ + d.times * d.len := rfl
          omega
        have hE2 : endI d ≤ 200000000000 := by
          have h1 := (mulb (show 0 ≤ d.times by omega) t1 (show 0 ≤ d.len by omega) l1).2
          have h2 : endI d = d.from_ + d.times * d.len := rfl
          omega
        have x0 : ∀ w, (Instr.index 69 (.agg #[.int .i64 d.from_, .int .i64 (endI d), .int .i64 (now + 1)]) (.int .i64 0)).run Try.prog w = .ok (.int .i64 d.from_) w := fun _ => by kernel_rfl
        have x1 : ∀ w, (Instr.index 69 (.agg #[.int .i64 d.from_, .int .i64 (endI d), .int .i64 (now + 1)]) (.int .i64 1)).run Try.prog w = .ok (.int .i64 (endI d)) w := fun _ => by kernel_rfl
        have x2 : ∀ w, (Instr.index 69 (.agg #[.int .i64 d.from_, .int .i64 (endI d), .int .i64 (now + 1)]) (.int .i64 2)).run Try.prog w = .ok (.int .i64 (now + 1)) w := fun _ => by kernel_rfl
        go_loopw [8, 9, 33] (fun a b i wx => ∃ (j : Nat) (ji : Int) (wh : Int) (is : Bool), j ≤ 3 ∧ ji = j ∧ a = .int .i64 wh ∧ b = .bool is ∧ i = .int .i64 ji ∧ Inner L k d j now wh is ∧ Below w3.heap.size w3 wx) (fun _ _ i _ => 3 - (intOf i).toNat)
        case atStart => exact ⟨0, 0, wh, is, by omega, rfl, rfl, rfl, rfl, Inner.start hout.out d, Below.refl _ _⟩
        case round =>
          clear hout
          obtain ⟨j, ji, wh, is, hj, hji, rfl, rfl, rfl, hin, hbel⟩ := hrel
          replace hin := Lib.hid hin
          have HX := Lib.hid hbel
          have cx : ∀ i, wr.cell? ⟨WO.heap.size, i, none⟩ = (#[.int .i64 d.from_, .int .i64 d.len, .int .i64 d.times, .bool d.turn, .bool d.stays, .int .i64 d.kind, .int .i64 d.c0, .int .i64 d.c1, .int .i64 d.c2, .int .i64 d.c3, .int .i64 d.n, .slice d.fA d.fl d.fc] : Array Value)[i]? := fun i => (hbel.cell (p := ⟨WO.heap.size, i, none⟩) z3).trans (C3.out i)
          have zx : WO.heap.size < wr.heap.size := Nat.lt_of_lt_of_le z3 hbel.size
          clear hbel
          have hcases : j = 0 ∨ j = 1 ∨ j = 2 ∨ j = 3 := by omega
          rcases hcases with rfl | rfl | rfl | rfl
          · obtain rfl : ji = 0 := hji
            by_cases b0 : now < d.from_
            · skip
              cases is
              · skip
                by_cases b2 : d.from_ = now + 1
                · have b3 : (d.from_ != now + 1) = false := by simp [b2]
                  have b4 : d.from_ - 1 ≤ now := by omega
                  have b5 : now < endI d := by omega
                  clear b2
                  go_wp2_with fail
                  refine (end_ct d _ f0 f1 l0 l1 t0 t1).mono ?_
                  rintro e w4 ⟨rfl, hb4⟩
                  go_wp2
                  go_roundw
                  case rel => exact ⟨1, 1, d.from_, true, by omega, rfl, rfl, rfl, rfl, hin.out.take (by omega) (by omega) (.inl rfl) (fun _ => rfl) (fun h => by omega), (HX.out.trans (hb4.mono HX.out.size))⟩
                  case measure => simp [intOf]
                · have b3 : (d.from_ != now + 1) = true := by simp [b2]
                  go_wp2
                  go_roundw
                  case rel => exact ⟨1, 1, d.from_, true, by omega, rfl, rfl, rfl, rfl, hin.out.take (by omega) (by omega) (.inl rfl) (fun _ => rfl) (fun h => by omega), HX.out⟩
                  case measure => simp [intOf]
              · by_cases b1 : d.from_ < wh
                · skip
                  by_cases b2 : d.from_ = now + 1
                  · have b3 : (d.from_ != now + 1) = false := by simp [b2]
                    have b4 : d.from_ - 1 ≤ now := by omega
                    have b5 : now < endI d := by omega
                    clear b2
                    go_wp2_with fail
                    refine (end_ct d _ f0 f1 l0 l1 t0 t1).mono ?_
                    rintro e w4 ⟨rfl, hb4⟩
                    go_wp2
                    go_roundw
                    case rel => exact ⟨1, 1, d.from_, true, by omega, rfl, rfl, rfl, rfl, hin.out.take (by omega) (by omega) (.inr b1) (fun _ => rfl) (fun h => by omega), (HX.out.trans (hb4.mono HX.out.size))⟩
                    case measure => simp [intOf]
                  · have b3 : (d.from_ != now + 1) = true := by simp [b2]
                    go_wp2
                    go_roundw
                    case rel => exact ⟨1, 1, d.from_, true, by omega, rfl, rfl, rfl, rfl, hin.out.take (by omega) (by omega) (.inr b1) (fun _ => rfl) (fun h => by omega), HX.out⟩
                    case measure => simp [intOf]
                · skip
                  go_wp2
                  go_roundw
                  case rel => exact ⟨1, 1, wh, true, by omega, rfl, rfl, rfl, rfl, hin.out.skip (fun _ h => ⟨rfl, by omega⟩) (fun h => by omega), HX.out⟩
                  case measure => simp [intOf]
            · skip
              go_wp2
              go_roundw
              case rel => exact ⟨1, 1, wh, is, by omega, rfl, rfl, rfl, rfl, hin.out.skip (fun _ h => absurd h b0) (fun h => by omega), HX.out⟩
              case measure => simp [intOf]
          · obtain rfl : ji = 1 := hji
            by_cases b0 : now < endI d
            · skip
              cases is
              · skip
                by_cases b2 : endI d = now + 1
                · have b3 : (endI d != now + 1) = false := by simp [b2]
                  have b4 : d.from_ - 1 ≤ now := by omega
                  have b5 : now < endI d := by omega
                  clear b2
                  go_wp2_with fail
                  refine (end_ct d _ f0 f1 l0 l1 t0 t1).mono ?_
                  rintro e w4 ⟨rfl, hb4⟩
                  go_wp2
                  go_roundw
                  case rel => exact ⟨2, 2, endI d, true, by omega, rfl, rfl, rfl, rfl, hin.out.take (by omega) (by omega) (.inl rfl) (fun h => by omega) (fun h => by omega), (HX.out.trans (hb4.mono HX.out.size))⟩
                  case measure => simp [intOf]
                · have b3 : (endI d != now + 1) = true := by simp [b2]
                  go_wp2
                  go_roundw
                  case rel => exact ⟨2, 2, endI d, true, by omega, rfl, rfl, rfl, rfl, hin.out.take (by omega) (by omega) (.inl rfl) (fun h => by omega) (fun h => by omega), HX.out⟩
                  case measure => simp [intOf]
              · by_cases b1 : endI d < wh
                · skip
                  by_cases b2 : endI d = now + 1
                  · have b3 : (endI d != now + 1) = false := by simp [b2]
                    have b4 : d.from_ - 1 ≤ now := by omega
                    have b5 : now < endI d := by omega
                    clear b2
                    go_wp2_with fail
                    refine (end_ct d _ f0 f1 l0 l1 t0 t1).mono ?_
                    rintro e w4 ⟨rfl, hb4⟩
                    go_wp2
                    go_roundw
                    case rel => exact ⟨2, 2, endI d, true, by omega, rfl, rfl, rfl, rfl, hin.out.take (by omega) (by omega) (.inr b1) (fun h => by omega) (fun h => by omega), (HX.out.trans (hb4.mono HX.out.size))⟩
                    case measure => simp [intOf]
                  · have b3 : (endI d != now + 1) = true := by simp [b2]
                    go_wp2
                    go_roundw
                    case rel => exact ⟨2, 2, endI d, true, by omega, rfl, rfl, rfl, rfl, hin.out.take (by omega) (by omega) (.inr b1) (fun h => by omega) (fun h => by omega), HX.out⟩
                    case measure => simp [intOf]
                · skip
                  go_wp2
                  go_roundw
                  case rel => exact ⟨2, 2, wh, true, by omega, rfl, rfl, rfl, rfl, hin.out.skip (fun h => by omega) (fun h => by omega), HX.out⟩
                  case measure => simp [intOf]
            · skip
              go_wp2
              go_roundw
              case rel => exact ⟨2, 2, wh, is, by omega, rfl, rfl, rfl, rfl, hin.out.skip (fun h => by omega) (fun h => by omega), HX.out⟩
              case measure => simp [intOf]
          · obtain rfl : ji = 2 := hji
            have b0 : now < now + 1 := by omega
            cases is
            · skip
              have b3 : (now + 1 != now + 1) = false := by simp
              by_cases b4 : d.from_ - 1 ≤ now
              · by_cases b5 : now < endI d
                · skip
                  go_wp2_with fail
                  refine (end_ct d _ f0 f1 l0 l1 t0 t1).mono ?_
                  rintro e w4 ⟨rfl, hb4⟩
                  go_wp2
                  go_roundw
                  case rel => exact ⟨3, 3, (now + 1), true, by omega, rfl, rfl, rfl, rfl, hin.out.take (by omega) (by omega) (.inl rfl) (fun h => by omega) (fun _ => rfl), (HX.out.trans (hb4.mono HX.out.size))⟩
                  case measure => simp [intOf]
                · skip
                  go_wp2_with fail
                  refine (end_ct d _ f0 f1 l0 l1 t0 t1).mono ?_
                  rintro e w4 ⟨rfl, hb4⟩
                  go_wp2
                  go_roundw
                  case rel => exact ⟨3, 3, wh, false, by omega, rfl, rfl, rfl, rfl, hin.out.skip (fun h => by omega) (fun _ h h' => by omega), (HX.out.trans (hb4.mono HX.out.size))⟩
                  case measure => simp [intOf]
              · skip
                go_wp2
                go_roundw
                case rel => exact ⟨3, 3, wh, false, by omega, rfl, rfl, rfl, rfl, hin.out.skip (fun h => by omega) (fun _ h h' => by omega), HX.out⟩
                case measure => simp [intOf]
            · by_cases b1 : (now + 1) < wh
              · skip
                have b3 : (now + 1 != now + 1) = false := by simp
                by_cases b4 : d.from_ - 1 ≤ now
                · by_cases b5 : now < endI d
                  · skip
                    go_wp2_with fail
                    refine (end_ct d _ f0 f1 l0 l1 t0 t1).mono ?_
                    rintro e w4 ⟨rfl, hb4⟩
                    go_wp2
                    go_roundw
                    case rel => exact ⟨3, 3, (now + 1), true, by omega, rfl, rfl, rfl, rfl, hin.out.take (by omega) (by omega) (.inr b1) (fun h => by omega) (fun _ => rfl), (HX.out.trans (hb4.mono HX.out.size))⟩
                    case measure => simp [intOf]
                  · skip
                    go_wp2_with fail
                    refine (end_ct d _ f0 f1 l0 l1 t0 t1).mono ?_
                    rintro e w4 ⟨rfl, hb4⟩
                    go_wp2
                    go_roundw
                    case rel => exact ⟨3, 3, wh, true, by omega, rfl, rfl, rfl, rfl, hin.out.skip (fun h => by omega) (fun _ h h' => by omega), (HX.out.trans (hb4.mono HX.out.size))⟩
                    case measure => simp [intOf]
                · skip
                  go_wp2
                  go_roundw
                  case rel => exact ⟨3, 3, wh, true, by omega, rfl, rfl, rfl, rfl, hin.out.skip (fun h => by omega) (fun _ h h' => by omega), HX.out⟩
                  case measure => simp [intOf]
              · skip
                go_wp2
                go_roundw
                case rel => exact ⟨3, 3, wh, true, by omega, rfl, rfl, rfl, rfl, hin.out.skip (fun h => by omega) (fun _ h h' => ⟨rfl, by omega⟩), HX.out⟩
                case measure => simp [intOf]
          · obtain rfl : ji = 3 := hji
            have ho := Lib.hid (Inner.done hin.out hd.out)
            go_wp2
            go_roundw
            case rel => exact ⟨k + 1, wh, is, by omega, rfl, rfl, by go_num, ho.out, HB3.out.trans (HX.out.mono HB3.out.size)⟩
            case measure => simp [intOf]; omega
      · obtain rfl : k = n := by omega
        have HBel := Lib.hid hbel
        have hw := Lib.hid (Outer.end (by rw [hlen.out]; exact hout.out) HR.out)
        clear hbel
        go_wp2
        refine bodyPost_ret (v := .tuple #[.int .i64 wh, .bool is, .int .i64 0]) (by simp [results, Try.results21, go_sem]) rfl ?_
        exact ⟨⟨wh, is, by rw [HR.out], hw.out⟩, HBel.out⟩
  · have hr' : (rightE L now != 0) = true := by simp [hr]
    have HR := Lib.hid hr
    clear hr
    go_wp2
    refine bodyPost_ret (v := .tuple #[.int .i64 0, .bool false, .int .i64 (rightE L now)]) (by simp [results, Try.results21, go_sem]) rfl ?_
    exact ⟨⟨0, false, rfl, fun _ => ⟨rfl, rfl⟩, fun h => absurd h HR.out⟩, HB1.out⟩

end Go.Proofs.Ytchmpdibbklpfaa.anim.wakes
