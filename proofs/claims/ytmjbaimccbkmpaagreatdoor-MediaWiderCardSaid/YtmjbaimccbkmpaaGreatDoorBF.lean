/- Contracts and plain law, a bundle: Med4 TokL4 TokL5 TokS0 TokC Med1. -/
import Derived.Maps.Own
import Derived.Maps.OwnOps
import Derived.Deep.DeepCutAuto
import Derived.Lib.AtoiTie
import Derived.Lib.AtoiAllCases
import Derived.Test.YtmjbaimccbkmpaaGreatDoorBE

namespace Go.Proofs.YtmjbaimccbkmpaaGreatDoor.med
open Go.RowKit Go.Maps Go.Proofs.YtmjbaimccbkmpaaGreatDoor.base Go.Proofs.YtmjbaimccbkmpaaGreatDoor.tok Go.Proofs.YtmjbaimccbkmpaaGreatDoor.rul
set_option linter.unusedVariables false

/-! ### the map of closers -/
abbrev mapD : DataW Unit := (((DataW.map []).put (.int .u8 40) (.lit (.int .u8 41))).put (.int .u8 91) (.lit (.int .u8 93))).put (.int .u8 123) (.lit (.int .u8 125))
def clo (x : UInt8) : UInt8 := if x = 91 then 93 else if x = 123 then 125 else 41
theorem law8 : Keyed Tryz.prog 5 := int_keyed Tryz.underlying5
theorem zero8 (w : World) : (zeroValue 5).run Tryz.prog w = .ok (.int .u8 0) w := by kernel_rfl
theorem wf8 {n : Int} (h0 : 0 ≤ n) (h1 : n < 256) : (Lit.int .u8 n).wf = true := by
  have e1 : IntKind.u8.min = 0 := rfl
  have e2 : IntKind.u8.max = 255 := rfl
  simp [Lit.wf, e1, e2]
  omega
theorem key8 {n : Int} (h0 : 0 ≤ n) (h1 : n < 256) : keyOf Tryz.prog 5 (.int .u8 n) = some (.int .u8 n) := keyOf_int_mk Tryz.underlying5 (wf8 h0 h1)
theorem el8 {n : Int} (h0 : 0 ≤ n) (h1 : n < 256) : plainElem (H := Unit) Tryz.prog 5 (.int .u8 n) = some (.lit (.int .u8 n), []) := plainElem_int Tryz.underlying5 (wf8 h0 h1)
theorem map_at {x : UInt8} (h : x = 40 ∨ x = 91 ∨ x = 123) {c : Int} (hat : mapD.atKey (.int .u8 (nv x)) (.lit (.int .u8 0)) = .lit (.int .u8 c)) : c = nv (clo x) := by
  have e : mapD.atKey (.int .u8 (nv x)) (.lit (.int .u8 0)) = .lit (.int .u8 (nv (clo x))) := by
    rcases h with rfl | rfl | rfl <;> rfl
  rw [e] at hat
  injection hat with hat
  injection hat with _ hat
  exact hat.symm
theorem clo_is {r : Bs} {x : UInt8} (h : r.getLast? = some x) (hx : x = 40 ∨ x = 91 ∨ x = 123) : closerP r = [clo x] := by
  unfold closerP clo
  rw [h]
  rcases hx with rfl | rfl | rfl <;> rfl
theorem infoB : (Tryz.prog.info? 5).map (fun i => (i.zero, i.size, i.bytes)) = some (some (.int .u8 0), 1, 1) := by kernel_rfl
abbrev u8V (x : UInt8) : Value := .int .u8 (nv x)

/-- tokens as a text is cut into them -/
def EndOk (t : Tk) : Prop := t.raw ≠ [] ∧ t.raw.length ≤ 1000000 ∧ t.val.length ≤ 1000000 ∧ (opensP t = true → ∃ x, t.raw.getLast? = some x ∧ (x = 40 ∨ x = 91 ∨ x = 123)) ∧ (t.k = 11 → ∃ x, t.raw = [x])
theorem one_key {st : List UInt8} {x : UInt8} : (st.map fun c => ([c] : Bs)).getLast? = some [x] ↔ st.getLast? = some x := by
  rw [List.getLast?_map]
  cases st.getLast? with
  | none => simp
  | some y => simp
def EndRel (w : World) (L : List Tk) (R : Option Nat) (v x : Value) (wr : World) : Prop :=
  ∃ (i : Nat) (st : List UInt8), i ≤ L.length ∧ x = .int .i64 i ∧ st.length ≤ i ∧ (st = [] → i = 0) ∧ blkP (st.map fun c => ([c] : Bs)) (L.drop i) i = R ∧ wr.ownsRow (w.heap.size + 1) 5 1 v st.length (st.map u8V) ∧ wr.ownsMap Tryz.prog 5 (plainElem Tryz.prog 5) w.heap.size 3 mapD ∧ Below w.heap.size w wr ∧ w.heap.size + 1 ≤ wr.heap.size

theorem first_is {r : Bs} {x : UInt8} (h : r = [x]) : ∃ hlt : 0 < (bs r).size, (((bs r)[0]'hlt).toNat : Int) = nv x := by
  subst h
  exact ⟨Nat.zero_lt_one, rfl⟩
theorem last_is {r : Bs} {x : UInt8} (h : r.getLast? = some x) (h0 : r ≠ []) : ∃ hlt : (bs r).size - 1 < (bs r).size, (((bs r)[(bs r).size - 1]'hlt).toNat : Int) = nv x := by
  obtain ⟨hlt, hc⟩ := last_at h0
  rw [h] at hc
  exact ⟨hlt, by rw [← Option.some.inj hc]⟩
theorem byte_key {a b : UInt8} : (nv a == nv b) = decide (a = b) := by
  rw [Bool.eq_iff_iff]
  simp only [beq_iff_eq, decide_eq_true_eq, nv]
  constructor
  · intro h
    exact UInt8.toNat_inj.1 (by omega)
  · rintro rfl
    rfl

set_option maxRecDepth 100000 in
set_option maxHeartbeats 8000000 in
theorem mend_ct (A : Option Addr) (cap : Nat) (L : List Tk) (w : World) (hn : L.length ≤ 1000000) (hL : TRd w w.heap.size A L.length L) (hr : ∀ t ∈ L, EndOk t) (h0 : ∀ t, L[0]? = some t → opensP t = true) :
    Calls Tryz.prog 42 #[.slice A L.length cap] w fun e w' => e = .returned (.int .i64 (((blkP [] L 0).getD 0 : Nat) : Int)) ∧ Below w.heap.size w w' := by
  obtain ⟨i0, hi, hz0, hz1, hz2⟩ := info_parts infoB
  have Hz0 := Lib.hid hz0
  have Hi := Lib.hid hi
  have Hz1 := Lib.hid hz1
  have Hz2 := Lib.hid hz2
  clear hz0 hi hz1 hz2
  have HL := Lib.hid hL
  have HR := Lib.hid hr
  have H0 := Lib.hid h0
  clear hL hr h0
  generalize hR : blkP [] L 0 = R
  have HRR := Lib.hid hR
  clear hR
  have hmm := @run_makeMap Tryz.prog
  have m0 := World.ownsMap_made (H := Unit) w Tryz.prog 5 (plainElem Tryz.prog 5)
  obtain ⟨w1, hrun1, m1, g1⟩ := m0.update law8 Tryz.underlying129 (by unfold maxLen; omega) (key8 (n := 40) (by omega) (by omega)) (el8 (n := 41) (by omega) (by omega))
  obtain ⟨w2, hrun2, m2, g2⟩ := m1.update law8 Tryz.underlying129 (by unfold maxLen; omega) (key8 (n := 91) (by omega) (by omega)) (el8 (n := 93) (by omega) (by omega))
  obtain ⟨w3, hrun3, m3, g3⟩ := m2.update law8 Tryz.underlying129 (by unfold maxLen; omega) (key8 (n := 123) (by omega) (by omega)) (el8 (n := 125) (by omega) (by omega))
  have gB := (g1.trans g2).trans g3
  have HBw := Lib.hid (below_grow ((Below.refl w.heap.size w).alloc (Nat.le_refl _) (.map #[] 0)) gB (Nat.le_refl _) (by simp))
  have hsz3 := Lib.hid (show w.heap.size + 1 ≤ w3.heap.size by have := gB.size; simpa using this)
  have M3 := Lib.hid m3
  clear m0 m1 m2 m3 g1 g2 g3 gB
  go_enter Tryz.func42, Tryz.ntmps42
  go_wp2_with fail
  clear hrun1 hrun2 hrun3
  go_loopw [4, 11] (fun v x wr => EndRel w L R v x wr) (fun _ x _ => L.length - (intOf x).toNat)
  case atStart => exact ⟨0, [], by omega, rfl, by simp, fun _ => rfl, HRR.out, World.ownsRow_nil _ _ _ _, M3.out, HBw.out, hsz3.out⟩
  case round =>
    obtain ⟨i, st, hil, rfl, hst, hse, hinv, hrow, hmap, hbel, hsz⟩ := hrel
    have HBl := Lib.hid hbel
    have HInv := Lib.hid hinv
    have HMap := Lib.hid hmap
    have HSz := Lib.hid hsz
    replace hrow := Lib.hid hrow
    obtain ⟨av, cp, rfl⟩ := row_form hrow.out
    clear hinv HRR hmap M3 HBw hsz3 hsz
    by_cases hlt : i < L.length
    · have hlt' : (i : Int) < (L.length : Int) := by omega
      have hi1 : (i : Int) + 1 ≤ 1000000 := by omega
      obtain ⟨b, off, t, rfl, hbb, hd, e0, e1, e2, e3⟩ := TRd.tok (HL.out.keep hbel hbel.size) hlt
      have HT := Lib.hid (HR.out t (List.mem_of_getElem? hd))
      have HD := Lib.hid hd
      have HO : opensP t = false → st ≠ [] := fun ho he => by
        have hd0 := hd
        rw [hse he] at hd0
        rw [H0.out t hd0] at ho
        cases ho
      replace HO := Lib.hid HO
      clear hbel hd hse
      obtain ⟨tk, tr, tv, tn⟩ := t
      simp only at e0 e1 e2 e3
      cases ho : opensP ⟨tk, tr, tv, tn⟩
      · obtain ⟨n10, n2⟩ : (tk == 10) = false ∧ (tk == 2) = false := by
          simp only [opensP, Bool.or_eq_false_iff, decide_eq_false_iff_not] at ho
          exact ⟨by simpa using ho.1, by simpa using ho.2⟩
        have hne := HO.out ho
        obtain ⟨st', top, rfl⟩ : ∃ s' x, st = s' ++ [x] := ⟨st.dropLast, st.getLast hne, (List.dropLast_concat_getLast hne).symm⟩
        rw [List.length_append, List.length_singleton] at hrow hst
        obtain ⟨g, hg, hgl, hgb, hcp, hgc⟩ := owns_at (i := st'.length) (x := u8V top) hrow.out (by simp)
        subst hg
        have hq1 : (st'.length : Int) + 1 ≤ 1000001 := by omega
        have HGc := Lib.hid hgc
        have HGl := Lib.hid hgl
        have HGb := Lib.hid hgb
        clear hgc hgl hgb hne HO
        have Hst := Lib.hid hst
        by_cases hk : tk = 11
        · subst hk
          obtain ⟨x, hx⟩ := HT.out.2.2.2.2 rfl
          simp only at hx
          obtain ⟨hltr, hxv⟩ := first_is hx
          have b0 := byte_key (a := x) (b := top)
          by_cases hrt : x = top
          · subst hrt
            have HStep := Lib.hid (HInv.out.symm.trans (blk_pop (st := (st' ++ [x]).map fun c => ([c] : Bs)) HD.out ho rfl (by rw [hx]; simp)))
            rw [decide_eq_true rfl] at b0
            have p1 := IntWalk.i64_in (st'.length : Int) (by omega)
            have p2 := IntWalk.i64_in ((st'.length : Int) + 1) (by omega)
            have p3 : IntKind.i64.wrap ((st'.length : Int) + 1 - 1) = st'.length := by rw [Int.add_sub_cancel]; exact p1
            have hsl := fun w => slice_upto (P := Tryz.prog) (k := 1) Tryz.underlying34 Tryz.sizeOf5 (some ⟨g, 0, none⟩) (st'.length + 1) cp (st'.length : Int) (by omega) (by omega) w
            simp only [Int.toNat_natCast] at hsl
            by_cases hs0 : st' = []
            · have HFin := Lib.hid (show R = some (i + 1) by rw [HStep.out, hs0]; rfl)
              have z0 : ((st'.length : Int) == 0) = true := by rw [hs0]; rfl
              clear HD ho HStep hs0 hx HT
              go_upto_region 6 with (fail)
              generalize hV : wr.alloc (.cells #[.int .i64 11, .string (bs tr), .string (bs tv), .int .i64 tn] 81) = V
              have HB1 := Lib.hid (show Below w.heap.size w V by subst hV; exact HBl.out.alloc HBl.out.size _)
              have HS1 := Lib.hid (show w.heap.size + 1 ≤ V.heap.size by subst hV; have := HSz.out; simp; omega)
              have hmap1 := Lib.hid (by subst hV; exact HMap.out.alloc _ : V.ownsMap Tryz.prog 5 (plainElem Tryz.prog 5) w.heap.size 3 mapD)
              have hV1 := (show Blk V wr.heap.size 81 #[.int .i64 11, .string (bs tr), .string (bs tv), .int .i64 tn] by subst hV; exact Blk.new rfl)
              have cV := hV1.cell
              have hrow1 := Lib.hid (by subst hV; exact hrow.out.alloc _ : V.ownsRow (w.heap.size + 1) 5 1 (.slice (some ⟨g, 0, none⟩) (st'.length + 1) cp) (st'.length + 1) ((st' ++ [x]).map u8V))
              have g1 : V.cell? ⟨g, st'.length, none⟩ = some (u8V x) := by subst hV; exact (((Below.refl _ wr).alloc (Nat.le_refl _) _).cell (p := ⟨g, st'.length, none⟩) HGl.out).trans HGc.out
              clear hV hV1 e0 e1 e2 e3
              go_upto_region 11 with (fail)
              go_quiet (fail)
              go_wp2_with fail
              go_ret
              exact ⟨by rw [HFin.out]; go_num, Go.Proofs.YtmjbaimccbkmpaaGreatDoor.base.below_drewN HB1.out _⟩
            · have z0 : ((st'.length : Int) == 0) = false := by simpa using hs0
              have HNew := Lib.hid (show blkP (st'.map fun c => ([c] : Bs)) (L.drop (i + 1)) (i + 1) = R by rw [HStep.out, List.map_append, List.map_singleton, List.dropLast_concat, if_neg (by simpa using hs0)])
              have HNe := Lib.hid hs0
              clear HD ho HStep hs0 hx HT
              go_upto_region 6 with (fail)
              generalize hV : wr.alloc (.cells #[.int .i64 11, .string (bs tr), .string (bs tv), .int .i64 tn] 81) = V
              have HB1 := Lib.hid (show Below w.heap.size w V by subst hV; exact HBl.out.alloc HBl.out.size _)
              have HS1 := Lib.hid (show w.heap.size + 1 ≤ V.heap.size by subst hV; have := HSz.out; simp; omega)
              have hmap1 := Lib.hid (by subst hV; exact HMap.out.alloc _ : V.ownsMap Tryz.prog 5 (plainElem Tryz.prog 5) w.heap.size 3 mapD)
              have hV1 := (show Blk V wr.heap.size 81 #[.int .i64 11, .string (bs tr), .string (bs tv), .int .i64 tn] by subst hV; exact Blk.new rfl)
              have cV := hV1.cell
              have hrow1 := Lib.hid (by subst hV; exact hrow.out.alloc _ : V.ownsRow (w.heap.size + 1) 5 1 (.slice (some ⟨g, 0, none⟩) (st'.length + 1) cp) (st'.length + 1) ((st' ++ [x]).map u8V))
              have g1 : V.cell? ⟨g, st'.length, none⟩ = some (u8V x) := by subst hV; exact (((Below.refl _ wr).alloc (Nat.le_refl _) _).cell (p := ⟨g, st'.length, none⟩) HGl.out).trans HGc.out
              clear hV hV1 e0 e1 e2 e3
              go_upto_region 11 with (fail)
              go_quiet (fail)
              go_wp2_with fail
              go_roundw
              case rel =>
                refine ⟨i + 1, st', by omega, by go_num, by have := Hst.out; omega, fun e => absurd e HNe.out, HNew.out, ?_, hmap1.out, Go.Proofs.YtmjbaimccbkmpaaGreatDoor.base.below_drewN HB1.out _, HS1.out⟩
                have h2 := owns_less hrow1.out (m := st'.length) (Nat.le_succ _) (Nat.succ_pos _)
                exact owns_drewN (by simpa using h2) _
              case measure => simp [intOf]; omega
          · rw [decide_eq_false hrt] at b0
            have HStep := Lib.hid ((blk_skip (st := (st' ++ [top]).map fun c => ([c] : Bs)) HD.out ho (by rw [hx]; simp; exact fun e => hrt e.symm)).symm.trans HInv.out)
            have p1 := IntWalk.i64_in (st'.length : Int) (by omega)
            have p2 := IntWalk.i64_in ((st'.length : Int) + 1) (by omega)
            have p3 : IntKind.i64.wrap ((st'.length : Int) + 1 - 1) = st'.length := by rw [Int.add_sub_cancel]; exact p1
            have z0 : (((st'.length : Int) + 1) == 0) = false := by simp; omega
            clear HD ho hrt hx HT
            go_upto_region 6 with (fail)
            generalize hV : wr.alloc (.cells #[.int .i64 11, .string (bs tr), .string (bs tv), .int .i64 tn] 81) = V
            have HB1 := Lib.hid (show Below w.heap.size w V by subst hV; exact HBl.out.alloc HBl.out.size _)
            have HS1 := Lib.hid (show w.heap.size + 1 ≤ V.heap.size by subst hV; have := HSz.out; simp; omega)
            have hmap1 := Lib.hid (by subst hV; exact HMap.out.alloc _ : V.ownsMap Tryz.prog 5 (plainElem Tryz.prog 5) w.heap.size 3 mapD)
            have hV1 := (show Blk V wr.heap.size 81 #[.int .i64 11, .string (bs tr), .string (bs tv), .int .i64 tn] by subst hV; exact Blk.new rfl)
            have cV := hV1.cell
            have hrow1 := Lib.hid (by subst hV; exact hrow.out.alloc _ : V.ownsRow (w.heap.size + 1) 5 1 (.slice (some ⟨g, 0, none⟩) (st'.length + 1) cp) (st'.length + 1) ((st' ++ [top]).map u8V))
            have g1 : V.cell? ⟨g, st'.length, none⟩ = some (u8V top) := by subst hV; exact (((Below.refl _ wr).alloc (Nat.le_refl _) _).cell (p := ⟨g, st'.length, none⟩) HGl.out).trans HGc.out
            clear hV hV1 e0 e1 e2 e3
            go_upto_region 11 with (fail)
            go_quiet (fail)
            go_wp2_with fail
            go_roundw
            case rel => exact ⟨i + 1, st' ++ [top], by omega, by go_num, by have := Hst.out; simp; omega, fun e => by simp at e, HStep.out, owns_drewN (by simpa using hrow1.out) _, hmap1.out, Go.Proofs.YtmjbaimccbkmpaaGreatDoor.base.below_drewN HB1.out _, HS1.out⟩
            case measure => simp [intOf]; omega
        · have b1 : (tk == 11) = false := by simpa using hk
          have HStep := Lib.hid ((blk_skip (st := (st' ++ [top]).map fun c => ([c] : Bs)) HD.out ho (by simp [hk])).symm.trans HInv.out)
          have z0 : (((st'.length : Int) + 1) == 0) = false := by simp; omega
          clear HD ho hk HT
          go_upto_region 6 with (fail)
          generalize hV : wr.alloc (.cells #[.int .i64 tk, .string (bs tr), .string (bs tv), .int .i64 tn] 81) = V
          have HB1 := Lib.hid (show Below w.heap.size w V by subst hV; exact HBl.out.alloc HBl.out.size _)
          have HS1 := Lib.hid (show w.heap.size + 1 ≤ V.heap.size by subst hV; have := HSz.out; simp; omega)
          have hmap1 := Lib.hid (by subst hV; exact HMap.out.alloc _ : V.ownsMap Tryz.prog 5 (plainElem Tryz.prog 5) w.heap.size 3 mapD)
          have hV1 := (show Blk V wr.heap.size 81 #[.int .i64 tk, .string (bs tr), .string (bs tv), .int .i64 tn] by subst hV; exact Blk.new rfl)
          have cV := hV1.cell
          have hrow1 := Lib.hid (by subst hV; exact hrow.out.alloc _ : V.ownsRow (w.heap.size + 1) 5 1 (.slice (some ⟨g, 0, none⟩) (st'.length + 1) cp) (st'.length + 1) ((st' ++ [top]).map u8V))
          have g1 : V.cell? ⟨g, st'.length, none⟩ = some (u8V top) := by subst hV; exact (((Below.refl _ wr).alloc (Nat.le_refl _) _).cell (p := ⟨g, st'.length, none⟩) HGl.out).trans HGc.out
          clear hV hV1 e0 e1 e2 e3
          go_wp2_with fail
          go_roundw
          case rel => exact ⟨i + 1, st' ++ [top], by omega, by go_num, by have := Hst.out; simp; omega, fun e => by simp at e, HStep.out, by simpa using hrow1.out, hmap1.out, HB1.out, HS1.out⟩
          case measure => simp [intOf]; omega
      · obtain ⟨x, hx, hxx⟩ := HT.out.2.2.2.1 ho
        simp only at hx
        have hcl := clo_is hx hxx
        have HStep := Lib.hid ((blk_open (st := st.map fun c => ([c] : Bs)) HD.out ho).symm.trans HInv.out)
        simp only [hcl] at HStep
        have Hst := Lib.hid hst
        have z0 : (((st.length : Int) + 1) == 0) = false := by simp; omega
        have hkk : tk = 10 ∨ tk = 2 := by
          simp only [opensP, Bool.or_eq_true, decide_eq_true_eq] at ho
          exact ho
        obtain ⟨hltr, hxv⟩ := last_is hx HT.out.1
        have hp : 0 < (bs tr).size := List.length_pos_iff.2 HT.out.1
        have hszr : (bs tr).size ≤ 1000000 := HT.out.2.1
        have Hxx := Lib.hid hxx
        have hx0 := nv_nn x
        have hx1 := nv_lt x
        clear HD ho HO hx hxx hcl HT
        generalize hX : nv x = X at *
        have HX := Lib.hid hX
        clear hX
        rcases hkk with rfl | rfl
        · go_upto_region 6 with (fail)
          generalize hV : wr.alloc (.cells #[.int .i64 10, .string (bs tr), .string (bs tv), .int .i64 tn] 81) = V
          have HB1 := Lib.hid (show Below w.heap.size w V by subst hV; exact HBl.out.alloc HBl.out.size _)
          have HS1 := Lib.hid (show w.heap.size + 1 ≤ V.heap.size by subst hV; have := HSz.out; simp; omega)
          have hmap1 := Lib.hid (by subst hV; exact HMap.out.alloc _ : V.ownsMap Tryz.prog 5 (plainElem Tryz.prog 5) w.heap.size 3 mapD)
          have hV1 := (show Blk V wr.heap.size 81 #[.int .i64 10, .string (bs tr), .string (bs tv), .int .i64 tn] by subst hV; exact Blk.new rfl)
          have cV := hV1.cell
          have hrow1 := Lib.hid (by subst hV; exact hrow.out.alloc _ : V.ownsRow (w.heap.size + 1) 5 1 (.slice av st.length cp) st.length (st.map u8V))
          clear hV hV1 e0 e1 e2 e3
          go_wp2_with (first
            | (at_lookup; refine wpList_lookup_own_int _ rfl _ _ 129 rfl 5 5 .u8 law8 Tryz.underlying129 Tryz.underlying5 (zero8 _) w.heap.size 3 mapD rfl hmap1.out _ _ rfl (key8 hx0 hx1) ?_; intro c hat hwc; have hc := map_at Hxx.out (by rw [HX.out]; exact hat); clear hat hwc; subst hc)
            | (at_builtin; refine wpList_append_own _ rfl _ _ 34 rfl (w.heap.size + 1) 5 i0 (.int .u8 0) 1 1 Tryz.underlying34 Hi.out Hz0.out Hz1.out Hz2.out rfl (by decide) _ _ _ rfl (hrow1.out.alloc _) ⟨V.heap.size, 0, none⟩ 1 1 [u8V (clo x)] rfl rfl ?c1 ?c2 ?c3 ?c4 ?c5 ?_))
          case c1 => exact (Blk.new (w := V) (t := 5) (cs := #[u8V (clo x)]) rfl).news
          case c2 => simp [Value.oneCell']
          case c3 => unfold maxLen; omega
          case c4 => omega
          case c5 => have := HS1.out; simp; omega
          intro v' w3 hown3 hgrow3 hnil3
          have hrl := hrow1.out.alloc (.cells #[u8V (clo x)] 5)
          have hb3 := Lib.hid (below_app (HB1.out.alloc HB1.out.size _) hgrow3 hrl (Nat.le_succ _) (by have := HB1.out.size; simp; omega))
          have hm3 := Lib.hid ((hmap1.out.alloc _).kept hgrow3 (fun e => by have := (hrl.lt _ e.symm).1; omega))
          have hs3 := Lib.hid (Nat.le_trans (Nat.le_trans HS1.out (by simp)) hgrow3.size)
          obtain ⟨g', cap', rfl⟩ := row_form hown3
          replace hown3 := Lib.hid hown3
          clear hgrow3 hnil3 hst hil hrl
          go_wp2
          go_roundw
          case rel => exact ⟨i + 1, st ++ [clo x], by omega, by go_num, by have := Hst.out; simp; omega, fun e => by simp at e, by simpa using HStep.out, by simpa using hown3.out, hm3.out, hb3.out, hs3.out⟩
          case measure => simp [intOf]; omega
        · go_upto_region 6 with (fail)
          generalize hV : wr.alloc (.cells #[.int .i64 2, .string (bs tr), .string (bs tv), .int .i64 tn] 81) = V
          have HB1 := Lib.hid (show Below w.heap.size w V by subst hV; exact HBl.out.alloc HBl.out.size _)
          have HS1 := Lib.hid (show w.heap.size + 1 ≤ V.heap.size by subst hV; have := HSz.out; simp; omega)
          have hmap1 := Lib.hid (by subst hV; exact HMap.out.alloc _ : V.ownsMap Tryz.prog 5 (plainElem Tryz.prog 5) w.heap.size 3 mapD)
          have hV1 := (show Blk V wr.heap.size 81 #[.int .i64 2, .string (bs tr), .string (bs tv), .int .i64 tn] by subst hV; exact Blk.new rfl)
          have cV := hV1.cell
          have hrow1 := Lib.hid (by subst hV; exact hrow.out.alloc _ : V.ownsRow (w.heap.size + 1) 5 1 (.slice av st.length cp) st.length (st.map u8V))
          clear hV hV1 e0 e1 e2 e3
          go_wp2_with (first
            | (at_lookup; refine wpList_lookup_own_int _ rfl _ _ 129 rfl 5 5 .u8 law8 Tryz.underlying129 Tryz.underlying5 (zero8 _) w.heap.size 3 mapD rfl hmap1.out _ _ rfl (key8 hx0 hx1) ?_; intro c hat hwc; have hc := map_at Hxx.out (by rw [HX.out]; exact hat); clear hat hwc; subst hc)
            | (at_builtin; refine wpList_append_own _ rfl _ _ 34 rfl (w.heap.size + 1) 5 i0 (.int .u8 0) 1 1 Tryz.underlying34 Hi.out Hz0.out Hz1.out Hz2.out rfl (by decide) _ _ _ rfl (hrow1.out.alloc _) ⟨V.heap.size, 0, none⟩ 1 1 [u8V (clo x)] rfl rfl ?c1 ?c2 ?c3 ?c4 ?c5 ?_))
          case c1 => exact (Blk.new (w := V) (t := 5) (cs := #[u8V (clo x)]) rfl).news
          case c2 => simp [Value.oneCell']
          case c3 => unfold maxLen; omega
          case c4 => omega
          case c5 => have := HS1.out; simp; omega
          intro v' w3 hown3 hgrow3 hnil3
          have hrl := hrow1.out.alloc (.cells #[u8V (clo x)] 5)
          have hb3 := Lib.hid (below_app (HB1.out.alloc HB1.out.size _) hgrow3 hrl (Nat.le_succ _) (by have := HB1.out.size; simp; omega))
          have hm3 := Lib.hid ((hmap1.out.alloc _).kept hgrow3 (fun e => by have := (hrl.lt _ e.symm).1; omega))
          have hs3 := Lib.hid (Nat.le_trans (Nat.le_trans HS1.out (by simp)) hgrow3.size)
          obtain ⟨g', cap', rfl⟩ := row_form hown3
          replace hown3 := Lib.hid hown3
          clear hgrow3 hnil3 hst hil hrl
          go_wp2
          go_roundw
          case rel => exact ⟨i + 1, st ++ [clo x], by omega, by go_num, by have := Hst.out; simp; omega, fun e => by simp at e, by simpa using HStep.out, by simpa using hown3.out, hm3.out, hb3.out, hs3.out⟩
          case measure => simp [intOf]; omega
    · obtain rfl : i = L.length := by omega
      have hfin := Lib.hid (show R = none by rw [← HInv.out, List.drop_length]; rfl)
      clear hbel
      go_wp2_with fail
      go_ret
      exact ⟨by rw [hfin.out]; rfl, HBl.out⟩

end Go.Proofs.YtmjbaimccbkmpaaGreatDoor.med

namespace Go.Proofs.YtmjbaimccbkmpaaGreatDoor.tok
open Go.RowKit Go.Proofs.YtmjbaimccbkmpaaGreatDoor.base
set_option linter.unusedVariables false

theorem esc_blank (c : UInt8) (m : Bs) (h : ¬ nv c = 92) : escP (c :: 32 :: m) = false := by simp [escP, h]
theorem esc_32 (m : Bs) : escP (32 :: m) = false := by
  cases m with
  | nil => rfl
  | cons d m => rfl
theorem sign_92 {c : UInt8} (h : nv c = 92) : signI (nv c) = false := by rw [h]; rfl
theorem nv92 {c : UInt8} (h : nv c = 92) : c = 92 := by
  apply UInt8.toNat_inj.1
  simp only [nv] at h
  have : (92 : UInt8).toNat = 92 := rfl
  omega
theorem nv_eq {c : UInt8} {n : Nat} (hn : n < 256) (h : nv c = n) : c = UInt8.ofNat n := by
  apply UInt8.toNat_inj.1
  rw [UInt8.toNat_ofNat']
  simp only [nv] at h
  omega

theorem name_blank (m : Bs) : nameP (32 :: m) = ([], 0) := by
  cases m with
  | nil => rw [name_cons1]; rfl
  | cons d m =>
    rw [name_cons2, if_neg (by rw [esc_32]; simp), if_neg (by decide)]
theorem begins_blank (m : Bs) : beginsP (32 :: m) = false := by
  cases m with
  | nil => rfl
  | cons d m =>
    simp only [beginsP]
    rw [if_neg (by decide), esc_32]
    rfl

theorem name_ext (m : Bs) : ∀ (n : Nat) (y : Bs), y.length ≤ n → y.drop (nameP y).2 ≠ [92] → nameP (y ++ 32 :: m) = nameP y
  | 0, y, h, hd => by
    obtain rfl := List.eq_nil_of_length_eq_zero (Nat.le_zero.1 h)
    rw [List.nil_append, name_blank, name_nil]
  | n + 1, [], h, hd => by rw [List.nil_append, name_blank, name_nil]
  | n + 1, [c], h, hd => by
    rw [name_cons1] at hd
    simp only [List.cons_append, List.nil_append]
    rw [name_cons2, name_cons1]
    by_cases hs : signI (nv c) = true
    · have h92 : ¬ nv c = 92 := fun e => by rw [sign_92 e] at hs; cases hs
      rw [if_neg (by rw [esc_blank c m h92]; simp), if_pos hs, if_pos hs, name_blank]
    · rw [if_neg hs] at hd
      have h92 : ¬ nv c = 92 := fun e => hd (by rw [nv92 e]; rfl)
      rw [if_neg (by rw [esc_blank c m h92]; simp), if_neg hs, if_neg hs]
  | n + 1, c :: d :: r, h, hd => by
    rw [name_cons2] at hd ⊢
    simp only [List.cons_append]
    rw [name_cons2]
    have he : escP (c :: d :: (r ++ 32 :: m)) = escP (c :: d :: r) := rfl
    rw [he]
    by_cases h1 : escP (c :: d :: r) = true
    · rw [if_pos h1] at hd ⊢
      rw [if_pos h1, name_ext m n r (by simp at h; omega) (by simpa using hd)]
    · rw [if_neg h1] at hd ⊢
      rw [if_neg h1]
      by_cases hs : signI (nv c) = true
      · rw [if_pos hs] at hd ⊢
        rw [if_pos hs]
        have ih := name_ext m n (d :: r) (by simp at h ⊢; omega) (by simpa using hd)
        rw [List.cons_append] at ih
        rw [ih]
      · rw [if_neg hs, if_neg hs]
theorem name_ext' (m : Bs) {y : Bs} (h : y.drop (nameP y).2 ≠ [92]) : nameP (y ++ 32 :: m) = nameP y := name_ext m _ y (Nat.le_refl _) h

theorem begins_ext (m : Bs) {r : Bs} (h1 : r ≠ [92]) (h2 : r ≠ [45, 92]) : beginsP (r ++ 32 :: m) = beginsP r := by
  match r, h1, h2 with
  | [], _, _ => exact begins_blank m
  | [c], h1, _ =>
    simp only [List.cons_append, List.nil_append, beginsP]
    have h92 : ¬ nv c = 92 := fun e => h1 (by rw [nv92 e])
    by_cases h45 : nv c = 45
    · rw [if_pos h45, esc_32, h45]
      rfl
    · rw [if_neg h45, esc_blank c m h92]
      simp
  | c :: d :: r, _, h2 =>
    simp only [List.cons_append, beginsP]
    by_cases h45 : nv c = 45
    · rw [if_pos h45, if_pos h45]
      cases r with
      | nil =>
        have h92 : ¬ nv d = 92 := fun e => h2 (by rw [nv92 e, nv_eq (n := 45) (by decide) h45]; rfl)
        simp only [List.nil_append]
        rw [esc_blank d m h92]
        rfl
      | cons e r => rfl
    · rw [if_neg h45, if_neg h45]
      rfl

theorem while_app (p : UInt8 → Bool) (m : Bs) (h : p 32 = false) : ∀ y : Bs, ((y ++ 32 :: m).takeWhile p).length = (y.takeWhile p).length
  | [] => by simp [h]
  | c :: y => by
    simp only [List.cons_append, List.takeWhile_cons]
    cases p c
    · rfl
    · simp only [if_true, List.length_cons]
      rw [while_app p m h y]
theorem digits_ext (m y : Bs) : digitsP (y ++ 32 :: m) = digitsP y := while_app _ m (by decide) y
theorem behind_ext (m y : Bs) : behindP (y ++ 32 :: m) = behindP y := by
  cases y with
  | nil =>
    simp only [List.nil_append, behindP]
    rw [if_neg (by decide)]
  | cons c t =>
    simp only [List.cons_append, behindP, digits_ext]

theorem number_ext (m : Bs) {l : Bs} (h0 : l ≠ []) : numberP (l ++ 32 :: m) = numberP l := by
  have hs : signAt (l ++ 32 :: m) = signAt l ∧ negP (l ++ 32 :: m) = negP l := by
    cases l with
    | nil => exact absurd rfl h0
    | cons c r => exact ⟨rfl, rfl⟩
  obtain ⟨_, hsl⟩ := signAt_le l
  unfold numberP
  rw [hs.1, hs.2]
  generalize signAt l = f at *
  have e1 : digitsP ((l ++ 32 :: m).drop f) = digitsP (l.drop f) := by rw [List.drop_append_of_le_length hsl, digits_ext]
  rw [e1]
  have hw := digits_le (l.drop f)
  rw [List.length_drop] at hw
  generalize digitsP (l.drop f) = wh at *
  have e2 : behindP ((l ++ 32 :: m).drop (f + wh)) = behindP (l.drop (f + wh)) := by rw [List.drop_append_of_le_length (by omega), behind_ext]
  rw [e2]
  have hb := behind_le (l.drop (f + wh))
  rw [List.length_drop] at hb
  generalize behindP (l.drop (f + wh)) = be at *
  unfold numAt
  have e3 : sumP (l ++ 32 :: m) f wh be = sumP l f wh be := by
    unfold sumP
    have a1 : ((l ++ 32 :: m).drop f).take wh = (l.drop f).take wh := by
      rw [List.drop_append_of_le_length hsl, List.take_append_of_le_length (by rw [List.length_drop]; omega)]
    have a2 : ((l ++ 32 :: m).drop (f + wh + 1)).take be = (l.drop (f + wh + 1)).take be := by
      rcases hb with hb | hb
      · rw [hb]; simp
      · rw [List.drop_append_of_le_length (by omega), List.take_append_of_le_length (by rw [List.length_drop]; omega)]
    rw [a1, a2]
  rw [e3]

theorem textR_ext (q : UInt8) (m : Bs) : ∀ (n : Nat) (r : Bs), r.length ≤ n → ((textR q r).2.1 < r.length ∨ (textR q r).1 = 5) → textR q (r ++ 32 :: m) = textR q r
  | 0, r, h, hc => by
    obtain rfl := List.eq_nil_of_length_eq_zero (Nat.le_zero.1 h)
    rw [textR_nil] at hc
    simp at hc
  | n + 1, [], h, hc => by
    rw [textR_nil] at hc
    simp at hc
  | n + 1, [c], h, hc => by
    rw [textR_one] at hc ⊢
    simp only [List.cons_append, List.nil_append]
    rw [textR_two]
    split
    · rfl
    · split
      · rfl
      · rename_i h1 h2
        rw [if_neg h1, if_neg h2] at hc
        simp at hc
  | n + 1, c :: d :: r, h, hc => by
    rw [textR_two] at hc ⊢
    simp only [List.cons_append]
    rw [textR_two]
    split
    · rfl
    · rename_i h1
      split
      · rfl
      · rename_i h2
        rw [if_neg h1, if_neg h2] at hc
        split
        · rename_i h3
          rw [if_pos h3] at hc
          rw [textR_ext q m n r (by simp at h; omega) (by simp only [List.length_cons] at hc; omega)]
        · rename_i h3
          rw [if_neg h3] at hc
          have ih := textR_ext q m n (d :: r) (by simp at h ⊢; omega) (by simp only [List.length_cons] at hc ⊢; omega)
          rw [List.cons_append] at ih
          rw [ih]
theorem textR_le (q : UInt8) : ∀ (n : Nat) (r : Bs), r.length ≤ n → (textR q r).2.1 ≤ r.length
  | 0, r, h => by
    obtain rfl := List.eq_nil_of_length_eq_zero (Nat.le_zero.1 h)
    rw [textR_nil]
    simp
  | n + 1, [], h => by rw [textR_nil]; simp
  | n + 1, [c], h => by
    rw [textR_one]
    split
    · simp
    · split <;> simp
  | n + 1, c :: d :: r, h => by
    rw [textR_two]
    split
    · simp
    · split
      · simp
      · split
        · have := textR_le q n r (by simp at h; omega)
          simp; omega
        · have := textR_le q n (d :: r) (by simp at h ⊢; omega)
          simp at this ⊢; omega
theorem textR_kind (q : UInt8) : ∀ (n : Nat) (r : Bs), r.length ≤ n → (textR q r).1 = 5 ∨ (textR q r).1 = 6
  | 0, r, h => by
    obtain rfl := List.eq_nil_of_length_eq_zero (Nat.le_zero.1 h)
    rw [textR_nil]
    simp
  | n + 1, [], h => by rw [textR_nil]; simp
  | n + 1, [c], h => by
    rw [textR_one]
    split
    · simp
    · split <;> simp
  | n + 1, c :: d :: r, h => by
    rw [textR_two]
    split
    · simp
    · split
      · simp
      · split
        · exact textR_kind q n r (by simp at h; omega)
        · exact textR_kind q n (d :: r) (by simp at h ⊢; omega)

theorem index_ext (s m : Bs) (h : 0 ≤ Lib.index s [42, 47]) : Lib.index (s ++ m) [42, 47] = Lib.index s [42, 47] := by
  rcases Lib.index_spec s [42, 47] with ⟨h1, _⟩ | ⟨j, hj, hjl, hocc, hno⟩
  · omega
  · have hr := Lib.index_room s [42, 47] (by omega)
    simp only [List.length_cons, List.length_nil] at hr
    rw [hj]
    refine Lib.index_first (by simp; omega) ?_ (fun k hk => ?_)
    · unfold Lib.occAt at hocc ⊢
      rw [List.drop_append_of_le_length hjl]
      rw [List.isPrefixOf_iff_prefix] at hocc ⊢
      exact hocc.trans (List.prefix_append _ _)
    · have := hno k hk
      unfold Lib.occAt at this ⊢
      cases hp : List.isPrefixOf [42, 47] ((s ++ m).drop k)
      · rfl
      · rw [List.drop_append_of_le_length (by omega)] at hp
        rw [List.isPrefixOf_iff_prefix] at hp
        have hp2 := List.prefix_of_prefix_length_le hp (List.prefix_append (s.drop k) m) (by simp; omega)
        rw [← List.isPrefixOf_iff_prefix] at hp2
        rw [hp2] at this
        cases this

end Go.Proofs.YtmjbaimccbkmpaaGreatDoor.tok

namespace Go.Proofs.YtmjbaimccbkmpaaGreatDoor.tok
open Go.RowKit Go.Proofs.YtmjbaimccbkmpaaGreatDoor.base
set_option linter.unusedVariables false

/-- its last token is whole, and no blank -/
def Ends (l : Bs) : Prop := ∀ t, (cutP l).getLast? = some t → ¬ t.k = 6 ∧ ¬ t.k = 9 ∧ ¬ t.k = 8

theorem cut_ne {r : Bs} (h : r ≠ []) : cutP r ≠ [] := by rw [cutP_cons h]; simp
theorem ends_rest {l : Bs} (h0 : l ≠ []) (hE : Ends l) : (l.drop (firstP l).raw.length = [] → ¬ (firstP l).k = 6 ∧ ¬ (firstP l).k = 9 ∧ ¬ (firstP l).k = 8) ∧ (l.drop (firstP l).raw.length ≠ [] → Ends (l.drop (firstP l).raw.length)) := by
  refine ⟨fun h => hE _ ?_, fun h t ht => hE t ?_⟩
  · rw [cutP_cons h0, h, cutP_nil]
    rfl
  · rw [cutP_cons h0]
    obtain ⟨a, al, hx⟩ := List.exists_cons_of_ne_nil (cut_ne h)
    rw [hx] at ht ⊢
    rw [List.getLast?_cons_cons]
    exact ht
theorem first_92 : firstP [92] = ⟨6, [92], [], 0⟩ := by
  rw [firstP, if_neg (by decide), if_neg (by decide), if_neg (by decide), if_neg (by decide), if_neg (by decide), if_neg (by decide), if_neg (by decide)]
  rfl
theorem cut_92 : cutP [92] = [⟨6, [92], [], 0⟩] := by
  rw [cutP_cons (by decide), first_92]
  simp [cutP_nil]
theorem first_4592 : firstP [45, 92] = ⟨12, [45], [], 0⟩ := by
  rw [firstP, if_neg (by decide), if_neg (by decide), if_neg (by decide), if_neg (by decide), if_neg (by decide), if_neg (by decide), if_neg (by decide)]
  rfl
theorem cut_4592 : cutP [45, 92] = [⟨12, [45], [], 0⟩, ⟨6, [92], [], 0⟩] := by
  rw [cutP_cons (by decide), first_4592]
  simp [cut_92]
theorem first_3592 : firstP [35, 92] = ⟨12, [35], [], 0⟩ := by
  rw [firstP, if_neg (by decide), if_neg (by decide), if_neg (by decide), if_neg (by decide), if_neg (by decide), if_neg (by decide), if_neg (by decide)]
  rfl
theorem first_6492 : firstP [64, 92] = ⟨12, [64], [], 0⟩ := by
  rw [firstP, if_neg (by decide), if_neg (by decide), if_neg (by decide), if_neg (by decide), if_neg (by decide), if_neg (by decide), if_neg (by decide)]
  rfl
theorem first_644592 : firstP [64, 45, 92] = ⟨12, [64], [], 0⟩ := by
  rw [firstP, if_neg (by decide), if_neg (by decide), if_neg (by decide), if_neg (by decide), if_neg (by decide), if_neg (by decide), if_neg (by decide)]
  rfl
theorem no_92 {l : Bs} (h : Ends l) : l ≠ [92] := fun e => by
  subst e
  have := h ⟨6, [92], [], 0⟩ (by rw [cut_92]; rfl)
  exact this.1 rfl
theorem no_4592 {l : Bs} (h : Ends l) : l ≠ [45, 92] := fun e => by
  subst e
  have := h ⟨6, [92], [], 0⟩ (by rw [cut_4592]; rfl)
  exact this.1 rfl
theorem no_3592 {l : Bs} (h : Ends l) : l ≠ [35, 92] := fun e => by
  subst e
  have := h ⟨6, [92], [], 0⟩ (by rw [cutP_cons (by decide), first_3592]; simp [cut_92])
  exact this.1 rfl
theorem no_6492 {l : Bs} (h : Ends l) : l ≠ [64, 92] := fun e => by
  subst e
  have := h ⟨6, [92], [], 0⟩ (by rw [cutP_cons (by decide), first_6492]; simp [cut_92])
  exact this.1 rfl
theorem no_644592 {l : Bs} (h : Ends l) : l ≠ [64, 45, 92] := fun e => by
  subst e
  have := h ⟨6, [92], [], 0⟩ (by rw [cutP_cons (by decide), first_644592]; simp [cut_4592])
  exact this.1 rfl

theorem while_len (p : UInt8 → Bool) (x : Bs) : ∀ l : Bs, (l.takeWhile p).length < l.length → ((l ++ x).takeWhile p).length = (l.takeWhile p).length
  | [], h => by simp at h
  | c :: l, h => by
    simp only [List.cons_append, List.takeWhile_cons] at h ⊢
    cases hp : p c
    · rfl
    · rw [hp] at h
      simp only [if_true, List.length_cons] at h ⊢
      rw [while_len p x l (by omega)]
theorem space_ext {l : Bs} (x : Bs) (h : spaceP l < l.length) : spaceP (l ++ x) = spaceP l := while_len _ x l h
theorem hp2_ext (m : Bs) {l : Bs} (h0 : l ≠ []) : Lib.hasPrefix (l ++ 32 :: m) [47, 42] = Lib.hasPrefix l [47, 42] := by
  match l, h0 with
  | [a], _ =>
    simp only [Lib.hasPrefix, List.cons_append, List.nil_append, List.isPrefixOf]
    cases (47 == a) <;> rfl
  | a :: b :: r, _ => rfl
theorem hp1_ext (m y : Bs) (c : UInt8) (hc : (c == 32) = false) : Lib.hasPrefix (y ++ 32 :: m) [c] = Lib.hasPrefix y [c] := by
  cases y with
  | nil => simp [Lib.hasPrefix, List.isPrefixOf, hc]
  | cons a r => rfl
theorem quote_ext (x : Bs) {l : Bs} (h0 : l ≠ []) : quoteP (l ++ x) = quoteP l := by
  cases l with
  | nil => exact absurd rfl h0
  | cons a r => rfl
theorem one_ext (x : Bs) {l : Bs} (h0 : l ≠ []) : oneK (l ++ x) = oneK l := by
  cases l with
  | nil => exact absurd rfl h0
  | cons a r => rfl
theorem hash_ext (m : Bs) {l : Bs} (h0 : l ≠ []) (h : l ≠ [35, 92]) : hashP (l ++ 32 :: m) = hashP l := by
  match l, h0, h with
  | [a], _, _ =>
    simp only [List.cons_append, List.nil_append, hashP, esc_32]
    simp [signI, startsI, digI, nv]
  | [a, b], _, h =>
    simp only [List.cons_append, List.nil_append, hashP]
    by_cases h35 : nv a = 35
    · have h92 : ¬ nv b = 92 := fun e => h (by rw [nv92 e, nv_eq (n := 35) (by decide) h35]; rfl)
      rw [esc_blank b m h92]
      rfl
    · simp [h35]
  | a :: b :: c :: r, _, _ => rfl
theorem at_ext (m : Bs) {l : Bs} (h0 : l ≠ []) (h1 : l ≠ [64, 92]) (h2 : l ≠ [64, 45, 92]) : atP (l ++ 32 :: m) = atP l := by
  match l, h0, h1, h2 with
  | a :: r, _, h1, h2 =>
    simp only [List.cons_append, atP]
    by_cases h64 : nv a = 64
    · have ha := nv_eq (n := 64) (by decide) h64
      rw [begins_ext m (fun e => h1 (by rw [e, ha]; rfl)) (fun e => h2 (by rw [e, ha]; rfl))]
    · simp [h64]
theorem take_ext (x : Bs) {l : Bs} {k : Nat} (h : k ≤ l.length) : (l ++ x).take k = l.take k := List.take_append_of_le_length h
theorem drop_ext (x : Bs) {l : Bs} {k : Nat} (h : k ≤ l.length) : (l ++ x).drop k = l.drop k ++ x := List.drop_append_of_le_length h

theorem first_ext (m : Bs) {l : Bs} (h0 : l ≠ []) (hE : Ends l) : firstP (l ++ 32 :: m) = firstP l := by
  have hl : 0 < l.length := List.length_pos_iff.2 h0
  obtain ⟨hR1, hR2⟩ := ends_rest h0 hE
  have hne : l ++ 32 :: m ≠ [] := by simp
  generalize hF : firstP l = F at *
  rw [firstP] at hF
  by_cases hsp : 0 < spaceP l
  · rw [if_pos hsp] at hF
    subst hF
    have hle := space_le l
    have hlen : (l.take (spaceP l)).length = spaceP l := by rw [List.length_take]; omega
    simp only [hlen] at hR1
    have hlt : spaceP l < l.length := by
      rcases Nat.lt_or_ge (spaceP l) l.length with h | h
      · exact h
      · exact ((hR1 (List.drop_eq_nil_of_le h)).2.2 (by trivial)).elim
    rw [firstP, space_ext _ hlt, if_pos hsp, take_ext _ hle]
  rw [if_neg hsp] at hF
  have hsz : spaceP l = 0 := by omega
  have e0 : spaceP (l ++ 32 :: m) = 0 := by rw [space_ext _ (by omega), hsz]
  rw [firstP, e0, if_neg (by omega), hp2_ext m h0]
  by_cases hn : Lib.hasPrefix l [47, 42] = true
  · rw [if_pos hn] at hF
    rw [if_pos hn]
    subst hF
    have h2 : 2 ≤ l.length := by
      match l, hn with
      | [], hn => simp [Lib.hasPrefix, List.isPrefixOf] at hn
      | [a], hn => simp [Lib.hasPrefix, List.isPrefixOf] at hn
      | a :: b :: r, _ => simp
    by_cases hi : 0 ≤ Lib.index (l.drop 2) [42, 47]
    · have hr := Lib.index_room (l.drop 2) [42, 47] hi
      rw [List.length_drop] at hr
      simp only [List.length_cons, List.length_nil] at hr
      unfold noteP
      rw [drop_ext _ h2, index_ext _ _ hi, if_pos hi, if_pos hi, take_ext _ (by omega)]
    · exfalso
      have e : noteP l = ⟨9, l, [], 0⟩ := by unfold noteP; rw [if_neg hi]
      rw [e] at hR1
      exact (hR1 (by simp)).2.1 rfl
  rw [if_neg hn] at hF
  rw [if_neg hn, quote_ext _ h0]
  by_cases hq : quoteP l = true
  · rw [if_pos hq] at hF
    rw [if_pos hq]
    subst hF
    match l, h0, hR1 with
    | q :: r, _, hR1 =>
      simp only [textP, List.cons_append] at hR1 ⊢
      have hle := textR_le q _ r (Nat.le_refl _)
      have hk := textR_kind q _ r (Nat.le_refl _)
      have hc : (textR q r).2.1 < r.length ∨ (textR q r).1 = 5 := by
        rcases hk with hk | hk
        · exact Or.inr hk
        · rcases Nat.lt_or_ge (textR q r).2.1 r.length with h | h
          · exact Or.inl h
          · exfalso
            refine (hR1 (List.drop_eq_nil_of_le ?_)).1 hk
            rw [List.length_take]
            simp
            omega
      rw [textR_ext q m _ r (Nat.le_refl _) hc]
      congr 1
      rw [Nat.add_comm 1, List.take_succ_cons, List.take_succ_cons, take_ext _ hle]
  rw [if_neg hq] at hF
  rw [if_neg hq, hash_ext m h0 (no_3592 hE)]
  -- a name behind so many signs
  have named : ∀ (k : Int) (a : Nat), a ≤ l.length → F = namedP k l a → namedP k (l ++ 32 :: m) a = namedP k l a := by
    intro k a ha e
    have hle := nameP_le _ (l.drop a) (Nat.le_refl _)
    rw [List.length_drop] at hle
    have hrest : (l.drop a).drop (nameP (l.drop a)).2 ≠ [92] := by
      rw [List.drop_drop]
      have hlen : F.raw.length = a + (nameP (l.drop a)).2 := by
        rw [e]
        simp only [namedP, List.length_take]
        omega
      rw [hlen] at hR2
      intro e92
      exact no_92 (hR2 (by rw [e92]; simp)) e92
    simp only [namedP]
    rw [drop_ext _ ha, name_ext' m hrest, take_ext _ (by omega)]
  by_cases hh : hashP l = true
  · rw [if_pos hh] at hF
    rw [if_pos hh, named 4 1 (by omega) hF.symm, hF]
  rw [if_neg hh] at hF
  rw [if_neg hh, at_ext m h0 (no_6492 hE) (no_644592 hE)]
  by_cases ha : atP l = true
  · rw [if_pos ha] at hF
    rw [if_pos ha, named 3 1 (by omega) hF.symm, hF]
  rw [if_neg ha] at hF
  rw [if_neg ha, number_ext m h0]
  by_cases hnum : 0 < (numberP l).2
  · rw [if_pos hnum] at hF
    rw [if_pos hnum]
    have hnl := numberP_le l
    generalize numberP l = N at *
    obtain ⟨nm, n⟩ := N
    simp only at hnum hF hnl ⊢
    unfold numTkP at hF ⊢
    rw [drop_ext _ hnl, hp1_ext m _ 37 rfl]
    by_cases hp : Lib.hasPrefix (l.drop n) [37] = true
    · rw [if_pos hp] at hF ⊢
      have := hp_roomc hp
      rw [take_ext _ (by omega), hF]
    · rw [if_neg hp] at hF ⊢
      have hsafe : l.drop n ≠ [92] ∧ l.drop n ≠ [45, 92] := by
        constructor
        · intro e
          rw [e, if_neg (by decide)] at hF
          subst hF
          simp only [List.length_take, Nat.min_eq_left hnl] at hR2
          exact no_92 (hR2 (by rw [e]; simp)) e
        · intro e
          rw [e, if_neg (by decide)] at hF
          subst hF
          simp only [List.length_take, Nat.min_eq_left hnl] at hR2
          exact no_4592 (hR2 (by rw [e]; simp)) e
      rw [begins_ext m hsafe.1 hsafe.2]
      by_cases hb : beginsP (l.drop n) = true
      · rw [if_pos hb] at hF ⊢
        have hle := nameP_le _ (l.drop n) (Nat.le_refl _)
        rw [List.length_drop] at hle
        have hrest : (l.drop n).drop (nameP (l.drop n)).2 ≠ [92] := by
          rw [List.drop_drop]
          have hlen : F.raw.length = n + (nameP (l.drop n)).2 := by
            rw [← hF]
            simp only [List.length_take]
            omega
          rw [hlen] at hR2
          intro e92
          exact no_92 (hR2 (by rw [e92]; simp)) e92
        rw [name_ext' m hrest, take_ext _ (by omega), hF]
      · rw [if_neg hb] at hF ⊢
        rw [take_ext _ hnl, hF]
  rw [if_neg hnum] at hF
  rw [if_neg hnum, begins_ext m (no_92 hE) (no_4592 hE)]
  by_cases hb : beginsP l = true
  · rw [if_pos hb] at hF
    rw [if_pos hb]
    have hle := nameP_le _ l (Nat.le_refl _)
    have hnl : (namedP 1 l 0).raw.length = (nameP l).2 := by
      simp only [namedP, List.drop_zero, Nat.zero_add, List.length_take]
      omega
    have hrest : l.drop (nameP l).2 ≠ [92] := by
      intro e92
      unfold wordP at hF
      rw [hnl, e92, if_neg (by decide)] at hF
      rw [← hF, hnl] at hR2
      exact no_92 (hR2 (by rw [e92]; simp)) e92
    have e1 : namedP 1 (l ++ 32 :: m) 0 = namedP 1 l 0 := by
      simp only [namedP, List.drop_zero, Nat.zero_add]
      rw [name_ext' m hrest, take_ext _ hle]
    unfold wordP at hF ⊢
    rw [e1, hnl, drop_ext _ hle, hp1_ext m _ 40 rfl]
    rw [hnl] at hF
    by_cases hp : Lib.hasPrefix (l.drop (nameP l).2) [40] = true
    · rw [if_pos hp] at hF ⊢
      have := hp_roomc hp
      rw [take_ext _ (by omega), hF]
    · rw [if_neg hp] at hF ⊢
      exact hF
  · rw [if_neg hb] at hF
    rw [if_neg hb, one_ext _ h0, take_ext _ (by omega), hF]

theorem cut_apart (m : Bs) : ∀ (n : Nat) (l : Bs), l.length ≤ n → l ≠ [] → Ends l → cutP (l ++ 32 :: m) = cutP l ++ cutP (32 :: m)
  | 0, l, h, h0, _ => absurd (List.eq_nil_of_length_eq_zero (Nat.le_zero.1 h)) h0
  | n + 1, l, h, h0, hE => by
    have hp := (first_pre l h0).2
    have hrw := first_raw l h0
    obtain ⟨hR1, hR2⟩ := ends_rest h0 hE
    have hrl : (firstP l).raw.length ≤ l.length := by
      rw [hrw, List.length_take]
      omega
    rw [cutP_cons (show l ++ 32 :: m ≠ [] by simp), first_ext m h0 hE, cutP_cons h0, drop_ext _ hrl]
    by_cases hr : l.drop (firstP l).raw.length = []
    · rw [hr, cutP_nil]
      rfl
    · rw [cut_apart m n _ (by rw [List.length_drop]; omega) hr (hR2 hr)]
      rfl

/-- the blank, ahead of what begins with none -/
theorem cut_blank {m : Bs} (h0 : m ≠ []) (hk : ¬ (firstP m).k = 8) : cutP (32 :: m) = ⟨8, [32], [], 0⟩ :: cutP m := by
  have hsp : spaceP m = 0 := by
    rcases Nat.eq_zero_or_pos (spaceP m) with h | h
    · exact h
    · rw [firstP, if_pos h] at hk
      exact absurd rfl hk
  have h1 : spaceP (32 :: m) = 1 := by
    unfold spaceP at hsp ⊢
    rw [List.takeWhile_cons_of_pos (by decide)]
    simp [hsp]
  have hf : firstP (32 :: m) = ⟨8, [32], [], 0⟩ := by
    rw [firstP, h1, if_pos (by omega)]
    rfl
  rw [cutP_cons (by simp), hf]
  rfl

end Go.Proofs.YtmjbaimccbkmpaaGreatDoor.tok

namespace Go.Proofs.YtmjbaimccbkmpaaGreatDoor.tok.st
open Go.RowKit Go.Proofs.YtmjbaimccbkmpaaGreatDoor.base Go.Proofs.YtmjbaimccbkmpaaGreatDoor.tok
set_option linter.unusedVariables false

/-- a sign that goes on with no token ahead of it -/
def Stop (c : UInt8) : Prop := signI (nv c) = false ∧ ¬ nv c = 92 ∧ ¬ nv c = 46 ∧ ¬ nv c = 37 ∧ ¬ nv c = 40 ∧ ¬ nv c = 42
instance (c : UInt8) : Decidable (Stop c) := by unfold Stop; exact inferInstance
theorem Stop.starts {s : UInt8} (h : Stop s) : startsI (nv s) = false := by
  have := h.1
  simp only [signI, Bool.or_eq_false_iff] at this
  exact this.1.1
theorem Stop.digit {s : UInt8} (h : Stop s) : digI (nv s) = false := by
  have := h.1
  simp only [signI, Bool.or_eq_false_iff] at this
  exact this.1.2
theorem Stop.minus {s : UInt8} (h : Stop s) : ¬ nv s = 45 := by
  have := h.1
  simp only [signI, Bool.or_eq_false_iff, decide_eq_false_iff_not] at this
  exact this.2
theorem Stop.ne {s : UInt8} {c : UInt8} (h : ¬ nv s = nv c) : (c == s) = false := by
  rw [beq_eq_false_iff_ne]
  intro e
  subst e
  exact h rfl


theorem esc_blank (s c : UInt8) (m : Bs) (h : ¬ nv c = 92) : escP (c :: s :: m) = false := by simp [escP, h]
theorem esc_32 {s : UInt8} (hS : Stop s) (m : Bs) : escP (s :: m) = false := by
  cases m with
  | nil => rfl
  | cons d m => simp [escP, hS.2.1]
theorem name_blank {s : UInt8} (hS : Stop s) (m : Bs) : nameP (s :: m) = ([], 0) := by
  cases m with
  | nil => rw [name_cons1, if_neg (by rw [hS.1]; simp)]
  | cons d m =>
    rw [name_cons2, if_neg (by rw [esc_32 hS]; simp), if_neg (by rw [hS.1]; simp)]
theorem begins_blank {s : UInt8} (hS : Stop s) (m : Bs) : beginsP (s :: m) = false := by
  cases m with
  | nil => exact hS.starts
  | cons d m =>
    simp only [beginsP]
    rw [if_neg hS.minus, esc_32 hS, hS.starts]
    rfl

theorem name_ext {s : UInt8} (hS : Stop s) (m : Bs) : ∀ (n : Nat) (y : Bs), y.length ≤ n → y.drop (nameP y).2 ≠ [92] → nameP (y ++ s :: m) = nameP y
  | 0, y, h, hd => by
    obtain rfl := List.eq_nil_of_length_eq_zero (Nat.le_zero.1 h)
    rw [List.nil_append, name_blank hS, name_nil]
  | n + 1, [], h, hd => by rw [List.nil_append, name_blank hS, name_nil]
  | n + 1, [c], h, hd => by
    rw [name_cons1] at hd
    simp only [List.cons_append, List.nil_append]
    rw [name_cons2, name_cons1]
    by_cases hs : signI (nv c) = true
    · have h92 : ¬ nv c = 92 := fun e => by rw [sign_92 e] at hs; cases hs
      rw [if_neg (by rw [esc_blank s c m h92]; simp), if_pos hs, if_pos hs, name_blank hS]
    · rw [if_neg hs] at hd
      have h92 : ¬ nv c = 92 := fun e => hd (by rw [nv92 e]; rfl)
      rw [if_neg (by rw [esc_blank s c m h92]; simp), if_neg hs, if_neg hs]
  | n + 1, c :: d :: r, h, hd => by
    rw [name_cons2] at hd ⊢
    simp only [List.cons_append]
    rw [name_cons2]
    have he : escP (c :: d :: (r ++ s :: m)) = escP (c :: d :: r) := rfl
    rw [he]
    by_cases h1 : escP (c :: d :: r) = true
    · rw [if_pos h1] at hd ⊢
      rw [if_pos h1, name_ext hS m n r (by simp at h; omega) (by simpa using hd)]
    · rw [if_neg h1] at hd ⊢
      rw [if_neg h1]
      by_cases hs : signI (nv c) = true
      · rw [if_pos hs] at hd ⊢
        rw [if_pos hs]
        have ih := name_ext hS m n (d :: r) (by simp at h ⊢; omega) (by simpa using hd)
        rw [List.cons_append] at ih
        rw [ih]
      · rw [if_neg hs, if_neg hs]
theorem name_ext' {s : UInt8} (hS : Stop s) (m : Bs) {y : Bs} (h : y.drop (nameP y).2 ≠ [92]) : nameP (y ++ s :: m) = nameP y := name_ext hS m _ y (Nat.le_refl _) h

theorem begins_ext {s : UInt8} (hS : Stop s) (m : Bs) {r : Bs} (h1 : r ≠ [92]) (h2 : r ≠ [45, 92]) : beginsP (r ++ s :: m) = beginsP r := by
  match r, h1, h2 with
  | [], _, _ => exact begins_blank hS m
  | [c], h1, _ =>
    simp only [List.cons_append, List.nil_append, beginsP]
    have h92 : ¬ nv c = 92 := fun e => h1 (by rw [nv92 e])
    by_cases h45 : nv c = 45
    · rw [if_pos h45, esc_32 hS, h45, hS.starts, decide_eq_false hS.minus]
      rfl
    · rw [if_neg h45, esc_blank s c m h92]
      simp
  | c :: d :: r, _, h2 =>
    simp only [List.cons_append, beginsP]
    by_cases h45 : nv c = 45
    · rw [if_pos h45, if_pos h45]
      cases r with
      | nil =>
        have h92 : ¬ nv d = 92 := fun e => h2 (by rw [nv92 e, nv_eq (n := 45) (by decide) h45]; rfl)
        simp only [List.nil_append]
        rw [esc_blank s d m h92]
        rfl
      | cons e r => rfl
    · rw [if_neg h45, if_neg h45]
      rfl

theorem while_app {s : UInt8} (p : UInt8 → Bool) (m : Bs) (h : p s = false) : ∀ y : Bs, ((y ++ s :: m).takeWhile p).length = (y.takeWhile p).length
  | [] => by simp [h]
  | c :: y => by
    simp only [List.cons_append, List.takeWhile_cons]
    cases p c
    · rfl
    · simp only [if_true, List.length_cons]
      rw [while_app p m h y]
theorem digits_ext {s : UInt8} (hS : Stop s) (m y : Bs) : digitsP (y ++ s :: m) = digitsP y := while_app _ m hS.digit y
theorem behind_ext {s : UInt8} (hS : Stop s) (m y : Bs) : behindP (y ++ s :: m) = behindP y := by
  cases y with
  | nil =>
    simp only [List.nil_append, behindP]
    rw [if_neg hS.2.2.1]
  | cons c t =>
    simp only [List.cons_append, behindP, digits_ext hS]

theorem number_ext {s : UInt8} (hS : Stop s) (m : Bs) {l : Bs} (h0 : l ≠ []) : numberP (l ++ s :: m) = numberP l := by
  have hs : signAt (l ++ s :: m) = signAt l ∧ negP (l ++ s :: m) = negP l := by
    cases l with
    | nil => exact absurd rfl h0
    | cons c r => exact ⟨rfl, rfl⟩
  obtain ⟨_, hsl⟩ := signAt_le l
  unfold numberP
  rw [hs.1, hs.2]
  generalize signAt l = f at *
  have e1 : digitsP ((l ++ s :: m).drop f) = digitsP (l.drop f) := by rw [List.drop_append_of_le_length hsl, digits_ext hS]
  rw [e1]
  have hw := digits_le (l.drop f)
  rw [List.length_drop] at hw
  generalize digitsP (l.drop f) = wh at *
  have e2 : behindP ((l ++ s :: m).drop (f + wh)) = behindP (l.drop (f + wh)) := by rw [List.drop_append_of_le_length (by omega), behind_ext hS]
  rw [e2]
  have hb := behind_le (l.drop (f + wh))
  rw [List.length_drop] at hb
  generalize behindP (l.drop (f + wh)) = be at *
  unfold numAt
  have e3 : sumP (l ++ s :: m) f wh be = sumP l f wh be := by
    unfold sumP
    have a1 : ((l ++ s :: m).drop f).take wh = (l.drop f).take wh := by
      rw [List.drop_append_of_le_length hsl, List.take_append_of_le_length (by rw [List.length_drop]; omega)]
    have a2 : ((l ++ s :: m).drop (f + wh + 1)).take be = (l.drop (f + wh + 1)).take be := by
      rcases hb with hb | hb
      · rw [hb]; simp
      · rw [List.drop_append_of_le_length (by omega), List.take_append_of_le_length (by rw [List.length_drop]; omega)]
    rw [a1, a2]
  rw [e3]

theorem textR_ext (q s : UInt8) (m : Bs) : ∀ (n : Nat) (r : Bs), r.length ≤ n → ((textR q r).2.1 < r.length ∨ (textR q r).1 = 5) → textR q (r ++ s :: m) = textR q r
  | 0, r, h, hc => by
    obtain rfl := List.eq_nil_of_length_eq_zero (Nat.le_zero.1 h)
    rw [textR_nil] at hc
    simp at hc
  | n + 1, [], h, hc => by
    rw [textR_nil] at hc
    simp at hc
  | n + 1, [c], h, hc => by
    rw [textR_one] at hc ⊢
    simp only [List.cons_append, List.nil_append]
    rw [textR_two]
    split
    · rfl
    · split
      · rfl
      · rename_i h1 h2
        rw [if_neg h1, if_neg h2] at hc
        simp at hc
  | n + 1, c :: d :: r, h, hc => by
    rw [textR_two] at hc ⊢
    simp only [List.cons_append]
    rw [textR_two]
    split
    · rfl
    · rename_i h1
      split
      · rfl
      · rename_i h2
        rw [if_neg h1, if_neg h2] at hc
        split
        · rename_i h3
          rw [if_pos h3] at hc
          rw [textR_ext q s m n r (by simp at h; omega) (by simp only [List.length_cons] at hc; omega)]
        · rename_i h3
          rw [if_neg h3] at hc
          have ih := textR_ext q s m n (d :: r) (by simp at h ⊢; omega) (by simp only [List.length_cons] at hc ⊢; omega)
          rw [List.cons_append] at ih
          rw [ih]
theorem hp2_ext {s : UInt8} (hS : Stop s) (m : Bs) {l : Bs} (h0 : l ≠ []) : Lib.hasPrefix (l ++ s :: m) [47, 42] = Lib.hasPrefix l [47, 42] := by
  match l, h0 with
  | [a], _ =>
    simp only [Lib.hasPrefix, List.cons_append, List.nil_append, List.isPrefixOf, Stop.ne (c := 42) hS.2.2.2.2.2]
    cases (47 == a) <;> rfl
  | a :: b :: r, _ => rfl
theorem hp1_ext {s : UInt8} (hS : Stop s) (m y : Bs) (c : UInt8) (hc : (c == s) = false) : Lib.hasPrefix (y ++ s :: m) [c] = Lib.hasPrefix y [c] := by
  cases y with
  | nil => simp [Lib.hasPrefix, List.isPrefixOf, hc]
  | cons a r => rfl
theorem hash_ext {s : UInt8} (hS : Stop s) (m : Bs) {l : Bs} (h0 : l ≠ []) (h : l ≠ [35, 92]) : hashP (l ++ s :: m) = hashP l := by
  match l, h0, h with
  | [a], _, _ =>
    simp only [List.cons_append, List.nil_append, hashP, esc_32 hS, hS.1]
    simp
  | [a, b], _, h =>
    simp only [List.cons_append, List.nil_append, hashP]
    by_cases h35 : nv a = 35
    · have h92 : ¬ nv b = 92 := fun e => h (by rw [nv92 e, nv_eq (n := 35) (by decide) h35]; rfl)
      rw [esc_blank s b m h92]
      rfl
    · simp [h35]
  | a :: b :: c :: r, _, _ => rfl
theorem at_ext {s : UInt8} (hS : Stop s) (m : Bs) {l : Bs} (h0 : l ≠ []) (h1 : l ≠ [64, 92]) (h2 : l ≠ [64, 45, 92]) : atP (l ++ s :: m) = atP l := by
  match l, h0, h1, h2 with
  | a :: r, _, h1, h2 =>
    simp only [List.cons_append, atP]
    by_cases h64 : nv a = 64
    · have ha := nv_eq (n := 64) (by decide) h64
      rw [begins_ext hS m (fun e => h1 (by rw [e, ha]; rfl)) (fun e => h2 (by rw [e, ha]; rfl))]
    · simp [h64]
theorem first_ext {s : UInt8} (hS : Stop s) (m : Bs) {l : Bs} (h0 : l ≠ []) (hE : Ends l) : firstP (l ++ s :: m) = firstP l := by
  have hl : 0 < l.length := List.length_pos_iff.2 h0
  obtain ⟨hR1, hR2⟩ := ends_rest h0 hE
  have hne : l ++ s :: m ≠ [] := by simp
  generalize hF : firstP l = F at *
  rw [firstP] at hF
  by_cases hsp : 0 < spaceP l
  · rw [if_pos hsp] at hF
    subst hF
    have hle := space_le l
    have hlen : (l.take (spaceP l)).length = spaceP l := by rw [List.length_take]; omega
    simp only [hlen] at hR1
    have hlt : spaceP l < l.length := by
      rcases Nat.lt_or_ge (spaceP l) l.length with h | h
      · exact h
      · exact ((hR1 (List.drop_eq_nil_of_le h)).2.2 (by trivial)).elim
    rw [firstP, space_ext _ hlt, if_pos hsp, take_ext _ hle]
  rw [if_neg hsp] at hF
  have hsz : spaceP l = 0 := by omega
  have e0 : spaceP (l ++ s :: m) = 0 := by rw [space_ext _ (by omega), hsz]
  rw [firstP, e0, if_neg (by omega), hp2_ext hS m h0]
  by_cases hn : Lib.hasPrefix l [47, 42] = true
  · rw [if_pos hn] at hF
    rw [if_pos hn]
    subst hF
    have h2 : 2 ≤ l.length := by
      match l, hn with
      | [], hn => simp [Lib.hasPrefix, List.isPrefixOf] at hn
      | [a], hn => simp [Lib.hasPrefix, List.isPrefixOf] at hn
      | a :: b :: r, _ => simp
    by_cases hi : 0 ≤ Lib.index (l.drop 2) [42, 47]
    · have hr := Lib.index_room (l.drop 2) [42, 47] hi
      rw [List.length_drop] at hr
      simp only [List.length_cons, List.length_nil] at hr
      unfold noteP
      rw [drop_ext _ h2, index_ext _ _ hi, if_pos hi, if_pos hi, take_ext _ (by omega)]
    · exfalso
      have e : noteP l = ⟨9, l, [], 0⟩ := by unfold noteP; rw [if_neg hi]
      rw [e] at hR1
      exact (hR1 (by simp)).2.1 rfl
  rw [if_neg hn] at hF
  rw [if_neg hn, quote_ext _ h0]
  by_cases hq : quoteP l = true
  · rw [if_pos hq] at hF
    rw [if_pos hq]
    subst hF
    match l, h0, hR1 with
    | q :: r, _, hR1 =>
      simp only [textP, List.cons_append] at hR1 ⊢
      have hle := textR_le q _ r (Nat.le_refl _)
      have hk := textR_kind q _ r (Nat.le_refl _)
      have hc : (textR q r).2.1 < r.length ∨ (textR q r).1 = 5 := by
        rcases hk with hk | hk
        · exact Or.inr hk
        · rcases Nat.lt_or_ge (textR q r).2.1 r.length with h | h
          · exact Or.inl h
          · exfalso
            refine (hR1 (List.drop_eq_nil_of_le ?_)).1 hk
            rw [List.length_take]
            simp
            omega
      rw [textR_ext q s m _ r (Nat.le_refl _) hc]
      congr 1
      rw [Nat.add_comm 1, List.take_succ_cons, List.take_succ_cons, take_ext _ hle]
  rw [if_neg hq] at hF
  rw [if_neg hq, hash_ext hS m h0 (no_3592 hE)]
  -- a name behind so many signs
  have named : ∀ (k : Int) (a : Nat), a ≤ l.length → F = namedP k l a → namedP k (l ++ s :: m) a = namedP k l a := by
    intro k a ha e
    have hle := nameP_le _ (l.drop a) (Nat.le_refl _)
    rw [List.length_drop] at hle
    have hrest : (l.drop a).drop (nameP (l.drop a)).2 ≠ [92] := by
      rw [List.drop_drop]
      have hlen : F.raw.length = a + (nameP (l.drop a)).2 := by
        rw [e]
        simp only [namedP, List.length_take]
        omega
      rw [hlen] at hR2
      intro e92
      exact no_92 (hR2 (by rw [e92]; simp)) e92
    simp only [namedP]
    rw [drop_ext _ ha, name_ext' hS m hrest, take_ext _ (by omega)]
  by_cases hh : hashP l = true
  · rw [if_pos hh] at hF
    rw [if_pos hh, named 4 1 (by omega) hF.symm, hF]
  rw [if_neg hh] at hF
  rw [if_neg hh, at_ext hS m h0 (no_6492 hE) (no_644592 hE)]
  by_cases ha : atP l = true
  · rw [if_pos ha] at hF
    rw [if_pos ha, named 3 1 (by omega) hF.symm, hF]
  rw [if_neg ha] at hF
  rw [if_neg ha, number_ext hS m h0]
  by_cases hnum : 0 < (numberP l).2
  · rw [if_pos hnum] at hF
    rw [if_pos hnum]
    have hnl := numberP_le l
    generalize numberP l = N at *
    obtain ⟨nm, n⟩ := N
    simp only at hnum hF hnl ⊢
    unfold numTkP at hF ⊢
    rw [drop_ext _ hnl, hp1_ext hS m _ 37 (Stop.ne (c := 37) hS.2.2.2.1)]
    by_cases hp : Lib.hasPrefix (l.drop n) [37] = true
    · rw [if_pos hp] at hF ⊢
      have := hp_roomc hp
      rw [take_ext _ (by omega), hF]
    · rw [if_neg hp] at hF ⊢
      have hsafe : l.drop n ≠ [92] ∧ l.drop n ≠ [45, 92] := by
        constructor
        · intro e
          rw [e, if_neg (by decide)] at hF
          subst hF
          simp only [List.length_take, Nat.min_eq_left hnl] at hR2
          exact no_92 (hR2 (by rw [e]; simp)) e
        · intro e
          rw [e, if_neg (by decide)] at hF
          subst hF
          simp only [List.length_take, Nat.min_eq_left hnl] at hR2
          exact no_4592 (hR2 (by rw [e]; simp)) e
      rw [begins_ext hS m hsafe.1 hsafe.2]
      by_cases hb : beginsP (l.drop n) = true
      · rw [if_pos hb] at hF ⊢
        have hle := nameP_le _ (l.drop n) (Nat.le_refl _)
        rw [List.length_drop] at hle
        have hrest : (l.drop n).drop (nameP (l.drop n)).2 ≠ [92] := by
          rw [List.drop_drop]
          have hlen : F.raw.length = n + (nameP (l.drop n)).2 := by
            rw [← hF]
            simp only [List.length_take]
            omega
          rw [hlen] at hR2
          intro e92
          exact no_92 (hR2 (by rw [e92]; simp)) e92
        rw [name_ext' hS m hrest, take_ext _ (by omega), hF]
      · rw [if_neg hb] at hF ⊢
        rw [take_ext _ hnl, hF]
  rw [if_neg hnum] at hF
  rw [if_neg hnum, begins_ext hS m (no_92 hE) (no_4592 hE)]
  by_cases hb : beginsP l = true
  · rw [if_pos hb] at hF
    rw [if_pos hb]
    have hle := nameP_le _ l (Nat.le_refl _)
    have hnl : (namedP 1 l 0).raw.length = (nameP l).2 := by
      simp only [namedP, List.drop_zero, Nat.zero_add, List.length_take]
      omega
    have hrest : l.drop (nameP l).2 ≠ [92] := by
      intro e92
      unfold wordP at hF
      rw [hnl, e92, if_neg (by decide)] at hF
      rw [← hF, hnl] at hR2
      exact no_92 (hR2 (by rw [e92]; simp)) e92
    have e1 : namedP 1 (l ++ s :: m) 0 = namedP 1 l 0 := by
      simp only [namedP, List.drop_zero, Nat.zero_add]
      rw [name_ext' hS m hrest, take_ext _ hle]
    unfold wordP at hF ⊢
    rw [e1, hnl, drop_ext _ hle, hp1_ext hS m _ 40 (Stop.ne (c := 40) hS.2.2.2.2.1)]
    rw [hnl] at hF
    by_cases hp : Lib.hasPrefix (l.drop (nameP l).2) [40] = true
    · rw [if_pos hp] at hF ⊢
      have := hp_roomc hp
      rw [take_ext _ (by omega), hF]
    · rw [if_neg hp] at hF ⊢
      exact hF
  · rw [if_neg hb] at hF
    rw [if_neg hb, one_ext _ h0, take_ext _ (by omega), hF]

theorem cut_apart {s : UInt8} (hS : Stop s) (m : Bs) : ∀ (n : Nat) (l : Bs), l.length ≤ n → l ≠ [] → Ends l → cutP (l ++ s :: m) = cutP l ++ cutP (s :: m)
  | 0, l, h, h0, _ => absurd (List.eq_nil_of_length_eq_zero (Nat.le_zero.1 h)) h0
  | n + 1, l, h, h0, hE => by
    have hp := (first_pre l h0).2
    have hrw := first_raw l h0
    obtain ⟨hR1, hR2⟩ := ends_rest h0 hE
    have hrl : (firstP l).raw.length ≤ l.length := by
      rw [hrw, List.length_take]
      omega
    rw [cutP_cons (show l ++ s :: m ≠ [] by simp), first_ext hS m h0 hE, cutP_cons h0, drop_ext _ hrl]
    by_cases hr : l.drop (firstP l).raw.length = []
    · rw [hr, cutP_nil]
      rfl
    · rw [cut_apart hS m n _ (by rw [List.length_drop]; omega) hr (hR2 hr)]
      rfl

end Go.Proofs.YtmjbaimccbkmpaaGreatDoor.tok.st

namespace Go.Proofs.YtmjbaimccbkmpaaGreatDoor.tc
open Go.RowKit Go.Proofs.YtmjbaimccbkmpaaGreatDoor.base Go.Proofs.YtmjbaimccbkmpaaGreatDoor.tok
set_option linter.unusedVariables false

/-- a sign that is a token by itself, whatever is behind it -/
def Solo (c : UInt8) : Prop := blankB c = false ∧ ¬ nv c = 47 ∧ ¬ nv c = 39 ∧ ¬ nv c = 34 ∧ ¬ nv c = 35 ∧ ¬ nv c = 64 ∧ ¬ nv c = 43 ∧ ¬ nv c = 45 ∧ ¬ nv c = 46 ∧ digI (nv c) = false ∧ startsI (nv c) = false ∧ ¬ nv c = 92
instance (c : UInt8) : Decidable (Solo c) := by unfold Solo; infer_instance
theorem first_solo {c : UInt8} (r : Bs) (h : Solo c) : firstP (c :: r) = ⟨oneK [c], [c], [], 0⟩ := by
  obtain ⟨hb, h47, h39, h34, h35, h64, h43, h45, h46, hd, hst, h92⟩ := h
  have hsp : ¬ 0 < spaceP (c :: r) := by
    unfold spaceP
    rw [List.takeWhile_cons_of_neg (by simp [hb])]
    simp
  have hn : ¬ Lib.hasPrefix (c :: r) [47, 42] = true := by
    have : ¬ 47 = c := fun e => h47 (by rw [← e]; rfl)
    simp [Lib.hasPrefix, List.isPrefixOf, this]
  have hq : ¬ quoteP (c :: r) = true := by simp [quoteP, h39, h34]
  have hh : ¬ hashP (c :: r) = true := by cases r <;> simp [hashP, h35]
  have ha : ¬ atP (c :: r) = true := by simp [atP, h64]
  have hnum : ¬ 0 < (numberP (c :: r)).2 := by rw [number_no h43 h45 h46 hd]; simp
  have hbg : ¬ beginsP (c :: r) = true := by
    cases r with
    | nil => simp [beginsP, hst]
    | cons d r => simp [beginsP, hst, h45, escP, h92]
  rw [firstP, if_neg hsp, if_neg hn, if_neg hq, if_neg hh, if_neg ha, if_neg hnum, if_neg hbg]
  rfl
theorem cut_solo {c : UInt8} (r : Bs) (h : Solo c) : cutP (c :: r) = ⟨oneK [c], [c], [], 0⟩ :: cutP r := by
  rw [cutP_cons (by simp), first_solo r h]
  rfl
theorem cut_gaps (sp : Bs) (h0 : sp ≠ []) (h : ∀ x ∈ sp, blankB x = true) (c : UInt8) (hc : blankB c = false) (m : Bs) : cutP (sp ++ c :: m) = ⟨8, sp, [], 0⟩ :: cutP (c :: m) := by
  have hsp : spaceP (sp ++ c :: m) = sp.length := by
    unfold spaceP
    have key : ∀ l : Bs, (∀ x ∈ l, blankB x = true) → ((l ++ c :: m).takeWhile blankB) = l := by
      intro l
      induction l with
      | nil => intro _; rw [List.nil_append, List.takeWhile_cons_of_neg (by simp [hc])]
      | cons a l ih =>
        intro hl
        rw [List.cons_append, List.takeWhile_cons_of_pos (hl a (by simp)), ih (fun x hx => hl x (by simp [hx]))]
    rw [key sp h]
  have hp := List.length_pos_iff.2 h0
  have hf : firstP (sp ++ c :: m) = ⟨8, sp, [], 0⟩ := by
    rw [firstP, hsp, if_pos hp, List.take_left]
  rw [cutP_cons (by simp [h0]), hf]
  simp only [List.drop_left]
theorem name_stop2 {W : Bs} (h : cutP W = [⟨1, W, W, 0⟩]) (h0 : W ≠ []) (s : UInt8) (hS : st.Stop s) (m : Bs) : cutP (W ++ s :: m) = ⟨1, W, W, 0⟩ :: cutP (s :: m) := by
  rw [st.cut_apart hS m _ W (Nat.le_refl _) h0 (fun t ht => by
    rw [h] at ht
    obtain rfl : _ = t := by simpa using ht
    exact ⟨by simp, by simp, by simp⟩), h]
  rfl
/-- what begins so ends what is ahead of it -/
def Stops (m : Bs) : Prop := m = [] ∨ ∃ s r, m = s :: r ∧ st.Stop s
theorem Stops.nil : Stops [] := .inl rfl
theorem Stops.cons {s : UInt8} {r : Bs} (h : st.Stop s) : Stops (s :: r) := .inr ⟨s, r, rfl, h⟩
theorem apart {l m : Bs} (h0 : l ≠ []) (hE : Go.Proofs.YtmjbaimccbkmpaaGreatDoor.tok.Ends l) (hm : Stops m) : cutP (l ++ m) = cutP l ++ cutP m := by
  rcases hm with rfl | ⟨s, r, rfl, hS⟩
  · rw [List.append_nil, cutP_nil, List.append_nil]
  · exact st.cut_apart hS r _ l (Nat.le_refl _) h0 hE
theorem ends_one {l : Bs} {t : Tk} (h : cutP l = [t]) (hk : ¬ t.k = 6 ∧ ¬ t.k = 9 ∧ ¬ t.k = 8) : Go.Proofs.YtmjbaimccbkmpaaGreatDoor.tok.Ends l := fun x hx => by
  rw [h] at hx
  obtain rfl : t = x := by simpa using hx
  exact hk
theorem one_app {l m : Bs} {t : Tk} (h : cutP l = [t]) (hk : ¬ t.k = 6 ∧ ¬ t.k = 9 ∧ ¬ t.k = 8) (hm : Stops m) : cutP (l ++ m) = t :: cutP m := by
  have h0 : l ≠ [] := fun e => by rw [e, cutP_nil] at h; cases h
  rw [apart h0 (ends_one h hk) hm, h]
  rfl
theorem cut_sp {m : Bs} {c : UInt8} {r : Bs} (h : m = c :: r) (hc : blankB c = false) : cutP (32 :: m) = ⟨8, [32], [], 0⟩ :: cutP m := by
  subst h
  exact cut_gaps [32] (by decide) (by decide) c hc r

end Go.Proofs.YtmjbaimccbkmpaaGreatDoor.tc

namespace Go.Proofs.YtmjbaimccbkmpaaGreatDoor.med
open Go.RowKit Go.Proofs.YtmjbaimccbkmpaaGreatDoor.base Go.Proofs.YtmjbaimccbkmpaaGreatDoor.tok Go.Proofs.YtmjbaimccbkmpaaGreatDoor.rul Go.Proofs.YtmjbaimccbkmpaaGreatDoor.tc
set_option linter.unusedVariables false

/-! ### decimals -/
theorem dec_snoc {c : UInt8} {d : Nat} (hd : Lib.digitVal c = some d) : ∀ (l : Bs) (acc m : Nat), Lib.decFrom acc l = some m → Lib.decFrom acc (l ++ [c]) = some (m * 10 + d)
  | [], acc, m, h => by
    simp only [Lib.decFrom, Option.some.injEq] at h
    subst h
    simp [Lib.decFrom, hd]
  | b :: l, acc, m, h => by
    simp only [Lib.decFrom, List.cons_append] at h ⊢
    cases hb : Lib.digitVal b with
    | none => rw [hb] at h; simp at h
    | some e =>
      rw [hb] at h
      exact dec_snoc hd l _ _ h
theorem dig_val' (d : Nat) (h : d < 10) : Lib.digitVal (UInt8.ofNat (48 + d)) = some d := by
  have : ∀ d : Fin 10, Lib.digitVal (UInt8.ofNat (48 + d.val)) = some d.val := by decide
  exact this ⟨d, h⟩
theorem dec_back : ∀ u : Nat, Lib.decFrom 0 (Lib.decDigits u) = some u := by
  intro u
  induction u using Nat.strongRecOn with
  | ind u ih =>
    rw [Lib.decDigits]
    by_cases h : u < 10
    · rw [dif_pos h]
      simp only [Lib.decFrom, dig_val' u h, Nat.zero_mul, Nat.zero_add]
    · rw [dif_neg h]
      have := dec_snoc (dig_val' (u % 10) (by omega)) _ _ _ (ih (u / 10) (by omega))
      rw [this]
      congr 1
      omega
theorem dec_head : ∀ u : Nat, ∃ c r, Lib.decDigits u = c :: r ∧ 48 ≤ c.toNat ∧ c.toNat ≤ 57 := by
  intro u
  induction u using Nat.strongRecOn with
  | ind u ih =>
    rw [Lib.decDigits]
    by_cases h : u < 10
    · rw [dif_pos h]
      refine ⟨_, [], rfl, ?_, ?_⟩ <;> rw [UInt8.toNat_ofNat'] <;> omega
    · rw [dif_neg h]
      obtain ⟨c, r, e, h1, h2⟩ := ih (u / 10) (by omega)
      exact ⟨c, r ++ [_], by rw [e]; rfl, h1, h2⟩
theorem decNat_back (u : Nat) : Lib.decNat (Lib.decDigits u) = some u := by
  obtain ⟨c, r, e, _, _⟩ := dec_head u
  unfold Lib.decNat
  rw [if_neg (by rw [e]; simp), dec_back]
theorem atoi_itoa (n : Int) : Lib.atoi (Lib.itoa n) = some n := by
  unfold Lib.itoa
  by_cases h : n < 0
  · rw [if_pos h]
    simp only [Lib.atoi]
    rw [if_pos (by rfl), decNat_back]
    simp only [Option.map_some, Option.some.injEq]
    omega
  · rw [if_neg h]
    obtain ⟨c, r, e, h1, h2⟩ := dec_head n.toNat
    have hd := decNat_back n.toNat
    rw [e] at hd ⊢
    simp only [Lib.atoi]
    have n1 : (c == 45) = false := by rw [beq_eq_false_iff_ne]; intro h; subst h; exact absurd h1 (by decide)
    have n2 : (c == 43) = false := by rw [beq_eq_false_iff_ne]; intro h; subst h; exact absurd h1 (by decide)
    rw [n1, n2]
    simp only [Bool.false_eq_true, if_false, hd, Option.map_some, Option.some.injEq]
    omega
theorem dec_short (u : Nat) (h : u ≤ 1000000) : (Lib.decDigits u).length ≤ 7 := by
  have key : ∀ (k u : Nat), u < 10 ^ (k + 1) → (Lib.decDigits u).length ≤ k + 1 := by
    intro k
    induction k with
    | zero => intro u hu; rw [Lib.decDigits, dif_pos (by omega)]; simp
    | succ k ih =>
      intro u hu
      rw [Lib.decDigits]
      by_cases h : u < 10
      · rw [dif_pos h]; simp
      · rw [dif_neg h]
        have := ih (u / 10) (by rw [Nat.pow_succ] at hu; omega)
        simp only [List.length_append, List.length_singleton]
        omega
  exact key 6 u (by omega)
theorem itoa_is {n : Int} (h : 0 ≤ n) : Lib.itoa n = Lib.decDigits n.toNat := by unfold Lib.itoa; rw [if_neg (by omega)]
theorem itoa_short {n : Int} (h0 : 0 ≤ n) (h1 : n ≤ 1000000) : (Lib.itoa n).length ≤ 7 := by rw [itoa_is h0]; exact dec_short _ (by omega)
theorem all_itoa {n : Int} (h0 : 0 ≤ n) (h1 : n ≤ 1000000) : Lib.atoiAll (Lib.itoa n) = .ok n := by
  rw [Lib.atoiAll_short _ (by have := itoa_short h0 h1; omega), atoi_itoa]
  rfl
theorem blank_dig {c : UInt8} (h : digI (nv c) = true) : blankB c = false := by
  have : ∀ i : Fin 256, digI (nv (UInt8.ofNat i.val)) = true → blankB (UInt8.ofNat i.val) = false := by decide +kernel
  have h1 := this ⟨c.toNat, c.toNat_lt⟩
  simp only [UInt8.ofNat_toNat] at h1
  exact h1 h
theorem itoa_head {n : Int} (h : 0 ≤ n) : ∃ c r, Lib.itoa n = c :: r ∧ blankB c = false := by
  rw [itoa_is h]
  cases hd : Lib.decDigits n.toNat with
  | nil => exact absurd hd (dim.dec_ne _)
  | cons c r => exact ⟨c, r, rfl, blank_dig (dim.dec_digs n.toNat c (by rw [hd]; simp))⟩

/-! ### tokens -/
abbrev tkO : Tk := ⟨10, [40], [], 0⟩
abbrev tkC : Tk := ⟨11, [41], [], 0⟩
abbrev tkD : Tk := ⟨12, [58], [], 0⟩
abbrev tkK : Tk := ⟨12, [44], [], 0⟩
abbrev tkQ : Tk := ⟨12, [63], [], 0⟩
abbrev tkB : Tk := ⟨8, [32], [], 0⟩
abbrev tkW (w : Bs) : Tk := ⟨1, w, w, 0⟩
abbrev tkP (n : Int) : Tk := ⟨7, Lib.itoa n ++ [112, 120], [112, 120], n * 1000⟩
def headK (k : Int) : Bs := if k ≤ 9 then [112, 114, 101, 102, 101, 114, 115, 45, 99, 111, 108, 111, 114, 45, 115, 99, 104, 101, 109, 101] else [111, 114, 105, 101, 110, 116, 97, 116, 105, 111, 110]
def tailK (k : Int) : Bs := if k = 8 then [100, 97, 114, 107] else if k = 9 then [108, 105, 103, 104, 116] else if k = 10 then [112, 111, 114, 116, 114, 97, 105, 116] else [108, 97, 110, 100, 115, 99, 97, 112, 101]
def andW : Bs := [97, 110, 100]
def notW : Bs := [110, 111, 116]
def GoodF (f : Fe) : Prop := (1 ≤ f.k ∧ f.k ≤ 3 ∧ f.n = 0) ∨ (4 ≤ f.k ∧ f.k ≤ 7 ∧ 0 ≤ f.n ∧ f.n ≤ 1000000) ∨ (8 ≤ f.k ∧ f.k ≤ 11 ∧ f.n = 0) ∨ f = unk
def GoodQ (q : Qu) : Prop := q.fs ≠ [] ∧ ∀ f ∈ q.fs, GoodF f
def featK (f : Fe) : List Tk :=
  if 1 ≤ f.k ∧ f.k ≤ 3 then [tkW (wordK f.k)]
  else if 4 ≤ f.k ∧ f.k ≤ 7 then [tkO, tkW (wordK f.k), tkD, tkP f.n, tkC]
  else if 8 ≤ f.k ∧ f.k ≤ 11 then [tkO, tkW (headK f.k), tkD, tkW (tailK f.k), tkC]
  else [tkO, tkQ, tkC]

theorem four {k : Int} (h0 : 4 ≤ k) (h1 : k ≤ 7) : k = 4 ∨ k = 5 ∨ k = 6 ∨ k = 7 := by omega
theorem three {k : Int} (h0 : 1 ≤ k) (h1 : k ≤ 3) : k = 1 ∨ k = 2 ∨ k = 3 := by omega
theorem last4 {k : Int} (h0 : 8 ≤ k) (h1 : k ≤ 11) : k = 8 ∨ k = 9 ∨ k = 10 ∨ k = 11 := by omega
theorem low_range {k : Int} (h0 : 1 ≤ k) (h1 : k ≤ 7) : cutP (wordK k) = [tkW (wordK k)] := by
  have h : k = 1 ∨ k = 2 ∨ k = 3 ∨ k = 4 ∨ k = 5 ∨ k = 6 ∨ k = 7 := by omega
  rcases h with rfl | rfl | rfl | rfl | rfl | rfl | rfl <;> exact cut_eval (by decide +kernel)
theorem cut_head {k : Int} (h0 : 8 ≤ k) (h1 : k ≤ 11) : cutP (headK k) = [tkW (headK k)] := by
  rcases last4 h0 h1 with rfl | rfl | rfl | rfl <;> exact cut_eval (by decide +kernel)
theorem cut_tailK {k : Int} (h0 : 8 ≤ k) (h1 : k ≤ 11) : cutP (tailK k) = [tkW (tailK k)] := by
  rcases last4 h0 h1 with rfl | rfl | rfl | rfl <;> exact cut_eval (by decide +kernel)
theorem shown_is {k : Int} (h0 : 8 ≤ k) (h1 : k ≤ 11) : shownK k = headK k ++ [58, 32] ++ tailK k := by
  rcases last4 h0 h1 with rfl | rfl | rfl | rfl <;> rfl
theorem tail_head {k : Int} (h0 : 8 ≤ k) (h1 : k ≤ 11) : ∃ c r, tailK k = c :: r ∧ blankB c = false := by
  rcases last4 h0 h1 with rfl | rfl | rfl | rfl <;> exact ⟨_, _, rfl, by decide⟩
theorem cut_px {n : Int} (h0 : 0 ≤ n) (h1 : n ≤ 1000000) : cutP (Lib.itoa n ++ [112, 120]) = [tkP n] := by
  have h := dim.text_cut [] [112, 120] (n.toNat * 1000) (by omega) false (by decide) (.inl ⟨rfl, rfl⟩)
  have hp : dim.plainP (n.toNat * 1000) = Lib.itoa n := by
    unfold dim.plainP
    rw [Nat.mul_mod_left, Nat.mul_div_cancel _ (by decide), itoa_is h0]
    show Lib.decDigits n.toNat ++ dim.pointP (dim.fracP 0) = _
    rw [show dim.fracP 0 = [] by decide +kernel]
    simp [dim.pointP]
  rw [hp, List.nil_append] at h
  rw [h]
  simp only [Bool.false_eq_true, if_false, tkP]
  congr 2
  omega
theorem cut_open (m : Bs) : cutP (40 :: m) = tkO :: cutP m := cut_solo m (by decide)
theorem cut_shut (m : Bs) : cutP (41 :: m) = tkC :: cutP m := cut_solo m (by decide)
theorem cut_colon (m : Bs) : cutP (58 :: m) = tkD :: cutP m := cut_solo m (by decide)
theorem cut_comma (m : Bs) : cutP (44 :: m) = tkK :: cutP m := cut_solo m (by decide)
theorem cut_ask (m : Bs) : cutP (63 :: m) = tkQ :: cutP m := cut_solo m (by decide)
theorem st41 (m : Bs) : Stops (41 :: m) := Stops.cons (by decide)
theorem st58 (m : Bs) : Stops (58 :: m) := Stops.cons (by decide)
theorem st44 (m : Bs) : Stops (44 :: m) := Stops.cons (by decide)
theorem st32 (m : Bs) : Stops (32 :: m) := Stops.cons (by decide)
theorem word_app {w m : Bs} (h : cutP w = [tkW w]) (hm : Stops m) : cutP (w ++ m) = tkW w :: cutP m := one_app h (by simp) hm
theorem sol_app (A B : List Tk) : solP (A ++ B) = solP A ++ solP B := by simp [solP]
theorem sol_b (A : List Tk) : solP (tkB :: A) = solP A := rfl
theorem sol_k {t : Tk} (h : silP t = false) (A : List Tk) : solP (t :: A) = t :: solP A := by simp [solP, h]

theorem feat_app {f : Fe} (hf : GoodF f) {m : Bs} (hm : Stops m) : solP (cutP (featT f ++ m)) = featK f ++ solP (cutP m) := by
  obtain ⟨k, n⟩ := f
  unfold featT featK
  rcases hf with ⟨h0, h1, h2⟩ | ⟨h0, h1, h2, h3⟩ | ⟨h0, h1, h2⟩ | h
  · simp only at h0 h1 h2
    simp only [h0, h1, true_and, if_true]
    rw [word_app (low_range h0 (by omega)) hm, sol_k (by rfl)]
    rfl
  · simp only at h0 h1 h2 h3
    have c1 : ¬ (1 ≤ k ∧ k ≤ 3) := by omega
    simp only [c1, h0, h1, true_and, if_true, if_false]
    obtain ⟨c, r, e, hc⟩ := itoa_head h2
    have e2 : [40] ++ wordK k ++ [58, 32] ++ Lib.itoa n ++ [112, 120, 41] ++ m = 40 :: (wordK k ++ 58 :: 32 :: ((Lib.itoa n ++ [112, 120]) ++ 41 :: m)) := by simp
    rw [e2, cut_open, word_app (low_range (by omega) h1) (st58 _), cut_colon, cut_sp (c := c) (r := r ++ [112, 120] ++ 41 :: m) (by rw [e]; simp) hc, one_app (cut_px h2 h3) (by simp) (st41 _), cut_shut]
    rfl
  · simp only at h0 h1 h2
    have c1 : ¬ (1 ≤ k ∧ k ≤ 3) := by omega
    have c2 : ¬ (4 ≤ k ∧ k ≤ 7) := by omega
    simp only [c1, c2, h0, h1, true_and, if_true, if_false]
    obtain ⟨c, r, e, hc⟩ := tail_head h0 h1
    have e2 : [40] ++ shownK k ++ [41] ++ m = 40 :: (headK k ++ 58 :: 32 :: (tailK k ++ 41 :: m)) := by rw [shown_is h0 h1]; simp
    rw [e2, cut_open, word_app (cut_head h0 h1) (st58 _), cut_colon, cut_sp (c := c) (r := r ++ 41 :: m) (by rw [e]; simp) hc, word_app (cut_tailK h0 h1) (st41 _), cut_shut]
    rfl
  · unfold unk at h
    injection h with h1 h2
    subst h1 h2
    show solP (cutP (40 :: 63 :: 41 :: m)) = _
    rw [cut_open, cut_ask, cut_shut]
    rfl
theorem feat_head {f : Fe} (hf : GoodF f) : ∃ c r, featT f = c :: r ∧ blankB c = false := by
  obtain ⟨k, n⟩ := f
  unfold featT
  rcases hf with ⟨h0, h1, h2⟩ | ⟨h0, h1, h2, h3⟩ | ⟨h0, h1, h2⟩ | h
  · simp only at h0 h1 h2
    simp only [h0, h1, true_and, if_true]
    rcases three h0 h1 with rfl | rfl | rfl <;> exact ⟨_, _, rfl, by decide⟩
  · simp only at h0 h1 h2 h3
    have c1 : ¬ (1 ≤ k ∧ k ≤ 3) := by omega
    simp only [c1, h0, h1, true_and, if_true, if_false]
    exact ⟨40, _, rfl, by decide⟩
  · simp only at h0 h1 h2
    have c1 : ¬ (1 ≤ k ∧ k ≤ 3) := by omega
    have c2 : ¬ (4 ≤ k ∧ k ≤ 7) := by omega
    simp only [c1, c2, h0, h1, true_and, if_true, if_false]
    exact ⟨40, _, rfl, by decide⟩
  · unfold unk at h
    injection h with h1 h2
    subst h1 h2
    exact ⟨40, _, rfl, by decide⟩
theorem cut_and {m : Bs} {c : UInt8} {r : Bs} (h : m = c :: r) (hc : blankB c = false) : solP (cutP (andT ++ m)) = tkW andW :: solP (cutP m) := by
  show solP (cutP (32 :: (andW ++ 32 :: m))) = _
  rw [cut_sp (m := andW ++ 32 :: m) (c := 97) (r := 110 :: 100 :: 32 :: m) rfl (by decide), word_app (cut_eval (by decide +kernel)) (st32 _), cut_sp h hc]
  rfl
theorem cut_not {m : Bs} {c : UInt8} {r : Bs} (h : m = c :: r) (hc : blankB c = false) : solP (cutP (notT ++ m)) = tkW notW :: solP (cutP m) := by
  show solP (cutP (notW ++ 32 :: m)) = _
  rw [word_app (cut_eval (by decide +kernel)) (st32 _), cut_sp h hc]
  rfl
theorem join_two (x y sep : Bs) (r : List Bs) : Lib.join (x :: y :: r) sep = x ++ sep ++ Lib.join (y :: r) sep := by
  rw [Lib.join_cons, Lib.join_cons]
  simp [Lib.joinTail]
def featsK : List Fe → List Tk
  | [] => []
  | [f] => featK f
  | f :: g :: r => featK f ++ tkW andW :: featsK (g :: r)
theorem feats_app : ∀ (fs : List Fe), fs ≠ [] → (∀ f ∈ fs, GoodF f) → ∀ {m : Bs}, Stops m →
    solP (cutP (Lib.join (fs.map featT) andT ++ m)) = featsK fs ++ solP (cutP m) ∧ ∃ c r, Lib.join (fs.map featT) andT ++ m = c :: r ∧ blankB c = false
  | [], h, _, _, _ => absurd rfl h
  | [f], _, hf, m, hm => by
    have h1 := hf f (by simp)
    obtain ⟨c, r, e, hc⟩ := feat_head h1
    simp only [List.map_cons, List.map_nil, Lib.join_one]
    exact ⟨feat_app h1 hm, c, r ++ m, by rw [e]; rfl, hc⟩
  | f :: g :: L, _, hf, m, hm => by
    have h1 := hf f (by simp)
    obtain ⟨c, r, e, hc⟩ := feat_head h1
    obtain ⟨ih, c2, r2, e2, hc2⟩ := feats_app (g :: L) (by simp) (fun x hx => hf x (by simp only [List.mem_cons] at hx ⊢; exact .inr hx)) hm
    simp only [List.map_cons] at ih e2 ⊢
    rw [join_two]
    refine ⟨?_, c, r ++ andT ++ Lib.join (featT g :: L.map featT) andT ++ m, by rw [e]; simp, hc⟩
    rw [List.append_assoc, List.append_assoc, feat_app h1 (m := andT ++ (Lib.join (featT g :: L.map featT) andT ++ m)) (.inr ⟨32, [97, 110, 100, 32] ++ (Lib.join (featT g :: L.map featT) andT ++ m), rfl, by decide⟩), cut_and e2 hc2, ih]
    simp [featsK]
def queK (q : Qu) : List Tk := (if q.no then [tkW notW] else []) ++ featsK q.fs
theorem que_app {q : Qu} (hq : GoodQ q) {m : Bs} (hm : Stops m) : solP (cutP (queT q ++ m)) = queK q ++ solP (cutP m) ∧ ∃ c r, queT q ++ m = c :: r ∧ blankB c = false := by
  obtain ⟨no, fs⟩ := q
  obtain ⟨h, c, r, e, hc⟩ := feats_app fs hq.1 hq.2 hm
  unfold queT queK
  cases no
  · simp only [Bool.false_eq_true, if_false, List.nil_append]
    exact ⟨h, c, r, e, hc⟩
  · simp only [if_true, List.append_assoc]
    exact ⟨by rw [cut_not e hc, h]; rfl, 110, _, rfl, by decide⟩
def textK : List Qu → List Tk
  | [] => []
  | [q] => queK q
  | q :: p :: r => queK q ++ tkK :: textK (p :: r)
theorem text_app : ∀ (Q : List Qu), Q ≠ [] → (∀ q ∈ Q, GoodQ q) → ∀ {m : Bs}, Stops m → solP (cutP (textP Q ++ m)) = textK Q ++ solP (cutP m) ∧ ∃ c r, textP Q ++ m = c :: r ∧ blankB c = false
  | [], h, _, _, _ => absurd rfl h
  | [q], _, hq, m, hm => by
    unfold textP
    simp only [List.map_cons, List.map_nil, Lib.join_one]
    exact que_app (hq q (by simp)) hm
  | q :: p :: L, _, hq, m, hm => by
    obtain ⟨ih, c2, r2, e2, hc2⟩ := text_app (p :: L) (by simp) (fun x hx => hq x (by simp only [List.mem_cons] at hx ⊢; exact .inr hx)) hm
    unfold textP at ih e2 ⊢
    simp only [List.map_cons] at ih e2 ⊢
    rw [join_two]
    obtain ⟨h1, h2⟩ := que_app (hq q (by simp)) (m := [44, 32] ++ Lib.join (queT p :: L.map queT) [44, 32] ++ m) (.inr ⟨44, 32 :: (Lib.join (queT p :: L.map queT) [44, 32] ++ m), rfl, by decide⟩)
    refine ⟨?_, by simpa using h2⟩
    have e : queT q ++ [44, 32] ++ Lib.join (queT p :: L.map queT) [44, 32] ++ m = queT q ++ ([44, 32] ++ Lib.join (queT p :: L.map queT) [44, 32] ++ m) := by simp
    rw [e, h1]
    have e3 : [44, 32] ++ Lib.join (queT p :: L.map queT) [44, 32] ++ m = 44 :: 32 :: (Lib.join (queT p :: L.map queT) [44, 32] ++ m) := by simp
    rw [e3, cut_comma, cut_sp e2 hc2, sol_k (by rfl), sol_b, ih]
    simp [textK]

/-! ### read -/
theorem low_word {k : Int} (h0 : 1 ≤ k) (h1 : k ≤ 7) : wordT (tkW (wordK k)) = wordK k ∧ kindP (wordK k) = k := by
  have h : k = 1 ∨ k = 2 ∨ k = 3 ∨ k = 4 ∨ k = 5 ∨ k = 6 ∨ k = 7 := by omega
  rcases h with rfl | rfl | rfl | rfl | rfl | rfl | rfl <;> exact ⟨by decide +kernel, by decide +kernel⟩
theorem low_raw {k : Int} (h0 : 1 ≤ k) (h1 : k ≤ 7) : ¬ wordK k = [40] := by
  have h : k = 1 ∨ k = 2 ∨ k = 3 ∨ k = 4 ∨ k = 5 ∨ k = 6 ∨ k = 7 := by omega
  rcases h with rfl | rfl | rfl | rfl | rfl | rfl | rfl <;> decide
theorem low_last {k : Int} (h0 : 8 ≤ k) (h1 : k ≤ 11) : ¬ (4 ≤ kindP (wordT (tkW (headK k))) ∧ kindP (wordT (tkW (headK k))) ≤ 7) ∧ kindP (wordT (tkW (headK k)) ++ [58] ++ wordT (tkW (tailK k))) = k := by
  rcases last4 h0 h1 with rfl | rfl | rfl | rfl <;> exact ⟨by decide +kernel, by decide +kernel⟩
theorem digs_itoa {n : Int} (h : 0 ≤ n) : digs (Lib.itoa n) = true := by
  rw [itoa_is h]
  unfold digs
  rw [List.all_eq_true]
  exact fun c hc => dim.dec_digs _ c hc
theorem num_back {n : Int} (h0 : 0 ≤ n) (h1 : n ≤ 1000000) : numF ((tkP n).raw.take ((tkP n).raw.length - 2)) = some n := by
  have e : (tkP n).raw.take ((tkP n).raw.length - 2) = Lib.itoa n := by simp
  unfold numF
  rw [e, digs_itoa h0, if_pos rfl, all_itoa h0 h1]
  simp only
  rw [if_pos h1]
theorem close_three {a b c : Tk} (ha : opensP a = false ∧ ¬ a.k = 11) (hb : opensP b = false ∧ ¬ b.k = 11) (hc : opensP c = false ∧ ¬ c.k = 11) (R : List Tk) :
    blkOk tkO (a :: b :: c :: tkC :: R) = true ∧ blkLen tkO (a :: b :: c :: tkC :: R) = 5 := by
  have e : closeP [closerP tkO.raw] (a :: b :: c :: tkC :: R) = some 4 := by
    have o : opensP tkC = false := by decide
    have l : [closerP tkO.raw].getLast? = some tkC.raw := by decide
    rw [closeP, ha.1, if_neg (by simp), if_neg (fun h => ha.2 h.1), closeP, hb.1, if_neg (by simp), if_neg (fun h => hb.2 h.1), closeP, hc.1, if_neg (by simp), if_neg (fun h => hc.2 h.1), closeP, o, if_neg (by simp), if_pos ⟨rfl, l⟩, if_pos (show [closerP tkO.raw].dropLast = [] from rfl)]
    rfl
  unfold blkOk blkLen
  rw [e]
  exact ⟨rfl, rfl⟩
theorem close_one {a : Tk} (ha : opensP a = false ∧ ¬ a.k = 11) (R : List Tk) : blkOk tkO (a :: tkC :: R) = true ∧ blkLen tkO (a :: tkC :: R) = 3 := by
  have e : closeP [closerP tkO.raw] (a :: tkC :: R) = some 2 := by
    have o : opensP tkC = false := by decide
    have l : [closerP tkO.raw].getLast? = some tkC.raw := by decide
    rw [closeP, ha.1, if_neg (by simp), if_neg (fun h => ha.2 h.1), closeP, o, if_neg (by simp), if_pos ⟨rfl, l⟩, if_pos (show [closerP tkO.raw].dropLast = [] from rfl)]
    rfl
  unfold blkOk blkLen
  rw [e]
  exact ⟨rfl, rfl⟩
theorem feat_back {f : Fe} (hf : GoodF f) (R : List Tk) : featsP (featK f ++ R) = behindT R f featsP ∧ ∀ cur, piecesF (featK f ++ R) cur = piecesF R (cur ++ featK f) := by
  obtain ⟨k, n⟩ := f
  unfold featK
  have no : ∀ w, opensP (tkW w) = false ∧ ¬ (tkW w).k = 11 := fun w => ⟨by simp [opensP], by simp⟩
  rcases hf with ⟨h0, h1, h2⟩ | ⟨h0, h1, h2, h3⟩ | ⟨h0, h1, h2⟩ | h
  · simp only at h0 h1 h2
    subst h2
    simp only [h0, h1, true_and, if_true]
    obtain ⟨e1, e2⟩ := low_word h0 (by omega)
    refine ⟨?_, fun cur => ?_⟩
    · show featsP (tkW (wordK k) :: R) = _
      rw [feats_word (low_raw h0 (by omega)) (by rw [e1, e2]; omega), e1, e2]
    · show piecesF (tkW (wordK k) :: R) cur = _
      rw [pieces_other (no _).1 (by simp)]
  · simp only at h0 h1 h2 h3
    have c1 : ¬ (1 ≤ k ∧ k ≤ 3) := by omega
    simp only [c1, h0, h1, true_and, if_true, if_false]
    obtain ⟨e1, e2⟩ := low_word (k := k) (by omega) h1
    obtain ⟨b1, b2⟩ := close_three (no (wordK k)) (b := tkD) (c := tkP n) ⟨by decide, by decide⟩ ⟨by simp [opensP], by simp⟩ R
    refine ⟨?_, fun cur => ?_⟩
    · show featsP (tkO :: tkW (wordK k) :: tkD :: tkP n :: tkC :: R) = _
      rw [feats_blk rfl b1, b2]
      show behindT R (featP [tkW (wordK k), tkD, tkP n]) featsP = _
      congr 1
      rw [feat_num rfl (by rw [e1, e2]; exact ⟨h0, h1⟩) ⟨rfl, rfl⟩ (num_back h2 h3), e1, e2]
    · show piecesF (tkO :: tkW (wordK k) :: tkD :: tkP n :: tkC :: R) cur = _
      rw [pieces_open (by decide), b2]
      rfl
  · simp only at h0 h1 h2
    subst h2
    have c1 : ¬ (1 ≤ k ∧ k ≤ 3) := by omega
    have c2 : ¬ (4 ≤ k ∧ k ≤ 7) := by omega
    simp only [c1, c2, h0, h1, true_and, if_true, if_false]
    obtain ⟨e1, e2⟩ := low_last h0 h1
    obtain ⟨b1, b2⟩ := close_three (no (headK k)) (b := tkD) (c := tkW (tailK k)) ⟨by decide, by decide⟩ (no _) R
    refine ⟨?_, fun cur => ?_⟩
    · show featsP (tkO :: tkW (headK k) :: tkD :: tkW (tailK k) :: tkC :: R) = _
      rw [feats_blk rfl b1, b2]
      show behindT R (featP [tkW (headK k), tkD, tkW (tailK k)]) featsP = _
      congr 1
      rw [feat_two rfl e1 (by rw [e2]; exact h0), e2]
    · show piecesF (tkO :: tkW (headK k) :: tkD :: tkW (tailK k) :: tkC :: R) cur = _
      rw [pieces_open (by decide), b2]
      rfl
  · unfold unk at h
    injection h with h1 h2
    subst h1 h2
    obtain ⟨b1, b2⟩ := close_one (a := tkQ) ⟨by decide, by decide⟩ R
    refine ⟨?_, fun cur => ?_⟩
    · show featsP (tkO :: tkQ :: tkC :: R) = _
      rw [feats_blk rfl b1, b2]
      rfl
    · show piecesF (tkO :: tkQ :: tkC :: R) cur = _
      rw [pieces_open (by decide), b2]
      rfl
theorem and_is : wordT (tkW andW) = [97, 110, 100] := by decide +kernel
theorem feats_back : ∀ (fs : List Fe), fs ≠ [] → (∀ f ∈ fs, GoodF f) → featsP (featsK fs) = some fs ∧ ∀ (R cur : List Tk), piecesF (featsK fs ++ R) cur = piecesF R (cur ++ featsK fs)
  | [], h, _ => absurd rfl h
  | [f], _, hf => by
    have h1 := hf f (by simp)
    refine ⟨?_, fun R cur => (feat_back h1 R).2 cur⟩
    have := (feat_back h1 []).1
    rw [List.append_nil] at this
    exact this
  | f :: g :: L, _, hf => by
    have h1 := hf f (by simp)
    obtain ⟨i1, i2⟩ := feats_back (g :: L) (by simp) (fun x hx => hf x (by simp only [List.mem_cons] at hx ⊢; exact .inr hx))
    refine ⟨?_, fun R cur => ?_⟩
    · show featsP (featK f ++ tkW andW :: featsK (g :: L)) = _
      rw [(feat_back h1 _).1]
      unfold behindT
      simp only
      rw [if_pos and_is, i1]
      rfl
    · show piecesF (featK f ++ tkW andW :: featsK (g :: L) ++ R) cur = piecesF R (cur ++ (featK f ++ tkW andW :: featsK (g :: L)))
      rw [List.append_assoc, (feat_back h1 _).2, List.cons_append, pieces_other (by decide) (by decide), i2]
      simp
theorem not_is : wordT (tkW notW) = [110, 111, 116] := by decide +kernel
theorem feats_not {fs : List Fe} (h : fs ≠ []) (hf : ∀ f ∈ fs, GoodF f) : notP (featsK fs) = false := by
  have one : ∀ (f : Fe) (R : List Tk), GoodF f → notP (featK f ++ R) = false := by
    intro f R hf
    obtain ⟨k, n⟩ := f
    unfold featK
    have ho : ∀ M, notP (tkO :: M) = false := fun M => show decide (wordT tkO = [110, 111, 116]) = false by decide
    have hw : ∀ w M, notP ([tkW w] ++ M) = decide (wordT (tkW w) = [110, 111, 116]) := fun _ _ => rfl
    rcases hf with ⟨h0, h1, h2⟩ | ⟨h0, h1, h2, h3⟩ | ⟨h0, h1, h2⟩ | h
    · simp only at h0 h1 h2
      simp only [h0, h1, true_and, if_true]
      rw [hw]
      rcases three h0 h1 with rfl | rfl | rfl <;> decide +kernel
    · simp only at h0 h1 h2 h3
      have c1 : ¬ (1 ≤ k ∧ k ≤ 3) := by omega
      simp only [c1, h0, h1, true_and, if_true, if_false]
      exact ho _
    · simp only at h0 h1 h2
      have c1 : ¬ (1 ≤ k ∧ k ≤ 3) := by omega
      have c2 : ¬ (4 ≤ k ∧ k ≤ 7) := by omega
      simp only [c1, c2, h0, h1, true_and, if_true, if_false]
      exact ho _
    · unfold unk at h
      injection h with h1 h2
      subst h1 h2
      exact ho _
  match fs, h, hf with
  | [f], _, hf => have := one f [] (hf f (by simp)); rwa [List.append_nil] at this
  | f :: g :: L, _, hf => exact one f _ (hf f (by simp))
theorem que_back {q : Qu} (hq : GoodQ q) : queP (queK q) = some q ∧ ∀ (R cur : List Tk), piecesF (queK q ++ R) cur = piecesF R (cur ++ queK q) := by
  obtain ⟨no, fs⟩ := q
  obtain ⟨h1, h2⟩ := feats_back fs hq.1 hq.2
  have hn := feats_not hq.1 hq.2
  simp only at h1 h2 hn
  unfold queP queK
  cases no
  · simp only [Bool.false_eq_true, if_false, List.nil_append]
    rw [hn]
    exact ⟨by rw [if_neg (by simp), h1]; rfl, h2⟩
  · simp only [if_true]
    have e : notP ([tkW notW] ++ featsK fs) = true := by
      show decide (wordT (tkW notW) = [110, 111, 116]) = true
      exact decide_eq_true not_is
    refine ⟨?_, fun R cur => ?_⟩
    · rw [e, if_pos rfl]
      show (featsP (featsK fs)).map _ = _
      rw [h1]
      rfl
    · rw [List.append_assoc]
      show piecesF (tkW notW :: (featsK fs ++ R)) cur = _
      rw [pieces_other (by decide) (by decide), h2]
      simp
theorem pieces_back : ∀ (Q : List Qu), Q ≠ [] → (∀ q ∈ Q, GoodQ q) → piecesF (textK Q) [] = Q.map queK ∧ ∀ (R : List Tk), piecesF (textK Q ++ tkK :: R) [] = Q.map queK ++ piecesF R []
  | [], h, _ => absurd rfl h
  | [q], _, hq => by
    have h2 := (que_back (hq q (by simp))).2
    refine ⟨?_, fun R => ?_⟩
    · show piecesF (queK q) [] = [queK q]
      have := h2 [] []
      rw [List.append_nil, pieces_nil, List.nil_append] at this
      exact this
    · show piecesF (queK q ++ tkK :: R) [] = queK q :: piecesF R []
      rw [h2, pieces_comma (by decide) ⟨rfl, rfl⟩, List.nil_append]
  | q :: p :: L, _, hq => by
    obtain ⟨i1, i2⟩ := pieces_back (p :: L) (by simp) (fun x hx => hq x (by simp only [List.mem_cons] at hx ⊢; exact .inr hx))
    have h2 := (que_back (hq q (by simp))).2
    refine ⟨?_, fun R => ?_⟩
    · show piecesF (queK q ++ tkK :: textK (p :: L)) [] = _
      rw [h2, pieces_comma (by decide) ⟨rfl, rfl⟩, List.nil_append, i1]
      rfl
    · show piecesF (queK q ++ tkK :: textK (p :: L) ++ tkK :: R) [] = _
      rw [List.append_assoc, h2, List.cons_append, pieces_comma (by decide) ⟨rfl, rfl⟩, List.nil_append, i2]
      rfl
theorem map_back {Q : List Qu} (hq : ∀ q ∈ Q, GoodQ q) : (Q.map queK).map (fun p => (queP p).getD badQ) = Q := by
  rw [List.map_map]
  refine (List.map_congr_left fun q h => ?_).trans (List.map_id Q)
  simp only [Function.comp]
  rw [(que_back (hq q h)).1]
  rfl
theorem textK_ne {Q : List Qu} (h : Q ≠ []) (hq : ∀ q ∈ Q, GoodQ q) : textK Q ≠ [] := by
  have one : ∀ q, GoodQ q → queK q ≠ [] := by
    intro q hg e
    have := (que_back hg).1
    rw [e] at this
    unfold queP notP at this
    simp [feats_nil] at this
  match Q, h, hq with
  | [q], _, hq => exact one q (hq q (by simp))
  | q :: p :: L, _, hq => show queK q ++ tkK :: textK (p :: L) ≠ []; simp

/-- told and read -/
theorem read_text {Q : List Qu} (h : Q ≠ []) (hq : ∀ q ∈ Q, GoodQ q) : readP (textP Q) = if 400 < (textP Q).length then none else some Q := by
  unfold readP
  have e := (text_app Q h hq (m := []) Stops.nil).1
  rw [List.append_nil, cutP_nil] at e
  rw [e]
  show (if _ then none else some (tokQ (textK Q ++ []))) = _
  rw [List.append_nil]
  rw [tokQ_ne (textK_ne h hq), (pieces_back Q h hq).1, map_back hq]
/-- with a comma between -/
theorem read_list {Q P : List Qu} (h : Q ≠ []) (hq : ∀ q ∈ Q, GoodQ q) (h' : P ≠ []) (hp : ∀ q ∈ P, GoodQ q) : readP (textP Q ++ [32, 44] ++ textP P) = if 400 < (textP Q ++ [32, 44] ++ textP P).length then none else some (Q ++ P) := by
  unfold readP
  have e2 := (text_app P h' hp (m := []) Stops.nil).1
  rw [List.append_nil, cutP_nil] at e2
  have e := (text_app Q h hq (m := [32, 44] ++ textP P) (.inr ⟨32, 44 :: textP P, rfl, by decide⟩)).1
  have e3 : cutP ([32, 44] ++ textP P) = tkB :: tkK :: cutP (textP P) := by
    show cutP (32 :: 44 :: textP P) = _
    rw [cut_sp (c := 44) (r := textP P) rfl (by decide), cut_comma]
  rw [List.append_assoc, e, e3, sol_b, sol_k (by rfl), e2]
  show (if _ then none else some (tokQ (textK Q ++ tkK :: (textK P ++ [])))) = _
  rw [List.append_nil]
  rw [tokQ_ne (by simp), (pieces_back Q h hq).2, (pieces_back P h' hp).1, List.map_append, map_back hq, map_back hp]
theorem read_not {fs : List Fe} (h : GoodQ ⟨false, fs⟩) : readP (notT ++ textP [⟨false, fs⟩]) = if 400 < (notT ++ textP [⟨false, fs⟩]).length then none else some [⟨true, fs⟩] := by
  have e : notT ++ textP [⟨false, fs⟩] = textP [⟨true, fs⟩] := by
    unfold textP
    simp only [List.map_cons, List.map_nil, Lib.join_one]
    rfl
  rw [e]
  exact read_text (by simp) (fun q hq => by
    obtain rfl : q = ⟨true, fs⟩ := by simpa using hq
    exact ⟨h.1, h.2⟩)

end Go.Proofs.YtmjbaimccbkmpaaGreatDoor.med
