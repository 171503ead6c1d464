/- Contracts and plain law, a bundle: ClbF ClbE ClbG ClbH. -/
import Derived.Test.YtbiahfjjngkfgaaDoorBG1
import Derived.Test.YtbiahfjjngkfgaaDoorBI
import Derived.Test.YtbiahfjjngkfgaaDoorBE3
import Derived.Test.YtbiahfjjngkfgaaDoorBC4
import Derived.Test.YtbiahfjjngkfgaaDoorBG
import Derived.Test.YtbiahfjjngkfgaaDoorBF2

namespace Go.Proofs.YtbiahfjjngkfgaaDoor.clb
open Go.RowKit Go.Proofs.YtbiahfjjngkfgaaDoor.base Go.Proofs.YtbiahfjjngkfgaaDoor.tok Go.Proofs.YtbiahfjjngkfgaaDoor.dim Go.Proofs.YtbiahfjjngkfgaaDoor.rul Go.Proofs.YtbiahfjjngkfgaaDoor.cal
set_option linter.unusedVariables false

set_option maxRecDepth 100000 in
set_option maxHeartbeats 2000000 in
theorem read_die (s : Bs) (hs : s.length ≤ 400) (d : Nat) (hd : 2401 ≤ d) (hv : valF d false (clb.gapP (cutP s)) 0 = none) (w : World) (hm : MaxL w) (hU : UnitsAt w) :
    Calls Tryd.prog 5 #[.string (bs s)] w fun e w' => (∃ x, IsErr x ∧ e = .returned (.tuple #[.agg #[.int .i64 0, .int .i64 0, .string ⟨#[]⟩, .slice none 0 0], .int .i64 x])) ∧ Below w.heap.size w w' := by
  have hmf : ∀ (fn : Fn) (first cap : Array Value) (w : World), (Instr.makeFunc fn first cap).run Tryd.prog w = .ok (.func fn first cap) w := fun _ _ _ _ => rfl
  have hl := cut_few s
  have hgood := good_cut hs
  have hgg := hgood.suf (gap_suf (cutP s))
  have hgl := gap_le (cutP s)
  have cC := fun w hm => Go.Proofs.YtbiahfjjngkfgaaDoor.tok.cut_ct (bs s) (by rw [bs_size]; omega) w hm
  rw [show (bs s).data.toList = s from rfl] at cC
  replace cC := Lib.hid cC
  have cG := Lib.hid (fun b w h => gap_any b (cutP s) 0 false w h (by omega))
  have cV := fun b w h hE => (all_ct 400).1 b false (clb.gapP (cutP s)) 0 false d w (by omega) hgg (by decide) (by omega) h hE
  rw [hv] at cV
  replace cV := Lib.hid cV
  have cN := Lib.hid need_yes
  have cX := Lib.hid need_no
  have Hm := Lib.hid hm
  have HU := Lib.hid hU
  have hq4 : decide ((400 : Int) < ((bs s).size : Int)) = false := decide_eq_false (by rw [bs_size]; omega)
  clear hm hU hv
  go_enter_defers Tryd.func5, Tryd.ntmps5
  have HB0 := Lib.hid (show Below w.heap.size w ((w.alloc (.cells #[.int .i64 0, .int .i64 0, .string ⟨#[]⟩, .slice none 0 0] 27)).alloc (.cells #[.int .i64 0] 28)) from ((Below.refl _ _).alloc (Nat.le_refl _) _).alloc (by simp) _)
  have Q0 := Lib.hid (show Blk ((w.alloc (.cells #[.int .i64 0, .int .i64 0, .string ⟨#[]⟩, .slice none 0 0] 27)).alloc (.cells #[.int .i64 0] 28)) w.heap.size 27 #[.int .i64 0, .int .i64 0, .string ⟨#[]⟩, .slice none 0 0] from (Blk.new rfl).alloc _)
  have E0 := Lib.hid (show Blk ((w.alloc (.cells #[.int .i64 0, .int .i64 0, .string ⟨#[]⟩, .slice none 0 0] 27)).alloc (.cells #[.int .i64 0] 28)) (w.heap.size + 1) 28 #[.int .i64 0] from Blk.new (by simp))
  go_wp2_with (first
    | (go_at_call 9; (with_reducible refine (cC.out _ (Hm.out.on HB0.out Hm.out.lt)).mono ?_); rintro e W1 ⟨⟨A, cap, rfl, hcap, hrd⟩, hb1⟩; have hz1 := hb1.size; simp only [World.size_alloc] at hz1; have HB1 := Lib.hid (HB0.out.trans (hb1.mono (by simp <;> omega))); have Q1 := Lib.hid ((Q0.out.below hb1 (by simp <;> omega)).alloc (.cells #[.slice A (cutP s).length cap, .int .i64 0, .bool false] 41)); have E1 := Lib.hid ((E0.out.below hb1 (by simp <;> omega)).alloc (.cells #[.slice A (cutP s).length cap, .int .i64 0, .bool false] 41)); have HR1 := Lib.hid (show RdrAt (W1.alloc (.cells #[.slice A (cutP s).length cap, .int .i64 0, .bool false] 41)) W1.heap.size (cutP s) 0 false from ⟨A, cap, hcap, Blk.new rfl, Rd.keep hrd ((Below.refl _ _).alloc (Nat.le_refl _) _) (Nat.le_refl _)⟩); have HE1 := Lib.hid (show Env W1.heap.size (W1.alloc (.cells #[.slice A (cutP s).length cap, .int .i64 0, .bool false] 41)) from fun v hv => have hB := ((HB1.out.alloc (by omega) (.cells #[.slice A (cutP s).length cap, .int .i64 0, .bool false] 41)).trans (hv.mono (by omega))); ⟨Hm.out.on hB Hm.out.lt, HU.out.on hB⟩); have HX1 := Lib.hid (HB1.out.alloc (by omega) (.cells #[.slice A (cutP s).length cap, .int .i64 0, .bool false] 41)); clear hrd hb1)
    | (go_at_call 10; (with_reducible refine (cG.out _ _ HR1.out).mono ?_); rintro e W2 ⟨rfl, hr2, hg2⟩; have HR2 := Lib.hid (show RdrAt W2 W1.heap.size (clb.gapP (cutP s)) ((0 : Nat) : Int) false from hr2); have HE2 := Lib.hid (HE1.out.on (below_one hg2 (by simp))); have Q2 := Lib.hid (Blk_grown Q1.out hg2 (by omega)); have E2 := Lib.hid (Blk_grown E1.out hg2 (by omega)); have HX2 := Lib.hid (HX1.out.trans ((below_one hg2 (by simp)).mono (by omega))); have hz2 := hg2.size; rw [World.size_alloc] at hz2; clear hr2 hg2)
    | (go_at_call 11; (with_reducible refine (cV.out _ _ HR2.out HE2.out).mono ?_); rintro e W3 ⟨hg3, x, hx, rfl⟩; have HX := Lib.hid hx; have Q3 := Lib.hid (Blk_grown Q2.out hg3 (by omega)); have E3 := Lib.hid (Blk_grown E2.out hg3 (by omega)); have HX3 := Lib.hid (HX2.out.trans ((below_one hg3 (by omega)).mono (by omega))); clear hg3 hx))
  refine leaves_cons (f := 8) (args := #[.pointer (some ⟨w.heap.size, 0, none⟩), .pointer (some ⟨w.heap.size + 1, 0, none⟩)]) (by simp) (by simp [go_sem]) ?_
  refine (catch_own w.heap.size (w.heap.size + 1) w.heap.size x _ _ _ _ _ W3 Q3.out E3.out (by omega) (Nat.le_refl _) (by omega) (by have := Q3.out.lt; omega)).mono ?_
  rintro e u' w'' ⟨rfl, rfl, hp, hq, hb⟩
  have ec := hp.cell
  have fc := hq.cell
  have HB := Lib.hid hb
  clear hp hq hb
  simp only [Leaves, settle, List.dropWhile]
  exact ⟨.tuple #[.agg #[.int .i64 0, .int .i64 0, .string ⟨#[]⟩, .slice none 0 0], .int .i64 x], by simp [results, Tryd.results5, go_sem, ec, fc], ⟨x, HX.out, rfl⟩, HX3.out.trans HB.out⟩

set_option maxRecDepth 100000 in
set_option maxHeartbeats 2000000 in
theorem read_rest (s : Bs) (hs : s.length ≤ 400) (d : Nat) (hd : 2401 ≤ d) (t : Te) (M : List Tk) (m : Nat) (c : Tk) (R : List Tk) (hM : M.length ≤ 400) (hcR : clb.gapP M = c :: R) (hv : valF d false (clb.gapP (cutP s)) 0 = some (t, M, m)) (w : World) (hm : MaxL w) (hU : UnitsAt w) :
    Calls Tryd.prog 5 #[.string (bs s)] w fun e w' => (∃ x, IsErr x ∧ e = .returned (.tuple #[.agg #[.int .i64 0, .int .i64 0, .string ⟨#[]⟩, .slice none 0 0], .int .i64 x])) ∧ Below w.heap.size w w' := by
  have hmf : ∀ (fn : Fn) (first cap : Array Value) (w : World), (Instr.makeFunc fn first cap).run Tryd.prog w = .ok (.func fn first cap) w := fun _ _ _ _ => rfl
  have hl := cut_few s
  have hgood := good_cut hs
  have hgg := hgood.suf (gap_suf (cutP s))
  have hgl := gap_le (cutP s)
  have cC := fun w hm => Go.Proofs.YtbiahfjjngkfgaaDoor.tok.cut_ct (bs s) (by rw [bs_size]; omega) w hm
  rw [show (bs s).data.toList = s from rfl] at cC
  replace cC := Lib.hid cC
  have cG := Lib.hid (fun b w h => gap_any b (cutP s) 0 false w h (by omega))
  have cV := fun b w h hE => (all_ct 400).1 b false (clb.gapP (cutP s)) 0 false d w (by omega) hgg (by decide) (by omega) h hE
  rw [hv] at cV
  replace cV := Lib.hid cV
  have cN := Lib.hid need_yes
  have cX := Lib.hid need_no
  have Hm := Lib.hid hm
  have HU := Lib.hid hU
  have hq4 : decide ((400 : Int) < ((bs s).size : Int)) = false := decide_eq_false (by rw [bs_size]; omega)
  clear hm hU hv
  have cE := fun b g w h => gap_any b M m g w h (by omega)
  rw [hcR] at cE
  replace cE := Lib.hid cE
  clear hcR
  go_enter_defers Tryd.func5, Tryd.ntmps5
  have HB0 := Lib.hid (show Below w.heap.size w ((w.alloc (.cells #[.int .i64 0, .int .i64 0, .string ⟨#[]⟩, .slice none 0 0] 27)).alloc (.cells #[.int .i64 0] 28)) from ((Below.refl _ _).alloc (Nat.le_refl _) _).alloc (by simp) _)
  have Q0 := Lib.hid (show Blk ((w.alloc (.cells #[.int .i64 0, .int .i64 0, .string ⟨#[]⟩, .slice none 0 0] 27)).alloc (.cells #[.int .i64 0] 28)) w.heap.size 27 #[.int .i64 0, .int .i64 0, .string ⟨#[]⟩, .slice none 0 0] from (Blk.new rfl).alloc _)
  have E0 := Lib.hid (show Blk ((w.alloc (.cells #[.int .i64 0, .int .i64 0, .string ⟨#[]⟩, .slice none 0 0] 27)).alloc (.cells #[.int .i64 0] 28)) (w.heap.size + 1) 28 #[.int .i64 0] from Blk.new (by simp))
  go_wp2_with (first
    | (go_at_call 9; (with_reducible refine (cC.out _ (Hm.out.on HB0.out Hm.out.lt)).mono ?_); rintro e W1 ⟨⟨A, cap, rfl, hcap, hrd⟩, hb1⟩; have hz1 := hb1.size; simp only [World.size_alloc] at hz1; have HB1 := Lib.hid (HB0.out.trans (hb1.mono (by simp <;> omega))); have Q1 := Lib.hid ((Q0.out.below hb1 (by simp <;> omega)).alloc (.cells #[.slice A (cutP s).length cap, .int .i64 0, .bool false] 41)); have E1 := Lib.hid ((E0.out.below hb1 (by simp <;> omega)).alloc (.cells #[.slice A (cutP s).length cap, .int .i64 0, .bool false] 41)); have HR1 := Lib.hid (show RdrAt (W1.alloc (.cells #[.slice A (cutP s).length cap, .int .i64 0, .bool false] 41)) W1.heap.size (cutP s) 0 false from ⟨A, cap, hcap, Blk.new rfl, Rd.keep hrd ((Below.refl _ _).alloc (Nat.le_refl _) _) (Nat.le_refl _)⟩); have HE1 := Lib.hid (show Env W1.heap.size (W1.alloc (.cells #[.slice A (cutP s).length cap, .int .i64 0, .bool false] 41)) from fun v hv => have hB := ((HB1.out.alloc (by omega) (.cells #[.slice A (cutP s).length cap, .int .i64 0, .bool false] 41)).trans (hv.mono (by omega))); ⟨Hm.out.on hB Hm.out.lt, HU.out.on hB⟩); have HX1 := Lib.hid (HB1.out.alloc (by omega) (.cells #[.slice A (cutP s).length cap, .int .i64 0, .bool false] 41)); clear hrd hb1)
    | (go_at_call 10; (with_reducible refine (cG.out _ _ HR1.out).mono ?_); rintro e W2 ⟨rfl, hr2, hg2⟩; have HR2 := Lib.hid (show RdrAt W2 W1.heap.size (clb.gapP (cutP s)) ((0 : Nat) : Int) false from hr2); have HE2 := Lib.hid (HE1.out.on (below_one hg2 (by simp))); have Q2 := Lib.hid (Blk_grown Q1.out hg2 (by omega)); have E2 := Lib.hid (Blk_grown E1.out hg2 (by omega)); have HX2 := Lib.hid (HX1.out.trans ((below_one hg2 (by simp)).mono (by omega))); have hz2 := hg2.size; rw [World.size_alloc] at hz2; clear hr2 hg2)
    | (go_at_call 11; (with_reducible refine (cV.out _ _ HR2.out HE2.out).mono ?_); rintro e W3 ⟨hg3, v, g3, rfl, ht3, hr3⟩; obtain ⟨vk, vn, vu, va, vl, vc, rfl⟩ := ht3.four; have q3 := Blk_grown Q2.out hg3 (by omega); have HR3 := Lib.hid (((apart_R hr3 q3).four (by omega) (.int .i64 vk) (.int .i64 vn) (.string vu) (.slice va vl vc)).to); have T3 := Lib.hid (te_four ht3 (q := w.heap.size) (fun c (h : W2.heap.size ≤ c) => by omega) (.int .i64 vk) (.int .i64 vn) (.string vu) (.slice va vl vc)); have q3c := q3.cell; have q3f := q3.frozen; have Q3 := Lib.hid (Blk.four q3 (.int .i64 vk) (.int .i64 vn) (.string vu) (.slice va vl vc)); have E3 := Lib.hid (blk_four (Blk_grown E2.out hg3 (by omega)) (q := w.heap.size) (by omega) (.int .i64 vk) (.int .i64 vn) (.string vu) (.slice va vl vc)); have HX3 := Lib.hid (below_four (HX2.out.trans ((below_one hg3 (by omega)).mono (by omega))) (q := w.heap.size) (Nat.le_refl _) (.int .i64 vk) (.int .i64 vn) (.string vu) (.slice va vl vc)); have hz3 := hg3.size; have hs3 := Lib.hid (show ((((W3.setCell ⟨w.heap.size, 0, none⟩ (.int .i64 vk)).setCell ⟨w.heap.size, 1, none⟩ (.int .i64 vn)).setCell ⟨w.heap.size, 2, none⟩ (.string vu)).setCell ⟨w.heap.size, 3, none⟩ (.slice va vl vc)).heap.size = W3.heap.size by simp [World.setCell]); clear ht3 hr3 hg3)
    | (go_at_call 10; (with_reducible refine (cE.out _ _ _ HR3.out).mono ?_); rintro e W4 ⟨rfl, hr4, hg4⟩; have hz4 := hg4.size; rw [hs3.out] at hz4; have q4 := Blk_grown Q3.out hg4 (by omega); have q4c := q4.cell; have q4f := q4.frozen; have Q4 := Lib.hid q4; have e4 := Blk_grown E3.out hg4 (by omega); have e4c := e4.cell; have e4f := e4.frozen; have E4 := Lib.hid e4; clear e4; have T4 := Lib.hid (T3.out.grown hg4 (fun c (h : W2.heap.size ≤ c) => by omega)); have HX4 := Lib.hid (HX3.out.trans ((below_one hg4 (by rw [hs3.out]; omega)).mono (by omega))); obtain ⟨A4, cap4, k4, hk4, hlt4, hcl4⟩ := rest_cell hr4; clear hr4 hg4 q4)
    | (go_at_call 12; (with_reducible refine (cX.out _ _).mono ?_); rintro e W5 ⟨rfl, rfl⟩))
  refine leaves_cons (f := 8) (args := #[.pointer (some ⟨w.heap.size, 0, none⟩), .pointer (some ⟨w.heap.size + 1, 0, none⟩)]) (by simp) (by simp [go_sem]) ?_
  refine (catch_own w.heap.size (w.heap.size + 1) w.heap.size 4 _ _ _ _ _ _ Q4.out E4.out (by omega) (Nat.le_refl _) (by omega) (by have := Q4.out.lt; omega)).mono ?_
  rintro e u' w'' ⟨rfl, rfl, hp, hq, hb⟩
  have ec := hp.cell
  have fc := hq.cell
  have HB := Lib.hid hb
  clear hp hq hb
  simp only [Leaves, settle, List.dropWhile]
  exact ⟨.tuple #[.agg #[.int .i64 0, .int .i64 0, .string ⟨#[]⟩, .slice none 0 0], .int .i64 4], by simp [results, Tryd.results5, go_sem, ec, fc], ⟨4, .inr rfl, rfl⟩, HX4.out.trans HB.out⟩

set_option maxRecDepth 100000 in
set_option maxHeartbeats 2000000 in
theorem read_ok (s : Bs) (hs : s.length ≤ 400) (d : Nat) (hd : 2401 ≤ d) (t : Te) (M : List Tk) (m : Nat) (hM : M.length ≤ 400) (hcR : clb.gapP M = []) (hv : valF d false (clb.gapP (cutP s)) 0 = some (t, M, m)) (w : World) (hm : MaxL w) (hU : UnitsAt w) :
    Calls Tryd.prog 5 #[.string (bs s)] w fun e w' => (∃ v, e = .returned (.tuple #[v, .int .i64 0]) ∧ TeAt (fun c => w.heap.size ≤ c) w' t v) ∧ Below w.heap.size w w' := by
  have hmf : ∀ (fn : Fn) (first cap : Array Value) (w : World), (Instr.makeFunc fn first cap).run Tryd.prog w = .ok (.func fn first cap) w := fun _ _ _ _ => rfl
  have hl := cut_few s
  have hgood := good_cut hs
  have hgg := hgood.suf (gap_suf (cutP s))
  have hgl := gap_le (cutP s)
  have cC := fun w hm => Go.Proofs.YtbiahfjjngkfgaaDoor.tok.cut_ct (bs s) (by rw [bs_size]; omega) w hm
  rw [show (bs s).data.toList = s from rfl] at cC
  replace cC := Lib.hid cC
  have cG := Lib.hid (fun b w h => gap_any b (cutP s) 0 false w h (by omega))
  have cV := fun b w h hE => (all_ct 400).1 b false (clb.gapP (cutP s)) 0 false d w (by omega) hgg (by decide) (by omega) h hE
  rw [hv] at cV
  replace cV := Lib.hid cV
  have cN := Lib.hid need_yes
  have cX := Lib.hid need_no
  have Hm := Lib.hid hm
  have HU := Lib.hid hU
  have hq4 : decide ((400 : Int) < ((bs s).size : Int)) = false := decide_eq_false (by rw [bs_size]; omega)
  clear hm hU hv
  have cE := fun b g w h => gap_any b M m g w h (by omega)
  rw [hcR] at cE
  replace cE := Lib.hid cE
  clear hcR
  go_enter_defers Tryd.func5, Tryd.ntmps5
  have HB0 := Lib.hid (show Below w.heap.size w ((w.alloc (.cells #[.int .i64 0, .int .i64 0, .string ⟨#[]⟩, .slice none 0 0] 27)).alloc (.cells #[.int .i64 0] 28)) from ((Below.refl _ _).alloc (Nat.le_refl _) _).alloc (by simp) _)
  have Q0 := Lib.hid (show Blk ((w.alloc (.cells #[.int .i64 0, .int .i64 0, .string ⟨#[]⟩, .slice none 0 0] 27)).alloc (.cells #[.int .i64 0] 28)) w.heap.size 27 #[.int .i64 0, .int .i64 0, .string ⟨#[]⟩, .slice none 0 0] from (Blk.new rfl).alloc _)
  have E0 := Lib.hid (show Blk ((w.alloc (.cells #[.int .i64 0, .int .i64 0, .string ⟨#[]⟩, .slice none 0 0] 27)).alloc (.cells #[.int .i64 0] 28)) (w.heap.size + 1) 28 #[.int .i64 0] from Blk.new (by simp))
  go_wp2_with (first
    | (go_at_call 9; (with_reducible refine (cC.out _ (Hm.out.on HB0.out Hm.out.lt)).mono ?_); rintro e W1 ⟨⟨A, cap, rfl, hcap, hrd⟩, hb1⟩; have hz1 := hb1.size; simp only [World.size_alloc] at hz1; have HB1 := Lib.hid (HB0.out.trans (hb1.mono (by simp <;> omega))); have Q1 := Lib.hid ((Q0.out.below hb1 (by simp <;> omega)).alloc (.cells #[.slice A (cutP s).length cap, .int .i64 0, .bool false] 41)); have E1 := Lib.hid ((E0.out.below hb1 (by simp <;> omega)).alloc (.cells #[.slice A (cutP s).length cap, .int .i64 0, .bool false] 41)); have HR1 := Lib.hid (show RdrAt (W1.alloc (.cells #[.slice A (cutP s).length cap, .int .i64 0, .bool false] 41)) W1.heap.size (cutP s) 0 false from ⟨A, cap, hcap, Blk.new rfl, Rd.keep hrd ((Below.refl _ _).alloc (Nat.le_refl _) _) (Nat.le_refl _)⟩); have HE1 := Lib.hid (show Env W1.heap.size (W1.alloc (.cells #[.slice A (cutP s).length cap, .int .i64 0, .bool false] 41)) from fun v hv => have hB := ((HB1.out.alloc (by omega) (.cells #[.slice A (cutP s).length cap, .int .i64 0, .bool false] 41)).trans (hv.mono (by omega))); ⟨Hm.out.on hB Hm.out.lt, HU.out.on hB⟩); have HX1 := Lib.hid (HB1.out.alloc (by omega) (.cells #[.slice A (cutP s).length cap, .int .i64 0, .bool false] 41)); clear hrd hb1)
    | (go_at_call 10; (with_reducible refine (cG.out _ _ HR1.out).mono ?_); rintro e W2 ⟨rfl, hr2, hg2⟩; have HR2 := Lib.hid (show RdrAt W2 W1.heap.size (clb.gapP (cutP s)) ((0 : Nat) : Int) false from hr2); have HE2 := Lib.hid (HE1.out.on (below_one hg2 (by simp))); have Q2 := Lib.hid (Blk_grown Q1.out hg2 (by omega)); have E2 := Lib.hid (Blk_grown E1.out hg2 (by omega)); have HX2 := Lib.hid (HX1.out.trans ((below_one hg2 (by simp)).mono (by omega))); have hz2 := hg2.size; rw [World.size_alloc] at hz2; clear hr2 hg2)
    | (go_at_call 11; (with_reducible refine (cV.out _ _ HR2.out HE2.out).mono ?_); rintro e W3 ⟨hg3, v, g3, rfl, ht3, hr3⟩; obtain ⟨vk, vn, vu, va, vl, vc, rfl⟩ := ht3.four; have q3 := Blk_grown Q2.out hg3 (by omega); have HR3 := Lib.hid (((apart_R hr3 q3).four (by omega) (.int .i64 vk) (.int .i64 vn) (.string vu) (.slice va vl vc)).to); have T3 := Lib.hid (te_four ht3 (q := w.heap.size) (fun c (h : W2.heap.size ≤ c) => by omega) (.int .i64 vk) (.int .i64 vn) (.string vu) (.slice va vl vc)); have q3c := q3.cell; have q3f := q3.frozen; have Q3 := Lib.hid (Blk.four q3 (.int .i64 vk) (.int .i64 vn) (.string vu) (.slice va vl vc)); have E3 := Lib.hid (blk_four (Blk_grown E2.out hg3 (by omega)) (q := w.heap.size) (by omega) (.int .i64 vk) (.int .i64 vn) (.string vu) (.slice va vl vc)); have HX3 := Lib.hid (below_four (HX2.out.trans ((below_one hg3 (by omega)).mono (by omega))) (q := w.heap.size) (Nat.le_refl _) (.int .i64 vk) (.int .i64 vn) (.string vu) (.slice va vl vc)); have hz3 := hg3.size; have hs3 := Lib.hid (show ((((W3.setCell ⟨w.heap.size, 0, none⟩ (.int .i64 vk)).setCell ⟨w.heap.size, 1, none⟩ (.int .i64 vn)).setCell ⟨w.heap.size, 2, none⟩ (.string vu)).setCell ⟨w.heap.size, 3, none⟩ (.slice va vl vc)).heap.size = W3.heap.size by simp [World.setCell]); clear ht3 hr3 hg3)
    | (go_at_call 10; (with_reducible refine (cE.out _ _ _ HR3.out).mono ?_); rintro e W4 ⟨rfl, hr4, hg4⟩; have hz4 := hg4.size; rw [hs3.out] at hz4; have q4 := Blk_grown Q3.out hg4 (by omega); have q4c := q4.cell; have q4f := q4.frozen; have Q4 := Lib.hid q4; have e4 := Blk_grown E3.out hg4 (by omega); have e4c := e4.cell; have e4f := e4.frozen; have E4 := Lib.hid e4; clear e4; have T4 := Lib.hid (T3.out.grown hg4 (fun c (h : W2.heap.size ≤ c) => by omega)); have HX4 := Lib.hid (HX3.out.trans ((below_one hg4 (by rw [hs3.out]; omega)).mono (by omega))); obtain ⟨A4, cap4, hlt4, hcl4⟩ := hr4.noneL; clear hr4 hg4 q4)
    | (go_at_call 12; (with_reducible refine (cN.out _ _).mono ?_); rintro e W5 ⟨rfl, rfl⟩))
  refine leaves_cons (f := 8) (args := #[.pointer (some ⟨w.heap.size, 0, none⟩), .pointer (some ⟨w.heap.size + 1, 0, none⟩)]) (by simp) (by simp [go_sem]) ?_
  refine (catch_idle ⟨w.heap.size, 0, none⟩ ⟨w.heap.size + 1, 0, none⟩ _).mono ?_
  rintro e u' w'' ⟨rfl, rfl, rfl⟩
  have ec := ((Blk.four Q4.out (.int .i64 vk) (.int .i64 vn) (.string vu) (.slice va vl vc)).far (p := ⟨w.heap.size + 1, 0, none⟩) (by dsimp only; omega) (.int .i64 0)).cell
  have fc := ((blk_four E4.out (q := w.heap.size) (by omega) (.int .i64 vk) (.int .i64 vn) (.string vu) (.slice va vl vc)).put 0 (.int .i64 0)).cell
  have TF := (te_four T4.out (q := w.heap.size) (fun c (h : W2.heap.size ≤ c) => by omega) (.int .i64 vk) (.int .i64 vn) (.string vu) (.slice va vl vc)).far (p := ⟨w.heap.size + 1, 0, none⟩) (fun c (h : W2.heap.size ≤ c) => by dsimp only; omega) (.int .i64 0)
  have HF := (below_four HX4.out (q := w.heap.size) (Nat.le_refl _) (.int .i64 vk) (.int .i64 vn) (.string vu) (.slice va vl vc)).setCell (p := ⟨w.heap.size + 1, 0, none⟩) (by dsimp only; omega) (.int .i64 0)
  generalize (((((W4.setCell ⟨w.heap.size, 0, none⟩ (.int .i64 vk)).setCell ⟨w.heap.size, 1, none⟩ (.int .i64 vn)).setCell ⟨w.heap.size, 2, none⟩ (.string vu)).setCell ⟨w.heap.size, 3, none⟩ (.slice va vl vc)).setCell ⟨w.heap.size + 1, 0, none⟩ (.int .i64 0)) = WF at *
  simp only [Leaves, settle]
  exact ⟨.tuple #[.agg #[.int .i64 vk, .int .i64 vn, .string vu, .slice va vl vc], .int .i64 0], by simp [results, Tryd.results5, go_sem, ec, fc], ⟨_, rfl, TF.wide (fun c (h : W2.heap.size ≤ c) _ => by omega)⟩, HF⟩

end Go.Proofs.YtbiahfjjngkfgaaDoor.clb

namespace Go.Proofs.YtbiahfjjngkfgaaDoor.clb
open Go.RowKit Go.Proofs.YtbiahfjjngkfgaaDoor.base Go.Proofs.YtbiahfjjngkfgaaDoor.tok Go.Proofs.YtbiahfjjngkfgaaDoor.dim Go.Proofs.YtbiahfjjngkfgaaDoor.rul Go.Proofs.YtbiahfjjngkfgaaDoor.cal
set_option linter.unusedVariables false

theorem join_eq (s : Bs) : ∀ l : List Te, joinT s l = Lib.join (l.map textT) s
  | [] => by rw [joinT]; rfl
  | [t] => by rw [joinT]; simp [Lib.join, List.intercalate]
  | t :: u :: l => by
    rw [joinT, join_eq s (u :: l)]
    simp [Lib.join, List.intercalate]
theorem pl_len (m : Nat) (hm : m ≤ 1000000000) : (plainP m).length ≤ 14 := by
  have hW := dec_len (m / 1000) (by omega)
  have hF := frac_len (r := m % 1000) (by omega)
  unfold plainP pointP
  split <;> simp <;> omega
theorem num_len {n : Int} {u : Bs} (h : Wf (.num n u)) : (numT n u).length ≤ 20 := by
  rw [Wf] at h
  obtain ⟨h0, h1, hu⟩ := h
  have h2 := pl_len n.natAbs (by omega)
  have h3 : u.length ≤ 3 := by
    have : ∀ u ∈ unitsL, u.length ≤ 3 := by decide
    exact this u hu
  unfold numT
  simp only [List.length_append]
  split
  · simp only [List.length_cons, List.length_nil]; omega
  · simp only [List.length_nil]; omega
theorem word_len (k : Int) : (wordT k).length ≤ 5 := by
  unfold wordT
  split
  · decide
  · split
    · decide
    · split <;> decide
theorem sign_len (k : Int) : (signP k).length ≤ 3 := by
  unfold signP
  split
  · decide
  · split
    · decide
    · split
      · decide
      · split <;> decide
theorem few_sizes (l : List Te) : l.length ≤ sizes l := by
  induction l with
  | nil => exact Nat.zero_le _
  | cons a l ih => rw [sizes_cons, List.length_cons]; have := wf_size a; omega
mutual
theorem tx_len : ∀ t : Te, Wf t → (textT t).length + 3 ≤ 40 * t.size
  | .num n u => fun h => by
    have := num_len h
    rw [textT, size_num]
    omega
  | .op k l => fun h => by
    have h1 := txs_len k l (wf_kind h).2.2.1
    have h2 := word_len k
    rw [text_op h, size_op]
    simp only [List.length_append, List.length_cons, List.length_nil]
    omega
theorem txs_len (k : Int) : ∀ l : List Te, Wfs l → (joinT (signP k) l).length ≤ 40 * sizes l
  | [] => fun _ => by rw [joinT]; exact Nat.zero_le _
  | [t] => fun h => by
    rw [Wfs] at h
    have := tx_len t h.1
    rw [joinT, sizes_cons]
    omega
  | t :: u :: l => fun h => by
    rw [Wfs] at h
    have h1 := tx_len t h.1
    have h2 := txs_len k (u :: l) h.2
    have h3 := sign_len k
    rw [joinT, sizes_cons]
    simp only [List.length_append]
    omega
end
/-- terms in a row, as rows of values -/
theorem TesAt.tms {X : Nat → Prop} {w : World} {c : Nat} : ∀ {l : List Te} {o : Nat}, TesAt X w c o l → ∃ L : List Tm, L.length = l.length ∧ ∀ (i : Nat) (t : Tm), L[i]? = some t → (w.cell? ⟨c, o + i * 4, none⟩ = some (.int .i64 t.k) ∧ w.cell? ⟨c, o + i * 4 + 1, none⟩ = some (.int .i64 t.n) ∧ w.cell? ⟨c, o + i * 4 + 2, none⟩ = some (.string t.u) ∧ w.cell? ⟨c, o + i * 4 + 3, none⟩ = some (.slice t.a t.l t.c)) ∧ ∃ te, l[i]? = some te ∧ TeAt X w te t.v
  | [], o, _ => ⟨[], rfl, fun i t h => by simp at h⟩
  | te :: l, o, h => by
    rw [TesAt] at h
    obtain ⟨⟨x0, x1, x2, x3, c0, c1, c2, c3, ht⟩, hl⟩ := h
    obtain ⟨k, n, s, a, m, cap, e⟩ := ht.four
    obtain ⟨rfl, rfl, rfl, rfl⟩ : x0 = .int .i64 k ∧ x1 = .int .i64 n ∧ x2 = .string s ∧ x3 = .slice a m cap := by simpa using e
    obtain ⟨L, hL, hc⟩ := TesAt.tms hl
    refine ⟨⟨k, n, s, a, m, cap⟩ :: L, by rw [List.length_cons, List.length_cons, hL], fun i t hi => ?_⟩
    cases i with
    | zero =>
      obtain rfl := Option.some.inj hi
      exact ⟨by simpa using ⟨c0, c1, c2, c3⟩, te, rfl, ht⟩
    | succ i =>
      have h2 := hc i t (by simpa using hi)
      rw [show o + (i + 1) * 4 = o + 4 + i * 4 by omega]
      obtain ⟨h3, te2, h4, h5⟩ := h2
      exact ⟨h3, te2, by simpa using h4, h5⟩
theorem word_any (k : Int) (hk : k = 2 ∨ k = 3 ∨ k = 4 ∨ k = 5 ∨ k = 6 ∨ k = 7 ∨ k = 8) (w : World) : Calls Tryd.prog 15 #[.int .i64 k] w fun e w' => e = .returned (.string (bs (wordT k))) ∧ w = w' := by
  rcases hk with rfl | rfl | rfl | rfl | rfl | rfl | rfl
  all_goals
    go_enter Tryd.func15, Tryd.ntmps15
    go_wp2
    go_ret
    exact ⟨rfl, rfl⟩
theorem sign_any (k : Int) (hk : k = 2 ∨ k = 3 ∨ k = 4 ∨ k = 5 ∨ k = 6 ∨ k = 7 ∨ k = 8) (w : World) : Calls Tryd.prog 17 #[.int .i64 k] w fun e w' => e = .returned (.string (bs (signP k))) ∧ w = w' := by
  rcases hk with rfl | rfl | rfl | rfl | rfl | rfl | rfl
  all_goals
    go_enter Tryd.func17, Tryd.ntmps17
    go_wp2
    go_ret
    exact ⟨rfl, rfl⟩
def TextC (t : Te) : Prop := ∀ (X : Nat → Prop) (w : World) (v : Value), PowAt w → TeAt X w t v → Calls Tryd.prog 7 #[v] w fun e w' => e = .returned (.string (bs (textT t))) ∧ Below w.heap.size w w'
theorem num_text {n : Int} {u : Bs} (h : Wf (.num n u)) (w : World) (hT : PowAt w) : Calls Tryd.prog 14 #[.agg #[.int .i64 n, .string (bs u)]] w fun e w' => e = .returned (.string (bs (numT n u))) ∧ Below w.heap.size w w' := by
  rw [Wf] at h
  obtain ⟨h0, h1, hu⟩ := h
  have h3 : u.length ≤ 3 := by
    have : ∀ u ∈ unitsL, u.length ≤ 3 := by decide
    exact this u hu
  unfold numT
  by_cases hn : n < 0
  · rw [if_pos hn]
    have h := text_minus n.natAbs (by omega) (by omega) u h3 w hT
    rwa [show -(n.natAbs : Int) = n by omega] at h
  · rw [if_neg hn, List.nil_append]
    have h := text_plain n.natAbs (by omega) u h3 w hT
    rwa [show (n.natAbs : Int) = n by omega] at h
mutual
theorem text_any : ∀ t : Te, Wf t → t.size ≤ 1000 → TextC t
  | .num n u => fun h _ X w v hT ht => by
    rw [TeAt] at ht
    rw [ht, textT]
    exact text_leaf n (bs u) (numT n u) (fun w hT => num_text h w hT) w hT
  | .op k l => fun h_ hs X w v hT ht => by
    rw [size_op] at hs
    have hkind := wf_kind h_
    obtain ⟨hk, hl0, hwl, hsh⟩ := hkind
    have hall := texts_any l hwl (by omega)
    have hlen := txs_len k l hwl
    have hwd := word_len k
    rw [TeAt] at ht
    obtain ⟨c, o, cap, rfl, hcap, hX, hc, hts⟩ := ht
    obtain ⟨L, hL, hcells⟩ := TesAt.tms hts
    have hm : 0 < l.length := List.length_pos_iff.2 hl0
    have hcnt : l.length ≤ sizes l := few_sizes l
    have hsp : shapedP k l.length = true := by
      cases h9 : shapedP k l.length with
      | true => rfl
      | false => rw [h9] at hsh; cases hsh
    have h := text_node k 0 ⟨#[]⟩ c o cap L (l.map textT) (wordT k) (signP k) (by omega) (by omega) (by omega) (by omega) w ⟨hc, fun i t hi => (hcells i t hi).1⟩ (by rw [List.length_map, hL])
      (fun w => by
        have h := shaped_any k 0 ⟨#[]⟩ (some ⟨c, o, none⟩) L.length cap (by omega) w
        rwa [hL, hsp, ← hL] at h) (word_any k hk) (sign_any k hk)
      (fun i t s hi hs W hW => by
        obtain ⟨te, hte, hat⟩ := (hcells i t hi).2
        rw [List.getElem?_map, hte] at hs
        obtain rfl := Option.some.inj hs
        exact hall te (List.mem_of_getElem? hte) X W t.v (hT.on hW) (hat.on hW))
      (by omega) (by rw [← join_eq]; omega)
    rw [hL] at h
    rw [text_op h_, join_eq]
    rwa [show wordT k ++ [40] ++ Lib.join (l.map textT) (signP k) ++ [41] = wordT k ++ 40 :: (Lib.join (l.map textT) (signP k) ++ [41]) by simp] at h
theorem texts_any : ∀ l : List Te, Wfs l → sizes l ≤ 1000 → ∀ t ∈ l, TextC t
  | [] => fun _ _ t ht => absurd ht List.not_mem_nil
  | a :: l => fun h hs t ht => by
    rw [Wfs] at h
    rw [sizes_cons] at hs
    rcases List.mem_cons.1 ht with e | e
    · rw [e]; exact text_any a h.1 (by omega)
    · exact texts_any l h.2 (by omega) t e
end

end Go.Proofs.YtbiahfjjngkfgaaDoor.clb

namespace Go.Proofs.YtbiahfjjngkfgaaDoor.clb
open Go.RowKit Go.Proofs.YtbiahfjjngkfgaaDoor.base Go.Proofs.YtbiahfjjngkfgaaDoor.tok Go.Proofs.YtbiahfjjngkfgaaDoor.dim Go.Proofs.YtbiahfjjngkfgaaDoor.rul Go.Proofs.YtbiahfjjngkfgaaDoor.cal
set_option linter.unusedVariables false

theorem same_kind (k k' n n' : Int) (u u' : ByteArray) (a a' : Option Addr) (m c m' c' : Nat) (hk : k ≠ k') (w : World) :
    Calls Tryd.prog 6 #[.agg #[.int .i64 k, .int .i64 n, .string u, .slice a m c], .agg #[.int .i64 k', .int .i64 n', .string u', .slice a' m' c']] w fun e w' => e = .returned (.bool false) ∧ Below w.heap.size w w' := by
  have h1 : (k == k') = false := by rw [beq_eq_false_iff_ne]; exact hk
  have hb := Lib.hid (show Below w.heap.size w ((w.alloc (.cells #[.int .i64 k, .int .i64 n, .string u, .slice a m c] 27)).alloc (.cells #[.int .i64 k', .int .i64 n', .string u', .slice a' m' c'] 27)) from ((Below.refl _ _).alloc (Nat.le_refl _) _).alloc (by simp) _)
  go_enter Tryd.func6, Tryd.ntmps6
  go_wp2_with fail
  go_ret
  exact ⟨rfl, hb.out⟩

set_option maxRecDepth 100000 in
set_option maxHeartbeats 16000000 in
theorem same_row (k n : Int) (u : ByteArray) (A A' : Option Addr) (m cap cap' : Nat) (hm : m ≤ 1000000) (hcap : m ≤ cap) (hcap' : m ≤ cap') (w : World)
    (hC : ∀ i, i < m → ∃ (c o c' o' : Nat) (t t' : Tm), A = some ⟨c, o, none⟩ ∧ A' = some ⟨c', o', none⟩ ∧ c < w.heap.size ∧ c' < w.heap.size ∧
      (w.cell? ⟨c, o + i * 4, none⟩ = some (.int .i64 t.k) ∧ w.cell? ⟨c, o + i * 4 + 1, none⟩ = some (.int .i64 t.n) ∧ w.cell? ⟨c, o + i * 4 + 2, none⟩ = some (.string t.u) ∧ w.cell? ⟨c, o + i * 4 + 3, none⟩ = some (.slice t.a t.l t.c)) ∧
      (w.cell? ⟨c', o' + i * 4, none⟩ = some (.int .i64 t'.k) ∧ w.cell? ⟨c', o' + i * 4 + 1, none⟩ = some (.int .i64 t'.n) ∧ w.cell? ⟨c', o' + i * 4 + 2, none⟩ = some (.string t'.u) ∧ w.cell? ⟨c', o' + i * 4 + 3, none⟩ = some (.slice t'.a t'.l t'.c)) ∧
      ∀ W, Below w.heap.size w W → Calls Tryd.prog 6 #[t.v, t'.v] W fun e W' => e = .returned (.bool true) ∧ Below W.heap.size W W') :
    Calls Tryd.prog 6 #[.agg #[.int .i64 k, .int .i64 n, .string u, .slice A m cap], .agg #[.int .i64 k, .int .i64 n, .string u, .slice A' m cap']] w fun e w' => e = .returned (.bool true) ∧ Below w.heap.size w w' := by
  replace hC := Lib.hid hC
  obtain ⟨W0, hW0⟩ : ∃ W, W = (w.alloc (.cells #[.int .i64 k, .int .i64 n, .string u, .slice A m cap] 27)).alloc (.cells #[.int .i64 k, .int .i64 n, .string u, .slice A' m cap'] 27) := ⟨_, rfl⟩
  have HB := Lib.hid (show Below w.heap.size w W0 from by rw [hW0]; exact ((Below.refl _ _).alloc (Nat.le_refl _) _).alloc (by simp) _)
  have P0 := Lib.hid (show Blk W0 w.heap.size 27 #[.int .i64 k, .int .i64 n, .string u, .slice A m cap] from by rw [hW0]; exact (Blk.new rfl).alloc _)
  have P1 := Lib.hid (show Blk W0 (w.heap.size + 1) 27 #[.int .i64 k, .int .i64 n, .string u, .slice A' m cap'] from by rw [hW0]; exact Blk.new (by simp))
  have hz : w.heap.size + 2 ≤ W0.heap.size := by rw [hW0]; simp
  replace hW0 := Lib.hid hW0
  go_enter Tryd.func6, Tryd.ntmps6
  go_wp2_with fail
  go_loopw [5] (fun i wr => ∃ j : Nat, j ≤ m ∧ i = .int .i64 j ∧ Below (w.heap.size + 2) W0 wr) (fun i _ => m - (intOf i).toNat)
  case atStart => exact ⟨0, Nat.zero_le _, rfl, by rw [hW0.out]; exact Below.refl _ _⟩
  case round =>
    obtain ⟨j, hj, rfl, hbw⟩ := hrel
    have HBw := Lib.hid (HB.out.trans (hbw.mono (by omega)))
    have p0 := P0.out.below hbw (by omega)
    have p1 := P1.out.below hbw (by omega)
    have p0c := p0.cell
    have p1c := p1.cell
    have hzz := Nat.le_trans hz hbw.size
    replace hbw := Lib.hid hbw
    clear p0 p1
    by_cases hlt : j < m
    · have hlt' : (j : Int) < (m : Int) := by omega
      obtain ⟨c, o, c', o', t, t', rfl, rfl, hc, hc', ⟨g0, g1, g2, g3⟩, ⟨h0, h1, h2, h3⟩, hT⟩ := hC.out j hlt
      have hlw : ∀ {b o : Nat}, b < w.heap.size → wr.cell? ⟨b, o, none⟩ = w.cell? ⟨b, o, none⟩ := fun hb => HBw.out.cell (p := ⟨_, _, none⟩) hb
      replace g0 := (hlw hc).trans g0
      replace g1 := (hlw hc).trans g1
      replace g2 := (hlw hc).trans g2
      replace g3 := (hlw hc).trans g3
      replace h0 := (hlw hc').trans h0
      replace h1 := (hlw hc').trans h1
      replace h2 := (hlw hc').trans h2
      replace h3 := (hlw hc').trans h3
      have cT := Lib.hid (hT wr.drew HBw.out.drew)
      obtain ⟨tk, tn, tu, ta, tl, tc⟩ := t
      obtain ⟨sk, sn, su, sa, sl, sc⟩ := t'
      unfold Tm.v at cT
      dsimp only at g0 g1 g2 g3 h0 h1 h2 h3 cT
      clear hT hlw
      have ZR : wr.heap.size ≤ wr.heap.size := Nat.le_refl _
      have hq0 : w.heap.size < wr.heap.size := by omega
      have hq1 : w.heap.size + 1 < wr.heap.size := by omega
      have hq2 : c < wr.heap.size := by omega
      have hq3 : c' < wr.heap.size := by omega
      go_wp2_with fail
      go_region_held3 (fun w' => (∀ b o, b < wr.heap.size → w'.cell? ⟨b, o, none⟩ = wr.cell? ⟨b, o, none⟩) ∧ Below wr.heap.size wr w')
        (first | exact As.beg | assumption | exact As.on hb3 (by assumption) ZR)
        (first
          | (go_at_call 6; (with_reducible refine cT.out.mono ?_); rintro e W2 ⟨rfl, hb3⟩; have HB3 := Lib.hid (hbw.out.drew.trans (hb3.mono (show w.heap.size + 2 ≤ wr.drew.heap.size from hzz)))))
      all_goals
        rename_i hHeld
        clear hHeld
        go_wp2
        go_roundw
        case rel => exact ⟨j + 1, by omega, by go_num, HB3.out⟩
        case measure => simp [intOf]; omega
    · obtain rfl : j = m := by omega
      go_wp2
      go_ret
      exact ⟨rfl, HBw.out⟩

def SameC (t : Te) : Prop := ∀ (X Y : Nat → Prop) (w : World) (v v' : Value), TeAt X w t v → TeAt Y w t v' → Calls Tryd.prog 6 #[v, v'] w fun e w' => e = .returned (.bool true) ∧ Below w.heap.size w w'
mutual
theorem same_any : ∀ t : Te, t.size ≤ 1000 → SameC t
  | .num n u => fun _ X Y w v v' h h' => by
    rw [TeAt] at h h'
    rw [h, h']
    exact same_row 1 n (bs u) none none 0 0 0 (by decide) (Nat.le_refl _) (Nat.le_refl _) w (fun i hi => absurd hi (Nat.not_lt_zero _))
  | .op k l => fun hs X Y w v v' h h' => by
    rw [size_op] at hs
    have hall := sames_any l (by omega)
    rw [TeAt] at h h'
    obtain ⟨c, o, cap, rfl, hcap, _, hc, ht⟩ := h
    obtain ⟨c', o', cap', rfl, hcap', _, hc', ht'⟩ := h'
    have hcnt : l.length ≤ sizes l := few_sizes l
    obtain ⟨L, hL, hcells⟩ := TesAt.tms ht
    obtain ⟨L', hL', hcells'⟩ := TesAt.tms ht'
    refine same_row k 0 ⟨#[]⟩ (some ⟨c, o, none⟩) (some ⟨c', o', none⟩) l.length cap cap' (by omega) hcap hcap' w (fun i hi => ?_)
    have e1 := List.getElem?_eq_getElem (show i < L.length by omega)
    have e2 := List.getElem?_eq_getElem (show i < L'.length by omega)
    obtain ⟨g, te, h1, hat⟩ := hcells i _ e1
    obtain ⟨g', te', h2, hat'⟩ := hcells' i _ e2
    obtain rfl := Option.some.inj (h1.symm.trans h2)
    exact ⟨c, o, c', o', _, _, rfl, rfl, hc, hc', g, g', fun W hW => hall te (List.mem_of_getElem? h1) X Y W _ _ (hat.on hW) (hat'.on hW)⟩
theorem sames_any : ∀ l : List Te, sizes l ≤ 1000 → ∀ t ∈ l, SameC t
  | [] => fun _ t ht => absurd ht List.not_mem_nil
  | a :: l => fun hs t ht => by
    rw [sizes_cons] at hs
    rcases List.mem_cons.1 ht with e | e
    · rw [e]; exact same_any a (by omega)
    · exact sames_any l (by omega) t e
end

end Go.Proofs.YtbiahfjjngkfgaaDoor.clb

namespace Go.Proofs.YtbiahfjjngkfgaaDoor.clb
open Go.RowKit Go.Proofs.YtbiahfjjngkfgaaDoor.base Go.Proofs.YtbiahfjjngkfgaaDoor.tok Go.Proofs.YtbiahfjjngkfgaaDoor.dim Go.Proofs.YtbiahfjjngkfgaaDoor.rul Go.Proofs.YtbiahfjjngkfgaaDoor.cal
set_option linter.unusedVariables false

set_option maxRecDepth 100000 in
set_option maxHeartbeats 1000000 in
theorem read_large (s : ByteArray) (hs : 400 < s.size) (w : World) :
    Calls Tryd.prog 5 #[.string s] w fun e w' => e = .returned (.tuple #[.agg #[.int .i64 0, .int .i64 0, .string ⟨#[]⟩, .slice none 0 0], .int .i64 2]) ∧ Below w.heap.size w w' := by
  have ec := Lib.hid (show Blk ((w.alloc (.cells #[.int .i64 0, .int .i64 0, .string ⟨#[]⟩, .slice none 0 0] 27)).alloc (.cells #[.int .i64 2] 28)) w.heap.size 27 #[.int .i64 0, .int .i64 0, .string ⟨#[]⟩, .slice none 0 0] from (Blk.new rfl).alloc _).cell
  have fc := Lib.hid (show Blk ((w.alloc (.cells #[.int .i64 0, .int .i64 0, .string ⟨#[]⟩, .slice none 0 0] 27)).alloc (.cells #[.int .i64 2] 28)) (w.heap.size + 1) 28 #[.int .i64 2] from Blk.new (by simp)).cell
  have HB := Lib.hid (show Below w.heap.size w ((w.alloc (.cells #[.int .i64 0, .int .i64 0, .string ⟨#[]⟩, .slice none 0 0] 27)).alloc (.cells #[.int .i64 2] 28)) from ((Below.refl _ _).alloc (Nat.le_refl _) _).alloc (by simp) _)
  have hs' : decide ((400 : Int) < (s.size : Int)) = true := decide_eq_true (by omega)
  go_enter Tryd.func5, Tryd.ntmps5
  go_wp2_with fail
  refine bodyPost_ret (v := .tuple #[.agg #[.int .i64 0, .int .i64 0, .string ⟨#[]⟩, .slice none 0 0], .int .i64 2]) (by simp [results, Tryd.results5, go_sem, ec.out, fc.out]) rfl ⟨rfl, HB.out⟩

def ReadC (s : Bs) : Option Te → Prop
  | none => ∀ w, MaxL w → UnitsAt w → Calls Tryd.prog 5 #[.string (bs s)] w fun e w' => (∃ x, IsErr x ∧ e = .returned (.tuple #[.agg #[.int .i64 0, .int .i64 0, .string ⟨#[]⟩, .slice none 0 0], .int .i64 x])) ∧ Below w.heap.size w w'
  | some t => ∀ w, MaxL w → UnitsAt w → Calls Tryd.prog 5 #[.string (bs s)] w fun e w' => (∃ v, e = .returned (.tuple #[v, .int .i64 0]) ∧ TeAt (fun c => w.heap.size ≤ c) w' t v) ∧ Below w.heap.size w w'
theorem read_any (s : Bs) (d : Nat) (hd : 2401 ≤ d) : ReadC s (readT d s) := by
  by_cases hl : 400 < s.length
  · unfold readT
    rw [if_pos hl]
    exact fun w _ _ => (read_large (bs s) (by rw [bs_size]; exact hl) w).mono fun e w' ⟨he, hb⟩ => ⟨⟨2, .inl rfl, he⟩, hb⟩
  · have hs : s.length ≤ 400 := by omega
    unfold readT
    rw [if_neg hl]
    cases hv : valF d false (clb.gapP (cutP s)) 0 with
    | none => exact fun w hm hU => read_die s hs d hd hv w hm hU
    | some r =>
      obtain ⟨t, M, m⟩ := r
      have hgg := (good_cut hs).suf (gap_suf (cutP s))
      obtain ⟨-, -, -, hMs, -⟩ := (inv_all d).1 false (clb.gapP (cutP s)) 0 t M m hgg.good hv
      have hM : M.length ≤ 400 := Nat.le_trans hMs.length_le hgg.1
      simp only
      cases hcR : clb.gapP M with
      | nil =>
        rw [if_pos rfl]
        exact fun w hm hU => read_ok s hs d hd t M m hM hcR hv w hm hU
      | cons c R =>
        rw [if_neg (by simp)]
        exact fun w hm hU => read_rest s hs d hd t M m c R hM hcR hv w hm hU
/-- what is read is well formed, and small -/
theorem read_wf {d : Nat} {s : Bs} {t : Te} (h : readT d s = some t) : Wf t ∧ t.size ≤ 30 := by
  unfold readT at h
  by_cases hl : 400 < s.length
  · rw [if_pos hl] at h
    cases h
  · rw [if_neg hl] at h
    cases hv : valF d false (clb.gapP (cutP s)) 0 with
    | none => rw [hv] at h; cases h
    | some r =>
      obtain ⟨t', M, m⟩ := r
      rw [hv] at h
      simp only at h
      by_cases hg : clb.gapP M = []
      · rw [if_pos hg] at h
        obtain rfl := Option.some.inj h
        have hgg := (good_cut (s := s) (by omega)).suf (gap_suf (cutP s))
        obtain ⟨h1, h2, h3, -, -⟩ := (inv_all d).1 false (clb.gapP (cutP s)) 0 t' M m hgg.good hv
        exact ⟨h1, by omega⟩
      · rw [if_neg hg] at h
        cases h
/-- told and read -/
theorem told_read {t : Te} (hw : Wf t) (hs : t.size ≤ 30) : ∃ d, 2401 ≤ d ∧ ((calcOf t).length ≤ 400 → readT d (calcOf t) = some t) := by
  obtain ⟨D, hD⟩ := read_told hw hs
  refine ⟨max D 2401, by omega, fun hl => ?_⟩
  unfold readT
  rw [if_neg (by omega), hD _ (by omega)]
  rfl
theorem kind_pos {X : Nat → Prop} {w : World} {t : Te} {v : Value} (hw : Wf t) (h : TeAt X w t v) : ∃ k n s a m cap, v = .agg #[.int .i64 k, .int .i64 n, .string s, .slice a m cap] ∧ 0 ≠ k := by
  cases t with
  | num n u => rw [TeAt] at h; exact ⟨_, _, _, _, _, _, h, by decide⟩
  | op k l =>
    have hk := (wf_kind hw).1
    rw [TeAt] at h
    obtain ⟨c, o, cap, e, -⟩ := h
    exact ⟨_, _, _, _, _, _, e, by omega⟩

end Go.Proofs.YtbiahfjjngkfgaaDoor.clb
