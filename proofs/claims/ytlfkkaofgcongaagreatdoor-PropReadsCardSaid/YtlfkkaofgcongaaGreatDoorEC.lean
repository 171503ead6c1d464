/- Contracts and plain law, a bundle. -/
import Derived.Lib.Hide
import Derived.Test.YtlfkkaofgcongaaGreatDoorE8
import Derived.Test.YtlfkkaofgcongaaGreatDoorEB
import Derived.Test.YtlfkkaofgcongaaGreatDoorBD1
import Derived.Test.YtlfkkaofgcongaaGreatDoorBC1
import Derived.Test.YtlfkkaofgcongaaGreatDoorEA
set_option linter.unusedVariables false
set_option maxRecDepth 100000
set_option maxHeartbeats 16000000
open Go.Lib (hid)
namespace Go.Proofs.YtlfkkaofgcongaaGreatDoor
namespace clb
open Go.RowKit base tok dim rul cal
theorem good_cut {s : Bs} (hs : s.length <= 400) : GoodR (cutP s) :=
 ⟨Nat.le_trans (cut_few s) hs, fun t ht => ⟨cut_alone s.length s (Nat.le_refl _) t ht, by have := cut_vals s.length s (Nat.le_refl _) t ht; omega, by have := cut_vals s.length s (Nat.le_refl _) t ht; omega⟩⟩
def RdrFar (q : Nat) (w : World) (b : Nat) (L : List Tk) (k : Int) (g : Bool) : Prop := ∃ A cap, L.length <= cap /\ Blk w b 107 #[.slice A L.length cap, .int .i64 k, .bool g] /\ TRd w b A L.length L /\ ∀ c off, 0 < L.length -> A = some ⟨c, off, none⟩ -> c ≠ q
theorem RdrFar.to {q : Nat} {w : World} {b : Nat} {L : List Tk} {k : Int} {g : Bool} (h : RdrFar q w b L k g) : RdrAt w b L k g := by
 obtain ⟨A, cap, h1, h2, h3, _⟩ := h
 exact ⟨A, cap, h1, h2, h3⟩
theorem RdrFar.far {q : Nat} {w : World} {b : Nat} {L : List Tk} {k : Int} {g : Bool} (h : RdrFar q w b L k g) (hq : b ≠ q) (j : Nat) (v : Value) : RdrFar q (w.setCell ⟨q, j, none⟩ v) b L k g := by
 obtain ⟨A, cap, hc, hb, hr, hn⟩ := h
 refine ⟨A, cap, hc, hb.far hq v, ⟨hr.1, fun h0 => ?_⟩, hn⟩
 obtain ⟨c, off, hA, hlt, hx⟩ := hr.2 h0
 refine ⟨c, off, hA, hlt, fun i t ht l hl => ?_⟩
 rw [World.cell?_setCell_other w ⟨q, j, none⟩ ⟨c, off + i * 4 + l, none⟩ v (fun e => hn c off h0 hA (congrArg Addr.block e).symm)]
 exact hx i t ht l hl
theorem RdrFar.four {q : Nat} {w : World} {b : Nat} {L : List Tk} {k : Int} {g : Bool} (h : RdrFar q w b L k g) (hq : b ≠ q) (x0 x1 x2 x3 : Value) : RdrFar q ((((w.setCell ⟨q, 0, none⟩ x0).setCell ⟨q, 1, none⟩ x1).setCell ⟨q, 2, none⟩ x2).setCell ⟨q, 3, none⟩ x3) b L k g :=
 (((h.far hq 0 x0).far hq 1 x1).far hq 2 x2).far hq 3 x3
theorem apart_R {q : Nat} {w : World} {b : Nat} {L : List Tk} {k : Int} {g : Bool} {a0 a1 : Int} {x2 x3 : Value} (h : RdrAt w b L k g) (hq : Blk w q 50 #[.int .i64 a0, .int .i64 a1, x2, x3]) : RdrFar q w b L k g := by
 obtain ⟨A, cap, hc, hb, hr⟩ := h
 refine ⟨A, cap, hc, hb, hr, fun c off h0 hA e => ?_⟩
 subst e
 obtain ⟨c', off', t, hA', _, _, y0, y1, y2, y3⟩ := TRd.tok hr (k := 0) h0
 cases hA.symm.trans hA'
 cases off with
 | zero =>
  have := (hq.cell 1).symm.trans y1
  cases this
 | succ off =>
  rw [show off + 1 + 0 * 4 + 3 = off + 4 by omega] at y3
  have := (hq.cell (off + 4)).symm.trans y3
  simp at this
theorem te_four {X : Nat -> Prop} {w : World} {t : Te} {v : Value} (h : TeAt X w t v) {q : Nat} (hq : ∀ c, X c -> c ≠ q) (x0 x1 x2 x3 : Value) : TeAt X ((((w.setCell ⟨q, 0, none⟩ x0).setCell ⟨q, 1, none⟩ x1).setCell ⟨q, 2, none⟩ x2).setCell ⟨q, 3, none⟩ x3) t v :=
 (((h.far (p := ⟨q, 0, none⟩) hq x0).far (p := ⟨q, 1, none⟩) hq x1).far (p := ⟨q, 2, none⟩) hq x2).far (p := ⟨q, 3, none⟩) hq x3
theorem blk_four {w : World} {k : Nat} {t : TypeId} {cs : Array Value} (h : Blk w k t cs) {q : Nat} (hq : k ≠ q) (x0 x1 x2 x3 : Value) : Blk ((((w.setCell ⟨q, 0, none⟩ x0).setCell ⟨q, 1, none⟩ x1).setCell ⟨q, 2, none⟩ x2).setCell ⟨q, 3, none⟩ x3) k t cs :=
 (((h.far (p := ⟨q, 0, none⟩) hq x0).far (p := ⟨q, 1, none⟩) hq x1).far (p := ⟨q, 2, none⟩) hq x2).far (p := ⟨q, 3, none⟩) hq x3
theorem below_four {B : Nat} {w w' : World} (h : Below B w w') {q : Nat} (hq : B <= q) (x0 x1 x2 x3 : Value) : Below B w ((((w'.setCell ⟨q, 0, none⟩ x0).setCell ⟨q, 1, none⟩ x1).setCell ⟨q, 2, none⟩ x2).setCell ⟨q, 3, none⟩ x3) :=
 (((h.setCell (p := ⟨q, 0, none⟩) hq x0).setCell (p := ⟨q, 1, none⟩) hq x1).setCell (p := ⟨q, 2, none⟩) hq x2).setCell (p := ⟨q, 3, none⟩) hq x3
theorem rest_cell {w : World} {b : Nat} {c : Tk} {L : List Tk} {k : Int} {g : Bool} (h : RdrAt w b (c :: L) k g) : ∃ A cap m, (((m : Nat) : Int) == 0) = false /\ b < w.heap.size /\ w.cell? ⟨b, 0, none⟩ = some (.slice A m cap) := by
 obtain ⟨A, cap, hc, hb, hr⟩ := h
 exact ⟨A, cap, (c :: L).length, by rw [beq_eq_false_iff_ne]; simp only [List.length_cons]; omega, hb.lt, hb.cell 0⟩
theorem assert_own (v : Value) (w : World) : (Instr.typeAssert (.iface 103 v) 20 103 true).run Tryz.prog w = .ok (.tuple #[v, .bool true]) w := by
 simp [Instr.typeAssert, go_sem]
theorem catch_own (p q B : Nat) (x : Int) (a0 a1 : Int) (x2 x3 y : Value) (w : World) (hp : Blk w p 50 #[.int .i64 a0, .int .i64 a1, x2, x3]) (hq : Blk w q 34 #[y]) (hpq : p ≠ q) (hB : B <= p) (hB2 : B <= q) (hBw : B <= w.heap.size) :
  CallsD Tryz.prog 60 #[.pointer (some ⟨p, 0, none⟩), .pointer (some ⟨q, 0, none⟩)] (.panicking (chainP x)) w fun e u' w' => e = .returned (.tuple #[]) /\ u' = .panicking [{ v := .iface 103 (.agg #[.int .i64 x]), recovered := true }] /\
   Blk w' p 50 #[.int .i64 0, .int .i64 0, .string ⟨#[]⟩, .slice none 0 0] /\ Blk w' q 34 #[.int .i64 x] /\ Below B w w' := by
 have pc := hp.cell
 have pf := hp.frozen
 have qc := hq.cell
 have qf := hq.frozen
 refine callsD_of_wpS Tryz.func60 rfl fun c₀ cs hu => ?_
 simp only [Tryz.ntmps60, List.size_toArray, List.length_cons, List.length_nil, Nat.reduceAdd, Nat.reduceSub, Array.replicate_succ, Array.replicate_zero, List.push_toArray, List.append_toArray, List.nil_append, List.cons_append]
 apply wpS_seq
 apply wpS_region
 simp [wpOpsS, go_sem, recoverD, hu, Exit.thenS, chainP]
 refine wpS_of_wp ?_
 have hta := assert_own (.agg #[.int .i64 x]) w
 have hpl := hp.lt
 have hql := hq.lt
 have n1 : ¬ p = w.heap.size := by omega
 have n2 : ¬ q = w.heap.size := by omega
 have n3 : ¬ w.heap.size = p := by omega
 have n4 : ¬ w.heap.size = q := by omega
 have n5 : ¬ q = p := by omega
 obtain ⟨W0, hW0⟩ : ∃ W, W = w.alloc (.cells #[.int .i64 x] 103) := ⟨_, rfl⟩
 have P0 := hid (show Blk W0 p 50 #[.int .i64 a0, .int .i64 a1, x2, x3] by rw [hW0]; exact hp.alloc _)
 have E0 := hid (show Blk W0 q 34 #[y] by rw [hW0]; exact hq.alloc _)
 have B0 := hid (show Blk W0 w.heap.size 103 #[.int .i64 x] by rw [hW0]; exact Blk.new rfl)
 have HB0 := hid (show Below B w W0 by rw [hW0]; exact (Below.refl B w).alloc hBw _)
 go_wp2_with fail
 rw [<- hW0]
 have p0 := P0.out.cell
 have p1 := P0.out.frozen
 have e0 := E0.out.cell
 have e1 := E0.out.frozen
 have b0 := B0.out.cell
 clear hW0
 go_region
 all_goals
  go_wp2
  have FP := hid ((Blk.four P0.out (.int .i64 0) (.int .i64 0) (.string ⟨#[]⟩) (.slice none 0 0)).far (p := ⟨q, 0, none⟩) (by dsimp only; omega) (.int .i64 x))
  have FQ := hid ((((((E0.out.far (p := ⟨p, 0, none⟩) (by dsimp only; omega) (.int .i64 0)).far (p := ⟨p, 1, none⟩) (by dsimp only; omega) (.int .i64 0)).far (p := ⟨p, 2, none⟩) (by dsimp only; omega) (.string ⟨#[]⟩)).far (p := ⟨p, 3, none⟩) (by dsimp only; omega) (.slice none 0 0)).put 0 (.int .i64 x)))
  have FB := hid (((((HB0.out.setCell (p := ⟨p, 0, none⟩) hB (.int .i64 0)).setCell (p := ⟨p, 1, none⟩) hB (.int .i64 0)).setCell (p := ⟨p, 2, none⟩) hB (.string ⟨#[]⟩)).setCell (p := ⟨p, 3, none⟩) hB (.slice none 0 0)).setCell (p := ⟨q, 0, none⟩) hB2 (.int .i64 x))
  generalize (((((W0.setCell ⟨p, 0, none⟩ (.int .i64 0)).setCell ⟨p, 1, none⟩ (.int .i64 0)).setCell ⟨p, 2, none⟩ (.string ⟨#[]⟩)).setCell ⟨p, 3, none⟩ (.slice none 0 0)).setCell ⟨q, 0, none⟩ (.int .i64 x)) = WF at *
  simp only [bodyPostS, results, Tryz.results60]
  exact ⟨trivial, _, rfl, .tuple #[], by simp, rfl, rfl, FP.out.drew, FQ.out.drew, FB.out.drew⟩
end clb
namespace clb
open Go.RowKit base tok dim rul cal
theorem read_die (s : Bs) (hs : s.length <= 400) (d : Nat) (hd : 2401 <= d) (hv : valF d false (clb.gapP (cutP s)) 0 = none) (w : World) (hm : MaxL w) (hU : UnitsAt w) :
  Calls Tryz.prog 35 #[.string (bs s)] w fun e w' => (∃ x, IsErr x /\ e = .returned (.tuple #[.agg #[.int .i64 0, .int .i64 0, .string ⟨#[]⟩, .slice none 0 0], .int .i64 x])) /\ Below w.heap.size w w' := by
 have hmf : ∀ (fn : Fn) (first cap : Array Value) (w : World), (Instr.makeFunc fn first cap).run Tryz.prog w = .ok (.func fn first cap) w := fun _ _ _ _ => rfl
 have hl := cut_few s
 have hgood := good_cut hs
 have hgg := hgood.suf (gap_suf (cutP s))
 have hgl := gap_le (cutP s)
 have cC := fun w hm => tok.cut_ct (bs s) (by rw [bs_size]; omega) w hm
 rw [show (bs s).data.toList = s from rfl] at cC
 replace cC := hid cC
 have cG := hid (fun b w h => gap_any b (cutP s) 0 false w h (by omega))
 have cV := fun b w h hE => (all_ct 400).1 b false (clb.gapP (cutP s)) 0 false d w (by omega) hgg (by decide) (by omega) h hE
 rw [hv] at cV
 replace cV := hid cV
 have cN := hid need_yes
 have cX := hid need_no
 have Hm := hid hm
 have HU := hid hU
 have hq4 : decide ((400 : Int) < ((bs s).size : Int)) = false := decide_eq_false (by rw [bs_size]; omega)
 clear hm hU hv
 go_enter_defers Tryz.func35, Tryz.ntmps35
 have HB0 := hid (show Below w.heap.size w ((w.alloc (.cells #[.int .i64 0, .int .i64 0, .string ⟨#[]⟩, .slice none 0 0] 50)).alloc (.cells #[.int .i64 0] 34)) from ((Below.refl _ _).alloc (Nat.le_refl _) _).alloc (by simp) _)
 have Q0 := hid (show Blk ((w.alloc (.cells #[.int .i64 0, .int .i64 0, .string ⟨#[]⟩, .slice none 0 0] 50)).alloc (.cells #[.int .i64 0] 34)) w.heap.size 50 #[.int .i64 0, .int .i64 0, .string ⟨#[]⟩, .slice none 0 0] from (Blk.new rfl).alloc _)
 have E0 := hid (show Blk ((w.alloc (.cells #[.int .i64 0, .int .i64 0, .string ⟨#[]⟩, .slice none 0 0] 50)).alloc (.cells #[.int .i64 0] 34)) (w.heap.size + 1) 34 #[.int .i64 0] from Blk.new (by simp))
 go_wp2_with (first
  | (go_at_call 40; (with_reducible refine (cC.out _ (Hm.out.on HB0.out Hm.out.lt)).mono ?_); rintro e W1 ⟨⟨A, cap, rfl, hcap, hrd⟩, hb1⟩; have hz1 := hb1.size; simp only [World.size_alloc] at hz1; have HB1 := hid (HB0.out.trans (hb1.mono (by simp <;> omega))); have Q1 := hid ((Q0.out.below hb1 (by simp <;> omega)).alloc (.cells #[.slice A (cutP s).length cap, .int .i64 0, .bool false] 107)); have E1 := hid ((E0.out.below hb1 (by simp <;> omega)).alloc (.cells #[.slice A (cutP s).length cap, .int .i64 0, .bool false] 107)); have HR1 := hid (show RdrAt (W1.alloc (.cells #[.slice A (cutP s).length cap, .int .i64 0, .bool false] 107)) W1.heap.size (cutP s) 0 false from ⟨A, cap, hcap, Blk.new rfl, Rd.keep hrd ((Below.refl _ _).alloc (Nat.le_refl _) _) (Nat.le_refl _)⟩); have HE1 := hid (show Env W1.heap.size (W1.alloc (.cells #[.slice A (cutP s).length cap, .int .i64 0, .bool false] 107)) from fun v hv => have hB := ((HB1.out.alloc (by omega) (.cells #[.slice A (cutP s).length cap, .int .i64 0, .bool false] 107)).trans (hv.mono (by omega))); ⟨Hm.out.on hB Hm.out.lt, HU.out.on hB⟩); have HX1 := hid (HB1.out.alloc (by omega) (.cells #[.slice A (cutP s).length cap, .int .i64 0, .bool false] 107)); clear hrd hb1)
  | (go_at_call 61; (with_reducible refine (cG.out _ _ HR1.out).mono ?_); rintro e W2 ⟨rfl, hr2, hg2⟩; have HR2 := hid (show RdrAt W2 W1.heap.size (clb.gapP (cutP s)) ((0 : Nat) : Int) false from hr2); have HE2 := hid (HE1.out.on (below_one hg2 (by simp))); have Q2 := hid (Blk_grown Q1.out hg2 (by omega)); have E2 := hid (Blk_grown E1.out hg2 (by omega)); have HX2 := hid (HX1.out.trans ((below_one hg2 (by simp)).mono (by omega))); have hz2 := hg2.size; rw [World.size_alloc] at hz2; clear hr2 hg2)
  | (go_at_call 62; (with_reducible refine (cV.out _ _ HR2.out HE2.out).mono ?_); rintro e W3 ⟨hg3, x, hx, rfl⟩; have HX := hid hx; have Q3 := hid (Blk_grown Q2.out hg3 (by omega)); have E3 := hid (Blk_grown E2.out hg3 (by omega)); have HX3 := hid (HX2.out.trans ((below_one hg3 (by omega)).mono (by omega))); clear hg3 hx))
 refine leaves_cons (f := 60) (args := #[.pointer (some ⟨w.heap.size, 0, none⟩), .pointer (some ⟨w.heap.size + 1, 0, none⟩)]) (by simp) (by simp [go_sem]) ?_
 refine (catch_own w.heap.size (w.heap.size + 1) w.heap.size x _ _ _ _ _ W3 Q3.out E3.out (by omega) (Nat.le_refl _) (by omega) (by have := Q3.out.lt; omega)).mono ?_
 rintro e u' w'' ⟨rfl, rfl, hp, hq, hb⟩
 have ec := hp.cell
 have fc := hq.cell
 have HB := hid hb
 clear hp hq hb
 simp only [Leaves, settle, List.dropWhile]
 exact ⟨.tuple #[.agg #[.int .i64 0, .int .i64 0, .string ⟨#[]⟩, .slice none 0 0], .int .i64 x], by simp [results, Tryz.results35, go_sem, ec, fc], ⟨x, HX.out, rfl⟩, HX3.out.trans HB.out⟩
theorem read_rest (s : Bs) (hs : s.length <= 400) (d : Nat) (hd : 2401 <= d) (t : Te) (M : List Tk) (m : Nat) (c : Tk) (R : List Tk) (hM : M.length <= 400) (hcR : clb.gapP M = c :: R) (hv : valF d false (clb.gapP (cutP s)) 0 = some (t, M, m)) (w : World) (hm : MaxL w) (hU : UnitsAt w) :
  Calls Tryz.prog 35 #[.string (bs s)] w fun e w' => (∃ x, IsErr x /\ e = .returned (.tuple #[.agg #[.int .i64 0, .int .i64 0, .string ⟨#[]⟩, .slice none 0 0], .int .i64 x])) /\ Below w.heap.size w w' := by
 have hmf : ∀ (fn : Fn) (first cap : Array Value) (w : World), (Instr.makeFunc fn first cap).run Tryz.prog w = .ok (.func fn first cap) w := fun _ _ _ _ => rfl
 have hl := cut_few s
 have hgood := good_cut hs
 have hgg := hgood.suf (gap_suf (cutP s))
 have hgl := gap_le (cutP s)
 have cC := fun w hm => tok.cut_ct (bs s) (by rw [bs_size]; omega) w hm
 rw [show (bs s).data.toList = s from rfl] at cC
 replace cC := hid cC
 have cG := hid (fun b w h => gap_any b (cutP s) 0 false w h (by omega))
 have cV := fun b w h hE => (all_ct 400).1 b false (clb.gapP (cutP s)) 0 false d w (by omega) hgg (by decide) (by omega) h hE
 rw [hv] at cV
 replace cV := hid cV
 have cN := hid need_yes
 have cX := hid need_no
 have Hm := hid hm
 have HU := hid hU
 have hq4 : decide ((400 : Int) < ((bs s).size : Int)) = false := decide_eq_false (by rw [bs_size]; omega)
 clear hm hU hv
 have cE := fun b g w h => gap_any b M m g w h (by omega)
 rw [hcR] at cE
 replace cE := hid cE
 clear hcR
 go_enter_defers Tryz.func35, Tryz.ntmps35
 have HB0 := hid (show Below w.heap.size w ((w.alloc (.cells #[.int .i64 0, .int .i64 0, .string ⟨#[]⟩, .slice none 0 0] 50)).alloc (.cells #[.int .i64 0] 34)) from ((Below.refl _ _).alloc (Nat.le_refl _) _).alloc (by simp) _)
 have Q0 := hid (show Blk ((w.alloc (.cells #[.int .i64 0, .int .i64 0, .string ⟨#[]⟩, .slice none 0 0] 50)).alloc (.cells #[.int .i64 0] 34)) w.heap.size 50 #[.int .i64 0, .int .i64 0, .string ⟨#[]⟩, .slice none 0 0] from (Blk.new rfl).alloc _)
 have E0 := hid (show Blk ((w.alloc (.cells #[.int .i64 0, .int .i64 0, .string ⟨#[]⟩, .slice none 0 0] 50)).alloc (.cells #[.int .i64 0] 34)) (w.heap.size + 1) 34 #[.int .i64 0] from Blk.new (by simp))
 go_wp2_with (first
  | (go_at_call 40; (with_reducible refine (cC.out _ (Hm.out.on HB0.out Hm.out.lt)).mono ?_); rintro e W1 ⟨⟨A, cap, rfl, hcap, hrd⟩, hb1⟩; have hz1 := hb1.size; simp only [World.size_alloc] at hz1; have HB1 := hid (HB0.out.trans (hb1.mono (by simp <;> omega))); have Q1 := hid ((Q0.out.below hb1 (by simp <;> omega)).alloc (.cells #[.slice A (cutP s).length cap, .int .i64 0, .bool false] 107)); have E1 := hid ((E0.out.below hb1 (by simp <;> omega)).alloc (.cells #[.slice A (cutP s).length cap, .int .i64 0, .bool false] 107)); have HR1 := hid (show RdrAt (W1.alloc (.cells #[.slice A (cutP s).length cap, .int .i64 0, .bool false] 107)) W1.heap.size (cutP s) 0 false from ⟨A, cap, hcap, Blk.new rfl, Rd.keep hrd ((Below.refl _ _).alloc (Nat.le_refl _) _) (Nat.le_refl _)⟩); have HE1 := hid (show Env W1.heap.size (W1.alloc (.cells #[.slice A (cutP s).length cap, .int .i64 0, .bool false] 107)) from fun v hv => have hB := ((HB1.out.alloc (by omega) (.cells #[.slice A (cutP s).length cap, .int .i64 0, .bool false] 107)).trans (hv.mono (by omega))); ⟨Hm.out.on hB Hm.out.lt, HU.out.on hB⟩); have HX1 := hid (HB1.out.alloc (by omega) (.cells #[.slice A (cutP s).length cap, .int .i64 0, .bool false] 107)); clear hrd hb1)
  | (go_at_call 61; (with_reducible refine (cG.out _ _ HR1.out).mono ?_); rintro e W2 ⟨rfl, hr2, hg2⟩; have HR2 := hid (show RdrAt W2 W1.heap.size (clb.gapP (cutP s)) ((0 : Nat) : Int) false from hr2); have HE2 := hid (HE1.out.on (below_one hg2 (by simp))); have Q2 := hid (Blk_grown Q1.out hg2 (by omega)); have E2 := hid (Blk_grown E1.out hg2 (by omega)); have HX2 := hid (HX1.out.trans ((below_one hg2 (by simp)).mono (by omega))); have hz2 := hg2.size; rw [World.size_alloc] at hz2; clear hr2 hg2)
  | (go_at_call 62; (with_reducible refine (cV.out _ _ HR2.out HE2.out).mono ?_); rintro e W3 ⟨hg3, v, g3, rfl, ht3, hr3⟩; obtain ⟨vk, vn, vu, va, vl, vc, rfl⟩ := ht3.four; have q3 := Blk_grown Q2.out hg3 (by omega); have HR3 := hid (((apart_R hr3 q3).four (by omega) (.int .i64 vk) (.int .i64 vn) (.string vu) (.slice va vl vc)).to); have T3 := hid (te_four ht3 (q := w.heap.size) (fun c (h : W2.heap.size <= c) => by omega) (.int .i64 vk) (.int .i64 vn) (.string vu) (.slice va vl vc)); have q3c := q3.cell; have q3f := q3.frozen; have Q3 := hid (Blk.four q3 (.int .i64 vk) (.int .i64 vn) (.string vu) (.slice va vl vc)); have E3 := hid (blk_four (Blk_grown E2.out hg3 (by omega)) (q := w.heap.size) (by omega) (.int .i64 vk) (.int .i64 vn) (.string vu) (.slice va vl vc)); have HX3 := hid (below_four (HX2.out.trans ((below_one hg3 (by omega)).mono (by omega))) (q := w.heap.size) (Nat.le_refl _) (.int .i64 vk) (.int .i64 vn) (.string vu) (.slice va vl vc)); have hz3 := hg3.size; have hs3 := hid (show ((((W3.setCell ⟨w.heap.size, 0, none⟩ (.int .i64 vk)).setCell ⟨w.heap.size, 1, none⟩ (.int .i64 vn)).setCell ⟨w.heap.size, 2, none⟩ (.string vu)).setCell ⟨w.heap.size, 3, none⟩ (.slice va vl vc)).heap.size = W3.heap.size by simp [World.setCell]); clear ht3 hr3 hg3)
  | (go_at_call 61; (with_reducible refine (cE.out _ _ _ HR3.out).mono ?_); rintro e W4 ⟨rfl, hr4, hg4⟩; have hz4 := hg4.size; rw [hs3.out] at hz4; have q4 := Blk_grown Q3.out hg4 (by omega); have q4c := q4.cell; have q4f := q4.frozen; have Q4 := hid q4; have e4 := Blk_grown E3.out hg4 (by omega); have e4c := e4.cell; have e4f := e4.frozen; have E4 := hid e4; clear e4; have T4 := hid (T3.out.grown hg4 (fun c (h : W2.heap.size <= c) => by omega)); have HX4 := hid (HX3.out.trans ((below_one hg4 (by rw [hs3.out]; omega)).mono (by omega))); obtain ⟨A4, cap4, k4, hk4, hlt4, hcl4⟩ := rest_cell hr4; clear hr4 hg4 q4)
  | (go_at_call 63; (with_reducible refine (cX.out _ _).mono ?_); rintro e W5 ⟨rfl, rfl⟩))
 refine leaves_cons (f := 60) (args := #[.pointer (some ⟨w.heap.size, 0, none⟩), .pointer (some ⟨w.heap.size + 1, 0, none⟩)]) (by simp) (by simp [go_sem]) ?_
 refine (catch_own w.heap.size (w.heap.size + 1) w.heap.size 4 _ _ _ _ _ _ Q4.out E4.out (by omega) (Nat.le_refl _) (by omega) (by have := Q4.out.lt; omega)).mono ?_
 rintro e u' w'' ⟨rfl, rfl, hp, hq, hb⟩
 have ec := hp.cell
 have fc := hq.cell
 have HB := hid hb
 clear hp hq hb
 simp only [Leaves, settle, List.dropWhile]
 exact ⟨.tuple #[.agg #[.int .i64 0, .int .i64 0, .string ⟨#[]⟩, .slice none 0 0], .int .i64 4], by simp [results, Tryz.results35, go_sem, ec, fc], ⟨4, .inr rfl, rfl⟩, HX4.out.trans HB.out⟩
theorem read_ok (s : Bs) (hs : s.length <= 400) (d : Nat) (hd : 2401 <= d) (t : Te) (M : List Tk) (m : Nat) (hM : M.length <= 400) (hcR : clb.gapP M = []) (hv : valF d false (clb.gapP (cutP s)) 0 = some (t, M, m)) (w : World) (hm : MaxL w) (hU : UnitsAt w) :
  Calls Tryz.prog 35 #[.string (bs s)] w fun e w' => (∃ v, e = .returned (.tuple #[v, .int .i64 0]) /\ TeAt (fun c => w.heap.size <= c) w' t v) /\ Below w.heap.size w w' := by
 have hmf : ∀ (fn : Fn) (first cap : Array Value) (w : World), (Instr.makeFunc fn first cap).run Tryz.prog w = .ok (.func fn first cap) w := fun _ _ _ _ => rfl
 have hl := cut_few s
 have hgood := good_cut hs
 have hgg := hgood.suf (gap_suf (cutP s))
 have hgl := gap_le (cutP s)
 have cC := fun w hm => tok.cut_ct (bs s) (by rw [bs_size]; omega) w hm
 rw [show (bs s).data.toList = s from rfl] at cC
 replace cC := hid cC
 have cG := hid (fun b w h => gap_any b (cutP s) 0 false w h (by omega))
 have cV := fun b w h hE => (all_ct 400).1 b false (clb.gapP (cutP s)) 0 false d w (by omega) hgg (by decide) (by omega) h hE
 rw [hv] at cV
 replace cV := hid cV
 have cN := hid need_yes
 have cX := hid need_no
 have Hm := hid hm
 have HU := hid hU
 have hq4 : decide ((400 : Int) < ((bs s).size : Int)) = false := decide_eq_false (by rw [bs_size]; omega)
 clear hm hU hv
 have cE := fun b g w h => gap_any b M m g w h (by omega)
 rw [hcR] at cE
 replace cE := hid cE
 clear hcR
 go_enter_defers Tryz.func35, Tryz.ntmps35
 have HB0 := hid (show Below w.heap.size w ((w.alloc (.cells #[.int .i64 0, .int .i64 0, .string ⟨#[]⟩, .slice none 0 0] 50)).alloc (.cells #[.int .i64 0] 34)) from ((Below.refl _ _).alloc (Nat.le_refl _) _).alloc (by simp) _)
 have Q0 := hid (show Blk ((w.alloc (.cells #[.int .i64 0, .int .i64 0, .string ⟨#[]⟩, .slice none 0 0] 50)).alloc (.cells #[.int .i64 0] 34)) w.heap.size 50 #[.int .i64 0, .int .i64 0, .string ⟨#[]⟩, .slice none 0 0] from (Blk.new rfl).alloc _)
 have E0 := hid (show Blk ((w.alloc (.cells #[.int .i64 0, .int .i64 0, .string ⟨#[]⟩, .slice none 0 0] 50)).alloc (.cells #[.int .i64 0] 34)) (w.heap.size + 1) 34 #[.int .i64 0] from Blk.new (by simp))
 go_wp2_with (first
  | (go_at_call 40; (with_reducible refine (cC.out _ (Hm.out.on HB0.out Hm.out.lt)).mono ?_); rintro e W1 ⟨⟨A, cap, rfl, hcap, hrd⟩, hb1⟩; have hz1 := hb1.size; simp only [World.size_alloc] at hz1; have HB1 := hid (HB0.out.trans (hb1.mono (by simp <;> omega))); have Q1 := hid ((Q0.out.below hb1 (by simp <;> omega)).alloc (.cells #[.slice A (cutP s).length cap, .int .i64 0, .bool false] 107)); have E1 := hid ((E0.out.below hb1 (by simp <;> omega)).alloc (.cells #[.slice A (cutP s).length cap, .int .i64 0, .bool false] 107)); have HR1 := hid (show RdrAt (W1.alloc (.cells #[.slice A (cutP s).length cap, .int .i64 0, .bool false] 107)) W1.heap.size (cutP s) 0 false from ⟨A, cap, hcap, Blk.new rfl, Rd.keep hrd ((Below.refl _ _).alloc (Nat.le_refl _) _) (Nat.le_refl _)⟩); have HE1 := hid (show Env W1.heap.size (W1.alloc (.cells #[.slice A (cutP s).length cap, .int .i64 0, .bool false] 107)) from fun v hv => have hB := ((HB1.out.alloc (by omega) (.cells #[.slice A (cutP s).length cap, .int .i64 0, .bool false] 107)).trans (hv.mono (by omega))); ⟨Hm.out.on hB Hm.out.lt, HU.out.on hB⟩); have HX1 := hid (HB1.out.alloc (by omega) (.cells #[.slice A (cutP s).length cap, .int .i64 0, .bool false] 107)); clear hrd hb1)
  | (go_at_call 61; (with_reducible refine (cG.out _ _ HR1.out).mono ?_); rintro e W2 ⟨rfl, hr2, hg2⟩; have HR2 := hid (show RdrAt W2 W1.heap.size (clb.gapP (cutP s)) ((0 : Nat) : Int) false from hr2); have HE2 := hid (HE1.out.on (below_one hg2 (by simp))); have Q2 := hid (Blk_grown Q1.out hg2 (by omega)); have E2 := hid (Blk_grown E1.out hg2 (by omega)); have HX2 := hid (HX1.out.trans ((below_one hg2 (by simp)).mono (by omega))); have hz2 := hg2.size; rw [World.size_alloc] at hz2; clear hr2 hg2)
  | (go_at_call 62; (with_reducible refine (cV.out _ _ HR2.out HE2.out).mono ?_); rintro e W3 ⟨hg3, v, g3, rfl, ht3, hr3⟩; obtain ⟨vk, vn, vu, va, vl, vc, rfl⟩ := ht3.four; have q3 := Blk_grown Q2.out hg3 (by omega); have HR3 := hid (((apart_R hr3 q3).four (by omega) (.int .i64 vk) (.int .i64 vn) (.string vu) (.slice va vl vc)).to); have T3 := hid (te_four ht3 (q := w.heap.size) (fun c (h : W2.heap.size <= c) => by omega) (.int .i64 vk) (.int .i64 vn) (.string vu) (.slice va vl vc)); have q3c := q3.cell; have q3f := q3.frozen; have Q3 := hid (Blk.four q3 (.int .i64 vk) (.int .i64 vn) (.string vu) (.slice va vl vc)); have E3 := hid (blk_four (Blk_grown E2.out hg3 (by omega)) (q := w.heap.size) (by omega) (.int .i64 vk) (.int .i64 vn) (.string vu) (.slice va vl vc)); have HX3 := hid (below_four (HX2.out.trans ((below_one hg3 (by omega)).mono (by omega))) (q := w.heap.size) (Nat.le_refl _) (.int .i64 vk) (.int .i64 vn) (.string vu) (.slice va vl vc)); have hz3 := hg3.size; have hs3 := hid (show ((((W3.setCell ⟨w.heap.size, 0, none⟩ (.int .i64 vk)).setCell ⟨w.heap.size, 1, none⟩ (.int .i64 vn)).setCell ⟨w.heap.size, 2, none⟩ (.string vu)).setCell ⟨w.heap.size, 3, none⟩ (.slice va vl vc)).heap.size = W3.heap.size by simp [World.setCell]); clear ht3 hr3 hg3)
  | (go_at_call 61; (with_reducible refine (cE.out _ _ _ HR3.out).mono ?_); rintro e W4 ⟨rfl, hr4, hg4⟩; have hz4 := hg4.size; rw [hs3.out] at hz4; have q4 := Blk_grown Q3.out hg4 (by omega); have q4c := q4.cell; have q4f := q4.frozen; have Q4 := hid q4; have e4 := Blk_grown E3.out hg4 (by omega); have e4c := e4.cell; have e4f := e4.frozen; have E4 := hid e4; clear e4; have T4 := hid (T3.out.grown hg4 (fun c (h : W2.heap.size <= c) => by omega)); have HX4 := hid (HX3.out.trans ((below_one hg4 (by rw [hs3.out]; omega)).mono (by omega))); obtain ⟨A4, cap4, hlt4, hcl4⟩ := hr4.noneL; clear hr4 hg4 q4)
  | (go_at_call 63; (with_reducible refine (cN.out _ _).mono ?_); rintro e W5 ⟨rfl, rfl⟩))
 refine leaves_cons (f := 60) (args := #[.pointer (some ⟨w.heap.size, 0, none⟩), .pointer (some ⟨w.heap.size + 1, 0, none⟩)]) (by simp) (by simp [go_sem]) ?_
 refine (catch_idle ⟨w.heap.size, 0, none⟩ ⟨w.heap.size + 1, 0, none⟩ _).mono ?_
 rintro e u' w'' ⟨rfl, rfl, rfl⟩
 have ec := ((Blk.four Q4.out (.int .i64 vk) (.int .i64 vn) (.string vu) (.slice va vl vc)).far (p := ⟨w.heap.size + 1, 0, none⟩) (by dsimp only; omega) (.int .i64 0)).cell
 have fc := ((blk_four E4.out (q := w.heap.size) (by omega) (.int .i64 vk) (.int .i64 vn) (.string vu) (.slice va vl vc)).put 0 (.int .i64 0)).cell
 have TF := (te_four T4.out (q := w.heap.size) (fun c (h : W2.heap.size <= c) => by omega) (.int .i64 vk) (.int .i64 vn) (.string vu) (.slice va vl vc)).far (p := ⟨w.heap.size + 1, 0, none⟩) (fun c (h : W2.heap.size <= c) => by dsimp only; omega) (.int .i64 0)
 have HF := (below_four HX4.out (q := w.heap.size) (Nat.le_refl _) (.int .i64 vk) (.int .i64 vn) (.string vu) (.slice va vl vc)).setCell (p := ⟨w.heap.size + 1, 0, none⟩) (by dsimp only; omega) (.int .i64 0)
 generalize (((((W4.setCell ⟨w.heap.size, 0, none⟩ (.int .i64 vk)).setCell ⟨w.heap.size, 1, none⟩ (.int .i64 vn)).setCell ⟨w.heap.size, 2, none⟩ (.string vu)).setCell ⟨w.heap.size, 3, none⟩ (.slice va vl vc)).setCell ⟨w.heap.size + 1, 0, none⟩ (.int .i64 0)) = WF at *
 simp only [Leaves, settle]
 exact ⟨.tuple #[.agg #[.int .i64 vk, .int .i64 vn, .string vu, .slice va vl vc], .int .i64 0], by simp [results, Tryz.results35, go_sem, ec, fc], ⟨_, rfl, TF.wide (fun c (h : W2.heap.size <= c) _ => by omega)⟩, HF⟩
end clb
namespace clb
open Go.RowKit base tok dim rul cal
theorem read_large (s : ByteArray) (hs : 400 < s.size) (w : World) :
  Calls Tryz.prog 35 #[.string s] w (rt w (.tuple #[.agg #[.int .i64 0, .int .i64 0, .string ⟨#[]⟩, .slice none 0 0], .int .i64 2])) := by
 have ec := hid (show Blk ((w.alloc (.cells #[.int .i64 0, .int .i64 0, .string ⟨#[]⟩, .slice none 0 0] 50)).alloc (.cells #[.int .i64 2] 34)) w.heap.size 50 #[.int .i64 0, .int .i64 0, .string ⟨#[]⟩, .slice none 0 0] from (Blk.new rfl).alloc _).cell
 have fc := hid (show Blk ((w.alloc (.cells #[.int .i64 0, .int .i64 0, .string ⟨#[]⟩, .slice none 0 0] 50)).alloc (.cells #[.int .i64 2] 34)) (w.heap.size + 1) 34 #[.int .i64 2] from Blk.new (by simp)).cell
 have HB := hid (show Below w.heap.size w ((w.alloc (.cells #[.int .i64 0, .int .i64 0, .string ⟨#[]⟩, .slice none 0 0] 50)).alloc (.cells #[.int .i64 2] 34)) from ((Below.refl _ _).alloc (Nat.le_refl _) _).alloc (by simp) _)
 have hs' : decide ((400 : Int) < (s.size : Int)) = true := decide_eq_true (by omega)
 go_enter Tryz.func35, Tryz.ntmps35
 go_wp2_with fail
 refine bodyPost_ret (v := .tuple #[.agg #[.int .i64 0, .int .i64 0, .string ⟨#[]⟩, .slice none 0 0], .int .i64 2]) (by simp [results, Tryz.results35, go_sem, ec.out, fc.out]) rfl ⟨rfl, HB.out⟩
def ReadC (s : Bs) : Option Te -> Prop
 | none => ∀ w, MaxL w -> UnitsAt w -> Calls Tryz.prog 35 #[.string (bs s)] w fun e w' => (∃ x, IsErr x /\ e = .returned (.tuple #[.agg #[.int .i64 0, .int .i64 0, .string ⟨#[]⟩, .slice none 0 0], .int .i64 x])) /\ Below w.heap.size w w'
 | some t => ∀ w, MaxL w -> UnitsAt w -> Calls Tryz.prog 35 #[.string (bs s)] w fun e w' => (∃ v, e = .returned (.tuple #[v, .int .i64 0]) /\ TeAt (fun c => w.heap.size <= c) w' t v) /\ Below w.heap.size w w'
theorem read_any (s : Bs) (d : Nat) (hd : 2401 <= d) : ReadC s (readT d s) := by
 by_cases hl : 400 < s.length
 ·unfold readT
  rw [if_pos hl]
  exact fun w _ _ => (read_large (bs s) (by rw [bs_size]; exact hl) w).mono fun e w' ⟨he, hb⟩ => ⟨⟨2, .inl rfl, he⟩, hb⟩
 ·have hs : s.length <= 400 := by omega
  unfold readT
  rw [if_neg hl]
  cases hv : valF d false (clb.gapP (cutP s)) 0 with
  | none => exact fun w hm hU => read_die s hs d hd hv w hm hU
  | some r =>
   obtain ⟨t, M, m⟩ := r
   have hgg := (good_cut hs).suf (gap_suf (cutP s))
   obtain ⟨-, -, -, hMs, -⟩ := (inv_all d).1 false (clb.gapP (cutP s)) 0 t M m hgg.good hv
   have hM : M.length <= 400 := Nat.le_trans hMs.length_le hgg.1
   simp only
   cases hcR : clb.gapP M with
   | nil =>
    rw [if_pos rfl]
    exact fun w hm hU => read_ok s hs d hd t M m hM hcR hv w hm hU
   | cons c R =>
    rw [if_neg (by simp)]
    exact fun w hm hU => read_rest s hs d hd t M m c R hM hcR hv w hm hU
theorem read_wf {d : Nat} {s : Bs} {t : Te} (h : readT d s = some t) : Wf t /\ t.size <= 30 := by
 unfold readT at h
 by_cases hl : 400 < s.length
 ·rw [if_pos hl] at h
  cases h
 ·rw [if_neg hl] at h
  cases hv : valF d false (clb.gapP (cutP s)) 0 with
  | none => rw [hv] at h; cases h
  | some r =>
   obtain ⟨t', M, m⟩ := r
   rw [hv] at h
   simp only at h
   by_cases hg : clb.gapP M = []
   ·rw [if_pos hg] at h
    obtain rfl := Option.some.inj h
    have hgg := (good_cut (s := s) (by omega)).suf (gap_suf (cutP s))
    obtain ⟨h1, h2, h3, -, -⟩ := (inv_all d).1 false (clb.gapP (cutP s)) 0 t' M m hgg.good hv
    exact ⟨h1, by omega⟩
   ·rw [if_neg hg] at h
    cases h
end clb
end Go.Proofs.YtlfkkaofgcongaaGreatDoor
