/- Contracts and plain law, a bundle: ClbI. -/
import Derived.Test.YtbiahfjjngkfgaaDoorBG
import Derived.Test.YtbiahfjjngkfgaaDoorBE3
import Derived.Test.YtbiahfjjngkfgaaDoorBC3
import Derived.Test.YtbiahfjjngkfgaaDoorBC1

namespace Go.Proofs.YtbiahfjjngkfgaaDoor.clb
open Go.RowKit Go.Proofs.YtbiahfjjngkfgaaDoor.base Go.Proofs.YtbiahfjjngkfgaaDoor.tok Go.Proofs.YtbiahfjjngkfgaaDoor.dim Go.Proofs.YtbiahfjjngkfgaaDoor.rul Go.Proofs.YtbiahfjjngkfgaaDoor.cal
set_option linter.unusedVariables false

theorem good_cut {s : Bs} (hs : s.length ≤ 400) : GoodR (cutP s) :=
  ⟨Nat.le_trans (cut_few s) hs, fun t ht => ⟨cut_alone s.length s (Nat.le_refl _) t ht, by have := cut_vals s.length s (Nat.le_refl _) t ht; omega, by have := cut_vals s.length s (Nat.le_refl _) t ht; omega⟩⟩
/-- the reader, whose tokens do not lie in q -/
def RdrFar (q : Nat) (w : World) (b : Nat) (L : List Tk) (k : Int) (g : Bool) : Prop := ∃ A cap, L.length ≤ cap ∧ Blk w b 41 #[.slice A L.length cap, .int .i64 k, .bool g] ∧ TRd w b A L.length L ∧ ∀ c off, 0 < L.length → A = some ⟨c, off, none⟩ → c ≠ q
theorem RdrFar.to {q : Nat} {w : World} {b : Nat} {L : List Tk} {k : Int} {g : Bool} (h : RdrFar q w b L k g) : RdrAt w b L k g := by
  obtain ⟨A, cap, h1, h2, h3, _⟩ := h
  exact ⟨A, cap, h1, h2, h3⟩
theorem RdrFar.far {q : Nat} {w : World} {b : Nat} {L : List Tk} {k : Int} {g : Bool} (h : RdrFar q w b L k g) (hq : b ≠ q) (j : Nat) (v : Value) : RdrFar q (w.setCell ⟨q, j, none⟩ v) b L k g := by
  obtain ⟨A, cap, hc, hb, hr, hn⟩ := h
  refine ⟨A, cap, hc, hb.far hq v, ⟨hr.1, fun h0 => ?_⟩, hn⟩
  obtain ⟨c, off, hA, hlt, hx⟩ := hr.2 h0
  refine ⟨c, off, hA, hlt, fun i t ht l hl => ?_⟩
  rw [World.cell?_setCell_other w ⟨q, j, none⟩ ⟨c, off + i * 4 + l, none⟩ v (fun e => hn c off h0 hA (congrArg Addr.block e).symm)]
  exact hx i t ht l hl
theorem RdrFar.four {q : Nat} {w : World} {b : Nat} {L : List Tk} {k : Int} {g : Bool} (h : RdrFar q w b L k g) (hq : b ≠ q) (x0 x1 x2 x3 : Value) : RdrFar q ((((w.setCell ⟨q, 0, none⟩ x0).setCell ⟨q, 1, none⟩ x1).setCell ⟨q, 2, none⟩ x2).setCell ⟨q, 3, none⟩ x3) b L k g :=
  (((h.far hq 0 x0).far hq 1 x1).far hq 2 x2).far hq 3 x3
theorem apart_R {q : Nat} {w : World} {b : Nat} {L : List Tk} {k : Int} {g : Bool} {a0 a1 : Int} {x2 x3 : Value} (h : RdrAt w b L k g) (hq : Blk w q 27 #[.int .i64 a0, .int .i64 a1, x2, x3]) : RdrFar q w b L k g := by
  obtain ⟨A, cap, hc, hb, hr⟩ := h
  refine ⟨A, cap, hc, hb, hr, fun c off h0 hA e => ?_⟩
  subst e
  obtain ⟨c', off', t, hA', _, _, y0, y1, y2, y3⟩ := TRd.tok hr (k := 0) h0
  cases hA.symm.trans hA'
  cases off with
  | zero =>
    have := (hq.cell 1).symm.trans y1
    cases this
  | succ off =>
    rw [show off + 1 + 0 * 4 + 3 = off + 4 by omega] at y3
    have := (hq.cell (off + 4)).symm.trans y3
    simp at this
theorem te_four {X : Nat → Prop} {w : World} {t : Te} {v : Value} (h : TeAt X w t v) {q : Nat} (hq : ∀ c, X c → c ≠ q) (x0 x1 x2 x3 : Value) : TeAt X ((((w.setCell ⟨q, 0, none⟩ x0).setCell ⟨q, 1, none⟩ x1).setCell ⟨q, 2, none⟩ x2).setCell ⟨q, 3, none⟩ x3) t v :=
  (((h.far (p := ⟨q, 0, none⟩) hq x0).far (p := ⟨q, 1, none⟩) hq x1).far (p := ⟨q, 2, none⟩) hq x2).far (p := ⟨q, 3, none⟩) hq x3
theorem blk_four {w : World} {k : Nat} {t : TypeId} {cs : Array Value} (h : Blk w k t cs) {q : Nat} (hq : k ≠ q) (x0 x1 x2 x3 : Value) : Blk ((((w.setCell ⟨q, 0, none⟩ x0).setCell ⟨q, 1, none⟩ x1).setCell ⟨q, 2, none⟩ x2).setCell ⟨q, 3, none⟩ x3) k t cs :=
  (((h.far (p := ⟨q, 0, none⟩) hq x0).far (p := ⟨q, 1, none⟩) hq x1).far (p := ⟨q, 2, none⟩) hq x2).far (p := ⟨q, 3, none⟩) hq x3
theorem below_four {B : Nat} {w w' : World} (h : Below B w w') {q : Nat} (hq : B ≤ q) (x0 x1 x2 x3 : Value) : Below B w ((((w'.setCell ⟨q, 0, none⟩ x0).setCell ⟨q, 1, none⟩ x1).setCell ⟨q, 2, none⟩ x2).setCell ⟨q, 3, none⟩ x3) :=
  (((h.setCell (p := ⟨q, 0, none⟩) hq x0).setCell (p := ⟨q, 1, none⟩) hq x1).setCell (p := ⟨q, 2, none⟩) hq x2).setCell (p := ⟨q, 3, none⟩) hq x3
theorem rest_cell {w : World} {b : Nat} {c : Tk} {L : List Tk} {k : Int} {g : Bool} (h : RdrAt w b (c :: L) k g) : ∃ A cap m, (((m : Nat) : Int) == 0) = false ∧ b < w.heap.size ∧ w.cell? ⟨b, 0, none⟩ = some (.slice A m cap) := by
  obtain ⟨A, cap, hc, hb, hr⟩ := h
  exact ⟨A, cap, (c :: L).length, by rw [beq_eq_false_iff_ne]; simp only [List.length_cons]; omega, hb.lt, hb.cell 0⟩

theorem assert_own (v : Value) (w : World) : (Instr.typeAssert (.iface 35 v) 20 35 true).run Tryd.prog w = .ok (.tuple #[v, .bool true]) w := by
  simp [Instr.typeAssert, go_sem]
set_option maxRecDepth 100000 in
set_option maxHeartbeats 400000 in
/-- the closure behind a panic of the reader's own -/
theorem catch_own (p q B : Nat) (x : Int) (a0 a1 : Int) (x2 x3 y : Value) (w : World) (hp : Blk w p 27 #[.int .i64 a0, .int .i64 a1, x2, x3]) (hq : Blk w q 28 #[y]) (hpq : p ≠ q) (hB : B ≤ p) (hB2 : B ≤ q) (hBw : B ≤ w.heap.size) :
    CallsD Tryd.prog 8 #[.pointer (some ⟨p, 0, none⟩), .pointer (some ⟨q, 0, none⟩)] (.panicking (chainP x)) w fun e u' w' => e = .returned (.tuple #[]) ∧ u' = .panicking [{ v := .iface 35 (.agg #[.int .i64 x]), recovered := true }] ∧
      Blk w' p 27 #[.int .i64 0, .int .i64 0, .string ⟨#[]⟩, .slice none 0 0] ∧ Blk w' q 28 #[.int .i64 x] ∧ Below B w w' := by
  have pc := hp.cell
  have pf := hp.frozen
  have qc := hq.cell
  have qf := hq.frozen
  refine callsD_of_wpS Tryd.func8 rfl fun c₀ cs hu => ?_
  simp only [Tryd.ntmps8, List.size_toArray, List.length_cons, List.length_nil, Nat.reduceAdd, Nat.reduceSub, Array.replicate_succ, Array.replicate_zero, List.push_toArray, List.append_toArray, List.nil_append, List.cons_append]
  apply wpS_seq
  apply wpS_region
  simp [wpOpsS, go_sem, recoverD, hu, Exit.thenS, chainP]
  refine wpS_of_wp ?_
  have hta := assert_own (.agg #[.int .i64 x]) w
  have hpl := hp.lt
  have hql := hq.lt
  have n1 : ¬ p = w.heap.size := by omega
  have n2 : ¬ q = w.heap.size := by omega
  have n3 : ¬ w.heap.size = p := by omega
  have n4 : ¬ w.heap.size = q := by omega
  have n5 : ¬ q = p := by omega
  obtain ⟨W0, hW0⟩ : ∃ W, W = w.alloc (.cells #[.int .i64 x] 35) := ⟨_, rfl⟩
  have P0 := Lib.hid (show Blk W0 p 27 #[.int .i64 a0, .int .i64 a1, x2, x3] by rw [hW0]; exact hp.alloc _)
  have E0 := Lib.hid (show Blk W0 q 28 #[y] by rw [hW0]; exact hq.alloc _)
  have B0 := Lib.hid (show Blk W0 w.heap.size 35 #[.int .i64 x] by rw [hW0]; exact Blk.new rfl)
  have HB0 := Lib.hid (show Below B w W0 by rw [hW0]; exact (Below.refl B w).alloc hBw _)
  go_wp2_with fail
  rw [← hW0]
  have p0 := P0.out.cell
  have p1 := P0.out.frozen
  have e0 := E0.out.cell
  have e1 := E0.out.frozen
  have b0 := B0.out.cell
  clear hW0
  go_region
  all_goals
    go_wp2
    have FP := Lib.hid ((Blk.four P0.out (.int .i64 0) (.int .i64 0) (.string ⟨#[]⟩) (.slice none 0 0)).far (p := ⟨q, 0, none⟩) (by dsimp only; omega) (.int .i64 x))
    have FQ := Lib.hid ((((((E0.out.far (p := ⟨p, 0, none⟩) (by dsimp only; omega) (.int .i64 0)).far (p := ⟨p, 1, none⟩) (by dsimp only; omega) (.int .i64 0)).far (p := ⟨p, 2, none⟩) (by dsimp only; omega) (.string ⟨#[]⟩)).far (p := ⟨p, 3, none⟩) (by dsimp only; omega) (.slice none 0 0)).put 0 (.int .i64 x)))
    have FB := Lib.hid (((((HB0.out.setCell (p := ⟨p, 0, none⟩) hB (.int .i64 0)).setCell (p := ⟨p, 1, none⟩) hB (.int .i64 0)).setCell (p := ⟨p, 2, none⟩) hB (.string ⟨#[]⟩)).setCell (p := ⟨p, 3, none⟩) hB (.slice none 0 0)).setCell (p := ⟨q, 0, none⟩) hB2 (.int .i64 x))
    generalize (((((W0.setCell ⟨p, 0, none⟩ (.int .i64 0)).setCell ⟨p, 1, none⟩ (.int .i64 0)).setCell ⟨p, 2, none⟩ (.string ⟨#[]⟩)).setCell ⟨p, 3, none⟩ (.slice none 0 0)).setCell ⟨q, 0, none⟩ (.int .i64 x)) = WF at *
    simp only [bodyPostS, results, Tryd.results8]
    exact ⟨trivial, _, rfl, .tuple #[], by simp, rfl, rfl, FP.out.drew, FQ.out.drew, FB.out.drew⟩


end Go.Proofs.YtbiahfjjngkfgaaDoor.clb
