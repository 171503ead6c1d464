/- Contracts and plain law, a bundle. -/
import Derived.Lib.Hide
import Derived.Test.YtlfkkaofgcongaaGreatDoorE2
set_option linter.unusedVariables false
set_option maxRecDepth 100000
set_option maxHeartbeats 16000000
open Go.Lib (hid)
namespace Go.Proofs.YtlfkkaofgcongaaGreatDoor
namespace cal
open Go.RowKit base tok dim
end cal
namespace cal
open Go.RowKit base tok dim
def Knows (w : World) (sc : Sc) (t : Tm) (c : Nat) (r : Option (Int × Int)) : Prop :=
 (∀ W, Below w.heap.size w W -> Calls Tryz.prog 37 #[t.v] W fun e W' => e = .returned (.tuple #[.int .i64 c, .bool true]) /\ Below W.heap.size W W') /\
 (∀ W, Below w.heap.size w W -> Calls Tryz.prog 38 #[t.v, .agg #[.int .i64 sc.em, .int .i64 sc.rem, .int .i64 sc.vw, .int .i64 sc.vh]] W fun e W' => e = .returned (resV r) /\ Below W.heap.size W W') /\
 (∀ p, r = some p -> -16777216 <= p.2 /\ p.2 <= 16777216)
theorem Knows.on {w w' : World} {sc : Sc} {t : Tm} {c : Nat} {r : Option (Int × Int)} (h : Knows w sc t c r) (hb : Below w.heap.size w w') : Knows w' sc t c r :=
 ⟨fun W hW => h.1 W (hb.trans (hW.mono hb.size)), fun W hW => h.2.1 W (hb.trans (hW.mono hb.size)), h.2.2⟩
theorem Knows.leaf (w : World) (sc : Sc) (n : Int) (h0 : -9223372036854775808 <= n) (h9 : n <= 9223372036854775807) (u : ByteArray) (hu : isUnit u) : Knows w sc (leafT n u) 1 (numP u n sc) :=
 ⟨fun W _ => count_leaf n u W, fun W _ => value_leaf n h0 h9 u hu sc W, fun p hp => numP_bd hp⟩
theorem Value_ct (t : Tm) (c : Nat) (sc : Sc) (r : Option (Int × Int)) (w : World) (h : Knows w sc t c r) :
  Calls Tryz.prog 12 #[.agg #[.int .i64 t.k, .int .i64 t.n, .string t.u, .slice t.a t.l t.c], .agg #[.int .i64 sc.em, .int .i64 sc.rem, .int .i64 sc.vw, .int .i64 sc.vh]] w (rt w (resV r)) := by
 obtain ⟨hC, hV, -⟩ := h
 obtain ⟨x, y, z, hr⟩ : ∃ x y z, resV r = .tuple #[.agg #[.int .i64 x, .int .i64 y], .int .i64 z] := by
  cases r with
  | none => exact ⟨_, _, _, rfl⟩
  | some p => exact ⟨_, _, _, rfl⟩
 rw [hr] at hV ⊢
 clear hr
 obtain ⟨k, n, u, a, l, cc⟩ := t
 obtain ⟨em, rem, vw, vh⟩ := sc
 unfold Tm.v at hC hV
 dsimp only at hC hV ⊢
 have cC := hid hC
 have cV := hid hV
 clear hC hV
 have HB0 := hid (show Below w.heap.size w (((w.alloc (.cells #[.int .i64 k, .int .i64 n, .string u, .slice a l cc] 50)).alloc (.cells #[.int .i64 em, .int .i64 rem, .int .i64 vw, .int .i64 vh] 42)).alloc (.cells #[.int .i64 0, .int .i64 0] 38)) from (((Below.refl w.heap.size w).alloc (Nat.le_refl _) _).alloc (by simp) _).alloc (by simp; omega) _)
 have B0 := hid (show Blk (((w.alloc (.cells #[.int .i64 k, .int .i64 n, .string u, .slice a l cc] 50)).alloc (.cells #[.int .i64 em, .int .i64 rem, .int .i64 vw, .int .i64 vh] 42)).alloc (.cells #[.int .i64 0, .int .i64 0] 38)) w.heap.size 50 #[.int .i64 k, .int .i64 n, .string u, .slice a l cc] from ((Blk.new rfl).alloc _).alloc _)
 have B1 := hid (show Blk (((w.alloc (.cells #[.int .i64 k, .int .i64 n, .string u, .slice a l cc] 50)).alloc (.cells #[.int .i64 em, .int .i64 rem, .int .i64 vw, .int .i64 vh] 42)).alloc (.cells #[.int .i64 0, .int .i64 0] 38)) (w.heap.size + 1) 42 #[.int .i64 em, .int .i64 rem, .int .i64 vw, .int .i64 vh] from (Blk.new (by simp)).alloc _)
 have B2 := hid (show Blk (((w.alloc (.cells #[.int .i64 k, .int .i64 n, .string u, .slice a l cc] 50)).alloc (.cells #[.int .i64 em, .int .i64 rem, .int .i64 vw, .int .i64 vh] 42)).alloc (.cells #[.int .i64 0, .int .i64 0] 38)) (w.heap.size + 1 + 1) 38 #[.int .i64 0, .int .i64 0] from Blk.new (by simp))
 go_enter Tryz.func12, Tryz.ntmps12
 go_wp2_with (first
  | (go_at_call 37; (with_reducible refine (cC.out _ HB0.out).mono ?_); rintro e W1 ⟨rfl, hb1⟩; have HB1 := hid (HB0.out.trans (hb1.mono (by simp <;> omega))); have q0 := B0.out.below hb1 (by simp <;> omega); have q1 := B1.out.below hb1 (by simp <;> omega); have q2 := hid (B2.out.below hb1 (by simp)); have p0 := q0.cell; have p1 := q1.cell; clear hb1)
  | (go_at_call 38; (with_reducible refine (cV.out _ HB1.out).mono ?_); rintro e W2 ⟨rfl, hb2⟩; have HB2 := hid (HB1.out.trans (hb2.mono HB1.out.size)); have q3 := q2.out.below hb2 q2.out.lt; have p2 := q3.cell; have p3 := q3.frozen; clear hb2))
 have e := ((q3.put 0 (.int .i64 x)).put 1 (.int .i64 y)).cell
 refine bodyPost_ret (v := .tuple #[.agg #[.int .i64 x, .int .i64 y], .int .i64 z]) (by simp [results, Tryz.results12, go_sem, e]) rfl ⟨rfl, ?_⟩
 exact (HB2.out.setCell (by simp; omega) _).setCell (by simp; omega) _
end cal
end Go.Proofs.YtlfkkaofgcongaaGreatDoor
