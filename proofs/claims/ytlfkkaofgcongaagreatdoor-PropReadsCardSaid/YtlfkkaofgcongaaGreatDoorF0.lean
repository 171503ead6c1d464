/- Contracts and plain law, a bundle. -/
import Derived.Deep.RegionHeld3
import Derived.Lib.Hide
import Derived.Test.YtlfkkaofgcongaaGreatDoorE3
import Derived.Test.YtlfkkaofgcongaaGreatDoorE9
import Derived.Test.YtlfkkaofgcongaaGreatDoorE0B
set_option linter.unusedVariables false
set_option maxRecDepth 100000
set_option maxHeartbeats 16000000
open Go.Lib (hid)
namespace Go.Proofs.YtlfkkaofgcongaaGreatDoor
namespace cal
open Go.RowKit base tok dim
theorem down_any (n d : Int) (hn : -1125899906842624 <= n /\ n <= 1125899906842624) (hd : ¬ d = 0) (hd2 : -1125899906842624 <= d /\ d <= 1125899906842624) :
  ∃ z : Int, ∀ w : World, Calls Tryz.prog 96 #[.int .i64 n, .int .i64 d] w fun e w' => e = .returned (.int .i64 z) /\ w = w' := by
 have e1 := Int.natAbs_tdiv n d
 have e2 := Int.natAbs_tmod n d
 have l1 : (n.tdiv d).natAbs <= n.natAbs := by rw [e1]; exact Nat.div_le_self _ _
 have l2 : (n.tmod d).natAbs <= n.natAbs := by rw [e2]; exact Nat.mod_le _ _
 obtain ⟨q, hq⟩ : ∃ q, n.tdiv d = q := ⟨_, rfl⟩
 obtain ⟨r, hr⟩ : ∃ r, n.tmod d = r := ⟨_, rfl⟩
 rw [hq] at l1
 rw [hr] at l2
 clear e1 e2
 have q1 : IntKind.i64.wrap q = q := IntWalk.i64_in _ (by omega)
 have q2 : IntKind.i64.wrap r = r := IntWalk.i64_in _ (by omega)
 have q3 : IntKind.i64.wrap (q - 1) = q - 1 := IntWalk.i64_in _ (by omega)
 by_cases h0 : r = 0
 ·refine ⟨q, fun w => ?_⟩
  go_enter Tryz.func96, Tryz.ntmps96
  go_wp2_with fail
  go_ret
  exact ⟨rfl, rfl⟩
 ·by_cases h1 : n < 0 <;> by_cases h2 : d < 0
  ·refine ⟨q, fun w => ?_⟩
   go_enter Tryz.func96, Tryz.ntmps96
   go_wp2_with fail
   go_ret
   exact ⟨rfl, rfl⟩
  ·refine ⟨q - 1, fun w => ?_⟩
   go_enter Tryz.func96, Tryz.ntmps96
   go_wp2_with fail
   go_ret
   exact ⟨rfl, rfl⟩
  ·refine ⟨q - 1, fun w => ?_⟩
   go_enter Tryz.func96, Tryz.ntmps96
   go_wp2_with fail
   go_ret
   exact ⟨rfl, rfl⟩
  ·refine ⟨q, fun w => ?_⟩
   go_enter Tryz.func96, Tryz.ntmps96
   go_wp2_with fail
   go_ret
   exact ⟨rfl, rfl⟩
theorem mul_small {x y : Int} (hx : -16777216 <= x /\ x <= 16777216) (hy : -16777216 <= y /\ y <= 16777216) : -281474976710656 <= x * y /\ x * y <= 281474976710656 := by
 have h : (x * y).natAbs = x.natAbs * y.natAbs := Int.natAbs_mul x y
 have h2 : x.natAbs * y.natAbs <= 16777216 * 16777216 := Nat.mul_le_mul (by omega) (by omega)
 omega
abbrev VRes (w : World) (e : Ending) (w' : World) : Prop := (∃ k n x : Int, e = .returned (.tuple #[.agg #[.int .i64 k, .int .i64 n], .int .i64 x]) /\ -16777216 <= n /\ n <= 16777216) /\ Below w.heap.size w w'
theorem times_a (k x y p D : Int) (hp : x * y = p) (hw : IntKind.i64.wrap p = p) (hD : ∀ w : World, Calls Tryz.prog 96 #[.int .i64 (p), .int .i64 1000] w fun e w' => e = .returned (.int .i64 D) /\ w = w') (w : World) :
  Calls Tryz.prog 66 #[.agg #[.int .i64 k, .int .i64 x], .agg #[.int .i64 4, .int .i64 y]] w (rt w (.tuple #[.agg #[.int .i64 k, .int .i64 (clipI D)], .int .i64 0])) := by
 have cD := hid hD
 have cC := hid (ccut_ct D)
 clear hD
 generalize clipI D = R at *
 go_enter Tryz.func66, Tryz.ntmps66
 go_wp2_with fail
 generalize hW0 : ((w.alloc (.cells #[.int .i64 k, .int .i64 x] 38)).alloc (.cells #[.int .i64 4, .int .i64 y] 38)).alloc (.cells #[.int .i64 0, .int .i64 0] 38) = W0
 have HB0 := hid (show Below w.heap.size w W0 by subst hW0; exact ((ba _ _).alloc (by simp) _).alloc (by simp; omega) _)
 have HZ : w.heap.size + 3 <= W0.heap.size := by subst hW0; simp
 have b0 := hid (show Blk W0 w.heap.size 38 #[.int .i64 k, .int .i64 x] by subst hW0; exact ((Blk.new rfl).alloc _).alloc _)
 have b1 := hid (show Blk W0 (w.heap.size + 1) 38 #[.int .i64 4, .int .i64 y] by subst hW0; exact (Blk.new (by simp)).alloc _)
 have b2 := hid (show Blk W0 (w.heap.size + 1 + 1) 38 #[.int .i64 0, .int .i64 0] by subst hW0; exact Blk.new (by simp))
 have c0 := b0.out.cell
 have c1 := b1.out.cell
 have c2 := b2.out.cell
 have f2 := b2.out.frozen
 clear hW0
 go_region_held3 (fun w' => (∀ b o, b < w.heap.size + 2 -> w'.cell? ⟨b, o, none⟩ = W0.cell? ⟨b, o, none⟩) /\ Below (w.heap.size + 2) W0 w')
  (first | exact As.beg | assumption | exact As.store (As.store (by assumption) (by dsimp only; omega)) (by dsimp only; omega) | exact As.store (As.store As.beg (by dsimp only; omega)) (by dsimp only; omega))
  (first
   | (go_at_call 96; (with_reducible refine (cD.out _).mono ?_); rintro e W1 ⟨rfl, rfl⟩)
   | (go_at_call 95; (with_reducible refine (cC.out _).mono ?_); rintro e W1 ⟨rfl, rfl⟩))
 all_goals
  rename_i hHeld
  clear hHeld
  have e := ((b2.out.put 0 (.int .i64 k)).put 1 (.int .i64 R)).drew.cell
  go_wp2
  refine bodyPost_ret (v := .tuple #[.agg #[.int .i64 k, .int .i64 R], .int .i64 0]) (by simp [results, Tryz.results66, go_sem, e]) rfl ⟨rfl, ?_⟩
  exact ((HB0.out.setCell (by simp; omega) _).setCell (by simp; omega) _).drew
theorem times_b (k x y p D : Int) (hk : k ≠ 4) (hp : y * x = p) (hw : IntKind.i64.wrap p = p) (hD : ∀ w : World, Calls Tryz.prog 96 #[.int .i64 (p), .int .i64 1000] w fun e w' => e = .returned (.int .i64 D) /\ w = w') (w : World) :
  Calls Tryz.prog 66 #[.agg #[.int .i64 4, .int .i64 x], .agg #[.int .i64 k, .int .i64 y]] w (rt w (.tuple #[.agg #[.int .i64 k, .int .i64 (clipI D)], .int .i64 0])) := by
 have cD := hid hD
 have cC := hid (ccut_ct D)
 clear hD
 generalize clipI D = R at *
 go_enter Tryz.func66, Tryz.ntmps66
 go_wp2_with fail
 generalize hW0 : ((w.alloc (.cells #[.int .i64 k, .int .i64 y] 38)).alloc (.cells #[.int .i64 4, .int .i64 x] 38)).alloc (.cells #[.int .i64 0, .int .i64 0] 38) = W0
 have HB0 := hid (show Below w.heap.size w W0 by subst hW0; exact ((ba _ _).alloc (by simp) _).alloc (by simp; omega) _)
 have HZ : w.heap.size + 3 <= W0.heap.size := by subst hW0; simp
 have b0 := hid (show Blk W0 w.heap.size 38 #[.int .i64 k, .int .i64 y] by subst hW0; exact ((Blk.new rfl).alloc _).alloc _)
 have b1 := hid (show Blk W0 (w.heap.size + 1) 38 #[.int .i64 4, .int .i64 x] by subst hW0; exact (Blk.new (by simp)).alloc _)
 have b2 := hid (show Blk W0 (w.heap.size + 1 + 1) 38 #[.int .i64 0, .int .i64 0] by subst hW0; exact Blk.new (by simp))
 have c0 := b0.out.cell
 have c1 := b1.out.cell
 have c2 := b2.out.cell
 have f2 := b2.out.frozen
 clear hW0
 go_region_held3 (fun w' => (∀ b o, b < w.heap.size + 2 -> w'.cell? ⟨b, o, none⟩ = W0.cell? ⟨b, o, none⟩) /\ Below (w.heap.size + 2) W0 w')
  (first | exact As.beg | assumption | exact As.store (As.store (by assumption) (by dsimp only; omega)) (by dsimp only; omega) | exact As.store (As.store As.beg (by dsimp only; omega)) (by dsimp only; omega))
  (first
   | (go_at_call 96; (with_reducible refine (cD.out _).mono ?_); rintro e W1 ⟨rfl, rfl⟩)
   | (go_at_call 95; (with_reducible refine (cC.out _).mono ?_); rintro e W1 ⟨rfl, rfl⟩))
 all_goals
  rename_i hHeld
  clear hHeld
  have e := ((b2.out.put 0 (.int .i64 k)).put 1 (.int .i64 R)).drew.cell
  go_wp2
  refine bodyPost_ret (v := .tuple #[.agg #[.int .i64 k, .int .i64 R], .int .i64 0]) (by simp [results, Tryz.results66, go_sem, e]) rfl ⟨rfl, ?_⟩
  exact ((HB0.out.setCell (by simp; omega) _).setCell (by simp; omega) _).drew
theorem divided_a (k x y D : Int) (hy : ¬ y = 0) (hw : IntKind.i64.wrap (x * 1000) = x * 1000) (hD : ∀ w : World, Calls Tryz.prog 96 #[.int .i64 (x * 1000), .int .i64 y] w fun e w' => e = .returned (.int .i64 D) /\ w = w') (w : World) :
  Calls Tryz.prog 67 #[.agg #[.int .i64 k, .int .i64 x], .agg #[.int .i64 4, .int .i64 y]] w (rt w (.tuple #[.agg #[.int .i64 k, .int .i64 (clipI D)], .int .i64 0])) := by
 have cD := hid hD
 have cC := hid (ccut_ct D)
 clear hD
 generalize clipI D = R at *
 go_enter Tryz.func67, Tryz.ntmps67
 go_wp2_with fail
 generalize hW0 : ((w.alloc (.cells #[.int .i64 k, .int .i64 x] 38)).alloc (.cells #[.int .i64 4, .int .i64 y] 38)).alloc (.cells #[.int .i64 0, .int .i64 0] 38) = W0
 have HB0 := hid (show Below w.heap.size w W0 by subst hW0; exact ((ba _ _).alloc (by simp) _).alloc (by simp; omega) _)
 have HZ : w.heap.size + 3 <= W0.heap.size := by subst hW0; simp
 have b0 := hid (show Blk W0 w.heap.size 38 #[.int .i64 k, .int .i64 x] by subst hW0; exact ((Blk.new rfl).alloc _).alloc _)
 have b1 := hid (show Blk W0 (w.heap.size + 1) 38 #[.int .i64 4, .int .i64 y] by subst hW0; exact (Blk.new (by simp)).alloc _)
 have b2 := hid (show Blk W0 (w.heap.size + 1 + 1) 38 #[.int .i64 0, .int .i64 0] by subst hW0; exact Blk.new (by simp))
 have c0 := b0.out.cell
 have c1 := b1.out.cell
 have c2 := b2.out.cell
 have f2 := b2.out.frozen
 clear hW0
 go_region_held3 (fun w' => (∀ b o, b < w.heap.size + 2 -> w'.cell? ⟨b, o, none⟩ = W0.cell? ⟨b, o, none⟩) /\ Below (w.heap.size + 2) W0 w')
  (first | exact As.beg | assumption | exact As.store (As.store (by assumption) (by dsimp only; omega)) (by dsimp only; omega) | exact As.store (As.store As.beg (by dsimp only; omega)) (by dsimp only; omega))
  (first
   | (go_at_call 96; (with_reducible refine (cD.out _).mono ?_); rintro e W1 ⟨rfl, rfl⟩)
   | (go_at_call 95; (with_reducible refine (cC.out _).mono ?_); rintro e W1 ⟨rfl, rfl⟩))
 all_goals
  rename_i hHeld
  clear hHeld
  have e := ((b2.out.put 0 (.int .i64 k)).put 1 (.int .i64 R)).drew.cell
  go_wp2
  refine bodyPost_ret (v := .tuple #[.agg #[.int .i64 k, .int .i64 R], .int .i64 0]) (by simp [results, Tryz.results67, go_sem, e]) rfl ⟨rfl, ?_⟩
  exact ((HB0.out.setCell (by simp; omega) _).setCell (by simp; omega) _).drew
theorem times_e (k x l y : Int) (hk : k ≠ 4) (hl : l ≠ 4) (w : World) :
  Calls Tryz.prog 66 #[.agg #[.int .i64 k, .int .i64 x], .agg #[.int .i64 l, .int .i64 y]] w (rt w (.tuple #[.agg #[.int .i64 0, .int .i64 0], .int .i64 7])) := by
 have b2 := (show Blk (((w.alloc (.cells #[.int .i64 l, .int .i64 y] 38)).alloc (.cells #[.int .i64 k, .int .i64 x] 38)).alloc (.cells #[.int .i64 0, .int .i64 0] 38)) (w.heap.size + 1 + 1) 38 #[.int .i64 0, .int .i64 0] from Blk.new (by simp))
 have e := b2.cell
 replace b2 := hid b2
 go_enter Tryz.func66, Tryz.ntmps66
 go_wp2_with fail
 refine bodyPost_ret (v := .tuple #[.agg #[.int .i64 0, .int .i64 0], .int .i64 7]) (by simp [results, Tryz.results66, go_sem, e]) rfl ⟨rfl, ?_⟩
 exact (((ba _ _).alloc (by simp) _).alloc (by simp; omega) _)
theorem divided_e (k x l y : Int) (hl : l ≠ 4) (w : World) :
  Calls Tryz.prog 67 #[.agg #[.int .i64 k, .int .i64 x], .agg #[.int .i64 l, .int .i64 y]] w (rt w (.tuple #[.agg #[.int .i64 0, .int .i64 0], .int .i64 7])) := by
 have b2 := (show Blk (((w.alloc (.cells #[.int .i64 k, .int .i64 x] 38)).alloc (.cells #[.int .i64 l, .int .i64 y] 38)).alloc (.cells #[.int .i64 0, .int .i64 0] 38)) (w.heap.size + 1 + 1) 38 #[.int .i64 0, .int .i64 0] from Blk.new (by simp))
 have e := b2.cell
 replace b2 := hid b2
 go_enter Tryz.func67, Tryz.ntmps67
 go_wp2_with fail
 refine bodyPost_ret (v := .tuple #[.agg #[.int .i64 0, .int .i64 0], .int .i64 7]) (by simp [results, Tryz.results67, go_sem, e]) rfl ⟨rfl, ?_⟩
 exact (((ba _ _).alloc (by simp) _).alloc (by simp; omega) _)
theorem divided_z (k x : Int) (w : World) :
  Calls Tryz.prog 67 #[.agg #[.int .i64 k, .int .i64 x], .agg #[.int .i64 4, .int .i64 0]] w (rt w (.tuple #[.agg #[.int .i64 0, .int .i64 0], .int .i64 1])) := by
 have b2 := (show Blk (((w.alloc (.cells #[.int .i64 k, .int .i64 x] 38)).alloc (.cells #[.int .i64 4, .int .i64 0] 38)).alloc (.cells #[.int .i64 0, .int .i64 0] 38)) (w.heap.size + 1 + 1) 38 #[.int .i64 0, .int .i64 0] from Blk.new (by simp))
 have e := b2.cell
 replace b2 := hid b2
 go_enter Tryz.func67, Tryz.ntmps67
 go_wp2_with fail
 refine bodyPost_ret (v := .tuple #[.agg #[.int .i64 0, .int .i64 0], .int .i64 1]) (by simp [results, Tryz.results67, go_sem, e]) rfl ⟨rfl, ?_⟩
 exact (((ba _ _).alloc (by simp) _).alloc (by simp; omega) _)
theorem times_any (k x l y : Int) (hx : -16777216 <= x /\ x <= 16777216) (hy : -16777216 <= y /\ y <= 16777216) (w : World) :
  Calls Tryz.prog 66 #[.agg #[.int .i64 k, .int .i64 x], .agg #[.int .i64 l, .int .i64 y]] w (VRes w) := by
 by_cases hl : l = 4
 ·subst hl
  have hm := mul_small hx hy
  exact (times_a k x y (x * y) (x * y / 1000) rfl (IntWalk.i64_in _ (by omega)) (downK_ct (x * y) (by omega) (by omega)) w).mono fun e w' ⟨he, hb⟩ => ⟨⟨_, _, _, he, clip_bd _⟩, hb⟩
 ·by_cases hk : k = 4
  ·subst hk
   have hm := mul_small hy hx
   exact (times_b l x y (y * x) (y * x / 1000) hl rfl (IntWalk.i64_in _ (by omega)) (downK_ct (y * x) (by omega) (by omega)) w).mono fun e w' ⟨he, hb⟩ => ⟨⟨_, _, _, he, clip_bd _⟩, hb⟩
  ·exact (times_e k x l y hk hl w).mono fun e w' ⟨he, hb⟩ => ⟨⟨_, _, _, he, by decide, by decide⟩, hb⟩
theorem divided_any (k x l y : Int) (hx : -16777216 <= x /\ x <= 16777216) (hy : -16777216 <= y /\ y <= 16777216) (w : World) :
  Calls Tryz.prog 67 #[.agg #[.int .i64 k, .int .i64 x], .agg #[.int .i64 l, .int .i64 y]] w (VRes w) := by
 by_cases hl : l = 4
 ·subst hl
  by_cases h0 : y = 0
  ·subst h0
   exact (divided_z k x w).mono fun e w' ⟨he, hb⟩ => ⟨⟨_, _, _, he, by decide, by decide⟩, hb⟩
  ·obtain ⟨D, hD⟩ := down_any (x * 1000) y (by omega) h0 (by omega)
   exact (divided_a k x y D h0 (IntWalk.i64_in _ (by omega)) hD w).mono fun e w' ⟨he, hb⟩ => ⟨⟨_, _, _, he, clip_bd _⟩, hb⟩
 ·exact (divided_e k x l y hl w).mono fun e w' ⟨he, hb⟩ => ⟨⟨_, _, _, he, by decide, by decide⟩, hb⟩
end cal
namespace cal
open Go.RowKit base tok dim
def VCell (w : World) (b : Nat) (L : List (Int × Int)) : Prop := ∀ (i : Nat) (p : Int × Int), L[i]? = some p -> w.cell? ⟨b, i * 2, none⟩ = some (.int .i64 p.1) /\ w.cell? ⟨b, i * 2 + 1, none⟩ = some (.int .i64 p.2)
def Small (L : List (Int × Int)) : Prop := ∀ p ∈ L, -16777216 <= p.2 /\ p.2 <= 16777216
theorem alike_sum (k : Int) (hk : k = 2 ∨ k = 3 ∨ k = 6 ∨ k = 7) (b cap n : Nat) (c x : Int) (L : List (Int × Int)) (hn : L.length = n) (hn30 : n <= 40) (hcap : n + 1 <= cap) (hx : -16777216 <= x /\ x <= 16777216) (hS : Small L) (w : World) (hb : b < w.heap.size)
  (hc : VCell w b ((c, x) :: L)) : Calls Tryz.prog 68 #[.int .i64 k, .slice (some ⟨b, 0, none⟩) (n + 1 : Nat) cap] w (VRes w) := by
 have e0 := (hc 0 (c, x) rfl).1
 have e1 := (hc 0 (c, x) rfl).2
 dsimp only at e0 e1
 rw [Nat.zero_mul] at e0 e1
 have HB0 := hid (show Below w.heap.size w ((w.alloc (.cells #[.int .i64 0, .int .i64 0] 38)).alloc (.cells #[.int .i64 c, .int .i64 x] 38)) from (ba _ _).alloc (by simp) _)
 have b1 := hid (show Blk ((w.alloc (.cells #[.int .i64 0, .int .i64 0] 38)).alloc (.cells #[.int .i64 c, .int .i64 x] 38)) (w.heap.size + 1) 38 #[.int .i64 c, .int .i64 x] from Blk.new (by simp))
 have b0 := hid (show Blk ((w.alloc (.cells #[.int .i64 0, .int .i64 0] 38)).alloc (.cells #[.int .i64 c, .int .i64 x] 38)) w.heap.size 38 #[.int .i64 0, .int .i64 0] from (Blk.new rfl).alloc _)
 have HC := hid hc
 have HN := hid hn
 have HS := hid hS
 clear hc hn hS
 have hrest : ∀ (j : Nat), j < n -> ∃ (d y : Int), -16777216 <= y /\ y <= 16777216 /\ w.cell? ⟨b, 2 + j * 2, none⟩ = some (.int .i64 d) /\ w.cell? ⟨b, 2 + j * 2 + 1, none⟩ = some (.int .i64 y) := by
  intro j hj
  have hlt : j < L.length := by have := HN.out; omega
  have hg : ((c, x) :: L)[j + 1]? = some L[j] := by rw [List.getElem?_cons_succ, List.getElem?_eq_getElem hlt]
  have h1 := HC.out (j + 1) _ hg
  have h2 := HS.out _ (List.getElem_mem hlt)
  rw [show (j + 1) * 2 = 2 + j * 2 by omega] at h1
  exact ⟨_, _, h2.1, h2.2, h1.1, h1.2⟩
 have HR := hid hrest
 clear hrest
 by_cases h2c : 2 <= cap
 ·go_enter Tryz.func68, Tryz.ntmps68
  go_wp2_with fail
  go_loopw [15] (fun i wr => ∃ (j : Nat) (z : Int), j <= n /\ i = .int .i64 j /\ -16777216 * (j + 1) <= z /\ z <= 16777216 * (j + 1) /\ Blk wr (w.heap.size + 1) 38 #[.int .i64 c, .int .i64 z] /\ Blk wr w.heap.size 38 #[.int .i64 0, .int .i64 0] /\ Below w.heap.size w wr) (fun i _ => n - (intOf i).toNat)
  case atStart => exact ⟨0, x, by omega, rfl, by omega, by omega, b1.out, b0.out, HB0.out⟩
  case round =>
   obtain ⟨j, z, hj, rfl, hz0, hz1, q1, q0, hbw⟩ := hrel
   have hlt1 := q1.lt
   by_cases hlt : j < n
   ·have hlt' : (j : Int) < (n : Int) := by omega
    obtain ⟨d, y, hy0, hy1, g0, g1⟩ := HR.out j hlt
    have f0 := (hbw.cell (p := ⟨b, 2 + j * 2, none⟩) hb).trans g0
    have f1 := (hbw.cell (p := ⟨b, 2 + j * 2 + 1, none⟩) hb).trans g1
    have c1 := fun o => (q1.alloc o).cell
    have c2 := fun o => (q1.alloc o).frozen
    have c3 := fun o => (q0.alloc o).cell
    have c4 := fun o => (q0.alloc o).frozen
    clear g0 g1
    replace q1 := hid q1
    replace q0 := hid q0
    replace hbw := hid hbw
    by_cases hd : d = c
    ·subst hd
     have hz2 : ∃ z', IntKind.i64.wrap z' = z' /\ -16777216 * ((j : Int) + 1 + 1) <= z' /\ z' <= 16777216 * ((j : Int) + 1 + 1) /\ ((k = 2 /\ z + y = z') ∨ (k = 3 /\ z - y = z') ∨ (k = 6 /\ min z y = z') ∨ (k = 7 /\ max z y = z')) := by
      rcases hk with rfl | rfl | rfl | rfl
      ·exact ⟨z + y, IntWalk.i64_in _ (by omega), by omega, by omega, .inl ⟨rfl, rfl⟩⟩
      ·exact ⟨z - y, IntWalk.i64_in _ (by omega), by omega, by omega, .inr (.inl ⟨rfl, rfl⟩)⟩
      ·exact ⟨min z y, IntWalk.i64_in _ (by omega), by omega, by omega, .inr (.inr (.inl ⟨rfl, rfl⟩))⟩
      ·exact ⟨max z y, IntWalk.i64_in _ (by omega), by omega, by omega, .inr (.inr (.inr ⟨rfl, rfl⟩))⟩
     obtain ⟨z', hw', hb0', hb1', hz3⟩ := hz2
     rcases hz3 with ⟨rfl, hz3⟩ | ⟨rfl, hz3⟩ | ⟨rfl, hz3⟩ | ⟨rfl, hz3⟩
     all_goals
      go_wp2_with fail
      go_roundw
      case rel => exact ⟨j + 1, z', by omega, by go_num, by omega, by omega, (q1.out.put 1 _).alloc _, (q0.out.far (by dsimp only; omega) _).alloc _, (hbw.out.setCell (by simp) _).alloc (by simpa using hbw.out.size) _⟩
      case measure => simp [intOf]; omega
    ·have hd' : ¬ d = c := hd
     go_wp2_with fail
     have e := (((q0.out.alloc (.cells #[.int .i64 d, .int .i64 y] 38)).put 0 (.int .i64 0)).put 1 (.int .i64 0)).cell
     exact bodyPost_ret (v := .tuple #[.agg #[.int .i64 0, .int .i64 0], .int .i64 7]) (by simp [results, Tryz.results68, go_sem, e]) rfl ⟨⟨_, _, _, rfl, by decide, by decide⟩, ((hbw.out.alloc hbw.out.size _).setCell (Nat.le_refl _) _).setCell (Nat.le_refl _) _⟩
   ·obtain rfl : j = n := by omega
    have c1 := q1.cell
    have c2 := q1.frozen
    have c3 := q0.cell
    have c4 := q0.frozen
    have cC := hid (fun w => ccut_ct z w)
    have hR := clip_bd z
    generalize clipI z = R at *
    have c5 := fun v => (q1.put 1 v).cell
    have c6 := fun v => (q0.far (p := ⟨w.heap.size + 1, 1, none⟩) (by dsimp only; omega) v).frozen
    have qz := q0.far (p := ⟨w.heap.size + 1, 1, none⟩) (by dsimp only; omega) (.int .i64 R)
    replace qz := hid qz
    replace hbw := hid hbw
    have k8 : ¬ k = 8 := by omega
    go_wp2_with (go_at_call 95; (with_reducible refine (cC.out _).mono ?_); rintro e W1 ⟨rfl, rfl⟩)
    have e := ((qz.out.put 0 (.int .i64 c)).put 1 (.int .i64 R)).cell
    refine bodyPost_ret (v := .tuple #[.agg #[.int .i64 c, .int .i64 R], .int .i64 0]) (by simp [results, Tryz.results68, go_sem, e]) rfl ⟨⟨_, _, _, rfl, hR⟩, ?_⟩
    exact ((hbw.out.setCell (by simp) _).setCell (by simp) _).setCell (by simp) _
 ·obtain rfl : n = 0 := by omega
  obtain rfl : cap = 1 := by omega
  go_enter Tryz.func68, Tryz.ntmps68
  go_wp2_with fail
  go_loopw [15] (fun i wr => i = .int .i64 0 /\ Blk wr (w.heap.size + 1) 38 #[.int .i64 c, .int .i64 x] /\ Blk wr w.heap.size 38 #[.int .i64 0, .int .i64 0] /\ Below w.heap.size w wr) (fun i _ => 0)
  case atStart => exact ⟨rfl, b1.out, b0.out, HB0.out⟩
  case round =>
    obtain ⟨rfl, q1, q0, hbw⟩ := hrel
    have hlt1 := q1.lt
    have c1 := q1.cell
    have c2 := q1.frozen
    have c3 := q0.cell
    have c4 := q0.frozen
    have cC := hid (fun w => ccut_ct x w)
    have hR := clip_bd x
    generalize clipI x = R at *
    have c5 := fun v => (q1.put 1 v).cell
    have c6 := fun v => (q0.far (p := ⟨w.heap.size + 1, 1, none⟩) (by dsimp only; omega) v).frozen
    have qz := q0.far (p := ⟨w.heap.size + 1, 1, none⟩) (by dsimp only; omega) (.int .i64 R)
    replace qz := hid qz
    replace hbw := hid hbw
    have k8 : ¬ k = 8 := by omega
    go_wp2_with (go_at_call 95; (with_reducible refine (cC.out _).mono ?_); rintro e W1 ⟨rfl, rfl⟩)
    have e := ((qz.out.put 0 (.int .i64 c)).put 1 (.int .i64 R)).cell
    refine bodyPost_ret (v := .tuple #[.agg #[.int .i64 c, .int .i64 R], .int .i64 0]) (by simp [results, Tryz.results68, go_sem, e]) rfl ⟨⟨_, _, _, rfl, hR⟩, ?_⟩
    exact ((hbw.out.setCell (by simp) _).setCell (by simp) _).setCell (by simp) _
theorem alike_off (c x d y f z : Int) (b cap : Nat) (hcap : 3 <= cap) (w : World) (hb : b < w.heap.size) (hne : ¬ (d = c /\ f = c))
  (e0 : w.cell? ⟨b, 0, none⟩ = some (.int .i64 c)) (e1 : w.cell? ⟨b, 1, none⟩ = some (.int .i64 x)) (e2 : w.cell? ⟨b, 2, none⟩ = some (.int .i64 d)) (e3 : w.cell? ⟨b, 3, none⟩ = some (.int .i64 y)) (e4 : w.cell? ⟨b, 4, none⟩ = some (.int .i64 f)) (e5 : w.cell? ⟨b, 5, none⟩ = some (.int .i64 z)) :
  Calls Tryz.prog 68 #[.int .i64 8, .slice (some ⟨b, 0, none⟩) 3 cap] w (VRes w) := by
 have HB0 := hid (show Below w.heap.size w ((w.alloc (.cells #[.int .i64 0, .int .i64 0] 38)).alloc (.cells #[.int .i64 c, .int .i64 x] 38)) from (ba _ _).alloc (by simp) _)
 have b1 := hid (show Blk ((w.alloc (.cells #[.int .i64 0, .int .i64 0] 38)).alloc (.cells #[.int .i64 c, .int .i64 x] 38)) (w.heap.size + 1) 38 #[.int .i64 c, .int .i64 x] from Blk.new (by simp))
 have b0 := hid (show Blk ((w.alloc (.cells #[.int .i64 0, .int .i64 0] 38)).alloc (.cells #[.int .i64 c, .int .i64 x] 38)) w.heap.size 38 #[.int .i64 0, .int .i64 0] from (Blk.new rfl).alloc _)
 go_enter Tryz.func68, Tryz.ntmps68
 go_wp2_with fail
 go_loopw [15] (fun i wr => ∃ j : Nat, (j = 0 ∨ (j = 1 /\ d = c)) /\ i = .int .i64 j /\ Blk wr (w.heap.size + 1) 38 #[.int .i64 c, .int .i64 x] /\ Blk wr w.heap.size 38 #[.int .i64 0, .int .i64 0] /\ Below w.heap.size w wr) (fun i _ => 2 - (intOf i).toNat)
 case atStart => exact ⟨0, .inl rfl, rfl, b1.out, b0.out, HB0.out⟩
 case round =>
  obtain ⟨j, hj, rfl, q1, q0, hbw⟩ := hrel
  have f2 := (hbw.cell (p := ⟨b, 2, none⟩) hb).trans e2
  have f3 := (hbw.cell (p := ⟨b, 3, none⟩) hb).trans e3
  have f4 := (hbw.cell (p := ⟨b, 4, none⟩) hb).trans e4
  have f5 := (hbw.cell (p := ⟨b, 5, none⟩) hb).trans e5
  clear e0 e1 e2 e3 e4 e5
  have hlt1 := q1.lt
  have c1 := fun o => (q1.alloc o).cell
  have c2 := fun o => (q1.alloc o).frozen
  have c3 := fun o => (q0.alloc o).cell
  have c4 := fun o => (q0.alloc o).frozen
  replace q1 := hid q1
  replace q0 := hid q0
  replace hbw := hid hbw
  rcases hj with rfl | ⟨rfl, hdc⟩
  ·by_cases hdc : d = c
   ·subst hdc
    go_wp2_with fail
    go_roundw
    case rel => exact ⟨1, .inr ⟨rfl, trivial⟩, by go_num, q1.out.alloc _, q0.out.alloc _, hbw.out.alloc hbw.out.size _⟩
    case measure => simp [intOf]
   ·go_wp2_with fail
    have e := (((q0.out.alloc (.cells #[.int .i64 d, .int .i64 y] 38)).put 0 (.int .i64 0)).put 1 (.int .i64 0)).cell
    exact bodyPost_ret (v := .tuple #[.agg #[.int .i64 0, .int .i64 0], .int .i64 7]) (by simp [results, Tryz.results68, go_sem, e]) rfl ⟨⟨_, _, _, rfl, by decide, by decide⟩, ((hbw.out.alloc hbw.out.size _).setCell (Nat.le_refl _) _).setCell (Nat.le_refl _) _⟩
  ·have hfc : ¬ f = c := fun h => hne ⟨hdc, h⟩
   go_wp2_with fail
   have e := (((q0.out.alloc (.cells #[.int .i64 f, .int .i64 z] 38)).put 0 (.int .i64 0)).put 1 (.int .i64 0)).cell
   exact bodyPost_ret (v := .tuple #[.agg #[.int .i64 0, .int .i64 0], .int .i64 7]) (by simp [results, Tryz.results68, go_sem, e]) rfl ⟨⟨_, _, _, rfl, by decide, by decide⟩, ((hbw.out.alloc hbw.out.size _).setCell (Nat.le_refl _) _).setCell (Nat.le_refl _) _⟩
theorem alike_any (k : Int) (L : List (Int × Int)) (hk : ((k = 2 ∨ k = 3 ∨ k = 6 ∨ k = 7) /\ 1 <= L.length) ∨ (k = 8 /\ L.length = 3)) (b cap m : Nat) (hm : L.length = m) (hm30 : m <= 40) (hcap : m <= cap) (hS : Small L) (w : World) (hb : b < w.heap.size)
  (hc : VCell w b L) : Calls Tryz.prog 68 #[.int .i64 k, .slice (some ⟨b, 0, none⟩) m cap] w (VRes w) := by
 rcases hk with ⟨hk, h1⟩ | ⟨rfl, h3⟩
 ·match L, h1 with
  | (c, x) :: L, _ =>
   subst hm
   exact alike_sum k hk b cap L.length c x L rfl (by simp at hm30; omega) (by simpa using hcap) (hS (c, x) (by simp)) (fun p hp => hS p (by simp [hp])) w hb hc
 ·match L, h3 with
  | [(c, x), (d, y), (f, z)], _ =>
   subst hm
   have a := hc 0 _ rfl
   have a1 := hc 1 _ rfl
   have a2 := hc 2 _ rfl
   by_cases hne : d = c /\ f = c
   ·obtain ⟨rfl, rfl⟩ := hne
    exact (alike_mid f x y z b 0 cap hcap w hb a.1 a.2 a1.1 a1.2 a2.1 a2.2).mono fun e w' ⟨he, hb⟩ => ⟨⟨_, _, _, he, clip_bd _⟩, hb⟩
   ·exact alike_off c x d y f z b cap hcap w hb hne a.1 a.2 a1.1 a1.2 a2.1 a2.2
end cal
namespace clb
open Go.RowKit base tok dim rul cal
theorem tes_tms {X : Nat -> Prop} {w : World} {c : Nat} : ∀ {l : List Te} {o : Nat}, TesAt X w c o l -> ∃ L : List Tm, L.length = l.length /\ ∀ (i : Nat) (t : Tm), L[i]? = some t -> (w.cell? ⟨c, o + i * 4, none⟩ = some (.int .i64 t.k) /\ w.cell? ⟨c, o + i * 4 + 1, none⟩ = some (.int .i64 t.n) /\ w.cell? ⟨c, o + i * 4 + 2, none⟩ = some (.string t.u) /\ w.cell? ⟨c, o + i * 4 + 3, none⟩ = some (.slice t.a t.l t.c)) /\ ∃ te, l[i]? = some te /\ TeAt X w te t.v
 | [], o, _ => ⟨[], rfl, fun i t h => by simp at h⟩
 | te :: l, o, h => by
  rw [TesAt] at h
  obtain ⟨⟨x0, x1, x2, x3, c0, c1, c2, c3, ht⟩, hl⟩ := h
  obtain ⟨k, n, s, a, m, cap, e⟩ := ht.four
  obtain ⟨rfl, rfl, rfl, rfl⟩ : x0 = .int .i64 k /\ x1 = .int .i64 n /\ x2 = .string s /\ x3 = .slice a m cap := by simpa using e
  obtain ⟨L, hL, hc⟩ := tes_tms hl
  refine ⟨⟨k, n, s, a, m, cap⟩ :: L, by rw [List.length_cons, List.length_cons, hL], fun i t hi => ?_⟩
  cases i with
  | zero =>
   obtain rfl := Option.some.inj hi
   exact ⟨by simpa using ⟨c0, c1, c2, c3⟩, te, rfl, ht⟩
  | succ i =>
   have h2 := hc i t (by simpa using hi)
   rw [show o + (i + 1) * 4 = o + 4 + i * 4 by omega]
   obtain ⟨h3, te2, h4, h5⟩ := h2
   exact ⟨h3, te2, by simpa using h4, h5⟩
def cntT (c : Nat -> Nat) : Nat -> Nat
 | 0 => 1
 | i + 1 => cntT c i + c i
theorem cntT_le (c : Nat -> Nat) : ∀ (i j : Nat), i <= j -> cntT c i <= cntT c j
 | i, 0, h => by
  obtain rfl : i = 0 := by omega
  exact Nat.le_refl _
 | i, j + 1, h => by
  rcases Nat.lt_or_ge i (j + 1) with h1 | h1
  ·have := cntT_le c i j (by omega)
   simp only [cntT]
   omega
  ·obtain rfl : i = j + 1 := by omega
   exact Nat.le_refl _
theorem count_op (k n : Int) (u : ByteArray) (b o cap m : Nat) (L : List Tm) (hm : L.length = m) (hcap : m <= cap) (w : World) (hS : ∀ w, Calls Tryz.prog 64 #[.agg #[.int .i64 k, .int .i64 n, .string u, .slice (some ⟨b, o, none⟩) m cap]] w (rt w (.bool true)))
  (hL : TmAt w b o L) (c : Nat -> Nat) (hsum : cntT c m <= 30) (hm30 : m <= 30)
  (hC : ∀ i t, L[i]? = some t -> ∀ W, Below w.heap.size w W -> Calls Tryz.prog 37 #[t.v] W fun e W' => e = .returned (.tuple #[.int .i64 (c i), .bool true]) /\ Below W.heap.size W W') :
  Calls Tryz.prog 37 #[.agg #[.int .i64 k, .int .i64 n, .string u, .slice (some ⟨b, o, none⟩) m cap]] w (rt w (.tuple #[.int .i64 (cntT c m), .bool true])) := by
 have hsz := hid hm
 have cS := hid hS
 clear hS hm
 replace hC := hid hC
 replace hL := hid hL
 replace hsum := hid hsum
 go_enter Tryz.func37, Tryz.ntmps37
 go_wp2_with (go_at_call 64; (with_reducible refine (cS.out _).mono ?_); rintro e W1 ⟨rfl, hb1⟩; have HB1 := hid ((ba w (.cells #[.int .i64 k, .int .i64 n, .string u, .slice (some ⟨b, o, none⟩) m cap] 50)).trans (hb1.mono (by simp))); have hblk := (Blk.new (w := w) (t := 50) (cs := #[.int .i64 k, .int .i64 n, .string u, .slice (some ⟨b, o, none⟩) m cap]) (k := w.heap.size) (by simp)).below hb1 (by simp); have r1 := hblk.frozen; have r2 := hblk.cell; clear hb1)
 go_loopw [4, 16] (fun n i wr => ∃ j : Nat, j <= m /\ n = .int .i64 (cntT c j) /\ i = .int .i64 j /\ Below w.heap.size w wr) (fun _ i _ => m - (intOf i).toNat)
 case atStart => exact ⟨0, by omega, rfl, rfl, HB1.out⟩
 case round =>
  obtain ⟨j, hj, rfl, rfl, hbw⟩ := hrel
  replace hbw := hid hbw
  by_cases hlt : j < m
  ·have hlt' : (j : Int) < (m : Int) := by omega
   obtain ⟨t, ht⟩ : ∃ t, L[j]? = some t := ⟨_, List.getElem?_eq_getElem (by rw [hsz.out]; exact hlt)⟩
   obtain ⟨g0, g1, g2, g3⟩ := (hL.out.on hbw.out).2 j t ht
   have cT := fun W h => hC.out j t ht W h
   obtain ⟨tk, tn, tu, ta, tl, tc⟩ := t
   unfold Tm.v at cT
   dsimp only at g0 g1 g2 g3 cT
   replace cT := hid cT
   have s3 := cntT_le c (j + 1) m (by omega)
   have s4 := hsum.out
   have s1 : cntT c j + c j <= 30 := by simp only [cntT] at s3; omega
   have s2 := hid (show cntT c (j + 1) = cntT c j + c j from rfl)
   clear ht s3 s4
   generalize cntT c j = sj at *
   generalize c j = cj at *
   have HBa := hid (hbw.out.alloc hbw.out.size (.cells #[.int .i64 tk, .int .i64 tn, .string tu, .slice ta tl tc] 50))
   go_wp2_with (go_at_call 37; (with_reducible refine (cT.out _ HBa.out).mono ?_); rintro e W2 ⟨rfl, hb2⟩; have HB2 := hid (tb HBa hb2); clear hb2)
   go_roundw
   case rel => exact ⟨j + 1, by omega, by rw [s2.out]; go_num, by go_num, HB2.out⟩
   case measure => simp [intOf]; omega
  ·obtain rfl : j = m := by omega
   go_wp2
   go_ret2
   exact ⟨rfl, hbw.out⟩
theorem sizes_all : ∀ (l : List Te), cntT (fun q => ((l[q]?).map Te.size).getD 0) l.length = 1 + sizes l
 | [] => by simp [cntT, sizes_nil]
 | t :: l => by
  have h : ∀ i, cntT (fun q => (((t :: l)[q]?).map Te.size).getD 0) (i + 1) = cntT (fun q => ((l[q]?).map Te.size).getD 0) i + t.size := by
   intro i
   induction i with
   | zero => simp [cntT]
   | succ i ih =>
    rw [cntT, ih]
    simp only [cntT, List.getElem?_cons_succ]
    omega
  rw [List.length_cons, h, sizes_cons, sizes_all l]
  omega
theorem few_sz (l : List Te) : l.length <= sizes l := by
 induction l with
 | nil => simp
 | cons t l ih =>
  have := wf_size t
  rw [sizes_cons, List.length_cons]
  omega
def CountC (t : Te) : Prop := ∀ (X : Nat -> Prop) (w : World) (v : Value), TeAt X w t v -> Calls Tryz.prog 37 #[v] w (rt w (.tuple #[.int .i64 (t.size : Nat), .bool true]))
mutual
theorem count_any : ∀ t : Te, Wf t -> t.size <= 30 -> CountC t
 | .num n u => fun h _ X w v ht => by
  rw [TeAt] at ht
  rw [ht, size_num]
  exact count_leaf n (bs u) w
 | .op k l => fun h_ hs X w v ht => by
  rw [size_op] at hs
  obtain ⟨hk, hl0, hwl, hsh⟩ := wf_kind h_
  have hall := counts_any l hwl (by omega)
  rw [TeAt] at ht
  obtain ⟨c, o, cap, rfl, hcap, hX, hc, hts⟩ := ht
  obtain ⟨L, hL, hcells⟩ := tes_tms hts
  have hcnt := few_sz l
  have hsp : shapedP k l.length = true := by
   cases h9 : shapedP k l.length with
   | true => rfl
   | false => rw [h9] at hsh; cases hsh
  have hsum := sizes_all l
  have h := count_op k 0 ⟨#[]⟩ c o cap l.length L hL hcap w (fun w => by
    have h := shaped_any k 0 ⟨#[]⟩ (some ⟨c, o, none⟩) l.length cap (by omega) w
    rwa [hsp] at h) ⟨hc, fun i t hi => (hcells i t hi).1⟩ (fun q => ((l[q]?).map Te.size).getD 0) (by omega) (by omega)
   (fun i t hi W hW => by
    obtain ⟨te, hte, hat⟩ := (hcells i t hi).2
    have e := hall te (List.mem_of_getElem? hte) X W t.v (hat.on hW)
    simp only [hte, Option.map_some, Option.getD_some]
    exact e)
  rw [hsum] at h
  rw [size_op]
  exact h
theorem counts_any : ∀ l : List Te, Wfs l -> sizes l <= 30 -> ∀ t ∈ l, CountC t
 | [] => fun _ _ t ht => absurd ht List.not_mem_nil
 | a :: l => fun h hs t ht => by
  rw [Wfs] at h
  rw [sizes_cons] at hs
  rcases List.mem_cons.1 ht with e | e
  ·rw [e]; exact count_any a h.1 (by omega)
  ·exact counts_any l h.2 (by omega) t e
end
end clb
namespace clb
open Go.RowKit base tok dim rul cal
theorem small_snoc {acc : List (Int × Int)} {c N : Int} (h : cal.Small acc) (h0 : -16777216 <= N) (h1 : N <= 16777216) : cal.Small (acc ++ [(c, N)]) := fun p hp => by
 rcases List.mem_append.1 hp with hp | hp
 ·exact h p hp
 ·rw [List.mem_singleton.1 hp]
  exact ⟨h0, h1⟩
theorem row_vals {w : World} {base j : Nat} {x : Value} {acc : List (Int × Int)} (hal : acc.length = j) (h0 : 0 < j) (h : w.ownsRow base 38 2 x j (flatR cal.valF acc)) : ∃ g cp, x = .slice (some ⟨g, 0, none⟩) j cp /\ j <= cp /\ base <= g /\ g < w.heap.size /\ VCell w g acc := by
 obtain ⟨A, cp, e, hcp, hrd⟩ := row_rd cal.valF_len hal h
 obtain ⟨g, z, hA, hg, hcl⟩ := hrd.2 h0
 obtain ⟨g', cap, e2⟩ : ∃ g cap, x = .slice (some ⟨g, 0, none⟩) j cap := by
  rcases h.2 with ⟨_, h'⟩ | ⟨g, cap, cur, e, _⟩
  ·omega
  ·exact ⟨_, _, e⟩
 have e3 := e.symm.trans e2
 rw [hA] at e3
 simp only [Value.slice.injEq, Option.some.injEq, Addr.mk.injEq] at e3
 obtain ⟨⟨rfl, rfl, -⟩, -, rfl⟩ := e3
 have hl := h.lt g (by rw [e2]; rfl)
 refine ⟨g, cp, e2, hcp, hl.1, hg, fun i p hi => ?_⟩
 have a0 := hcl i p hi 0 (by decide)
 have a1 := hcl i p hi 1 (by decide)
 rw [Nat.zero_add] at a0 a1
 exact ⟨by simpa [cal.valF] using a0, by simpa [cal.valF] using a1⟩
theorem value_alk (k n : Int) (u : ByteArray) (b o cap m : Nat) (L : List Tm) (hk : k = 2 ∨ k = 3 ∨ k = 6 ∨ k = 7 ∨ k = 8) (hm : L.length = m) (hl0 : ((k = 2 ∨ k = 3 ∨ k = 6 ∨ k = 7) /\ 1 <= m) ∨ (k = 8 /\ m = 3)) (hm30 : m <= 30) (hcap : m <= cap) (w : World) (hL : TmAt w b o L) (em rem vw vh : Int)
  (hV : ∀ (i : Nat) (t : Tm), L[i]? = some t -> ∀ W, Below w.heap.size w W -> Calls Tryz.prog 38 #[t.v, .agg #[.int .i64 em, .int .i64 rem, .int .i64 vw, .int .i64 vh]] W (VRes W)) :
  Calls Tryz.prog 38 #[.agg #[.int .i64 k, .int .i64 n, .string u, .slice (some ⟨b, o, none⟩) m cap], .agg #[.int .i64 em, .int .i64 rem, .int .i64 vw, .int .i64 vh]] w (VRes w) := by
 obtain ⟨i0, hi, hz0, hz1, hz2⟩ := info_parts infoV
 have Hz0 := hid hz0
 have Hi := hid hi
 have Hz1 := hid hz1
 have Hz2 := hid hz2
 clear hz0 hi hz1 hz2
 have hsz := hid hm
 clear hm
 have k1 : (k == 1) = false := by rcases hk with rfl | rfl | rfl | rfl | rfl <;> decide
 have k4 : (k == 4) = false := by rcases hk with rfl | rfl | rfl | rfl | rfl <;> decide
 have k5 : (k == 5) = false := by rcases hk with rfl | rfl | rfl | rfl | rfl <;> decide
 have hl := hid hl0
 clear hk hl0
 replace hV := hid hV
 replace hL := hid hL
 have HW0 := hid (show Below w.heap.size w (((w.alloc (.cells #[.int .i64 k, .int .i64 n, .string u, .slice (some ⟨b, o, none⟩) m cap] 50)).alloc (.cells #[.int .i64 em, .int .i64 rem, .int .i64 vw, .int .i64 vh] 42)).alloc (.cells #[.int .i64 0, .int .i64 0] 38)) from ((ba w _).alloc (by simp) _).alloc (by simp; omega) _)
 have B0 := hid (show Blk (((w.alloc (.cells #[.int .i64 k, .int .i64 n, .string u, .slice (some ⟨b, o, none⟩) m cap] 50)).alloc (.cells #[.int .i64 em, .int .i64 rem, .int .i64 vw, .int .i64 vh] 42)).alloc (.cells #[.int .i64 0, .int .i64 0] 38)) w.heap.size 50 #[.int .i64 k, .int .i64 n, .string u, .slice (some ⟨b, o, none⟩) m cap] from ((Blk.new rfl).alloc _).alloc _)
 have B1 := hid (show Blk (((w.alloc (.cells #[.int .i64 k, .int .i64 n, .string u, .slice (some ⟨b, o, none⟩) m cap] 50)).alloc (.cells #[.int .i64 em, .int .i64 rem, .int .i64 vw, .int .i64 vh] 42)).alloc (.cells #[.int .i64 0, .int .i64 0] 38)) (w.heap.size + 1) 42 #[.int .i64 em, .int .i64 rem, .int .i64 vw, .int .i64 vh] from (Blk.new (by simp)).alloc _)
 have B2 := hid (show Blk (((w.alloc (.cells #[.int .i64 k, .int .i64 n, .string u, .slice (some ⟨b, o, none⟩) m cap] 50)).alloc (.cells #[.int .i64 em, .int .i64 rem, .int .i64 vw, .int .i64 vh] 42)).alloc (.cells #[.int .i64 0, .int .i64 0] 38)) (w.heap.size + 1 + 1) 38 #[.int .i64 0, .int .i64 0] from Blk.new (by simp))
 have HZ : w.heap.size + 3 <= (((w.alloc (.cells #[.int .i64 k, .int .i64 n, .string u, .slice (some ⟨b, o, none⟩) m cap] 50)).alloc (.cells #[.int .i64 em, .int .i64 rem, .int .i64 vw, .int .i64 vh] 42)).alloc (.cells #[.int .i64 0, .int .i64 0] 38)).heap.size := by simp
 replace HZ := hid HZ
 go_enter Tryz.func38, Tryz.ntmps38
 go_wp2_with fail
 generalize hW0 : ((w.alloc (.cells #[.int .i64 k, .int .i64 n, .string u, .slice (some ⟨b, o, none⟩) m cap] 50)).alloc (.cells #[.int .i64 em, .int .i64 rem, .int .i64 vw, .int .i64 vh] 42)).alloc (.cells #[.int .i64 0, .int .i64 0] 38) = W0 at *
 clear hW0
 go_loopw [6, 23] (fun x i wr => ∃ (j : Nat) (acc : List (Int × Int)), j <= m /\ acc.length = j /\ i = .int .i64 j /\ wr.ownsRow (w.heap.size + 3) 38 2 x j (flatR cal.valF acc) /\ Below (w.heap.size + 3) W0 wr /\ cal.Small acc) (fun _ i _ => m - (intOf i).toNat)
 case atStart => exact ⟨0, [], by omega, rfl, rfl, World.ownsRow_nil _ _ _ _, Below.refl _ _, fun p h => by simp at h⟩
 case round =>
  obtain ⟨j, acc, hj, hal, rfl, hrow, hbw, hacc⟩ := hrel
  have HBw := hid (HW0.out.trans (hbw.mono (by omega)))
  have q0 := B0.out.below hbw (by omega)
  have q1 := B1.out.below hbw (by omega)
  have q2 := B2.out.below hbw (by omega)
  have hzz := Nat.le_trans HZ.out hbw.size
  replace hbw := hid hbw
  replace hrow := hid hrow
  replace hacc := hid hacc
  replace hal := hid hal
  by_cases hlt : j < m
  ·have hlt' : (j : Int) < (m : Int) := by omega
   obtain ⟨t, ht⟩ : ∃ t, L[j]? = some t := ⟨_, List.getElem?_eq_getElem (by rw [hsz.out]; exact hlt)⟩
   obtain ⟨g0, g1, g2, g3⟩ := (hL.out.on HBw.out).2 j t ht
   have cT := fun W h => hV.out j t ht W h
   obtain ⟨tk, tn, tu, ta, tl, tc⟩ := t
   unfold Tm.v at cT
   dsimp only at g0 g1 g2 g3 cT
   clear ht
   have HBa := hid (HBw.out.alloc HBw.out.size (.cells #[.int .i64 tk, .int .i64 tn, .string tu, .slice ta tl tc] 50))
   have HBb := hid (hbw.out.alloc (by omega) (.cells #[.int .i64 tk, .int .i64 tn, .string tu, .slice ta tl tc] 50))
   have p1 := fun o => (q1.alloc o).cell
   replace q0 := hid q0
   replace q1 := hid q1
   replace q2 := hid q2
   replace cT := hid cT
   obtain ⟨a, cp, rfl⟩ := row_form hrow.out
   go_upto_region 8 with (go_at_call 38; (with_reducible refine (cT.out _ HBa.out).mono ?_); rintro e W2 ⟨⟨c, N, x, rfl, hN0, hN1⟩, hb2⟩; have hrow2 := hid (row_on (hrow.out.alloc _) hb2); have HB2 := hid (HBb.out.trans (hb2.mono (by have := HBb.out.size; simp; omega))); have HC2 := hid (tb HBa hb2); have hz2 := hb2.size; rw [World.size_alloc] at hz2; have q3 := (q2.out.alloc (.cells #[.int .i64 tk, .int .i64 tn, .string tu, .slice ta tl tc] 50)).below hb2 (by simp; omega); have p3 := q3.cell; have p4 := q3.frozen; have p5 := fun o => (q3.alloc o).cell; have p6 := fun o => (q3.alloc o).frozen; replace q3 := hid q3; clear hb2)
   by_cases hx : x = 0
   ·subst hx
    clear p3 p4 p5 p6
    go_wp2_with (at_builtin; refine wpList_append_own _ rfl _ _ 112 rfl (w.heap.size + 3) 38 i0 _ 2 16 Tryz.underlying112 Hi.out Hz0.out Hz1.out Hz2.out rfl (by decide) _ _ _ rfl ((hrow2.out.alloc _).alloc _) ⟨W2.heap.size + 1, 0, none⟩ 1 1 [.int .i64 c, .int .i64 N] rfl rfl ?c1 ?c2 ?c3 ?c4 ?c5 ?_)
    case c1 => exact (Blk.new (w := W2.alloc (.cells #[.int .i64 c, .int .i64 N] 38)) (t := 38) (cs := #[.int .i64 c, .int .i64 N]) (by simp)).news
    case c2 => simp [Value.oneCell']
    case c3 => unfold maxLen; omega
    case c4 => omega
    case c5 => simp; omega
    intro v' w3 hown3 hgrow3 hnil3
    have hb3 := hid (below_app ((HB2.out.alloc (by omega) _).alloc (by simp; omega) _) hgrow3 ((hrow2.out.alloc _).alloc _) (Nat.le_refl _) (by simp; omega))
    replace hown3 := hid hown3
    clear hgrow3 hnil3
    go_wp2
    go_roundw
    case rel =>
     refine ⟨j + 1, acc ++ [(c, N)], by omega, by rw [List.length_append, hal.out]; rfl, by go_num, ?_, hb3.out, small_snoc hacc.out hN0 hN1⟩
     simpa [flatR_snoc, cal.valF] using hown3.out
    case measure => simp [intOf]; omega
   ·go_wp2_with fail
    have e := (((q3.out.alloc (.cells #[.int .i64 c, .int .i64 N] 38)).put 0 (.int .i64 0)).put 1 (.int .i64 0)).cell
    refine bodyPost_ret (v := .tuple #[.agg #[.int .i64 0, .int .i64 0], .int .i64 x]) (by simp [results, Tryz.results38, go_sem, e]) rfl ⟨⟨_, _, _, rfl, by decide, by decide⟩, ?_⟩
    exact ((HC2.out.alloc HC2.out.size _).setCell (by simp; omega) _).setCell (by simp; omega) _
  ·obtain rfl : j = m := by omega
   obtain ⟨g, cp, rfl, hcp, hgb, hg, hvc⟩ := row_vals hal.out (by have := hl.out; omega) hrow.out
   have cB := hid (alike_any k acc (by have h1 := hl.out; have h2 := hal.out; omega) g cp j hal.out (by omega) hcp hacc.out wr hg hvc)
   clear hvc
   have p1 := q0.cell
   replace q0 := hid q0
   replace q1 := hid q1
   replace q2 := hid q2
   go_wp2_with (go_at_call 68; (with_reducible refine cB.out.mono ?_); rintro e W2 ⟨⟨x, y, z, rfl, hy0, hy1⟩, hb2⟩; have HB2 := hid (tb HBw hb2); have q3 := q2.out.below hb2 (by omega); have p3 := q3.cell; have p4 := q3.frozen; replace q3 := hid q3; clear hb2)
   have e := ((q3.out.put 0 (.int .i64 x)).put 1 (.int .i64 y)).cell
   refine bodyPost_ret (v := .tuple #[.agg #[.int .i64 x, .int .i64 y], .int .i64 z]) (by simp [results, Tryz.results38, go_sem, e]) rfl ⟨⟨_, _, _, rfl, hy0, hy1⟩, ?_⟩
   exact (HB2.out.setCell (by simp; omega) _).setCell (by simp; omega) _
theorem value_mulT (k n : Int) (u : ByteArray) (b o cap m : Nat) (L : List Tm) (hk : k = 4) (hm : L.length = m) (hl0 : m = 2) (hm30 : m <= 30) (hcap : m <= cap) (w : World) (hL : TmAt w b o L) (em rem vw vh : Int)
  (hV : ∀ (i : Nat) (t : Tm), L[i]? = some t -> ∀ W, Below w.heap.size w W -> Calls Tryz.prog 38 #[t.v, .agg #[.int .i64 em, .int .i64 rem, .int .i64 vw, .int .i64 vh]] W (VRes W)) :
  Calls Tryz.prog 38 #[.agg #[.int .i64 k, .int .i64 n, .string u, .slice (some ⟨b, o, none⟩) m cap], .agg #[.int .i64 em, .int .i64 rem, .int .i64 vw, .int .i64 vh]] w (VRes w) := by
 obtain ⟨i0, hi, hz0, hz1, hz2⟩ := info_parts infoV
 have Hz0 := hid hz0
 have Hi := hid hi
 have Hz1 := hid hz1
 have Hz2 := hid hz2
 clear hz0 hi hz1 hz2
 have hsz := hid hm
 clear hm
 have k1 : (k == 1) = false := by subst hk; decide
 have k4 : (k == 4) = true := by subst hk; decide
 have hl := hid hl0
 clear hk hl0
 replace hV := hid hV
 replace hL := hid hL
 have HW0 := hid (show Below w.heap.size w (((w.alloc (.cells #[.int .i64 k, .int .i64 n, .string u, .slice (some ⟨b, o, none⟩) m cap] 50)).alloc (.cells #[.int .i64 em, .int .i64 rem, .int .i64 vw, .int .i64 vh] 42)).alloc (.cells #[.int .i64 0, .int .i64 0] 38)) from ((ba w _).alloc (by simp) _).alloc (by simp; omega) _)
 have B0 := hid (show Blk (((w.alloc (.cells #[.int .i64 k, .int .i64 n, .string u, .slice (some ⟨b, o, none⟩) m cap] 50)).alloc (.cells #[.int .i64 em, .int .i64 rem, .int .i64 vw, .int .i64 vh] 42)).alloc (.cells #[.int .i64 0, .int .i64 0] 38)) w.heap.size 50 #[.int .i64 k, .int .i64 n, .string u, .slice (some ⟨b, o, none⟩) m cap] from ((Blk.new rfl).alloc _).alloc _)
 have B1 := hid (show Blk (((w.alloc (.cells #[.int .i64 k, .int .i64 n, .string u, .slice (some ⟨b, o, none⟩) m cap] 50)).alloc (.cells #[.int .i64 em, .int .i64 rem, .int .i64 vw, .int .i64 vh] 42)).alloc (.cells #[.int .i64 0, .int .i64 0] 38)) (w.heap.size + 1) 42 #[.int .i64 em, .int .i64 rem, .int .i64 vw, .int .i64 vh] from (Blk.new (by simp)).alloc _)
 have B2 := hid (show Blk (((w.alloc (.cells #[.int .i64 k, .int .i64 n, .string u, .slice (some ⟨b, o, none⟩) m cap] 50)).alloc (.cells #[.int .i64 em, .int .i64 rem, .int .i64 vw, .int .i64 vh] 42)).alloc (.cells #[.int .i64 0, .int .i64 0] 38)) (w.heap.size + 1 + 1) 38 #[.int .i64 0, .int .i64 0] from Blk.new (by simp))
 have HZ : w.heap.size + 3 <= (((w.alloc (.cells #[.int .i64 k, .int .i64 n, .string u, .slice (some ⟨b, o, none⟩) m cap] 50)).alloc (.cells #[.int .i64 em, .int .i64 rem, .int .i64 vw, .int .i64 vh] 42)).alloc (.cells #[.int .i64 0, .int .i64 0] 38)).heap.size := by simp
 replace HZ := hid HZ
 go_enter Tryz.func38, Tryz.ntmps38
 go_wp2_with fail
 generalize hW0 : ((w.alloc (.cells #[.int .i64 k, .int .i64 n, .string u, .slice (some ⟨b, o, none⟩) m cap] 50)).alloc (.cells #[.int .i64 em, .int .i64 rem, .int .i64 vw, .int .i64 vh] 42)).alloc (.cells #[.int .i64 0, .int .i64 0] 38) = W0 at *
 clear hW0
 go_loopw [6, 23] (fun x i wr => ∃ (j : Nat) (acc : List (Int × Int)), j <= m /\ acc.length = j /\ i = .int .i64 j /\ wr.ownsRow (w.heap.size + 3) 38 2 x j (flatR cal.valF acc) /\ Below (w.heap.size + 3) W0 wr /\ cal.Small acc) (fun _ i _ => m - (intOf i).toNat)
 case atStart => exact ⟨0, [], by omega, rfl, rfl, World.ownsRow_nil _ _ _ _, Below.refl _ _, fun p h => by simp at h⟩
 case round =>
  obtain ⟨j, acc, hj, hal, rfl, hrow, hbw, hacc⟩ := hrel
  have HBw := hid (HW0.out.trans (hbw.mono (by omega)))
  have q0 := B0.out.below hbw (by omega)
  have q1 := B1.out.below hbw (by omega)
  have q2 := B2.out.below hbw (by omega)
  have hzz := Nat.le_trans HZ.out hbw.size
  replace hbw := hid hbw
  replace hrow := hid hrow
  replace hacc := hid hacc
  replace hal := hid hal
  by_cases hlt : j < m
  ·have hlt' : (j : Int) < (m : Int) := by omega
   obtain ⟨t, ht⟩ : ∃ t, L[j]? = some t := ⟨_, List.getElem?_eq_getElem (by rw [hsz.out]; exact hlt)⟩
   obtain ⟨g0, g1, g2, g3⟩ := (hL.out.on HBw.out).2 j t ht
   have cT := fun W h => hV.out j t ht W h
   obtain ⟨tk, tn, tu, ta, tl, tc⟩ := t
   unfold Tm.v at cT
   dsimp only at g0 g1 g2 g3 cT
   clear ht
   have HBa := hid (HBw.out.alloc HBw.out.size (.cells #[.int .i64 tk, .int .i64 tn, .string tu, .slice ta tl tc] 50))
   have HBb := hid (hbw.out.alloc (by omega) (.cells #[.int .i64 tk, .int .i64 tn, .string tu, .slice ta tl tc] 50))
   have p1 := fun o => (q1.alloc o).cell
   replace q0 := hid q0
   replace q1 := hid q1
   replace q2 := hid q2
   replace cT := hid cT
   obtain ⟨a, cp, rfl⟩ := row_form hrow.out
   go_upto_region 8 with (go_at_call 38; (with_reducible refine (cT.out _ HBa.out).mono ?_); rintro e W2 ⟨⟨c, N, x, rfl, hN0, hN1⟩, hb2⟩; have hrow2 := hid (row_on (hrow.out.alloc _) hb2); have HB2 := hid (HBb.out.trans (hb2.mono (by have := HBb.out.size; simp; omega))); have HC2 := hid (tb HBa hb2); have hz2 := hb2.size; rw [World.size_alloc] at hz2; have q3 := (q2.out.alloc (.cells #[.int .i64 tk, .int .i64 tn, .string tu, .slice ta tl tc] 50)).below hb2 (by simp; omega); have p3 := q3.cell; have p4 := q3.frozen; have p5 := fun o => (q3.alloc o).cell; have p6 := fun o => (q3.alloc o).frozen; replace q3 := hid q3; clear hb2)
   by_cases hx : x = 0
   ·subst hx
    clear p3 p4 p5 p6
    go_wp2_with (at_builtin; refine wpList_append_own _ rfl _ _ 112 rfl (w.heap.size + 3) 38 i0 _ 2 16 Tryz.underlying112 Hi.out Hz0.out Hz1.out Hz2.out rfl (by decide) _ _ _ rfl ((hrow2.out.alloc _).alloc _) ⟨W2.heap.size + 1, 0, none⟩ 1 1 [.int .i64 c, .int .i64 N] rfl rfl ?c1 ?c2 ?c3 ?c4 ?c5 ?_)
    case c1 => exact (Blk.new (w := W2.alloc (.cells #[.int .i64 c, .int .i64 N] 38)) (t := 38) (cs := #[.int .i64 c, .int .i64 N]) (by simp)).news
    case c2 => simp [Value.oneCell']
    case c3 => unfold maxLen; omega
    case c4 => omega
    case c5 => simp; omega
    intro v' w3 hown3 hgrow3 hnil3
    have hb3 := hid (below_app ((HB2.out.alloc (by omega) _).alloc (by simp; omega) _) hgrow3 ((hrow2.out.alloc _).alloc _) (Nat.le_refl _) (by simp; omega))
    replace hown3 := hid hown3
    clear hgrow3 hnil3
    go_wp2
    go_roundw
    case rel =>
     refine ⟨j + 1, acc ++ [(c, N)], by omega, by rw [List.length_append, hal.out]; rfl, by go_num, ?_, hb3.out, small_snoc hacc.out hN0 hN1⟩
     simpa [flatR_snoc, cal.valF] using hown3.out
    case measure => simp [intOf]; omega
   ·go_wp2_with fail
    have e := (((q3.out.alloc (.cells #[.int .i64 c, .int .i64 N] 38)).put 0 (.int .i64 0)).put 1 (.int .i64 0)).cell
    refine bodyPost_ret (v := .tuple #[.agg #[.int .i64 0, .int .i64 0], .int .i64 x]) (by simp [results, Tryz.results38, go_sem, e]) rfl ⟨⟨_, _, _, rfl, by decide, by decide⟩, ?_⟩
    exact ((HC2.out.alloc HC2.out.size _).setCell (by simp; omega) _).setCell (by simp; omega) _
  ·obtain rfl : j = m := by omega
   obtain ⟨g, cp, rfl, hcp, hgb, hg, hvc⟩ := row_vals hal.out (by have := hl.out; omega) hrow.out
   obtain ⟨va, vb, rfl⟩ : ∃ va vb, acc = [va, vb] := by
    have h := hal.out
    rw [hl.out] at h
    match acc, h with
    | [va, vb], _ => exact ⟨va, vb, rfl⟩
   have l0 : wr.cell? ⟨g, 0, none⟩ = some (.int .i64 va.1) := (hvc 0 va rfl).1
   have l1 : wr.cell? ⟨g, 1, none⟩ = some (.int .i64 va.2) := (hvc 0 va rfl).2
   have l2 : wr.cell? ⟨g, 2, none⟩ = some (.int .i64 vb.1) := (hvc 1 vb rfl).1
   have l3 : wr.cell? ⟨g, 3, none⟩ = some (.int .i64 vb.2) := (hvc 1 vb rfl).2
   have hs0 := hacc.out va (by simp)
   have hs1 := hacc.out vb (by simp)
   have cA := fun W => times_any va.1 va.2 vb.1 vb.2 hs0 hs1 W
   obtain ⟨v1, v2⟩ := va
   obtain ⟨v3, v4⟩ := vb
   dsimp only at l0 l1 l2 l3 cA
   replace cA := hid cA
   clear hvc hs0 hs1
   have p1 := q0.cell
   replace q0 := hid q0
   replace q1 := hid q1
   have q2c := q2.frozen
   have q2d := q2.cell
   replace q2 := hid q2
   have hj2 := hl.out
   have y0 : 0 < j := by omega
   have y1 : (1 : Int) < (j : Int) := by omega
   clear hj2
   have ZG : w.heap.size + 2 <= wr.heap.size := by omega
   go_wp2_with fail
   go_region_held3 (fun w' => (∀ o, w'.cell? ⟨g, o, none⟩ = wr.cell? ⟨g, o, none⟩) /\ Below (w.heap.size + 2) wr w')
    (first | exact G_beg | assumption | exact G_on hb2 (by assumption) hg ZG | exact G_store (G_store (by assumption) (by dsimp only; omega) (by dsimp only; omega)) (by dsimp only; omega) (by dsimp only; omega))
    ((go_at_call 66; (with_reducible refine (cA.out _).mono ?_); rintro e W2 ⟨⟨x, y, z, rfl, hy0, hy1⟩, hb2⟩; have q3 := q2.out.drew.below hb2 (by simp; omega); have p3 := q3.cell; have p4 := q3.frozen; replace q3 := hid q3; have HB2 := hid (HBw.out.drew.trans (hb2.mono (by have := HBw.out.size; simpa using this)))))
   all_goals
    rename_i hHeld
    clear hHeld
    have e := ((q3.out.put 0 (.int .i64 x)).put 1 (.int .i64 y)).cell
    go_wp2
    refine bodyPost_ret (v := .tuple #[.agg #[.int .i64 x, .int .i64 y], .int .i64 z]) (by simp [results, Tryz.results38, go_sem, e]) rfl ⟨⟨_, _, _, rfl, hy0, hy1⟩, ?_⟩
    exact (HB2.out.setCell (by simp; omega) _).setCell (by simp; omega) _
theorem value_divT (k n : Int) (u : ByteArray) (b o cap m : Nat) (L : List Tm) (hk : k = 5) (hm : L.length = m) (hl0 : m = 2) (hm30 : m <= 30) (hcap : m <= cap) (w : World) (hL : TmAt w b o L) (em rem vw vh : Int)
  (hV : ∀ (i : Nat) (t : Tm), L[i]? = some t -> ∀ W, Below w.heap.size w W -> Calls Tryz.prog 38 #[t.v, .agg #[.int .i64 em, .int .i64 rem, .int .i64 vw, .int .i64 vh]] W (VRes W)) :
  Calls Tryz.prog 38 #[.agg #[.int .i64 k, .int .i64 n, .string u, .slice (some ⟨b, o, none⟩) m cap], .agg #[.int .i64 em, .int .i64 rem, .int .i64 vw, .int .i64 vh]] w (VRes w) := by
 obtain ⟨i0, hi, hz0, hz1, hz2⟩ := info_parts infoV
 have Hz0 := hid hz0
 have Hi := hid hi
 have Hz1 := hid hz1
 have Hz2 := hid hz2
 clear hz0 hi hz1 hz2
 have hsz := hid hm
 clear hm
 have k1 : (k == 1) = false := by subst hk; decide
 have k4 : (k == 4) = false := by subst hk; decide
 have k5 : (k == 5) = true := by subst hk; decide
 have hl := hid hl0
 clear hk hl0
 replace hV := hid hV
 replace hL := hid hL
 have HW0 := hid (show Below w.heap.size w (((w.alloc (.cells #[.int .i64 k, .int .i64 n, .string u, .slice (some ⟨b, o, none⟩) m cap] 50)).alloc (.cells #[.int .i64 em, .int .i64 rem, .int .i64 vw, .int .i64 vh] 42)).alloc (.cells #[.int .i64 0, .int .i64 0] 38)) from ((ba w _).alloc (by simp) _).alloc (by simp; omega) _)
 have B0 := hid (show Blk (((w.alloc (.cells #[.int .i64 k, .int .i64 n, .string u, .slice (some ⟨b, o, none⟩) m cap] 50)).alloc (.cells #[.int .i64 em, .int .i64 rem, .int .i64 vw, .int .i64 vh] 42)).alloc (.cells #[.int .i64 0, .int .i64 0] 38)) w.heap.size 50 #[.int .i64 k, .int .i64 n, .string u, .slice (some ⟨b, o, none⟩) m cap] from ((Blk.new rfl).alloc _).alloc _)
 have B1 := hid (show Blk (((w.alloc (.cells #[.int .i64 k, .int .i64 n, .string u, .slice (some ⟨b, o, none⟩) m cap] 50)).alloc (.cells #[.int .i64 em, .int .i64 rem, .int .i64 vw, .int .i64 vh] 42)).alloc (.cells #[.int .i64 0, .int .i64 0] 38)) (w.heap.size + 1) 42 #[.int .i64 em, .int .i64 rem, .int .i64 vw, .int .i64 vh] from (Blk.new (by simp)).alloc _)
 have B2 := hid (show Blk (((w.alloc (.cells #[.int .i64 k, .int .i64 n, .string u, .slice (some ⟨b, o, none⟩) m cap] 50)).alloc (.cells #[.int .i64 em, .int .i64 rem, .int .i64 vw, .int .i64 vh] 42)).alloc (.cells #[.int .i64 0, .int .i64 0] 38)) (w.heap.size + 1 + 1) 38 #[.int .i64 0, .int .i64 0] from Blk.new (by simp))
 have HZ : w.heap.size + 3 <= (((w.alloc (.cells #[.int .i64 k, .int .i64 n, .string u, .slice (some ⟨b, o, none⟩) m cap] 50)).alloc (.cells #[.int .i64 em, .int .i64 rem, .int .i64 vw, .int .i64 vh] 42)).alloc (.cells #[.int .i64 0, .int .i64 0] 38)).heap.size := by simp
 replace HZ := hid HZ
 go_enter Tryz.func38, Tryz.ntmps38
 go_wp2_with fail
 generalize hW0 : ((w.alloc (.cells #[.int .i64 k, .int .i64 n, .string u, .slice (some ⟨b, o, none⟩) m cap] 50)).alloc (.cells #[.int .i64 em, .int .i64 rem, .int .i64 vw, .int .i64 vh] 42)).alloc (.cells #[.int .i64 0, .int .i64 0] 38) = W0 at *
 clear hW0
 go_loopw [6, 23] (fun x i wr => ∃ (j : Nat) (acc : List (Int × Int)), j <= m /\ acc.length = j /\ i = .int .i64 j /\ wr.ownsRow (w.heap.size + 3) 38 2 x j (flatR cal.valF acc) /\ Below (w.heap.size + 3) W0 wr /\ cal.Small acc) (fun _ i _ => m - (intOf i).toNat)
 case atStart => exact ⟨0, [], by omega, rfl, rfl, World.ownsRow_nil _ _ _ _, Below.refl _ _, fun p h => by simp at h⟩
 case round =>
  obtain ⟨j, acc, hj, hal, rfl, hrow, hbw, hacc⟩ := hrel
  have HBw := hid (HW0.out.trans (hbw.mono (by omega)))
  have q0 := B0.out.below hbw (by omega)
  have q1 := B1.out.below hbw (by omega)
  have q2 := B2.out.below hbw (by omega)
  have hzz := Nat.le_trans HZ.out hbw.size
  replace hbw := hid hbw
  replace hrow := hid hrow
  replace hacc := hid hacc
  replace hal := hid hal
  by_cases hlt : j < m
  ·have hlt' : (j : Int) < (m : Int) := by omega
   obtain ⟨t, ht⟩ : ∃ t, L[j]? = some t := ⟨_, List.getElem?_eq_getElem (by rw [hsz.out]; exact hlt)⟩
   obtain ⟨g0, g1, g2, g3⟩ := (hL.out.on HBw.out).2 j t ht
   have cT := fun W h => hV.out j t ht W h
   obtain ⟨tk, tn, tu, ta, tl, tc⟩ := t
   unfold Tm.v at cT
   dsimp only at g0 g1 g2 g3 cT
   clear ht
   have HBa := hid (HBw.out.alloc HBw.out.size (.cells #[.int .i64 tk, .int .i64 tn, .string tu, .slice ta tl tc] 50))
   have HBb := hid (hbw.out.alloc (by omega) (.cells #[.int .i64 tk, .int .i64 tn, .string tu, .slice ta tl tc] 50))
   have p1 := fun o => (q1.alloc o).cell
   replace q0 := hid q0
   replace q1 := hid q1
   replace q2 := hid q2
   replace cT := hid cT
   obtain ⟨a, cp, rfl⟩ := row_form hrow.out
   go_upto_region 8 with (go_at_call 38; (with_reducible refine (cT.out _ HBa.out).mono ?_); rintro e W2 ⟨⟨c, N, x, rfl, hN0, hN1⟩, hb2⟩; have hrow2 := hid (row_on (hrow.out.alloc _) hb2); have HB2 := hid (HBb.out.trans (hb2.mono (by have := HBb.out.size; simp; omega))); have HC2 := hid (tb HBa hb2); have hz2 := hb2.size; rw [World.size_alloc] at hz2; have q3 := (q2.out.alloc (.cells #[.int .i64 tk, .int .i64 tn, .string tu, .slice ta tl tc] 50)).below hb2 (by simp; omega); have p3 := q3.cell; have p4 := q3.frozen; have p5 := fun o => (q3.alloc o).cell; have p6 := fun o => (q3.alloc o).frozen; replace q3 := hid q3; clear hb2)
   by_cases hx : x = 0
   ·subst hx
    clear p3 p4 p5 p6
    go_wp2_with (at_builtin; refine wpList_append_own _ rfl _ _ 112 rfl (w.heap.size + 3) 38 i0 _ 2 16 Tryz.underlying112 Hi.out Hz0.out Hz1.out Hz2.out rfl (by decide) _ _ _ rfl ((hrow2.out.alloc _).alloc _) ⟨W2.heap.size + 1, 0, none⟩ 1 1 [.int .i64 c, .int .i64 N] rfl rfl ?c1 ?c2 ?c3 ?c4 ?c5 ?_)
    case c1 => exact (Blk.new (w := W2.alloc (.cells #[.int .i64 c, .int .i64 N] 38)) (t := 38) (cs := #[.int .i64 c, .int .i64 N]) (by simp)).news
    case c2 => simp [Value.oneCell']
    case c3 => unfold maxLen; omega
    case c4 => omega
    case c5 => simp; omega
    intro v' w3 hown3 hgrow3 hnil3
    have hb3 := hid (below_app ((HB2.out.alloc (by omega) _).alloc (by simp; omega) _) hgrow3 ((hrow2.out.alloc _).alloc _) (Nat.le_refl _) (by simp; omega))
    replace hown3 := hid hown3
    clear hgrow3 hnil3
    go_wp2
    go_roundw
    case rel =>
     refine ⟨j + 1, acc ++ [(c, N)], by omega, by rw [List.length_append, hal.out]; rfl, by go_num, ?_, hb3.out, small_snoc hacc.out hN0 hN1⟩
     simpa [flatR_snoc, cal.valF] using hown3.out
    case measure => simp [intOf]; omega
   ·go_wp2_with fail
    have e := (((q3.out.alloc (.cells #[.int .i64 c, .int .i64 N] 38)).put 0 (.int .i64 0)).put 1 (.int .i64 0)).cell
    refine bodyPost_ret (v := .tuple #[.agg #[.int .i64 0, .int .i64 0], .int .i64 x]) (by simp [results, Tryz.results38, go_sem, e]) rfl ⟨⟨_, _, _, rfl, by decide, by decide⟩, ?_⟩
    exact ((HC2.out.alloc HC2.out.size _).setCell (by simp; omega) _).setCell (by simp; omega) _
  ·obtain rfl : j = m := by omega
   obtain ⟨g, cp, rfl, hcp, hgb, hg, hvc⟩ := row_vals hal.out (by have := hl.out; omega) hrow.out
   obtain ⟨va, vb, rfl⟩ : ∃ va vb, acc = [va, vb] := by
    have h := hal.out
    rw [hl.out] at h
    match acc, h with
    | [va, vb], _ => exact ⟨va, vb, rfl⟩
   have l0 : wr.cell? ⟨g, 0, none⟩ = some (.int .i64 va.1) := (hvc 0 va rfl).1
   have l1 : wr.cell? ⟨g, 1, none⟩ = some (.int .i64 va.2) := (hvc 0 va rfl).2
   have l2 : wr.cell? ⟨g, 2, none⟩ = some (.int .i64 vb.1) := (hvc 1 vb rfl).1
   have l3 : wr.cell? ⟨g, 3, none⟩ = some (.int .i64 vb.2) := (hvc 1 vb rfl).2
   have hs0 := hacc.out va (by simp)
   have hs1 := hacc.out vb (by simp)
   have cA := fun W => divided_any va.1 va.2 vb.1 vb.2 hs0 hs1 W
   obtain ⟨v1, v2⟩ := va
   obtain ⟨v3, v4⟩ := vb
   dsimp only at l0 l1 l2 l3 cA
   replace cA := hid cA
   clear hvc hs0 hs1
   have p1 := q0.cell
   replace q0 := hid q0
   replace q1 := hid q1
   have q2c := q2.frozen
   have q2d := q2.cell
   replace q2 := hid q2
   have hj2 := hl.out
   have y0 : 0 < j := by omega
   have y1 : (1 : Int) < (j : Int) := by omega
   clear hj2
   have ZG : w.heap.size + 2 <= wr.heap.size := by omega
   go_wp2_with fail
   go_region_held3 (fun w' => (∀ o, w'.cell? ⟨g, o, none⟩ = wr.cell? ⟨g, o, none⟩) /\ Below (w.heap.size + 2) wr w')
    (first | exact G_beg | assumption | exact G_on hb2 (by assumption) hg ZG | exact G_store (G_store (by assumption) (by dsimp only; omega) (by dsimp only; omega)) (by dsimp only; omega) (by dsimp only; omega))
    ((go_at_call 67; (with_reducible refine (cA.out _).mono ?_); rintro e W2 ⟨⟨x, y, z, rfl, hy0, hy1⟩, hb2⟩; have q3 := q2.out.drew.below hb2 (by simp; omega); have p3 := q3.cell; have p4 := q3.frozen; replace q3 := hid q3; have HB2 := hid (HBw.out.drew.trans (hb2.mono (by have := HBw.out.size; simpa using this)))))
   all_goals
    rename_i hHeld
    clear hHeld
    have e := ((q3.out.put 0 (.int .i64 x)).put 1 (.int .i64 y)).cell
    go_wp2
    refine bodyPost_ret (v := .tuple #[.agg #[.int .i64 x, .int .i64 y], .int .i64 z]) (by simp [results, Tryz.results38, go_sem, e]) rfl ⟨⟨_, _, _, rfl, hy0, hy1⟩, ?_⟩
    exact (HB2.out.setCell (by simp; omega) _).setCell (by simp; omega) _
end clb
namespace clb
open Go.RowKit base tok dim rul cal
theorem unit_is {u : Bs} (h : u ∈ unitsL) : isUnit (bs u) := by
 have : u = [] ∨ u = [112, 120] ∨ u = [101, 109] ∨ u = [114, 101, 109] ∨ u = [118, 119] ∨ u = [118, 104] ∨ u = [37] := by
  simpa [unitsL] using h
 unfold isUnit
 rcases this with rfl | rfl | rfl | rfl | rfl | rfl | rfl
 ·exact .inl rfl
 ·exact .inr (.inl rfl)
 ·exact .inr (.inr (.inl rfl))
 ·exact .inr (.inr (.inr (.inl rfl)))
 ·exact .inr (.inr (.inr (.inr (.inl rfl))))
 ·exact .inr (.inr (.inr (.inr (.inr (.inl rfl)))))
 ·exact .inr (.inr (.inr (.inr (.inr (.inr rfl)))))
theorem res_v {r : Option (Int × Int)} (h : ∀ p, r = some p -> -16777216 <= p.2 /\ p.2 <= 16777216) {w : World} {e : Ending} {w' : World} (he : e = .returned (resV r)) (hb : Below w.heap.size w w') : VRes w e w' := by
 cases r with
 | none => exact ⟨⟨0, 0, 1, he, by decide, by decide⟩, hb⟩
 | some p => exact ⟨⟨p.1, p.2, 0, he, h p rfl⟩, hb⟩
def ValueT (t : Te) : Prop := ∀ (X : Nat -> Prop) (em rem vw vh : Int) (w : World) (v : Value), TeAt X w t v -> Calls Tryz.prog 38 #[v, .agg #[.int .i64 em, .int .i64 rem, .int .i64 vw, .int .i64 vh]] w (VRes w)
mutual
theorem value_any : ∀ t : Te, Wf t -> t.size <= 30 -> ValueT t
 | .num n u => fun h _ X em rem vw vh w v ht => by
  rw [TeAt] at ht
  rw [Wf] at h
  rw [ht]
  exact (value_leaf n (by omega) (by omega) (bs u) (unit_is h.2.2) ⟨em, rem, vw, vh⟩ w).mono fun e w' ⟨he, hb⟩ => res_v (fun p hp => numP_bd hp) he hb
 | .op k l => fun h_ hs X em rem vw vh w v ht => by
  rw [size_op] at hs
  obtain ⟨hk, hl0, hwl, hsh⟩ := wf_kind h_
  have hall := values_any l hwl (by omega)
  rw [Wf] at h_
  rw [TeAt] at ht
  obtain ⟨c, o, cap, rfl, hcap, hX, hc, hts⟩ := ht
  obtain ⟨L, hL, hcells⟩ := tes_tms hts
  have hcnt := few_sz l
  have hm : 0 < l.length := List.length_pos_iff.2 hl0
  have hV : ∀ (i : Nat) (t : Tm), L[i]? = some t -> ∀ W, Below w.heap.size w W -> Calls Tryz.prog 38 #[t.v, .agg #[.int .i64 em, .int .i64 rem, .int .i64 vw, .int .i64 vh]] W (VRes W) := fun i t hi W hW => by
   obtain ⟨te, hte, hat⟩ := (hcells i t hi).2
   exact hall te (List.mem_of_getElem? hte) X em rem vw vh W t.v (hat.on hW)
  have hT : TmAt w c o L := ⟨hc, fun i t hi => (hcells i t hi).1⟩
  have h2 := h_.1
  by_cases h4 : k = 4
  ·exact value_mulT k 0 ⟨#[]⟩ c o cap l.length L h4 hL (by omega) (by omega) hcap w hT em rem vw vh hV
  ·by_cases h5 : k = 5
   ·exact value_divT k 0 ⟨#[]⟩ c o cap l.length L h5 hL (by omega) (by omega) hcap w hT em rem vw vh hV
   ·exact value_alk k 0 ⟨#[]⟩ c o cap l.length L (by omega) hL (by omega) (by omega) hcap w hT em rem vw vh hV
theorem values_any : ∀ l : List Te, Wfs l -> sizes l <= 30 -> ∀ t ∈ l, ValueT t
 | [] => fun _ _ t ht => absurd ht List.not_mem_nil
 | a :: l => fun h hs t ht => by
  rw [Wfs] at h
  rw [sizes_cons] at hs
  rcases List.mem_cons.1 ht with e | e
  ·rw [e]; exact value_any a h.1 (by omega)
  ·exact values_any l h.2 (by omega) t e
end
theorem Value_any (t : Te) (hw : Wf t) (hs : t.size <= 30) (X : Nat -> Prop) (em rem vw vh : Int) (w : World) (v : Value) (ht : TeAt X w t v) :
  Calls Tryz.prog 12 #[v, .agg #[.int .i64 em, .int .i64 rem, .int .i64 vw, .int .i64 vh]] w (VRes w) := by
 obtain ⟨k, n, u, a, l, cc, rfl⟩ := ht.four
 have cC := hid (fun W (hW : Below w.heap.size w W) => count_any t hw hs X W _ (ht.on hW))
 have cV := hid (fun W (hW : Below w.heap.size w W) => value_any t hw hs X em rem vw vh W _ (ht.on hW))
 generalize t.size = q at *
 clear ht
 have HB0 := hid (show Below w.heap.size w (((w.alloc (.cells #[.int .i64 k, .int .i64 n, .string u, .slice a l cc] 50)).alloc (.cells #[.int .i64 em, .int .i64 rem, .int .i64 vw, .int .i64 vh] 42)).alloc (.cells #[.int .i64 0, .int .i64 0] 38)) from ((ba _ _).alloc (by simp) _).alloc (by simp; omega) _)
 have B0 := hid (show Blk (((w.alloc (.cells #[.int .i64 k, .int .i64 n, .string u, .slice a l cc] 50)).alloc (.cells #[.int .i64 em, .int .i64 rem, .int .i64 vw, .int .i64 vh] 42)).alloc (.cells #[.int .i64 0, .int .i64 0] 38)) w.heap.size 50 #[.int .i64 k, .int .i64 n, .string u, .slice a l cc] from ((Blk.new rfl).alloc _).alloc _)
 have B1 := hid (show Blk (((w.alloc (.cells #[.int .i64 k, .int .i64 n, .string u, .slice a l cc] 50)).alloc (.cells #[.int .i64 em, .int .i64 rem, .int .i64 vw, .int .i64 vh] 42)).alloc (.cells #[.int .i64 0, .int .i64 0] 38)) (w.heap.size + 1) 42 #[.int .i64 em, .int .i64 rem, .int .i64 vw, .int .i64 vh] from (Blk.new (by simp)).alloc _)
 have B2 := hid (show Blk (((w.alloc (.cells #[.int .i64 k, .int .i64 n, .string u, .slice a l cc] 50)).alloc (.cells #[.int .i64 em, .int .i64 rem, .int .i64 vw, .int .i64 vh] 42)).alloc (.cells #[.int .i64 0, .int .i64 0] 38)) (w.heap.size + 1 + 1) 38 #[.int .i64 0, .int .i64 0] from Blk.new (by simp))
 go_enter Tryz.func12, Tryz.ntmps12
 go_wp2_with (first
  | (go_at_call 37; (with_reducible refine (cC.out _ HB0.out).mono ?_); rintro e W1 ⟨rfl, hb1⟩; have HB1 := hid (HB0.out.trans (hb1.mono (by simp <;> omega))); have q0 := B0.out.below hb1 (by simp <;> omega); have q1 := B1.out.below hb1 (by simp <;> omega); have q2 := hid (B2.out.below hb1 (by simp)); have p0 := q0.cell; have p1 := q1.cell; clear hb1)
  | (go_at_call 38; (with_reducible refine (cV.out _ HB1.out).mono ?_); rintro e W2 ⟨⟨x, y, z, rfl, hy0, hy1⟩, hb2⟩; have HB2 := hid (tb HB1 hb2); have q3 := q2.out.below hb2 q2.out.lt; have p2 := q3.cell; have p3 := q3.frozen; clear hb2))
 have e := ((q3.put 0 (.int .i64 x)).put 1 (.int .i64 y)).cell
 refine bodyPost_ret (v := .tuple #[.agg #[.int .i64 x, .int .i64 y], .int .i64 z]) (by simp [results, Tryz.results12, go_sem, e]) rfl ⟨⟨_, _, _, rfl, hy0, hy1⟩, ?_⟩
 exact (HB2.out.setCell (by simp; omega) _).setCell (by simp; omega) _
end clb
end Go.Proofs.YtlfkkaofgcongaaGreatDoor
