/- Mix: what is mixed of two values. -/
import Derived.Test.YtchmpdibbklpfaaAnim3
namespace Go.Proofs.Ytchmpdibbklpfaa.anim
open Go.RowKit Go.Proofs.Ytchmpdibbklpfaa.base
set_option linter.unusedVariables false

theorem byte_of (n d : Int) (d0 : 0 < d) : ∃ y, byteI n d = y ∧ wrap64 (bits BinOp.and IntKind.u32 (n % 4294967296 / d) 255) = y ∧ 0 ≤ y ∧ y ≤ 255 := by
  refine ⟨_, rfl, ?_, byteI_range n d⟩
  have h1 : 0 ≤ n % 4294967296 / d := Int.ediv_nonneg (by omega) (by omega)
  have h2 : n % 4294967296 / d ≤ n % 4294967296 := Int.ediv_le_self _ (by omega)
  exact and_byte _ h1 (by omega)

/-- one part more -/
theorem part_of (a b t x : Int) (a0 : 0 ≤ a) (a1 : a ≤ 255) (b0 : 0 ≤ b) (b1 : b ≤ 255) (t0 : 0 ≤ t) (t1 : t ≤ 1000) (x0 : 0 ≤ x) (x1 : x ≤ 16777215) :
    ∃ y, x * 256 + partI a b t = y ∧ bits BinOp.or IntKind.i64 (x * 256) (partI a b t) = y ∧ x * 256 ≤ y ∧ y ≤ x * 256 + 255 := by
  have h := partI_range a0 a1 b0 b1 t0 t1
  exact ⟨_, rfl, or_byte x _ x0 x1 h.1 h.2, by omega, by omega⟩

set_option maxRecDepth 100000 in
set_option maxHeartbeats 4000000 in
theorem mixA_lo (k na nb t : Int) (w : World) (ht : t < 0) (hk : inB k 2 4 = true) :
    Calls Try.prog 17 #[.agg #[.int .i64 k, .int .i64 na], .agg #[.int .i64 k, .int .i64 nb], .int .i64 t] w fun e w' => e = .returned (.agg #[.int .i64 k, .int .i64 (partI (cutI na) (cutI nb) 0)]) ∧ Below w.heap.size w w' := by
  have ca : -16777216 ≤ cutI na ∧ cutI na ≤ 16777216 := by unfold cutI; omega
  have cb : -16777216 ≤ cutI nb ∧ cutI nb ≤ 16777216 := by unfold cutI; omega
  have Hk := Lib.hid hk
  clear hk
  go_enter Try.func17, Try.ntmps17
  go_wp2_with fail
  refine (in_ct _ _ _ _).mono ?_
  rintro e W1 ⟨rfl, rfl⟩
  rw [Hk.out]
  go_wp2_with fail
  generalize hW0 : ((w.alloc (.cells #[.int .i64 k, .int .i64 na] 39)).alloc (.cells #[.int .i64 k, .int .i64 nb] 39)).alloc (.cells #[.int .i64 0, .int .i64 0] 39) = W0
  have HB := Lib.hid (show Below w.heap.size w W0 by subst hW0; exact (((Below.refl _ _).alloc (Nat.le_refl _) _).alloc (by simp) _).alloc (by simp; omega) _)
  have HZ : w.heap.size + 2 ≤ W0.heap.size := by subst hW0; simp
  have a0 := (show Blk W0 w.heap.size 39 #[.int .i64 k, .int .i64 na] by subst hW0; exact ((Blk.new rfl).alloc _).alloc _).cell
  have b0 := (show Blk W0 (w.heap.size + 1) 39 #[.int .i64 k, .int .i64 nb] by subst hW0; exact (Blk.new (by simp)).alloc _).cell
  have rb := Lib.hid (show Blk W0 (w.heap.size + 1 + 1) 39 #[.int .i64 0, .int .i64 0] by subst hW0; exact Blk.new (by simp))
  have r0 := rb.out.cell
  have z0 := rb.out.frozen
  clear hW0
  go_region_held3 (fun w' => (∀ b o, b < w.heap.size + 2 → w'.cell? ⟨b, o, none⟩ = W0.cell? ⟨b, o, none⟩) ∧ Below (w.heap.size + 2) W0 w')
    (first | exact As.beg | assumption | exact As.drew (As.store (As.store As.beg0 (Nat.le_refl _)) (Nat.le_refl _)))
    (first
      | (go_at_call 27; refine (cut_ct _ _).mono ?_; rintro e w3 ⟨rfl, rfl⟩)
      | (go_at_call 26; refine (part_ct _ _ _ _ (by omega) (by omega) (by omega) (by omega) (by omega) (by omega)).mono ?_; rintro e w3 ⟨rfl, rfl⟩))
  go_wp2
  have e := (((rb.out.put 0 (.int .i64 k)).put 1 (.int .i64 (partI (cutI na) (cutI nb) 0))).drew).cell
  refine bodyPost_ret (v := .agg #[.int .i64 k, .int .i64 (partI (cutI na) (cutI nb) 0)]) (by simp [results, Try.results17, go_sem, e]) rfl ⟨rfl, ?_⟩
  exact ((HB.out.setCell (by simp; omega) _).setCell (by simp; omega) _).drew

set_option maxRecDepth 100000 in
set_option maxHeartbeats 4000000 in
theorem mixA_hi (k na nb t : Int) (w : World) (ht : 1000 < t) (hk : inB k 2 4 = true) :
    Calls Try.prog 17 #[.agg #[.int .i64 k, .int .i64 na], .agg #[.int .i64 k, .int .i64 nb], .int .i64 t] w fun e w' => e = .returned (.agg #[.int .i64 k, .int .i64 (partI (cutI na) (cutI nb) 1000)]) ∧ Below w.heap.size w w' := by
  have ca : -16777216 ≤ cutI na ∧ cutI na ≤ 16777216 := by unfold cutI; omega
  have cb : -16777216 ≤ cutI nb ∧ cutI nb ≤ 16777216 := by unfold cutI; omega
  have Hk := Lib.hid hk
  clear hk
  go_enter Try.func17, Try.ntmps17
  go_wp2_with fail
  refine (in_ct _ _ _ _).mono ?_
  rintro e W1 ⟨rfl, rfl⟩
  rw [Hk.out]
  go_wp2_with fail
  generalize hW0 : ((w.alloc (.cells #[.int .i64 k, .int .i64 na] 39)).alloc (.cells #[.int .i64 k, .int .i64 nb] 39)).alloc (.cells #[.int .i64 0, .int .i64 0] 39) = W0
  have HB := Lib.hid (show Below w.heap.size w W0 by subst hW0; exact (((Below.refl _ _).alloc (Nat.le_refl _) _).alloc (by simp) _).alloc (by simp; omega) _)
  have HZ : w.heap.size + 2 ≤ W0.heap.size := by subst hW0; simp
  have a0 := (show Blk W0 w.heap.size 39 #[.int .i64 k, .int .i64 na] by subst hW0; exact ((Blk.new rfl).alloc _).alloc _).cell
  have b0 := (show Blk W0 (w.heap.size + 1) 39 #[.int .i64 k, .int .i64 nb] by subst hW0; exact (Blk.new (by simp)).alloc _).cell
  have rb := Lib.hid (show Blk W0 (w.heap.size + 1 + 1) 39 #[.int .i64 0, .int .i64 0] by subst hW0; exact Blk.new (by simp))
  have r0 := rb.out.cell
  have z0 := rb.out.frozen
  clear hW0
  go_region_held3 (fun w' => (∀ b o, b < w.heap.size + 2 → w'.cell? ⟨b, o, none⟩ = W0.cell? ⟨b, o, none⟩) ∧ Below (w.heap.size + 2) W0 w')
    (first | exact As.beg | assumption | exact As.drew (As.store (As.store As.beg0 (Nat.le_refl _)) (Nat.le_refl _)))
    (first
      | (go_at_call 27; refine (cut_ct _ _).mono ?_; rintro e w3 ⟨rfl, rfl⟩)
      | (go_at_call 26; refine (part_ct _ _ _ _ (by omega) (by omega) (by omega) (by omega) (by omega) (by omega)).mono ?_; rintro e w3 ⟨rfl, rfl⟩))
  go_wp2
  have e := (((rb.out.put 0 (.int .i64 k)).put 1 (.int .i64 (partI (cutI na) (cutI nb) 1000))).drew).cell
  refine bodyPost_ret (v := .agg #[.int .i64 k, .int .i64 (partI (cutI na) (cutI nb) 1000)]) (by simp [results, Try.results17, go_sem, e]) rfl ⟨rfl, ?_⟩
  exact ((HB.out.setCell (by simp; omega) _).setCell (by simp; omega) _).drew

set_option maxRecDepth 100000 in
set_option maxHeartbeats 4000000 in
theorem mixA_mid (k na nb t : Int) (w : World) (t0 : 0 ≤ t) (t1 : t ≤ 1000) (hk : inB k 2 4 = true) :
    Calls Try.prog 17 #[.agg #[.int .i64 k, .int .i64 na], .agg #[.int .i64 k, .int .i64 nb], .int .i64 t] w fun e w' => e = .returned (.agg #[.int .i64 k, .int .i64 (partI (cutI na) (cutI nb) t)]) ∧ Below w.heap.size w w' := by
  have ca : -16777216 ≤ cutI na ∧ cutI na ≤ 16777216 := by unfold cutI; omega
  have cb : -16777216 ≤ cutI nb ∧ cutI nb ≤ 16777216 := by unfold cutI; omega
  have Hk := Lib.hid hk
  clear hk
  go_enter Try.func17, Try.ntmps17
  go_wp2_with fail
  refine (in_ct _ _ _ _).mono ?_
  rintro e W1 ⟨rfl, rfl⟩
  rw [Hk.out]
  go_wp2_with fail
  generalize hW0 : ((w.alloc (.cells #[.int .i64 k, .int .i64 na] 39)).alloc (.cells #[.int .i64 k, .int .i64 nb] 39)).alloc (.cells #[.int .i64 0, .int .i64 0] 39) = W0
  have HB := Lib.hid (show Below w.heap.size w W0 by subst hW0; exact (((Below.refl _ _).alloc (Nat.le_refl _) _).alloc (by simp) _).alloc (by simp; omega) _)
  have HZ : w.heap.size + 2 ≤ W0.heap.size := by subst hW0; simp
  have a0 := (show Blk W0 w.heap.size 39 #[.int .i64 k, .int .i64 na] by subst hW0; exact ((Blk.new rfl).alloc _).alloc _).cell
  have b0 := (show Blk W0 (w.heap.size + 1) 39 #[.int .i64 k, .int .i64 nb] by subst hW0; exact (Blk.new (by simp)).alloc _).cell
  have rb := Lib.hid (show Blk W0 (w.heap.size + 1 + 1) 39 #[.int .i64 0, .int .i64 0] by subst hW0; exact Blk.new (by simp))
  have r0 := rb.out.cell
  have z0 := rb.out.frozen
  clear hW0
  go_region_held3 (fun w' => (∀ b o, b < w.heap.size + 2 → w'.cell? ⟨b, o, none⟩ = W0.cell? ⟨b, o, none⟩) ∧ Below (w.heap.size + 2) W0 w')
    (first | exact As.beg | assumption | exact As.drew (As.store (As.store As.beg0 (Nat.le_refl _)) (Nat.le_refl _)))
    (first
      | (go_at_call 27; refine (cut_ct _ _).mono ?_; rintro e w3 ⟨rfl, rfl⟩)
      | (go_at_call 26; refine (part_ct _ _ _ _ (by omega) (by omega) (by omega) (by omega) (by omega) (by omega)).mono ?_; rintro e w3 ⟨rfl, rfl⟩))
  go_wp2
  have e := (((rb.out.put 0 (.int .i64 k)).put 1 (.int .i64 (partI (cutI na) (cutI nb) t))).drew).cell
  refine bodyPost_ret (v := .agg #[.int .i64 k, .int .i64 (partI (cutI na) (cutI nb) t)]) (by simp [results, Try.results17, go_sem, e]) rfl ⟨rfl, ?_⟩
  exact ((HB.out.setCell (by simp; omega) _).setCell (by simp; omega) _).drew

set_option maxRecDepth 100000 in
set_option maxHeartbeats 4000000 in
theorem mixB_lo (na nb t : Int) (w : World) (ht : t < 0) :
    Calls Try.prog 17 #[.agg #[.int .i64 5, .int .i64 na], .agg #[.int .i64 5, .int .i64 nb], .int .i64 t] w fun e w' => e = .returned (.agg #[.int .i64 5, .int .i64 (mixC na nb 0)]) ∧ Below w.heap.size w w' := by
  have e1 : ∀ n : Int, n % 4294967296 / 1 = n % 4294967296 := fun n => by omega
  obtain ⟨a3, ea3, ha3, a30, a31⟩ := byte_of na 16777216 (by decide)
  obtain ⟨a2, ea2, ha2, a20, a21⟩ := byte_of na 65536 (by decide)
  obtain ⟨a1, ea1, ha1, a10, a11⟩ := byte_of na 256 (by decide)
  obtain ⟨a0, ea0, ha0, a00, a01⟩ := byte_of na 1 (by decide)
  obtain ⟨b3, eb3, hb3, b30, b31⟩ := byte_of nb 16777216 (by decide)
  obtain ⟨b2, eb2, hb2, b20, b21⟩ := byte_of nb 65536 (by decide)
  obtain ⟨b1, eb1, hb1, b10, b11⟩ := byte_of nb 256 (by decide)
  obtain ⟨b0, eb0, hb0, b00, b01⟩ := byte_of nb 1 (by decide)
  rw [e1] at ha0 hb0
  clear e1
  obtain ⟨n3, f3, g3, l3, u3⟩ := part_of a3 b3 0 0 a30 a31 b30 b31 (by omega) (by omega) (by omega) (by omega)
  obtain ⟨n2, f2, g2, l2, u2⟩ := part_of a2 b2 0 n3 a20 a21 b20 b21 (by omega) (by omega) (by omega) (by omega)
  obtain ⟨n1, f1, g1, l1, u1⟩ := part_of a1 b1 0 n2 a10 a11 b10 b11 (by omega) (by omega) (by omega) (by omega)
  obtain ⟨n0, f0, g0, l0, u0⟩ := part_of a0 b0 0 n1 a00 a01 b00 b01 (by omega) (by omega) (by omega) (by omega)
  have Hf := Lib.hid (show mixC na nb 0 = n0 by unfold mixC; rw [ea3, ea2, ea1, ea0, eb3, eb2, eb1, eb0]; omega)
  clear ea3 ea2 ea1 ea0 eb3 eb2 eb1 eb0 f3 f2 f1 f0
  rw [Int.zero_mul] at g3
  have i5 : inB 5 2 4 = false := by decide
  go_enter Try.func17, Try.ntmps17
  go_wp2_with fail
  refine (in_ct _ _ _ _).mono ?_
  rintro e W1 ⟨rfl, rfl⟩
  rw [i5]
  clear i5
  go_wp2_with fail
  generalize hW0 : ((w.alloc (.cells #[.int .i64 5, .int .i64 na] 39)).alloc (.cells #[.int .i64 5, .int .i64 nb] 39)).alloc (.cells #[.int .i64 0, .int .i64 0] 39) = W0
  have HB := Lib.hid (show Below w.heap.size w W0 by subst hW0; exact (((Below.refl _ _).alloc (Nat.le_refl _) _).alloc (by simp) _).alloc (by simp; omega) _)
  have HZ : w.heap.size + 2 ≤ W0.heap.size := by subst hW0; simp
  have c0 := (show Blk W0 w.heap.size 39 #[.int .i64 5, .int .i64 na] by subst hW0; exact ((Blk.new rfl).alloc _).alloc _).cell
  have d0 := (show Blk W0 (w.heap.size + 1) 39 #[.int .i64 5, .int .i64 nb] by subst hW0; exact (Blk.new (by simp)).alloc _).cell
  have rb := Lib.hid (show Blk W0 (w.heap.size + 1 + 1) 39 #[.int .i64 0, .int .i64 0] by subst hW0; exact Blk.new (by simp))
  have r0 := rb.out.cell
  have z0 := rb.out.frozen
  clear hW0
  refine wp_loop_rounds 5 ?_
  rw [rounds_succ]; go_wp2_with fail
  go_quiet ((go_at_call 26; exact quiet_left (part_ct _ _ _ _ (by omega) (by omega) (by omega) (by omega) (by omega) (by omega))))
  go_wp2_with fail
  rw [rounds_succ]; go_wp2_with fail
  go_quiet ((go_at_call 26; exact quiet_more (part_ct _ _ _ _ (by omega) (by omega) (by omega) (by omega) (by omega) (by omega))))
  go_wp2_with fail
  rw [rounds_succ]; go_wp2_with fail
  go_quiet ((go_at_call 26; exact quiet_more (part_ct _ _ _ _ (by omega) (by omega) (by omega) (by omega) (by omega) (by omega))))
  go_wp2_with fail
  rw [rounds_succ]; go_wp2_with fail
  go_quiet ((go_at_call 26; exact quiet_more (part_ct _ _ _ _ (by omega) (by omega) (by omega) (by omega) (by omega) (by omega))))
  go_wp2_with fail
  rw [rounds_succ]; go_wp2
  have e := fun N => (((rb.out.drewN N).put 0 (.int .i64 5)).put 1 (.int .i64 n0)).cell
  refine bodyPost_ret (v := .agg #[.int .i64 5, .int .i64 n0]) (by simp [results, Try.results17, go_sem, e]) rfl ⟨by rw [Hf.out], ?_⟩
  exact (((below_drewN HB.out _).setCell (by simp; omega) _).setCell (by simp; omega) _)

set_option maxRecDepth 100000 in
set_option maxHeartbeats 4000000 in
theorem mixB_hi (na nb t : Int) (w : World) (ht : 1000 < t) :
    Calls Try.prog 17 #[.agg #[.int .i64 5, .int .i64 na], .agg #[.int .i64 5, .int .i64 nb], .int .i64 t] w fun e w' => e = .returned (.agg #[.int .i64 5, .int .i64 (mixC na nb 1000)]) ∧ Below w.heap.size w w' := by
  have e1 : ∀ n : Int, n % 4294967296 / 1 = n % 4294967296 := fun n => by omega
  obtain ⟨a3, ea3, ha3, a30, a31⟩ := byte_of na 16777216 (by decide)
  obtain ⟨a2, ea2, ha2, a20, a21⟩ := byte_of na 65536 (by decide)
  obtain ⟨a1, ea1, ha1, a10, a11⟩ := byte_of na 256 (by decide)
  obtain ⟨a0, ea0, ha0, a00, a01⟩ := byte_of na 1 (by decide)
  obtain ⟨b3, eb3, hb3, b30, b31⟩ := byte_of nb 16777216 (by decide)
  obtain ⟨b2, eb2, hb2, b20, b21⟩ := byte_of nb 65536 (by decide)
  obtain ⟨b1, eb1, hb1, b10, b11⟩ := byte_of nb 256 (by decide)
  obtain ⟨b0, eb0, hb0, b00, b01⟩ := byte_of nb 1 (by decide)
  rw [e1] at ha0 hb0
  clear e1
  obtain ⟨n3, f3, g3, l3, u3⟩ := part_of a3 b3 1000 0 a30 a31 b30 b31 (by omega) (by omega) (by omega) (by omega)
  obtain ⟨n2, f2, g2, l2, u2⟩ := part_of a2 b2 1000 n3 a20 a21 b20 b21 (by omega) (by omega) (by omega) (by omega)
  obtain ⟨n1, f1, g1, l1, u1⟩ := part_of a1 b1 1000 n2 a10 a11 b10 b11 (by omega) (by omega) (by omega) (by omega)
  obtain ⟨n0, f0, g0, l0, u0⟩ := part_of a0 b0 1000 n1 a00 a01 b00 b01 (by omega) (by omega) (by omega) (by omega)
  have Hf := Lib.hid (show mixC na nb 1000 = n0 by unfold mixC; rw [ea3, ea2, ea1, ea0, eb3, eb2, eb1, eb0]; omega)
  clear ea3 ea2 ea1 ea0 eb3 eb2 eb1 eb0 f3 f2 f1 f0
  rw [Int.zero_mul] at g3
  have i5 : inB 5 2 4 = false := by decide
  go_enter Try.func17, Try.ntmps17
  go_wp2_with fail
  refine (in_ct _ _ _ _).mono ?_
  rintro e W1 ⟨rfl, rfl⟩
  rw [i5]
  clear i5
  go_wp2_with fail
  generalize hW0 : ((w.alloc (.cells #[.int .i64 5, .int .i64 na] 39)).alloc (.cells #[.int .i64 5, .int .i64 nb] 39)).alloc (.cells #[.int .i64 0, .int .i64 0] 39) = W0
  have HB := Lib.hid (show Below w.heap.size w W0 by subst hW0; exact (((Below.refl _ _).alloc (Nat.le_refl _) _).alloc (by simp) _).alloc (by simp; omega) _)
  have HZ : w.heap.size + 2 ≤ W0.heap.size := by subst hW0; simp
  have c0 := (show Blk W0 w.heap.size 39 #[.int .i64 5, .int .i64 na] by subst hW0; exact ((Blk.new rfl).alloc _).alloc _).cell
  have d0 := (show Blk W0 (w.heap.size + 1) 39 #[.int .i64 5, .int .i64 nb] by subst hW0; exact (Blk.new (by simp)).alloc _).cell
  have rb := Lib.hid (show Blk W0 (w.heap.size + 1 + 1) 39 #[.int .i64 0, .int .i64 0] by subst hW0; exact Blk.new (by simp))
  have r0 := rb.out.cell
  have z0 := rb.out.frozen
  clear hW0
  refine wp_loop_rounds 5 ?_
  rw [rounds_succ]; go_wp2_with fail
  go_quiet ((go_at_call 26; exact quiet_left (part_ct _ _ _ _ (by omega) (by omega) (by omega) (by omega) (by omega) (by omega))))
  go_wp2_with fail
  rw [rounds_succ]; go_wp2_with fail
  go_quiet ((go_at_call 26; exact quiet_more (part_ct _ _ _ _ (by omega) (by omega) (by omega) (by omega) (by omega) (by omega))))
  go_wp2_with fail
  rw [rounds_succ]; go_wp2_with fail
  go_quiet ((go_at_call 26; exact quiet_more (part_ct _ _ _ _ (by omega) (by omega) (by omega) (by omega) (by omega) (by omega))))
  go_wp2_with fail
  rw [rounds_succ]; go_wp2_with fail
  go_quiet ((go_at_call 26; exact quiet_more (part_ct _ _ _ _ (by omega) (by omega) (by omega) (by omega) (by omega) (by omega))))
  go_wp2_with fail
  rw [rounds_succ]; go_wp2
  have e := fun N => (((rb.out.drewN N).put 0 (.int .i64 5)).put 1 (.int .i64 n0)).cell
  refine bodyPost_ret (v := .agg #[.int .i64 5, .int .i64 n0]) (by simp [results, Try.results17, go_sem, e]) rfl ⟨by rw [Hf.out], ?_⟩
  exact (((below_drewN HB.out _).setCell (by simp; omega) _).setCell (by simp; omega) _)

set_option maxRecDepth 100000 in
set_option maxHeartbeats 4000000 in
theorem mixB_mid (na nb t : Int) (w : World) (t0 : 0 ≤ t) (t1 : t ≤ 1000) :
    Calls Try.prog 17 #[.agg #[.int .i64 5, .int .i64 na], .agg #[.int .i64 5, .int .i64 nb], .int .i64 t] w fun e w' => e = .returned (.agg #[.int .i64 5, .int .i64 (mixC na nb t)]) ∧ Below w.heap.size w w' := by
  have e1 : ∀ n : Int, n % 4294967296 / 1 = n % 4294967296 := fun n => by omega
  obtain ⟨a3, ea3, ha3, a30, a31⟩ := byte_of na 16777216 (by decide)
  obtain ⟨a2, ea2, ha2, a20, a21⟩ := byte_of na 65536 (by decide)
  obtain ⟨a1, ea1, ha1, a10, a11⟩ := byte_of na 256 (by decide)
  obtain ⟨a0, ea0, ha0, a00, a01⟩ := byte_of na 1 (by decide)
  obtain ⟨b3, eb3, hb3, b30, b31⟩ := byte_of nb 16777216 (by decide)
  obtain ⟨b2, eb2, hb2, b20, b21⟩ := byte_of nb 65536 (by decide)
  obtain ⟨b1, eb1, hb1, b10, b11⟩ := byte_of nb 256 (by decide)
  obtain ⟨b0, eb0, hb0, b00, b01⟩ := byte_of nb 1 (by decide)
  rw [e1] at ha0 hb0
  clear e1
  obtain ⟨n3, f3, g3, l3, u3⟩ := part_of a3 b3 t 0 a30 a31 b30 b31 (by omega) (by omega) (by omega) (by omega)
  obtain ⟨n2, f2, g2, l2, u2⟩ := part_of a2 b2 t n3 a20 a21 b20 b21 (by omega) (by omega) (by omega) (by omega)
  obtain ⟨n1, f1, g1, l1, u1⟩ := part_of a1 b1 t n2 a10 a11 b10 b11 (by omega) (by omega) (by omega) (by omega)
  obtain ⟨n0, f0, g0, l0, u0⟩ := part_of a0 b0 t n1 a00 a01 b00 b01 (by omega) (by omega) (by omega) (by omega)
  have Hf := Lib.hid (show mixC na nb t = n0 by unfold mixC; rw [ea3, ea2, ea1, ea0, eb3, eb2, eb1, eb0]; omega)
  clear ea3 ea2 ea1 ea0 eb3 eb2 eb1 eb0 f3 f2 f1 f0
  rw [Int.zero_mul] at g3
  have i5 : inB 5 2 4 = false := by decide
  go_enter Try.func17, Try.ntmps17
  go_wp2_with fail
  refine (in_ct _ _ _ _).mono ?_
  rintro e W1 ⟨rfl, rfl⟩
  rw [i5]
  clear i5
  go_wp2_with fail
  generalize hW0 : ((w.alloc (.cells #[.int .i64 5, .int .i64 na] 39)).alloc (.cells #[.int .i64 5, .int .i64 nb] 39)).alloc (.cells #[.int .i64 0, .int .i64 0] 39) = W0
  have HB := Lib.hid (show Below w.heap.size w W0 by subst hW0; exact (((Below.refl _ _).alloc (Nat.le_refl _) _).alloc (by simp) _).alloc (by simp; omega) _)
  have HZ : w.heap.size + 2 ≤ W0.heap.size := by subst hW0; simp
  have c0 := (show Blk W0 w.heap.size 39 #[.int .i64 5, .int .i64 na] by subst hW0; exact ((Blk.new rfl).alloc _).alloc _).cell
  have d0 := (show Blk W0 (w.heap.size + 1) 39 #[.int .i64 5, .int .i64 nb] by subst hW0; exact (Blk.new (by simp)).alloc _).cell
  have rb := Lib.hid (show Blk W0 (w.heap.size + 1 + 1) 39 #[.int .i64 0, .int .i64 0] by subst hW0; exact Blk.new (by simp))
  have r0 := rb.out.cell
  have z0 := rb.out.frozen
  clear hW0
  refine wp_loop_rounds 5 ?_
  rw [rounds_succ]; go_wp2_with fail
  go_quiet ((go_at_call 26; exact quiet_left (part_ct _ _ _ _ (by omega) (by omega) (by omega) (by omega) (by omega) (by omega))))
  go_wp2_with fail
  rw [rounds_succ]; go_wp2_with fail
  go_quiet ((go_at_call 26; exact quiet_more (part_ct _ _ _ _ (by omega) (by omega) (by omega) (by omega) (by omega) (by omega))))
  go_wp2_with fail
  rw [rounds_succ]; go_wp2_with fail
  go_quiet ((go_at_call 26; exact quiet_more (part_ct _ _ _ _ (by omega) (by omega) (by omega) (by omega) (by omega) (by omega))))
  go_wp2_with fail
  rw [rounds_succ]; go_wp2_with fail
  go_quiet ((go_at_call 26; exact quiet_more (part_ct _ _ _ _ (by omega) (by omega) (by omega) (by omega) (by omega) (by omega))))
  go_wp2_with fail
  rw [rounds_succ]; go_wp2
  have e := fun N => (((rb.out.drewN N).put 0 (.int .i64 5)).put 1 (.int .i64 n0)).cell
  refine bodyPost_ret (v := .agg #[.int .i64 5, .int .i64 n0]) (by simp [results, Try.results17, go_sem, e]) rfl ⟨by rw [Hf.out], ?_⟩
  exact (((below_drewN HB.out _).setCell (by simp; omega) _).setCell (by simp; omega) _)

set_option maxRecDepth 100000 in
set_option maxHeartbeats 4000000 in
theorem mixC_alike_lo_a (k na nb t : Int) (w : World) (hk : inB k 2 4 = false) (k5 : k ≠ 5) (ht : t < 0) :
    Calls Try.prog 17 #[.agg #[.int .i64 k, .int .i64 na], .agg #[.int .i64 k, .int .i64 nb], .int .i64 t] w fun e w' => e = .returned (.agg #[.int .i64 k, .int .i64 na]) ∧ Below w.heap.size w w' := by
  have Hk := Lib.hid hk
  clear hk
  have k5' : (k == 5) = false := by simp [k5]
  go_enter Try.func17, Try.ntmps17
  go_wp2_with fail
  refine (in_ct _ _ _ _).mono ?_
  rintro e W1 ⟨rfl, rfl⟩
  rw [Hk.out]
  go_wp2
  have rb := (show Blk (((w.alloc (.cells #[.int .i64 k, .int .i64 na] 39)).alloc (.cells #[.int .i64 k, .int .i64 nb] 39)).alloc (.cells #[.int .i64 k, .int .i64 na] 39)) (w.heap.size + 1 + 1) 39 #[.int .i64 k, .int .i64 na] from Blk.new (by simp)).cell
  refine bodyPost_ret (v := .agg #[.int .i64 k, .int .i64 na]) (by simp [results, Try.results17, go_sem, rb]) rfl ⟨rfl, ?_⟩
  exact (((Below.refl _ _).alloc (Nat.le_refl _) _).alloc (by simp) _).alloc (by simp; omega) _

set_option maxRecDepth 100000 in
set_option maxHeartbeats 4000000 in
theorem mixC_first5_lo_a (kb na nb t : Int) (w : World) (k5 : kb ≠ 5) (ht : t < 0) :
    Calls Try.prog 17 #[.agg #[.int .i64 5, .int .i64 na], .agg #[.int .i64 kb, .int .i64 nb], .int .i64 t] w fun e w' => e = .returned (.agg #[.int .i64 5, .int .i64 na]) ∧ Below w.heap.size w w' := by
  have k5' : (kb == 5) = false := by simp [k5]
  have k6' : ((5 : Int) == kb) = false := by simp; omega
  go_enter Try.func17, Try.ntmps17
  go_wp2
  have rb := (show Blk (((w.alloc (.cells #[.int .i64 5, .int .i64 na] 39)).alloc (.cells #[.int .i64 kb, .int .i64 nb] 39)).alloc (.cells #[.int .i64 5, .int .i64 na] 39)) (w.heap.size + 1 + 1) 39 #[.int .i64 5, .int .i64 na] from Blk.new (by simp)).cell
  refine bodyPost_ret (v := .agg #[.int .i64 5, .int .i64 na]) (by simp [results, Try.results17, go_sem, rb]) rfl ⟨rfl, ?_⟩
  exact (((Below.refl _ _).alloc (Nat.le_refl _) _).alloc (by simp) _).alloc (by simp; omega) _

set_option maxRecDepth 100000 in
set_option maxHeartbeats 4000000 in
theorem mixC_other_lo_a (ka kb na nb t : Int) (w : World) (hne : ka ≠ kb) (k5 : ka ≠ 5) (ht : t < 0) :
    Calls Try.prog 17 #[.agg #[.int .i64 ka, .int .i64 na], .agg #[.int .i64 kb, .int .i64 nb], .int .i64 t] w fun e w' => e = .returned (.agg #[.int .i64 ka, .int .i64 na]) ∧ Below w.heap.size w w' := by
  have k5' : (ka == 5) = false := by simp [k5]
  have k6' : (ka == kb) = false := by simp [hne]
  go_enter Try.func17, Try.ntmps17
  go_wp2
  have rb := (show Blk (((w.alloc (.cells #[.int .i64 ka, .int .i64 na] 39)).alloc (.cells #[.int .i64 kb, .int .i64 nb] 39)).alloc (.cells #[.int .i64 ka, .int .i64 na] 39)) (w.heap.size + 1 + 1) 39 #[.int .i64 ka, .int .i64 na] from Blk.new (by simp)).cell
  refine bodyPost_ret (v := .agg #[.int .i64 ka, .int .i64 na]) (by simp [results, Try.results17, go_sem, rb]) rfl ⟨rfl, ?_⟩
  exact (((Below.refl _ _).alloc (Nat.le_refl _) _).alloc (by simp) _).alloc (by simp; omega) _

set_option maxRecDepth 100000 in
set_option maxHeartbeats 4000000 in
theorem mixC_alike_hi_b (k na nb t : Int) (w : World) (hk : inB k 2 4 = false) (k5 : k ≠ 5) (ht : 1000 < t) :
    Calls Try.prog 17 #[.agg #[.int .i64 k, .int .i64 na], .agg #[.int .i64 k, .int .i64 nb], .int .i64 t] w fun e w' => e = .returned (.agg #[.int .i64 k, .int .i64 nb]) ∧ Below w.heap.size w w' := by
  have Hk := Lib.hid hk
  clear hk
  have k5' : (k == 5) = false := by simp [k5]
  go_enter Try.func17, Try.ntmps17
  go_wp2_with fail
  refine (in_ct _ _ _ _).mono ?_
  rintro e W1 ⟨rfl, rfl⟩
  rw [Hk.out]
  go_wp2
  have rb := (show Blk (((w.alloc (.cells #[.int .i64 k, .int .i64 na] 39)).alloc (.cells #[.int .i64 k, .int .i64 nb] 39)).alloc (.cells #[.int .i64 k, .int .i64 nb] 39)) (w.heap.size + 1 + 1) 39 #[.int .i64 k, .int .i64 nb] from Blk.new (by simp)).cell
  refine bodyPost_ret (v := .agg #[.int .i64 k, .int .i64 nb]) (by simp [results, Try.results17, go_sem, rb]) rfl ⟨rfl, ?_⟩
  exact (((Below.refl _ _).alloc (Nat.le_refl _) _).alloc (by simp) _).alloc (by simp; omega) _

set_option maxRecDepth 100000 in
set_option maxHeartbeats 4000000 in
theorem mixC_first5_hi_b (kb na nb t : Int) (w : World) (k5 : kb ≠ 5) (ht : 1000 < t) :
    Calls Try.prog 17 #[.agg #[.int .i64 5, .int .i64 na], .agg #[.int .i64 kb, .int .i64 nb], .int .i64 t] w fun e w' => e = .returned (.agg #[.int .i64 kb, .int .i64 nb]) ∧ Below w.heap.size w w' := by
  have k5' : (kb == 5) = false := by simp [k5]
  have k6' : ((5 : Int) == kb) = false := by simp; omega
  go_enter Try.func17, Try.ntmps17
  go_wp2
  have rb := (show Blk (((w.alloc (.cells #[.int .i64 5, .int .i64 na] 39)).alloc (.cells #[.int .i64 kb, .int .i64 nb] 39)).alloc (.cells #[.int .i64 kb, .int .i64 nb] 39)) (w.heap.size + 1 + 1) 39 #[.int .i64 kb, .int .i64 nb] from Blk.new (by simp)).cell
  refine bodyPost_ret (v := .agg #[.int .i64 kb, .int .i64 nb]) (by simp [results, Try.results17, go_sem, rb]) rfl ⟨rfl, ?_⟩
  exact (((Below.refl _ _).alloc (Nat.le_refl _) _).alloc (by simp) _).alloc (by simp; omega) _

set_option maxRecDepth 100000 in
set_option maxHeartbeats 4000000 in
theorem mixC_other_hi_b (ka kb na nb t : Int) (w : World) (hne : ka ≠ kb) (k5 : ka ≠ 5) (ht : 1000 < t) :
    Calls Try.prog 17 #[.agg #[.int .i64 ka, .int .i64 na], .agg #[.int .i64 kb, .int .i64 nb], .int .i64 t] w fun e w' => e = .returned (.agg #[.int .i64 kb, .int .i64 nb]) ∧ Below w.heap.size w w' := by
  have k5' : (ka == 5) = false := by simp [k5]
  have k6' : (ka == kb) = false := by simp [hne]
  go_enter Try.func17, Try.ntmps17
  go_wp2
  have rb := (show Blk (((w.alloc (.cells #[.int .i64 ka, .int .i64 na] 39)).alloc (.cells #[.int .i64 kb, .int .i64 nb] 39)).alloc (.cells #[.int .i64 kb, .int .i64 nb] 39)) (w.heap.size + 1 + 1) 39 #[.int .i64 kb, .int .i64 nb] from Blk.new (by simp)).cell
  refine bodyPost_ret (v := .agg #[.int .i64 kb, .int .i64 nb]) (by simp [results, Try.results17, go_sem, rb]) rfl ⟨rfl, ?_⟩
  exact (((Below.refl _ _).alloc (Nat.le_refl _) _).alloc (by simp) _).alloc (by simp; omega) _

set_option maxRecDepth 100000 in
set_option maxHeartbeats 4000000 in
theorem mixC_alike_mid_a (k na nb t : Int) (w : World) (hk : inB k 2 4 = false) (k5 : k ≠ 5) (t0 : 0 ≤ t) (t1 : t ≤ 1000) (h5 : t < 500) :
    Calls Try.prog 17 #[.agg #[.int .i64 k, .int .i64 na], .agg #[.int .i64 k, .int .i64 nb], .int .i64 t] w fun e w' => e = .returned (.agg #[.int .i64 k, .int .i64 na]) ∧ Below w.heap.size w w' := by
  have Hk := Lib.hid hk
  clear hk
  have k5' : (k == 5) = false := by simp [k5]
  go_enter Try.func17, Try.ntmps17
  go_wp2_with fail
  refine (in_ct _ _ _ _).mono ?_
  rintro e W1 ⟨rfl, rfl⟩
  rw [Hk.out]
  go_wp2
  have rb := (show Blk (((w.alloc (.cells #[.int .i64 k, .int .i64 na] 39)).alloc (.cells #[.int .i64 k, .int .i64 nb] 39)).alloc (.cells #[.int .i64 k, .int .i64 na] 39)) (w.heap.size + 1 + 1) 39 #[.int .i64 k, .int .i64 na] from Blk.new (by simp)).cell
  refine bodyPost_ret (v := .agg #[.int .i64 k, .int .i64 na]) (by simp [results, Try.results17, go_sem, rb]) rfl ⟨rfl, ?_⟩
  exact (((Below.refl _ _).alloc (Nat.le_refl _) _).alloc (by simp) _).alloc (by simp; omega) _

set_option maxRecDepth 100000 in
set_option maxHeartbeats 4000000 in
theorem mixC_alike_mid_b (k na nb t : Int) (w : World) (hk : inB k 2 4 = false) (k5 : k ≠ 5) (t0 : 0 ≤ t) (t1 : t ≤ 1000) (h5 : ¬ t < 500) :
    Calls Try.prog 17 #[.agg #[.int .i64 k, .int .i64 na], .agg #[.int .i64 k, .int .i64 nb], .int .i64 t] w fun e w' => e = .returned (.agg #[.int .i64 k, .int .i64 nb]) ∧ Below w.heap.size w w' := by
  have Hk := Lib.hid hk
  clear hk
  have k5' : (k == 5) = false := by simp [k5]
  go_enter Try.func17, Try.ntmps17
  go_wp2_with fail
  refine (in_ct _ _ _ _).mono ?_
  rintro e W1 ⟨rfl, rfl⟩
  rw [Hk.out]
  go_wp2
  have rb := (show Blk (((w.alloc (.cells #[.int .i64 k, .int .i64 na] 39)).alloc (.cells #[.int .i64 k, .int .i64 nb] 39)).alloc (.cells #[.int .i64 k, .int .i64 nb] 39)) (w.heap.size + 1 + 1) 39 #[.int .i64 k, .int .i64 nb] from Blk.new (by simp)).cell
  refine bodyPost_ret (v := .agg #[.int .i64 k, .int .i64 nb]) (by simp [results, Try.results17, go_sem, rb]) rfl ⟨rfl, ?_⟩
  exact (((Below.refl _ _).alloc (Nat.le_refl _) _).alloc (by simp) _).alloc (by simp; omega) _

set_option maxRecDepth 100000 in
set_option maxHeartbeats 4000000 in
theorem mixC_first5_mid_a (kb na nb t : Int) (w : World) (k5 : kb ≠ 5) (t0 : 0 ≤ t) (t1 : t ≤ 1000) (h5 : t < 500) :
    Calls Try.prog 17 #[.agg #[.int .i64 5, .int .i64 na], .agg #[.int .i64 kb, .int .i64 nb], .int .i64 t] w fun e w' => e = .returned (.agg #[.int .i64 5, .int .i64 na]) ∧ Below w.heap.size w w' := by
  have k5' : (kb == 5) = false := by simp [k5]
  have k6' : ((5 : Int) == kb) = false := by simp; omega
  go_enter Try.func17, Try.ntmps17
  go_wp2
  have rb := (show Blk (((w.alloc (.cells #[.int .i64 5, .int .i64 na] 39)).alloc (.cells #[.int .i64 kb, .int .i64 nb] 39)).alloc (.cells #[.int .i64 5, .int .i64 na] 39)) (w.heap.size + 1 + 1) 39 #[.int .i64 5, .int .i64 na] from Blk.new (by simp)).cell
  refine bodyPost_ret (v := .agg #[.int .i64 5, .int .i64 na]) (by simp [results, Try.results17, go_sem, rb]) rfl ⟨rfl, ?_⟩
  exact (((Below.refl _ _).alloc (Nat.le_refl _) _).alloc (by simp) _).alloc (by simp; omega) _

set_option maxRecDepth 100000 in
set_option maxHeartbeats 4000000 in
theorem mixC_first5_mid_b (kb na nb t : Int) (w : World) (k5 : kb ≠ 5) (t0 : 0 ≤ t) (t1 : t ≤ 1000) (h5 : ¬ t < 500) :
    Calls Try.prog 17 #[.agg #[.int .i64 5, .int .i64 na], .agg #[.int .i64 kb, .int .i64 nb], .int .i64 t] w fun e w' => e = .returned (.agg #[.int .i64 kb, .int .i64 nb]) ∧ Below w.heap.size w w' := by
  have k5' : (kb == 5) = false := by simp [k5]
  have k6' : ((5 : Int) == kb) = false := by simp; omega
  go_enter Try.func17, Try.ntmps17
  go_wp2
  have rb := (show Blk (((w.alloc (.cells #[.int .i64 5, .int .i64 na] 39)).alloc (.cells #[.int .i64 kb, .int .i64 nb] 39)).alloc (.cells #[.int .i64 kb, .int .i64 nb] 39)) (w.heap.size + 1 + 1) 39 #[.int .i64 kb, .int .i64 nb] from Blk.new (by simp)).cell
  refine bodyPost_ret (v := .agg #[.int .i64 kb, .int .i64 nb]) (by simp [results, Try.results17, go_sem, rb]) rfl ⟨rfl, ?_⟩
  exact (((Below.refl _ _).alloc (Nat.le_refl _) _).alloc (by simp) _).alloc (by simp; omega) _

set_option maxRecDepth 100000 in
set_option maxHeartbeats 4000000 in
theorem mixC_other_mid_a (ka kb na nb t : Int) (w : World) (hne : ka ≠ kb) (k5 : ka ≠ 5) (t0 : 0 ≤ t) (t1 : t ≤ 1000) (h5 : t < 500) :
    Calls Try.prog 17 #[.agg #[.int .i64 ka, .int .i64 na], .agg #[.int .i64 kb, .int .i64 nb], .int .i64 t] w fun e w' => e = .returned (.agg #[.int .i64 ka, .int .i64 na]) ∧ Below w.heap.size w w' := by
  have k5' : (ka == 5) = false := by simp [k5]
  have k6' : (ka == kb) = false := by simp [hne]
  go_enter Try.func17, Try.ntmps17
  go_wp2
  have rb := (show Blk (((w.alloc (.cells #[.int .i64 ka, .int .i64 na] 39)).alloc (.cells #[.int .i64 kb, .int .i64 nb] 39)).alloc (.cells #[.int .i64 ka, .int .i64 na] 39)) (w.heap.size + 1 + 1) 39 #[.int .i64 ka, .int .i64 na] from Blk.new (by simp)).cell
  refine bodyPost_ret (v := .agg #[.int .i64 ka, .int .i64 na]) (by simp [results, Try.results17, go_sem, rb]) rfl ⟨rfl, ?_⟩
  exact (((Below.refl _ _).alloc (Nat.le_refl _) _).alloc (by simp) _).alloc (by simp; omega) _

set_option maxRecDepth 100000 in
set_option maxHeartbeats 4000000 in
theorem mixC_other_mid_b (ka kb na nb t : Int) (w : World) (hne : ka ≠ kb) (k5 : ka ≠ 5) (t0 : 0 ≤ t) (t1 : t ≤ 1000) (h5 : ¬ t < 500) :
    Calls Try.prog 17 #[.agg #[.int .i64 ka, .int .i64 na], .agg #[.int .i64 kb, .int .i64 nb], .int .i64 t] w fun e w' => e = .returned (.agg #[.int .i64 kb, .int .i64 nb]) ∧ Below w.heap.size w w' := by
  have k5' : (ka == 5) = false := by simp [k5]
  have k6' : (ka == kb) = false := by simp [hne]
  go_enter Try.func17, Try.ntmps17
  go_wp2
  have rb := (show Blk (((w.alloc (.cells #[.int .i64 ka, .int .i64 na] 39)).alloc (.cells #[.int .i64 kb, .int .i64 nb] 39)).alloc (.cells #[.int .i64 kb, .int .i64 nb] 39)) (w.heap.size + 1 + 1) 39 #[.int .i64 kb, .int .i64 nb] from Blk.new (by simp)).cell
  refine bodyPost_ret (v := .agg #[.int .i64 kb, .int .i64 nb]) (by simp [results, Try.results17, go_sem, rb]) rfl ⟨rfl, ?_⟩
  exact (((Below.refl _ _).alloc (Nat.le_refl _) _).alloc (by simp) _).alloc (by simp; omega) _

theorem mix_ct (ka na kb nb t : Int) (w : World) :
    Calls Try.prog 17 #[.agg #[.int .i64 ka, .int .i64 na], .agg #[.int .i64 kb, .int .i64 nb], .int .i64 t] w fun e w' => e = .returned (.agg #[.int .i64 (mixK ka kb t), .int .i64 (mixN ka na kb nb t)]) ∧ Below w.heap.size w w' := by
  by_cases hA : ka = kb ∧ 2 ≤ ka ∧ ka ≤ 4
  · obtain ⟨rfl, h2, h4⟩ := hA
    have e1 : mixK ka ka t = ka := by simp [mixK, h2, h4]
    have e2 : mixN ka na ka nb t = partI (cutI na) (cutI nb) (clampT t) := by simp [mixN, h2, h4]
    rw [e1, e2]
    have hi : inB ka 2 4 = true := (inB_iff _ _ _).2 ⟨h2, h4⟩
    rcases Int.lt_or_le t 0 with ht | ht
    · rw [show clampT t = 0 by unfold clampT; omega]
      exact mixA_lo ka na nb t w ht hi
    · rcases Int.lt_or_le 1000 t with ht2 | ht2
      · rw [show clampT t = 1000 by unfold clampT; omega]
        exact mixA_hi ka na nb t w ht2 hi
      · rw [show clampT t = t by unfold clampT; omega]
        exact mixA_mid ka na nb t w ht ht2 hi
  · by_cases hB : ka = 5 ∧ kb = 5
    · obtain ⟨rfl, rfl⟩ := hB
      have e1 : mixK 5 5 t = 5 := by simp [mixK]
      have e2 : mixN 5 na 5 nb t = mixC na nb (clampT t) := by simp [mixN]
      rw [e1, e2]
      rcases Int.lt_or_le t 0 with ht | ht
      · rw [show clampT t = 0 by unfold clampT; omega]
        exact mixB_lo na nb t w ht
      · rcases Int.lt_or_le 1000 t with ht2 | ht2
        · rw [show clampT t = 1000 by unfold clampT; omega]
          exact mixB_hi na nb t w ht2
        · rw [show clampT t = t by unfold clampT; omega]
          exact mixB_mid na nb t w ht ht2
    · rw [show mixK ka kb t = if clampT t < 500 then ka else kb by simp only [mixK]; rw [if_neg hA, if_neg hB], show mixN ka na kb nb t = if clampT t < 500 then na else nb by simp only [mixN]; rw [if_neg hA, if_neg hB]]
      by_cases h5 : clampT t < 500
      · rw [if_pos h5, if_pos h5]
        have h5' : t < 500 := by unfold clampT at h5; omega
        by_cases hk : ka = kb
        · subst hk
          have hi : inB ka 2 4 = false := by rw [Bool.eq_false_iff]; intro h; exact hA ⟨rfl, (inB_iff _ _ _).1 h⟩
          have k5 : ka ≠ 5 := fun h => hB ⟨h, h⟩
          rcases Int.lt_or_le t 0 with ht | ht
          · exact mixC_alike_lo_a ka na nb t w hi k5 ht
          · exact mixC_alike_mid_a ka na nb t w hi k5 ht (by omega) h5'
        · by_cases k5 : ka = 5
          · subst k5
            rcases Int.lt_or_le t 0 with ht | ht
            · exact mixC_first5_lo_a kb na nb t w (fun h => hB ⟨rfl, h⟩) ht
            · exact mixC_first5_mid_a kb na nb t w (fun h => hB ⟨rfl, h⟩) ht (by omega) h5'
          · rcases Int.lt_or_le t 0 with ht | ht
            · exact mixC_other_lo_a ka kb na nb t w hk k5 ht
            · exact mixC_other_mid_a ka kb na nb t w hk k5 ht (by omega) h5'
      · rw [if_neg h5, if_neg h5]
        have h5' : ¬ t < 500 := by unfold clampT at h5; omega
        by_cases hk : ka = kb
        · subst hk
          have hi : inB ka 2 4 = false := by rw [Bool.eq_false_iff]; intro h; exact hA ⟨rfl, (inB_iff _ _ _).1 h⟩
          have k5 : ka ≠ 5 := fun h => hB ⟨h, h⟩
          rcases Int.lt_or_le 1000 t with ht | ht
          · exact mixC_alike_hi_b ka na nb t w hi k5 ht
          · exact mixC_alike_mid_b ka na nb t w hi k5 (by omega) ht h5'
        · by_cases k5 : ka = 5
          · subst k5
            rcases Int.lt_or_le 1000 t with ht | ht
            · exact mixC_first5_hi_b kb na nb t w (fun h => hB ⟨rfl, h⟩) ht
            · exact mixC_first5_mid_b kb na nb t w (fun h => hB ⟨rfl, h⟩) (by omega) ht h5'
          · rcases Int.lt_or_le 1000 t with ht | ht
            · exact mixC_other_hi_b ka kb na nb t w hk k5 ht
            · exact mixC_other_mid_b ka kb na nb t w hk k5 (by omega) ht h5'

end Go.Proofs.Ytchmpdibbklpfaa.anim
