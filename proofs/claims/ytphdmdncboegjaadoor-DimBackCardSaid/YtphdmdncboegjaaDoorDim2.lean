/- Contracts: dim.Px of each unit that a law names. -/
import Derived.Test.YtphdmdncboegjaaDoorDim1
namespace Go.Proofs.YtphdmdncboegjaaDoor.dim
open Go.RowKit Go.Proofs.YtphdmdncboegjaaDoor.base Go.Proofs.YtphdmdncboegjaaDoor.tok
set_option linter.unusedVariables false

def inB (n lo hi : Int) : Bool := decide (lo ≤ n) && decide (n ≤ hi)
/-- all in their bounds -/
def okP (n em rem vw vh : Int) : Bool := inB n (-1000000000) 1000000000 && inB em 0 16777216 && inB rem 0 16777216 && inB vw 1 4000 && inB vh 1 4000
def clipI (x : Int) : Int := min (max x (-16777216)) 16777216

theorem inB_iff (n lo hi : Int) : inB n lo hi = true ↔ lo ≤ n ∧ n ≤ hi := by simp [inB]
theorem mulb {x y X Y : Int} (h0 : -X ≤ x) (h1 : x ≤ X) (k0 : 0 ≤ y) (k1 : y ≤ Y) : -(X * Y) ≤ x * y ∧ x * y ≤ X * Y := by
  have hX : 0 ≤ X := by omega
  have a := Int.mul_le_mul_of_nonneg_right h1 k0
  have b := Int.mul_le_mul_of_nonneg_left k1 hX
  have c := Int.mul_le_mul_of_nonneg_right h0 k0
  rw [Int.neg_mul] at c
  omega

theorem in_b (n lo hi : Int) (w : World) :
    Calls Tryd.prog 37 #[.int .i64 n, .int .i64 lo, .int .i64 hi] w fun e w' => e = .returned (.bool (inB n lo hi)) ∧ w' = w := in_ct n lo hi w

/-- what is not in its bounds -/
def refusedT : Value := .tuple #[.int .i64 0, .int .i64 1]

theorem okP_of {n em rem vw vh : Int} (h : okP n em rem vw vh = true) : inB n (-1000000000) 1000000000 = true ∧ inB em 0 16777216 = true ∧ inB rem 0 16777216 = true ∧ inB vw 1 4000 = true ∧ inB vh 1 4000 = true := by
  simp only [okP, Bool.and_eq_true] at h
  exact ⟨h.1.1.1.1, h.1.1.1.2, h.1.1.2, h.1.2, h.2⟩
theorem okP_not {n em rem vw vh : Int} (h : okP n em rem vw vh = false) : inB n (-1000000000) 1000000000 = false ∨ (inB n (-1000000000) 1000000000 = true ∧ inB em 0 16777216 = false) ∨ (inB n (-1000000000) 1000000000 = true ∧ inB em 0 16777216 = true ∧ inB rem 0 16777216 = false) ∨
    (inB n (-1000000000) 1000000000 = true ∧ inB em 0 16777216 = true ∧ inB rem 0 16777216 = true ∧ inB vw 1 4000 = false) ∨ (inB n (-1000000000) 1000000000 = true ∧ inB em 0 16777216 = true ∧ inB rem 0 16777216 = true ∧ inB vw 1 4000 = true ∧ inB vh 1 4000 = false) := by
  unfold okP at h
  cases h1 : inB n (-1000000000) 1000000000 <;> cases h2 : inB em 0 16777216 <;> cases h3 : inB rem 0 16777216 <;> cases h4 : inB vw 1 4000 <;> cases h5 : inB vh 1 4000 <;> simp_all

set_option maxRecDepth 100000 in
set_option maxHeartbeats 4000000 in
theorem px_bad (u : ByteArray) (n em rem vw vh : Int) (h : okP n em rem vw vh = false) (w : World) :
    Calls Tryd.prog 21 #[.agg #[.int .i64 n, .string u], .agg #[.int .i64 em, .int .i64 rem, .int .i64 vw, .int .i64 vh]] w fun e w' =>
      e = .returned refusedT ∧ Below w.heap.size w w' := by
  rcases okP_not h with h1 | ⟨h1, h2⟩ | ⟨h1, h2, h3⟩ | ⟨h1, h2, h3, h4⟩ | ⟨h1, h2, h3, h4, h5⟩
  · clear h
    go_enter Tryd.func21, Tryd.ntmps21
    go_wp2_with ((go_at_call 37; (with_reducible refine (in_b _ _ _ _).mono ?_); rintro e W1 ⟨rfl, rfl⟩))
    refine bodyPost_ret (v := refusedT) (by simp [results, Tryd.results21, go_sem, refusedT]) rfl ⟨rfl, ?_⟩
    exact ((Below.refl w.heap.size w).alloc (Nat.le_refl _) _).alloc (by simp) _
  · clear h
    go_enter Tryd.func21, Tryd.ntmps21
    go_wp2_with ((go_at_call 37; (with_reducible refine (in_b _ _ _ _).mono ?_); rintro e W1 ⟨rfl, rfl⟩))
    refine bodyPost_ret (v := refusedT) (by simp [results, Tryd.results21, go_sem, refusedT]) rfl ⟨rfl, ?_⟩
    exact ((Below.refl w.heap.size w).alloc (Nat.le_refl _) _).alloc (by simp) _
  · clear h
    go_enter Tryd.func21, Tryd.ntmps21
    go_wp2_with ((go_at_call 37; (with_reducible refine (in_b _ _ _ _).mono ?_); rintro e W1 ⟨rfl, rfl⟩))
    refine bodyPost_ret (v := refusedT) (by simp [results, Tryd.results21, go_sem, refusedT]) rfl ⟨rfl, ?_⟩
    exact ((Below.refl w.heap.size w).alloc (Nat.le_refl _) _).alloc (by simp) _
  · clear h
    go_enter Tryd.func21, Tryd.ntmps21
    go_wp2_with ((go_at_call 37; (with_reducible refine (in_b _ _ _ _).mono ?_); rintro e W1 ⟨rfl, rfl⟩))
    refine bodyPost_ret (v := refusedT) (by simp [results, Tryd.results21, go_sem, refusedT]) rfl ⟨rfl, ?_⟩
    exact ((Below.refl w.heap.size w).alloc (Nat.le_refl _) _).alloc (by simp) _
  · clear h
    go_enter Tryd.func21, Tryd.ntmps21
    go_wp2_with ((go_at_call 37; (with_reducible refine (in_b _ _ _ _).mono ?_); rintro e W1 ⟨rfl, rfl⟩))
    refine bodyPost_ret (v := refusedT) (by simp [results, Tryd.results21, go_sem, refusedT]) rfl ⟨rfl, ?_⟩
    exact ((Below.refl w.heap.size w).alloc (Nat.le_refl _) _).alloc (by simp) _

set_option maxRecDepth 100000 in
set_option maxHeartbeats 4000000 in
theorem px_px (n em rem vw vh : Int) (h : okP n em rem vw vh = true) (w : World) :
    Calls Tryd.prog 21 #[.agg #[.int .i64 n, .string ⟨#[112, 120]⟩], .agg #[.int .i64 em, .int .i64 rem, .int .i64 vw, .int .i64 vh]] w fun e w' =>
      e = .returned (.tuple #[.int .i64 (clipI (n * 64 / 1000)), .int .i64 0]) ∧ Below w.heap.size w w' := by
  obtain ⟨h1, h2, h3, h4, h5⟩ := okP_of h
  clear h
  have b1 := (inB_iff _ _ _).1 h1
  have b2 := (inB_iff _ _ _).1 h2
  have b3 := (inB_iff _ _ _).1 h3
  have b4 := (inB_iff _ _ _).1 h4
  have b5 := (inB_iff _ _ _).1 h5
  obtain ⟨m0, m1⟩ := mulb (x := n) (X := 1000000000) (y := 64) (Y := 64) (by omega) (by omega) (by omega) (by omega)
  have cD := Lib.hid (fun w => down1000_ct (n * 64) (by omega) (by omega) w)
  have cP := Lib.hid (fun w => clip_ct (n * 64 / 1000) w)
  have r1 := IntWalk.i64_in (n * 64) (by omega)
  clear b1 b2 b3 b4 b5 m0 m1
  go_enter Tryd.func21, Tryd.ntmps21
  go_wp2_with (first
    | (go_at_call 37; (with_reducible refine (in_b _ _ _ _).mono ?_); rintro e W1 ⟨rfl, rfl⟩)
    | (go_at_call 39; (with_reducible refine (cD.out _).mono ?_); rintro e W1 ⟨rfl, rfl⟩)
    | (go_at_call 38; (with_reducible refine (cP.out _).mono ?_); rintro e W1 ⟨rfl, rfl⟩))
  refine bodyPost_ret (v := .tuple #[.int .i64 (clipI (n * 64 / 1000)), .int .i64 0]) (by simp [results, Tryd.results21, go_sem, clipI]) rfl ⟨rfl, ?_⟩
  exact ((Below.refl w.heap.size w).alloc (Nat.le_refl _) _).alloc (by simp) _

set_option maxRecDepth 100000 in
set_option maxHeartbeats 4000000 in
theorem px_em (n em rem vw vh : Int) (h : okP n em rem vw vh = true) (w : World) :
    Calls Tryd.prog 21 #[.agg #[.int .i64 n, .string ⟨#[101, 109]⟩], .agg #[.int .i64 em, .int .i64 rem, .int .i64 vw, .int .i64 vh]] w fun e w' =>
      e = .returned (.tuple #[.int .i64 (clipI (n * em / 1000)), .int .i64 0]) ∧ Below w.heap.size w w' := by
  obtain ⟨h1, h2, h3, h4, h5⟩ := okP_of h
  clear h
  have b1 := (inB_iff _ _ _).1 h1
  have b2 := (inB_iff _ _ _).1 h2
  have b3 := (inB_iff _ _ _).1 h3
  have b4 := (inB_iff _ _ _).1 h4
  have b5 := (inB_iff _ _ _).1 h5
  obtain ⟨m0, m1⟩ := mulb (x := n) (X := 1000000000) (y := em) (Y := 16777216) (by omega) (by omega) (by omega) (by omega)
  have cD := Lib.hid (fun w => down1000_ct (n * em) (by omega) (by omega) w)
  have cP := Lib.hid (fun w => clip_ct (n * em / 1000) w)
  have r1 := IntWalk.i64_in (n * em) (by omega)
  clear b1 b2 b3 b4 b5 m0 m1
  go_enter Tryd.func21, Tryd.ntmps21
  go_wp2_with (first
    | (go_at_call 37; (with_reducible refine (in_b _ _ _ _).mono ?_); rintro e W1 ⟨rfl, rfl⟩)
    | (go_at_call 39; (with_reducible refine (cD.out _).mono ?_); rintro e W1 ⟨rfl, rfl⟩)
    | (go_at_call 38; (with_reducible refine (cP.out _).mono ?_); rintro e W1 ⟨rfl, rfl⟩))
  refine bodyPost_ret (v := .tuple #[.int .i64 (clipI (n * em / 1000)), .int .i64 0]) (by simp [results, Tryd.results21, go_sem, clipI]) rfl ⟨rfl, ?_⟩
  exact ((Below.refl w.heap.size w).alloc (Nat.le_refl _) _).alloc (by simp) _

set_option maxRecDepth 100000 in
set_option maxHeartbeats 4000000 in
theorem px_rem (n em rem vw vh : Int) (h : okP n em rem vw vh = true) (w : World) :
    Calls Tryd.prog 21 #[.agg #[.int .i64 n, .string ⟨#[114, 101, 109]⟩], .agg #[.int .i64 em, .int .i64 rem, .int .i64 vw, .int .i64 vh]] w fun e w' =>
      e = .returned (.tuple #[.int .i64 (clipI (n * rem / 1000)), .int .i64 0]) ∧ Below w.heap.size w w' := by
  obtain ⟨h1, h2, h3, h4, h5⟩ := okP_of h
  clear h
  have b1 := (inB_iff _ _ _).1 h1
  have b2 := (inB_iff _ _ _).1 h2
  have b3 := (inB_iff _ _ _).1 h3
  have b4 := (inB_iff _ _ _).1 h4
  have b5 := (inB_iff _ _ _).1 h5
  obtain ⟨m0, m1⟩ := mulb (x := n) (X := 1000000000) (y := rem) (Y := 16777216) (by omega) (by omega) (by omega) (by omega)
  have cD := Lib.hid (fun w => down1000_ct (n * rem) (by omega) (by omega) w)
  have cP := Lib.hid (fun w => clip_ct (n * rem / 1000) w)
  have r1 := IntWalk.i64_in (n * rem) (by omega)
  clear b1 b2 b3 b4 b5 m0 m1
  go_enter Tryd.func21, Tryd.ntmps21
  go_wp2_with (first
    | (go_at_call 37; (with_reducible refine (in_b _ _ _ _).mono ?_); rintro e W1 ⟨rfl, rfl⟩)
    | (go_at_call 39; (with_reducible refine (cD.out _).mono ?_); rintro e W1 ⟨rfl, rfl⟩)
    | (go_at_call 38; (with_reducible refine (cP.out _).mono ?_); rintro e W1 ⟨rfl, rfl⟩))
  refine bodyPost_ret (v := .tuple #[.int .i64 (clipI (n * rem / 1000)), .int .i64 0]) (by simp [results, Tryd.results21, go_sem, clipI]) rfl ⟨rfl, ?_⟩
  exact ((Below.refl w.heap.size w).alloc (Nat.le_refl _) _).alloc (by simp) _

set_option maxRecDepth 100000 in
set_option maxHeartbeats 4000000 in
theorem px_vw (n em rem vw vh : Int) (h : okP n em rem vw vh = true) (w : World) :
    Calls Tryd.prog 21 #[.agg #[.int .i64 n, .string ⟨#[118, 119]⟩], .agg #[.int .i64 em, .int .i64 rem, .int .i64 vw, .int .i64 vh]] w fun e w' =>
      e = .returned (.tuple #[.int .i64 (clipI (n * (64 * vw) / 100000)), .int .i64 0]) ∧ Below w.heap.size w w' := by
  obtain ⟨h1, h2, h3, h4, h5⟩ := okP_of h
  clear h
  have b1 := (inB_iff _ _ _).1 h1
  have b2 := (inB_iff _ _ _).1 h2
  have b3 := (inB_iff _ _ _).1 h3
  have b4 := (inB_iff _ _ _).1 h4
  have b5 := (inB_iff _ _ _).1 h5
  obtain ⟨m0, m1⟩ := mulb (x := n) (X := 1000000000) (y := (64 * vw)) (Y := 256000) (by omega) (by omega) (by omega) (by omega)
  have cD := Lib.hid (fun w => down100000_ct (n * (64 * vw)) (by omega) (by omega) w)
  have cP := Lib.hid (fun w => clip_ct (n * (64 * vw) / 100000) w)
  have r1 := IntWalk.i64_in (n * (64 * vw)) (by omega)
  have r0 := IntWalk.i64_in (64 * vw) (by omega)
  clear b1 b2 b3 b4 b5 m0 m1
  go_enter Tryd.func21, Tryd.ntmps21
  go_wp2_with (first
    | (go_at_call 37; (with_reducible refine (in_b _ _ _ _).mono ?_); rintro e W1 ⟨rfl, rfl⟩)
    | (go_at_call 39; (with_reducible refine (cD.out _).mono ?_); rintro e W1 ⟨rfl, rfl⟩)
    | (go_at_call 38; (with_reducible refine (cP.out _).mono ?_); rintro e W1 ⟨rfl, rfl⟩))
  refine bodyPost_ret (v := .tuple #[.int .i64 (clipI (n * (64 * vw) / 100000)), .int .i64 0]) (by simp [results, Tryd.results21, go_sem, clipI]) rfl ⟨rfl, ?_⟩
  exact ((Below.refl w.heap.size w).alloc (Nat.le_refl _) _).alloc (by simp) _

set_option maxRecDepth 100000 in
set_option maxHeartbeats 4000000 in
theorem px_vh (n em rem vw vh : Int) (h : okP n em rem vw vh = true) (w : World) :
    Calls Tryd.prog 21 #[.agg #[.int .i64 n, .string ⟨#[118, 104]⟩], .agg #[.int .i64 em, .int .i64 rem, .int .i64 vw, .int .i64 vh]] w fun e w' =>
      e = .returned (.tuple #[.int .i64 (clipI (n * (64 * vh) / 100000)), .int .i64 0]) ∧ Below w.heap.size w w' := by
  obtain ⟨h1, h2, h3, h4, h5⟩ := okP_of h
  clear h
  have b1 := (inB_iff _ _ _).1 h1
  have b2 := (inB_iff _ _ _).1 h2
  have b3 := (inB_iff _ _ _).1 h3
  have b4 := (inB_iff _ _ _).1 h4
  have b5 := (inB_iff _ _ _).1 h5
  obtain ⟨m0, m1⟩ := mulb (x := n) (X := 1000000000) (y := (64 * vh)) (Y := 256000) (by omega) (by omega) (by omega) (by omega)
  have cD := Lib.hid (fun w => down100000_ct (n * (64 * vh)) (by omega) (by omega) w)
  have cP := Lib.hid (fun w => clip_ct (n * (64 * vh) / 100000) w)
  have r1 := IntWalk.i64_in (n * (64 * vh)) (by omega)
  have r0 := IntWalk.i64_in (64 * vh) (by omega)
  clear b1 b2 b3 b4 b5 m0 m1
  go_enter Tryd.func21, Tryd.ntmps21
  go_wp2_with (first
    | (go_at_call 37; (with_reducible refine (in_b _ _ _ _).mono ?_); rintro e W1 ⟨rfl, rfl⟩)
    | (go_at_call 39; (with_reducible refine (cD.out _).mono ?_); rintro e W1 ⟨rfl, rfl⟩)
    | (go_at_call 38; (with_reducible refine (cP.out _).mono ?_); rintro e W1 ⟨rfl, rfl⟩))
  refine bodyPost_ret (v := .tuple #[.int .i64 (clipI (n * (64 * vh) / 100000)), .int .i64 0]) (by simp [results, Tryd.results21, go_sem, clipI]) rfl ⟨rfl, ?_⟩
  exact ((Below.refl w.heap.size w).alloc (Nat.le_refl _) _).alloc (by simp) _

end Go.Proofs.YtphdmdncboegjaaDoor.dim
