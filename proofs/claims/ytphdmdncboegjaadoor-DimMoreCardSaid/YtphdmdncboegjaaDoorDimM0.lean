/- DimMore, a walk. -/
import Derived.Test.YtphdmdncboegjaaDoorDimOpen
namespace Go.Proofs.YtphdmdncboegjaaDoor.dim.more
open Go.RowKit Go.Proofs.YtphdmdncboegjaaDoor.base Go.Proofs.YtphdmdncboegjaaDoor.tok Go.Proofs.YtphdmdncboegjaaDoor.dim
set_option linter.unusedVariables false

set_option maxRecDepth 100000 in
set_option maxHeartbeats 4000000 in
theorem more_px_le (a b u em rem vw vh : Int) (hr : (IntKind.u64.wrap u).tmod 5 = 0) (hab : a ≤ b) (w : World) (hm : MaxL w) (hU : UnitsAt w) :
    Calls Tryd.prog 6 #[.int .i64 a, .int .i64 b, .int .i64 u, .agg #[.int .i64 em, .int .i64 rem, .int .i64 vw, .int .i64 vh]] w fun e w' => e = .returned (.bool true) ∧ Below w.heap.size w w' := by
  have q1 : min a b = a := by omega
  have q2 : max a b = b := by omega
  have q3 : IntKind.u64.wrap ((IntKind.u64.wrap u).tmod 5) = 0 := by rw [hr]; rfl
  cases k1 : okP a em rem vw vh
  · have cX := Lib.hid (fun w => px_bad ⟨#[112, 120]⟩ a em rem vw vh k1 w)
    obtain ⟨X, E, hX, cY⟩ : ∃ X E : Int, 0 = 0 ∧ ∀ w, Calls Tryd.prog 21 #[.agg #[.int .i64 b, .string ⟨#[112, 120]⟩], .agg #[.int .i64 em, .int .i64 rem, .int .i64 vw, .int .i64 vh]] w fun e w' => e = .returned (.tuple #[.int .i64 X, .int .i64 E]) ∧ Below w.heap.size w w' := by
      cases k2 : okP b em rem vw vh
      · exact ⟨0, 1, rfl, fun w => px_bad ⟨#[112, 120]⟩ b em rem vw vh k2 w⟩
      · exact ⟨_, 0, rfl, fun w => px_px b em rem vw vh k2 w⟩
    replace cY := Lib.hid cY
    clear k1
    unfold refusedT at cX
    go_enter Tryd.func6, Tryd.ntmps6
    go_wp2_with ((go_at_call 20; (with_reducible refine (half_ct _ (hm.on ((Below.refl w.heap.size w).alloc (Nat.le_refl _) _) hm.lt) (hU.on ((Below.refl w.heap.size w).alloc (Nat.le_refl _) _))).mono ?_); rintro e W1 ⟨rfl, hb1⟩; have HB1 := Lib.hid (((Below.refl w.heap.size w).alloc (Nat.le_refl _) _).trans (hb1.mono (by simp))); have hblk := (Blk.new (w := w) (t := 33) (cs := #[.int .i64 em, .int .i64 rem, .int .i64 vw, .int .i64 vh]) rfl).below hb1 (by simp); have p1 := fun o => (hblk.alloc o).cell; replace hblk := Lib.hid hblk; clear hb1))

    go_wp2_with (first
      | (go_at_call 21; (with_reducible refine (cX.out _).mono ?_); rintro e W2 ⟨rfl, hb2⟩; have HB2 := Lib.hid ((HB1.out.alloc HB1.out.size _).trans (hb2.mono (by have := HB1.out.size; simp; omega))); have hblk2 := (hblk.out.alloc _).below hb2 (by have := hblk.out.lt; simp; omega); have p2 := hblk2.cell; clear hb2)
      | (go_at_call 21; (with_reducible refine (cY.out _).mono ?_); rintro e W3 ⟨rfl, hb3⟩; have HB3 := Lib.hid (HB2.out.trans (hb3.mono HB2.out.size)); clear hb3))
    go_ret
    exact ⟨rfl, HB3.out⟩
  · have cX := Lib.hid (fun w => px_px a em rem vw vh k1 w)
    cases k2 : okP b em rem vw vh
    · have cY := Lib.hid (fun w => px_bad ⟨#[112, 120]⟩ b em rem vw vh k2 w)
      clear k1 k2
      unfold refusedT at cY
      go_enter Tryd.func6, Tryd.ntmps6
      go_wp2_with ((go_at_call 20; (with_reducible refine (half_ct _ (hm.on ((Below.refl w.heap.size w).alloc (Nat.le_refl _) _) hm.lt) (hU.on ((Below.refl w.heap.size w).alloc (Nat.le_refl _) _))).mono ?_); rintro e W1 ⟨rfl, hb1⟩; have HB1 := Lib.hid (((Below.refl w.heap.size w).alloc (Nat.le_refl _) _).trans (hb1.mono (by simp))); have hblk := (Blk.new (w := w) (t := 33) (cs := #[.int .i64 em, .int .i64 rem, .int .i64 vw, .int .i64 vh]) rfl).below hb1 (by simp); have p1 := fun o => (hblk.alloc o).cell; replace hblk := Lib.hid hblk; clear hb1))

      go_wp2_with (first
        | (go_at_call 21; (with_reducible refine (cX.out _).mono ?_); rintro e W2 ⟨rfl, hb2⟩; have HB2 := Lib.hid ((HB1.out.alloc HB1.out.size _).trans (hb2.mono (by have := HB1.out.size; simp; omega))); have hblk2 := (hblk.out.alloc _).below hb2 (by have := hblk.out.lt; simp; omega); have p2 := hblk2.cell; clear hb2)
        | (go_at_call 21; (with_reducible refine (cY.out _).mono ?_); rintro e W3 ⟨rfl, hb3⟩; have HB3 := Lib.hid (HB2.out.trans (hb3.mono HB2.out.size)); clear hb3))
      go_ret
      exact ⟨rfl, HB3.out⟩
    · have cY := Lib.hid (fun w => px_px b em rem vw vh k2 w)
      have hle := more_of (n := a) (m := b) (f := 64) (d := 1000) (by omega) (by have := okP_of k1; simp only [inB_iff] at this; omega) (by decide)
      generalize clipI (a * 64 / 1000) = X at *
      generalize clipI (b * 64 / 1000) = Y at *
      clear k1 k2
      go_enter Tryd.func6, Tryd.ntmps6
      go_wp2_with ((go_at_call 20; (with_reducible refine (half_ct _ (hm.on ((Below.refl w.heap.size w).alloc (Nat.le_refl _) _) hm.lt) (hU.on ((Below.refl w.heap.size w).alloc (Nat.le_refl _) _))).mono ?_); rintro e W1 ⟨rfl, hb1⟩; have HB1 := Lib.hid (((Below.refl w.heap.size w).alloc (Nat.le_refl _) _).trans (hb1.mono (by simp))); have hblk := (Blk.new (w := w) (t := 33) (cs := #[.int .i64 em, .int .i64 rem, .int .i64 vw, .int .i64 vh]) rfl).below hb1 (by simp); have p1 := fun o => (hblk.alloc o).cell; replace hblk := Lib.hid hblk; clear hb1))

      go_wp2_with (first
        | (go_at_call 21; (with_reducible refine (cX.out _).mono ?_); rintro e W2 ⟨rfl, hb2⟩; have HB2 := Lib.hid ((HB1.out.alloc HB1.out.size _).trans (hb2.mono (by have := HB1.out.size; simp; omega))); have hblk2 := (hblk.out.alloc _).below hb2 (by have := hblk.out.lt; simp; omega); have p2 := hblk2.cell; clear hb2)
        | (go_at_call 21; (with_reducible refine (cY.out _).mono ?_); rintro e W3 ⟨rfl, hb3⟩; have HB3 := Lib.hid (HB2.out.trans (hb3.mono HB2.out.size)); clear hb3))
      go_ret
      exact ⟨rfl, HB3.out⟩

set_option maxRecDepth 100000 in
set_option maxHeartbeats 4000000 in
theorem more_px_gt (a b u em rem vw vh : Int) (hr : (IntKind.u64.wrap u).tmod 5 = 0) (hab : b < a) (w : World) (hm : MaxL w) (hU : UnitsAt w) :
    Calls Tryd.prog 6 #[.int .i64 a, .int .i64 b, .int .i64 u, .agg #[.int .i64 em, .int .i64 rem, .int .i64 vw, .int .i64 vh]] w fun e w' => e = .returned (.bool true) ∧ Below w.heap.size w w' := by
  have q1 : min a b = b := by omega
  have q2 : max a b = a := by omega
  have q3 : IntKind.u64.wrap ((IntKind.u64.wrap u).tmod 5) = 0 := by rw [hr]; rfl
  cases k1 : okP b em rem vw vh
  · have cX := Lib.hid (fun w => px_bad ⟨#[112, 120]⟩ b em rem vw vh k1 w)
    obtain ⟨X, E, hX, cY⟩ : ∃ X E : Int, 0 = 0 ∧ ∀ w, Calls Tryd.prog 21 #[.agg #[.int .i64 a, .string ⟨#[112, 120]⟩], .agg #[.int .i64 em, .int .i64 rem, .int .i64 vw, .int .i64 vh]] w fun e w' => e = .returned (.tuple #[.int .i64 X, .int .i64 E]) ∧ Below w.heap.size w w' := by
      cases k2 : okP a em rem vw vh
      · exact ⟨0, 1, rfl, fun w => px_bad ⟨#[112, 120]⟩ a em rem vw vh k2 w⟩
      · exact ⟨_, 0, rfl, fun w => px_px a em rem vw vh k2 w⟩
    replace cY := Lib.hid cY
    clear k1
    unfold refusedT at cX
    go_enter Tryd.func6, Tryd.ntmps6
    go_wp2_with ((go_at_call 20; (with_reducible refine (half_ct _ (hm.on ((Below.refl w.heap.size w).alloc (Nat.le_refl _) _) hm.lt) (hU.on ((Below.refl w.heap.size w).alloc (Nat.le_refl _) _))).mono ?_); rintro e W1 ⟨rfl, hb1⟩; have HB1 := Lib.hid (((Below.refl w.heap.size w).alloc (Nat.le_refl _) _).trans (hb1.mono (by simp))); have hblk := (Blk.new (w := w) (t := 33) (cs := #[.int .i64 em, .int .i64 rem, .int .i64 vw, .int .i64 vh]) rfl).below hb1 (by simp); have p1 := fun o => (hblk.alloc o).cell; replace hblk := Lib.hid hblk; clear hb1))

    go_wp2_with (first
      | (go_at_call 21; (with_reducible refine (cX.out _).mono ?_); rintro e W2 ⟨rfl, hb2⟩; have HB2 := Lib.hid ((HB1.out.alloc HB1.out.size _).trans (hb2.mono (by have := HB1.out.size; simp; omega))); have hblk2 := (hblk.out.alloc _).below hb2 (by have := hblk.out.lt; simp; omega); have p2 := hblk2.cell; clear hb2)
      | (go_at_call 21; (with_reducible refine (cY.out _).mono ?_); rintro e W3 ⟨rfl, hb3⟩; have HB3 := Lib.hid (HB2.out.trans (hb3.mono HB2.out.size)); clear hb3))
    go_ret
    exact ⟨rfl, HB3.out⟩
  · have cX := Lib.hid (fun w => px_px b em rem vw vh k1 w)
    cases k2 : okP a em rem vw vh
    · have cY := Lib.hid (fun w => px_bad ⟨#[112, 120]⟩ a em rem vw vh k2 w)
      clear k1 k2
      unfold refusedT at cY
      go_enter Tryd.func6, Tryd.ntmps6
      go_wp2_with ((go_at_call 20; (with_reducible refine (half_ct _ (hm.on ((Below.refl w.heap.size w).alloc (Nat.le_refl _) _) hm.lt) (hU.on ((Below.refl w.heap.size w).alloc (Nat.le_refl _) _))).mono ?_); rintro e W1 ⟨rfl, hb1⟩; have HB1 := Lib.hid (((Below.refl w.heap.size w).alloc (Nat.le_refl _) _).trans (hb1.mono (by simp))); have hblk := (Blk.new (w := w) (t := 33) (cs := #[.int .i64 em, .int .i64 rem, .int .i64 vw, .int .i64 vh]) rfl).below hb1 (by simp); have p1 := fun o => (hblk.alloc o).cell; replace hblk := Lib.hid hblk; clear hb1))

      go_wp2_with (first
        | (go_at_call 21; (with_reducible refine (cX.out _).mono ?_); rintro e W2 ⟨rfl, hb2⟩; have HB2 := Lib.hid ((HB1.out.alloc HB1.out.size _).trans (hb2.mono (by have := HB1.out.size; simp; omega))); have hblk2 := (hblk.out.alloc _).below hb2 (by have := hblk.out.lt; simp; omega); have p2 := hblk2.cell; clear hb2)
        | (go_at_call 21; (with_reducible refine (cY.out _).mono ?_); rintro e W3 ⟨rfl, hb3⟩; have HB3 := Lib.hid (HB2.out.trans (hb3.mono HB2.out.size)); clear hb3))
      go_ret
      exact ⟨rfl, HB3.out⟩
    · have cY := Lib.hid (fun w => px_px a em rem vw vh k2 w)
      have hle := more_of (n := b) (m := a) (f := 64) (d := 1000) (by omega) (by have := okP_of k1; simp only [inB_iff] at this; omega) (by decide)
      generalize clipI (b * 64 / 1000) = X at *
      generalize clipI (a * 64 / 1000) = Y at *
      clear k1 k2
      go_enter Tryd.func6, Tryd.ntmps6
      go_wp2_with ((go_at_call 20; (with_reducible refine (half_ct _ (hm.on ((Below.refl w.heap.size w).alloc (Nat.le_refl _) _) hm.lt) (hU.on ((Below.refl w.heap.size w).alloc (Nat.le_refl _) _))).mono ?_); rintro e W1 ⟨rfl, hb1⟩; have HB1 := Lib.hid (((Below.refl w.heap.size w).alloc (Nat.le_refl _) _).trans (hb1.mono (by simp))); have hblk := (Blk.new (w := w) (t := 33) (cs := #[.int .i64 em, .int .i64 rem, .int .i64 vw, .int .i64 vh]) rfl).below hb1 (by simp); have p1 := fun o => (hblk.alloc o).cell; replace hblk := Lib.hid hblk; clear hb1))

      go_wp2_with (first
        | (go_at_call 21; (with_reducible refine (cX.out _).mono ?_); rintro e W2 ⟨rfl, hb2⟩; have HB2 := Lib.hid ((HB1.out.alloc HB1.out.size _).trans (hb2.mono (by have := HB1.out.size; simp; omega))); have hblk2 := (hblk.out.alloc _).below hb2 (by have := hblk.out.lt; simp; omega); have p2 := hblk2.cell; clear hb2)
        | (go_at_call 21; (with_reducible refine (cY.out _).mono ?_); rintro e W3 ⟨rfl, hb3⟩; have HB3 := Lib.hid (HB2.out.trans (hb3.mono HB2.out.size)); clear hb3))
      go_ret
      exact ⟨rfl, HB3.out⟩


end Go.Proofs.YtphdmdncboegjaaDoor.dim.more
