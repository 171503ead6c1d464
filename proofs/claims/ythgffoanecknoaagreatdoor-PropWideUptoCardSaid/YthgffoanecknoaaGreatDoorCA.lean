/- Contracts and plain law, a bundle. -/
import Derived.Lib.QuietBelow
import Derived.Lib.Hide
import Derived.Test.YthgffoanecknoaaGreatDoorC9
import Derived.Test.YthgffoanecknoaaGreatDoorC8
set_option linter.unusedVariables false
set_option maxRecDepth 100000
set_option maxHeartbeats 16000000
open Go.Lib (hid)
namespace Go.Proofs.YthgffoanecknoaaGreatDoor
namespace prp
open Go.RowKit Go.Sort base tok
set_option linter.unusedSimpArgs false
theorem row35 : rowV (rowP 35) = .agg #[.string (bs [99, 111, 108, 111, 114]), .string (bs [99]), .string (bs []), .string (bs []), .bool false] := rfl
theorem fits_35 (w : World) : Calls Tryz.prog 20 #[.int .i64 35, .agg #[.int .i64 5, .int .i64 255]] w (rt w (.bool true)) := by
 have hfd := field_row1
 have cA : ∀ w, Calls Tryz.prog 30 #[.int .i64 35] w (rt w (.agg #[.string (bs [99, 111, 108, 111, 114]), .string (bs [99]), .string (bs []), .string (bs []), .bool false])) := fun w => by
  have h := at_ct 35 (by decide) w
  rw [row35] at h
  exact h
 have cI : ∀ w, Calls Tryz.prog 38 #[.int .i64 35] w (rt w (.bool true)) := fun w => in_yes 35 (by decide) w
 have cL : ∀ w, Calls Tryz.prog 40 #[.int .i64 5] w (rt w (.string (bs [99]))) := fun w => letter_ct 5 (by decide) (by decide) w
 have cC : ∀ w, Calls Tryz.prog 39 #[.string (bs [99]), .string (bs [99])] w (rt w (.bool true)) := fun w =>
  (Tryz.strings_Contains_one (bs [99]) 99 w).mono fun e w' ⟨h1, h2⟩ => ⟨by rw [h1]; rfl, by rw [h2]; exact Below.refl _ _⟩
 obtain ⟨W1, hW1⟩ : ∃ W1, w.alloc (.cells #[.int .i64 5, .int .i64 255] 36) = W1 := ⟨_, rfl⟩
 have Q1 := hid (show Blk W1 w.heap.size 36 #[.int .i64 5, .int .i64 255] by rw [<- hW1]; exact Blk.new rfl)
 have HB1 := hid (show Below w.heap.size w W1 by rw [<- hW1]; exact ba _ _)
 have hz1 := HB1.out.size
 have k0 := cell_regrown (show W1.cell? ⟨w.heap.size, 0, none⟩ = some (.int .i64 5) from Q1.out.cell 0)
 have k1 := cell_regrown (show W1.cell? ⟨w.heap.size, 1, none⟩ = some (.int .i64 255) from Q1.out.cell 1)
 have qA : ∀ d os, Calls Tryz.prog 30 #[.int .i64 35] (grow (redrawn W1 d) os) fun e w'' => e = .returned (.agg #[.string (bs [99, 111, 108, 111, 114]), .string (bs [99]), .string (bs []), .string (bs []), .bool false]) /\ ∃ p : Regrown, w'' = grow (redrawn W1 p.d) p.os := fun d os => Calls.regrown_of (cA _)
 have qI : ∀ d os, Calls Tryz.prog 38 #[.int .i64 35] (grow (redrawn W1 d) os) fun e w'' => e = .returned (.bool true) /\ ∃ p : Regrown, w'' = grow (redrawn W1 p.d) p.os := fun d os => Calls.regrown_of (cI _)
 have qL : ∀ d os, Calls Tryz.prog 40 #[.int .i64 5] (grow (redrawn W1 d) os) fun e w'' => e = .returned (.string (bs [99])) /\ ∃ p : Regrown, w'' = grow (redrawn W1 p.d) p.os := fun d os => Calls.regrown_of (cL _)
 have qC : ∀ d os, Calls Tryz.prog 39 #[.string (bs [99]), .string (bs [99])] (grow (redrawn W1 d) os) fun e w'' => e = .returned (.bool true) /\ ∃ p : Regrown, w'' = grow (redrawn W1 p.d) p.os := fun d os => Calls.regrown_of (cC _)
 replace cA := hid cA
 go_enter Tryz.func20, Tryz.ntmps20
 go_wp2_with fail
 refine wp_region_quiet_below (by kernel_rfl) (by kernel_rfl) ?_
 repeat (quiet_step (first | exact qI _ _ | exact qA _ _ | exact qL _ _ | exact qC _ _))
 refine wpQuiet_nil ?_
 intro _ hw'
 obtain ⟨⟨dq, osq⟩, hw''⟩ := hw'
 subst hw''
 have hb2 := below_regrown W1 dq osq
 have hq2 := Q1.out.below hb2 Q1.out.lt
 have Q2 := hid hq2
 have HB2 := hid (tb HB1 hb2)
 have q2c := hq2.cell
 clear hb2 hq2 k0 k1 qA qI qL qC
 generalize grow (redrawn W1 dq) osq = W2 at *
 go_wp2_with (first
  | (go_at_call 30; (with_reducible refine (cA.out _).mono ?_); rintro e W3 ⟨rfl, hb⟩; have Q3 := hid (Q2.out.below hb Q2.out.lt); have HB3 := hid (tb HB2 hb); have Q4 := hid (Q3.out.alloc (.cells #[.string (bs [99, 111, 108, 111, 114]), .string (bs [99]), .string (bs []), .string (bs []), .bool false] 73)); have q4c := Q4.out.cell; have l3 := Q3.out.lt; have HB4 := hid (HB3.out.alloc HB3.out.size (.cells #[.string (bs [99, 111, 108, 111, 114]), .string (bs [99]), .string (bs []), .string (bs []), .bool false] 73)); clear hb))
 exact bodyPost_ret (v := .bool true) (by simp [results, Tryz.results20, go_sem]) rfl ⟨rfl, HB4.out⟩
theorem shaped_ct (w : World) : Calls Tryz.prog 10 #[] w (rt w (.bool true)) := by
 have cF := hid (fun w => fits_35 w)
 go_enter Tryz.func10, Tryz.ntmps10
 go_wp2_with (first
  | (go_at_call 20; (with_reducible refine (cF.out _).mono ?_); rintro e W1 ⟨rfl, hb⟩; have HB1 := hid hb; clear hb))
 go_ret
 exact ⟨rfl, HB1.out⟩
end prp
namespace prp
open Go.RowKit base tok dim
set_option linter.unusedSimpArgs false
end prp
end Go.Proofs.YthgffoanecknoaaGreatDoor
