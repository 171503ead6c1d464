/- What all Anim laws share: how an easing comes in, the fact that each law asks first. -/
import Derived.Test.YtchmpdibbklpfaaAnim2
namespace Go.Proofs.Ytchmpdibbklpfaa.anim
open Go.RowKit Go.Proofs.Ytchmpdibbklpfaa.base Go.ChangeShapes Go.WideShapes Go.ChangeAt

theorem own : ownKnob Try.prog.godebug = none := by kernel_rfl
theorem laidOut : laidOutB Try.prog = true := by kernel_rfl

section
variable {H : Type} {enc : TypeId × Value → H} {w : World} {base : Nat} {spare : Nat → Bool} {held : Bool}
theorem cells_ease {fuel : Nat} {cs : List Value} {x : DataW H × List MemPlace} (h : DataW.trod enc Try.prog w base spare held fuel 29 cs = some x) :
    ∃ k c0 c1 c2 c3 n : Int, cs = [.int .i64 k, .int .i64 c0, .int .i64 c1, .int .i64 c2, .int .i64 c3, .int .i64 n] := by
  have k1 : Try.prog.cellsOf 3 = 1 := by kernel_rfl
  have k4 : Try.prog.cellsOf 27 = 4 := by kernel_rfl
  have k6 : Try.prog.cellsOf 29 = 6 := by kernel_rfl
  obtain ⟨hl, m, hf⟩ := trod_fields Try.underlying29 h
  rw [k6] at hl
  match cs, hl with
  | [a0, a1, a2, a3, a4, a5], _ =>
    obtain ⟨y0, h0⟩ := at_field hf 0 3 0 1 rfl k1
    obtain ⟨y1, h1⟩ := at_field hf 1 27 1 4 rfl k4
    obtain ⟨y2, h2⟩ := at_field hf 2 3 5 1 rfl k1
    obtain ⟨_, m', hi⟩ := trod_items Try.underlying27 h1
    obtain ⟨z0, i0⟩ := hi 0 (by decide)
    obtain ⟨z1, i1⟩ := hi 1 (by decide)
    obtain ⟨z2, i2⟩ := hi 2 (by decide)
    obtain ⟨z3, i3⟩ := hi 3 (by decide)
    simp only [k1] at i0 i1 i2 i3
    obtain ⟨k, e0, _, _⟩ := DataW.trod_int Try.underlying3 h0
    obtain ⟨n, e2, _, _⟩ := DataW.trod_int Try.underlying3 h2
    obtain ⟨c0, f0, _, _⟩ := DataW.trod_int Try.underlying3 i0
    obtain ⟨c1, f1, _, _⟩ := DataW.trod_int Try.underlying3 i1
    obtain ⟨c2, f2, _, _⟩ := DataW.trod_int Try.underlying3 i2
    obtain ⟨c3, f3, _, _⟩ := DataW.trod_int Try.underlying3 i3
    simp at e0 e2 f0 f1 f2 f3
    exact ⟨k, c0, c1, c2, c3, n, by simp [e0, e2, f0, f1, f2, f3]⟩
end

theorem easeE_ok {kind c0 c1 c2 c3 n t : Int} : easeE kind c0 c1 c2 c3 n t = 0 ↔ easingB kind c0 c1 c2 c3 n = true ∧ 0 ≤ t ∧ t ≤ 1000 := by
  unfold easeE
  rw [← inB_iff]
  cases easingB kind c0 c1 c2 c3 n <;> cases inB t 0 1000 <;> simp

set_option maxRecDepth 100000 in
set_option maxHeartbeats 1000000 in
theorem stepped_ct (w : World) : Calls Try.prog 14 #[] w fun e w' => e = .returned (.bool true) ∧ Below w.heap.size w w' := by
  go_enter Try.func14, Try.ntmps14
  go_wp2_with fail
  refine (ease_ct _ _ _ _ _ _ _ _).mono ?_
  rintro e W1 ⟨rfl, hb⟩
  rw [show easeV 3 0 0 0 0 4 600 = 500 by decide, show easeE 3 0 0 0 0 4 600 = 0 by decide]
  go_wp2
  go_ret
  exact ⟨rfl, hb⟩

end Go.Proofs.Ytchmpdibbklpfaa.anim
