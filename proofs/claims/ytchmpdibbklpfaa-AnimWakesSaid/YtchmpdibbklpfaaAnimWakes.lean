/- AnimWakes: for all changes, a value and two numbers the call returns true, and all that was there reads as before. No condition. -/
import Derived.Test.YtchmpdibbklpfaaAnimWk2
namespace Go.Proofs.Ytchmpdibbklpfaa.anim.wakes
open Go.RowKit Go.Proofs.Ytchmpdibbklpfaa.base Go.ChangeShapes Go.WideShapes Go.ChangeAt
set_option linter.unusedVariables false

set_option maxRecDepth 100000 in
theorem lifted (os : Os) (started : os.Started) (H : Type) (enc : TypeId × Value → H) :
    ReturnsInHanded {} Try.checked os 11 .any (Rows.animWakesSpec.pre6 enc Try.prog Try.f11 Rows.animWakesRow.domain false) (Rows.animWakesSpec.post enc Try.prog Try.f11 false true false false) := by
  refine returnsInHanded_of_change (C := Try.checked) own started (by kernel_rfl) Try.func11
    (ChangeSpec.witness6 (enc := enc) (C := Try.checked) false ⟨#[], #[.slice none 0 0, .agg #[.int .i64 0, .int .i64 0], .int .i64 0, .int .i64 0], []⟩ 8 (by kernel_rfl) (by kernel_rfl) (by kernel_rfl) (by kernel_rfl)) ?_
  intro W base args ds gs before hval0 hW _ _
  have hval : ∀ (j : Nat) t v, Try.f11.params[j]? = some t → args[j]? = some v → Value.okWide Try.prog W .any base t v := hval0
  have hW' := hW
  obtain ⟨p, q, hA0, hV, -, -, -⟩ := hW
  have hA : DataW.TrodAll enc Try.prog W 0 (fun _ => true) true Try.f11.params.toList args.toList ds p := hA0
  rw [Try.params11] at hA hval
  obtain ⟨v0, vs0, d0, ds0, p0, q0, hargs, rfl, -, h0, r0⟩ := trodAll_cons hA
  obtain ⟨v1, vs1, d1, ds1, p1, q1, rfl, rfl, -, h1, r1⟩ := trodAll_cons r0
  obtain ⟨v2, vs2, d2, ds2, p2, q2, rfl, rfl, -, h2, r2⟩ := trodAll_cons r1
  obtain ⟨v3, vs3, d3, ds3, p3, q3, rfl, rfl, -, h3, r3⟩ := trodAll_cons r2
  obtain ⟨rfl, rfl, -⟩ := trodAll_nil r3
  obtain rfl : args = #[v0, v1, v2, v3] := by cases args; simp_all
  obtain ⟨rfl, -⟩ := trodVars_none hV
  obtain ⟨A, n, cap, L, rfl, hn, hL⟩ := arg_anims (hval 0 _ _ rfl rfl) h0
  obtain ⟨bk, bn, rfl⟩ := arg_val (hval 1 _ _ rfl rfl) h1
  obtain ⟨now, rfl, -, -, -⟩ := open_int Try.underlying3 (hval 2 _ _ rfl rfl) h2
  obtain ⟨x, rfl, -, -, -⟩ := open_int Try.underlying3 (hval 3 _ _ rfl rfl) h3
  exact (law_ct A n cap L bk bn now x W hn hL).mono fun e W' ⟨he, bel⟩ => ⟨_, he, law_post laidOut rfl Try.underlying4 rfl (by intro t ht; rw [Try.params11] at ht; revert t; decide +kernel) rfl hW' bel⟩

theorem proved : Rows.AnimWakesSaid :=
  OpenClaim.holds_of_wide 11 Try.f11 rfl rfl rfl rfl rfl rfl rfl ⟨rfl, rfl, rfl, rfl, rfl⟩ rfl rfl rfl rfl rfl (by kernel_rfl) Try.func11 (by kernel_rfl)
    (of_decide_eq_true (by kernel_rfl)) (by unfold Func.isWrapper; first | (rw [if_pos (by decide +kernel)]; kernel_rfl) | (rw [if_neg (by decide +kernel)]; exact ⟨rfl, rfl⟩))
    (fun os started H enc _ => lifted os started H enc)

end Go.Proofs.Ytchmpdibbklpfaa.anim.wakes
