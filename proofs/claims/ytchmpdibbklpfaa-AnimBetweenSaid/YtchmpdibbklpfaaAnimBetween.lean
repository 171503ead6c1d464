/- AnimBetween: for every two numbers, kind and time the call returns true, and all that was there reads as before. No condition. -/
import Derived.Test.YtchmpdibbklpfaaAnimMix
namespace Go.Proofs.Ytchmpdibbklpfaa.anim.between
open Go.RowKit Go.Proofs.Ytchmpdibbklpfaa.base Go.ChangeShapes Go.WideShapes Go.ChangeAt
set_option linter.unusedVariables false

theorem cut_in {x : Int} (x0 : -16777216 ≤ x) (x1 : x ≤ 16777216) : cutI x = x := by unfold cutI; omega

theorem kind_of (kind : Int) : ∃ K, wrap64 (2 + wrap64 ((IntKind.u64.wrap kind).tmod 3)) = K ∧ 2 ≤ K ∧ K ≤ 4 := by
  have h0 : 0 ≤ IntKind.u64.wrap kind := by simp [IntKind.wrap, IntKind.bits, IntKind.signed]; omega
  generalize IntKind.u64.wrap kind = u at *
  rw [Int.tmod_eq_emod_of_nonneg h0, IntWalk.wrap64_in (u % 3) (by omega), IntWalk.wrap64_in _ (by omega)]
  exact ⟨_, rfl, by omega, by omega⟩

theorem rem_of (a : Int) : ∃ X, a.tmod 16777217 = X ∧ -16777216 ≤ X ∧ X ≤ 16777216 := by
  have h1 := Int.tmod_lt_of_pos a (show (0 : Int) < 16777217 by decide)
  have h2 := Int.lt_tmod_of_pos a (show (0 : Int) < 16777217 by decide)
  exact ⟨_, rfl, by omega, by omega⟩

/-- what each of the law's six mixings comes to -/
theorem mix_num (K X Y t : Int) (w : World) (k2 : 2 ≤ K) (k4 : K ≤ 4) (x0 : -16777216 ≤ X) (x1 : X ≤ 16777216) (y0 : -16777216 ≤ Y) (y1 : Y ≤ 16777216) (M : Int) (hM : partI X Y (clampT t) = M) :
    Calls Try.prog 17 #[.agg #[.int .i64 K, .int .i64 X], .agg #[.int .i64 K, .int .i64 Y], .int .i64 t] w fun e w' => e = .returned (.agg #[.int .i64 K, .int .i64 M]) ∧ Below w.heap.size w w' := by
  have h := mix_ct K X K Y t w
  rw [show mixK K K t = K by simp [mixK, k2, k4], show mixN K X K Y t = M by simp [mixN, k2, k4, cut_in x0 x1, cut_in y0 y1, hM]] at h
  exact h
theorem mix_col (C D t : Int) (w : World) (M : Int) (hM : mixC C D (clampT t) = M) :
    Calls Try.prog 17 #[.agg #[.int .i64 5, .int .i64 C], .agg #[.int .i64 5, .int .i64 D], .int .i64 t] w fun e w' => e = .returned (.agg #[.int .i64 5, .int .i64 M]) ∧ Below w.heap.size w w' := by
  have h := mix_ct 5 C 5 D t w
  rw [show mixK 5 5 t = 5 by simp [mixK], show mixN 5 C 5 D t = M by simp [mixN, hM]] at h
  exact h
theorem mixC_zero {C : Int} (D : Int) (c0 : 0 ≤ C) (c1 : C < 4294967296) : mixC C D 0 = C := by
  simp only [mixC, partI_zero, byteI]
  omega
theorem mixC_all (C : Int) {D : Int} (c0 : 0 ≤ D) (c1 : D < 4294967296) : mixC C D 1000 = D := by
  simp only [mixC, partI_all, byteI]
  omega

set_option maxRecDepth 100000 in
set_option maxHeartbeats 2000000 in
theorem between_ct (a b kind t : Int) (w : World) :
    Calls Try.prog 7 #[.int .i64 a, .int .i64 b, .int .i64 kind, .int .i64 t] w
      fun e w' => e = .returned (.bool true) ∧ Below w.heap.size w w' := by
  obtain ⟨K, hK, k2, k4⟩ := kind_of kind
  obtain ⟨X, hX, x0, x1⟩ := rem_of a
  obtain ⟨Y, hY, y0, y1⟩ := rem_of b
  obtain ⟨M, hM⟩ : ∃ M, partI X Y (clampT t) = M := ⟨_, rfl⟩
  have hbt := partI_between (a := X) (b := Y) (t := clampT t) (by unfold clampT; omega) (by unfold clampT; omega)
  rw [hM] at hbt
  replace hM := Lib.hid hM
  go_enter Try.func7, Try.ntmps7
  go_wp2_with fail
  refine (stepped_ct _).mono ?_
  rintro e W0 ⟨rfl, hb⟩
  have HB0 := Lib.hid hb
  clear hb
  go_wp2_with fail
  generalize hV0 : (W0.alloc (.cells #[.int .i64 K, .int .i64 X] 39)).alloc (.cells #[.int .i64 K, .int .i64 Y] 39) = V0
  have HV := Lib.hid (show Below W0.heap.size W0 V0 by subst hV0; exact ((Below.refl _ _).alloc (Nat.le_refl _) _).alloc (by simp) _)
  have HZ : W0.heap.size + 2 ≤ V0.heap.size := by subst hV0; simp
  have bx := Lib.hid (show Blk V0 W0.heap.size 39 #[.int .i64 K, .int .i64 X] by subst hV0; exact (Blk.new rfl).alloc _)
  have by' := Lib.hid (show Blk V0 (W0.heap.size + 1) 39 #[.int .i64 K, .int .i64 Y] by subst hV0; exact Blk.new (by simp))
  clear hV0
  refine (mix_num K X Y t _ k2 k4 x0 x1 y0 y1 M hM.out).mono ?_
  rintro e V1 ⟨rfl, hb⟩
  have HV1 := Lib.hid (HV.out.trans (hb.mono HV.out.size))
  have hz1 : W0.heap.size < V1.heap.size := by have := hb.size; omega
  have hz2 : W0.heap.size + 1 < V1.heap.size := by have := hb.size; omega
  have bx1 := (bx.out.below hb (by omega)).cell
  have by1 := (by'.out.below hb (by omega)).cell
  clear hb bx by'
  have m1 : ¬ M < min X Y := by omega
  have m2 : ¬ max X Y < M := by omega
  have C0 : 0 ≤ a % 4294967296 := by omega
  have C1 : a % 4294967296 < 4294967296 := by omega
  have D0 : 0 ≤ b % 4294967296 := by omega
  have D1 : b % 4294967296 < 4294967296 := by omega
  have q1 := Lib.hid (show partI X Y (clampT 0) = X from partI_zero X Y)
  have q2 := Lib.hid (show partI X Y (clampT 1000) = Y from partI_all X Y)
  have q3 := Lib.hid (show mixC (a % 4294967296) (b % 4294967296) (clampT 0) = a % 4294967296 from mixC_zero _ C0 C1)
  have q4 := Lib.hid (show mixC (a % 4294967296) (b % 4294967296) (clampT 1000) = b % 4294967296 from mixC_all _ D0 D1)
  rcases Int.le_total X Y with hxy | hxy <;> go_wp2_with fail
  all_goals
    generalize hV2 : ((V1.alloc (.cells #[.int .i64 K, .int .i64 M] 39)).alloc (.cells #[.int .i64 5, .int .i64 (a % 4294967296)] 39)).alloc (.cells #[.int .i64 5, .int .i64 (b % 4294967296)] 39) = V2
    have HV2 := Lib.hid (show Below V1.heap.size V1 V2 by subst hV2; exact (((Below.refl _ _).alloc (Nat.le_refl _) _).alloc (by simp) _).alloc (by simp; omega) _)
    have hz3 : V1.heap.size + 3 ≤ V2.heap.size := by subst hV2; simp
    have qx : ∀ i, V2.cell? ⟨W0.heap.size, i, none⟩ = (#[.int .i64 K, .int .i64 X] : Array Value)[i]? := fun i => (HV2.out.cell (p := ⟨W0.heap.size, i, none⟩) hz1).trans (bx1 i)
    have qy : ∀ i, V2.cell? ⟨W0.heap.size + 1, i, none⟩ = (#[.int .i64 K, .int .i64 Y] : Array Value)[i]? := fun i => (HV2.out.cell (p := ⟨W0.heap.size + 1, i, none⟩) hz2).trans (by1 i)
    have qc := (show Blk V2 (V1.heap.size + 1) 39 #[.int .i64 5, .int .i64 (a % 4294967296)] by subst hV2; exact (Blk.new (by simp)).alloc _).cell
    have qd := (show Blk V2 (V1.heap.size + 1 + 1) 39 #[.int .i64 5, .int .i64 (b % 4294967296)] by subst hV2; exact (Blk.new (by simp))).cell
    clear hV2 bx1 by1
    have hz4 : W0.heap.size < V1.heap.size + 3 := by omega
    have hz5 : W0.heap.size + 1 < V1.heap.size + 3 := by omega
    clear hz1 hz2 m1 m2 hbt hK hX hY
    go_region_held3 (fun w' => (∀ b o, b < V1.heap.size + 3 → w'.cell? ⟨b, o, none⟩ = V2.cell? ⟨b, o, none⟩) ∧ Below (V1.heap.size + 3) V2 w')
      (first | exact As.beg | assumption | exact As.on hb3 (by assumption) hz3)
      (first
        | (go_at_call 17; (with_reducible refine (mix_num K X Y 0 _ k2 k4 x0 x1 y0 y1 X q1.out).mono ?_); rintro e w3 ⟨rfl, hb3⟩)
        | (go_at_call 17; (with_reducible refine (mix_num K X Y 1000 _ k2 k4 x0 x1 y0 y1 Y q2.out).mono ?_); rintro e w3 ⟨rfl, hb3⟩)
        | (go_at_call 17; (with_reducible refine (mix_num K X X t _ k2 k4 x0 x1 x0 x1 X (partI_same X _)).mono ?_); rintro e w3 ⟨rfl, hb3⟩)
        | (go_at_call 17; (with_reducible refine (mix_col (a % 4294967296) (b % 4294967296) 0 _ _ q3.out).mono ?_); rintro e w3 ⟨rfl, hb3⟩)
        | (go_at_call 17; (with_reducible refine (mix_col (a % 4294967296) (b % 4294967296) 1000 _ _ q4.out).mono ?_); rintro e w3 ⟨rfl, hb3⟩))
    go_wp2
    go_ret
    exact ⟨rfl, (HB0.out.trans (HV1.out.mono HB0.out.size)).trans (As.fin (HV2.out.mono (Nat.le_trans HB0.out.size HV1.out.size)) (by assumption) (Nat.le_trans (Nat.le_trans HB0.out.size HV1.out.size) (by omega)))⟩

set_option maxRecDepth 100000 in
theorem lifted (os : Os) (started : os.Started) (H : Type) (enc : TypeId × Value → H) :
    ReturnsInHanded {} Try.checked os 7 .any (Rows.animBetweenSpec.pre6 enc Try.prog Try.f7 Rows.animBetweenRow.domain false) (Rows.animBetweenSpec.post enc Try.prog Try.f7 false true false false) := by
  refine returnsInHanded_of_change (C := Try.checked) own started (by kernel_rfl) Try.func7
    (ChangeSpec.witness6 (enc := enc) (C := Try.checked) false ⟨#[], #[.int .i64 0, .int .i64 0, .int .i64 0, .int .i64 0], []⟩ 8 (by kernel_rfl) (by kernel_rfl) (by kernel_rfl) (by kernel_rfl)) ?_
  intro W base args ds gs before hval0 hW _ _
  have hval : ∀ (j : Nat) t v, Try.f7.params[j]? = some t → args[j]? = some v → Value.okWide Try.prog W .any base t v := hval0
  have hW' := hW
  obtain ⟨p, q, hA0, hV, -, -, -⟩ := hW
  have hA : DataW.TrodAll enc Try.prog W 0 (fun _ => true) true Try.f7.params.toList args.toList ds p := hA0
  rw [Try.params7] at hA hval
  obtain ⟨v0, vs0, d0, ds0, p0, q0, hargs, rfl, -, h0, r0⟩ := trodAll_cons hA
  obtain ⟨v1, vs1, d1, ds1, p1, q1, rfl, rfl, -, h1, r1⟩ := trodAll_cons r0
  obtain ⟨v2, vs2, d2, ds2, p2, q2, rfl, rfl, -, h2, r2⟩ := trodAll_cons r1
  obtain ⟨v3, vs3, d3, ds3, p3, q3, rfl, rfl, -, h3, r3⟩ := trodAll_cons r2
  obtain ⟨rfl, rfl, -⟩ := trodAll_nil r3
  obtain rfl : args = #[v0, v1, v2, v3] := by cases args; simp_all
  obtain ⟨rfl, -⟩ := trodVars_none hV
  obtain ⟨a0, rfl, -, -, -⟩ := open_int Try.underlying3 (hval 0 _ _ rfl rfl) h0
  obtain ⟨a1, rfl, -, -, -⟩ := open_int Try.underlying3 (hval 1 _ _ rfl rfl) h1
  obtain ⟨a2, rfl, -, -, -⟩ := open_int Try.underlying3 (hval 2 _ _ rfl rfl) h2
  obtain ⟨a3, rfl, -, -, -⟩ := open_int Try.underlying3 (hval 3 _ _ rfl rfl) h3
  exact (between_ct a0 a1 a2 a3 W).mono fun e W' ⟨he, bel⟩ => ⟨_, he, law_post laidOut rfl Try.underlying4 rfl (by intro t ht; rw [Try.params7] at ht; revert t; decide +kernel) rfl hW' bel⟩

theorem proved : Rows.AnimBetweenSaid :=
  OpenClaim.holds_of_wide 7 Try.f7 rfl rfl rfl rfl rfl rfl rfl ⟨rfl, rfl, rfl, rfl, rfl⟩ rfl rfl rfl rfl rfl (by kernel_rfl) Try.func7 (by kernel_rfl)
    (of_decide_eq_true (by kernel_rfl)) (by unfold Func.isWrapper; first | (rw [if_pos (by decide +kernel)]; kernel_rfl) | (rw [if_neg (by decide +kernel)]; exact ⟨rfl, rfl⟩))
    (fun os started H enc _ => lifted os started H enc)

end Go.Proofs.Ytchmpdibbklpfaa.anim.between
