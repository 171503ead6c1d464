/- CascadeTotal: for every three values that are given the call returns true, and all that was there reads as before. No condition. -/
import Derived.Test.YtchmpdibbklpfaaCas1
namespace Go.Proofs.Ytchmpdibbklpfaa.cas
open Go.RowKit Go.Proofs.Ytchmpdibbklpfaa.base Go.ChangeShapes Go.WideShapes Go.ChangeAt

set_option maxRecDepth 100000 in
set_option maxHeartbeats 2000000 in
theorem law_ct (n1 v1 : ByteArray) (o1 : Int) (i1 : Bool) (w1 p1 : Int) (n2 v2 : ByteArray) (o2 : Int) (i2 : Bool) (w2 p2 : Int) (n3 v3 : ByteArray) (o3 : Int) (i3 : Bool) (w3 p3 : Int) (w : World) :
    Calls Try.prog 3 #[.agg #[.string n1, .string v1, .int .i64 o1, .bool i1, .int .i64 w1, .int .i64 p1], .agg #[.string n2, .string v2, .int .i64 o2, .bool i2, .int .i64 w2, .int .i64 p2], .agg #[.string n3, .string v3, .int .i64 o3, .bool i3, .int .i64 w3, .int .i64 p3]] w
      fun e w' => e = .returned (.bool true) ∧ Below w.heap.size w w' := by
  go_enter Try.func3, Try.ntmps3
  go_wp2_with fail
  generalize hW0 : ((w.alloc (sgo n1 v1 o1 i1 w1 p1)).alloc (sgo n2 v2 o2 i2 w2 p2)).alloc (sgo n3 v3 o3 i3 w3 p3) = W0
  have HB := Lib.hid (show Below w.heap.size w W0 by subst hW0; exact (((Below.refl _ _).alloc (Nat.le_refl _) _).alloc (by simp) _).alloc (by simp; omega) _)
  have HZ : w.heap.size + 3 ≤ W0.heap.size := by subst hW0; simp
  have c0 : ∀ i, W0.cell? ⟨w.heap.size, i, none⟩ = (#[.string n1, .string v1, .int .i64 o1, .bool i1, .int .i64 w1, .int .i64 p1] : Array Value)[i]? := by
    intro i; subst hW0
    rw [World.cell?_alloc_past _ _ _ (by simp; omega), World.cell?_alloc_past _ _ _ (by simp), World.cell?_alloc_new]
  have d0 : ∀ i, W0.cell? ⟨w.heap.size + 1, i, none⟩ = (#[.string n2, .string v2, .int .i64 o2, .bool i2, .int .i64 w2, .int .i64 p2] : Array Value)[i]? := by
    intro i; subst hW0
    rw [World.cell?_alloc_past _ _ _ (by simp), World.cell?_alloc_at _ _ _ _ (by simp)]
  have e0 : ∀ i, W0.cell? ⟨w.heap.size + 2, i, none⟩ = (#[.string n3, .string v3, .int .i64 o3, .bool i3, .int .i64 w3, .int .i64 p3] : Array Value)[i]? := by
    intro i; subst hW0
    rw [World.cell?_alloc_at _ _ _ _ (by simp)]
  clear hW0
  refine (own_ct _).mono ?_
  rintro e W1 ⟨rfl, hb⟩
  have hS := As.on hb (As.beg0 (B := w.heap.size + 3) (W0 := W0)) HZ
  clear hb
  go_wp2_with fail
  refine (less_ct _ _ _ _ _ _ _ _ _ _ _ _ _).mono ?_
  rintro e W1 ⟨rfl, hb⟩
  replace hS := As.on hb hS HZ
  clear hb
  obtain ⟨ab, Hab⟩ : ∃ b, b = decide (cmpG o1 i1 w1 p1 o2 i2 w2 p2 < 0) := ⟨_, rfl⟩
  rw [← Hab]
  replace Hab := Lib.hid Hab
  go_wp2_with fail
  refine (less_ct _ _ _ _ _ _ _ _ _ _ _ _ _).mono ?_
  rintro e W1 ⟨rfl, hb⟩
  replace hS := As.on hb hS HZ
  clear hb
  obtain ⟨ba, Hba⟩ : ∃ b, b = decide (cmpG o2 i2 w2 p2 o1 i1 w1 p1 < 0) := ⟨_, rfl⟩
  rw [← Hba]
  replace Hba := Lib.hid Hba
  go_wp2_with fail
  refine (less_ct _ _ _ _ _ _ _ _ _ _ _ _ _).mono ?_
  rintro e W1 ⟨rfl, hb⟩
  replace hS := As.on hb hS HZ
  clear hb
  obtain ⟨bc, Hbc⟩ : ∃ b, b = decide (cmpG o2 i2 w2 p2 o3 i3 w3 p3 < 0) := ⟨_, rfl⟩
  rw [← Hbc]
  replace Hbc := Lib.hid Hbc
  go_wp2_with fail
  refine (less_ct _ _ _ _ _ _ _ _ _ _ _ _ _).mono ?_
  rintro e W1 ⟨rfl, hb⟩
  replace hS := As.on hb hS HZ
  clear hb
  obtain ⟨ac, Hac⟩ : ∃ b, b = decide (cmpG o1 i1 w1 p1 o3 i3 w3 p3 < 0) := ⟨_, rfl⟩
  rw [← Hac]
  replace Hac := Lib.hid Hac
  go_wp2_with fail
  refine (less_ct _ _ _ _ _ _ _ _ _ _ _ _ _).mono ?_
  rintro e W1 ⟨rfl, hb⟩
  replace hS := As.on hb hS HZ
  clear hb
  obtain ⟨ca, Hca⟩ : ∃ b, b = decide (cmpG o3 i3 w3 p3 o1 i1 w1 p1 < 0) := ⟨_, rfl⟩
  rw [← Hca]
  replace Hca := Lib.hid Hca
  go_wp2_with fail
  refine (less_ct _ _ _ _ _ _ _ _ _ _ _ _ _).mono ?_
  rintro e W1 ⟨rfl, hb⟩
  replace hS := As.on hb hS HZ
  clear hb
  obtain ⟨cb, Hcb⟩ : ∃ b, b = decide (cmpG o3 i3 w3 p3 o2 i2 w2 p2 < 0) := ⟨_, rfl⟩
  rw [← Hcb]
  replace Hcb := Lib.hid Hcb
  go_wp2_with fail
  refine (less_ct _ _ _ _ _ _ _ _ _ _ _ _ _).mono ?_
  rintro e W1 ⟨rfl, hb⟩
  replace hS := As.on hb hS HZ
  clear hb
  obtain ⟨aa, Haa⟩ : ∃ b, b = decide (cmpG o1 i1 w1 p1 o1 i1 w1 p1 < 0) := ⟨_, rfl⟩
  rw [← Haa]
  replace Haa := Lib.hid Haa
  obtain ⟨t1, t2, t3, t4⟩ := total o1 i1 w1 p1 o2 i2 w2 p2 o3 i3 w3 p3
  simp only [lt] at t1 t2 t3 t4
  rw [← Hab.out, ← Hba.out, ← Hac.out, ← Hbc.out, ← Hca.out, ← Hcb.out] at t4
  rw [← Hab.out, ← Hbc.out, ← Hac.out] at t3
  rw [← Hab.out, ← Hba.out] at t2
  rw [← Haa.out] at t1
  clear Hab Hba Hac Hbc Hca Hcb Haa
  subst t1
  have hfin := As.fin HB.out hS (by omega)
  clear hS c0 d0 e0 HZ HB
  cases ab <;> cases ba <;> cases bc <;> cases ac <;> cases ca <;> cases cb <;> (try (exfalso; revert t2 t3 t4; decide)) <;> clear t2 t3 t4
  all_goals
    go_wp2
    go_ret
    exact ⟨rfl, hfin⟩

theorem own : ownKnob Try.prog.godebug = none := by kernel_rfl
theorem laidOut : laidOutB Try.prog = true := by kernel_rfl

section
variable {H : Type} {enc : TypeId × Value → H} {w : World} {base : Nat} {spare : Nat → Bool} {held : Bool}
/-- a value that is given, as it comes in -/
theorem open_given {r : Reach} {b0 : Nat} {v : Value} {d : DataW H} {p : List MemPlace} (hv : Value.okWide Try.prog w r b0 23 v) (h : DataW.Trod enc Try.prog w base spare held 23 v d p) :
    ∃ (nm vl : ByteArray) (o : Int) (imp : Bool) (wt pl : Int), v = .agg #[.string nm, .string vl, .int .i64 o, .bool imp, .int .i64 wt, .int .i64 pl] := by
  obtain ⟨cs, rfl, hsz, hf⟩ := open_flat Try.underlying23 (by kernel_rfl) (by kernel_rfl) hv h
  obtain ⟨u0, y0, n0, g0, h0⟩ := hf 0 _ rfl
  obtain ⟨u1, y1, n1, g1, h1⟩ := hf 1 _ rfl
  obtain ⟨u2, y2, n2, g2, h2⟩ := hf 2 _ rfl
  obtain ⟨u3, y3, n3, g3, h3⟩ := hf 3 _ rfl
  obtain ⟨u4, y4, n4, g4, h4⟩ := hf 4 _ rfl
  obtain ⟨u5, y5, n5, g5, h5⟩ := hf 5 _ rfl
  obtain ⟨nm, e0, _, _⟩ := DataW.trod_string Try.underlying9 h0
  obtain ⟨vl, e1, _, _⟩ := DataW.trod_string Try.underlying9 h1
  obtain ⟨o, e2, _, _⟩ := DataW.trod_int Try.underlying3 h2
  obtain ⟨imp, e3, _⟩ := DataW.trod_bool Try.underlying4 h3
  obtain ⟨wt, e4, _, _⟩ := DataW.trod_int Try.underlying3 h4
  obtain ⟨pl, e5, _, _⟩ := DataW.trod_int Try.underlying3 h5
  simp only [List.cons.injEq, and_true] at e0 e1 e2 e3 e4 e5
  subst e0 e1 e2 e3 e4 e5
  obtain ⟨l⟩ := cs
  match l, hsz with
  | [a0, a1, a2, a3, a4, a5], _ =>
    simp at g0 g1 g2 g3 g4 g5
    subst g0 g1 g2 g3 g4 g5
    exact ⟨_, _, _, _, _, _, rfl⟩
end

set_option maxRecDepth 100000 in
theorem lifted (os : Os) (started : os.Started) (H : Type) (enc : TypeId × Value → H) :
    ReturnsInHanded {} Try.checked os 3 .any (Rows.cascadeTotalSpec.pre6 enc Try.prog Try.f3 Rows.cascadeTotalRow.domain false) (Rows.cascadeTotalSpec.post enc Try.prog Try.f3 false true false false) := by
  refine returnsInHanded_of_change (C := Try.checked) own started (by kernel_rfl) Try.func3
    (ChangeSpec.witness6 (enc := enc) (C := Try.checked) false ⟨#[], #[.agg #[.string .empty, .string .empty, .int .i64 0, .bool false, .int .i64 0, .int .i64 0], .agg #[.string .empty, .string .empty, .int .i64 0, .bool false, .int .i64 0, .int .i64 0], .agg #[.string .empty, .string .empty, .int .i64 0, .bool false, .int .i64 0, .int .i64 0]], []⟩ 8 (by kernel_rfl) (by kernel_rfl) (by kernel_rfl) (by kernel_rfl)) ?_
  intro W base args ds gs before hval0 hW _ _
  have hval : ∀ (j : Nat) t v, Try.f3.params[j]? = some t → args[j]? = some v → Value.okWide Try.prog W .any base t v := hval0
  have hW' := hW
  obtain ⟨p, q, hA0, hV, -, -, -⟩ := hW
  have hA : DataW.TrodAll enc Try.prog W 0 (fun _ => true) true Try.f3.params.toList args.toList ds p := hA0
  rw [Try.params3] at hA hval
  obtain ⟨v0, vs0, d0, ds0, p0, q0, hargs, rfl, -, h0, r0⟩ := trodAll_cons hA
  obtain ⟨v1, vs1, d1, ds1, p1, q1, rfl, rfl, -, h1, r1⟩ := trodAll_cons r0
  obtain ⟨v2, vs2, d2, ds2, p2, q2, rfl, rfl, -, h2, r2⟩ := trodAll_cons r1
  obtain ⟨rfl, rfl, -⟩ := trodAll_nil r2
  obtain rfl : args = #[v0, v1, v2] := by cases args; simp_all
  obtain ⟨rfl, -⟩ := trodVars_none hV
  obtain ⟨_, _, _, _, _, _, rfl⟩ := open_given (hval 0 _ _ rfl rfl) h0
  obtain ⟨_, _, _, _, _, _, rfl⟩ := open_given (hval 1 _ _ rfl rfl) h1
  obtain ⟨_, _, _, _, _, _, rfl⟩ := open_given (hval 2 _ _ rfl rfl) h2
  exact (law_ct _ _ _ _ _ _ _ _ _ _ _ _ _ _ _ _ _ _ W).mono fun e W' ⟨he, bel⟩ => ⟨_, he, law_post laidOut rfl Try.underlying4 rfl (by intro t ht; rw [Try.params3] at ht; revert t; decide +kernel) rfl hW' bel⟩

theorem proved : Rows.CascadeTotalSaid :=
  OpenClaim.holds_of_wide 3 Try.f3 rfl rfl rfl rfl rfl rfl rfl ⟨rfl, rfl, rfl, rfl, rfl⟩ rfl rfl rfl rfl rfl (by kernel_rfl) Try.func3 (by kernel_rfl)
    (of_decide_eq_true (by kernel_rfl)) (by unfold Func.isWrapper; first | (rw [if_pos (by decide +kernel)]; kernel_rfl) | (rw [if_neg (by decide +kernel)]; exact ⟨rfl, rfl⟩))
    (fun os started H enc _ => lifted os started H enc)
#print axioms proved
end Go.Proofs.Ytchmpdibbklpfaa.cas
