/- AnimMoved: for every list of changes, value, time and shift the call returns true, and all that was there reads as before. No condition. -/
import Derived.Test.YtchmpdibbklpfaaAnim12
import Derived.Test.YtchmpdibbklpfaaBase4
namespace Go.Proofs.Ytchmpdibbklpfaa.anim.moved
open Go.RowKit Go.Proofs.Ytchmpdibbklpfaa.base Go.ChangeShapes Go.WideShapes Go.ChangeAt
set_option linter.unusedVariables false

set_option maxRecDepth 100000 in
set_option maxHeartbeats 4000000 in
theorem law_ct (A : Option Addr) (n cap : Nat) (L : List AnimD) (bk bn now x : Int) (w : World) (hn : n ≤ maxLen) (hL : LRd w w.heap.size A n L) :
    Calls Try.prog 8 #[.slice A n cap, .agg #[.int .i64 bk, .int .i64 bn], .int .i64 now, .int .i64 x] w fun e w' => e = .returned (.bool true) ∧ Below w.heap.size w w' := by
  obtain ⟨m, hm, m0, m1⟩ := shift_by x
  have HL := Lib.hid hL
  have HN := Lib.hid hn
  clear hL hn
  go_enter Try.func8, Try.ntmps8
  go_wp2_with fail
  generalize hW0 : w.alloc (.cells #[.int .i64 bk, .int .i64 bn] 39) = W0
  have HB := Lib.hid (show Below w.heap.size w W0 by subst hW0; exact (Below.refl _ _).alloc (Nat.le_refl _) _)
  have HZ : w.heap.size + 1 ≤ W0.heap.size := by subst hW0; simp
  have bb := Lib.hid (show Blk W0 w.heap.size 39 #[.int .i64 bk, .int .i64 bn] by subst hW0; exact Blk.new rfl)
  clear hW0
  refine (stepped_ct _).mono ?_
  rintro e W1 ⟨rfl, hb⟩
  have HB1 := Lib.hid (HB.out.trans (hb.mono HB.out.size))
  have bb1 := Lib.hid (bb.out.below hb (by omega))
  have c1 := bb1.out.cell
  clear hb bb HB HZ
  go_wp2_with fail
  refine (at_ct A n cap L bk bn now _ HN.out (HL.out.keep HB1.out HB1.out.size)).mono ?_
  rintro e W2 ⟨rfl, hb⟩
  have HB2 := Lib.hid (HB1.out.trans (hb.mono HB1.out.size))
  have bb2 := Lib.hid (bb1.out.below hb bb1.out.lt)
  have c2 := bb2.out.cell
  have z2 := bb2.out.lt
  clear hb c1 bb1 HB1
  obtain ⟨V, hV⟩ : ∃ V, V = atV L (bk, bn) now := ⟨_, rfl⟩
  rw [← hV]
  by_cases hr : rightE L now = 0
  · rw [hr]
    obtain ⟨r1, r2, r3, r4⟩ := right_ok hr
    have hn10 : n ≤ 10 := by have := HL.out.1; omega
    have hf := Lib.hid (show ∀ d ∈ L, 0 ≤ d.from_ ∧ d.from_ ≤ 100000000 from fun d hd => by
      obtain ⟨i, hi, rfl⟩ := List.mem_iff_getElem.1 hd
      exact (okA (r2 i _ (List.getElem?_eq_getElem hi))).fr)
    replace hV := Lib.hid hV
    replace hr := Lib.hid hr
    clear r2 r1
    go_wp2_with fail
    generalize hV0 : W2.alloc (.cells #[.int .i64 V.1, .int .i64 V.2] 39) = V0
    have S0 : (∀ i, V0.cell? ⟨w.heap.size, i, none⟩ = (#[.int .i64 bk, .int .i64 bn] : Array Value)[i]?) ∧ (∀ i, V0.cell? ⟨W2.heap.size, i, none⟩ = (#[.int .i64 V.1, .int .i64 V.2] : Array Value)[i]?) ∧ W2.heap.size + 1 ≤ V0.heap.size ∧ Below w.heap.size w V0 := by
      subst hV0
      exact ⟨(bb2.out.alloc _).cell, (Blk.new rfl).cell, by simp, HB2.out.alloc HB2.out.size _⟩
    have zs := HB2.out.size
    have zw : w.heap.size < W2.heap.size + 1 := by omega
    have zv : W2.heap.size < W2.heap.size + 1 := by omega
    have zb : w.heap.size ≤ W2.heap.size + 1 := by omega
    have wn : IntKind.i64.wrap (now + m) = now + m := IntWalk.i64_in _ (by omega)
    clear hV0 c2
    have zV0 := S0.2.2.1
    replace S0 := Lib.hid S0
    go_region_held3 (fun w' => (∀ i, w'.cell? ⟨w.heap.size, i, none⟩ = (#[.int .i64 bk, .int .i64 bn] : Array Value)[i]?) ∧ (∀ i, w'.cell? ⟨W2.heap.size, i, none⟩ = (#[.int .i64 V.1, .int .i64 V.2] : Array Value)[i]?) ∧ W2.heap.size + 1 ≤ w'.heap.size ∧ Below w.heap.size w w')
      (first | exact own2_drew S0.out | assumption | exact own2_on hb3 (by assumption) zw zv zb | exact own2_alloc (by assumption) zw zv zb | exact own2_drew (own2_alloc S0.out zw zv zb) | exact own2_alloc hs4.out zw zv zb | exact own2_put (own2_put (by assumption) zw zv zb (by dsimp only; omega)) zw zv zb (by dsimp only; omega))
      (first
        | (go_at_call 19; have hs := (by assumption : (∀ i, World.cell? _ ⟨w.heap.size, i, none⟩ = (#[.int .i64 bk, .int .i64 bn] : Array Value)[i]?) ∧ _ ∧ _ ∧ Below w.heap.size w _); (with_reducible refine (moved_ct A n cap L m _ hn10 (HL.out.keep hs.2.2.2 hs.2.2.2.size) hf.out m0 m1).mono ?_); clear hs; rintro e w3 ⟨⟨A3, cap3, rfl, hL3⟩, hb3⟩; have z3 := (own2_on hb3 (by assumption : (∀ i, World.cell? _ ⟨w.heap.size, i, none⟩ = (#[.int .i64 bk, .int .i64 bn] : Array Value)[i]?) ∧ (∀ i, World.cell? _ ⟨W2.heap.size, i, none⟩ = (#[.int .i64 V.1, .int .i64 V.2] : Array Value)[i]?) ∧ _ ∧ Below w.heap.size w _) zw zv zb).2.2.1; replace hL3 := Lib.hid hL3; try (have q3 := Lib.hid (Blk.below (show Blk (V0.alloc (.cells #[.int .i64 0, .int .i64 0] 39)).drew V0.heap.size 39 #[.int .i64 0, .int .i64 0] from Blk.new rfl) hb3 (by simp))))
        | (go_at_call 18; (with_reducible refine (at_ct A3 n cap3 (L.map (·.shift m)) bk bn (now + m) _ HN.out (by first | exact hL3.out | exact hL3.out.keep ((Below.refl _ _).alloc (Nat.le_refl _) _) (by simp))).mono ?_); rintro e w4 ⟨rfl, hb3⟩; have hs4 := Lib.hid (own2_on hb3 (by assumption : (∀ i, World.cell? _ ⟨w.heap.size, i, none⟩ = (#[.int .i64 bk, .int .i64 bn] : Array Value)[i]?) ∧ (∀ i, World.cell? _ ⟨W2.heap.size, i, none⟩ = (#[.int .i64 V.1, .int .i64 V.2] : Array Value)[i]?) ∧ _ ∧ Below w.heap.size w _) zw zv zb); (first | (have q4 := Lib.hid (Blk.below q3.out hb3 q3.out.lt); have q4c := q4.out.cell; have q4f := q4.out.frozen) | (have q4 := Lib.hid (Blk.below (show Blk (w3.alloc (.cells #[.int .i64 0, .int .i64 0] 39)) w3.heap.size 39 #[.int .i64 0, .int .i64 0] from Blk.new rfl) hb3 (by simp)); have q4c := q4.out.cell; have q4f := q4.out.frozen) | skip)))
    all_goals
      have hs := (by assumption : (∀ i, World.cell? _ ⟨w.heap.size, i, none⟩ = (#[.int .i64 bk, .int .i64 bn] : Array Value)[i]?) ∧ (∀ i, World.cell? _ ⟨W2.heap.size, i, none⟩ = (#[.int .i64 V.1, .int .i64 V.2] : Array Value)[i]?) ∧ _ ∧ Below w.heap.size w _)
      have hfin := hs.2.2.2
      have hv5 := hs.2.1
      clear hs
      try (have q5 := ((q4.out.put 0 (.int .i64 (atV (L.map (·.shift m)) (bk, bn) (now + m)).1)).put 1 (.int .i64 (atV (L.map (·.shift m)) (bk, bn) (now + m)).2)).cell)
      generalize hVV : atV (L.map (·.shift m)) (bk, bn) (now + m) = VV at *
      generalize hRR : rightE (L.map (·.shift m)) (now + m) = RR at *
      replace hfin := Lib.hid hfin
      by_cases h0 : RR = 0
      · obtain rfl : VV = V := by rw [← hVV, hV.out]; exact at_shift _ hr.out (by rw [hRR]; exact h0)
        subst h0
        clear hVV hRR
        go_wp2
        go_ret
        exact ⟨rfl, hfin.out⟩
      · have h0' : (RR != 0) = true := by simp [h0]
        clear hVV hRR h0
        go_wp2
        go_ret
        exact ⟨rfl, hfin.out⟩
  · have hr' : (rightE L now != 0) = true := by simp [hr]
    have hV0 : V = (0, 0) := by rw [hV, atV, if_neg hr]
    clear hV hr
    subst hV0
    go_wp2
    go_ret
    exact ⟨rfl, HB2.out.alloc HB2.out.size _⟩

set_option maxRecDepth 100000 in
theorem lifted (os : Os) (started : os.Started) (H : Type) (enc : TypeId × Value → H) :
    ReturnsInHanded {} Try.checked os 8 .any (Rows.animMovedSpec.pre6 enc Try.prog Try.f8 Rows.animMovedRow.domain false) (Rows.animMovedSpec.post enc Try.prog Try.f8 false true false false) := by
  refine returnsInHanded_of_change (C := Try.checked) own started (by kernel_rfl) Try.func8
    (ChangeSpec.witness6 (enc := enc) (C := Try.checked) false ⟨#[], #[.slice none 0 0, .agg #[.int .i64 0, .int .i64 0], .int .i64 0, .int .i64 0], []⟩ 8 (by kernel_rfl) (by kernel_rfl) (by kernel_rfl) (by kernel_rfl)) ?_
  intro W base args ds gs before hval0 hW _ _
  have hval : ∀ (j : Nat) t v, Try.f8.params[j]? = some t → args[j]? = some v → Value.okWide Try.prog W .any base t v := hval0
  have hW' := hW
  obtain ⟨p, q, hA0, hV, -, -, -⟩ := hW
  have hA : DataW.TrodAll enc Try.prog W 0 (fun _ => true) true Try.f8.params.toList args.toList ds p := hA0
  rw [Try.params8] at hA hval
  obtain ⟨v0, vs0, d0, ds0, p0, q0, hargs, rfl, -, h0, r0⟩ := trodAll_cons hA
  obtain ⟨v1, vs1, d1, ds1, p1, q1, rfl, rfl, -, h1, r1⟩ := trodAll_cons r0
  obtain ⟨v2, vs2, d2, ds2, p2, q2, rfl, rfl, -, h2, r2⟩ := trodAll_cons r1
  obtain ⟨v3, vs3, d3, ds3, p3, q3, rfl, rfl, -, h3, r3⟩ := trodAll_cons r2
  obtain ⟨rfl, rfl, -⟩ := trodAll_nil r3
  obtain rfl : args = #[v0, v1, v2, v3] := by cases args; simp_all
  obtain ⟨rfl, -⟩ := trodVars_none hV
  obtain ⟨A, n, cap, L, rfl, hn, hL⟩ := arg_anims (hval 0 _ _ rfl rfl) h0
  obtain ⟨bk, bn, rfl⟩ := arg_val (hval 1 _ _ rfl rfl) h1
  obtain ⟨now, rfl, -, -, -⟩ := open_int Try.underlying3 (hval 2 _ _ rfl rfl) h2
  obtain ⟨x, rfl, -, -, -⟩ := open_int Try.underlying3 (hval 3 _ _ rfl rfl) h3
  exact (law_ct A n cap L bk bn now x W hn hL).mono fun e W' ⟨he, bel⟩ => ⟨_, he, law_post laidOut rfl Try.underlying4 rfl (by intro t ht; rw [Try.params8] at ht; revert t; decide +kernel) rfl hW' bel⟩

theorem proved : Rows.AnimMovedSaid :=
  OpenClaim.holds_of_wide 8 Try.f8 rfl rfl rfl rfl rfl rfl rfl ⟨rfl, rfl, rfl, rfl, rfl⟩ rfl rfl rfl rfl rfl (by kernel_rfl) Try.func8 (by kernel_rfl)
    (of_decide_eq_true (by kernel_rfl)) (by unfold Func.isWrapper; first | (rw [if_pos (by decide +kernel)]; kernel_rfl) | (rw [if_neg (by decide +kernel)]; exact ⟨rfl, rfl⟩))
    (fun os started H enc _ => lifted os started H enc)

end Go.Proofs.Ytchmpdibbklpfaa.anim.moved
