/- AnimTurned: for every change and every two numbers the call returns true, and all that was there reads as before. No condition. -/
import Derived.Test.YtchmpdibbklpfaaAnim12
namespace Go.Proofs.Ytchmpdibbklpfaa.anim.turned
open Go.RowKit Go.Proofs.Ytchmpdibbklpfaa.base Go.ChangeShapes Go.WideShapes Go.ChangeAt
set_option linter.unusedVariables false

theorem one_LRd {w : World} {g : Nat} {d : AnimD} (h : Blk w g 50 d.cells) (hd : AnRd w w.heap.size d) : LRd w w.heap.size (some ⟨g, 0, none⟩) 1 [d] := by
  refine ⟨rfl, fun _ => ⟨g, 0, rfl, h.lt, fun i e he => ?_⟩⟩
  cases i with
  | zero =>
    simp at he
    subst he
    exact ⟨fun j hj => by simpa using h.cell j, hd⟩
  | succ i => simp at he

/-- what the law makes of a change -/
def tw (d : AnimD) (k : Int) : AnimD := { d with len := 1000 * k, times := 2, turn := true }

theorem rightE_one (d : AnimD) (now : Int) : rightE [d] now = if checkE d = 0 then (if inB now 0 200000000000 then 0 else 1) else checkE d := by
  unfold rightE
  by_cases h : checkE d = 0 <;> simp [h]

theorem place1 {k j : Int} (k0 : 1 ≤ k) (j0 : 1 ≤ j) (j1 : j ≤ 999) : (k * j) % (1000 * k) * 1000 / (1000 * k) = j ∧ (k * j) / (1000 * k) = 0 ∧ k * j < 1000 * k ∧ 0 < k * j := by
  have h0 : 0 < k * j := Int.mul_pos (by omega) (by omega)
  have h1 : k * j < 1000 * k := by rw [Int.mul_comm 1000 k]; exact Int.mul_lt_mul_of_pos_left (by omega) (by omega)
  refine ⟨?_, Int.ediv_eq_zero_of_lt (by omega) h1, h1, h0⟩
  rw [Int.emod_eq_of_lt (by omega) h1, show k * j * 1000 = j * (1000 * k) by grind]
  exact Int.mul_ediv_cancel _ (by omega)

theorem place2 {k j : Int} (k0 : 1 ≤ k) (j0 : 1 ≤ j) (j1 : j ≤ 999) : (2 * (1000 * k) - k * j) % (1000 * k) * 1000 / (1000 * k) = 1000 - j ∧ (2 * (1000 * k) - k * j) / (1000 * k) = 1 := by
  obtain ⟨_, _, h1, h0⟩ := place1 k0 j0 j1
  have e : 2 * (1000 * k) - k * j = (1000 * k - k * j) + 1 * (1000 * k) := by omega
  have g0 : 0 ≤ 1000 * k - k * j := by omega
  have g1 : 1000 * k - k * j < 1000 * k := by omega
  rw [e, Int.add_mul_emod_self_right, Int.add_mul_ediv_right _ _ (by omega), Int.emod_eq_of_lt g0 g1, Int.ediv_eq_zero_of_lt g0 g1]
  refine ⟨?_, rfl⟩
  rw [show (1000 * k - k * j) * 1000 = (1000 - j) * (1000 * k) by grind]
  exact Int.mul_ediv_cancel _ (by omega)

theorem tells_turned (d : AnimD) {k j : Int} (k0 : 1 ≤ k) (j0 : 1 ≤ j) (j1 : j ≤ 999) : tellsP (tw d k) (d.from_ + k * j) = tellsP (tw d k) (d.from_ + 2 * (1000 * k) - k * j) := by
  obtain ⟨p1, p2, h1, h0⟩ := place1 k0 j0 j1
  obtain ⟨q1, q2⟩ := place2 k0 j0 j1
  have e1 : placeI (tw d k) (d.from_ + k * j) = j := by
    have e : d.from_ + k * j - d.from_ = k * j := by omega
    simp only [placeI, tw, e, p1, p2]
    rfl
  have e2 : placeI (tw d k) (d.from_ + 2 * (1000 * k) - k * j) = j := by
    have e : d.from_ + 2 * (1000 * k) - k * j - d.from_ = 2 * (1000 * k) - k * j := by omega
    simp only [placeI, tw, e, q1, q2]
    simp
    omega
  have hend : endI (tw d k) = d.from_ + 2 * (1000 * k) := rfl
  have hfr : (tw d k).from_ = d.from_ := rfl
  simp only [tellsP, e1, e2, hend, hfr]
  rw [if_neg (by omega), if_neg (by omega), if_neg (by omega), if_neg (by omega)]

/-- both times are asked alike -/
theorem turned_err (d : AnimD) {k j n1 n2 : Int} (k0 : 1 ≤ k) (k1 : k ≤ 1000) (j0 : 1 ≤ j) (j1 : j ≤ 999) (h1 : wrap64 (d.from_ + k * j) = n1) (h2 : wrap64 (wrap64 (d.from_ + 2 * (1000 * k)) - k * j) = n2) :
    rightE [tw d k] n1 = rightE [tw d k] n2 ∧ (rightE [tw d k] n1 = 0 → atV [tw d k] (0, 0) n1 = atV [tw d k] (0, 0) n2) := by
  rw [rightE_one, rightE_one]
  by_cases hc : checkE (tw d k) = 0
  · obtain ⟨f0, f1⟩ := (okA hc).fr
    have f0' : 0 ≤ d.from_ := f0
    have f1' : d.from_ ≤ 100000000 := f1
    obtain ⟨_, _, x1, x0⟩ := place1 k0 j0 j1
    rw [IntWalk.wrap64_in _ (by omega)] at h1
    rw [IntWalk.wrap64_in (d.from_ + 2 * (1000 * k)) (by omega), IntWalk.wrap64_in _ (by omega)] at h2
    subst h1 h2
    have b1 : inB (d.from_ + k * j) 0 200000000000 = true := (inB_iff _ _ _).2 (by omega)
    have b2 : inB (d.from_ + 2 * (1000 * k) - k * j) 0 200000000000 = true := (inB_iff _ _ _).2 (by omega)
    rw [if_pos hc, if_pos hc, b1, b2]
    refine ⟨rfl, fun _ => ?_⟩
    have r1 : rightE [tw d k] (d.from_ + k * j) = 0 := by rw [rightE_one, if_pos hc, b1]; rfl
    have r2 : rightE [tw d k] (d.from_ + 2 * (1000 * k) - k * j) = 0 := by rw [rightE_one, if_pos hc, b2]; rfl
    rw [atV, atV, if_pos r1, if_pos r2]
    simp only [List.foldl_cons, List.foldl_nil, stepP, tells_turned d k0 j0 j1]
  · rw [if_neg hc, if_neg hc]
    exact ⟨rfl, fun h => absurd h hc⟩

theorem one_of (n : Int) (m : Int) (hm : m = 1000 ∨ m = 999) : ∃ k, wrap64 (1 + wrap64 ((IntKind.u64.wrap n).tmod m)) = k ∧ 1 ≤ k ∧ k ≤ m := by
  have h0 : 0 ≤ IntKind.u64.wrap n := by simp [IntKind.wrap, IntKind.bits, IntKind.signed]; omega
  generalize IntKind.u64.wrap n = u at *
  rcases hm with rfl | rfl
  · rw [Int.tmod_eq_emod_of_nonneg h0, IntWalk.wrap64_in (u % 1000) (by omega), IntWalk.wrap64_in _ (by omega)]
    exact ⟨_, rfl, by omega, by omega⟩
  · rw [Int.tmod_eq_emod_of_nonneg h0, IntWalk.wrap64_in (u % 999) (by omega), IntWalk.wrap64_in _ (by omega)]
    exact ⟨_, rfl, by omega, by omega⟩

set_option maxRecDepth 100000 in
set_option maxHeartbeats 4000000 in
theorem law_ct (d : AnimD) (n m : Int) (w : World) (hd : AnRd w w.heap.size d) :
    Calls Try.prog 10 #[.agg d.cells, .int .i64 n, .int .i64 m] w fun e w' => e = .returned (.bool true) ∧ Below w.heap.size w w' := by
  obtain ⟨k, hk, k0, k1⟩ := one_of n 1000 (.inl rfl)
  obtain ⟨j, hj, j0, j1⟩ := one_of m 999 (.inr rfl)
  obtain ⟨p1, p2⟩ := mulb (show 0 ≤ k by omega) k1 (show 0 ≤ j by omega) j1
  obtain ⟨n1, h1⟩ : ∃ n1, wrap64 (d.from_ + k * j) = n1 := ⟨_, rfl⟩
  obtain ⟨n2, h2⟩ : ∃ n2, wrap64 (wrap64 (d.from_ + 2 * (1000 * k)) - k * j) = n2 := ⟨_, rfl⟩
  obtain ⟨hee, hvv⟩ := turned_err d k0 k1 j0 j1 h1 h2
  replace hee := Lib.hid hee
  replace hvv := Lib.hid hvv
  have HD := Lib.hid hd
  clear hd
  obtain ⟨fr, ln, tm, tu, st, kd, c0, c1, c2, c3, q, fA, fl, fc, F⟩ := d
  simp only [AnimD.cells] at *
  go_enter Try.func10, Try.ntmps10
  go_wp2_with fail
  generalize hW0 : w.alloc (.cells #[.int .i64 fr, .int .i64 ln, .int .i64 tm, .bool tu, .bool st, .int .i64 kd, .int .i64 c0, .int .i64 c1, .int .i64 c2, .int .i64 c3, .int .i64 q, .slice fA fl fc] 50) = W0
  have HB := Lib.hid (show Below w.heap.size w W0 by subst hW0; exact (Below.refl _ _).alloc (Nat.le_refl _) _)
  have bb := Lib.hid (show Blk W0 w.heap.size 50 #[.int .i64 fr, .int .i64 ln, .int .i64 tm, .bool tu, .bool st, .int .i64 kd, .int .i64 c0, .int .i64 c1, .int .i64 c2, .int .i64 c3, .int .i64 q, .slice fA fl fc] by subst hW0; exact Blk.new rfl)
  clear hW0
  refine (stepped_ct _).mono ?_
  rintro e W1 ⟨rfl, hb⟩
  have HB1 := Lib.hid (HB.out.trans (hb.mono HB.out.size))
  have bb1 := Lib.hid (bb.out.below hb bb.out.lt)
  have e0 := bb1.out.cell
  have f0 := bb1.out.frozen
  have e1 := fun v => (bb1.out.put 1 v).cell
  have f1 := fun v => (bb1.out.put 1 v).frozen
  have e2 := fun v v' => ((bb1.out.put 1 v).put 2 v').cell
  have f2 := fun v v' => ((bb1.out.put 1 v).put 2 v').frozen
  have e3 := fun v v' v'' => (((bb1.out.put 1 v).put 2 v').put 3 v'').cell
  have z1 := bb1.out.lt
  clear hb bb HB
  go_wp2_with fail
  generalize hU : ((W1.setCell ⟨w.heap.size, 1, none⟩ (.int .i64 (1000 * k))).setCell ⟨w.heap.size, 2, none⟩ (.int .i64 2)).setCell ⟨w.heap.size, 3, none⟩ (.bool true) = U
  have HU := Lib.hid (show Below w.heap.size w U by subst hU; exact (((HB1.out.setCell (by simp) _).setCell (by simp) _).setCell (by simp) _))
  have bU := Lib.hid (show Blk U w.heap.size 50 #[.int .i64 fr, .int .i64 (1000 * k), .int .i64 2, .bool true, .bool st, .int .i64 kd, .int .i64 c0, .int .i64 c1, .int .i64 c2, .int .i64 c3, .int .i64 q, .slice fA fl fc] by subst hU; exact (((bb1.out.put 1 _).put 2 _).put 3 _))
  have hsz : W1.heap.size = U.heap.size := by subst hU; simp
  rw [hsz]
  clear hU hsz e0 f0 e1 f1 e2 f2 e3 z1 bb1 HB1
  have HDU := Lib.hid (HD.out.keep HU.out HU.out.size)
  have l1 := one_LRd (d := (tw ⟨fr, ln, tm, tu, st, kd, c0, c1, c2, c3, q, fA, fl, fc, F⟩ k)) (w := U.alloc (.cells #[.int .i64 fr, .int .i64 (1000 * k), .int .i64 2, .bool true, .bool st, .int .i64 kd, .int .i64 c0, .int .i64 c1, .int .i64 c2, .int .i64 c3, .int .i64 q, .slice fA fl fc] 50)) (g := U.heap.size) (Blk.new rfl) (show AnRd _ _ _ from ((HDU.out.keepAlloc _)))
  refine (at_ct (some ⟨U.heap.size, 0, none⟩) 1 1 [(tw ⟨fr, ln, tm, tu, st, kd, c0, c1, c2, c3, q, fA, fl, fc, F⟩ k)] 0 0 n1 _ (by simp [maxLen]) l1).mono ?_
  clear l1
  rintro e W2 ⟨rfl, hb⟩
  have HB2 := Lib.hid ((HU.out.alloc HU.out.size _).trans (hb.mono (by simp; have := HU.out.size; omega)))
  have b2 := Lib.hid ((bU.out.alloc _).below hb (by have := bU.out.lt; simp; omega))
  have c2' := b2.out.cell
  have z2 := b2.out.lt
  have HD2 := Lib.hid (HD.out.keep HB2.out HB2.out.size)
  clear hb bU HU HDU
  obtain ⟨V, hV⟩ : ∃ V, atV [(tw ⟨fr, ln, tm, tu, st, kd, c0, c1, c2, c3, q, fA, fl, fc, F⟩ k)] (0, 0) n1 = V := ⟨_, rfl⟩
  obtain ⟨E, hE⟩ : ∃ E, rightE [(tw ⟨fr, ln, tm, tu, st, kd, c0, c1, c2, c3, q, fA, fl, fc, F⟩ k)] n1 = E := ⟨_, rfl⟩
  obtain ⟨V', hV'⟩ : ∃ V, atV [(tw ⟨fr, ln, tm, tu, st, kd, c0, c1, c2, c3, q, fA, fl, fc, F⟩ k)] (0, 0) n2 = V := ⟨_, rfl⟩
  have hE2 := Lib.hid (hee.out.symm.trans hE)
  have hVV := hvv.out
  rw [hV, hE, hV'] at hVV
  rw [hV, hE]
  replace hVV := Lib.hid hVV
  replace hV' := Lib.hid hV'
  clear hV hE hee hvv
  go_wp2_with fail
  have l1 := one_LRd (d := (tw ⟨fr, ln, tm, tu, st, kd, c0, c1, c2, c3, q, fA, fl, fc, F⟩ k)) (w := (W2.alloc (.cells #[.int .i64 V.1, .int .i64 V.2] 39)).alloc (.cells #[.int .i64 fr, .int .i64 (1000 * k), .int .i64 2, .bool true, .bool st, .int .i64 kd, .int .i64 c0, .int .i64 c1, .int .i64 c2, .int .i64 c3, .int .i64 q, .slice fA fl fc] 50)) (g := W2.heap.size + 1) (Blk.new (by simp)) (show AnRd _ _ _ from ((HD2.out.keepAlloc _).keepAlloc _))
  refine (at_ct (some ⟨W2.heap.size + 1, 0, none⟩) 1 1 [(tw ⟨fr, ln, tm, tu, st, kd, c0, c1, c2, c3, q, fA, fl, fc, F⟩ k)] 0 0 n2 _ (by simp [maxLen]) l1).mono ?_
  clear l1
  rintro e W3 ⟨rfl, hb⟩
  have HB3 := Lib.hid (((HB2.out.alloc HB2.out.size _).alloc (by simp; have := HB2.out.size; omega) _).trans (hb.mono (by simp; have := HB2.out.size; omega)))
  have b3 := Lib.hid (((Blk.new (t := 39) (cs := #[.int .i64 V.1, .int .i64 V.2]) (rfl : W2.heap.size = W2.heap.size)).alloc _).below hb (by simp; omega))
  have c3' := b3.out.cell
  have z3 := b3.out.lt
  rw [hE2.out, hV'.out]
  clear hb c2' z2 b2 HB2 HD2
  by_cases h0 : E = 0
  · obtain rfl : V = V' := hVV.out h0
    subst h0
    clear hVV hE2 hV'
    go_wp2
    go_ret
    exact ⟨rfl, HB3.out.alloc HB3.out.size _⟩
  · have h0' : (E != 0) = true := by simp [h0]
    clear hVV hE2 hV' h0
    go_wp2
    go_ret
    exact ⟨rfl, HB3.out.alloc HB3.out.size _⟩

set_option maxRecDepth 100000 in
theorem lifted (os : Os) (started : os.Started) (H : Type) (enc : TypeId × Value → H) :
    ReturnsInHanded {} Try.checked os 10 .any (Rows.animTurnedSpec.pre6 enc Try.prog Try.f10 Rows.animTurnedRow.domain false) (Rows.animTurnedSpec.post enc Try.prog Try.f10 false true false false) := by
  refine returnsInHanded_of_change (C := Try.checked) own started (by kernel_rfl) Try.func10
    (ChangeSpec.witness6 (enc := enc) (C := Try.checked) false ⟨#[], #[.agg #[.int .i64 0, .int .i64 0, .int .i64 0, .bool false, .bool false, .int .i64 0, .int .i64 0, .int .i64 0, .int .i64 0, .int .i64 0, .int .i64 0, .slice none 0 0], .int .i64 0, .int .i64 0], []⟩ 8 (by kernel_rfl) (by kernel_rfl) (by kernel_rfl) (by kernel_rfl)) ?_
  intro W base args ds gs before hval0 hW _ _
  have hval : ∀ (j : Nat) t v, Try.f10.params[j]? = some t → args[j]? = some v → Value.okWide Try.prog W .any base t v := hval0
  have hW' := hW
  obtain ⟨p, q, hA0, hV, -, -, -⟩ := hW
  have hA : DataW.TrodAll enc Try.prog W 0 (fun _ => true) true Try.f10.params.toList args.toList ds p := hA0
  rw [Try.params10] at hA hval
  obtain ⟨v0, vs0, d0, ds0, p0, q0, hargs, rfl, -, h0, r0⟩ := trodAll_cons hA
  obtain ⟨v1, vs1, d1, ds1, p1, q1, rfl, rfl, -, h1, r1⟩ := trodAll_cons r0
  obtain ⟨v2, vs2, d2, ds2, p2, q2, rfl, rfl, -, h2, r2⟩ := trodAll_cons r1
  obtain ⟨rfl, rfl, -⟩ := trodAll_nil r2
  obtain rfl : args = #[v0, v1, v2] := by cases args; simp_all
  obtain ⟨rfl, -⟩ := trodVars_none hV
  obtain ⟨d, rfl, hd⟩ := arg_anim (hval 0 _ _ rfl rfl) h0
  obtain ⟨n, rfl, -, -, -⟩ := open_int Try.underlying3 (hval 1 _ _ rfl rfl) h1
  obtain ⟨m, rfl, -, -, -⟩ := open_int Try.underlying3 (hval 2 _ _ rfl rfl) h2
  exact (law_ct d n m W hd).mono fun e W' ⟨he, bel⟩ => ⟨_, he, law_post laidOut rfl Try.underlying4 rfl (by intro t ht; rw [Try.params10] at ht; revert t; decide +kernel) rfl hW' bel⟩

theorem proved : Rows.AnimTurnedSaid :=
  OpenClaim.holds_of_wide 10 Try.f10 rfl rfl rfl rfl rfl rfl rfl ⟨rfl, rfl, rfl, rfl, rfl⟩ rfl rfl rfl rfl rfl (by kernel_rfl) Try.func10 (by kernel_rfl)
    (of_decide_eq_true (by kernel_rfl)) (by unfold Func.isWrapper; first | (rw [if_pos (by decide +kernel)]; kernel_rfl) | (rw [if_neg (by decide +kernel)]; exact ⟨rfl, rfl⟩))
    (fun os started H enc _ => lifted os started H enc)

end Go.Proofs.Ytchmpdibbklpfaa.anim.turned
