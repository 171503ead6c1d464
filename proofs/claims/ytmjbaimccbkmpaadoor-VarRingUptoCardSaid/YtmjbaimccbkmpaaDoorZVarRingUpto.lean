/- VarRing: for every list of variables within the bound the call returns true, and all that was there reads as before. The package-level variables that its row lists start as the program's text lays them (the card ties them). -/
import Derived.Test.YtmjbaimccbkmpaaDoorBK
import Derived.Test.YtmjbaimccbkmpaaDoorBA
import Derived.Test.YtmjbaimccbkmpaaDoorBI
import Derived.Test.YtmjbaimccbkmpaaDoorTie
import Derived.Test.YtmjbaimccbkmpaaDoorCards

namespace Go.Proofs.YtmjbaimccbkmpaaDoor.vrs.ring
open Go.RowKit Go.Proofs.YtmjbaimccbkmpaaDoor.base Go.Proofs.YtmjbaimccbkmpaaDoor.tok Go.Proofs.YtmjbaimccbkmpaaDoor.vrs Go.ChangeShapes Go.WideShapes Go.ChangeAt Go.Deep
set_option linter.unusedVariables false

theorem vars_none {H : Type} {enc : TypeId × Value → H} {w : World} {held : Bool} {A : Option Addr} {n c : Nat} {d : DataW H} {p : List MemPlace} (h : DataW.Trod enc Tryd.prog w 0 (fun _ => true) held 27 (.slice A n c) d p) : A = none → c = 0 := fun hA => by
  obtain ⟨fuel, hf⟩ := h
  rcases open_slice Tryd.underlying27 hf with ⟨e, -⟩ | ⟨a, len, cap, m, k, D, Pl, e, -⟩
  · simp [Value.cells] at e
    exact e.2.2
  · simp [Value.cells] at e
    rw [e.1] at hA
    cases hA

set_option maxRecDepth 100000 in
theorem reads (os : Os) {H : Type} (enc : TypeId × Value → H) : ∃ places, DataW.whole enc Tryd.prog ((World.laidAll Tryd.prog os Rows.varRingUptoRow.laid).forCall (fun _ _ => 0) ⟨#[], #[.slice none 0 0, .int .i64 0], []⟩).memory Tryd.f5.params.toList Rows.varRingSpec.vars false #[.slice none 0 0, .int .i64 0].toList 8 = some ([.nil, .lit (.int .i64 0)], [], places) :=
  ⟨[], by kernel_rfl⟩

set_option maxRecDepth 100000 in
theorem lifted (os : Os) (started : os.Started) (H : Type) (enc : TypeId × Value → H) (F : Stop.Interp) :
    ReturnsInHanded {} Tryd.checked os 5 .any ((Rows.OpenSpec.upto Rows.varRingSpec).preRow enc Tryd.prog Tryd.f5 Rows.varRingUptoRow.domain false Rows.varRingUptoRow.laid) (((Rows.OpenSpec.upto Rows.varRingSpec).at F).post enc Tryd.prog Tryd.f5 false true false false) := by
  obtain ⟨places, hx⟩ := reads os enc
  refine returnsInHanded_of_row (C := Tryd.checked) (s := Rows.OpenSpec.upto Rows.varRingSpec) ownD started (by kernel_rfl) Tryd.func5
    (witness_rowL (enc := enc) (C := Tryd.checked) false (World.laidAll Tryd.prog os Rows.varRingUptoRow.laid) #[.slice none 0 0, .int .i64 0] (World.laidAll_os _ _ _)
      (World.shaped_of_ZipB (by kernel_rfl) (by kernel_rfl)) (by kernel_rfl)
      (OpenSpec.preRow_of_cond 8 hx (by kernel_rfl) (fun k hk => by cases hk; kernel_rfl) (by kernel_rfl) (by rw [MakeChecks.laidMetH_plain _ _ _ (by kernel_rfl)]; exact laidMet_laidAll _ (by kernel_rfl) (by kernel_rfl)))) ?_
  intro W base args ds gs before hval0 hW _ hcond hsz hlaid hsh _
  have hk : Rows.uptoSmall H (ds ++ gs) = true := hcond _ rfl
  have hval : ∀ (j : Nat) t v, Tryd.f5.params[j]? = some t → args[j]? = some v → Value.okWide Tryd.prog W .any base t v := hval0
  have hW' : DataW.Whole enc Tryd.prog Tryd.f5.params.toList Rows.varRingSpec.vars false W args.toList ds gs before := hW
  obtain ⟨p, q, hA0, hV, -, -, -⟩ := hW
  have hA : DataW.TrodAll enc Tryd.prog W 0 (fun _ => true) true Tryd.f5.params.toList args.toList ds p := hA0
  rw [Tryd.params5] at hA hval
  obtain ⟨v0, vs0, d0, ds0, p0, q0, hargs, rfl, -, h0, r0⟩ := trodAll_cons hA
  obtain ⟨v1, vs1, d1, ds1, p1, q1, rfl, rfl, -, h1, r1⟩ := trodAll_cons r0
  obtain ⟨rfl, rfl, -⟩ := trodAll_nil r1
  obtain rfl : args = #[v0, v1] := by cases args; simp_all
  obtain ⟨rfl, -⟩ := trodVars_none hV
  obtain ⟨A, n, c, V, rfl, hc, hr, hn, hq⟩ := arg_vars (hval 0 _ _ rfl rfl) h0
  have hnone := vars_none h0
  obtain ⟨k, rfl, -, -, -⟩ := open_int Tryd.underlying3 (hval 1 _ _ rfl rfl) h1
  have hu : Rows.uptoBulk d0 ≤ 1048576 := Nat.le_trans (bulk_part (by simp)) (bulk_all hk)
  have hVn : V.length = n := hr.1
  subst hVn
  rw [MakeChecks.laidMetH_plain _ _ _ (by kernel_rfl)] at hlaid
  refine (ring_at A c k V W hnone (by omega) hc (fun q hq' => by have := hq q hq'; omega) hr (fold_of hlaid (by simp [Rows.varRingUptoRow])) (maxLen_of hsh)).mono fun e W' ⟨he, bel⟩ => ⟨_, he, ?_⟩
  exact law_post (s := Rows.varRingSpec) laidOutD rfl Tryd.underlying4 rfl (by intro t ht; rw [Tryd.params5] at ht; revert t; decide +kernel) rfl hW' bel

theorem holds : Rows.VarRingUptoSaid :=
  OpenClaim.holds_of_cond 5 Tryd.f5 rfl rfl rfl rfl rfl rfl rfl ⟨rfl, rfl, rfl, rfl, rfl⟩ rfl rfl rfl rfl rfl (by kernel_rfl) Tryd.func5 (by kernel_rfl)
    (of_decide_eq_true (by kernel_rfl)) (by unfold Func.isWrapper; first | (rw [if_pos (by decide +kernel)]; kernel_rfl) | (rw [if_neg (by decide +kernel)]; exact ⟨rfl, rfl⟩))
    (fun os started H enc _ F => by rw [OpenClaim.pre_eq_preRow]; exact lifted os started H enc F)

theorem proved : Rows.VarRingUptoCardSaid :=
  Claim7.holds_tied_plain_at .later [] Rows.varRingUptoCard.laidKinds true Rows.varRingUptoCard.stood.harness Rows.varRingUptoCard.stood.looks holds (fun _ h => by cases h) (by kernel_rfl) (fun _ h => by cases h) varRingUpto_row_tie rfl ⟨rfl, rfl⟩ (by kernel_rfl) rfl
    (fun f fn hf hfn => by
      obtain rfl : f = 5 := Option.some.inj ((show Tryd.prog.funcNamed "clerestory/clerestorykeep2.VarRing" = some 5 by kernel_rfl).symm.trans hf) |>.symm
      obtain rfl : fn = Tryd.f5 := (Option.some.inj (Tryd.func5.symm.trans hfn)).symm
      exact ⟨by kernel_rfl, fun j t ht => by
        rw [Tryd.params5] at ht
        have hm : t ∈ [27, 3] := by simpa using Array.mem_of_getElem? ht
        have hall : ([27, 3].all fun u => !Tryd.prog.wantsStandIn u) = true := by kernel_rfl
        exact (show Tryd.prog.wantsStandIn t = false by simpa using List.all_eq_true.1 hall t hm)⟩)
    (by kernel_rfl)
#print axioms proved

end Go.Proofs.YtmjbaimccbkmpaaDoor.vrs.ring
