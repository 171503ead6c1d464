/- ColorClears: for every three numbers the call returns true, and all that was there reads as before. The package-level variables that its row lists start as the program's text lays them (the card ties them). -/
import Derived.Test.YtaihncbejhnceaaDoorBO
import Derived.Test.YtaihncbejhnceaaDoorBH
import Derived.Test.YtaihncbejhnceaaDoorTie
import Derived.Test.YtaihncbejhnceaaDoorCards

namespace Go.Proofs.YtaihncbejhnceaaDoor.col.clears
open Go.RowKit Go.Proofs.YtaihncbejhnceaaDoor.base Go.Proofs.YtaihncbejhnceaaDoor.tok Go.Proofs.YtaihncbejhnceaaDoor.col
set_option linter.unusedVariables false

theorem fade_bd (x k : Int) (h0 : 0 ≤ x ∧ x < 4294967296) : 0 ≤ fadeP x k ∧ fadeP x k < 4294967296 := by
  have h := fade_mod x k h0.1
  have h2 := fade_byte x k h0.1
  omega
set_option maxRecDepth 100000 in
set_option maxHeartbeats 4000000 in
theorem law_ct (c n m : Int) (w : World) :
    Calls Tryd.prog 9 #[.int .i64 c, .int .i64 n, .int .i64 m] w fun e w' => e = .returned (.bool true) ∧ Below w.heap.size w w' := by
  have hx := c32_bd c
  have cF := fun k w => fade_ct c k w
  have hA := fade_bd (c32 c) (min n m) hx
  have hB := fade_bd (c32 c) (max n m) hx
  have hle := fade_mono (c32 c) (min n m) (max n m) hx.1 (by omega)
  have hd : fadeP (c32 c) (min n m) / 256 = fadeP (c32 c) (max n m) / 256 := by rw [(fade_mod _ _ hx.1).2.1, (fade_mod _ _ hx.1).2.1]
  have c1 := cF (min n m)
  have c2 := cF (max n m)
  have c3 := cF 1000
  have c4 := cF 0
  have h0 := fade_none (c32 c) hx.1
  have hB0 := fade_bd (c32 c) 0 hx
  rw [fade_all _ hx.1] at c3
  generalize fadeP (c32 c) (min n m) = A at *
  generalize fadeP (c32 c) (max n m) = B at *
  generalize fadeP (c32 c) 0 = Z at *
  unfold c32 at *
  generalize hw : IntKind.u32.wrap c = x at *
  clear cF
  replace c1 := Lib.hid c1
  replace c2 := Lib.hid c2
  replace c3 := Lib.hid c3
  replace c4 := Lib.hid c4
  have cR := Lib.hid red_ct
  have s1 : A.tmod 256 = A % 256 := Int.tmod_eq_emod_of_nonneg hA.1
  have s2 : B.tmod 256 = B % 256 := Int.tmod_eq_emod_of_nonneg hB.1
  have s3 : Z.tmod 256 = 0 := by rw [Int.tmod_eq_emod_of_nonneg hB0.1]; exact h0
  have s4 : A.tdiv 256 = A / 256 := Int.tdiv_eq_ediv_of_nonneg hA.1
  have s5 : B.tdiv 256 = B / 256 := Int.tdiv_eq_ediv_of_nonneg hB.1
  have heq : (A / 256 == B / 256) = true := by rw [hd]; simp
  go_enter Tryd.func9, Tryd.ntmps9
  go_wp2_with (first
    | (go_at_call 26; (with_reducible refine (cR.out _).mono ?_); rintro e W1 ⟨rfl, hb1⟩; have HB1 := Lib.hid hb1; clear hb1)
    | (go_at_call 27; (with_reducible refine (c1.out _).mono ?_); rintro e W2 ⟨rfl, rfl⟩)
    | (go_at_call 27; (with_reducible refine (c2.out _).mono ?_); rintro e W2 ⟨rfl, rfl⟩)
    | (go_at_call 27; (with_reducible refine (c3.out _).mono ?_); rintro e W2 ⟨rfl, rfl⟩)
    | (go_at_call 27; (with_reducible refine (c4.out _).mono ?_); rintro e W2 ⟨rfl, rfl⟩))
  go_ret
  exact ⟨rfl, HB1.out⟩

end Go.Proofs.YtaihncbejhnceaaDoor.col.clears

namespace Go.Proofs.YtaihncbejhnceaaDoor.col.clears
open Go.RowKit Go.Proofs.YtaihncbejhnceaaDoor.base Go.Proofs.YtaihncbejhnceaaDoor.tok Go.Proofs.YtaihncbejhnceaaDoor.col Go.ChangeShapes Go.WideShapes Go.ChangeAt
set_option linter.unusedVariables false

set_option maxRecDepth 100000 in
theorem lifted (os : Os) (started : os.Started) (H : Type) (enc : TypeId × Value → H) :
    ReturnsInHanded {} Tryd.checked os 9 .any (fun w args => (Rows.colorClearsSpec.pre enc Tryd.prog Tryd.f9 Rows.colorClearsRow.domain false w args ∧ laidMetH Tryd.prog Rows.colorClearsRow.laid w) ∧ sizedMet enc Tryd.prog Tryd.f9 (OpenSpec.ofChange Rows.colorClearsSpec) false w args)
      (Rows.colorClearsSpec.post enc Tryd.prog Tryd.f9 false true false false) := by
  refine returns_door (C := Tryd.checked) (X := fun w _ => laidMetH Tryd.prog Rows.colorClearsRow.laid w) (fun _ _ _ hh h => h.of_heap hh) ownD started (by kernel_rfl) Tryd.func9
    (ChangeSpec.witness_shaped (enc := enc) (C := Tryd.checked) (os := os) (X := fun w _ => laidMetH Tryd.prog Rows.colorClearsRow.laid w) false (World.laidAll Tryd.prog os Rows.colorClearsRow.laid) #[.int .i64 0, .int .i64 0, .int .i64 0] 8 (World.laidAll_os _ _ _)
      (World.shaped_of_ZipB (by kernel_rfl) (by kernel_rfl)) (by kernel_rfl) (by kernel_rfl) (by kernel_rfl)
      (by rw [MakeChecks.laidMetH_plain _ _ _ (by kernel_rfl)]; exact laidMet_laidAll _ (by kernel_rfl) (by kernel_rfl))) ?_
  intro W base args ds gs before hval0 hW hsz hlaid hsh
  have hval : ∀ (j : Nat) t v, Tryd.f9.params[j]? = some t → args[j]? = some v → Value.okWide Tryd.prog W .any base t v := hval0
  have hW' := hW
  obtain ⟨p, q, hA0, hV, -, -, -⟩ := hW
  have hA : DataW.TrodAll enc Tryd.prog W 0 (fun _ => true) true Tryd.f9.params.toList args.toList ds p := hA0
  rw [Tryd.params9] at hA hval
  obtain ⟨v0, vs0, d0, ds0, p0, q0, hargs, rfl, -, h0, r0⟩ := trodAll_cons hA
  obtain ⟨v1, vs1, d1, ds1, p1, q1, rfl, rfl, -, h1, r1⟩ := trodAll_cons r0
  obtain ⟨v2, vs2, d2, ds2, p2, q2, rfl, rfl, -, h2, r2⟩ := trodAll_cons r1
  obtain ⟨rfl, rfl, -⟩ := trodAll_nil r2
  obtain rfl : args = #[v0, v1, v2] := by cases args; simp_all
  obtain ⟨rfl, -⟩ := trodVars_none hV
  obtain ⟨a, rfl, -, -, -⟩ := open_int Tryd.underlying3 (hval 0 _ _ rfl rfl) h0
  obtain ⟨b, rfl, -, -, -⟩ := open_int Tryd.underlying3 (hval 1 _ _ rfl rfl) h1
  obtain ⟨c, rfl, -, -, -⟩ := open_int Tryd.underlying3 (hval 2 _ _ rfl rfl) h2
  rw [MakeChecks.laidMetH_plain _ _ _ (by kernel_rfl)] at hlaid
  exact (law_ct a b c W ).mono fun e W' ⟨he, bel⟩ => ⟨_, he, law_post laidOutD rfl Tryd.underlying4 rfl (by intro t ht; rw [Tryd.params9] at ht; revert t; decide +kernel) rfl hW' bel⟩

theorem holds : Rows.ColorClearsSaid :=
  OpenClaim.holds_of_wide 9 Tryd.f9 rfl rfl rfl rfl rfl rfl rfl ⟨rfl, rfl, rfl, rfl, rfl⟩ rfl rfl rfl rfl rfl (by kernel_rfl) Tryd.func9 (by kernel_rfl)
    (of_decide_eq_true (by kernel_rfl)) (by unfold Func.isWrapper; first | (rw [if_pos (by decide +kernel)]; kernel_rfl) | (rw [if_neg (by decide +kernel)]; exact ⟨rfl, rfl⟩))
    (fun os started H enc _ => lifted os started H enc)

theorem proved : Rows.ColorClearsCardSaid :=
  Claim7.holds_tied_plain_at .later [] Rows.colorClearsCard.laidKinds true Rows.colorClearsCard.stood.harness Rows.colorClearsCard.stood.looks holds (fun _ h => by cases h) (by kernel_rfl) (fun _ h => by cases h) colorClears_row_tie rfl ⟨rfl, rfl⟩ (by kernel_rfl) rfl
    (fun f fn hf hfn => by
      obtain rfl : f = 9 := Option.some.inj ((show Tryd.prog.funcNamed "clerestory/clerestorykeep2.ColorClears" = some 9 by kernel_rfl).symm.trans hf) |>.symm
      obtain rfl : fn = Tryd.f9 := (Option.some.inj (Tryd.func9.symm.trans hfn)).symm
      exact ⟨by kernel_rfl, fun j t ht => by
        rw [Tryd.params9] at ht
        have hm : t ∈ [3, 3, 3] := by simpa using Array.mem_of_getElem? ht
        have hall : ([3, 3, 3].all fun u => !Tryd.prog.wantsStandIn u) = true := by kernel_rfl
        exact (show Tryd.prog.wantsStandIn t = false by simpa using List.all_eq_true.1 hall t hm)⟩)
    (by kernel_rfl)
#print axioms proved

end Go.Proofs.YtaihncbejhnceaaDoor.col.clears
