/- ColorBack: for every number the call returns true, and all that was there reads as before. The package-level variables that its row lists start as the program's text lays them (the card ties them). -/
import Derived.Test.YtaihncbejhnceaaDoorBP
import Derived.Test.YtaihncbejhnceaaDoorBH
import Derived.Test.YtaihncbejhnceaaDoorTie
import Derived.Test.YtaihncbejhnceaaDoorCards

namespace Go.Proofs.YtaihncbejhnceaaDoor.col.back
open Go.RowKit Go.Proofs.YtaihncbejhnceaaDoor.base Go.Proofs.YtaihncbejhnceaaDoor.tok Go.Proofs.YtaihncbejhnceaaDoor.col
set_option linter.unusedVariables false

theorem upC_small {c : UInt8} (h : 97 ≤ nv c) : nv (upC c) = nv c - 32 := by
  unfold upC
  rw [if_pos h]
  simp only [nv] at h ⊢
  rw [UInt8.toNat_ofNat']
  have := c.toNat_lt
  omega
theorem upC_other {c : UInt8} (h : ¬ 97 ≤ nv c) : upC c = c := by unfold upC; rw [if_neg h]
def upAt (l : Bs) (k : Nat) : Bs := (l.take k).map upC ++ l.drop k
theorem upAt_len (l : Bs) (k : Nat) : (upAt l k).length = l.length := by simp [upAt]; omega
theorem upAt_end (l : Bs) : upAt l l.length = l.map upC := by simp [upAt]
theorem upAt_get {l : Bs} {k : Nat} {c : UInt8} (h : l[k]? = some c) : (upAt l k)[k]? = some c := by
  obtain ⟨h1, h2⟩ := List.getElem?_eq_some_iff.1 h
  unfold upAt
  rw [List.getElem?_append_right (by simp; omega)]
  simp
  rw [Nat.min_eq_left (by omega)]
  simpa using h
theorem upAt_step {l : Bs} {k : Nat} {c : UInt8} (h : l[k]? = some c) : upAt l (k + 1) = (upAt l k).set k (upC c) := by
  obtain ⟨h1, h2⟩ := List.getElem?_eq_some_iff.1 h
  unfold upAt
  rw [List.take_succ_eq_append_getElem h1, List.map_append, h2, List.drop_eq_getElem_cons h1, h2]
  rw [List.set_append_right _ _ (by simp; omega)]
  simp
  rw [Nat.min_eq_left (by omega)]
  simp

set_option maxRecDepth 100000 in
set_option maxHeartbeats 4000000 in
theorem law_ct (c : Int) (w : World) (hT : BruAt w) :
    Calls Tryd.prog 11 #[.int .i64 c] w fun e w' => e = .returned (.bool true) ∧ Below w.heap.size w w' := by
  have hx := c32_bd c
  have cT := Lib.hid (fun w hT => text_ct c w hT)
  have h8 : (textL (c32 c).toNat).length = 3 ∨ (textL (c32 c).toNat).length = 4 ∨ (textL (c32 c).toNat).length = 6 ∨ (textL (c32 c).toNat).length = 8 := by
    have := textL_len (c32 c).toNat; omega
  have c1 := fun w => read_ct (textS (c32 c).toNat) (textL (c32 c).toNat) (low_text _) h8 (textL_all _) w
  have c2 := fun w => read_ct ((textS (c32 c).toNat).map upC) (textL (c32 c).toNat) (low_up _) h8 (textL_all _) w
  have hV : hexV (hexF (textL (c32 c).toNat)) = c32 c := by rw [textL_V _ (by omega)]; omega
  rw [hV] at c1 c2
  have hL : (textS (c32 c).toNat).length ≤ 9 := by
    have h := congrArg List.length (low_text (c32 c).toNat)
    rw [List.length_map, List.length_cons] at h
    omega
  clear h8 hV
  generalize textS (c32 c).toNat = s at *
  unfold c32 at *
  generalize hw : IntKind.u32.wrap c = x at *
  replace c1 := Lib.hid c1
  replace c2 := Lib.hid c2
  have cR := Lib.hid red_ct
  have HT := Lib.hid hT
  clear hT
  have hz : (bs s).size = s.length := rfl
  go_enter Tryd.func11, Tryd.ntmps11
  go_wp2_with (first
    | (go_at_call 26; (with_reducible refine (cR.out _).mono ?_); rintro e W1 ⟨rfl, hb1⟩; have HB1 := Lib.hid hb1; clear hb1)
    | (go_at_call 29; (with_reducible refine (cT.out _ (HT.out.on HB1.out)).mono ?_); rintro e W2 ⟨rfl, hb2⟩; have HB2 := Lib.hid (HB1.out.trans (hb2.mono HB1.out.size)); clear hb2)
    | (go_at_call 30; (with_reducible refine (c1.out _).mono ?_); rintro e W3 ⟨rfl, hb3⟩; have HB3 := Lib.hid (HB2.out.trans (hb3.mono HB2.out.size)); clear hb3))
  obtain ⟨cp, W4, hcv, hb4, hz4, hby, hfy⟩ := bytes_of (bs s) W3
  rw [hcv]
  simp only [Result.andThen]
  rw [Oper.upon_value]
  have hB0 := Lib.hid (show BytesAt W4 W3.heap.size s from ⟨hby, fun j hj => hfy j (by rw [hz]; exact hj)⟩)
  replace hb4 := Lib.hid hb4
  have hz3 := HB3.out.size
  clear hcv hby hfy
  go_wp2_with fail
  go_loopw [8] (fun i wr => ∃ k : Nat, k ≤ s.length ∧ i = .int .i64 k ∧ BytesAt wr W3.heap.size (upAt s k) ∧ W4.grownBy wr (some W3.heap.size)) (fun i _ => s.length - (intOf i).toNat)
  case atStart => exact ⟨0, by omega, rfl, by simpa [upAt] using hB0.out, World.grownBy.refl _ _⟩
  case round =>
    obtain ⟨k, hk, rfl, hby, hgr⟩ := hrel
    replace hgr := Lib.hid hgr
    by_cases hlt : k < s.length
    · have hlt' : (k : Int) < (s.length : Int) := by omega
      obtain ⟨d, hc⟩ : ∃ d, s[k]? = some d := ⟨s[k]'hlt, List.getElem?_eq_getElem _⟩
      have hkl : k < (upAt s k).length := by rw [upAt_len]; exact hlt
      have hcell := hby.1 k d (upAt_get hc)
      have hfr := hby.2 k hkl
      have hst := Lib.hid (upAt_step hc)
      have hsm := Lib.hid (set_same (upAt_get hc))
      have hby' := Lib.hid hby
      have c0 := nv_nn d
      have c9 := nv_lt d
      clear hc hby
      by_cases h1 : 97 ≤ nv d
      · have hlo := Lib.hid (upC_small h1)
        generalize hv : nv d = v at *
        replace hv := Lib.hid hv
        go_wp2_with fail
        go_roundw
        case rel =>
          refine ⟨k + 1, by omega, by go_num, ?_, hgr.out.trans (grown_set _ _ _ _)⟩
          rw [hst.out]
          exact hby'.out.put hkl hlo.out.symm
        case measure => simp [intOf]; omega
      · have hlo := Lib.hid (upC_other (c := d) h1)
        generalize hv : nv d = v at *
        replace hv := Lib.hid hv
        go_wp2_with fail
        go_roundw
        case rel => exact ⟨k + 1, by omega, by go_num, by rw [hst.out, hlo.out, hsm.out]; exact hby'.out, hgr.out⟩
        case measure => simp [intOf]; omega
    · obtain rfl : k = s.length := by omega
      have hfin := upAt_end s
      have hln : (s.map upC).length = s.length := List.length_map ..
      have hcv : ∀ cap, (convert 62 9 (.slice (some ⟨W3.heap.size, 0, none⟩) s.length cap)).run Tryd.prog wr = .ok (.string (bs (s.map upC))) wr := fun cap => by
        have := run_convert_bytes_back wr 62 9 5 ⟨W3.heap.size, 0, none⟩ cap (s.map upC) Tryd.underlying62 Tryd.underlying5 Tryd.underlying9 (fun j hj => by
          rw [add_zero_block]
          have hb2 := hby.1
          rw [hfin] at hb2
          exact hb2 j _ (List.getElem?_eq_getElem hj))
        rw [hln] at this
        exact this
      have hB := Lib.hid (below_grow hb4.out hgr.out (Nat.le_refl _) (by have := hb4.out.size; omega))
      have HB4 := Lib.hid (HB3.out.trans (hB.out.mono hz3))
      clear hby hfin hln
      go_wp2_with (go_at_call 30; (with_reducible refine (c2.out _).mono ?_); rintro e W5 ⟨rfl, hb5⟩; have HB5 := Lib.hid (HB4.out.trans (hb5.mono HB4.out.size)); clear hb5)
      go_ret
      exact ⟨rfl, HB5.out⟩

end Go.Proofs.YtaihncbejhnceaaDoor.col.back

namespace Go.Proofs.YtaihncbejhnceaaDoor.col.back
open Go.RowKit Go.Proofs.YtaihncbejhnceaaDoor.base Go.Proofs.YtaihncbejhnceaaDoor.tok Go.Proofs.YtaihncbejhnceaaDoor.col Go.ChangeShapes Go.WideShapes Go.ChangeAt
set_option linter.unusedVariables false

set_option maxRecDepth 100000 in
theorem lifted (os : Os) (started : os.Started) (H : Type) (enc : TypeId × Value → H) :
    ReturnsInHanded {} Tryd.checked os 11 .any (fun w args => (Rows.colorBackSpec.pre enc Tryd.prog Tryd.f11 Rows.colorBackRow.domain false w args ∧ laidMetH Tryd.prog Rows.colorBackRow.laid w) ∧ sizedMet enc Tryd.prog Tryd.f11 (OpenSpec.ofChange Rows.colorBackSpec) false w args)
      (Rows.colorBackSpec.post enc Tryd.prog Tryd.f11 false true false false) := by
  refine returns_door (C := Tryd.checked) (X := fun w _ => laidMetH Tryd.prog Rows.colorBackRow.laid w) (fun _ _ _ hh h => h.of_heap hh) ownD started (by kernel_rfl) Tryd.func11
    (ChangeSpec.witness_shaped (enc := enc) (C := Tryd.checked) (os := os) (X := fun w _ => laidMetH Tryd.prog Rows.colorBackRow.laid w) false (World.laidAll Tryd.prog os Rows.colorBackRow.laid) #[.int .i64 0] 8 (World.laidAll_os _ _ _)
      (World.shaped_of_ZipB (by kernel_rfl) (by kernel_rfl)) (by kernel_rfl) (by kernel_rfl) (by kernel_rfl)
      (by rw [MakeChecks.laidMetH_plain _ _ _ (by kernel_rfl)]; exact laidMet_laidAll _ (by kernel_rfl) (by kernel_rfl))) ?_
  intro W base args ds gs before hval0 hW hsz hlaid hsh
  have hval : ∀ (j : Nat) t v, Tryd.f11.params[j]? = some t → args[j]? = some v → Value.okWide Tryd.prog W .any base t v := hval0
  have hW' := hW
  obtain ⟨p, q, hA0, hV, -, -, -⟩ := hW
  have hA : DataW.TrodAll enc Tryd.prog W 0 (fun _ => true) true Tryd.f11.params.toList args.toList ds p := hA0
  rw [Tryd.params11] at hA hval
  obtain ⟨v0, vs0, d0, ds0, p0, q0, hargs, rfl, -, h0, r0⟩ := trodAll_cons hA
  obtain ⟨rfl, rfl, -⟩ := trodAll_nil r0
  obtain rfl : args = #[v0] := by cases args; simp_all
  obtain ⟨rfl, -⟩ := trodVars_none hV
  obtain ⟨a, rfl, -, -, -⟩ := open_int Tryd.underlying3 (hval 0 _ _ rfl rfl) h0
  rw [MakeChecks.laidMetH_plain _ _ _ (by kernel_rfl)] at hlaid
  exact (law_ct a W (bru_of hlaid (by simp [Rows.colorBackRow]))).mono fun e W' ⟨he, bel⟩ => ⟨_, he, law_post laidOutD rfl Tryd.underlying4 rfl (by intro t ht; rw [Tryd.params11] at ht; revert t; decide +kernel) rfl hW' bel⟩

theorem holds : Rows.ColorBackSaid :=
  OpenClaim.holds_of_wide 11 Tryd.f11 rfl rfl rfl rfl rfl rfl rfl ⟨rfl, rfl, rfl, rfl, rfl⟩ rfl rfl rfl rfl rfl (by kernel_rfl) Tryd.func11 (by kernel_rfl)
    (of_decide_eq_true (by kernel_rfl)) (by unfold Func.isWrapper; first | (rw [if_pos (by decide +kernel)]; kernel_rfl) | (rw [if_neg (by decide +kernel)]; exact ⟨rfl, rfl⟩))
    (fun os started H enc _ => lifted os started H enc)

theorem proved : Rows.ColorBackCardSaid :=
  Claim7.holds_tied_plain_at .later [] Rows.colorBackCard.laidKinds true Rows.colorBackCard.stood.harness Rows.colorBackCard.stood.looks holds (fun _ h => by cases h) (by kernel_rfl) (fun _ h => by cases h) colorBack_row_tie rfl ⟨rfl, rfl⟩ (by kernel_rfl) rfl
    (fun f fn hf hfn => by
      obtain rfl : f = 11 := Option.some.inj ((show Tryd.prog.funcNamed "clerestory/clerestorykeep2.ColorBack" = some 11 by kernel_rfl).symm.trans hf) |>.symm
      obtain rfl : fn = Tryd.f11 := (Option.some.inj (Tryd.func11.symm.trans hfn)).symm
      exact ⟨by kernel_rfl, fun j t ht => by
        rw [Tryd.params11] at ht
        have hm : t ∈ [3] := by simpa using Array.mem_of_getElem? ht
        have hall : ([3].all fun u => !Tryd.prog.wantsStandIn u) = true := by kernel_rfl
        exact (show Tryd.prog.wantsStandIn t = false by simpa using List.all_eq_true.1 hall t hm)⟩)
    (by kernel_rfl)
#print axioms proved

end Go.Proofs.YtaihncbejhnceaaDoor.col.back
