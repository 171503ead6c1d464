/- DeclSpoils: for every two texts and each number the call returns true, and all that was there reads as before. The package-level variables that its row lists start as the program's text lays them (the card ties them). -/
import Derived.Test.YtphdmdncboegjaaDoorBG
import Derived.Test.YtphdmdncboegjaaDoorBI
import Derived.Test.YtphdmdncboegjaaDoorBH
import Derived.Test.YtphdmdncboegjaaDoorTie
import Derived.Test.YtphdmdncboegjaaDoorCards

namespace Go.Proofs.YtphdmdncboegjaaDoor.rul.spoils
open Go.RowKit Go.Proofs.YtphdmdncboegjaaDoor.base Go.Proofs.YtphdmdncboegjaaDoor.tok Go.Proofs.YtphdmdncboegjaaDoor.rul
set_option linter.unusedVariables false

theorem rest_of (a : Int) (m : Nat) (hm : 0 < m) (hb : m ≤ 10000) : ∃ r : Nat, r < m ∧ (IntKind.u64.wrap a).tmod m = (r : Int) := by
  have h0 : 0 ≤ IntKind.u64.wrap a := by simp [IntKind.wrap, IntKind.bits, IntKind.signed]; omega
  generalize IntKind.u64.wrap a = v at *
  rw [Int.tmod_eq_emod_of_nonneg h0]
  have h1 := Int.emod_nonneg v (show (m : Int) ≠ 0 by omega)
  have h2 := Int.emod_lt_of_pos v (show (0 : Int) < m by omega)
  exact ⟨(v % m).toNat, by omega, by omega⟩
/-- the bad ones, as the law lays them -/
abbrev badsA : Array Value := #[.string ⟨#[120]⟩, .string ⟨#[49, 58, 32, 50]⟩, .string ⟨#[97, 58, 32, 93]⟩, .string ⟨#[97, 58, 32, 39, 98, 10]⟩, .string ⟨#[98, 58]⟩, .string ⟨#[99, 58, 32, 100, 123, 59, 125, 101]⟩, .string ⟨#[58]⟩, .string ⟨#[97, 32, 98, 58, 32, 99]⟩, .string ⟨#[47, 42, 32, 59, 32, 42, 47]⟩, .string ⟨#[97, 58, 32, 40, 93, 41]⟩, .string ⟨#[97, 58, 32, 125]⟩, .string ⟨#[97, 58, 32, 92, 10]⟩]
theorem bads_at : ∀ (r : Nat), r < 12 → badsA[r]? = some (.string (bs (badD r)))
  | 0, _ => rfl | 1, _ => rfl | 2, _ => rfl | 3, _ => rfl | 4, _ => rfl | 5, _ => rfl | 6, _ => rfl | 7, _ => rfl | 8, _ => rfl | 9, _ => rfl | 10, _ => rfl | 11, _ => rfl
  | n + 12, h => by omega

theorem bad_size (r : Nat) : (bs (badD r)).size ≤ 12 := by
  rw [bs_size]
  unfold badD
  split <;> decide
set_option maxRecDepth 100000 in
set_option maxHeartbeats 4000000 in
theorem early (s u : Bs) (n : Int) (r : Nat) (hr : r < 12) (q1 : (IntKind.u64.wrap n).tmod 12 = (r : Int)) (hu : (bs u).size ≤ 140737488351232) (L1 L2 L3 : List Dc) (E1 E2 E3 : Int) (T : Bs) (hn1 : L1.length ≤ 30) (hn2 : L2.length ≤ 30) (hT : T.length ≤ 200000)
    (c1 : ∀ w, FoldAt w → MaxL w → Calls Tryd.prog 31 #[.string (bs s)] w fun e w' => DeclsRet w w' L1 E1 e ∧ Below w.heap.size w w')
    (c2 : ∀ w, FoldAt w → MaxL w → Calls Tryd.prog 31 #[.string (bs u)] w fun e w' => DeclsRet w w' L2 E2 e ∧ Below w.heap.size w w')
    (c3 : ∀ w, FoldAt w → MaxL w → Calls Tryd.prog 31 #[.string (bs T ++ bs (badD r) ++ ⟨#[59]⟩ ++ bs u)] w fun e w' => DeclsRet w w' L3 E3 e ∧ Below w.heap.size w w')
    (cT : ∀ A c w, DRd w w.heap.size A L1.length L1 → Calls Tryd.prog 32 #[.slice A L1.length c] w fun e w' => e = .returned (.string (bs T)) ∧ Below w.heap.size w w')
    (hE : E1 = 2 ∨ (E1 = 0 ∧ E2 = 2) ∨ (E1 = 0 ∧ E2 = 0 ∧ E3 = 2) ∨ (E1 = 0 ∧ E2 = 0 ∧ E3 = 0 ∧ (1000 : Int) < ((bs T).size : Int))) (w : World) (hF : FoldAt w) (hm : MaxL w) :
    Calls Tryd.prog 13 #[.string (bs s), .string (bs u), .int .i64 n] w fun e w' => e = .returned (.bool true) ∧ Below w.heap.size w w' := by
  have HF := Lib.hid hF
  have HM := Lib.hid hm
  replace c1 := Lib.hid c1
  replace c2 := Lib.hid c2
  replace c3 := Lib.hid c3
  replace cT := Lib.hid cT
  have harr := bads_at r hr
  have w1 : IntKind.u64.wrap (r : Int) = r := by simp [IntKind.wrap, IntKind.bits, IntKind.signed]; omega
  have hri : (r : Int) < 12 := by omega
  have y1 : (bs T).size = T.length := rfl
  have y2 : (bs (badD r)).size ≤ 12 := bad_size r
  have z1 : ¬ 9223372036854775807 < (bs T).size + (bs (badD r)).size := by omega
  have z2 : ¬ 9223372036854775807 < (bs T).size + (bs (badD r)).size + 1 := by omega
  have z3 : ¬ 9223372036854775807 < (bs T).size + (bs (badD r)).size + 1 + (bs u).size := by omega
  have hl1 : (L1.length : Int) ≤ 30 := by omega
  clear hF hm hr y1 y2 hT hn1 hn2
  rcases hE with rfl | ⟨rfl, rfl⟩ | ⟨rfl, rfl, rfl⟩ | ⟨rfl, rfl, rfl, hlong⟩
  all_goals (
  go_enter Tryd.func13, Tryd.ntmps13
  go_wp2_with ((go_at_call 29; (with_reducible refine (ruleFact_ct _ HF.out HM.out).mono ?_); rintro e W1 ⟨rfl, hb1⟩; have HB1 := Lib.hid hb1; have HZ1 := Lib.hid hb1.size; clear hb1))
  go_wp2_with ((go_at_call 31; (with_reducible refine (c1.out _ (HF.out.on HB1.out) (HM.out.on HB1.out HM.out.lt)).mono ?_); rintro e W2 ⟨⟨A2, k2, rfl, hr2, ho2⟩, hb2⟩; have HB2 := Lib.hid (HB1.out.trans (hb2.mono HB1.out.size)); have HZ2 := Lib.hid hb2.size; have HR2 := Lib.hid hr2; have HO2 := Lib.hid ho2; clear hb2 hr2 ho2 c1))
  go_wp2_with ((go_at_call 31; (with_reducible refine (c2.out _ (HF.out.on HB2.out) (HM.out.on HB2.out HM.out.lt)).mono ?_); rintro e W3 ⟨⟨A3, k3, rfl, hr3, ho3⟩, hb3⟩; have HB3 := Lib.hid (HB2.out.trans (hb3.mono HB2.out.size)); have HZ3 := Lib.hid hb3.size; have HR23 := Lib.hid (HR2.out.keep hb3 hb3.size); have HO23 := Lib.hid (row_on HO2.out hb3); have HO3 := Lib.hid ho3; clear hb3 hr3 ho3 c2 HR2 HO2))
  go_wp2_with ((go_at_call 32; (with_reducible refine (cT.out _ _ _ (HR23.out.keep ((Below.refl _ _).alloc (Nat.le_refl _) _) (by simp))).mono ?_); rintro e W4 ⟨rfl, hb4⟩; have HB4 := Lib.hid ((HB3.out.alloc HB3.out.size _).trans (hb4.mono (by have := HB3.out.size; simp; omega))); have HZ4 := Lib.hid (show W3.heap.size ≤ W4.heap.size by have := hb4.size; simp at this; omega); have HO24 := Lib.hid (row_on (HO23.out.alloc _) hb4); have HO34 := Lib.hid (row_on (HO3.out.alloc _) hb4); clear hb4 cT HR23))
  go_wp2_with ((go_at_call 31; (with_reducible refine (c3.out _ (HF.out.on HB4.out) (HM.out.on HB4.out HM.out.lt)).mono ?_); rintro e W5 ⟨⟨A5, k5, rfl, hr5, ho5⟩, hb5⟩; have HB5 := Lib.hid (HB4.out.trans (hb5.mono HB4.out.size)); have HZ5 := Lib.hid hb5.size; have HO25 := Lib.hid (row_on HO24.out hb5); have HO35 := Lib.hid (row_on HO34.out hb5); have HO5 := Lib.hid ho5; clear hb5 hr5 ho5 c3))
  go_ret
  exact ⟨rfl, HB5.out⟩)

set_option maxRecDepth 100000 in
set_option maxHeartbeats 4000000 in
theorem late (s u : Bs) (n : Int) (r : Nat) (hr : r < 12) (q1 : (IntKind.u64.wrap n).tmod 12 = (r : Int)) (hu : (bs u).size ≤ 140737488351232) (L1 L2 L3 : List Dc) (E1 E2 E3 : Int) (T : Bs) (hn1 : L1.length ≤ 30) (hn2 : L2.length ≤ 30) (hT : T.length ≤ 200000)
    (c1 : ∀ w, FoldAt w → MaxL w → Calls Tryd.prog 31 #[.string (bs s)] w fun e w' => DeclsRet w w' L1 E1 e ∧ Below w.heap.size w w')
    (c2 : ∀ w, FoldAt w → MaxL w → Calls Tryd.prog 31 #[.string (bs u)] w fun e w' => DeclsRet w w' L2 E2 e ∧ Below w.heap.size w w')
    (c3 : ∀ w, FoldAt w → MaxL w → Calls Tryd.prog 31 #[.string (bs T ++ bs (badD r) ++ ⟨#[59]⟩ ++ bs u)] w fun e w' => DeclsRet w w' L3 E3 e ∧ Below w.heap.size w w')
    (cT : ∀ A c w, DRd w w.heap.size A L1.length L1 → Calls Tryd.prog 32 #[.slice A L1.length c] w fun e w' => e = .returned (.string (bs T)) ∧ Below w.heap.size w w')
    (hE1 : E1 = 0) (hE2 : E2 = 0) (hE3 : E3 = 0) (hshort : ¬ (1000 : Int) < ((bs T).size : Int)) (h3 : L3 = L1 ++ L2) (w : World) (hF : FoldAt w) (hm : MaxL w) :
    Calls Tryd.prog 13 #[.string (bs s), .string (bs u), .int .i64 n] w fun e w' => e = .returned (.bool true) ∧ Below w.heap.size w w' := by
  subst hE1 hE2 hE3
  have HF := Lib.hid hF
  have HM := Lib.hid hm
  replace c1 := Lib.hid c1
  replace c2 := Lib.hid c2
  replace c3 := Lib.hid c3
  replace cT := Lib.hid cT
  have harr := bads_at r hr
  have w1 : IntKind.u64.wrap (r : Int) = r := by simp [IntKind.wrap, IntKind.bits, IntKind.signed]; omega
  have hri : (r : Int) < 12 := by omega
  have y1 : (bs T).size = T.length := rfl
  have y2 : (bs (badD r)).size ≤ 12 := bad_size r
  have z1 : ¬ 9223372036854775807 < (bs T).size + (bs (badD r)).size := by omega
  have z2 : ¬ 9223372036854775807 < (bs T).size + (bs (badD r)).size + 1 := by omega
  have z3 : ¬ 9223372036854775807 < (bs T).size + (bs (badD r)).size + 1 + (bs u).size := by omega
  have hl1 : (L1.length : Int) ≤ 30 := by omega
  have hn12 := Lib.hid (And.intro hn1 hn2)
  have h3l : L3.length = L1.length + L2.length := by rw [h3, List.length_append]
  have h3i : (L3.length : Int) ≤ 60 := by omega
  have H3L := Lib.hid h3l
  have H3 := Lib.hid h3
  obtain ⟨i0, hi, hz0, hz1, hz2⟩ := info_parts infoD
  have Hi := Lib.hid hi
  have Hz0 := Lib.hid hz0
  have Hz1 := Lib.hid hz1
  have Hz2 := Lib.hid hz2
  clear hF hm hr y1 y2 hT hn1 hn2 h3 h3l hi hz0 hz1 hz2
  go_enter Tryd.func13, Tryd.ntmps13
  go_wp2_with ((go_at_call 29; (with_reducible refine (ruleFact_ct _ HF.out HM.out).mono ?_); rintro e W1 ⟨rfl, hb1⟩; have HB1 := Lib.hid hb1; have HZ1 := Lib.hid hb1.size; clear hb1))
  go_wp2_with ((go_at_call 31; (with_reducible refine (c1.out _ (HF.out.on HB1.out) (HM.out.on HB1.out HM.out.lt)).mono ?_); rintro e W2 ⟨⟨A2, k2, rfl, hr2, ho2⟩, hb2⟩; have HB2 := Lib.hid (HB1.out.trans (hb2.mono HB1.out.size)); have HZ2 := Lib.hid hb2.size; have HR2 := Lib.hid hr2; have HO2 := Lib.hid ho2; clear hb2 hr2 ho2 c1))
  go_wp2_with ((go_at_call 31; (with_reducible refine (c2.out _ (HF.out.on HB2.out) (HM.out.on HB2.out HM.out.lt)).mono ?_); rintro e W3 ⟨⟨A3, k3, rfl, hr3, ho3⟩, hb3⟩; have HB3 := Lib.hid (HB2.out.trans (hb3.mono HB2.out.size)); have HZ3 := Lib.hid hb3.size; have HR23 := Lib.hid (HR2.out.keep hb3 hb3.size); have HO23 := Lib.hid (row_on HO2.out hb3); have HO3 := Lib.hid ho3; clear hb3 hr3 ho3 c2 HR2 HO2))
  go_wp2_with ((go_at_call 32; (with_reducible refine (cT.out _ _ _ (HR23.out.keep ((Below.refl _ _).alloc (Nat.le_refl _) _) (by simp))).mono ?_); rintro e W4 ⟨rfl, hb4⟩; have HB4 := Lib.hid ((HB3.out.alloc HB3.out.size _).trans (hb4.mono (by have := HB3.out.size; simp; omega))); have HZ4 := Lib.hid (show W3.heap.size ≤ W4.heap.size by have := hb4.size; simp at this; omega); have HO24 := Lib.hid (row_on (HO23.out.alloc _) hb4); have HO34 := Lib.hid (row_on (HO3.out.alloc _) hb4); clear hb4 cT HR23))
  go_wp2_with (first
    | (go_at_call 31; (with_reducible refine (c3.out _ (HF.out.on HB4.out) (HM.out.on HB4.out HM.out.lt)).mono ?_); rintro e W5 ⟨⟨A5, k5, rfl, hr5, ho5⟩, hb5⟩; have HB5 := Lib.hid (HB4.out.trans (hb5.mono HB4.out.size)); have HZ5 := Lib.hid hb5.size; have HO25 := Lib.hid (row_on HO24.out hb5); have HO35 := Lib.hid (row_on HO34.out hb5); have HO5 := Lib.hid ho5; clear hb5 hr5 ho5 c3)
    | (at_builtin; refine wpList_append_rd rfl _ _ 59 rfl W1.heap.size 66 i0 _ 3 40 Tryd.underlying59 Hi.out Hz0.out Hz1.out Hz2.out rfl (by decide) _ _ _ rfl HO25.out _ _ _ _ rfl HO35.out (dcells_one L2) ?d3 ?d4 ?d5 ?_))
  case d3 => have := hn12.out; unfold maxLen; omega
  case d4 => have := hn12.out; omega
  case d5 => have := HZ2.out; have := HZ3.out; have := HZ4.out; have := HZ5.out; omega
  intro v6 W6 hown hgrow hblk
  have HB6 := Lib.hid (below_app HB5.out hgrow HO25.out HZ1.out HB5.out.size)
  have hne : (Value.slice A5 L3.length k5).ownBlock ≠ (Value.slice A2 L1.length k2).ownBlock ∨ (Value.slice A5 L3.length k5).ownBlock = none := by
    cases hA2 : (Value.slice A5 L3.length k5).ownBlock with
    | none => exact .inr rfl
    | some g =>
      refine .inl fun e1 => ?_
      have q1 := (HO5.out.lt g hA2).1
      have q2 := (HO24.out.lt g e1.symm).2
      omega
  have hK := HO5.out.kept hgrow (by
    rcases hne with h | h
    · exact Or.inr h
    · rw [h]; exact Or.inl rfl)
  rw [← flatR_app, ← H3.out] at hown
  obtain ⟨A6, k6, rfl, -, hr6⟩ := row_rd dcells_len H3L.out hown
  obtain ⟨A7, k7, hv7, -, hr7⟩ := row_rd dcells_len rfl hK
  obtain ⟨rfl, rfl⟩ : A7 = A5 ∧ k7 = k5 := by
    injection hv7 with x1 x2 x3
    exact ⟨x1.symm, x3.symm⟩
  have cE : Calls Tryd.prog 33 #[.slice A7 L3.length k7, .slice A6 (L1.length + L2.length) k6] W6 fun e w' => e = .returned (.bool true) ∧ ∃ m, w' = W6.drewN m := by
    have h := sameD_ct A7 A6 L3.length (L1.length + L2.length) k7 k6 _ _ W6 (by unfold maxLen; omega) (by have := hn12.out; unfold maxLen; omega) hr7 hr6
    rwa [decide_eq_true rfl] at h
  replace cE := Lib.hid cE
  clear hgrow hown hK hne hv7 hr6 hr7 hblk
  go_wp2_with ((go_at_call 33; (with_reducible refine (cE.out).mono ?_); rintro e w7 ⟨rfl, m7, rfl⟩))
  go_ret
  exact ⟨rfl, below_drewN HB6.out m7⟩

theorem law_ct (a b : ByteArray) (n : Int) (w : World) (ha : a.size ≤ 140737488351232) (hb : b.size ≤ 140737488351232) (hF : FoldAt w) (hm : MaxL w) :
    Calls Tryd.prog 13 #[.string a, .string b, .int .i64 n] w fun e w' => e = .returned (.bool true) ∧ Below w.heap.size w w' := by
  obtain ⟨r, hr, q1⟩ := rest_of n 12 (by decide) (by decide)
  rw [show a = bs a.data.toList from rfl, show b = bs b.data.toList from rfl]
  generalize hs : a.data.toList = s
  generalize hu : b.data.toList = u
  have hub : (bs u).size ≤ 140737488351232 := by rw [← hu]; exact hb
  have hT := declL_text s
  have c1 := fun W hF hm => Decls_any s W hF hm
  have c2 := fun W hF hm => Decls_any u W hF hm
  have hC : bs (dTexts (declL s)) ++ bs (badD r) ++ ⟨#[59]⟩ ++ bs u = bs (dTexts (declL s) ++ (badD r ++ 59 :: u)) := ByteArray.ext (by simp [bs, ByteArray.data_append])
  have c3 := fun W hF hm => Decls_any (dTexts (declL s) ++ (badD r ++ 59 :: u)) W hF hm
  rw [← hC] at c3
  have cT := fun A c W h => dtext_ct A c (declL s) W (by have := declL_len s; omega) h (by omega)
  have n1 := declL_len s
  have n2 := declL_len u
  by_cases hE : declE s = 0 ∧ declE u = 0 ∧ declE (dTexts (declL s) ++ (badD r ++ 59 :: u)) = 0 ∧ ¬ (1000 : Int) < ((bs (dTexts (declL s))).size : Int)
  · obtain ⟨e1, e2, e3, e4⟩ := hE
    refine late s u n r hr q1 hub _ _ _ _ _ _ _ n1 n2 hT c1 c2 c3 cT e1 e2 e3 e4 ?_ w hF hm
    have d1 := declE_some e1
    have d2 := declE_some e2
    have d3 := declE_some e3
    have k2 : declsP (cutP u) = declL u := by
      unfold DeclsP at d2
      split at d2
      · cases d2
      · split at d2
        · cases d2
        · exact Option.some.inj d2
    have k3 := decl_spoils d1 r hr u
    unfold DeclsP at d3
    split at d3
    · cases d3
    · split at d3
      · cases d3
      · rw [← Option.some.inj d3, k3, k2]
  · refine early s u n r hr q1 hub _ _ _ _ _ _ _ n1 n2 hT c1 c2 c3 cT ?_ w hF hm
    rcases declE_or s with e1 | e1 <;> rcases declE_or u with e2 | e2 <;> rcases declE_or (dTexts (declL s) ++ (badD r ++ 59 :: u)) with e3 | e3
    · refine .inr (.inr (.inr ⟨e1, e2, e3, ?_⟩))
      exact Classical.byContradiction fun h => hE ⟨e1, e2, e3, h⟩
    · exact .inr (.inr (.inl ⟨e1, e2, e3⟩))
    · exact .inr (.inl ⟨e1, e2⟩)
    · exact .inr (.inl ⟨e1, e2⟩)
    · exact .inl e1
    · exact .inl e1
    · exact .inl e1
    · exact .inl e1

end Go.Proofs.YtphdmdncboegjaaDoor.rul.spoils

namespace Go.Proofs.YtphdmdncboegjaaDoor.rul.spoils
open Go.RowKit Go.Proofs.YtphdmdncboegjaaDoor.base Go.Proofs.YtphdmdncboegjaaDoor.tok Go.Proofs.YtphdmdncboegjaaDoor.rul Go.ChangeShapes Go.WideShapes Go.ChangeAt
set_option linter.unusedVariables false

set_option maxRecDepth 100000 in
theorem lifted (os : Os) (started : os.Started) (H : Type) (enc : TypeId × Value → H) :
    ReturnsInHanded {} Tryd.checked os 13 .any (fun w args => (Rows.declSpoilsSpec.pre enc Tryd.prog Tryd.f13 Rows.declSpoilsRow.domain false w args ∧ laidMetH Tryd.prog Rows.declSpoilsRow.laid w) ∧ sizedMet enc Tryd.prog Tryd.f13 (OpenSpec.ofChange Rows.declSpoilsSpec) false w args)
      (Rows.declSpoilsSpec.post enc Tryd.prog Tryd.f13 false true false false) := by
  refine returns_door (C := Tryd.checked) (X := fun w _ => laidMetH Tryd.prog Rows.declSpoilsRow.laid w) (fun _ _ _ hh h => h.of_heap hh) ownD started (by kernel_rfl) Tryd.func13
    (ChangeSpec.witness_shaped (enc := enc) (C := Tryd.checked) (os := os) (X := fun w _ => laidMetH Tryd.prog Rows.declSpoilsRow.laid w) false (World.laidAll Tryd.prog os Rows.declSpoilsRow.laid) #[.string .empty, .string .empty, .int .i64 0] 8 (World.laidAll_os _ _ _)
      (World.shaped_of_ZipB (by kernel_rfl) (by kernel_rfl)) (by kernel_rfl) (by kernel_rfl) (by kernel_rfl)
      (by rw [MakeChecks.laidMetH_plain _ _ _ (by kernel_rfl)]; exact laidMet_laidAll _ (by kernel_rfl) (by kernel_rfl))) ?_
  intro W base args ds gs before hval0 hW hsz hlaid hsh
  have hval : ∀ (j : Nat) t v, Tryd.f13.params[j]? = some t → args[j]? = some v → Value.okWide Tryd.prog W .any base t v := hval0
  have hW' := hW
  obtain ⟨p, q, hA0, hV, -, -, -⟩ := hW
  have hA : DataW.TrodAll enc Tryd.prog W 0 (fun _ => true) true Tryd.f13.params.toList args.toList ds p := hA0
  rw [Tryd.params13] at hA hval
  obtain ⟨v0, vs0, d0, ds0, p0, q0, hargs, rfl, -, h0, r0⟩ := trodAll_cons hA
  obtain ⟨v1, vs1, d1, ds1, p1, q1, rfl, rfl, -, h1, r1⟩ := trodAll_cons r0
  obtain ⟨v2, vs2, d2, ds2, p2, q2, rfl, rfl, -, h2, r2⟩ := trodAll_cons r1
  obtain ⟨rfl, rfl, -⟩ := trodAll_nil r2
  obtain rfl : args = #[v0, v1, v2] := by cases args; simp_all
  obtain ⟨rfl, -⟩ := trodVars_none hV
  rw [Tryd.params13] at hsz
  obtain ⟨a, rfl, hd0, -, hs0⟩ := Go.ChangeMaps.open_string Tryd.underlying9 (hval 0 _ _ rfl rfl) h0
  have hz0 : a.size ≤ 140737488351232 := by
    have := sized_string hsz (j := 0) rfl (by rw [hd0]; rfl)
    rwa [← Lib.size_eq] at this
  obtain ⟨b, rfl, hd1, -, hs1⟩ := Go.ChangeMaps.open_string Tryd.underlying9 (hval 1 _ _ rfl rfl) h1
  have hz1 : b.size ≤ 140737488351232 := by
    have := sized_string hsz (j := 1) rfl (by rw [hd1]; rfl)
    rwa [← Lib.size_eq] at this
  obtain ⟨c, rfl, -, -, -⟩ := open_int Tryd.underlying3 (hval 2 _ _ rfl rfl) h2
  rw [MakeChecks.laidMetH_plain _ _ _ (by kernel_rfl)] at hlaid
  exact (law_ct a b c W hz0 hz1 (fold_of hlaid (by simp [Rows.declSpoilsRow])) (maxLen_of hsh)).mono fun e W' ⟨he, bel⟩ => ⟨_, he, law_post laidOutD rfl Tryd.underlying4 rfl (by intro t ht; rw [Tryd.params13] at ht; revert t; decide +kernel) rfl hW' bel⟩

theorem holds : Rows.DeclSpoilsSaid :=
  OpenClaim.holds_of_wide 13 Tryd.f13 rfl rfl rfl rfl rfl rfl rfl ⟨rfl, rfl, rfl, rfl, rfl⟩ rfl rfl rfl rfl rfl (by kernel_rfl) Tryd.func13 (by kernel_rfl)
    (of_decide_eq_true (by kernel_rfl)) (by unfold Func.isWrapper; first | (rw [if_pos (by decide +kernel)]; kernel_rfl) | (rw [if_neg (by decide +kernel)]; exact ⟨rfl, rfl⟩))
    (fun os started H enc _ => lifted os started H enc)

theorem proved : Rows.DeclSpoilsCardSaid :=
  Claim7.holds_tied_plain_at .later [] Rows.declSpoilsCard.laidKinds true Rows.declSpoilsCard.stood.harness false holds (fun _ h => by cases h) (by kernel_rfl) (fun _ h => by cases h) declSpoils_row_tie rfl ⟨rfl, rfl⟩ (by kernel_rfl) rfl
    (fun f fn hf hfn => by
      obtain rfl : f = 13 := Option.some.inj ((show Tryd.prog.funcNamed "clerestory/clerestorykeep2.DeclSpoils" = some 13 by kernel_rfl).symm.trans hf) |>.symm
      obtain rfl : fn = Tryd.f13 := (Option.some.inj (Tryd.func13.symm.trans hfn)).symm
      exact ⟨by kernel_rfl, fun j t ht => by
        rw [Tryd.params13] at ht
        have hm : t ∈ [9, 9, 3] := by simpa using Array.mem_of_getElem? ht
        have hall : ([9, 9, 3].all fun u => !Tryd.prog.wantsStandIn u) = true := by kernel_rfl
        exact (show Tryd.prog.wantsStandIn t = false by simpa using List.all_eq_true.1 hall t hm)⟩)
    (by kernel_rfl)
#print axioms proved

end Go.Proofs.YtphdmdncboegjaaDoor.rul.spoils
