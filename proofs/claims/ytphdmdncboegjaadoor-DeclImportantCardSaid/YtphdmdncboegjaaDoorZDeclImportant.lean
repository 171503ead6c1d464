/- DeclImportant: for every text and each number the call returns true, and all that was there reads as before. The package-level variables that its row lists start as the program's text lays them (the card ties them). -/
import Derived.Test.YtphdmdncboegjaaDoorBG
import Derived.Test.YtphdmdncboegjaaDoorBI
import Derived.Test.YtphdmdncboegjaaDoorBH
import Derived.Test.YtphdmdncboegjaaDoorTie
import Derived.Test.YtphdmdncboegjaaDoorCards

namespace Go.Proofs.YtphdmdncboegjaaDoor.rul.important
open Go.RowKit Go.Proofs.YtphdmdncboegjaaDoor.base Go.Proofs.YtphdmdncboegjaaDoor.tok Go.Proofs.YtphdmdncboegjaaDoor.rul
set_option linter.unusedVariables false

theorem rest_of (a : Int) (m : Nat) (hm : 0 < m) (hb : m ≤ 10000) : ∃ r : Nat, r < m ∧ (IntKind.u64.wrap a).tmod m = (r : Int) := by
  have h0 : 0 ≤ IntKind.u64.wrap a := by simp [IntKind.wrap, IntKind.bits, IntKind.signed]; omega
  generalize IntKind.u64.wrap a = v at *
  rw [Int.tmod_eq_emod_of_nonneg h0]
  have h1 := Int.emod_nonneg v (show (m : Int) ≠ 0 by omega)
  have h2 := Int.emod_lt_of_pos v (show (0 : Int) < m by omega)
  exact ⟨(v % m).toNat, by omega, by omega⟩
/-- the marks, as the law lays them -/
abbrev marksA : Array Value := #[.string ⟨#[33, 105, 109, 112, 111, 114, 116, 97, 110, 116]⟩, .string ⟨#[32, 33, 32, 73, 77, 80, 79, 82, 84, 65, 78, 84, 32]⟩, .string ⟨#[47, 42, 42, 47, 33, 47, 42, 32, 120, 32, 42, 47, 105, 109, 112, 111, 114, 116, 97, 110, 116]⟩, .string ⟨#[10, 33, 10, 73, 109, 80, 111, 114, 116, 97, 110, 116, 10]⟩]
theorem marks_at : ∀ (r : Nat), r < 4 → marksA[r]? = some (.string (bs (markD r)))
  | 0, _ => rfl | 1, _ => rfl | 2, _ => rfl | 3, _ => rfl
  | n + 4, h => by omega
theorem mark_size (r : Nat) : (bs (markD r)).size ≤ 30 := by
  rw [bs_size]
  unfold markD
  split <;> decide

set_option maxRecDepth 100000 in
set_option maxHeartbeats 4000000 in
theorem early (s : Bs) (n : Int) (L1 : List Dc) (E1 : Int) (hn1 : L1.length ≤ 30)
    (c1 : ∀ w, FoldAt w → MaxL w → Calls Tryd.prog 31 #[.string (bs s)] w fun e w' => DeclsRet w w' L1 E1 e ∧ Below w.heap.size w w')
    (hE : E1 = 2 ∨ (E1 = 0 ∧ ¬ L1.length = 1)) (w : World) (hF : FoldAt w) (hm : MaxL w) :
    Calls Tryd.prog 14 #[.string (bs s), .int .i64 n] w fun e w' => e = .returned (.bool true) ∧ Below w.heap.size w w' := by
  have HF := Lib.hid hF
  have HM := Lib.hid hm
  replace c1 := Lib.hid c1
  have hl1 : (L1.length : Int) ≤ 30 := by omega
  clear hF hm hn1
  rcases hE with rfl | ⟨rfl, hne⟩
  · go_enter Tryd.func14, Tryd.ntmps14
    go_wp2_with ((go_at_call 29; (with_reducible refine (ruleFact_ct _ HF.out HM.out).mono ?_); rintro e W1 ⟨rfl, hb1⟩; have HB1 := Lib.hid hb1; clear hb1))
    go_wp2_with ((go_at_call 31; (with_reducible refine (c1.out _ (HF.out.on HB1.out) (HM.out.on HB1.out HM.out.lt)).mono ?_); rintro e W2 ⟨⟨A2, k2, rfl, hr2, ho2⟩, hb2⟩; have HB2 := Lib.hid (HB1.out.trans (hb2.mono HB1.out.size)); clear hb2 hr2 ho2 c1))
    go_ret
    exact ⟨rfl, HB2.out⟩
  · have hni : ((L1.length : Int) != 1) = true := by simp; omega
    clear hne
    go_enter Tryd.func14, Tryd.ntmps14
    go_wp2_with ((go_at_call 29; (with_reducible refine (ruleFact_ct _ HF.out HM.out).mono ?_); rintro e W1 ⟨rfl, hb1⟩; have HB1 := Lib.hid hb1; clear hb1))
    go_wp2_with ((go_at_call 31; (with_reducible refine (c1.out _ (HF.out.on HB1.out) (HM.out.on HB1.out HM.out.lt)).mono ?_); rintro e W2 ⟨⟨A2, k2, rfl, hr2, ho2⟩, hb2⟩; have HB2 := Lib.hid (HB1.out.trans (hb2.mono HB1.out.size)); clear hb2 hr2 ho2 c1))
    go_ret
    exact ⟨rfl, HB2.out⟩

/-- the one block of a row of one declaration -/
theorem one_blk {w : World} {base : Nat} {A : Option Addr} {c : Nat} {d : Dc} (h : w.ownsRow base 66 3 (.slice A 1 c) 1 (flatR dcells [d])) : ∃ g cur, A = some ⟨g, 0, none⟩ ∧ base ≤ g ∧ Blk w g 66 cur ∧ cur[0]? = some (.string (bs d.name)) ∧ cur[1]? = some (.string (bs d.val)) ∧ cur[2]? = some (.bool d.imp) ∧ 3 ≤ cur.size := by
  rcases h.2 with ⟨h1, h2⟩ | ⟨g, cap, cur, hv, hbg, hg, hnc, hcm, hcs, htake⟩
  · cases h2
  · injection hv with e1 e2 e3
    subst e1 e3
    have hsz : 3 ≤ cur.size := by rw [hcs]; omega
    have hx : ∀ i, i < 3 → cur[i]? = (dcells d)[i]? := fun i hi => by
      have := congrArg (fun l => l[i]?) htake
      simp only [List.getElem?_take_of_lt (show i < 1 * 3 by omega)] at this
      rw [← Array.getElem?_toList, this]
      simp [flatR]
    exact ⟨g, cur, rfl, hbg, hg, hx 0 (by decide), hx 1 (by decide), hx 2 (by decide), hsz⟩

theorem set_row {W : World} {g : Nat} {cur : Array Value} {nm vl : Bs} (hb : Blk W g 66 cur) (e0 : cur[0]? = some (.string (bs nm))) (e1 : cur[1]? = some (.string (bs vl))) (hs : 3 ≤ cur.size) : DRd (W.setCell ⟨g, 2, none⟩ (.bool true)) (W.setCell ⟨g, 2, none⟩ (.bool true)).heap.size (some ⟨g, 0, none⟩) 1 [⟨nm, vl, true⟩] := by
  have hp := hb.put 2 (.bool true)
  refine ⟨rfl, fun _ => ⟨g, 0, rfl, hp.lt, fun i d hd j hj => ?_⟩⟩
  cases i with
  | succ i => simp at hd
  | zero =>
    obtain rfl : (⟨nm, vl, true⟩ : Dc) = d := by simpa using hd
    rw [Nat.zero_mul, Nat.add_zero, Nat.zero_add, hp.cell j]
    match j, hj with
    | 0, _ => rw [Array.getElem?_setIfInBounds_ne (by decide), e0]; rfl
    | 1, _ => rw [Array.getElem?_setIfInBounds_ne (by decide), e1]; rfl
    | 2, _ => rw [Array.getElem?_setIfInBounds_self_of_lt (by omega)]; rfl
theorem set_keep {W : World} {base n c g : Nat} {A : Option Addr} {L : List Dc} (h : W.ownsRow base 66 3 (.slice A n c) n (flatR dcells L)) (hL : L.length = n) (hg : g < base) (v : Value) : DRd (W.setCell ⟨g, 2, none⟩ v) (W.setCell ⟨g, 2, none⟩ v).heap.size A n L := by
  have hgr : W.grownBy (W.setCell ⟨g, 2, none⟩ v) (some g) := ⟨rfl, rfl, rfl, by simp, fun k hk hne => Below.heap_setCell W ⟨g, 2, none⟩ v k (fun e => hne (by rw [e]))⟩
  have hk := h.kept hgr (by
    cases ho : (Value.slice A n c).ownBlock with
    | none => exact Or.inl rfl
    | some b =>
      refine Or.inr fun e => ?_
      have := (h.lt b ho).1
      injection e with e
      omega)
  obtain ⟨A', k', hv, -, hr⟩ := row_rd dcells_len hL hk
  injection hv with x1 x2 x3
  subst x1
  exact hr

set_option maxRecDepth 100000 in
set_option maxHeartbeats 4000000 in
theorem already (s : Bs) (n : Int) (d : Dc) (hi : d.imp = true)
    (c1 : ∀ w, FoldAt w → MaxL w → Calls Tryd.prog 31 #[.string (bs s)] w fun e w' => DeclsRet w w' [d] 0 e ∧ Below w.heap.size w w') (w : World) (hF : FoldAt w) (hm : MaxL w) :
    Calls Tryd.prog 14 #[.string (bs s), .int .i64 n] w fun e w' => e = .returned (.bool true) ∧ Below w.heap.size w w' := by
  have HF := Lib.hid hF
  have HM := Lib.hid hm
  have Hi := Lib.hid hi
  replace c1 := Lib.hid c1
  clear hF hm hi
  go_enter Tryd.func14, Tryd.ntmps14
  go_wp2_with ((go_at_call 29; (with_reducible refine (ruleFact_ct _ HF.out HM.out).mono ?_); rintro e W1 ⟨rfl, hb1⟩; have HB1 := Lib.hid hb1; clear hb1))
  go_wp2_with ((go_at_call 31; (with_reducible refine (c1.out _ (HF.out.on HB1.out) (HM.out.on HB1.out HM.out.lt)).mono ?_); rintro e W2 ⟨⟨A2, k2, rfl, hr2, ho2⟩, hb2⟩; have HB2 := Lib.hid (HB1.out.trans (hb2.mono HB1.out.size)); (obtain ⟨g, cur, rfl, hg1, hblk, e0, e1, e2, hsz⟩ := one_blk ho2); (rw [Hi.out] at e2); (have q2 : W2.cell? ⟨g, 2, none⟩ = some (.bool true) := (hblk.cell 2).trans e2); clear hb2 hr2 ho2 c1 e0 e1 e2 hblk))
  go_ret
  exact ⟨rfl, HB2.out⟩

set_option maxRecDepth 100000 in
set_option maxHeartbeats 4000000 in
theorem late (s : Bs) (n : Int) (r : Nat) (hr : r < 4) (q1 : (IntKind.u64.wrap n).tmod 4 = (r : Int)) (nm vl : Bs) (L3 : List Dc) (E3 : Int) (hn : nm.length ≤ 3000) (hv : vl.length ≤ 3000) (hn3 : L3.length ≤ 30)
    (c1 : ∀ w, FoldAt w → MaxL w → Calls Tryd.prog 31 #[.string (bs s)] w fun e w' => DeclsRet w w' [⟨nm, vl, false⟩] 0 e ∧ Below w.heap.size w w')
    (c3 : ∀ w, FoldAt w → MaxL w → Calls Tryd.prog 31 #[.string (bs nm ++ ⟨#[32, 58, 32]⟩ ++ bs vl ++ bs (markD r) ++ ⟨#[59]⟩)] w fun e w' => DeclsRet w w' L3 E3 e ∧ Below w.heap.size w w')
    (hE : E3 = 2 ∨ (E3 = 0 ∧ L3 = [⟨nm, vl, true⟩])) (w : World) (hF : FoldAt w) (hm : MaxL w) :
    Calls Tryd.prog 14 #[.string (bs s), .int .i64 n] w fun e w' => e = .returned (.bool true) ∧ Below w.heap.size w w' := by
  have HF := Lib.hid hF
  have HM := Lib.hid hm
  replace c1 := Lib.hid c1
  replace c3 := Lib.hid c3
  have harr := marks_at r hr
  have w1 : IntKind.u64.wrap (r : Int) = r := by simp [IntKind.wrap, IntKind.bits, IntKind.signed]; omega
  have hri : (r : Int) < 4 := by omega
  have y1 : (bs nm).size = nm.length := rfl
  have y3 : (bs vl).size = vl.length := rfl
  have y2 : (bs (markD r)).size ≤ 30 := mark_size r
  have z1 : ¬ 9223372036854775807 < (bs nm).size + 3 := by omega
  have z2 : ¬ 9223372036854775807 < (bs nm).size + 3 + (bs vl).size := by omega
  have z3 : ¬ 9223372036854775807 < (bs nm).size + 3 + (bs vl).size + (bs (markD r)).size := by omega
  have z4 : ¬ 9223372036854775807 < (bs nm).size + 3 + (bs vl).size + (bs (markD r)).size + 1 := by omega
  have hl3 : (L3.length : Int) ≤ 30 := by omega
  have cS := fun A c A' c' W (hL : DRd W W.heap.size A L3.length L3) (hL' : DRd W W.heap.size A' 1 [⟨nm, vl, true⟩]) => sameD_ct A A' L3.length 1 c c' L3 [⟨nm, vl, true⟩] W (by unfold maxLen; omega) (by decide) hL hL'
  have hq : E3 = 2 ∨ (E3 = 0 ∧ decide (L3 = [⟨nm, vl, true⟩]) = true) := hE.imp id (fun h => ⟨h.1, decide_eq_true h.2⟩)
  generalize decide (L3 = [⟨nm, vl, true⟩]) = q at *
  replace cS := Lib.hid cS
  clear hF hm hr y1 y2 y3 hn hv hn3 hE
  rcases hq with rfl | ⟨rfl, rfl⟩
  all_goals (
  go_enter Tryd.func14, Tryd.ntmps14
  go_wp2_with ((go_at_call 29; (with_reducible refine (ruleFact_ct _ HF.out HM.out).mono ?_); rintro e W1 ⟨rfl, hb1⟩; have HB1 := Lib.hid hb1; clear hb1))
  go_wp2_with ((go_at_call 31; (with_reducible refine (c1.out _ (HF.out.on HB1.out) (HM.out.on HB1.out HM.out.lt)).mono ?_); rintro e W2 ⟨⟨A2, k2, rfl, hr2, ho2⟩, hb2⟩; have HB2 := Lib.hid (HB1.out.trans (hb2.mono HB1.out.size)); (obtain ⟨g, cur, rfl, hg1, hblk, e0, e1, e2, hsz⟩ := one_blk ho2); (have q2 : W2.cell? ⟨g, 2, none⟩ = some (.bool false) := (hblk.cell 2).trans e2); have HBk := Lib.hid hblk; have HE0 := Lib.hid e0; have HE1 := Lib.hid e1; have HE2 := Lib.hid e2; have HS := Lib.hid hsz; have HG := Lib.hid (Nat.le_trans HB1.out.size hg1); clear hb2 hr2 ho2 c1 e0 e1 e2 hblk hsz hg1))
  clear q2
  generalize hW0 : W2.alloc (.cells marksA 9) = W0
  have HB0 := Lib.hid (show Below w.heap.size w W0 by subst hW0; exact HB2.out.alloc HB2.out.size _)
  have HK0 := Lib.hid (show Blk W0 g 66 cur by subst hW0; exact HBk.out.alloc _)
  have c0 : W0.cell? ⟨g, 0, none⟩ = some (.string (bs nm)) := (HK0.out.cell 0).trans HE0.out
  have c1 : W0.cell? ⟨g, 1, none⟩ = some (.string (bs vl)) := (HK0.out.cell 1).trans HE1.out
  have hgl := HK0.out.lt
  clear hW0 HBk HB2
  go_region_held3 (fun w' => (∀ b o, b < W0.heap.size → w'.cell? ⟨b, o, none⟩ = W0.cell? ⟨b, o, none⟩) ∧ Below W0.heap.size W0 w')
    (first | exact As.beg | assumption | exact As.on hb3 (by assumption) (Nat.le_refl _) | exact As.alloc (by assumption) (Nat.le_refl _))
    ((go_at_call 31; (with_reducible refine (c3.out _ (HF.out.on HB0.out.drew) (HM.out.on HB0.out.drew HM.out.lt)).mono ?_); rintro e W5 ⟨⟨A5, k5, rfl, hr5, ho5⟩, hb3⟩; have hS := Lib.hid (As.on (B := W0.heap.size) (W0 := W0) hb3 As.beg (Nat.le_refl _)); have HO5 := Lib.hid ho5; clear hr5 ho5))
  rename_i hHeld
  clear hHeld
  have HB5 := Lib.hid (HB0.out.trans (hS.out.2.mono HB0.out.size))
  have HK5 := Lib.hid (HK0.out.below hS.out.2 hgl)
  have fz := HK5.out.frozen
  have q5 : W5.cell? ⟨g, 2, none⟩ = some (.bool false) := (HK5.out.cell 2).trans HE2.out
  have hgl5 := HK5.out.lt
  have HA := Lib.hid (set_row HK5.out HE0.out HE1.out HS.out)
  have HC := Lib.hid (set_keep HO5.out rfl (by simpa using hgl) (.bool true))
  clear c0 c1 hS hb3 HK0 HK5 HB0
  go_wp2_with ((go_at_call 33; (with_reducible refine (cS.out _ _ _ _ _ HC.out HA.out).mono ?_); rintro e w7 ⟨rfl, m7, rfl⟩))
  go_ret
  exact ⟨rfl, below_drewN (HB5.out.setCell HG.out _) m7⟩)

theorem law_ct (a : ByteArray) (n : Int) (w : World) (ha : a.size ≤ maxLen) (hF : FoldAt w) (hm : MaxL w) :
    Calls Tryd.prog 14 #[.string a, .int .i64 n] w fun e w' => e = .returned (.bool true) ∧ Below w.heap.size w w' := by
  obtain ⟨r, hr, q1⟩ := rest_of n 4 (by decide) (by decide)
  rw [show a = bs a.data.toList from rfl]
  generalize a.data.toList = s
  have c1 := fun W hF hm => Decls_any s W hF hm
  have n1 := declL_len s
  rcases declE_or s with e1 | e1
  · by_cases hl : (declL s).length = 1
    · obtain ⟨d, hd⟩ := List.length_eq_one_iff.1 hl
      rw [e1, hd] at c1
      have d1 := declE_some e1
      rw [hd] at d1
      have hT := (Decls_told d1).1 d (by simp)
      cases hi : d.imp with
      | true => exact already s n d hi c1 w hF hm
      | false =>
        have hx := told_marked hT r hr
        obtain ⟨_, _, _, _, _, _, _, _, _, _, hn, hv⟩ := hT
        obtain ⟨nm, vl, im⟩ := d
        simp only at hi hn hv hx
        subst hi
        have hC : bs nm ++ ⟨#[32, 58, 32]⟩ ++ bs vl ++ bs (markD r) ++ ⟨#[59]⟩ = bs (markText ⟨nm, vl, false⟩ r) := ByteArray.ext (by simp [bs, markText, ByteArray.data_append])
        have c3 := fun W hF hm => Decls_any (markText ⟨nm, vl, false⟩ r) W hF hm
        rw [← hC] at c3
        refine late s n r hr q1 nm vl _ _ hn hv (declL_len _) c1 c3 ?_ w hF hm
        rcases declE_or (markText ⟨nm, vl, false⟩ r) with e3 | e3
        · refine .inr ⟨e3, ?_⟩
          have d3 := declE_some e3
          unfold DeclsP at d3
          split at d3
          · cases d3
          · split at d3
            · cases d3
            · rw [← Option.some.inj d3, hx]
        · exact .inl e3
    · exact early s n _ _ n1 c1 (.inr ⟨e1, hl⟩) w hF hm
  · exact early s n _ _ n1 c1 (.inl e1) w hF hm

end Go.Proofs.YtphdmdncboegjaaDoor.rul.important

namespace Go.Proofs.YtphdmdncboegjaaDoor.rul.important
open Go.RowKit Go.Proofs.YtphdmdncboegjaaDoor.base Go.Proofs.YtphdmdncboegjaaDoor.tok Go.Proofs.YtphdmdncboegjaaDoor.rul Go.ChangeShapes Go.WideShapes Go.ChangeAt
set_option linter.unusedVariables false

set_option maxRecDepth 100000 in
theorem lifted (os : Os) (started : os.Started) (H : Type) (enc : TypeId × Value → H) :
    ReturnsInHanded {} Tryd.checked os 14 .any (fun w args => (Rows.declImportantSpec.pre enc Tryd.prog Tryd.f14 Rows.declImportantRow.domain false w args ∧ laidMetH Tryd.prog Rows.declImportantRow.laid w) ∧ sizedMet enc Tryd.prog Tryd.f14 (OpenSpec.ofChange Rows.declImportantSpec) false w args)
      (Rows.declImportantSpec.post enc Tryd.prog Tryd.f14 false true false false) := by
  refine returns_door (C := Tryd.checked) (X := fun w _ => laidMetH Tryd.prog Rows.declImportantRow.laid w) (fun _ _ _ hh h => h.of_heap hh) ownD started (by kernel_rfl) Tryd.func14
    (ChangeSpec.witness_shaped (enc := enc) (C := Tryd.checked) (os := os) (X := fun w _ => laidMetH Tryd.prog Rows.declImportantRow.laid w) false (World.laidAll Tryd.prog os Rows.declImportantRow.laid) #[.string .empty, .int .i64 0] 8 (World.laidAll_os _ _ _)
      (World.shaped_of_ZipB (by kernel_rfl) (by kernel_rfl)) (by kernel_rfl) (by kernel_rfl) (by kernel_rfl)
      (by rw [MakeChecks.laidMetH_plain _ _ _ (by kernel_rfl)]; exact laidMet_laidAll _ (by kernel_rfl) (by kernel_rfl))) ?_
  intro W base args ds gs before hval0 hW hsz hlaid hsh
  have hval : ∀ (j : Nat) t v, Tryd.f14.params[j]? = some t → args[j]? = some v → Value.okWide Tryd.prog W .any base t v := hval0
  have hW' := hW
  obtain ⟨p, q, hA0, hV, -, -, -⟩ := hW
  have hA : DataW.TrodAll enc Tryd.prog W 0 (fun _ => true) true Tryd.f14.params.toList args.toList ds p := hA0
  rw [Tryd.params14] at hA hval
  obtain ⟨v0, vs0, d0, ds0, p0, q0, hargs, rfl, -, h0, r0⟩ := trodAll_cons hA
  obtain ⟨v1, vs1, d1, ds1, p1, q1, rfl, rfl, -, h1, r1⟩ := trodAll_cons r0
  obtain ⟨rfl, rfl, -⟩ := trodAll_nil r1
  obtain rfl : args = #[v0, v1] := by cases args; simp_all
  obtain ⟨rfl, -⟩ := trodVars_none hV
  obtain ⟨a, rfl, -, -, hs0⟩ := Go.ChangeMaps.open_string Tryd.underlying9 (hval 0 _ _ rfl rfl) h0
  obtain ⟨b, rfl, -, -, -⟩ := open_int Tryd.underlying3 (hval 1 _ _ rfl rfl) h1
  rw [MakeChecks.laidMetH_plain _ _ _ (by kernel_rfl)] at hlaid
  exact (law_ct a b W hs0 (fold_of hlaid (by simp [Rows.declImportantRow])) (maxLen_of hsh)).mono fun e W' ⟨he, bel⟩ => ⟨_, he, law_post laidOutD rfl Tryd.underlying4 rfl (by intro t ht; rw [Tryd.params14] at ht; revert t; decide +kernel) rfl hW' bel⟩

theorem holds : Rows.DeclImportantSaid :=
  OpenClaim.holds_of_wide 14 Tryd.f14 rfl rfl rfl rfl rfl rfl rfl ⟨rfl, rfl, rfl, rfl, rfl⟩ rfl rfl rfl rfl rfl (by kernel_rfl) Tryd.func14 (by kernel_rfl)
    (of_decide_eq_true (by kernel_rfl)) (by unfold Func.isWrapper; first | (rw [if_pos (by decide +kernel)]; kernel_rfl) | (rw [if_neg (by decide +kernel)]; exact ⟨rfl, rfl⟩))
    (fun os started H enc _ => lifted os started H enc)

theorem proved : Rows.DeclImportantCardSaid :=
  Claim7.holds_tied_plain_at .later [] Rows.declImportantCard.laidKinds true Rows.declImportantCard.stood.harness false holds (fun _ h => by cases h) (by kernel_rfl) (fun _ h => by cases h) declImportant_row_tie rfl ⟨rfl, rfl⟩ (by kernel_rfl) rfl
    (fun f fn hf hfn => by
      obtain rfl : f = 14 := Option.some.inj ((show Tryd.prog.funcNamed "clerestory/clerestorykeep2.DeclImportant" = some 14 by kernel_rfl).symm.trans hf) |>.symm
      obtain rfl : fn = Tryd.f14 := (Option.some.inj (Tryd.func14.symm.trans hfn)).symm
      exact ⟨by kernel_rfl, fun j t ht => by
        rw [Tryd.params14] at ht
        have hm : t ∈ [9, 3] := by simpa using Array.mem_of_getElem? ht
        have hall : ([9, 3].all fun u => !Tryd.prog.wantsStandIn u) = true := by kernel_rfl
        exact (show Tryd.prog.wantsStandIn t = false by simpa using List.all_eq_true.1 hall t hm)⟩)
    (by kernel_rfl)
#print axioms proved

end Go.Proofs.YtphdmdncboegjaaDoor.rul.important
