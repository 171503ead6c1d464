/- Contracts: count.in, mark, Mark, fourth. -/
import Derived.Test.YtphdmdncboegjaaDoorCnt1
import Derived.Test.YtphdmdncboegjaaDoorDimT
namespace Go.Proofs.YtphdmdncboegjaaDoor.cnt
open Go.RowKit Go.Proofs.YtphdmdncboegjaaDoor.base Go.Proofs.YtphdmdncboegjaaDoor.tok Go.Proofs.YtphdmdncboegjaaDoor.dim
set_option linter.unusedVariables false

theorem in_ct (n lo hi : Int) (w : World) :
    Calls Tryd.prog 40 #[.int .i64 n, .int .i64 lo, .int .i64 hi] w fun e w' => e = .returned (.bool (decide (lo ≤ n) && decide (n ≤ hi))) ∧ w' = w := by
  by_cases h1 : lo ≤ n
  · have d1 : decide (n ≥ lo) = true := decide_eq_true h1
    rw [decide_eq_true h1, Bool.true_and]
    go_enter Tryd.func40, Tryd.ntmps40
    go_wp2
    go_ret
    exact ⟨rfl, rfl⟩
  · have d1 : decide (n ≥ lo) = false := decide_eq_false h1
    rw [decide_eq_false h1, Bool.false_and]
    go_enter Tryd.func40, Tryd.ntmps40
    go_wp2
    go_ret
    exact ⟨rfl, rfl⟩
theorem in_yes (n lo hi : Int) (h1 : lo ≤ n) (h2 : n ≤ hi) (w : World) :
    Calls Tryd.prog 40 #[.int .i64 n, .int .i64 lo, .int .i64 hi] w fun e w' => e = .returned (.bool true) ∧ w = w' :=
  (in_ct n lo hi w).mono fun e w' ⟨he, hw⟩ => ⟨by rw [he, decide_eq_true h1, decide_eq_true h2]; rfl, hw.symm⟩

theorem upper_ct (l : Bs) (hl : l.length ≤ 100000000) (h : ∀ c ∈ l, smallB c = true) (w : World) :
    Calls Tryd.prog 67 #[.string (bs l)] w fun e w' => e = .returned (.string (bs (Lib.toUpperA l))) ∧ Below w.heap.size w w' :=
  Tryd.strings_ToUpper_ascii (bs l) w (by rw [bs_size]; omega) fun j b hb => by
    have := h b (List.mem_of_getElem? hb)
    simp only [smallB, decide_eq_true_eq] at this
    omega

set_option maxRecDepth 100000 in
set_option maxHeartbeats 4000000 in
theorem mark_2 (n : Nat) (h1 : 1 ≤ n) (h2 : n ≤ 3999) (w : World) (hT : PowAt w) :
    Calls Tryd.prog 41 #[.int .i64 2, .int .i64 n] w fun e w' => e = .returned (.string (bs (Lib.decDigits n))) ∧ Below w.heap.size w w' := by
  have hz1 : (1 : Int) ≤ n := by omega
  have hz2 : (n : Int) ≤ 3999 := by omega
  have hz3 : (0 : Int) < n := by omega
  have cI := Lib.hid (show Calls Tryd.prog 47 #[.int .i64 n] w fun e w' => e = .returned (.string (bs (Lib.decDigits n))) ∧ Below w.heap.size w w' from by
    have := itoa_ct (n : Int) (by omega) (by omega) w hT
    rwa [show Lib.itoa (n : Int) = Lib.decDigits n from by unfold Lib.itoa; rw [if_neg (by omega)]; rfl] at this)
  clear hT
  go_enter Tryd.func41, Tryd.ntmps41
  go_wp2_with (first
    | (go_at_call 66; (with_reducible refine (cL.out _).mono ?_); rintro e W1 ⟨rfl, hb1⟩; have HB1 := Lib.hid hb1; clear hb1)
    | (go_at_call 68; (with_reducible refine (cR.out _).mono ?_); rintro e W1 ⟨rfl, hb1⟩; have HB1 := Lib.hid hb1; clear hb1)
    | (go_at_call 67; (with_reducible refine (cU.out _).mono ?_); rintro e W2 ⟨rfl, hb2⟩; have HB2 := Lib.hid (HB1.out.trans (hb2.mono HB1.out.size)); clear hb2)
    | (go_at_call 40; (with_reducible refine (in_yes _ _ _ (by omega) (by omega) _).mono ?_); rintro e W3 ⟨rfl, rfl⟩)
    | (go_at_call 47; (with_reducible refine (cI.out).mono ?_); rintro e W1 ⟨rfl, hb1⟩; have HB1 := Lib.hid hb1; clear hb1))
  go_ret
  exact ⟨rfl, HB1.out⟩

set_option maxRecDepth 100000 in
set_option maxHeartbeats 4000000 in
theorem mark_3 (n : Nat) (h1 : 1 ≤ n) (h2 : n ≤ 3999) (w : World) (hT : PowAt w) :
    Calls Tryd.prog 41 #[.int .i64 3, .int .i64 n] w fun e w' => e = .returned (.string (bs (letP n))) ∧ Below w.heap.size w w' := by
  have hz1 : (1 : Int) ≤ n := by omega
  have hz2 : (n : Int) ≤ 3999 := by omega
  have hz3 : (0 : Int) < n := by omega
  have cL := Lib.hid (fun w => letters_ct n h1 (by omega) w)
  clear hT
  go_enter Tryd.func41, Tryd.ntmps41
  go_wp2_with (first
    | (go_at_call 66; (with_reducible refine (cL.out _).mono ?_); rintro e W1 ⟨rfl, hb1⟩; have HB1 := Lib.hid hb1; clear hb1)
    | (go_at_call 68; (with_reducible refine (cR.out _).mono ?_); rintro e W1 ⟨rfl, hb1⟩; have HB1 := Lib.hid hb1; clear hb1)
    | (go_at_call 67; (with_reducible refine (cU.out _).mono ?_); rintro e W2 ⟨rfl, hb2⟩; have HB2 := Lib.hid (HB1.out.trans (hb2.mono HB1.out.size)); clear hb2)
    | (go_at_call 40; (with_reducible refine (in_yes _ _ _ (by omega) (by omega) _).mono ?_); rintro e W3 ⟨rfl, rfl⟩)
    | (go_at_call 47; (with_reducible refine (cI.out).mono ?_); rintro e W1 ⟨rfl, hb1⟩; have HB1 := Lib.hid hb1; clear hb1))
  go_ret
  exact ⟨rfl, HB1.out⟩

set_option maxRecDepth 100000 in
set_option maxHeartbeats 4000000 in
theorem mark_4 (n : Nat) (h1 : 1 ≤ n) (h2 : n ≤ 3999) (w : World) (hT : PowAt w) :
    Calls Tryd.prog 41 #[.int .i64 4, .int .i64 n] w fun e w' => e = .returned (.string (bs (Lib.toUpperA (letP n)))) ∧ Below w.heap.size w w' := by
  have hz1 : (1 : Int) ≤ n := by omega
  have hz2 : (n : Int) ≤ 3999 := by omega
  have hz3 : (0 : Int) < n := by omega
  have cL := Lib.hid (fun w => letters_ct n h1 (by omega) w)
  have cU := Lib.hid (fun w => upper_ct (letP n) (by have := letR_bd n n (Nat.le_refl _); unfold letP; rw [List.length_reverse]; omega) (let_small n) w)
  clear hT
  go_enter Tryd.func41, Tryd.ntmps41
  go_wp2_with (first
    | (go_at_call 66; (with_reducible refine (cL.out _).mono ?_); rintro e W1 ⟨rfl, hb1⟩; have HB1 := Lib.hid hb1; clear hb1)
    | (go_at_call 68; (with_reducible refine (cR.out _).mono ?_); rintro e W1 ⟨rfl, hb1⟩; have HB1 := Lib.hid hb1; clear hb1)
    | (go_at_call 67; (with_reducible refine (cU.out _).mono ?_); rintro e W2 ⟨rfl, hb2⟩; have HB2 := Lib.hid (HB1.out.trans (hb2.mono HB1.out.size)); clear hb2)
    | (go_at_call 40; (with_reducible refine (in_yes _ _ _ (by omega) (by omega) _).mono ?_); rintro e W3 ⟨rfl, rfl⟩)
    | (go_at_call 47; (with_reducible refine (cI.out).mono ?_); rintro e W1 ⟨rfl, hb1⟩; have HB1 := Lib.hid hb1; clear hb1))
  go_ret
  exact ⟨rfl, HB2.out⟩

set_option maxRecDepth 100000 in
set_option maxHeartbeats 4000000 in
theorem mark_5 (n : Nat) (h1 : 1 ≤ n) (h2 : n ≤ 3999) (w : World) (hT : PowAt w) :
    Calls Tryd.prog 41 #[.int .i64 5, .int .i64 n] w fun e w' => e = .returned (.string (bs (romP n))) ∧ Below w.heap.size w w' := by
  have hz1 : (1 : Int) ≤ n := by omega
  have hz2 : (n : Int) ≤ 3999 := by omega
  have hz3 : (0 : Int) < n := by omega
  have cR := Lib.hid (fun w => roman_ct n h2 w)
  clear hT
  go_enter Tryd.func41, Tryd.ntmps41
  go_wp2_with (first
    | (go_at_call 66; (with_reducible refine (cL.out _).mono ?_); rintro e W1 ⟨rfl, hb1⟩; have HB1 := Lib.hid hb1; clear hb1)
    | (go_at_call 68; (with_reducible refine (cR.out _).mono ?_); rintro e W1 ⟨rfl, hb1⟩; have HB1 := Lib.hid hb1; clear hb1)
    | (go_at_call 67; (with_reducible refine (cU.out _).mono ?_); rintro e W2 ⟨rfl, hb2⟩; have HB2 := Lib.hid (HB1.out.trans (hb2.mono HB1.out.size)); clear hb2)
    | (go_at_call 40; (with_reducible refine (in_yes _ _ _ (by omega) (by omega) _).mono ?_); rintro e W3 ⟨rfl, rfl⟩)
    | (go_at_call 47; (with_reducible refine (cI.out).mono ?_); rintro e W1 ⟨rfl, hb1⟩; have HB1 := Lib.hid hb1; clear hb1))
  go_ret
  exact ⟨rfl, HB1.out⟩

set_option maxRecDepth 100000 in
set_option maxHeartbeats 4000000 in
theorem mark_6 (n : Nat) (h1 : 1 ≤ n) (h2 : n ≤ 3999) (w : World) (hT : PowAt w) :
    Calls Tryd.prog 41 #[.int .i64 6, .int .i64 n] w fun e w' => e = .returned (.string (bs (Lib.toUpperA (romP n)))) ∧ Below w.heap.size w w' := by
  have hz1 : (1 : Int) ≤ n := by omega
  have hz2 : (n : Int) ≤ 3999 := by omega
  have hz3 : (0 : Int) < n := by omega
  have cR := Lib.hid (fun w => roman_ct n h2 w)
  have cU := Lib.hid (fun w => upper_ct (romP n) (by have := rom_bd n; omega) (rom_small n) w)
  clear hT
  go_enter Tryd.func41, Tryd.ntmps41
  go_wp2_with (first
    | (go_at_call 66; (with_reducible refine (cL.out _).mono ?_); rintro e W1 ⟨rfl, hb1⟩; have HB1 := Lib.hid hb1; clear hb1)
    | (go_at_call 68; (with_reducible refine (cR.out _).mono ?_); rintro e W1 ⟨rfl, hb1⟩; have HB1 := Lib.hid hb1; clear hb1)
    | (go_at_call 67; (with_reducible refine (cU.out _).mono ?_); rintro e W2 ⟨rfl, hb2⟩; have HB2 := Lib.hid (HB1.out.trans (hb2.mono HB1.out.size)); clear hb2)
    | (go_at_call 40; (with_reducible refine (in_yes _ _ _ (by omega) (by omega) _).mono ?_); rintro e W3 ⟨rfl, rfl⟩)
    | (go_at_call 47; (with_reducible refine (cI.out).mono ?_); rintro e W1 ⟨rfl, hb1⟩; have HB1 := Lib.hid hb1; clear hb1))
  go_ret
  exact ⟨rfl, HB2.out⟩

theorem mark_any (k n : Nat) (hk : 2 ≤ k ∧ k ≤ 6) (h1 : 1 ≤ n) (h2 : n ≤ 3999) (w : World) (hT : PowAt w) :
    Calls Tryd.prog 41 #[.int .i64 k, .int .i64 n] w fun e w' => e = .returned (.string (bs (markP k n))) ∧ Below w.heap.size w w' := by
  match k, hk with
  | 2, _ => exact mark_2 n h1 h2 w hT
  | 3, _ => exact mark_3 n h1 h2 w hT
  | 4, _ => exact mark_4 n h1 h2 w hT
  | 5, _ => exact mark_5 n h1 h2 w hT
  | 6, _ => exact mark_6 n h1 h2 w hT

set_option maxRecDepth 100000 in
set_option maxHeartbeats 4000000 in
theorem Mark_ct (k n : Nat) (hk : 2 ≤ k ∧ k ≤ 6) (h1 : 1 ≤ n) (h2 : n ≤ 3999) (w : World) (hT : PowAt w) :
    Calls Tryd.prog 23 #[.int .i64 k, .int .i64 n] w fun e w' => e = .returned (.tuple #[.string (bs (markP k n)), .int .i64 0]) ∧ Below w.heap.size w w' := by
  have cM := Lib.hid (mark_any k n hk h1 h2 w hT)
  clear hT
  go_enter Tryd.func23, Tryd.ntmps23
  go_wp2_with (first
    | (go_at_call 40; (with_reducible refine (in_yes _ _ _ (by omega) (by omega) _).mono ?_); rintro e W3 ⟨rfl, rfl⟩)
    | (go_at_call 41; (with_reducible refine (cM.out).mono ?_); rintro e W1 ⟨rfl, hb1⟩; have HB1 := Lib.hid hb1; clear hb1))
  go_ret2
  exact ⟨rfl, HB1.out⟩

set_option maxRecDepth 100000 in
set_option maxHeartbeats 4000000 in
theorem fourth_ct (w : World) (hT : PowAt w) :
    Calls Tryd.prog 22 #[] w fun e w' => e = .returned (.bool true) ∧ Below w.heap.size w w' := by
  have cM := Mark_ct 5 14 (by decide) (by decide) (by decide) w hT
  rw [show markP 5 14 = [120, 105, 118] from by decide +kernel] at cM
  replace cM := Lib.hid (show Calls Tryd.prog 23 #[.int .i64 5, .int .i64 14] w fun e w' => e = .returned (.tuple #[.string ⟨#[120, 105, 118]⟩, .int .i64 0]) ∧ Below w.heap.size w w' from cM)
  clear hT
  go_enter Tryd.func22, Tryd.ntmps22
  go_wp2_with ((go_at_call 23; (with_reducible refine (cM.out).mono ?_); rintro e W1 ⟨rfl, hb1⟩; have HB1 := Lib.hid hb1; clear hb1))
  go_ret
  exact ⟨rfl, HB1.out⟩

end Go.Proofs.YtphdmdncboegjaaDoor.cnt
