/- Contracts and plain law, a bundle. -/
import Derived.Lib.Hide
import Derived.Test.YthgffoanecknoaaGreatDoorH0
import Derived.Test.YthgffoanecknoaaGreatDoorBH
set_option linter.unusedVariables false
set_option maxRecDepth 100000
set_option maxHeartbeats 16000000
open Go.Lib (hid)
namespace Go.Proofs.YthgffoanecknoaaGreatDoor
namespace cnt
open Go.RowKit base tok dim
theorem cin_ct (n lo hi : Int) (w : World) :
  Calls Tryz.prog 34 #[.int .i64 n, .int .i64 lo, .int .i64 hi] w fun e w' => e = .returned (.bool (decide (lo <= n) && decide (n <= hi))) /\ w' = w := by
 by_cases h1 : lo <= n
 ·have d1 : decide (n ≥ lo) = true := decide_eq_true h1
  rw [decide_eq_true h1, Bool.true_and]
  go_enter Tryz.func34, Tryz.ntmps34
  go_wp2
  go_ret
  exact ⟨rfl, rfl⟩
 ·have d1 : decide (n ≥ lo) = false := decide_eq_false h1
  rw [decide_eq_false h1, Bool.false_and]
  go_enter Tryz.func34, Tryz.ntmps34
  go_wp2
  go_ret
  exact ⟨rfl, rfl⟩
theorem cin_yes (n lo hi : Int) (h1 : lo <= n) (h2 : n <= hi) (w : World) :
  Calls Tryz.prog 34 #[.int .i64 n, .int .i64 lo, .int .i64 hi] w fun e w' => e = .returned (.bool true) /\ w = w' :=
 (cin_ct n lo hi w).mono fun e w' ⟨he, hw⟩ => ⟨by rw [he, decide_eq_true h1, decide_eq_true h2]; rfl, hw.symm⟩
theorem upper_ct (l : Bs) (hl : l.length <= 100000000) (h : ∀ c ∈ l, smallB c = true) (w : World) :
  Calls Tryz.prog 58 #[.string (bs l)] w fun e w' => e = .returned (.string (bs (Lib.toUpperA l))) /\ Below w.heap.size w w' :=
 Tryz.strings_ToUpper_ascii (bs l) w (by rw [bs_size]; omega) fun j b hb => by
  have := h b (List.mem_of_getElem? hb)
  simp only [smallB, decide_eq_true_eq] at this
  omega
theorem mark_2 (n : Nat) (h1 : 1 <= n) (h2 : n <= 3999) (w : World) (hT : PowAt w) :
  Calls Tryz.prog 35 #[.int .i64 2, .int .i64 n] w fun e w' => e = .returned (.string (bs (Lib.decDigits n))) /\ Below w.heap.size w w' := by
 have hz1 : (1 : Int) <= n := by omega
 have hz2 : (n : Int) <= 3999 := by omega
 have hz3 : (0 : Int) < n := by omega
 have cI := hid (show Calls Tryz.prog 60 #[.int .i64 n] w fun e w' => e = .returned (.string (bs (Lib.decDigits n))) /\ Below w.heap.size w w' from by
  have := itoa_ct (n : Int) (by omega) (by omega) w hT
  rwa [show Lib.itoa (n : Int) = Lib.decDigits n from by unfold Lib.itoa; rw [if_neg (by omega)]; rfl] at this)
 clear hT
 go_enter Tryz.func35, Tryz.ntmps35
 go_wp2_with (first
  | (go_at_call 57; (with_reducible refine (cL.out _).mono ?_); rintro e W1 ⟨rfl, hb1⟩; have HB1 := hid hb1; clear hb1)
  | (go_at_call 59; (with_reducible refine (cR.out _).mono ?_); rintro e W1 ⟨rfl, hb1⟩; have HB1 := hid hb1; clear hb1)
  | (go_at_call 58; (with_reducible refine (cU.out _).mono ?_); rintro e W2 ⟨rfl, hb2⟩; have HB2 := hid (tb HB1 hb2); clear hb2)
  | (go_at_call 34; (with_reducible refine (cin_yes _ _ _ (by omega) (by omega) _).mono ?_); rintro e W3 ⟨rfl, rfl⟩)
  | (go_at_call 60; (with_reducible refine (cI.out).mono ?_); rintro e W1 ⟨rfl, hb1⟩; have HB1 := hid hb1; clear hb1))
 go_ret
 exact ⟨rfl, HB1.out⟩
theorem mark_3 (n : Nat) (h1 : 1 <= n) (h2 : n <= 3999) (w : World) (hT : PowAt w) :
  Calls Tryz.prog 35 #[.int .i64 3, .int .i64 n] w fun e w' => e = .returned (.string (bs (letP n))) /\ Below w.heap.size w w' := by
 have hz1 : (1 : Int) <= n := by omega
 have hz2 : (n : Int) <= 3999 := by omega
 have hz3 : (0 : Int) < n := by omega
 have cL := hid (fun w => letters_ct n h1 (by omega) w)
 clear hT
 go_enter Tryz.func35, Tryz.ntmps35
 go_wp2_with (first
  | (go_at_call 57; (with_reducible refine (cL.out _).mono ?_); rintro e W1 ⟨rfl, hb1⟩; have HB1 := hid hb1; clear hb1)
  | (go_at_call 59; (with_reducible refine (cR.out _).mono ?_); rintro e W1 ⟨rfl, hb1⟩; have HB1 := hid hb1; clear hb1)
  | (go_at_call 58; (with_reducible refine (cU.out _).mono ?_); rintro e W2 ⟨rfl, hb2⟩; have HB2 := hid (tb HB1 hb2); clear hb2)
  | (go_at_call 34; (with_reducible refine (cin_yes _ _ _ (by omega) (by omega) _).mono ?_); rintro e W3 ⟨rfl, rfl⟩)
  | (go_at_call 60; (with_reducible refine (cI.out).mono ?_); rintro e W1 ⟨rfl, hb1⟩; have HB1 := hid hb1; clear hb1))
 go_ret
 exact ⟨rfl, HB1.out⟩
theorem mark_4 (n : Nat) (h1 : 1 <= n) (h2 : n <= 3999) (w : World) (hT : PowAt w) :
  Calls Tryz.prog 35 #[.int .i64 4, .int .i64 n] w fun e w' => e = .returned (.string (bs (Lib.toUpperA (letP n)))) /\ Below w.heap.size w w' := by
 have hz1 : (1 : Int) <= n := by omega
 have hz2 : (n : Int) <= 3999 := by omega
 have hz3 : (0 : Int) < n := by omega
 have cL := hid (fun w => letters_ct n h1 (by omega) w)
 have cU := hid (fun w => upper_ct (letP n) (by have := letR_bd n n (Nat.le_refl _); unfold letP; rw [List.length_reverse]; omega) (let_small n) w)
 clear hT
 go_enter Tryz.func35, Tryz.ntmps35
 go_wp2_with (first
  | (go_at_call 57; (with_reducible refine (cL.out _).mono ?_); rintro e W1 ⟨rfl, hb1⟩; have HB1 := hid hb1; clear hb1)
  | (go_at_call 59; (with_reducible refine (cR.out _).mono ?_); rintro e W1 ⟨rfl, hb1⟩; have HB1 := hid hb1; clear hb1)
  | (go_at_call 58; (with_reducible refine (cU.out _).mono ?_); rintro e W2 ⟨rfl, hb2⟩; have HB2 := hid (tb HB1 hb2); clear hb2)
  | (go_at_call 34; (with_reducible refine (cin_yes _ _ _ (by omega) (by omega) _).mono ?_); rintro e W3 ⟨rfl, rfl⟩)
  | (go_at_call 60; (with_reducible refine (cI.out).mono ?_); rintro e W1 ⟨rfl, hb1⟩; have HB1 := hid hb1; clear hb1))
 go_ret
 exact ⟨rfl, HB2.out⟩
theorem mark_5 (n : Nat) (h1 : 1 <= n) (h2 : n <= 3999) (w : World) (hT : PowAt w) :
  Calls Tryz.prog 35 #[.int .i64 5, .int .i64 n] w fun e w' => e = .returned (.string (bs (romP n))) /\ Below w.heap.size w w' := by
 have hz1 : (1 : Int) <= n := by omega
 have hz2 : (n : Int) <= 3999 := by omega
 have hz3 : (0 : Int) < n := by omega
 have cR := hid (fun w => roman_ct n h2 w)
 clear hT
 go_enter Tryz.func35, Tryz.ntmps35
 go_wp2_with (first
  | (go_at_call 57; (with_reducible refine (cL.out _).mono ?_); rintro e W1 ⟨rfl, hb1⟩; have HB1 := hid hb1; clear hb1)
  | (go_at_call 59; (with_reducible refine (cR.out _).mono ?_); rintro e W1 ⟨rfl, hb1⟩; have HB1 := hid hb1; clear hb1)
  | (go_at_call 58; (with_reducible refine (cU.out _).mono ?_); rintro e W2 ⟨rfl, hb2⟩; have HB2 := hid (tb HB1 hb2); clear hb2)
  | (go_at_call 34; (with_reducible refine (cin_yes _ _ _ (by omega) (by omega) _).mono ?_); rintro e W3 ⟨rfl, rfl⟩)
  | (go_at_call 60; (with_reducible refine (cI.out).mono ?_); rintro e W1 ⟨rfl, hb1⟩; have HB1 := hid hb1; clear hb1))
 go_ret
 exact ⟨rfl, HB1.out⟩
theorem mark_6 (n : Nat) (h1 : 1 <= n) (h2 : n <= 3999) (w : World) (hT : PowAt w) :
  Calls Tryz.prog 35 #[.int .i64 6, .int .i64 n] w fun e w' => e = .returned (.string (bs (Lib.toUpperA (romP n)))) /\ Below w.heap.size w w' := by
 have hz1 : (1 : Int) <= n := by omega
 have hz2 : (n : Int) <= 3999 := by omega
 have hz3 : (0 : Int) < n := by omega
 have cR := hid (fun w => roman_ct n h2 w)
 have cU := hid (fun w => upper_ct (romP n) (by have := rom_bd n; omega) (rom_small n) w)
 clear hT
 go_enter Tryz.func35, Tryz.ntmps35
 go_wp2_with (first
  | (go_at_call 57; (with_reducible refine (cL.out _).mono ?_); rintro e W1 ⟨rfl, hb1⟩; have HB1 := hid hb1; clear hb1)
  | (go_at_call 59; (with_reducible refine (cR.out _).mono ?_); rintro e W1 ⟨rfl, hb1⟩; have HB1 := hid hb1; clear hb1)
  | (go_at_call 58; (with_reducible refine (cU.out _).mono ?_); rintro e W2 ⟨rfl, hb2⟩; have HB2 := hid (tb HB1 hb2); clear hb2)
  | (go_at_call 34; (with_reducible refine (cin_yes _ _ _ (by omega) (by omega) _).mono ?_); rintro e W3 ⟨rfl, rfl⟩)
  | (go_at_call 60; (with_reducible refine (cI.out).mono ?_); rintro e W1 ⟨rfl, hb1⟩; have HB1 := hid hb1; clear hb1))
 go_ret
 exact ⟨rfl, HB2.out⟩
theorem mark_any (k n : Nat) (hk : 2 <= k /\ k <= 6) (h1 : 1 <= n) (h2 : n <= 3999) (w : World) (hT : PowAt w) :
  Calls Tryz.prog 35 #[.int .i64 k, .int .i64 n] w fun e w' => e = .returned (.string (bs (markP k n))) /\ Below w.heap.size w w' := by
 match k, hk with
 | 2, _ => exact mark_2 n h1 h2 w hT
 | 3, _ => exact mark_3 n h1 h2 w hT
 | 4, _ => exact mark_4 n h1 h2 w hT
 | 5, _ => exact mark_5 n h1 h2 w hT
 | 6, _ => exact mark_6 n h1 h2 w hT
theorem Mark_ct (k n : Nat) (hk : 2 <= k /\ k <= 6) (h1 : 1 <= n) (h2 : n <= 3999) (w : World) (hT : PowAt w) :
  Calls Tryz.prog 15 #[.int .i64 k, .int .i64 n] w fun e w' => e = .returned (.tuple #[.string (bs (markP k n)), .int .i64 0]) /\ Below w.heap.size w w' := by
 have cM := hid (mark_any k n hk h1 h2 w hT)
 clear hT
 go_enter Tryz.func15, Tryz.ntmps15
 go_wp2_with (first
  | (go_at_call 34; (with_reducible refine (cin_yes _ _ _ (by omega) (by omega) _).mono ?_); rintro e W3 ⟨rfl, rfl⟩)
  | (go_at_call 35; (with_reducible refine (cM.out).mono ?_); rintro e W1 ⟨rfl, hb1⟩; have HB1 := hid hb1; clear hb1))
 go_ret2
 exact ⟨rfl, HB1.out⟩
theorem fourth_ct (w : World) (hT : PowAt w) :
  Calls Tryz.prog 6 #[] w fun e w' => e = .returned (.bool true) /\ Below w.heap.size w w' := by
 have cM := Mark_ct 5 14 (by decide) (by decide) (by decide) w hT
 rw [show markP 5 14 = [120, 105, 118] from by decide +kernel] at cM
 replace cM := hid (show Calls Tryz.prog 15 #[.int .i64 5, .int .i64 14] w fun e w' => e = .returned (.tuple #[.string ⟨#[120, 105, 118]⟩, .int .i64 0]) /\ Below w.heap.size w w' from cM)
 clear hT
 go_enter Tryz.func6, Tryz.ntmps6
 go_wp2_with ((go_at_call 15; (with_reducible refine (cM.out).mono ?_); rintro e W1 ⟨rfl, hb1⟩; have HB1 := hid hb1; clear hb1))
 go_ret
 exact ⟨rfl, HB1.out⟩
end cnt
namespace cnt
open Go.RowKit base tok dim
def markI (k n : Int) : Bs :=
 if (k = 3 ∨ k = 4) /\ 0 < n then (if k = 3 then letP n.toNat else Lib.toUpperA (letP n.toNat))
 else if (k = 5 ∨ k = 6) /\ 1 <= n /\ n <= 3999 then (if k = 5 then romP n.toNat else Lib.toUpperA (romP n.toNat))
 else Lib.itoa n
theorem let_len (n : Nat) : (letP n).length <= n := by unfold letP; rw [List.length_reverse]; exact letR_bd n n (Nat.le_refl _)
theorem mark_itoa (k n : Int) (hk : k = 2 ∨ ((k = 3 ∨ k = 4) /\ ¬ 0 < n) ∨ ((k = 5 ∨ k = 6) /\ ¬ (1 <= n /\ n <= 3999))) (h0 : -1000000 <= n) (h1 : n <= 1000000) (w : World) (hT : PowAt w) :
  Calls Tryz.prog 35 #[.int .i64 k, .int .i64 n] w fun e w' => e = .returned (.string (bs (Lib.itoa n))) /\ Below w.heap.size w w' := by
 have cI := hid (itoa_ct n (by omega) (by omega) w hT)
 have cN := fun (h : ¬ (1 <= n /\ n <= 3999)) (w : World) => (cin_ct n 1 3999 w).mono (R' := fun e w' => e = .returned (.bool false) /\ w = w') fun e w' ⟨he, hw⟩ => ⟨by rw [he, <- Bool.decide_and, decide_eq_false h], hw.symm⟩
 replace cN := hid cN
 clear hT h0 h1
 rcases hk with rfl | ⟨rfl | rfl, hz⟩ | ⟨rfl | rfl, hz⟩
 ·go_enter Tryz.func35, Tryz.ntmps35
  go_wp2_with (go_at_call 60; (with_reducible refine cI.out.mono ?_); rintro e W1 ⟨rfl, hb1⟩; have HB1 := hid hb1; clear hb1)
  go_ret
  exact ⟨rfl, HB1.out⟩
 ·go_enter Tryz.func35, Tryz.ntmps35
  go_wp2_with (go_at_call 60; (with_reducible refine cI.out.mono ?_); rintro e W1 ⟨rfl, hb1⟩; have HB1 := hid hb1; clear hb1)
  go_ret
  exact ⟨rfl, HB1.out⟩
 ·go_enter Tryz.func35, Tryz.ntmps35
  go_wp2_with (go_at_call 60; (with_reducible refine cI.out.mono ?_); rintro e W1 ⟨rfl, hb1⟩; have HB1 := hid hb1; clear hb1)
  go_ret
  exact ⟨rfl, HB1.out⟩
 ·replace hz := hid hz
  go_enter Tryz.func35, Tryz.ntmps35
  go_wp2_with (first
   | (go_at_call 34; (with_reducible refine (cN.out hz.out _).mono ?_); rintro e W3 ⟨rfl, rfl⟩)
   | (go_at_call 60; (with_reducible refine cI.out.mono ?_); rintro e W1 ⟨rfl, hb1⟩; have HB1 := hid hb1; clear hb1))
  go_ret
  exact ⟨rfl, HB1.out⟩
 ·replace hz := hid hz
  go_enter Tryz.func35, Tryz.ntmps35
  go_wp2_with (first
   | (go_at_call 34; (with_reducible refine (cN.out hz.out _).mono ?_); rintro e W3 ⟨rfl, rfl⟩)
   | (go_at_call 60; (with_reducible refine cI.out.mono ?_); rintro e W1 ⟨rfl, hb1⟩; have HB1 := hid hb1; clear hb1))
  go_ret
  exact ⟨rfl, HB1.out⟩
theorem mark_let (k : Int) (n : Nat) (hk : k = 3 ∨ k = 4) (h0 : 1 <= n) (h1 : n <= 1000000) (w : World) :
  Calls Tryz.prog 35 #[.int .i64 k, .int .i64 n] w fun e w' => e = .returned (.string (bs (if k = 3 then letP n else Lib.toUpperA (letP n)))) /\ Below w.heap.size w w' := by
 have hz3 : 0 < n := h0
 have cL := hid (fun w => letters_ct n h0 h1 w)
 have cU := hid (fun w => upper_ct (letP n) (by have := let_len n; omega) (let_small n) w)
 rcases hk with rfl | rfl
 ·rw [if_pos rfl]
  go_enter Tryz.func35, Tryz.ntmps35
  go_wp2_with (go_at_call 57; (with_reducible refine (cL.out _).mono ?_); rintro e W1 ⟨rfl, hb1⟩; have HB1 := hid hb1; clear hb1)
  go_ret
  exact ⟨rfl, HB1.out⟩
 ·rw [if_neg (by decide)]
  go_enter Tryz.func35, Tryz.ntmps35
  go_wp2_with (first
   | (go_at_call 57; (with_reducible refine (cL.out _).mono ?_); rintro e W1 ⟨rfl, hb1⟩; have HB1 := hid hb1; clear hb1)
   | (go_at_call 58; (with_reducible refine (cU.out _).mono ?_); rintro e W2 ⟨rfl, hb2⟩; have HB2 := hid (tb HB1 hb2); clear hb2))
  go_ret
  exact ⟨rfl, HB2.out⟩
theorem mark_I (k n : Int) (hk : 2 <= k /\ k <= 6) (h0 : -1000000 <= n) (h1 : n <= 1000000) (w : World) (hT : PowAt w) :
  Calls Tryz.prog 35 #[.int .i64 k, .int .i64 n] w fun e w' => e = .returned (.string (bs (markI k n))) /\ Below w.heap.size w w' := by
 unfold markI
 by_cases c1 : (k = 3 ∨ k = 4) /\ 0 < n
 ·rw [if_pos c1]
  obtain ⟨m, rfl⟩ := Int.eq_ofNat_of_zero_le (show 0 <= n by omega)
  exact mark_let k m c1.1 (by omega) (by omega) w
 ·rw [if_neg c1]
  by_cases c2 : (k = 5 ∨ k = 6) /\ 1 <= n /\ n <= 3999
  ·rw [if_pos c2]
   obtain ⟨m, rfl⟩ := Int.eq_ofNat_of_zero_le (show 0 <= n by omega)
   rcases c2.1 with rfl | rfl
   ·rw [if_pos rfl]
    exact mark_5 m (by omega) (by omega) w hT
   ·rw [if_neg (by decide)]
    exact mark_6 m (by omega) (by omega) w hT
  ·rw [if_neg c2]
   exact mark_itoa k n (by omega) h0 h1 w hT
end cnt
namespace cnt
open Go.RowKit base tok
def worthG : Bs -> Int -> Int
 | [], n => n
 | c :: r, n => if nv c < 97 ∨ 122 < nv c ∨ 1000000 < n then 0 else worthG r (26 * n + (nv c - 97) + 1)
theorem worth_ct (s : ByteArray) (hs : s.size <= 140737488355328) (w : World) : Calls Tryz.prog 86 #[.string s] w fun e w' => e = .returned (.int .i64 (worthG s.data.toList 0)) /\ w = w' := by
 have hz := hid (Lib.size_eq s)
 go_enter Tryz.func86, Tryz.ntmps86
 go_wp2_with fail
 go_loopw [3, 7] (fun n i wr => ∃ (k : Nat) (m : Int), k <= s.size /\ i = .int .i64 k /\ n = .int .i64 m /\ 0 <= m /\ m <= 26000026 /\ worthG s.data.toList 0 = worthG (s.data.toList.drop k) m /\ w = wr) (fun _ i _ => s.size - (intOf i).toNat)
 case atStart => exact ⟨0, 0, by omega, rfl, rfl, by omega, by omega, by rw [List.drop_zero], rfl⟩
 case round =>
  obtain ⟨k, m, hk, rfl, rfl, hm0, hm1, hinv, rfl⟩ := hrel
  by_cases hlt : k < s.size
  ·have hlt' : (k : Int) < (s.size : Int) := by omega
   have hd := drop_cons hlt
   obtain ⟨x, hx⟩ : ∃ x, ((s[k]'hlt).toNat : Int) = x := ⟨_, rfl⟩
   have hnv : nv (s[k]'hlt) = x := hx
   have hx0 : 0 <= x := by omega
   have hx1 : x < 256 := by have := nv_lt (s[k]'hlt); omega
   rw [hd] at hinv
   simp only [worthG, hnv] at hinv
   replace hnv := hid hnv
   clear hd
   by_cases h1 : x < 97
   ·rw [if_pos (.inl h1)] at hinv
    replace hinv := hid hinv
    go_wp2
    go_ret
    exact ⟨by rw [hinv.out]; rfl, rfl⟩
   ·by_cases h2 : 122 < x
    ·rw [if_pos (.inr (.inl h2))] at hinv
     replace hinv := hid hinv
     go_wp2
     go_ret
     exact ⟨by rw [hinv.out]; rfl, rfl⟩
    ·by_cases h3 : 1000000 < m
     ·rw [if_pos (.inr (.inr h3))] at hinv
      replace hinv := hid hinv
      go_wp2
      go_ret
      exact ⟨by rw [hinv.out]; rfl, rfl⟩
     ·rw [if_neg (by omega)] at hinv
      replace hinv := hid hinv
      have r1 : IntKind.u8.wrap (x - 97) = x - 97 := by simp [IntKind.wrap, IntKind.bits, IntKind.signed]; omega
      have r2 : IntKind.i64.wrap (26 * m) = 26 * m := IntWalk.i64_in _ (by omega)
      have r3 : IntKind.i64.wrap (26 * m + (x - 97)) = 26 * m + (x - 97) := IntWalk.i64_in _ (by omega)
      have r4 : IntKind.i64.wrap (26 * m + (x - 97) + 1) = 26 * m + (x - 97) + 1 := IntWalk.i64_in _ (by omega)
      go_wp2_with fail
      go_roundw
      case rel => exact ⟨k + 1, 26 * m + (x - 97) + 1, by omega, by go_num, rfl, by omega, by omega, hinv.out, trivial⟩
      case measure => simp [intOf]; omega
  ·obtain rfl : k = s.size := by omega
   rw [show s.data.toList.drop s.size = [] by rw [Lib.size_eq]; exact List.drop_length] at hinv
   simp only [worthG] at hinv
   replace hinv := hid hinv
   go_wp2
   go_ret
   exact ⟨by rw [hinv.out]; rfl, rfl⟩
def romD (c : UInt8) : Int := if c = 105 then 1 else if c = 118 then 5 else if c = 120 then 10 else if c = 108 then 50 else if c = 99 then 100 else if c = 100 then 500 else 1000
def isRom (c : UInt8) : Bool := c == 105 || c == 118 || c == 120 || c == 108 || c == 99 || c == 100 || c == 109
def romG : Bs -> Int -> Int -> Int
 | [], n, _ => n
 | c :: r, n, most => if isRom c = false ∨ 5000 < n then 0 else if romD c < most then romG r (n - romD c) most else romG r (n + romD c) (romD c)
theorem rom_case : ∀ c : UInt8, (isRom c = false /\ Lib.indexByte [105, 118, 120, 108, 99, 100, 109] c = -1) ∨ (isRom c = true /\ ∃ j : Nat, j < 7 /\ Lib.indexByte [105, 118, 120, 108, 99, 100, 109] c = (j : Int) /\ ([1, 5, 10, 50, 100, 500, 1000] : List Int)[j]? = some (romD c)) := by
 refine all_bytes (P := fun c => (isRom c = false /\ Lib.indexByte [105, 118, 120, 108, 99, 100, 109] c = -1) ∨ (isRom c = true /\ ∃ j : Nat, j < 7 /\ Lib.indexByte [105, 118, 120, 108, 99, 100, 109] c = (j : Int) /\ ([1, 5, 10, 50, 100, 500, 1000] : List Int)[j]? = some (romD c))) ?_
 decide +kernel
theorem romD_bd (c : UInt8) : 1 <= romD c /\ romD c <= 1000 := by
 unfold romD
 repeat' split
 all_goals omega
theorem rom_at7 (j : Nat) (hj : j < 7) (v : Int) (h : ([1, 5, 10, 50, 100, 500, 1000] : List Int)[j]? = some v) (w : World) : (Instr.index 173 (.agg #[.int .i64 1, .int .i64 5, .int .i64 10, .int .i64 50, .int .i64 100, .int .i64 500, .int .i64 1000]) (.int .i64 (j : Int))).run Tryz.prog w = .ok (.int .i64 v) w := by
 rcases j with _ | _ | _ | _ | _ | _ | _ | j
 all_goals first | (exfalso; omega) | (obtain rfl := Option.some.inj h; kernel_rfl)
theorem value_ct (s : ByteArray) (hs : s.size <= 100000000) (w : World) : Calls Tryz.prog 88 #[.string s] w fun e w' => e = .returned (.int .i64 (romG s.data.toList.reverse 0 0)) /\ w = w' := by
 have hz := hid (Lib.size_eq s)
 have cI : ∀ (c : UInt8) (w : World), Calls Tryz.prog 126 #[.string ⟨#[105, 118, 120, 108, 99, 100, 109]⟩, .int .u8 (nv c)] w fun e w' => e = .returned (.int .i64 (Lib.indexByte [105, 118, 120, 108, 99, 100, 109] c)) /\ w = w' := fun c w => by
  have h := Tryz.strings_IndexByte ⟨#[105, 118, 120, 108, 99, 100, 109]⟩ (nv c) w
  rw [show (nv c).toNat.toUInt8 = c by simp [nv]] at h
  exact h.mono fun e w' ⟨he, hw⟩ => ⟨he, hw.symm⟩
 replace cI := hid cI
 go_enter Tryz.func88, Tryz.ntmps88
 go_wp2_with fail
 go_loopw [3, 4, 5] (fun n mo i wr => ∃ (k : Nat) (m most : Int), k <= s.size /\ i = .int .i64 ((k : Int) - 1) /\ n = .int .i64 m /\ mo = .int .i64 most /\ m <= 6000 /\ -1000 * ((s.size : Int) - k) <= m /\ 0 <= most /\ most <= 1000 /\ romG s.data.toList.reverse 0 0 = romG (s.data.toList.take k).reverse m most /\ w = wr) (fun _ _ i _ => ((intOf i) + 1).toNat)
 case atStart => exact ⟨s.size, 0, 0, Nat.le_refl _, by go_num, rfl, rfl, by omega, by omega, by omega, by omega, by rw [Lib.size_eq, List.take_length], rfl⟩
 case round =>
  obtain ⟨k, m, most, hk, rfl, rfl, rfl, hm1, hm0, ho0, ho1, hinv, rfl⟩ := hrel
  cases k with
  | zero =>
   simp only [List.take_zero, List.reverse_nil, romG] at hinv
   replace hinv := hid hinv
   have hneg : ¬ (0 : Int) <= -1 := by decide
   go_wp2
   go_ret
   exact ⟨by rw [hinv.out]; rfl, rfl⟩
  | succ k =>
   have hlt : k < s.size := hk
   have hlt' : (k : Int) < (s.size : Int) := by omega
   have hk1 : ((k + 1 : Nat) : Int) - 1 = (k : Int) := by omega
   have hkl : k < s.data.toList.length := by rw [<- Lib.size_eq]; exact hlt
   obtain ⟨c, hc⟩ : ∃ c, (s[k]'hlt) = c := ⟨_, rfl⟩
   have hcl : s.data.toList[k]'hkl = c := by subst hc; rfl
   rw [List.take_succ_eq_append_getElem hkl, List.reverse_append, List.reverse_singleton, List.singleton_append, hcl] at hinv
   simp only [romG] at hinv
   have hx : ((s[k]'hlt).toNat : Int) = nv c := by subst hc; rfl
   have cJ := fun w => cI.out c w
   have hb := romD_bd c
   rcases rom_case c with ⟨hr, hi⟩ | ⟨hr, j, hj, hi, hv⟩
   ·rw [if_pos (.inl hr)] at hinv
    rw [hi] at cJ
    replace hinv := hid hinv
    replace cJ := hid cJ
    replace hc := hid hc
    replace hcl := hid hcl
    clear hb
    go_wp2_with (go_at_call 126; (with_reducible refine (cJ.out _).mono ?_); rintro e W1 ⟨rfl, rfl⟩)
    go_ret
    exact ⟨by rw [hinv.out]; rfl, rfl⟩
   ·rw [hi] at cJ
    have hat := rom_at7 j hj (romD c) hv
    replace cJ := hid cJ
    replace hc := hid hc
    replace hcl := hid hcl
    clear hv hi
    by_cases h5 : 5000 < m
    ·rw [if_pos (.inr h5)] at hinv
     replace hinv := hid hinv
     clear hat
     go_wp2_with (go_at_call 126; (with_reducible refine (cJ.out _).mono ?_); rintro e W1 ⟨rfl, rfl⟩)
     go_ret
     exact ⟨by rw [hinv.out]; rfl, rfl⟩
    ·rw [if_neg (by rw [hr]; simp; omega)] at hinv
     generalize romD c = d at *
     have r1 : IntKind.i64.wrap (m - d) = m - d := IntWalk.i64_in _ (by omega)
     have r2 : IntKind.i64.wrap (m + d) = m + d := IntWalk.i64_in _ (by omega)
     by_cases h6 : d < most
     ·rw [if_pos h6] at hinv
      replace hinv := hid hinv
      go_wp2_with (go_at_call 126; (with_reducible refine (cJ.out _).mono ?_); rintro e W1 ⟨rfl, rfl⟩)
      go_roundw
      case rel => exact ⟨k, m - d, most, by omega, by go_num, rfl, rfl, by omega, by omega, by omega, by omega, hinv.out, trivial⟩
      case measure => simp [intOf]
     ·rw [if_neg h6] at hinv
      replace hinv := hid hinv
      go_wp2_with (go_at_call 126; (with_reducible refine (cJ.out _).mono ?_); rintro e W1 ⟨rfl, rfl⟩)
      go_roundw
      case rel => exact ⟨k, m + d, d, by omega, by go_num, rfl, rfl, by omega, by omega, by omega, by omega, hinv.out, trivial⟩
      case measure => simp [intOf]
end cnt
end Go.Proofs.YthgffoanecknoaaGreatDoor
