/- Contracts and plain law, a bundle: Cnt3 Cnt4 Cnt5 Cnt6 Cnt7 WCountBack LaidT LaidN DoorU. -/
import Derived.Lib.AtoiTie
import Derived.Lib.AtoiAllCases
import Derived.Shelf.Strings.CaseAny
import Derived.Lib.SmallJoins
import Derived.Lib.LaidU8
import Derived.Lib.LaidTab
import Derived.PinnedBridge
import Derived.Lib.LaidCase
import Derived.Stop.LaidErr
import Derived.Deep.DeepHandedRow
import Derived.Test.YtaihncbejhnceaaDoorBQ
import Derived.Test.YtaihncbejhnceaaDoorShelf3
import Derived.Test.YtaihncbejhnceaaDoorBH
import Derived.Test.YtaihncbejhnceaaDoorRows

namespace Go.Proofs.YtaihncbejhnceaaDoor.cnt
open Go.RowKit Go.Proofs.YtaihncbejhnceaaDoor.base Go.Proofs.YtaihncbejhnceaaDoor.tok Go.Proofs.YtaihncbejhnceaaDoor.dim
set_option linter.unusedVariables false

/-- the mark of a number, of each kind -/
def markI (k n : Int) : Bs :=
  if (k = 3 ∨ k = 4) ∧ 0 < n then (if k = 3 then letP n.toNat else Lib.toUpperA (letP n.toNat))
  else if (k = 5 ∨ k = 6) ∧ 1 ≤ n ∧ n ≤ 3999 then (if k = 5 then romP n.toNat else Lib.toUpperA (romP n.toNat))
  else Lib.itoa n
theorem let_len (n : Nat) : (letP n).length ≤ n := by unfold letP; rw [List.length_reverse]; exact letR_bd n n (Nat.le_refl _)

set_option maxRecDepth 100000 in
set_option maxHeartbeats 4000000 in
theorem mark_itoa (k n : Int) (hk : k = 2 ∨ ((k = 3 ∨ k = 4) ∧ ¬ 0 < n) ∨ ((k = 5 ∨ k = 6) ∧ ¬ (1 ≤ n ∧ n ≤ 3999))) (h0 : -1000000 ≤ n) (h1 : n ≤ 1000000) (w : World) (hT : PowAt w) :
    Calls Tryd.prog 40 #[.int .i64 k, .int .i64 n] w fun e w' => e = .returned (.string (bs (Lib.itoa n))) ∧ Below w.heap.size w w' := by
  have cI := Lib.hid (itoa_ct n (by omega) (by omega) w hT)
  have cN := fun (h : ¬ (1 ≤ n ∧ n ≤ 3999)) (w : World) => (cin_ct n 1 3999 w).mono (R' := fun e w' => e = .returned (.bool false) ∧ w = w') fun e w' ⟨he, hw⟩ => ⟨by rw [he, ← Bool.decide_and, decide_eq_false h], hw.symm⟩
  replace cN := Lib.hid cN
  clear hT h0 h1
  rcases hk with rfl | ⟨rfl | rfl, hz⟩ | ⟨rfl | rfl, hz⟩
  · go_enter Tryd.func40, Tryd.ntmps40
    go_wp2_with (go_at_call 79; (with_reducible refine cI.out.mono ?_); rintro e W1 ⟨rfl, hb1⟩; have HB1 := Lib.hid hb1; clear hb1)
    go_ret
    exact ⟨rfl, HB1.out⟩
  · go_enter Tryd.func40, Tryd.ntmps40
    go_wp2_with (go_at_call 79; (with_reducible refine cI.out.mono ?_); rintro e W1 ⟨rfl, hb1⟩; have HB1 := Lib.hid hb1; clear hb1)
    go_ret
    exact ⟨rfl, HB1.out⟩
  · go_enter Tryd.func40, Tryd.ntmps40
    go_wp2_with (go_at_call 79; (with_reducible refine cI.out.mono ?_); rintro e W1 ⟨rfl, hb1⟩; have HB1 := Lib.hid hb1; clear hb1)
    go_ret
    exact ⟨rfl, HB1.out⟩
  · replace hz := Lib.hid hz
    go_enter Tryd.func40, Tryd.ntmps40
    go_wp2_with (first
      | (go_at_call 39; (with_reducible refine (cN.out hz.out _).mono ?_); rintro e W3 ⟨rfl, rfl⟩)
      | (go_at_call 79; (with_reducible refine cI.out.mono ?_); rintro e W1 ⟨rfl, hb1⟩; have HB1 := Lib.hid hb1; clear hb1))
    go_ret
    exact ⟨rfl, HB1.out⟩
  · replace hz := Lib.hid hz
    go_enter Tryd.func40, Tryd.ntmps40
    go_wp2_with (first
      | (go_at_call 39; (with_reducible refine (cN.out hz.out _).mono ?_); rintro e W3 ⟨rfl, rfl⟩)
      | (go_at_call 79; (with_reducible refine cI.out.mono ?_); rintro e W1 ⟨rfl, hb1⟩; have HB1 := Lib.hid hb1; clear hb1))
    go_ret
    exact ⟨rfl, HB1.out⟩

set_option maxRecDepth 100000 in
set_option maxHeartbeats 4000000 in
theorem mark_let (k : Int) (n : Nat) (hk : k = 3 ∨ k = 4) (h0 : 1 ≤ n) (h1 : n ≤ 1000000) (w : World) :
    Calls Tryd.prog 40 #[.int .i64 k, .int .i64 n] w fun e w' => e = .returned (.string (bs (if k = 3 then letP n else Lib.toUpperA (letP n)))) ∧ Below w.heap.size w w' := by
  have hz3 : 0 < n := h0
  have cL := Lib.hid (fun w => letters_ct n h0 h1 w)
  have cU := Lib.hid (fun w => upper_ct (letP n) (by have := let_len n; omega) (let_small n) w)
  rcases hk with rfl | rfl
  · rw [if_pos rfl]
    go_enter Tryd.func40, Tryd.ntmps40
    go_wp2_with (go_at_call 76; (with_reducible refine (cL.out _).mono ?_); rintro e W1 ⟨rfl, hb1⟩; have HB1 := Lib.hid hb1; clear hb1)
    go_ret
    exact ⟨rfl, HB1.out⟩
  · rw [if_neg (by decide)]
    go_enter Tryd.func40, Tryd.ntmps40
    go_wp2_with (first
      | (go_at_call 76; (with_reducible refine (cL.out _).mono ?_); rintro e W1 ⟨rfl, hb1⟩; have HB1 := Lib.hid hb1; clear hb1)
      | (go_at_call 77; (with_reducible refine (cU.out _).mono ?_); rintro e W2 ⟨rfl, hb2⟩; have HB2 := Lib.hid (HB1.out.trans (hb2.mono HB1.out.size)); clear hb2))
    go_ret
    exact ⟨rfl, HB2.out⟩

theorem mark_I (k n : Int) (hk : 2 ≤ k ∧ k ≤ 6) (h0 : -1000000 ≤ n) (h1 : n ≤ 1000000) (w : World) (hT : PowAt w) :
    Calls Tryd.prog 40 #[.int .i64 k, .int .i64 n] w fun e w' => e = .returned (.string (bs (markI k n))) ∧ Below w.heap.size w w' := by
  unfold markI
  by_cases c1 : (k = 3 ∨ k = 4) ∧ 0 < n
  · rw [if_pos c1]
    obtain ⟨m, rfl⟩ := Int.eq_ofNat_of_zero_le (show 0 ≤ n by omega)
    exact mark_let k m c1.1 (by omega) (by omega) w
  · rw [if_neg c1]
    by_cases c2 : (k = 5 ∨ k = 6) ∧ 1 ≤ n ∧ n ≤ 3999
    · rw [if_pos c2]
      obtain ⟨m, rfl⟩ := Int.eq_ofNat_of_zero_le (show 0 ≤ n by omega)
      rcases c2.1 with rfl | rfl
      · rw [if_pos rfl]
        exact mark_5 m (by omega) (by omega) w hT
      · rw [if_neg (by decide)]
        exact mark_6 m (by omega) (by omega) w hT
    · rw [if_neg c2]
      exact mark_itoa k n (by omega) h0 h1 w hT

set_option maxRecDepth 100000 in
set_option maxHeartbeats 4000000 in
theorem Mark_I (k n : Int) (hk : 2 ≤ k ∧ k ≤ 6) (h0 : -1000000 ≤ n) (h1 : n ≤ 1000000) (w : World) (hT : PowAt w) :
    Calls Tryd.prog 20 #[.int .i64 k, .int .i64 n] w fun e w' => e = .returned (.tuple #[.string (bs (markI k n)), .int .i64 0]) ∧ Below w.heap.size w w' := by
  have cM := Lib.hid (mark_I k n hk h0 h1 w hT)
  have c1 := Lib.hid (fun w => cin_yes k 0 6 (by omega) hk.2 w)
  have c2 := Lib.hid (fun w => cin_yes n (-1000000) 1000000 h0 h1 w)
  clear hk h0 h1 hT
  go_enter Tryd.func20, Tryd.ntmps20
  go_wp2_with (first
    | (go_at_call 39; (with_reducible refine (c1.out _).mono ?_); rintro e W1 ⟨rfl, rfl⟩)
    | (go_at_call 39; (with_reducible refine (c2.out _).mono ?_); rintro e W1 ⟨rfl, rfl⟩)
    | (go_at_call 40; (with_reducible refine cM.out.mono ?_); rintro e W2 ⟨rfl, hb2⟩; have HB2 := Lib.hid hb2; clear hb2))
  go_ret2
  exact ⟨rfl, HB2.out⟩

end Go.Proofs.YtaihncbejhnceaaDoor.cnt

namespace Go.Proofs.YtaihncbejhnceaaDoor.cnt
open Go.RowKit Go.Proofs.YtaihncbejhnceaaDoor.base Go.Proofs.YtaihncbejhnceaaDoor.tok
set_option linter.unusedVariables false

/-- letters as a number; 0: there is none -/
def worthG : Bs → Int → Int
  | [], n => n
  | c :: r, n => if nv c < 97 ∨ 122 < nv c ∨ 1000000 < n then 0 else worthG r (26 * n + (nv c - 97) + 1)

set_option maxRecDepth 100000 in
set_option maxHeartbeats 4000000 in
theorem worth_ct (s : ByteArray) (hs : s.size ≤ 140737488355328) (w : World) : Calls Tryd.prog 42 #[.string s] w fun e w' => e = .returned (.int .i64 (worthG s.data.toList 0)) ∧ w = w' := by
  have hz := Lib.hid (Lib.size_eq s)
  go_enter Tryd.func42, Tryd.ntmps42
  go_wp2_with fail
  go_loopw [3, 7] (fun n i wr => ∃ (k : Nat) (m : Int), k ≤ s.size ∧ i = .int .i64 k ∧ n = .int .i64 m ∧ 0 ≤ m ∧ m ≤ 26000026 ∧ worthG s.data.toList 0 = worthG (s.data.toList.drop k) m ∧ w = wr) (fun _ i _ => s.size - (intOf i).toNat)
  case atStart => exact ⟨0, 0, by omega, rfl, rfl, by omega, by omega, by rw [List.drop_zero], rfl⟩
  case round =>
    obtain ⟨k, m, hk, rfl, rfl, hm0, hm1, hinv, rfl⟩ := hrel
    by_cases hlt : k < s.size
    · have hlt' : (k : Int) < (s.size : Int) := by omega
      have hd := drop_cons hlt
      obtain ⟨x, hx⟩ : ∃ x, ((s[k]'hlt).toNat : Int) = x := ⟨_, rfl⟩
      have hnv : nv (s[k]'hlt) = x := hx
      have hx0 : 0 ≤ x := by omega
      have hx1 : x < 256 := by have := nv_lt (s[k]'hlt); omega
      rw [hd] at hinv
      simp only [worthG, hnv] at hinv
      replace hnv := Lib.hid hnv
      clear hd
      by_cases h1 : x < 97
      · rw [if_pos (.inl h1)] at hinv
        replace hinv := Lib.hid hinv
        go_wp2
        go_ret
        exact ⟨by rw [hinv.out]; rfl, rfl⟩
      · by_cases h2 : 122 < x
        · rw [if_pos (.inr (.inl h2))] at hinv
          replace hinv := Lib.hid hinv
          go_wp2
          go_ret
          exact ⟨by rw [hinv.out]; rfl, rfl⟩
        · by_cases h3 : 1000000 < m
          · rw [if_pos (.inr (.inr h3))] at hinv
            replace hinv := Lib.hid hinv
            go_wp2
            go_ret
            exact ⟨by rw [hinv.out]; rfl, rfl⟩
          · rw [if_neg (by omega)] at hinv
            replace hinv := Lib.hid hinv
            have r1 : IntKind.u8.wrap (x - 97) = x - 97 := by simp [IntKind.wrap, IntKind.bits, IntKind.signed]; omega
            have r2 : IntKind.i64.wrap (26 * m) = 26 * m := IntWalk.i64_in _ (by omega)
            have r3 : IntKind.i64.wrap (26 * m + (x - 97)) = 26 * m + (x - 97) := IntWalk.i64_in _ (by omega)
            have r4 : IntKind.i64.wrap (26 * m + (x - 97) + 1) = 26 * m + (x - 97) + 1 := IntWalk.i64_in _ (by omega)
            go_wp2_with fail
            go_roundw
            case rel => exact ⟨k + 1, 26 * m + (x - 97) + 1, by omega, by go_num, rfl, by omega, by omega, hinv.out, trivial⟩
            case measure => simp [intOf]; omega
    · obtain rfl : k = s.size := by omega
      rw [show s.data.toList.drop s.size = [] by rw [Lib.size_eq]; exact List.drop_length] at hinv
      simp only [worthG] at hinv
      replace hinv := Lib.hid hinv
      go_wp2
      go_ret
      exact ⟨by rw [hinv.out]; rfl, rfl⟩

/-- what a Roman digit is worth -/
def romD (c : UInt8) : Int := if c = 105 then 1 else if c = 118 then 5 else if c = 120 then 10 else if c = 108 then 50 else if c = 99 then 100 else if c = 100 then 500 else 1000
def isRom (c : UInt8) : Bool := c == 105 || c == 118 || c == 120 || c == 108 || c == 99 || c == 100 || c == 109
/-- Roman digits, from the last one on -/
def romG : Bs → Int → Int → Int
  | [], n, _ => n
  | c :: r, n, most => if isRom c = false ∨ 5000 < n then 0 else if romD c < most then romG r (n - romD c) most else romG r (n + romD c) (romD c)

theorem rom_case : ∀ c : UInt8, (isRom c = false ∧ Lib.indexByte [105, 118, 120, 108, 99, 100, 109] c = -1) ∨ (isRom c = true ∧ ∃ j : Nat, j < 7 ∧ Lib.indexByte [105, 118, 120, 108, 99, 100, 109] c = (j : Int) ∧ ([1, 5, 10, 50, 100, 500, 1000] : List Int)[j]? = some (romD c)) := by
  refine all_bytes (P := fun c => (isRom c = false ∧ Lib.indexByte [105, 118, 120, 108, 99, 100, 109] c = -1) ∨ (isRom c = true ∧ ∃ j : Nat, j < 7 ∧ Lib.indexByte [105, 118, 120, 108, 99, 100, 109] c = (j : Int) ∧ ([1, 5, 10, 50, 100, 500, 1000] : List Int)[j]? = some (romD c))) ?_
  decide +kernel
theorem romD_bd (c : UInt8) : 1 ≤ romD c ∧ romD c ≤ 1000 := by
  unfold romD
  repeat' split
  all_goals omega
theorem rom_at7 (j : Nat) (hj : j < 7) (v : Int) (h : ([1, 5, 10, 50, 100, 500, 1000] : List Int)[j]? = some v) (w : World) : (Instr.index 120 (.agg #[.int .i64 1, .int .i64 5, .int .i64 10, .int .i64 50, .int .i64 100, .int .i64 500, .int .i64 1000]) (.int .i64 (j : Int))).run Tryd.prog w = .ok (.int .i64 v) w := by
  rcases j with _ | _ | _ | _ | _ | _ | _ | j
  all_goals first | (exfalso; omega) | (obtain rfl := Option.some.inj h; kernel_rfl)

set_option maxRecDepth 100000 in
set_option maxHeartbeats 4000000 in
theorem value_ct (s : ByteArray) (hs : s.size ≤ 100000000) (w : World) : Calls Tryd.prog 44 #[.string s] w fun e w' => e = .returned (.int .i64 (romG s.data.toList.reverse 0 0)) ∧ w = w' := by
  have hz := Lib.hid (Lib.size_eq s)
  have cI : ∀ (c : UInt8) (w : World), Calls Tryd.prog 85 #[.string ⟨#[105, 118, 120, 108, 99, 100, 109]⟩, .int .u8 (nv c)] w fun e w' => e = .returned (.int .i64 (Lib.indexByte [105, 118, 120, 108, 99, 100, 109] c)) ∧ w = w' := fun c w => by
    have h := Tryd.strings_IndexByte ⟨#[105, 118, 120, 108, 99, 100, 109]⟩ (nv c) w
    rw [show (nv c).toNat.toUInt8 = c by simp [nv]] at h
    exact h.mono fun e w' ⟨he, hw⟩ => ⟨he, hw.symm⟩
  replace cI := Lib.hid cI
  go_enter Tryd.func44, Tryd.ntmps44
  go_wp2_with fail
  go_loopw [3, 4, 5] (fun n mo i wr => ∃ (k : Nat) (m most : Int), k ≤ s.size ∧ i = .int .i64 ((k : Int) - 1) ∧ n = .int .i64 m ∧ mo = .int .i64 most ∧ m ≤ 6000 ∧ -1000 * ((s.size : Int) - k) ≤ m ∧ 0 ≤ most ∧ most ≤ 1000 ∧ romG s.data.toList.reverse 0 0 = romG (s.data.toList.take k).reverse m most ∧ w = wr) (fun _ _ i _ => ((intOf i) + 1).toNat)
  case atStart => exact ⟨s.size, 0, 0, Nat.le_refl _, by go_num, rfl, rfl, by omega, by omega, by omega, by omega, by rw [Lib.size_eq, List.take_length], rfl⟩
  case round =>
    obtain ⟨k, m, most, hk, rfl, rfl, rfl, hm1, hm0, ho0, ho1, hinv, rfl⟩ := hrel
    cases k with
    | zero =>
      simp only [List.take_zero, List.reverse_nil, romG] at hinv
      replace hinv := Lib.hid hinv
      have hneg : ¬ (0 : Int) ≤ -1 := by decide
      go_wp2
      go_ret
      exact ⟨by rw [hinv.out]; rfl, rfl⟩
    | succ k =>
      have hlt : k < s.size := hk
      have hlt' : (k : Int) < (s.size : Int) := by omega
      have hk1 : ((k + 1 : Nat) : Int) - 1 = (k : Int) := by omega
      have hkl : k < s.data.toList.length := by rw [← Lib.size_eq]; exact hlt
      obtain ⟨c, hc⟩ : ∃ c, (s[k]'hlt) = c := ⟨_, rfl⟩
      have hcl : s.data.toList[k]'hkl = c := by subst hc; rfl
      rw [List.take_succ_eq_append_getElem hkl, List.reverse_append, List.reverse_singleton, List.singleton_append, hcl] at hinv
      simp only [romG] at hinv
      have hx : ((s[k]'hlt).toNat : Int) = nv c := by subst hc; rfl
      have cJ := fun w => cI.out c w
      have hb := romD_bd c
      rcases rom_case c with ⟨hr, hi⟩ | ⟨hr, j, hj, hi, hv⟩
      · rw [if_pos (.inl hr)] at hinv
        rw [hi] at cJ
        replace hinv := Lib.hid hinv
        replace cJ := Lib.hid cJ
        replace hc := Lib.hid hc
        replace hcl := Lib.hid hcl
        clear hb
        go_wp2_with (go_at_call 85; (with_reducible refine (cJ.out _).mono ?_); rintro e W1 ⟨rfl, rfl⟩)
        go_ret
        exact ⟨by rw [hinv.out]; rfl, rfl⟩
      · rw [hi] at cJ
        have hat := rom_at7 j hj (romD c) hv
        replace cJ := Lib.hid cJ
        replace hc := Lib.hid hc
        replace hcl := Lib.hid hcl
        clear hv hi
        by_cases h5 : 5000 < m
        · rw [if_pos (.inr h5)] at hinv
          replace hinv := Lib.hid hinv
          clear hat
          go_wp2_with (go_at_call 85; (with_reducible refine (cJ.out _).mono ?_); rintro e W1 ⟨rfl, rfl⟩)
          go_ret
          exact ⟨by rw [hinv.out]; rfl, rfl⟩
        · rw [if_neg (by rw [hr]; simp; omega)] at hinv
          generalize romD c = d at *
          have r1 : IntKind.i64.wrap (m - d) = m - d := IntWalk.i64_in _ (by omega)
          have r2 : IntKind.i64.wrap (m + d) = m + d := IntWalk.i64_in _ (by omega)
          by_cases h6 : d < most
          · rw [if_pos h6] at hinv
            replace hinv := Lib.hid hinv
            go_wp2_with (go_at_call 85; (with_reducible refine (cJ.out _).mono ?_); rintro e W1 ⟨rfl, rfl⟩)
            go_roundw
            case rel => exact ⟨k, m - d, most, by omega, by go_num, rfl, rfl, by omega, by omega, by omega, by omega, hinv.out, trivial⟩
            case measure => simp [intOf]
          · rw [if_neg h6] at hinv
            replace hinv := Lib.hid hinv
            go_wp2_with (go_at_call 85; (with_reducible refine (cJ.out _).mono ?_); rintro e W1 ⟨rfl, rfl⟩)
            go_roundw
            case rel => exact ⟨k, m + d, d, by omega, by go_num, rfl, rfl, by omega, by omega, by omega, by omega, hinv.out, trivial⟩
            case measure => simp [intOf]

end Go.Proofs.YtaihncbejhnceaaDoor.cnt

namespace Go.Proofs.YtaihncbejhnceaaDoor.cnt
open Go.RowKit Go.Proofs.YtaihncbejhnceaaDoor.base Go.Proofs.YtaihncbejhnceaaDoor.tok
set_option linter.unusedVariables false

/-! ### decimals -/
theorem dec_snoc {c : UInt8} {d : Nat} (hd : Lib.digitVal c = some d) : ∀ (l : Bs) (acc m : Nat), Lib.decFrom acc l = some m → Lib.decFrom acc (l ++ [c]) = some (m * 10 + d)
  | [], acc, m, h => by
    simp only [Lib.decFrom, Option.some.injEq] at h
    subst h
    simp [Lib.decFrom, hd]
  | b :: l, acc, m, h => by
    simp only [Lib.decFrom, List.cons_append] at h ⊢
    cases hb : Lib.digitVal b with
    | none => rw [hb] at h; simp at h
    | some e =>
      rw [hb] at h
      exact dec_snoc hd l _ _ h
theorem dig_val' (d : Nat) (h : d < 10) : Lib.digitVal (UInt8.ofNat (48 + d)) = some d := by
  have : ∀ d : Fin 10, Lib.digitVal (UInt8.ofNat (48 + d.val)) = some d.val := by decide
  exact this ⟨d, h⟩
theorem dec_back : ∀ u : Nat, Lib.decFrom 0 (Lib.decDigits u) = some u := by
  intro u
  induction u using Nat.strongRecOn with
  | ind u ih =>
    rw [Lib.decDigits]
    by_cases h : u < 10
    · rw [dif_pos h]
      simp only [Lib.decFrom, dig_val' u h, Nat.zero_mul, Nat.zero_add]
    · rw [dif_neg h]
      have := dec_snoc (dig_val' (u % 10) (by omega)) _ _ _ (ih (u / 10) (by omega))
      rw [this]
      congr 1
      omega
theorem dec_head : ∀ u : Nat, ∃ c r, Lib.decDigits u = c :: r ∧ 48 ≤ c.toNat ∧ c.toNat ≤ 57 := by
  intro u
  induction u using Nat.strongRecOn with
  | ind u ih =>
    rw [Lib.decDigits]
    by_cases h : u < 10
    · rw [dif_pos h]
      refine ⟨_, [], rfl, ?_, ?_⟩ <;> rw [UInt8.toNat_ofNat'] <;> omega
    · rw [dif_neg h]
      obtain ⟨c, r, e, h1, h2⟩ := ih (u / 10) (by omega)
      exact ⟨c, r ++ [_], by rw [e]; rfl, h1, h2⟩
theorem decNat_back (u : Nat) : Lib.decNat (Lib.decDigits u) = some u := by
  obtain ⟨c, r, e, _, _⟩ := dec_head u
  unfold Lib.decNat
  rw [if_neg (by rw [e]; simp), dec_back]
theorem atoi_itoa (n : Int) : Lib.atoi (Lib.itoa n) = some n := by
  unfold Lib.itoa
  by_cases h : n < 0
  · rw [if_pos h]
    simp only [Lib.atoi]
    rw [if_pos (by rfl), decNat_back]
    simp only [Option.map_some, Option.some.injEq]
    omega
  · rw [if_neg h]
    obtain ⟨c, r, e, h1, h2⟩ := dec_head n.toNat
    have hd := decNat_back n.toNat
    rw [e] at hd ⊢
    simp only [Lib.atoi]
    have n1 : (c == 45) = false := by rw [beq_eq_false_iff_ne]; intro h; subst h; exact absurd h1 (by decide)
    have n2 : (c == 43) = false := by rw [beq_eq_false_iff_ne]; intro h; subst h; exact absurd h1 (by decide)
    rw [n1, n2]
    simp only [Bool.false_eq_true, if_false, hd, Option.map_some, Option.some.injEq]
    omega
theorem itoa_len {n : Int} (h0 : -1000000 ≤ n) (h1 : n ≤ 1000000) : (Lib.itoa n).length ≤ 18 := by
  unfold Lib.itoa
  split
  · have := dim.dec_len n.natAbs (by omega)
    simp only [List.length_cons]
    omega
  · have := dim.dec_len n.toNat (by omega)
    omega
theorem all_itoa {n : Int} (h0 : -1000000 ≤ n) (h1 : n ≤ 1000000) : Lib.atoiAll (Lib.itoa n) = .ok n := by
  rw [Lib.atoiAll_short _ (itoa_len h0 h1), atoi_itoa]
  rfl
/-- what begins with a letter is no number -/
theorem atoi_letter {c : UInt8} {r : Bs} (h : 65 ≤ c.toNat) : Lib.atoi (c :: r) = none := by
  have n1 : (c == 45) = false := by rw [beq_eq_false_iff_ne]; intro h; subst h; exact absurd h (by decide)
  have n2 : (c == 43) = false := by rw [beq_eq_false_iff_ne]; intro h; subst h; exact absurd h (by decide)
  have nd : Lib.digitVal c = none := by unfold Lib.digitVal; rw [if_neg (by omega)]
  simp only [Lib.atoi, n1, n2, Lib.decNat, Lib.decFrom, nd]
  rfl

/-! ### letters -/
theorem let_step {n : Nat} (h : 0 < n) : letP n = letP ((n - 1) / 26) ++ [UInt8.ofNat (97 + (n - 1) % 26)] := by
  unfold letP
  rw [letR_step h, List.reverse_cons]
theorem let_len_step {B L : Nat} (h : ∀ m, m ≤ B → (letP m).length ≤ L) : ∀ n, n ≤ 26 * (B + 1) → (letP n).length ≤ L + 1 := by
  intro n hn
  rcases Nat.eq_zero_or_pos n with rfl | h0
  · have := h 0 (Nat.zero_le _)
    omega
  · rw [let_step h0, List.length_append]
    have := h ((n - 1) / 26) (by omega)
    simp only [List.length_cons, List.length_nil]
    omega
theorem let_short (n : Nat) (h : n ≤ 1000000) : (letP n).length ≤ 5 := by
  have l0 : ∀ m, m ≤ 0 → (letP m).length ≤ 0 := by
    intro m hm
    obtain rfl : m = 0 := by omega
    decide
  exact let_len_step (let_len_step (let_len_step (let_len_step (let_len_step l0)))) n (by omega)
theorem let_cons {n : Nat} (h : 0 < n) : ∃ c r, letP n = c :: r := by
  cases hl : letP n with
  | nil => rw [let_step h] at hl; simp at hl
  | cons c r => exact ⟨c, r, rfl⟩
theorem let_nv (n : Nat) : nv (UInt8.ofNat (97 + n % 26)) = 97 + ((n % 26 : Nat) : Int) := by
  simp only [nv]
  rw [UInt8.toNat_ofNat']
  omega
theorem worth_back : ∀ n : Nat, n ≤ 1000000 → ∀ r, worthG (letP n ++ r) 0 = worthG r (n : Int) := by
  intro n
  induction n using Nat.strongRecOn with
  | ind n ih =>
    intro hn r
    rcases Nat.eq_zero_or_pos n with rfl | h0
    · rfl
    · rw [let_step h0, List.append_assoc, ih ((n - 1) / 26) (by omega) (by omega)]
      rw [List.singleton_append]
      simp only [worthG]
      rw [let_nv, if_neg (by omega)]
      congr 1
      omega

/-! ### romans -/
set_option maxRecDepth 1000000 in
theorem rom_value : ∀ n : Fin 4000, romG (romP n.val).reverse 0 0 = (n.val : Int) := by decide +kernel

end Go.Proofs.YtaihncbejhnceaaDoor.cnt

namespace Go.Proofs.YtaihncbejhnceaaDoor.cnt
open Go.RowKit Go.Proofs.YtaihncbejhnceaaDoor.base Go.Proofs.YtaihncbejhnceaaDoor.tok
set_option linter.unusedVariables false

theorem enc_len (r : Int) : (Lib.encodeRune r).length ≤ 4 := by
  unfold Lib.encodeRune Lib.encodeRuneZ
  rw [List.length_map]
  repeat' split
  all_goals simp
theorem map_len (f : Int → Int) : ∀ (n : Nat) (l : Bs), (Lib.mapGoD f n l).length ≤ 4 * n
  | 0, l => by simp [Lib.mapGoD]
  | n + 1, l => by
    unfold Lib.mapGoD
    split
    · simp
    · have h1 := map_len f n (l.drop (Lib.decodeL l).2)
      rw [List.length_append]
      split
      · have := enc_len (f (Lib.decodeL l).1)
        omega
      · simp only [List.length_nil]
        omega
theorem low_len (l : Bs) : (Lib.toLowerD l).length ≤ 4 * l.length := map_len _ _ _

/-- what Back makes of a text that is no number -/
def altI (k : Int) (l : Bs) (d : Int) : Int := if k = 3 ∨ k = 4 then worthG (Lib.toLowerD l) 0 else if k = 5 ∨ k = 6 then romG (Lib.toLowerD l).reverse 0 0 else d
def backI (k : Int) (l : Bs) : Int :=
  match Lib.atoiAll l with
  | .ok v => v
  | .range => altI k l (Lib.atoiSat l)
  | _ => altI k l 0

theorem small_asc {l : Bs} (h : ∀ c ∈ l, smallB c = true) : ∀ b ∈ l, b.toNat < 128 := fun b hb => by
  have := h b hb
  simp only [smallB, decide_eq_true_eq] at this
  omega
theorem low_small {l : Bs} (h : ∀ c ∈ l, smallB c = true) : Lib.toLowerD l = l := by
  rw [Lib.toLowerD_ascii _ (small_asc h)]
  unfold Lib.toLowerA
  refine (List.map_congr_left fun c hc => ?_).trans (List.map_id l)
  have hs := h c hc
  have : ∀ i : Fin 256, smallB (UInt8.ofNat i.val) = true → Lib.lowerB (UInt8.ofNat i.val) = UInt8.ofNat i.val := by decide +kernel
  have h1 := this ⟨c.toNat, c.toNat_lt⟩
  simp only [UInt8.ofNat_toNat] at h1
  exact h1 hs
theorem up_nat {c : UInt8} (h : smallB c = true) : 65 ≤ (Lib.upperB c).toNat ∧ (Lib.upperB c).toNat < 128 := by
  have : ∀ i : Fin 256, smallB (UInt8.ofNat i.val) = true → 65 ≤ (Lib.upperB (UInt8.ofNat i.val)).toNat ∧ (Lib.upperB (UInt8.ofNat i.val)).toNat < 128 := by decide +kernel
  have h1 := this ⟨c.toNat, c.toNat_lt⟩
  simp only [UInt8.ofNat_toNat] at h1
  exact h1 h
theorem low_upper {l : Bs} (h : ∀ c ∈ l, smallB c = true) : Lib.toLowerD (Lib.toUpperA l) = l := by
  rw [Lib.toLowerD_ascii]
  · unfold Lib.toLowerA Lib.toUpperA
    rw [List.map_map]
    exact (List.map_congr_left fun c hc => up_back' (h c hc)).trans (List.map_id l)
  · intro b hb
    unfold Lib.toUpperA at hb
    obtain ⟨c, hc, rfl⟩ := List.mem_map.1 hb
    exact (up_nat (h c hc)).2
/-- a text that begins with a letter, and is short, is no number -/
theorem all_letter {c : UInt8} {r : Bs} (h : 65 ≤ c.toNat) (hl : (c :: r).length ≤ 18) : Lib.atoiAll (c :: r) = Lib.NumEnd.ofOption none := by
  rw [Lib.atoiAll_short _ hl, atoi_letter h]
theorem back_none {k : Int} {l : Bs} (h : Lib.atoiAll l = Lib.NumEnd.ofOption none) : backI k l = altI k l 0 := by
  unfold backI
  rw [h]
  rfl
set_option maxRecDepth 1000000 in
theorem rom_len : ∀ n : Fin 4000, (romP n.val).length ≤ 18 := by decide +kernel

theorem back_word {k : Int} {l : Bs} (c : UInt8) (r : Bs) (e : l = c :: r) (hs : ∀ c ∈ l, smallB c = true) (hl : l.length ≤ 18) : backI k l = altI k l 0 ∧ backI k (Lib.toUpperA l) = altI k (Lib.toUpperA l) 0 := by
  have hc := hs c (by rw [e]; simp)
  have h1 : 65 ≤ c.toNat := by
    simp only [smallB, decide_eq_true_eq] at hc
    omega
  refine ⟨back_none (by rw [e] at hl ⊢; exact all_letter h1 hl), back_none ?_⟩
  rw [e] at hl ⊢
  exact all_letter (r := r.map Lib.upperB) (up_nat hc).1 (by simpa using hl)

theorem back_mark (k m : Int) (hk : 2 ≤ k ∧ k ≤ 6) (h0 : -1000000 ≤ m) (h1 : m ≤ 1000000) : backI k (markI k m) = m := by
  unfold markI
  by_cases c1 : (k = 3 ∨ k = 4) ∧ 0 < m
  · rw [if_pos c1]
    obtain ⟨n, rfl⟩ := Int.eq_ofNat_of_zero_le (show 0 ≤ m by omega)
    obtain ⟨c, r, e⟩ := let_cons (n := n) (by omega)
    have hw := back_word (k := k) c r e (let_small n) (by have := let_short n (by omega); omega)
    have hv : worthG (letP n) 0 = (n : Int) := by
      have := worth_back n (by omega) []
      rwa [List.append_nil] at this
    rw [Int.toNat_natCast]
    rcases c1.1 with rfl | rfl
    · rw [if_pos rfl, hw.1, altI, if_pos (.inl rfl), low_small (let_small n), hv]
    · rw [if_neg (by decide), hw.2, altI, if_pos (.inr rfl), low_upper (let_small n), hv]
  · rw [if_neg c1]
    by_cases c2 : (k = 5 ∨ k = 6) ∧ 1 ≤ m ∧ m ≤ 3999
    · rw [if_pos c2]
      obtain ⟨n, rfl⟩ := Int.eq_ofNat_of_zero_le (show 0 ≤ m by omega)
      have hv := rom_value ⟨n, by omega⟩
      have hlen := rom_len ⟨n, by omega⟩
      simp only at hv hlen
      have hne : ∃ c r, romP n = c :: r := by
        cases hr : romP n with
        | nil => rw [hr] at hv; simp only [List.reverse_nil, romG] at hv; omega
        | cons c r => exact ⟨c, r, rfl⟩
      obtain ⟨c, r, e⟩ := hne
      have hw := back_word (k := k) c r e (rom_small n) hlen
      rw [Int.toNat_natCast]
      rcases c2.1 with rfl | rfl
      · rw [if_pos rfl, hw.1, altI, if_neg (by decide), if_pos (.inl rfl), low_small (rom_small n), hv]
      · rw [if_neg (by decide), hw.2, altI, if_neg (by decide), if_pos (.inr rfl), low_upper (rom_small n), hv]
    · rw [if_neg c2]
      unfold backI
      rw [all_itoa h0 h1]

end Go.Proofs.YtaihncbejhnceaaDoor.cnt

namespace Go.Proofs.YtaihncbejhnceaaDoor.cnt
open Go.RowKit Go.Proofs.YtaihncbejhnceaaDoor.base Go.Proofs.YtaihncbejhnceaaDoor.tok Go.Proofs.YtaihncbejhnceaaDoor.dim
set_option linter.unusedVariables false

/-- what is wanted of the library's variables -/
def LibAt (w : World) : Prop := PowAt w ∧ (∃ tp p, w.cell? ⟨1, 0, none⟩ = some (.iface tp p)) ∧ (∃ tp p, w.cell? ⟨2, 0, none⟩ = some (.iface tp p)) ∧ Lib.CaseVar 3 Lib.caseA w ∧ Lib.Utf8Tabs 8 9 w
theorem LibAt.on {w w' : World} (h : LibAt w) (hb : Below w.heap.size w w') : LibAt w' := by
  obtain ⟨h1, ⟨t1, p1, h2⟩, ⟨t2, p2, h3⟩, h4, h5⟩ := h
  exact ⟨h1.on hb, ⟨t1, p1, (hb.cell (World.block_lt_of_cell? w _ h2)).trans h2⟩, ⟨t2, p2, (hb.cell (World.block_lt_of_cell? w _ h3)).trans h3⟩, Lib.CaseVar_below h4 hb, Utf8Tabs_below h5 hb⟩

theorem LibAt.pow {w : World} (h : LibAt w) : PowAt w := h.1
theorem bytes_below (w : World) (e : TypeId) (s : ByteArray) : Below w.heap.size w (Lib.bytesWorld w e s) := by
  exact Go.Joins.below_bytesWorld _ w e s (Nat.le_refl _)

theorem atoi_or (k : Int) (s : ByteArray) (hs : s.size ≤ 1048576) :
    (∀ w, LibAt w → Calls Tryd.prog 41 #[.string s] w fun e w' => e = .returned (.tuple #[.int .i64 (backI k s.data.toList), .nilIface]) ∧ Below w.heap.size w w') ∨
    ∃ d, (∀ w, LibAt w → Calls Tryd.prog 41 #[.string s] w fun e w' => (∃ N, e = .returned (.tuple #[.int .i64 d, .iface 149 (.pointer (some ⟨N, 0, none⟩))])) ∧ Below w.heap.size w w') ∧ backI k s.data.toList = altI k s.data.toList d := by
  unfold backI
  rcases h : Lib.atoiAll s.data.toList with v | _ | _
  · exact .inl fun w hw => (Tryd.strconv_Atoi_ok s (by omega) v h w).mono fun e w' ⟨he, hb⟩ => ⟨he, by
      rcases hb with rfl | ⟨t, rfl⟩
      · exact Below.refl _ _
      · exact bytes_below _ _ _⟩
  · refine .inr ⟨0, fun w hw => ?_, rfl⟩
    obtain ⟨_, ⟨tp, p, h2⟩, _⟩ := hw
    exact (Any.strconv_Atoi_syntax Tryd.laysC172 s (by omega) h (.iface tp p) w h2 (.inr ⟨tp, p, rfl⟩)).mono fun e w' ⟨N, he, _, _, hb⟩ => ⟨⟨N, he⟩, hb⟩
  · refine .inr ⟨_, fun w hw => ?_, rfl⟩
    obtain ⟨_, _, ⟨tp, p, h2⟩, _⟩ := hw
    exact (Tryd.strconv_Atoi_range s (by omega) h (.iface tp p) w h2 (.inr ⟨tp, p, rfl⟩)).mono fun e w' ⟨N, he, _, _, hb⟩ => ⟨⟨N, he⟩, hb⟩

theorem lower_any (s : ByteArray) (hs : s.size ≤ 1048576) (w : World) (hw : LibAt w) : Calls Tryd.prog 43 #[.string s] w fun e w' => e = .returned (.string (bs (Lib.toLowerD s.data.toList))) ∧ Below w.heap.size w w' :=
  Tryd.strings_ToLower_any s w (by omega) hw.2.2.2.1 hw.2.2.2.2

/-- what Back tells -/
def goodI (k : Int) (s : ByteArray) : Prop := -1000000 ≤ backI k s.data.toList ∧ backI k s.data.toList ≤ 1000000 ∧ markI k (backI k s.data.toList) = s.data.toList

set_option maxRecDepth 100000 in
set_option maxHeartbeats 8000000 in
theorem Back_ct (k : Int) (hk : 2 ≤ k ∧ k ≤ 6) (s : ByteArray) (hs : s.size ≤ 1048576) (w : World) (hw : LibAt w) :
    Calls Tryd.prog 21 #[.int .i64 k, .string s] w fun e w' => ((goodI k s ∧ e = .returned (.tuple #[.int .i64 (backI k s.data.toList), .int .i64 0])) ∨ (¬ goodI k s ∧ e = .returned (.tuple #[.int .i64 0, .int .i64 5]))) ∧ Below w.heap.size w w' := by
  have hA := atoi_or k s hs
  have cL := Lib.hid (lower_any s hs)
  have hll : (Lib.toLowerD s.data.toList).length ≤ 4194304 := by have := low_len s.data.toList; rw [← Lib.size_eq] at this; omega
  have cW := Lib.hid (fun w => worth_ct (bs (Lib.toLowerD s.data.toList)) (by rw [bs_size]; omega) w)
  have cV := Lib.hid (fun w => value_ct (bs (Lib.toLowerD s.data.toList)) (by rw [bs_size]; omega) w)
  have c26 := Lib.hid (fun w => cin_yes k 2 6 hk.1 hk.2 w)
  unfold goodI
  have hmk := fun (n : Int) => mark_I k n hk
  obtain ⟨n, hn⟩ : ∃ n, backI k s.data.toList = n := ⟨_, rfl⟩
  rw [hn] at hA ⊢
  have cIn : ∀ w, Calls Tryd.prog 39 #[.int .i64 n, .int .i64 (-1000000), .int .i64 1000000] w fun e w' => e = .returned (.bool (decide (-1000000 ≤ n ∧ n ≤ 1000000))) ∧ w = w' := fun w => (cin_ct n (-1000000) 1000000 w).mono fun e w' ⟨he, hw⟩ => ⟨by rw [he, Bool.decide_and], hw.symm⟩
  have htail : (¬ (-1000000 ≤ n ∧ n ≤ 1000000)) ∨ ((-1000000 ≤ n ∧ n ≤ 1000000) ∧ ∃ b : Bool, ((bs (markI k n)).toList == s.toList) = b ∧ (b = true ↔ markI k n = s.data.toList)) := by
    by_cases h : -1000000 ≤ n ∧ n ≤ 1000000
    · refine .inr ⟨h, _, rfl, ?_⟩
      rw [bs_toList, Lib.toList_data, beq_iff_eq]
    · exact .inl h
  have HW := Lib.hid hw
  have hkk : k = 2 ∨ k = 3 ∨ k = 4 ∨ k = 5 ∨ k = 6 := by omega
  clear hn hw hk hs hll
  rcases htail with hbad | ⟨hgd, b, hb, hbi⟩
  · rw [decide_eq_false hbad] at cIn
    replace cIn := Lib.hid cIn
    have hno : ¬ (-1000000 ≤ n ∧ n ≤ 1000000 ∧ markI k n = s.data.toList) := fun h => hbad ⟨h.1, h.2.1⟩
    replace hno := Lib.hid hno
    clear hbad hmk
    rcases hA with cA | ⟨d, cA, hd⟩
    · replace cA := Lib.hid cA
      clear cL cW cV hkk
      go_enter Tryd.func21, Tryd.ntmps21
      go_wp2_with (first
        | (go_at_call 41; (with_reducible refine (cA.out _ HW.out).mono ?_); rintro e W1 ⟨rfl, hb1⟩; have HB1 := Lib.hid hb1; clear hb1)
        | (go_at_call 39; (with_reducible refine (c26.out _).mono ?_); rintro e W0 ⟨rfl, rfl⟩)
        | (go_at_call 39; (with_reducible refine (cIn.out _).mono ?_); rintro e W0 ⟨rfl, rfl⟩))
      go_ret2
      exact ⟨.inr ⟨hno.out, rfl⟩, HB1.out⟩
    · replace cA := Lib.hid cA
      rcases hkk with rfl | rfl | rfl | rfl | rfl
      · obtain rfl : n = d := hd
        go_enter Tryd.func21, Tryd.ntmps21
        go_wp2_with (first
          | (go_at_call 41; (with_reducible refine (cA.out _ HW.out).mono ?_); rintro e W1 ⟨⟨N, rfl⟩, hb1⟩; have HB1 := Lib.hid hb1; clear hb1)
          | (go_at_call 39; (with_reducible refine (c26.out _).mono ?_); rintro e W0 ⟨rfl, rfl⟩)
          | (go_at_call 39; (with_reducible refine (cIn.out _).mono ?_); rintro e W0 ⟨rfl, rfl⟩))
        go_ret2
        exact ⟨.inr ⟨hno.out, rfl⟩, HB1.out⟩
      · have hd2 : worthG (bs (Lib.toLowerD s.data.toList)).data.toList 0 = n := hd.symm
        rw [hd2] at cW
        clear hd hd2 cV
        go_enter Tryd.func21, Tryd.ntmps21
        go_wp2_with (first
          | (go_at_call 41; (with_reducible refine (cA.out _ HW.out).mono ?_); rintro e W1 ⟨⟨N, rfl⟩, hb1⟩; have HB1 := Lib.hid hb1; clear hb1)
          | (go_at_call 39; (with_reducible refine (c26.out _).mono ?_); rintro e W0 ⟨rfl, rfl⟩)
          | (go_at_call 43; (with_reducible refine (cL.out _ (HW.out.on HB1.out)).mono ?_); rintro e W2 ⟨rfl, hb2⟩; have HB2 := Lib.hid (HB1.out.trans (hb2.mono HB1.out.size)); clear hb2)
          | (go_at_call 42; (with_reducible refine (cW.out _).mono ?_); rintro e W3 ⟨rfl, rfl⟩)
          | (go_at_call 39; (with_reducible refine (cIn.out _).mono ?_); rintro e W0 ⟨rfl, rfl⟩))
        go_ret2
        exact ⟨.inr ⟨hno.out, rfl⟩, HB2.out⟩
      · have hd2 : worthG (bs (Lib.toLowerD s.data.toList)).data.toList 0 = n := hd.symm
        rw [hd2] at cW
        clear hd hd2 cV
        go_enter Tryd.func21, Tryd.ntmps21
        go_wp2_with (first
          | (go_at_call 41; (with_reducible refine (cA.out _ HW.out).mono ?_); rintro e W1 ⟨⟨N, rfl⟩, hb1⟩; have HB1 := Lib.hid hb1; clear hb1)
          | (go_at_call 39; (with_reducible refine (c26.out _).mono ?_); rintro e W0 ⟨rfl, rfl⟩)
          | (go_at_call 43; (with_reducible refine (cL.out _ (HW.out.on HB1.out)).mono ?_); rintro e W2 ⟨rfl, hb2⟩; have HB2 := Lib.hid (HB1.out.trans (hb2.mono HB1.out.size)); clear hb2)
          | (go_at_call 42; (with_reducible refine (cW.out _).mono ?_); rintro e W3 ⟨rfl, rfl⟩)
          | (go_at_call 39; (with_reducible refine (cIn.out _).mono ?_); rintro e W0 ⟨rfl, rfl⟩))
        go_ret2
        exact ⟨.inr ⟨hno.out, rfl⟩, HB2.out⟩
      · have hd2 : romG (bs (Lib.toLowerD s.data.toList)).data.toList.reverse 0 0 = n := hd.symm
        rw [hd2] at cV
        clear hd hd2 cW
        go_enter Tryd.func21, Tryd.ntmps21
        go_wp2_with (first
          | (go_at_call 41; (with_reducible refine (cA.out _ HW.out).mono ?_); rintro e W1 ⟨⟨N, rfl⟩, hb1⟩; have HB1 := Lib.hid hb1; clear hb1)
          | (go_at_call 39; (with_reducible refine (c26.out _).mono ?_); rintro e W0 ⟨rfl, rfl⟩)
          | (go_at_call 43; (with_reducible refine (cL.out _ (HW.out.on HB1.out)).mono ?_); rintro e W2 ⟨rfl, hb2⟩; have HB2 := Lib.hid (HB1.out.trans (hb2.mono HB1.out.size)); clear hb2)
          | (go_at_call 44; (with_reducible refine (cV.out _).mono ?_); rintro e W3 ⟨rfl, rfl⟩)
          | (go_at_call 39; (with_reducible refine (cIn.out _).mono ?_); rintro e W0 ⟨rfl, rfl⟩))
        go_ret2
        exact ⟨.inr ⟨hno.out, rfl⟩, HB2.out⟩
      · have hd2 : romG (bs (Lib.toLowerD s.data.toList)).data.toList.reverse 0 0 = n := hd.symm
        rw [hd2] at cV
        clear hd hd2 cW
        go_enter Tryd.func21, Tryd.ntmps21
        go_wp2_with (first
          | (go_at_call 41; (with_reducible refine (cA.out _ HW.out).mono ?_); rintro e W1 ⟨⟨N, rfl⟩, hb1⟩; have HB1 := Lib.hid hb1; clear hb1)
          | (go_at_call 39; (with_reducible refine (c26.out _).mono ?_); rintro e W0 ⟨rfl, rfl⟩)
          | (go_at_call 43; (with_reducible refine (cL.out _ (HW.out.on HB1.out)).mono ?_); rintro e W2 ⟨rfl, hb2⟩; have HB2 := Lib.hid (HB1.out.trans (hb2.mono HB1.out.size)); clear hb2)
          | (go_at_call 44; (with_reducible refine (cV.out _).mono ?_); rintro e W3 ⟨rfl, rfl⟩)
          | (go_at_call 39; (with_reducible refine (cIn.out _).mono ?_); rintro e W0 ⟨rfl, rfl⟩))
        go_ret2
        exact ⟨.inr ⟨hno.out, rfl⟩, HB2.out⟩
  · rw [decide_eq_true hgd] at cIn
    replace cIn := Lib.hid cIn
    have cM := Lib.hid (fun w hT => hmk n hgd.1 hgd.2 w hT)
    have hne : ((bs (markI k n)).toList != s.toList) = !b := by rw [bne, hb]
    generalize hmkn : markI k n = M at *
    replace hmkn := Lib.hid hmkn
    replace hgd := Lib.hid hgd
    clear hmk
    cases b with
    | false =>
      replace hne : ((bs M).toList != s.toList) = true := hne
      have hno : ¬ (-1000000 ≤ n ∧ n ≤ 1000000 ∧ M = s.data.toList) := fun h => by have := hbi.2 h.2.2; cases this
      replace hno := Lib.hid hno
      clear hbi
      rcases hA with cA | ⟨d, cA, hd⟩
      · replace cA := Lib.hid cA
        clear cL cW cV hkk
        go_enter Tryd.func21, Tryd.ntmps21
        go_wp2_with (first
          | (go_at_call 41; (with_reducible refine (cA.out _ HW.out).mono ?_); rintro e W1 ⟨rfl, hb1⟩; have HB1 := Lib.hid hb1; clear hb1)
          | (go_at_call 39; (with_reducible refine (c26.out _).mono ?_); rintro e W0 ⟨rfl, rfl⟩)
          | (go_at_call 39; (with_reducible refine (cIn.out _).mono ?_); rintro e W0 ⟨rfl, rfl⟩)
          | (go_at_call 40; (with_reducible refine (cM.out _ (HW.out.on HB1.out).pow).mono ?_); rintro e W4 ⟨rfl, hb4⟩; have HB4 := Lib.hid (HB1.out.trans (hb4.mono HB1.out.size)); clear hb4))
        go_ret2
        exact ⟨.inr ⟨hno.out, rfl⟩, HB4.out⟩
      · replace cA := Lib.hid cA
        rcases hkk with rfl | rfl | rfl | rfl | rfl
        · obtain rfl : n = d := hd
          go_enter Tryd.func21, Tryd.ntmps21
          go_wp2_with (first
            | (go_at_call 41; (with_reducible refine (cA.out _ HW.out).mono ?_); rintro e W1 ⟨⟨N, rfl⟩, hb1⟩; have HB1 := Lib.hid hb1; clear hb1)
            | (go_at_call 39; (with_reducible refine (c26.out _).mono ?_); rintro e W0 ⟨rfl, rfl⟩)
            | (go_at_call 39; (with_reducible refine (cIn.out _).mono ?_); rintro e W0 ⟨rfl, rfl⟩)
            | (go_at_call 40; (with_reducible refine (cM.out _ (HW.out.on HB1.out).pow).mono ?_); rintro e W4 ⟨rfl, hb4⟩; have HB4 := Lib.hid (HB1.out.trans (hb4.mono HB1.out.size)); clear hb4))
          go_ret2
          exact ⟨.inr ⟨hno.out, rfl⟩, HB4.out⟩
        · have hd2 : worthG (bs (Lib.toLowerD s.data.toList)).data.toList 0 = n := hd.symm
          rw [hd2] at cW
          clear hd hd2 cV
          go_enter Tryd.func21, Tryd.ntmps21
          go_wp2_with (first
            | (go_at_call 41; (with_reducible refine (cA.out _ HW.out).mono ?_); rintro e W1 ⟨⟨N, rfl⟩, hb1⟩; have HB1 := Lib.hid hb1; clear hb1)
            | (go_at_call 39; (with_reducible refine (c26.out _).mono ?_); rintro e W0 ⟨rfl, rfl⟩)
            | (go_at_call 43; (with_reducible refine (cL.out _ (HW.out.on HB1.out)).mono ?_); rintro e W2 ⟨rfl, hb2⟩; have HB2 := Lib.hid (HB1.out.trans (hb2.mono HB1.out.size)); clear hb2)
            | (go_at_call 42; (with_reducible refine (cW.out _).mono ?_); rintro e W3 ⟨rfl, rfl⟩)
            | (go_at_call 39; (with_reducible refine (cIn.out _).mono ?_); rintro e W0 ⟨rfl, rfl⟩)
            | (go_at_call 40; (with_reducible refine (cM.out _ (HW.out.on HB2.out).pow).mono ?_); rintro e W4 ⟨rfl, hb4⟩; have HB4 := Lib.hid (HB2.out.trans (hb4.mono HB2.out.size)); clear hb4))
          go_ret2
          exact ⟨.inr ⟨hno.out, rfl⟩, HB4.out⟩
        · have hd2 : worthG (bs (Lib.toLowerD s.data.toList)).data.toList 0 = n := hd.symm
          rw [hd2] at cW
          clear hd hd2 cV
          go_enter Tryd.func21, Tryd.ntmps21
          go_wp2_with (first
            | (go_at_call 41; (with_reducible refine (cA.out _ HW.out).mono ?_); rintro e W1 ⟨⟨N, rfl⟩, hb1⟩; have HB1 := Lib.hid hb1; clear hb1)
            | (go_at_call 39; (with_reducible refine (c26.out _).mono ?_); rintro e W0 ⟨rfl, rfl⟩)
            | (go_at_call 43; (with_reducible refine (cL.out _ (HW.out.on HB1.out)).mono ?_); rintro e W2 ⟨rfl, hb2⟩; have HB2 := Lib.hid (HB1.out.trans (hb2.mono HB1.out.size)); clear hb2)
            | (go_at_call 42; (with_reducible refine (cW.out _).mono ?_); rintro e W3 ⟨rfl, rfl⟩)
            | (go_at_call 39; (with_reducible refine (cIn.out _).mono ?_); rintro e W0 ⟨rfl, rfl⟩)
            | (go_at_call 40; (with_reducible refine (cM.out _ (HW.out.on HB2.out).pow).mono ?_); rintro e W4 ⟨rfl, hb4⟩; have HB4 := Lib.hid (HB2.out.trans (hb4.mono HB2.out.size)); clear hb4))
          go_ret2
          exact ⟨.inr ⟨hno.out, rfl⟩, HB4.out⟩
        · have hd2 : romG (bs (Lib.toLowerD s.data.toList)).data.toList.reverse 0 0 = n := hd.symm
          rw [hd2] at cV
          clear hd hd2 cW
          go_enter Tryd.func21, Tryd.ntmps21
          go_wp2_with (first
            | (go_at_call 41; (with_reducible refine (cA.out _ HW.out).mono ?_); rintro e W1 ⟨⟨N, rfl⟩, hb1⟩; have HB1 := Lib.hid hb1; clear hb1)
            | (go_at_call 39; (with_reducible refine (c26.out _).mono ?_); rintro e W0 ⟨rfl, rfl⟩)
            | (go_at_call 43; (with_reducible refine (cL.out _ (HW.out.on HB1.out)).mono ?_); rintro e W2 ⟨rfl, hb2⟩; have HB2 := Lib.hid (HB1.out.trans (hb2.mono HB1.out.size)); clear hb2)
            | (go_at_call 44; (with_reducible refine (cV.out _).mono ?_); rintro e W3 ⟨rfl, rfl⟩)
            | (go_at_call 39; (with_reducible refine (cIn.out _).mono ?_); rintro e W0 ⟨rfl, rfl⟩)
            | (go_at_call 40; (with_reducible refine (cM.out _ (HW.out.on HB2.out).pow).mono ?_); rintro e W4 ⟨rfl, hb4⟩; have HB4 := Lib.hid (HB2.out.trans (hb4.mono HB2.out.size)); clear hb4))
          go_ret2
          exact ⟨.inr ⟨hno.out, rfl⟩, HB4.out⟩
        · have hd2 : romG (bs (Lib.toLowerD s.data.toList)).data.toList.reverse 0 0 = n := hd.symm
          rw [hd2] at cV
          clear hd hd2 cW
          go_enter Tryd.func21, Tryd.ntmps21
          go_wp2_with (first
            | (go_at_call 41; (with_reducible refine (cA.out _ HW.out).mono ?_); rintro e W1 ⟨⟨N, rfl⟩, hb1⟩; have HB1 := Lib.hid hb1; clear hb1)
            | (go_at_call 39; (with_reducible refine (c26.out _).mono ?_); rintro e W0 ⟨rfl, rfl⟩)
            | (go_at_call 43; (with_reducible refine (cL.out _ (HW.out.on HB1.out)).mono ?_); rintro e W2 ⟨rfl, hb2⟩; have HB2 := Lib.hid (HB1.out.trans (hb2.mono HB1.out.size)); clear hb2)
            | (go_at_call 44; (with_reducible refine (cV.out _).mono ?_); rintro e W3 ⟨rfl, rfl⟩)
            | (go_at_call 39; (with_reducible refine (cIn.out _).mono ?_); rintro e W0 ⟨rfl, rfl⟩)
            | (go_at_call 40; (with_reducible refine (cM.out _ (HW.out.on HB2.out).pow).mono ?_); rintro e W4 ⟨rfl, hb4⟩; have HB4 := Lib.hid (HB2.out.trans (hb4.mono HB2.out.size)); clear hb4))
          go_ret2
          exact ⟨.inr ⟨hno.out, rfl⟩, HB4.out⟩
    | true =>
      replace hne : ((bs M).toList != s.toList) = false := hne
      have hyes : -1000000 ≤ n ∧ n ≤ 1000000 ∧ M = s.data.toList := ⟨hgd.out.1, hgd.out.2, hbi.1 rfl⟩
      replace hyes := Lib.hid hyes
      clear hbi
      rcases hA with cA | ⟨d, cA, hd⟩
      · replace cA := Lib.hid cA
        clear cL cW cV hkk
        go_enter Tryd.func21, Tryd.ntmps21
        go_wp2_with (first
          | (go_at_call 41; (with_reducible refine (cA.out _ HW.out).mono ?_); rintro e W1 ⟨rfl, hb1⟩; have HB1 := Lib.hid hb1; clear hb1)
          | (go_at_call 39; (with_reducible refine (c26.out _).mono ?_); rintro e W0 ⟨rfl, rfl⟩)
          | (go_at_call 39; (with_reducible refine (cIn.out _).mono ?_); rintro e W0 ⟨rfl, rfl⟩)
          | (go_at_call 40; (with_reducible refine (cM.out _ (HW.out.on HB1.out).pow).mono ?_); rintro e W4 ⟨rfl, hb4⟩; have HB4 := Lib.hid (HB1.out.trans (hb4.mono HB1.out.size)); clear hb4))
        go_ret2
        exact ⟨.inl ⟨hyes.out, rfl⟩, HB4.out⟩
      · replace cA := Lib.hid cA
        rcases hkk with rfl | rfl | rfl | rfl | rfl
        · obtain rfl : n = d := hd
          go_enter Tryd.func21, Tryd.ntmps21
          go_wp2_with (first
            | (go_at_call 41; (with_reducible refine (cA.out _ HW.out).mono ?_); rintro e W1 ⟨⟨N, rfl⟩, hb1⟩; have HB1 := Lib.hid hb1; clear hb1)
            | (go_at_call 39; (with_reducible refine (c26.out _).mono ?_); rintro e W0 ⟨rfl, rfl⟩)
            | (go_at_call 39; (with_reducible refine (cIn.out _).mono ?_); rintro e W0 ⟨rfl, rfl⟩)
            | (go_at_call 40; (with_reducible refine (cM.out _ (HW.out.on HB1.out).pow).mono ?_); rintro e W4 ⟨rfl, hb4⟩; have HB4 := Lib.hid (HB1.out.trans (hb4.mono HB1.out.size)); clear hb4))
          go_ret2
          exact ⟨.inl ⟨hyes.out, rfl⟩, HB4.out⟩
        · have hd2 : worthG (bs (Lib.toLowerD s.data.toList)).data.toList 0 = n := hd.symm
          rw [hd2] at cW
          clear hd hd2 cV
          go_enter Tryd.func21, Tryd.ntmps21
          go_wp2_with (first
            | (go_at_call 41; (with_reducible refine (cA.out _ HW.out).mono ?_); rintro e W1 ⟨⟨N, rfl⟩, hb1⟩; have HB1 := Lib.hid hb1; clear hb1)
            | (go_at_call 39; (with_reducible refine (c26.out _).mono ?_); rintro e W0 ⟨rfl, rfl⟩)
            | (go_at_call 43; (with_reducible refine (cL.out _ (HW.out.on HB1.out)).mono ?_); rintro e W2 ⟨rfl, hb2⟩; have HB2 := Lib.hid (HB1.out.trans (hb2.mono HB1.out.size)); clear hb2)
            | (go_at_call 42; (with_reducible refine (cW.out _).mono ?_); rintro e W3 ⟨rfl, rfl⟩)
            | (go_at_call 39; (with_reducible refine (cIn.out _).mono ?_); rintro e W0 ⟨rfl, rfl⟩)
            | (go_at_call 40; (with_reducible refine (cM.out _ (HW.out.on HB2.out).pow).mono ?_); rintro e W4 ⟨rfl, hb4⟩; have HB4 := Lib.hid (HB2.out.trans (hb4.mono HB2.out.size)); clear hb4))
          go_ret2
          exact ⟨.inl ⟨hyes.out, rfl⟩, HB4.out⟩
        · have hd2 : worthG (bs (Lib.toLowerD s.data.toList)).data.toList 0 = n := hd.symm
          rw [hd2] at cW
          clear hd hd2 cV
          go_enter Tryd.func21, Tryd.ntmps21
          go_wp2_with (first
            | (go_at_call 41; (with_reducible refine (cA.out _ HW.out).mono ?_); rintro e W1 ⟨⟨N, rfl⟩, hb1⟩; have HB1 := Lib.hid hb1; clear hb1)
            | (go_at_call 39; (with_reducible refine (c26.out _).mono ?_); rintro e W0 ⟨rfl, rfl⟩)
            | (go_at_call 43; (with_reducible refine (cL.out _ (HW.out.on HB1.out)).mono ?_); rintro e W2 ⟨rfl, hb2⟩; have HB2 := Lib.hid (HB1.out.trans (hb2.mono HB1.out.size)); clear hb2)
            | (go_at_call 42; (with_reducible refine (cW.out _).mono ?_); rintro e W3 ⟨rfl, rfl⟩)
            | (go_at_call 39; (with_reducible refine (cIn.out _).mono ?_); rintro e W0 ⟨rfl, rfl⟩)
            | (go_at_call 40; (with_reducible refine (cM.out _ (HW.out.on HB2.out).pow).mono ?_); rintro e W4 ⟨rfl, hb4⟩; have HB4 := Lib.hid (HB2.out.trans (hb4.mono HB2.out.size)); clear hb4))
          go_ret2
          exact ⟨.inl ⟨hyes.out, rfl⟩, HB4.out⟩
        · have hd2 : romG (bs (Lib.toLowerD s.data.toList)).data.toList.reverse 0 0 = n := hd.symm
          rw [hd2] at cV
          clear hd hd2 cW
          go_enter Tryd.func21, Tryd.ntmps21
          go_wp2_with (first
            | (go_at_call 41; (with_reducible refine (cA.out _ HW.out).mono ?_); rintro e W1 ⟨⟨N, rfl⟩, hb1⟩; have HB1 := Lib.hid hb1; clear hb1)
            | (go_at_call 39; (with_reducible refine (c26.out _).mono ?_); rintro e W0 ⟨rfl, rfl⟩)
            | (go_at_call 43; (with_reducible refine (cL.out _ (HW.out.on HB1.out)).mono ?_); rintro e W2 ⟨rfl, hb2⟩; have HB2 := Lib.hid (HB1.out.trans (hb2.mono HB1.out.size)); clear hb2)
            | (go_at_call 44; (with_reducible refine (cV.out _).mono ?_); rintro e W3 ⟨rfl, rfl⟩)
            | (go_at_call 39; (with_reducible refine (cIn.out _).mono ?_); rintro e W0 ⟨rfl, rfl⟩)
            | (go_at_call 40; (with_reducible refine (cM.out _ (HW.out.on HB2.out).pow).mono ?_); rintro e W4 ⟨rfl, hb4⟩; have HB4 := Lib.hid (HB2.out.trans (hb4.mono HB2.out.size)); clear hb4))
          go_ret2
          exact ⟨.inl ⟨hyes.out, rfl⟩, HB4.out⟩
        · have hd2 : romG (bs (Lib.toLowerD s.data.toList)).data.toList.reverse 0 0 = n := hd.symm
          rw [hd2] at cV
          clear hd hd2 cW
          go_enter Tryd.func21, Tryd.ntmps21
          go_wp2_with (first
            | (go_at_call 41; (with_reducible refine (cA.out _ HW.out).mono ?_); rintro e W1 ⟨⟨N, rfl⟩, hb1⟩; have HB1 := Lib.hid hb1; clear hb1)
            | (go_at_call 39; (with_reducible refine (c26.out _).mono ?_); rintro e W0 ⟨rfl, rfl⟩)
            | (go_at_call 43; (with_reducible refine (cL.out _ (HW.out.on HB1.out)).mono ?_); rintro e W2 ⟨rfl, hb2⟩; have HB2 := Lib.hid (HB1.out.trans (hb2.mono HB1.out.size)); clear hb2)
            | (go_at_call 44; (with_reducible refine (cV.out _).mono ?_); rintro e W3 ⟨rfl, rfl⟩)
            | (go_at_call 39; (with_reducible refine (cIn.out _).mono ?_); rintro e W0 ⟨rfl, rfl⟩)
            | (go_at_call 40; (with_reducible refine (cM.out _ (HW.out.on HB2.out).pow).mono ?_); rintro e W4 ⟨rfl, hb4⟩; have HB4 := Lib.hid (HB2.out.trans (hb4.mono HB2.out.size)); clear hb4))
          go_ret2
          exact ⟨.inl ⟨hyes.out, rfl⟩, HB4.out⟩

end Go.Proofs.YtaihncbejhnceaaDoor.cnt

namespace Go.Proofs.YtaihncbejhnceaaDoor.cnt.back
open Go.RowKit Go.Proofs.YtaihncbejhnceaaDoor.base Go.Proofs.YtaihncbejhnceaaDoor.tok Go.Proofs.YtaihncbejhnceaaDoor.dim Go.Proofs.YtaihncbejhnceaaDoor.cnt
set_option linter.unusedVariables false

theorem rest_of (a : Int) (m : Nat) (hm : 0 < m) (hb : m ≤ 10000) : ∃ r : Nat, r < m ∧ (IntKind.u64.wrap a).tmod m = (r : Int) := by
  have h0 : 0 ≤ IntKind.u64.wrap a := by simp [IntKind.wrap, IntKind.bits, IntKind.signed]; omega
  generalize IntKind.u64.wrap a = v at *
  rw [Int.tmod_eq_emod_of_nonneg h0]
  have h1 := Int.emod_nonneg v (show (m : Int) ≠ 0 by omega)
  have h2 := Int.emod_lt_of_pos v (show (0 : Int) < m by omega)
  exact ⟨(v % m).toNat, by omega, by omega⟩
theorem rest_bd (n : Int) : -1000000 ≤ n.tmod 1000001 ∧ n.tmod 1000001 ≤ 1000000 := by
  have h := Int.natAbs_tmod n 1000001
  have h2 : n.natAbs % (1000001 : Int).natAbs < 1000001 := Nat.mod_lt _ (by decide)
  omega
theorem mark_len (k m : Int) (h0 : -1000000 ≤ m) (h1 : m ≤ 1000000) : (bs (markI k m)).size ≤ 1048576 := by
  rw [bs_size]
  unfold markI
  split
  · have := let_short m.toNat (by omega)
    split
    · omega
    · simp [Lib.toUpperA]; omega
  · split
    · rename_i h
      have := rom_len ⟨m.toNat, by omega⟩
      simp only at this
      split
      · omega
      · simp [Lib.toUpperA]; omega
    · have := itoa_len h0 h1
      omega
theorem good_mark (k m : Int) (hk : 2 ≤ k ∧ k ≤ 6) (h0 : -1000000 ≤ m) (h1 : m ≤ 1000000) : ∀ w, LibAt w → Calls Tryd.prog 21 #[.int .i64 k, .string (bs (markI k m))] w fun e w' => e = .returned (.tuple #[.int .i64 m, .int .i64 0]) ∧ Below w.heap.size w w' := fun w hw => by
  have hb : backI k (bs (markI k m)).data.toList = m := back_mark k m hk h0 h1
  have hg : goodI k (bs (markI k m)) := by
    unfold goodI
    rw [hb]
    exact ⟨h0, h1, rfl⟩
  refine (Back_ct k hk (bs (markI k m)) (mark_len k m h0 h1) w hw).mono fun e w' ⟨he, hB⟩ => ?_
  rcases he with ⟨-, he⟩ | ⟨hn, -⟩
  · rw [hb] at he
    exact ⟨he, hB⟩
  · exact absurd hg hn

set_option maxRecDepth 100000 in
set_option maxHeartbeats 4000000 in
theorem law_ct (kind n : Int) (s : ByteArray) (w : World) (hs : s.size ≤ 1048576) (hT : LibAt w) :
    Calls Tryd.prog 7 #[.int .i64 kind, .int .i64 n, .string s] w fun e w' => e = .returned (.bool true) ∧ Below w.heap.size w w' := by
  obtain ⟨k, hk, q3⟩ := rest_of kind 5 (by decide) (by decide)
  replace q3 : (IntKind.u64.wrap kind).tmod 5 = (k : Int) := q3
  have w3 : IntKind.u64.wrap (k : Int) = k := by simp [IntKind.wrap, IntKind.bits, IntKind.signed]; omega
  obtain ⟨m, hm⟩ : ∃ m, n.tmod 1000001 = m := ⟨_, rfl⟩
  have hmb := rest_bd n
  rw [hm] at hmb
  obtain ⟨hm0, hm1⟩ := hmb
  have w1 : IntKind.i64.wrap m = m := by simp [IntKind.wrap, IntKind.bits, IntKind.signed]; omega
  have hk2 : 2 ≤ (2 + (k : Int)) ∧ (2 + (k : Int)) ≤ 6 := by omega
  have HT := Lib.hid hT
  have cM := Lib.hid (Mark_I (2 + (k : Int)) m hk2 hm0 hm1)
  have cB := Lib.hid (good_mark (2 + (k : Int)) m hk2 hm0 hm1)
  have cS := Back_ct (2 + (k : Int)) hk2 s hs
  have hkz : (k : Int) ≤ 4 := by omega
  by_cases hg : goodI (2 + (k : Int)) s
  · have cS2 : ∀ w, LibAt w → Calls Tryd.prog 21 #[.int .i64 (2 + (k : Int)), .string s] w fun e w' => e = .returned (.tuple #[.int .i64 (backI (2 + (k : Int)) s.data.toList), .int .i64 0]) ∧ Below w.heap.size w w' := fun w hw => (cS w hw).mono fun e w' ⟨he, hB⟩ => ⟨he.elim (fun h => h.2) (fun h => absurd hg h.1), hB⟩
    obtain ⟨g0, g1, g2⟩ := hg
    have cN := Lib.hid (Mark_I (2 + (k : Int)) (backI (2 + (k : Int)) s.data.toList) hk2 g0 g1)
    rw [g2] at cN
    have hee : ((bs s.data.toList).toList == s.toList) = true := by rw [bs_toList, Lib.toList_data]; simp
    generalize bs s.data.toList = S2 at *
    generalize backI (2 + (k : Int)) s.data.toList = y at *
    replace cS2 := Lib.hid cS2
    clear cS g2 hT hk hs g0 g1 hk2
    generalize bs (markI (2 + (k : Int)) m) = M at *
    clear hm0 hm1
    go_enter Tryd.func7, Tryd.ntmps7
    go_wp2_with ((go_at_call 19; (with_reducible refine (fourth_ct _ HT.out.pow).mono ?_); rintro e W1 ⟨rfl, hb1⟩; have HB1 := Lib.hid hb1; clear hb1))
    go_wp2_with (first
      | (go_at_call 20; (with_reducible refine (cM.out _ (HT.out.on HB1.out).pow).mono ?_); rintro e W2 ⟨rfl, hb2⟩; have HB2 := Lib.hid (HB1.out.trans (hb2.mono HB1.out.size)); clear hb2 cM)
      | (go_at_call 21; (with_reducible refine (cB.out _ (HT.out.on HB2.out)).mono ?_); rintro e W3 ⟨rfl, hb3⟩; have HB3 := Lib.hid (HB2.out.trans (hb3.mono HB2.out.size)); clear hb3 cB)
      | (go_at_call 21; (with_reducible refine (cS2.out _ (HT.out.on HB3.out)).mono ?_); rintro e W4 ⟨rfl, hb4⟩; have HB4 := Lib.hid (HB3.out.trans (hb4.mono HB3.out.size)); clear hb4 cS2)
      | (go_at_call 20; (with_reducible refine (cN.out _ (HT.out.on HB4.out).pow).mono ?_); rintro e W5 ⟨rfl, hb5⟩; have HB5 := Lib.hid (HB4.out.trans (hb5.mono HB4.out.size)); clear hb5 cN))
    go_ret
    exact ⟨rfl, HB5.out⟩
  · have cS2 : ∀ w, LibAt w → Calls Tryd.prog 21 #[.int .i64 (2 + (k : Int)), .string s] w fun e w' => e = .returned (.tuple #[.int .i64 0, .int .i64 5]) ∧ Below w.heap.size w w' := fun w hw => (cS w hw).mono fun e w' ⟨he, hB⟩ => ⟨he.elim (fun h => absurd h.1 hg) (fun h => h.2), hB⟩
    have cN := Lib.hid (Mark_I (2 + (k : Int)) 0 hk2 (by decide) (by decide))
    generalize bs (markI (2 + (k : Int)) 0) = S2 at *
    replace cS2 := Lib.hid cS2
    clear cS hT hk hs hg hk2
    generalize bs (markI (2 + (k : Int)) m) = M at *
    clear hm0 hm1
    go_enter Tryd.func7, Tryd.ntmps7
    go_wp2_with ((go_at_call 19; (with_reducible refine (fourth_ct _ HT.out.pow).mono ?_); rintro e W1 ⟨rfl, hb1⟩; have HB1 := Lib.hid hb1; clear hb1))
    go_wp2_with (first
      | (go_at_call 20; (with_reducible refine (cM.out _ (HT.out.on HB1.out).pow).mono ?_); rintro e W2 ⟨rfl, hb2⟩; have HB2 := Lib.hid (HB1.out.trans (hb2.mono HB1.out.size)); clear hb2 cM)
      | (go_at_call 21; (with_reducible refine (cB.out _ (HT.out.on HB2.out)).mono ?_); rintro e W3 ⟨rfl, hb3⟩; have HB3 := Lib.hid (HB2.out.trans (hb3.mono HB2.out.size)); clear hb3 cB)
      | (go_at_call 21; (with_reducible refine (cS2.out _ (HT.out.on HB3.out)).mono ?_); rintro e W4 ⟨rfl, hb4⟩; have HB4 := Lib.hid (HB3.out.trans (hb4.mono HB3.out.size)); clear hb4 cS2)
      | (go_at_call 20; (with_reducible refine (cN.out _ (HT.out.on HB4.out).pow).mono ?_); rintro e W5 ⟨rfl, hb5⟩; have HB5 := Lib.hid (HB4.out.trans (hb5.mono HB4.out.size)); clear hb5 cN))
    go_ret
    exact ⟨rfl, HB5.out⟩

end Go.Proofs.YtaihncbejhnceaaDoor.cnt.back

namespace Go.Proofs.YtaihncbejhnceaaDoor.base
open Go.RowKit Go.ChangeShapes Go.WideShapes Go.ChangeAt
set_option linter.unusedVariables false

end Go.Proofs.YtaihncbejhnceaaDoor.base
namespace Go.Proofs.YtaihncbejhnceaaDoor.dim
open Go.RowKit Go.Proofs.YtaihncbejhnceaaDoor.base Go.ChangeShapes Go.WideShapes Go.ChangeAt
set_option maxRecDepth 100000 in
theorem pow_of {w : World} {l : List (String × DataW Unit)} (h : laidMet Tryd.prog l w) (hm : ("internal/strconv.uint64pow10", Rows.laid_internal_strconv_uint64pow10) ∈ l) : PowAt w := by
  have ht := tab_of_reads (P := Tryd.prog) (g := 4) (k := .u64) (zs := Lib.pow10Tab) (by kernel_rfl) (by kernel_rfl) Tryd.underlying193 Tryd.underlying98 (by kernel_rfl) (by kernel_rfl) (Lib.laidMet.reads h hm)
  refine ⟨?_, ht⟩
  have hc := ht.cell (g := 4) (by kernel_rfl) 0 (by decide)
  exact World.block_lt_of_cell? w _ hc
end Go.Proofs.YtaihncbejhnceaaDoor.dim

namespace Go.Proofs.YtaihncbejhnceaaDoor.cnt
open Go.RowKit Go.Proofs.YtaihncbejhnceaaDoor.base Go.ChangeShapes Go.WideShapes Go.ChangeAt
set_option linter.unusedVariables false

theorem star_err : "*" ++ "errors.errorString" = "*errors.errorString" := by decide
theorem row_err (u : TypeId) (h : Tryd.prog.typeName? 3 u = some "*errors.errorString") : u = 213 :=
  typeName_ptr_named (nm := "errors.errorString") (by rw [star_err]; kernel_rfl) (by kernel_rfl) (by decide) u (by rw [star_err]; exact h)
set_option maxRecDepth 100000 in
theorem err_of {n : String} {text : List UInt8} {g : Nat} {r : List (String × DataW Unit)} {w : World} (hg : Tryd.prog.globalNamed n = some g) (ht : (Tryd.prog.globals[g]?).map (·.type) = some 80)
    (h : laidMet Tryd.prog ((n, .iface "*errors.errorString" (.ptr (.agg [.lit (.string text)]))) :: r) w) : ∃ tp p, w.cell? ⟨g, 0, none⟩ = some (.iface tp p) := by
  obtain ⟨a0, s0, hv0, -, -, -⟩ := laid_sentinel h hg ht Tryd.underlying80 row_err Tryd.underlying213 Tryd.underlying215 rfl rfl Tryd.underlying9 (by kernel_rfl) (by kernel_rfl)
  exact ⟨_, _, by have h0 := World.var?_cell hg hv0 0; simpa using h0⟩
theorem case_of {w : World} {l : List (String × DataW Unit)} (h : laidMet Tryd.prog l w) (hm : ("unicode.CaseRanges", Rows.laid_unicode_CaseRanges) ∈ l) : Lib.CaseVar 3 Lib.caseA w := by
  have hr := Lib.laidMet.reads h hm
  rw [show Rows.laid_unicode_CaseRanges = Lib.caseData from Pinned.caseRanges_eq] at hr
  exact caseVar_of_reads (ρ := Tryd.lays159_ren) { Tryd.lays159 with } (by kernel_rfl) ⟨by kernel_rfl, by kernel_rfl, by kernel_rfl, by kernel_rfl, by kernel_rfl, by kernel_rfl⟩ hr
theorem u8_of {w : World} {l : List (String × DataW Unit)} (h : laidMet Tryd.prog l w) (h1 : ("unicode/utf8.first", Rows.laid_unicode_utf8_first) ∈ l) (h2 : ("unicode/utf8.acceptRanges", Rows.laid_unicode_utf8_acceptRanges) ∈ l) : Lib.Utf8Tabs 8 9 w := by
  have hr := Lib.laidMet.reads h h1
  rw [show Rows.laid_unicode_utf8_first = Lib.firstData from Pinned.utf8First_eq] at hr
  have hr2 := Lib.laidMet.reads h h2
  rw [show (Rows.laid_unicode_utf8_acceptRanges : DataW Unit) = Lib.acceptData by kernel_rfl] at hr2
  exact utf8Tabs_of_reads (ρ := Tryd.lays159_ren) { Tryd.lays159 with } ⟨by kernel_rfl, by kernel_rfl, by kernel_rfl, by kernel_rfl, by kernel_rfl, by kernel_rfl, by kernel_rfl⟩ hr hr2

end Go.Proofs.YtaihncbejhnceaaDoor.cnt

namespace Go.Proofs.YtaihncbejhnceaaDoor.base
open Go.RowKit Go.ChangeShapes Go.WideShapes Go.ChangeAt
set_option linter.unusedVariables false

theorem bulk_part {H : Type} {d : DataW H} {l : List (DataW H)} (h : d ∈ l) : Rows.uptoBulk d ≤ Rows.uptoBulkAll l := by
  induction l with
  | nil => cases h
  | cons x r ih =>
    simp only [Rows.uptoBulkAll]
    rcases List.mem_cons.1 h with e | e
    · subst e; omega
    · have := ih e; omega
theorem bulk_all {H : Type} {l : List (DataW H)} (hk : Rows.uptoSmall H l = true) : Rows.uptoBulkAll l ≤ 1048576 := of_decide_eq_true hk
theorem upto_string {H : Type} {l : List (DataW H)} {s : ByteArray} (hk : Rows.uptoSmall H l = true) (h : DataW.lit (.string s.data.toList) ∈ l) : s.size ≤ 1048576 := by
  have h1 := bulk_part h
  have h2 := bulk_all hk
  simp only [Rows.uptoBulk] at h1
  have h3 : s.data.toList.length = s.size := Array.length_toList
  omega

section
variable {H : Type} {enc : TypeId × Value → H}
/-- an input that fits, at a world that is laid out -/
theorem witness_rowL {C : Checked} {os : Os} {f : FuncId} {fn : Func} {s : OpenSpec} {conds : List PathCond} {apart : Bool} {laid : List (String × DataW Unit)} (modest : Bool) (w0 : World) (args : Array Value) (hos : w0.os = os)
    (hsh : (w0.forCall (fun _ _ => 0) ⟨#[], args, []⟩).Shaped C.prog)
    (hok : Input.okWideB C.prog (w0.forCall (fun _ _ => 0) ⟨#[], args, []⟩) f ⟨#[], args, []⟩ = true)
    (hrow : s.preRow enc C.prog fn conds apart laid (w0.forCall (fun _ _ => 0) ⟨#[], args, []⟩).memory args) :
    ∃ (w : World) (tape : Tape) (i : Input), w.os = os ∧ (w.forCall tape i).Shaped C.prog ∧ i.vars = [] ∧ Input.okWide C.prog (w.forCall tape i) .any w.heap.size f i ∧
      s.preRow enc C.prog fn conds apart laid (w.forCall tape i).memory i.args ∧ ({ modest := modest } : Assume).holds C.prog (lone (Frame.enter C.prog f i.args .normal) [] (w.forCall tape i)) :=
  ⟨w0, fun _ _ => 0, ⟨#[], args, []⟩, hos, hsh, (Input.okWide_of_okWideB (base := 0) hok).1, (Input.okWide_of_okWideB hok).2, hrow, by
    simp only [Assume.holds]
    exact ⟨by simp, by simp, fun _ => Modest.zero, by simp, by simp⟩⟩
end

end Go.Proofs.YtaihncbejhnceaaDoor.base
