/- Contracts and plain law, a bundle: DimT DimT1 DimT2. -/
import Derived.Lib.LaidTab
import Derived.Test.YtbiahfjjngkfgaaDoorBC2
import Derived.Test.YtbiahfjjngkfgaaDoorShelf

namespace Go.Proofs.YtbiahfjjngkfgaaDoor.dim
open Go.RowKit Go.Proofs.YtbiahfjjngkfgaaDoor.base Go.Proofs.YtbiahfjjngkfgaaDoor.tok
set_option linter.unusedVariables false

theorem grow_below (w : World) (k : Nat) (os : Array Obj) : Below w.heap.size w (Go.Sort.grow (w.drewN k) os) := by
  refine ⟨rfl, rfl, rfl, ?_, fun i hi => ?_⟩
  · simp [Go.Sort.grow]
  · simp only [Go.Sort.grow]
    rw [Array.getElem?_append_left (by simpa using hi)]
    rfl

/-- the table of powers is there -/
def PowAt (w : World) : Prop := 2 < w.heap.size ∧ Lib.TabIs Tryd.prog w "internal/strconv.uint64pow10" .u64 Lib.pow10Tab

theorem PowAt.on {w w' : World} (h : PowAt w) (hb : Below w.heap.size w w') : PowAt w' := by
  refine ⟨Nat.lt_of_lt_of_le h.1 hb.size, ?_⟩
  have hg : Tryd.prog.globalNamed "internal/strconv.uint64pow10" = some 2 := by kernel_rfl
  have h2 := h.2
  unfold Lib.TabIs World.var? at h2 ⊢
  rw [hg] at h2 ⊢
  simp only [Option.bind_some] at h2 ⊢
  rw [hb.block _ h.1]
  exact h2

theorem itoa_ct (n : Int) (h0 : -9223372036854775808 ≤ n) (h1 : n ≤ 9223372036854775807) (w : World) (hT : PowAt w) :
    Calls Tryd.prog 25 #[.int .i64 n] w fun e w' => e = .returned (.string (bs (Lib.itoa n))) ∧ Below w.heap.size w w' :=
  (Tryd.strconv_Itoa n h0 h1 w hT.2).mono fun e w' ⟨he, k, os, hw⟩ => ⟨he, by rw [hw]; exact grow_below w k os⟩

theorem trimR_ct (s : ByteArray) (w : World) (hs : s.size ≤ 9223372036854775807) :
    Calls Tryd.prog 26 #[.string s, .string ⟨#[48]⟩] w fun e w' => e = .returned (.string (bs (Lib.trimRightB s.data.toList 48))) ∧ w' = w :=
  Tryd.strings_TrimRight_one s 48 (by decide) w hs


/-- what dim.Text tells -/
def textD (m : Nat) (neg : Bool) (u : Bs) : Bs := (if neg then [45] else []) ++ (plainP m ++ u)

end Go.Proofs.YtbiahfjjngkfgaaDoor.dim

namespace Go.Proofs.YtbiahfjjngkfgaaDoor.dim
open Go.RowKit Go.Proofs.YtbiahfjjngkfgaaDoor.base Go.Proofs.YtbiahfjjngkfgaaDoor.tok
set_option linter.unusedVariables false

theorem three_len (r : Nat) : (bs (Lib.decDigits (1000 + r % 1000))).size = 4 := by
  rw [dec_three (by omega)]
  rfl
theorem three_drop (r : Nat) : Lib.trimRightB ((bs (Lib.decDigits (1000 + r % 1000))).extract 1 4).data.toList 48 = fracP (r % 1000) := by
  rw [dec_three (by omega)]
  rfl
theorem dec_len (u : Nat) (h : u ≤ 1000000000) : (Lib.decDigits u).length ≤ 10 := by
  have key : ∀ (k u : Nat), u < 10 ^ (k + 1) → (Lib.decDigits u).length ≤ k + 1 := by
    intro k
    induction k with
    | zero =>
      intro u hu
      rw [Lib.decDigits_one (by omega)]
      simp
    | succ k ih =>
      intro u hu
      by_cases h10 : u < 10
      · rw [Lib.decDigits_one h10]; simp
      · rw [dec_step h10, List.length_append]
        have := ih (u / 10) (by rw [Nat.pow_succ] at hu; omega)
        simp
        omega
  exact key 9 u (by omega)

theorem frac_len {r : Nat} (h : r < 1000) : (fracP r).length ≤ 3 := by
  unfold fracP Lib.trimRightB
  rw [List.length_reverse]
  exact (List.dropWhile_suffix _).length_le

set_option maxRecDepth 100000 in
set_option maxHeartbeats 4000000 in
theorem text_plain (m : Nat) (hm : m ≤ 1000000000) (u : Bs) (hu : u.length ≤ 3) (w : World) (hT : PowAt w) :
    Calls Tryd.prog 14 #[.agg #[.int .i64 m, .string (bs u)]] w fun e w' => e = .returned (.string (bs (plainP m ++ u))) ∧ Below w.heap.size w w' := by
  have q1 : (m : Int).tdiv 1000 = (m : Int) / 1000 := by rw [Int.tdiv_eq_ediv_of_nonneg (by omega)]
  have q2 : (m : Int).tmod 1000 = (m : Int) % 1000 := by rw [Int.tmod_eq_emod_of_nonneg (by omega)]
  have hl := three_len m
  have hd := three_drop m
  have hW := dec_len (m / 1000) (by omega)
  have hF := frac_len (r := m % 1000) (by omega)
  have cI1 : ∀ w, PowAt w → Calls Tryd.prog 25 #[.int .i64 ((m : Int) / 1000)] w fun e w' => e = .returned (.string (bs (Lib.decDigits (m / 1000)))) ∧ Below w.heap.size w w' := fun w h => by
    rw [show (m : Int) / 1000 = ((m / 1000 : Nat) : Int) from by omega]
    have := itoa_ct ((m / 1000 : Nat) : Int) (by omega) (by omega) w h
    rwa [show Lib.itoa ((m / 1000 : Nat) : Int) = Lib.decDigits (m / 1000) from by unfold Lib.itoa; rw [if_neg (by omega)]; rfl] at this
  have cI2 : ∀ w, PowAt w → Calls Tryd.prog 25 #[.int .i64 (1000 + (m : Int) % 1000)] w fun e w' => e = .returned (.string (bs (Lib.decDigits (1000 + m % 1000)))) ∧ Below w.heap.size w w' := fun w h => by
    rw [show (m : Int) % 1000 = ((m % 1000 : Nat) : Int) from by omega]
    have := itoa_ct (1000 + ((m % 1000 : Nat) : Int)) (by omega) (by omega) w h
    rwa [show Lib.itoa (1000 + ((m % 1000 : Nat) : Int)) = Lib.decDigits (1000 + m % 1000) from by unfold Lib.itoa; rw [if_neg (by omega)]; congr 1] at this
  have cR : ∀ w, Calls Tryd.prog 26 #[.string ((bs (Lib.decDigits (1000 + m % 1000))).extract 1 4), .string ⟨#[48]⟩] w fun e w' => e = .returned (.string (bs (fracP (m % 1000)))) ∧ w' = w := fun w => by
    have := trimR_ct ((bs (Lib.decDigits (1000 + m % 1000))).extract 1 4) w (by simp only [ByteArray.size_extract]; omega)
    rwa [hd] at this
  have m1 : max (m : Int) (-1000000000) = m := by omega
  have m2 : min (m : Int) 1000000000 = m := by omega
  have lt : decide ((m : Int) < 0) = false := decide_eq_false (by omega)
  have r1 := IntWalk.i64_in ((m : Int) / 1000) (by omega)
  have r2 := IntWalk.i64_in ((m : Int) % 1000) (by omega)
  have r3 := IntWalk.i64_in (1000 + (m : Int) % 1000) (by omega)
  have hZ : ByteArray.empty ++ bs (Lib.decDigits (m / 1000)) = bs (Lib.decDigits (m / 1000)) := by simp [bs]
  replace cI1 := Lib.hid cI1
  replace cI2 := Lib.hid cI2
  replace cR := Lib.hid cR
  replace hd := Lib.hid hd
  have hP : plainP m = Lib.decDigits (m / 1000) ++ pointP (fracP (m % 1000)) := rfl
  rw [hP]
  clear hP
  generalize hWd : Lib.decDigits (m / 1000) = Wd at *
  generalize hDd : Lib.decDigits (1000 + m % 1000) = D at *
  generalize hFd : fracP (m % 1000) = fr at *
  replace hWd := Lib.hid hWd
  replace hDd := Lib.hid hDd
  replace hFd := Lib.hid hFd
  have y1 : (bs Wd).size = Wd.length := rfl
  have y2 : (bs fr).size = fr.length := rfl
  have y3 : (bs u).size = u.length := rfl
  have z1 : ¬ 9223372036854775807 < 1 + (bs fr).size := by omega
  have z2 : ¬ 9223372036854775807 < (bs Wd).size + (1 + (bs fr).size) := by omega
  have z3 : ¬ 9223372036854775807 < (bs Wd).size + (1 + (bs fr).size) + (bs u).size := by omega
  have z4 : ¬ 9223372036854775807 < (bs Wd).size + (bs u).size := by omega
  have z5 : ¬ 9223372036854775807 < (bs Wd).size := by omega
  clear y1 y2 y3
  by_cases hfr : fr = []
  · have t1 : (bs fr).toList = [] := by rw [bs_toList, hfr]
    have hend := Lib.hid (show (⟨#[]⟩ : ByteArray) ++ bs Wd ++ bs u = bs (Wd ++ pointP fr ++ u) by unfold pointP; rw [if_pos hfr]; exact ByteArray.ext (by simp [bs, ByteArray.data_append]))
    clear hfr
    go_enter Tryd.func14, Tryd.ntmps14
    go_wp2_with (first
      | (go_at_call 25; (with_reducible refine (cI1.out _ (hT.on ((Below.refl w.heap.size w).alloc (Nat.le_refl _) _))).mono ?_); rintro e W1 ⟨rfl, hb1⟩; have HB1 := Lib.hid (((Below.refl w.heap.size w).alloc (Nat.le_refl _) _).trans (hb1.mono (by simp))); have hblk := (Blk.new (w := w) (t := 24) (cs := #[.int .i64 m, .string (bs u)]) rfl).below hb1 (by simp); replace hblk := Lib.hid hblk; clear hb1)
      | (go_at_call 25; (with_reducible refine (cI2.out _ (hT.on HB1.out)).mono ?_); rintro e W2 ⟨rfl, hb2⟩; have HB2 := Lib.hid (HB1.out.trans (hb2.mono HB1.out.size)); have hblk2 := hblk.out.below hb2 hblk.out.lt; have p2 := hblk2.cell; clear hb2)
      | (go_at_call 26; (with_reducible refine (cR.out _).mono ?_); rintro e W3 ⟨rfl, rfl⟩))
    go_ret
    exact ⟨by rw [← hend.out]; rfl, HB2.out⟩
  · have t1 : (bs fr).toList.isEmpty = false := by rw [bs_toList]; simpa using hfr
    have hend := Lib.hid (show (⟨#[]⟩ : ByteArray) ++ bs Wd ++ (⟨#[46]⟩ ++ bs fr) ++ bs u = bs (Wd ++ pointP fr ++ u) by unfold pointP; rw [if_neg hfr]; exact ByteArray.ext (by simp [bs, ByteArray.data_append]))
    clear hfr
    go_enter Tryd.func14, Tryd.ntmps14
    go_wp2_with (first
      | (go_at_call 25; (with_reducible refine (cI1.out _ (hT.on ((Below.refl w.heap.size w).alloc (Nat.le_refl _) _))).mono ?_); rintro e W1 ⟨rfl, hb1⟩; have HB1 := Lib.hid (((Below.refl w.heap.size w).alloc (Nat.le_refl _) _).trans (hb1.mono (by simp))); have hblk := (Blk.new (w := w) (t := 24) (cs := #[.int .i64 m, .string (bs u)]) rfl).below hb1 (by simp); replace hblk := Lib.hid hblk; clear hb1)
      | (go_at_call 25; (with_reducible refine (cI2.out _ (hT.on HB1.out)).mono ?_); rintro e W2 ⟨rfl, hb2⟩; have HB2 := Lib.hid (HB1.out.trans (hb2.mono HB1.out.size)); have hblk2 := hblk.out.below hb2 hblk.out.lt; have p2 := hblk2.cell; clear hb2)
      | (go_at_call 26; (with_reducible refine (cR.out _).mono ?_); rintro e W3 ⟨rfl, rfl⟩))
    go_ret
    exact ⟨by rw [← hend.out]; rfl, HB2.out⟩

end Go.Proofs.YtbiahfjjngkfgaaDoor.dim

namespace Go.Proofs.YtbiahfjjngkfgaaDoor.dim
open Go.RowKit Go.Proofs.YtbiahfjjngkfgaaDoor.base Go.Proofs.YtbiahfjjngkfgaaDoor.tok
set_option linter.unusedVariables false

set_option maxRecDepth 100000 in
set_option maxHeartbeats 4000000 in
theorem text_minus (m : Nat) (hm : m ≤ 1000000000) (h0 : 1 ≤ m) (u : Bs) (hu : u.length ≤ 3) (w : World) (hT : PowAt w) :
    Calls Tryd.prog 14 #[.agg #[.int .i64 (-(m : Int)), .string (bs u)]] w fun e w' => e = .returned (.string (bs ([45] ++ (plainP m ++ u)))) ∧ Below w.heap.size w w' := by
  have q1 : (m : Int).tdiv 1000 = (m : Int) / 1000 := by rw [Int.tdiv_eq_ediv_of_nonneg (by omega)]
  have q2 : (m : Int).tmod 1000 = (m : Int) % 1000 := by rw [Int.tmod_eq_emod_of_nonneg (by omega)]
  have hl := three_len m
  have hd := three_drop m
  have hW := dec_len (m / 1000) (by omega)
  have hF := frac_len (r := m % 1000) (by omega)
  have cI1 : ∀ w, PowAt w → Calls Tryd.prog 25 #[.int .i64 ((m : Int) / 1000)] w fun e w' => e = .returned (.string (bs (Lib.decDigits (m / 1000)))) ∧ Below w.heap.size w w' := fun w h => by
    rw [show (m : Int) / 1000 = ((m / 1000 : Nat) : Int) from by omega]
    have := itoa_ct ((m / 1000 : Nat) : Int) (by omega) (by omega) w h
    rwa [show Lib.itoa ((m / 1000 : Nat) : Int) = Lib.decDigits (m / 1000) from by unfold Lib.itoa; rw [if_neg (by omega)]; rfl] at this
  have cI2 : ∀ w, PowAt w → Calls Tryd.prog 25 #[.int .i64 (1000 + (m : Int) % 1000)] w fun e w' => e = .returned (.string (bs (Lib.decDigits (1000 + m % 1000)))) ∧ Below w.heap.size w w' := fun w h => by
    rw [show (m : Int) % 1000 = ((m % 1000 : Nat) : Int) from by omega]
    have := itoa_ct (1000 + ((m % 1000 : Nat) : Int)) (by omega) (by omega) w h
    rwa [show Lib.itoa (1000 + ((m % 1000 : Nat) : Int)) = Lib.decDigits (1000 + m % 1000) from by unfold Lib.itoa; rw [if_neg (by omega)]; congr 1] at this
  have cR : ∀ w, Calls Tryd.prog 26 #[.string ((bs (Lib.decDigits (1000 + m % 1000))).extract 1 4), .string ⟨#[48]⟩] w fun e w' => e = .returned (.string (bs (fracP (m % 1000)))) ∧ w' = w := fun w => by
    have := trimR_ct ((bs (Lib.decDigits (1000 + m % 1000))).extract 1 4) w (by simp only [ByteArray.size_extract]; omega)
    rwa [hd] at this
  have m1 : max (-(m : Int)) (-1000000000) = -m := by omega
  have m2 : min (-(m : Int)) 1000000000 = -m := by omega
  have m3 : IntKind.i64.wrap (- -(m : Int)) = m := by rw [Int.neg_neg]; exact IntWalk.i64_in _ (by omega)
  have lt : decide (-(m : Int) < 0) = true := decide_eq_true (by omega)
  have r1 := IntWalk.i64_in ((m : Int) / 1000) (by omega)
  have r2 := IntWalk.i64_in ((m : Int) % 1000) (by omega)
  have r3 := IntWalk.i64_in (1000 + (m : Int) % 1000) (by omega)
  have hZ : ByteArray.empty ++ bs (Lib.decDigits (m / 1000)) = bs (Lib.decDigits (m / 1000)) := by simp [bs]
  replace cI1 := Lib.hid cI1
  replace cI2 := Lib.hid cI2
  replace cR := Lib.hid cR
  replace hd := Lib.hid hd
  have hP : plainP m = Lib.decDigits (m / 1000) ++ pointP (fracP (m % 1000)) := rfl
  rw [hP]
  clear hP
  generalize hWd : Lib.decDigits (m / 1000) = Wd at *
  generalize hDd : Lib.decDigits (1000 + m % 1000) = D at *
  generalize hFd : fracP (m % 1000) = fr at *
  replace hWd := Lib.hid hWd
  replace hDd := Lib.hid hDd
  replace hFd := Lib.hid hFd
  have y1 : (bs Wd).size = Wd.length := rfl
  have y2 : (bs fr).size = fr.length := rfl
  have y3 : (bs u).size = u.length := rfl
  have z1 : ¬ 9223372036854775807 < 1 + (bs fr).size := by omega
  have z2 : ¬ 9223372036854775807 < 1 + (bs Wd).size + (1 + (bs fr).size) := by omega
  have z3 : ¬ 9223372036854775807 < 1 + (bs Wd).size + (1 + (bs fr).size) + (bs u).size := by omega
  have z4 : ¬ 9223372036854775807 < 1 + (bs Wd).size + (bs u).size := by omega
  have z5 : ¬ 9223372036854775807 < 1 + (bs Wd).size := by omega
  clear y1 y2 y3
  by_cases hfr : fr = []
  · have t1 : (bs fr).toList = [] := by rw [bs_toList, hfr]
    have hend := Lib.hid (show (⟨#[45]⟩ : ByteArray) ++ bs Wd ++ bs u = bs (45 :: (Wd ++ pointP fr ++ u)) by unfold pointP; rw [if_pos hfr]; exact ByteArray.ext (by simp [bs, ByteArray.data_append]))
    clear hfr
    go_enter Tryd.func14, Tryd.ntmps14
    go_wp2_with (first
      | (go_at_call 25; (with_reducible refine (cI1.out _ (hT.on ((Below.refl w.heap.size w).alloc (Nat.le_refl _) _))).mono ?_); rintro e W1 ⟨rfl, hb1⟩; have HB1 := Lib.hid (((Below.refl w.heap.size w).alloc (Nat.le_refl _) _).trans (hb1.mono (by simp))); have hblk := (Blk.new (w := w) (t := 24) (cs := #[.int .i64 (-(m : Int)), .string (bs u)]) rfl).below hb1 (by simp); replace hblk := Lib.hid hblk; clear hb1)
      | (go_at_call 25; (with_reducible refine (cI2.out _ (hT.on HB1.out)).mono ?_); rintro e W2 ⟨rfl, hb2⟩; have HB2 := Lib.hid (HB1.out.trans (hb2.mono HB1.out.size)); have hblk2 := hblk.out.below hb2 hblk.out.lt; have p2 := hblk2.cell; clear hb2)
      | (go_at_call 26; (with_reducible refine (cR.out _).mono ?_); rintro e W3 ⟨rfl, rfl⟩))
    go_ret
    exact ⟨by rw [← hend.out]; rfl, HB2.out⟩
  · have t1 : (bs fr).toList.isEmpty = false := by rw [bs_toList]; simpa using hfr
    have hend := Lib.hid (show (⟨#[45]⟩ : ByteArray) ++ bs Wd ++ (⟨#[46]⟩ ++ bs fr) ++ bs u = bs (45 :: (Wd ++ pointP fr ++ u)) by unfold pointP; rw [if_neg hfr]; exact ByteArray.ext (by simp [bs, ByteArray.data_append]))
    clear hfr
    go_enter Tryd.func14, Tryd.ntmps14
    go_wp2_with (first
      | (go_at_call 25; (with_reducible refine (cI1.out _ (hT.on ((Below.refl w.heap.size w).alloc (Nat.le_refl _) _))).mono ?_); rintro e W1 ⟨rfl, hb1⟩; have HB1 := Lib.hid (((Below.refl w.heap.size w).alloc (Nat.le_refl _) _).trans (hb1.mono (by simp))); have hblk := (Blk.new (w := w) (t := 24) (cs := #[.int .i64 (-(m : Int)), .string (bs u)]) rfl).below hb1 (by simp); replace hblk := Lib.hid hblk; clear hb1)
      | (go_at_call 25; (with_reducible refine (cI2.out _ (hT.on HB1.out)).mono ?_); rintro e W2 ⟨rfl, hb2⟩; have HB2 := Lib.hid (HB1.out.trans (hb2.mono HB1.out.size)); have hblk2 := hblk.out.below hb2 hblk.out.lt; have p2 := hblk2.cell; clear hb2)
      | (go_at_call 26; (with_reducible refine (cR.out _).mono ?_); rintro e W3 ⟨rfl, rfl⟩))
    go_ret
    exact ⟨by rw [← hend.out]; rfl, HB2.out⟩

end Go.Proofs.YtbiahfjjngkfgaaDoor.dim
