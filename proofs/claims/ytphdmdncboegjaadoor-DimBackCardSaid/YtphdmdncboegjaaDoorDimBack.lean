/- DimBack: for every number and each unit's number the call returns true, and all that was there reads as before. The package-level variables that its row lists start as the program's text lays them (the card ties them). -/
import Derived.Test.YtphdmdncboegjaaDoorDimT2
import Derived.Test.YtphdmdncboegjaaDoorLaidT
import Derived.Test.YtphdmdncboegjaaDoorDimOpen
import Derived.Test.YtphdmdncboegjaaDoorDoor
import Derived.Test.YtphdmdncboegjaaDoorTie
import Derived.Test.YtphdmdncboegjaaDoorCards
namespace Go.Proofs.YtphdmdncboegjaaDoor.dim.back
open Go.RowKit Go.Proofs.YtphdmdncboegjaaDoor.base Go.Proofs.YtphdmdncboegjaaDoor.tok Go.Proofs.YtphdmdncboegjaaDoor.dim Go.ChangeShapes Go.WideShapes Go.ChangeAt
set_option linter.unusedVariables false

/-- the number of a unit -/
theorem seven (u : Int) : ∃ r : Nat, r < 7 ∧ (IntKind.u64.wrap u).tmod 7 = (r : Int) := by
  have h0 : 0 ≤ IntKind.u64.wrap u := by simp [IntKind.wrap, IntKind.bits, IntKind.signed]; omega
  generalize IntKind.u64.wrap u = v at *
  rw [Int.tmod_eq_emod_of_nonneg h0]
  exact ⟨(v % 7).toNat, by omega, by omega⟩
theorem clipN (n : Int) : ∃ (m : Nat), m ≤ 1000000000 ∧ (n.tmod 1000000001 = (m : Int) ∨ (1 ≤ m ∧ n.tmod 1000000001 = -(m : Int))) := by
  have h1 := Int.tmod_lt_of_pos n (show (0 : Int) < 1000000001 by decide)
  have h2 : -1000000001 < n.tmod 1000000001 := by
    have h3 := Int.tmod_lt_of_pos (-n) (show (0 : Int) < 1000000001 by decide)
    rw [Int.neg_tmod] at h3
    omega
  generalize n.tmod 1000000001 = x at *
  by_cases h : x < 0
  · exact ⟨x.natAbs, by omega, .inr ⟨by omega, by omega⟩⟩
  · exact ⟨x.natAbs, by omega, .inl (by omega)⟩
theorem plain_len (m : Nat) (hm : m ≤ 1000000000) : (plainP m).length ≤ 14 := by
  have hW := dec_len (m / 1000) (by omega)
  have hF := frac_len (r := m % 1000) (by omega)
  unfold plainP pointP
  split <;> simp <;> omega

/-- told and read -/
theorem told (x : Int) (m : Nat) (hm : m ≤ 1000000000) (hx : x = (m : Int) ∨ (1 ≤ m ∧ x = -(m : Int))) (u : Bs) (hu : u ∈ unitsL) (hl : u.length ≤ 3) :
    ∃ s : ByteArray, (∀ w, PowAt w → Calls Tryd.prog 28 #[.agg #[.int .i64 x, .string (bs u)]] w fun e w' => e = .returned (.string s) ∧ Below w.heap.size w w') ∧
      ∀ w, MaxL w → UnitsAt w → Calls Tryd.prog 27 #[.string s] w fun e w' => e = .returned (.tuple #[.agg #[.int .i64 x, .string (bs u)], .int .i64 0]) ∧ Below w.heap.size w w' := by
  have hp := plain_len m hm
  rcases hx with rfl | ⟨h1, rfl⟩
  · have hc := text_cut [] u m hm false hu (.inl ⟨rfl, rfl⟩)
    refine ⟨bs (plainP m ++ u), fun w h => text_plain m hm u hl w h, fun w h1 h2 => ?_⟩
    exact read_ct (bs (plainP m ++ u)) (by rw [bs_size, List.length_append]; omega) (plainP m ++ u) u m hc hu w h1 h2
  · have hc := text_cut [45] u m hm true hu (.inr ⟨rfl, rfl⟩)
    refine ⟨bs (45 :: (plainP m ++ u)), fun w h => text_minus m hm h1 u hl w h, fun w h1 h2 => ?_⟩
    exact read_ct (bs (45 :: (plainP m ++ u))) (by rw [bs_size, List.length_cons, List.length_append]; omega) (45 :: (plainP m ++ u)) u _ hc hu w h1 h2

set_option maxRecDepth 100000 in
set_option maxHeartbeats 4000000 in
theorem back_0 (n u : Int) (hr : (IntKind.u64.wrap u).tmod 7 = 0) (w : World) (hm : MaxL w) (hU : UnitsAt w) (hT : PowAt w) :
    Calls Tryd.prog 10 #[.int .i64 n, .int .i64 u] w fun e w' => e = .returned (.bool true) ∧ Below w.heap.size w w' := by
  obtain ⟨m, hm1, hx⟩ := clipN n
  have q3 : IntKind.u64.wrap ((IntKind.u64.wrap u).tmod 7) = 0 := by rw [hr]; rfl
  have q4 : IntKind.i64.wrap (n.tmod 1000000001) = n.tmod 1000000001 := IntWalk.i64_in _ (by rcases hx with h | ⟨_, h⟩ <;> omega)
  obtain ⟨s, cT, cR⟩ := told (n.tmod 1000000001) m hm1 hx [] (by decide) (by decide)
  have keq := fun W => run_eq_dim (n.tmod 1000000001, []) (n.tmod 1000000001, []) W
  simp only [decide_true, show bs [] = ⟨#[]⟩ from rfl] at keq cT cR
  replace cT := Lib.hid cT
  replace cR := Lib.hid cR
  clear hx hm1
  have HM := Lib.hid hm
  have HU := Lib.hid hU
  have HT := Lib.hid hT
  clear hm hU hT
  go_enter Tryd.func10, Tryd.ntmps10
  go_wp2_with ((go_at_call 20; (with_reducible refine (half_ct _ HM.out HU.out).mono ?_); rintro e W1 ⟨rfl, hb1⟩; have HB1 := Lib.hid hb1; have hz1 := hb1.size; clear hb1))
  have HA := fun A B => Lib.hid ((HB1.out.alloc HB1.out.size A).alloc (by have := HB1.out.size; simp; omega) B)
  replace HA := Lib.hid HA
  go_wp2_with (first
    | (go_at_call 28; (with_reducible refine (cT.out _ (HT.out.on (HA.out _ _).out)).mono ?_); rintro e W2 ⟨rfl, hb2⟩; have HB2 := Lib.hid ((HA.out _ _).out.trans (hb2.mono (HA.out _ _).out.size)); have hblk2 := Lib.hid (show Blk W2 (W1.heap.size + 1) 40 #[.int .i64 (n.tmod 1000000001), .string ⟨#[]⟩] from (Blk.new (by simp)).below hb2 (by simp)); clear hb2)
    | (go_at_call 27; (with_reducible refine (cR.out _ (HM.out.on HB2.out HM.out.lt) (HU.out.on HB2.out)).mono ?_); rintro e W3 ⟨rfl, hb3⟩; have HB3 := Lib.hid (HB2.out.trans (hb3.mono HB2.out.size)); have hblk3 := hblk2.out.below hb3 hblk2.out.lt; have p3 := fun o => (hblk3.alloc o).cell; replace hblk3 := Lib.hid hblk3; clear hb3))
  go_ret
  exact ⟨rfl, HB3.out.alloc HB3.out.size _⟩

set_option maxRecDepth 100000 in
set_option maxHeartbeats 4000000 in
theorem back_1 (n u : Int) (hr : (IntKind.u64.wrap u).tmod 7 = 1) (w : World) (hm : MaxL w) (hU : UnitsAt w) (hT : PowAt w) :
    Calls Tryd.prog 10 #[.int .i64 n, .int .i64 u] w fun e w' => e = .returned (.bool true) ∧ Below w.heap.size w w' := by
  obtain ⟨m, hm1, hx⟩ := clipN n
  have q3 : IntKind.u64.wrap ((IntKind.u64.wrap u).tmod 7) = 1 := by rw [hr]; rfl
  have q4 : IntKind.i64.wrap (n.tmod 1000000001) = n.tmod 1000000001 := IntWalk.i64_in _ (by rcases hx with h | ⟨_, h⟩ <;> omega)
  obtain ⟨s, cT, cR⟩ := told (n.tmod 1000000001) m hm1 hx [112, 120] (by decide) (by decide)
  have keq := fun W => run_eq_dim (n.tmod 1000000001, [112, 120]) (n.tmod 1000000001, [112, 120]) W
  simp only [decide_true, show bs [112, 120] = ⟨#[112, 120]⟩ from rfl] at keq cT cR
  replace cT := Lib.hid cT
  replace cR := Lib.hid cR
  clear hx hm1
  have HM := Lib.hid hm
  have HU := Lib.hid hU
  have HT := Lib.hid hT
  clear hm hU hT
  go_enter Tryd.func10, Tryd.ntmps10
  go_wp2_with ((go_at_call 20; (with_reducible refine (half_ct _ HM.out HU.out).mono ?_); rintro e W1 ⟨rfl, hb1⟩; have HB1 := Lib.hid hb1; have hz1 := hb1.size; clear hb1))
  have HA := fun A B => Lib.hid ((HB1.out.alloc HB1.out.size A).alloc (by have := HB1.out.size; simp; omega) B)
  replace HA := Lib.hid HA
  go_wp2_with (first
    | (go_at_call 28; (with_reducible refine (cT.out _ (HT.out.on (HA.out _ _).out)).mono ?_); rintro e W2 ⟨rfl, hb2⟩; have HB2 := Lib.hid ((HA.out _ _).out.trans (hb2.mono (HA.out _ _).out.size)); have hblk2 := Lib.hid (show Blk W2 (W1.heap.size + 1) 40 #[.int .i64 (n.tmod 1000000001), .string ⟨#[112, 120]⟩] from (Blk.new (by simp)).below hb2 (by simp)); clear hb2)
    | (go_at_call 27; (with_reducible refine (cR.out _ (HM.out.on HB2.out HM.out.lt) (HU.out.on HB2.out)).mono ?_); rintro e W3 ⟨rfl, hb3⟩; have HB3 := Lib.hid (HB2.out.trans (hb3.mono HB2.out.size)); have hblk3 := hblk2.out.below hb3 hblk2.out.lt; have p3 := fun o => (hblk3.alloc o).cell; replace hblk3 := Lib.hid hblk3; clear hb3))
  go_ret
  exact ⟨rfl, HB3.out.alloc HB3.out.size _⟩

set_option maxRecDepth 100000 in
set_option maxHeartbeats 4000000 in
theorem back_2 (n u : Int) (hr : (IntKind.u64.wrap u).tmod 7 = 2) (w : World) (hm : MaxL w) (hU : UnitsAt w) (hT : PowAt w) :
    Calls Tryd.prog 10 #[.int .i64 n, .int .i64 u] w fun e w' => e = .returned (.bool true) ∧ Below w.heap.size w w' := by
  obtain ⟨m, hm1, hx⟩ := clipN n
  have q3 : IntKind.u64.wrap ((IntKind.u64.wrap u).tmod 7) = 2 := by rw [hr]; rfl
  have q4 : IntKind.i64.wrap (n.tmod 1000000001) = n.tmod 1000000001 := IntWalk.i64_in _ (by rcases hx with h | ⟨_, h⟩ <;> omega)
  obtain ⟨s, cT, cR⟩ := told (n.tmod 1000000001) m hm1 hx [101, 109] (by decide) (by decide)
  have keq := fun W => run_eq_dim (n.tmod 1000000001, [101, 109]) (n.tmod 1000000001, [101, 109]) W
  simp only [decide_true, show bs [101, 109] = ⟨#[101, 109]⟩ from rfl] at keq cT cR
  replace cT := Lib.hid cT
  replace cR := Lib.hid cR
  clear hx hm1
  have HM := Lib.hid hm
  have HU := Lib.hid hU
  have HT := Lib.hid hT
  clear hm hU hT
  go_enter Tryd.func10, Tryd.ntmps10
  go_wp2_with ((go_at_call 20; (with_reducible refine (half_ct _ HM.out HU.out).mono ?_); rintro e W1 ⟨rfl, hb1⟩; have HB1 := Lib.hid hb1; have hz1 := hb1.size; clear hb1))
  have HA := fun A B => Lib.hid ((HB1.out.alloc HB1.out.size A).alloc (by have := HB1.out.size; simp; omega) B)
  replace HA := Lib.hid HA
  go_wp2_with (first
    | (go_at_call 28; (with_reducible refine (cT.out _ (HT.out.on (HA.out _ _).out)).mono ?_); rintro e W2 ⟨rfl, hb2⟩; have HB2 := Lib.hid ((HA.out _ _).out.trans (hb2.mono (HA.out _ _).out.size)); have hblk2 := Lib.hid (show Blk W2 (W1.heap.size + 1) 40 #[.int .i64 (n.tmod 1000000001), .string ⟨#[101, 109]⟩] from (Blk.new (by simp)).below hb2 (by simp)); clear hb2)
    | (go_at_call 27; (with_reducible refine (cR.out _ (HM.out.on HB2.out HM.out.lt) (HU.out.on HB2.out)).mono ?_); rintro e W3 ⟨rfl, hb3⟩; have HB3 := Lib.hid (HB2.out.trans (hb3.mono HB2.out.size)); have hblk3 := hblk2.out.below hb3 hblk2.out.lt; have p3 := fun o => (hblk3.alloc o).cell; replace hblk3 := Lib.hid hblk3; clear hb3))
  go_ret
  exact ⟨rfl, HB3.out.alloc HB3.out.size _⟩

set_option maxRecDepth 100000 in
set_option maxHeartbeats 4000000 in
theorem back_3 (n u : Int) (hr : (IntKind.u64.wrap u).tmod 7 = 3) (w : World) (hm : MaxL w) (hU : UnitsAt w) (hT : PowAt w) :
    Calls Tryd.prog 10 #[.int .i64 n, .int .i64 u] w fun e w' => e = .returned (.bool true) ∧ Below w.heap.size w w' := by
  obtain ⟨m, hm1, hx⟩ := clipN n
  have q3 : IntKind.u64.wrap ((IntKind.u64.wrap u).tmod 7) = 3 := by rw [hr]; rfl
  have q4 : IntKind.i64.wrap (n.tmod 1000000001) = n.tmod 1000000001 := IntWalk.i64_in _ (by rcases hx with h | ⟨_, h⟩ <;> omega)
  obtain ⟨s, cT, cR⟩ := told (n.tmod 1000000001) m hm1 hx [114, 101, 109] (by decide) (by decide)
  have keq := fun W => run_eq_dim (n.tmod 1000000001, [114, 101, 109]) (n.tmod 1000000001, [114, 101, 109]) W
  simp only [decide_true, show bs [114, 101, 109] = ⟨#[114, 101, 109]⟩ from rfl] at keq cT cR
  replace cT := Lib.hid cT
  replace cR := Lib.hid cR
  clear hx hm1
  have HM := Lib.hid hm
  have HU := Lib.hid hU
  have HT := Lib.hid hT
  clear hm hU hT
  go_enter Tryd.func10, Tryd.ntmps10
  go_wp2_with ((go_at_call 20; (with_reducible refine (half_ct _ HM.out HU.out).mono ?_); rintro e W1 ⟨rfl, hb1⟩; have HB1 := Lib.hid hb1; have hz1 := hb1.size; clear hb1))
  have HA := fun A B => Lib.hid ((HB1.out.alloc HB1.out.size A).alloc (by have := HB1.out.size; simp; omega) B)
  replace HA := Lib.hid HA
  go_wp2_with (first
    | (go_at_call 28; (with_reducible refine (cT.out _ (HT.out.on (HA.out _ _).out)).mono ?_); rintro e W2 ⟨rfl, hb2⟩; have HB2 := Lib.hid ((HA.out _ _).out.trans (hb2.mono (HA.out _ _).out.size)); have hblk2 := Lib.hid (show Blk W2 (W1.heap.size + 1) 40 #[.int .i64 (n.tmod 1000000001), .string ⟨#[114, 101, 109]⟩] from (Blk.new (by simp)).below hb2 (by simp)); clear hb2)
    | (go_at_call 27; (with_reducible refine (cR.out _ (HM.out.on HB2.out HM.out.lt) (HU.out.on HB2.out)).mono ?_); rintro e W3 ⟨rfl, hb3⟩; have HB3 := Lib.hid (HB2.out.trans (hb3.mono HB2.out.size)); have hblk3 := hblk2.out.below hb3 hblk2.out.lt; have p3 := fun o => (hblk3.alloc o).cell; replace hblk3 := Lib.hid hblk3; clear hb3))
  go_ret
  exact ⟨rfl, HB3.out.alloc HB3.out.size _⟩

set_option maxRecDepth 100000 in
set_option maxHeartbeats 4000000 in
theorem back_4 (n u : Int) (hr : (IntKind.u64.wrap u).tmod 7 = 4) (w : World) (hm : MaxL w) (hU : UnitsAt w) (hT : PowAt w) :
    Calls Tryd.prog 10 #[.int .i64 n, .int .i64 u] w fun e w' => e = .returned (.bool true) ∧ Below w.heap.size w w' := by
  obtain ⟨m, hm1, hx⟩ := clipN n
  have q3 : IntKind.u64.wrap ((IntKind.u64.wrap u).tmod 7) = 4 := by rw [hr]; rfl
  have q4 : IntKind.i64.wrap (n.tmod 1000000001) = n.tmod 1000000001 := IntWalk.i64_in _ (by rcases hx with h | ⟨_, h⟩ <;> omega)
  obtain ⟨s, cT, cR⟩ := told (n.tmod 1000000001) m hm1 hx [118, 119] (by decide) (by decide)
  have keq := fun W => run_eq_dim (n.tmod 1000000001, [118, 119]) (n.tmod 1000000001, [118, 119]) W
  simp only [decide_true, show bs [118, 119] = ⟨#[118, 119]⟩ from rfl] at keq cT cR
  replace cT := Lib.hid cT
  replace cR := Lib.hid cR
  clear hx hm1
  have HM := Lib.hid hm
  have HU := Lib.hid hU
  have HT := Lib.hid hT
  clear hm hU hT
  go_enter Tryd.func10, Tryd.ntmps10
  go_wp2_with ((go_at_call 20; (with_reducible refine (half_ct _ HM.out HU.out).mono ?_); rintro e W1 ⟨rfl, hb1⟩; have HB1 := Lib.hid hb1; have hz1 := hb1.size; clear hb1))
  have HA := fun A B => Lib.hid ((HB1.out.alloc HB1.out.size A).alloc (by have := HB1.out.size; simp; omega) B)
  replace HA := Lib.hid HA
  go_wp2_with (first
    | (go_at_call 28; (with_reducible refine (cT.out _ (HT.out.on (HA.out _ _).out)).mono ?_); rintro e W2 ⟨rfl, hb2⟩; have HB2 := Lib.hid ((HA.out _ _).out.trans (hb2.mono (HA.out _ _).out.size)); have hblk2 := Lib.hid (show Blk W2 (W1.heap.size + 1) 40 #[.int .i64 (n.tmod 1000000001), .string ⟨#[118, 119]⟩] from (Blk.new (by simp)).below hb2 (by simp)); clear hb2)
    | (go_at_call 27; (with_reducible refine (cR.out _ (HM.out.on HB2.out HM.out.lt) (HU.out.on HB2.out)).mono ?_); rintro e W3 ⟨rfl, hb3⟩; have HB3 := Lib.hid (HB2.out.trans (hb3.mono HB2.out.size)); have hblk3 := hblk2.out.below hb3 hblk2.out.lt; have p3 := fun o => (hblk3.alloc o).cell; replace hblk3 := Lib.hid hblk3; clear hb3))
  go_ret
  exact ⟨rfl, HB3.out.alloc HB3.out.size _⟩

set_option maxRecDepth 100000 in
set_option maxHeartbeats 4000000 in
theorem back_5 (n u : Int) (hr : (IntKind.u64.wrap u).tmod 7 = 5) (w : World) (hm : MaxL w) (hU : UnitsAt w) (hT : PowAt w) :
    Calls Tryd.prog 10 #[.int .i64 n, .int .i64 u] w fun e w' => e = .returned (.bool true) ∧ Below w.heap.size w w' := by
  obtain ⟨m, hm1, hx⟩ := clipN n
  have q3 : IntKind.u64.wrap ((IntKind.u64.wrap u).tmod 7) = 5 := by rw [hr]; rfl
  have q4 : IntKind.i64.wrap (n.tmod 1000000001) = n.tmod 1000000001 := IntWalk.i64_in _ (by rcases hx with h | ⟨_, h⟩ <;> omega)
  obtain ⟨s, cT, cR⟩ := told (n.tmod 1000000001) m hm1 hx [118, 104] (by decide) (by decide)
  have keq := fun W => run_eq_dim (n.tmod 1000000001, [118, 104]) (n.tmod 1000000001, [118, 104]) W
  simp only [decide_true, show bs [118, 104] = ⟨#[118, 104]⟩ from rfl] at keq cT cR
  replace cT := Lib.hid cT
  replace cR := Lib.hid cR
  clear hx hm1
  have HM := Lib.hid hm
  have HU := Lib.hid hU
  have HT := Lib.hid hT
  clear hm hU hT
  go_enter Tryd.func10, Tryd.ntmps10
  go_wp2_with ((go_at_call 20; (with_reducible refine (half_ct _ HM.out HU.out).mono ?_); rintro e W1 ⟨rfl, hb1⟩; have HB1 := Lib.hid hb1; have hz1 := hb1.size; clear hb1))
  have HA := fun A B => Lib.hid ((HB1.out.alloc HB1.out.size A).alloc (by have := HB1.out.size; simp; omega) B)
  replace HA := Lib.hid HA
  go_wp2_with (first
    | (go_at_call 28; (with_reducible refine (cT.out _ (HT.out.on (HA.out _ _).out)).mono ?_); rintro e W2 ⟨rfl, hb2⟩; have HB2 := Lib.hid ((HA.out _ _).out.trans (hb2.mono (HA.out _ _).out.size)); have hblk2 := Lib.hid (show Blk W2 (W1.heap.size + 1) 40 #[.int .i64 (n.tmod 1000000001), .string ⟨#[118, 104]⟩] from (Blk.new (by simp)).below hb2 (by simp)); clear hb2)
    | (go_at_call 27; (with_reducible refine (cR.out _ (HM.out.on HB2.out HM.out.lt) (HU.out.on HB2.out)).mono ?_); rintro e W3 ⟨rfl, hb3⟩; have HB3 := Lib.hid (HB2.out.trans (hb3.mono HB2.out.size)); have hblk3 := hblk2.out.below hb3 hblk2.out.lt; have p3 := fun o => (hblk3.alloc o).cell; replace hblk3 := Lib.hid hblk3; clear hb3))
  go_ret
  exact ⟨rfl, HB3.out.alloc HB3.out.size _⟩

set_option maxRecDepth 100000 in
set_option maxHeartbeats 4000000 in
theorem back_6 (n u : Int) (hr : (IntKind.u64.wrap u).tmod 7 = 6) (w : World) (hm : MaxL w) (hU : UnitsAt w) (hT : PowAt w) :
    Calls Tryd.prog 10 #[.int .i64 n, .int .i64 u] w fun e w' => e = .returned (.bool true) ∧ Below w.heap.size w w' := by
  obtain ⟨m, hm1, hx⟩ := clipN n
  have q3 : IntKind.u64.wrap ((IntKind.u64.wrap u).tmod 7) = 6 := by rw [hr]; rfl
  have q4 : IntKind.i64.wrap (n.tmod 1000000001) = n.tmod 1000000001 := IntWalk.i64_in _ (by rcases hx with h | ⟨_, h⟩ <;> omega)
  obtain ⟨s, cT, cR⟩ := told (n.tmod 1000000001) m hm1 hx [37] (by decide) (by decide)
  have keq := fun W => run_eq_dim (n.tmod 1000000001, [37]) (n.tmod 1000000001, [37]) W
  simp only [decide_true, show bs [37] = ⟨#[37]⟩ from rfl] at keq cT cR
  replace cT := Lib.hid cT
  replace cR := Lib.hid cR
  clear hx hm1
  have HM := Lib.hid hm
  have HU := Lib.hid hU
  have HT := Lib.hid hT
  clear hm hU hT
  go_enter Tryd.func10, Tryd.ntmps10
  go_wp2_with ((go_at_call 20; (with_reducible refine (half_ct _ HM.out HU.out).mono ?_); rintro e W1 ⟨rfl, hb1⟩; have HB1 := Lib.hid hb1; have hz1 := hb1.size; clear hb1))
  have HA := fun A B => Lib.hid ((HB1.out.alloc HB1.out.size A).alloc (by have := HB1.out.size; simp; omega) B)
  replace HA := Lib.hid HA
  go_wp2_with (first
    | (go_at_call 28; (with_reducible refine (cT.out _ (HT.out.on (HA.out _ _).out)).mono ?_); rintro e W2 ⟨rfl, hb2⟩; have HB2 := Lib.hid ((HA.out _ _).out.trans (hb2.mono (HA.out _ _).out.size)); have hblk2 := Lib.hid (show Blk W2 (W1.heap.size + 1) 40 #[.int .i64 (n.tmod 1000000001), .string ⟨#[37]⟩] from (Blk.new (by simp)).below hb2 (by simp)); clear hb2)
    | (go_at_call 27; (with_reducible refine (cR.out _ (HM.out.on HB2.out HM.out.lt) (HU.out.on HB2.out)).mono ?_); rintro e W3 ⟨rfl, hb3⟩; have HB3 := Lib.hid (HB2.out.trans (hb3.mono HB2.out.size)); have hblk3 := hblk2.out.below hb3 hblk2.out.lt; have p3 := fun o => (hblk3.alloc o).cell; replace hblk3 := Lib.hid hblk3; clear hb3))
  go_ret
  exact ⟨rfl, HB3.out.alloc HB3.out.size _⟩

theorem law_ct (n u : Int) (w : World) (hm : MaxL w) (hU : UnitsAt w) (hT : PowAt w) :
    Calls Tryd.prog 10 #[.int .i64 n, .int .i64 u] w fun e w' => e = .returned (.bool true) ∧ Below w.heap.size w w' := by
  obtain ⟨r, h7, hr⟩ := seven u
  match r, h7, hr with
  | 0, _, hr => exact back_0 n u hr w hm hU hT
  | 1, _, hr => exact back_1 n u hr w hm hU hT
  | 2, _, hr => exact back_2 n u hr w hm hU hT
  | 3, _, hr => exact back_3 n u hr w hm hU hT
  | 4, _, hr => exact back_4 n u hr w hm hU hT
  | 5, _, hr => exact back_5 n u hr w hm hU hT
  | 6, _, hr => exact back_6 n u hr w hm hU hT

set_option maxRecDepth 100000 in
theorem lifted (os : Os) (started : os.Started) (H : Type) (enc : TypeId × Value → H) :
    ReturnsInHanded {} Tryd.checked os 10 .any (fun w args => (Rows.dimBackSpec.pre enc Tryd.prog Tryd.f10 Rows.dimBackRow.domain false w args ∧ laidMetH Tryd.prog Rows.dimBackRow.laid w) ∧ sizedMet enc Tryd.prog Tryd.f10 (OpenSpec.ofChange Rows.dimBackSpec) false w args)
      (Rows.dimBackSpec.post enc Tryd.prog Tryd.f10 false true false false) := by
  refine returns_door (C := Tryd.checked) (X := fun w _ => laidMetH Tryd.prog Rows.dimBackRow.laid w) (fun _ _ _ hh h => h.of_heap hh) ownD started (by kernel_rfl) Tryd.func10
    (ChangeSpec.witness_shaped (enc := enc) (C := Tryd.checked) (os := os) (X := fun w _ => laidMetH Tryd.prog Rows.dimBackRow.laid w) false (World.laidAll Tryd.prog os Rows.dimBackRow.laid) #[.int .i64 0, .int .i64 0] 8 (World.laidAll_os _ _ _)
      (World.shaped_of_ZipB (by kernel_rfl) (by kernel_rfl)) (by kernel_rfl) (by kernel_rfl) (by kernel_rfl)
      (by rw [MakeChecks.laidMetH_plain _ _ _ (by kernel_rfl)]; exact laidMet_laidAll _ (by kernel_rfl) (by kernel_rfl))) ?_
  intro W base args ds gs before hval0 hW _ hlaid hsh
  have hval : ∀ (j : Nat) t v, Tryd.f10.params[j]? = some t → args[j]? = some v → Value.okWide Tryd.prog W .any base t v := hval0
  have hW' := hW
  obtain ⟨p, q, hA0, hV, -, -, -⟩ := hW
  have hA : DataW.TrodAll enc Tryd.prog W 0 (fun _ => true) true Tryd.f10.params.toList args.toList ds p := hA0
  rw [Tryd.params10] at hA hval
  obtain ⟨v0, vs0, d0, ds0, p0, q0, hargs, rfl, -, h0, r0⟩ := trodAll_cons hA
  obtain ⟨v1, vs1, d1, ds1, p1, q1, rfl, rfl, -, h1, r1⟩ := trodAll_cons r0
  obtain ⟨rfl, rfl, -⟩ := trodAll_nil r1
  obtain rfl : args = #[v0, v1] := by cases args; simp_all
  obtain ⟨rfl, -⟩ := trodVars_none hV
  obtain ⟨n, rfl, -, -, -⟩ := open_int Tryd.underlying3 (hval 0 _ _ rfl rfl) h0
  obtain ⟨u, rfl, -, -, -⟩ := open_int Tryd.underlying3 (hval 1 _ _ rfl rfl) h1
  rw [MakeChecks.laidMetH_plain _ _ _ (by kernel_rfl)] at hlaid
  exact (law_ct n u W (maxLen_of hsh) (units_of hlaid (by simp [Rows.dimBackRow])) (pow_of hlaid (by simp [Rows.dimBackRow]))).mono fun e W' ⟨he, bel⟩ => ⟨_, he, law_post laidOutD rfl Tryd.underlying4 rfl (by intro t ht; rw [Tryd.params10] at ht; revert t; decide +kernel) rfl hW' bel⟩

theorem holds : Rows.DimBackSaid :=
  OpenClaim.holds_of_wide 10 Tryd.f10 rfl rfl rfl rfl rfl rfl rfl ⟨rfl, rfl, rfl, rfl, rfl⟩ rfl rfl rfl rfl rfl (by kernel_rfl) Tryd.func10 (by kernel_rfl)
    (of_decide_eq_true (by kernel_rfl)) (by unfold Func.isWrapper; first | (rw [if_pos (by decide +kernel)]; kernel_rfl) | (rw [if_neg (by decide +kernel)]; exact ⟨rfl, rfl⟩))
    (fun os started H enc _ => lifted os started H enc)

theorem proved : Rows.DimBackCardSaid :=
  Claim7.holds_tied_plain_at .later [] Rows.dimBackCard.laidKinds true Rows.dimBackCard.stood.harness false holds (fun _ h => by cases h) (by kernel_rfl) (fun _ h => by cases h) dimBack_row_tie rfl ⟨rfl, rfl⟩ (by kernel_rfl) rfl
    (fun f fn hf hfn => by
      obtain rfl : f = 10 := Option.some.inj ((show Tryd.prog.funcNamed "clerestory/clerestorykeep2.DimBack" = some 10 by kernel_rfl).symm.trans hf) |>.symm
      obtain rfl : fn = Tryd.f10 := (Option.some.inj (Tryd.func10.symm.trans hfn)).symm
      exact ⟨by kernel_rfl, fun j t ht => by
        rw [Tryd.params10] at ht
        have hm : t ∈ [3, 3] := by simpa using Array.mem_of_getElem? ht
        have hall : ([3, 3].all fun u => !Tryd.prog.wantsStandIn u) = true := by kernel_rfl
        exact (show Tryd.prog.wantsStandIn t = false by simpa using List.all_eq_true.1 hall t hm)⟩)
    (by kernel_rfl)
#print axioms proved

end Go.Proofs.YtphdmdncboegjaaDoor.dim.back
