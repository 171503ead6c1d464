/- Contracts and plain law, a bundle. -/
import Derived.Lib.Hide
import Derived.Test.YtaobpkffcolobaaGreatDoorBD1
set_option linter.unusedVariables false
set_option maxRecDepth 100000
set_option maxHeartbeats 16000000
open Go.Lib (hid)
namespace Go.Proofs.YtaobpkffcolobaaGreatDoor
namespace sel
open Go.RowKit base tok rul
theorem cutS_ct (s : Bs) (hs : s.length <= 1000000) (w : World) (hm : MaxL w) :
  Calls Tryz.prog 132 #[.string (bs s), .string ⟨#[110]⟩] w (rt w (.tuple #[.string (bs (Lib.cut s [110]).1), .string (bs (Lib.cut s [110]).2.1), .bool (Lib.cut s [110]).2.2])) := by
 obtain ⟨m, hm⟩ := hm
 exact (Tryz.strings_Cut (bs s) ⟨#[110]⟩ m w (by rw [bs_size]; omega) hm).mono fun e w' ⟨he, n, hw⟩ => ⟨he, by rw [hw]; exact base.below_drewN (Below.refl _ _) n⟩
theorem cut_small (s sep : Bs) : (Lib.cut s sep).1.length <= s.length /\ (Lib.cut s sep).2.1.length <= s.length := by
 unfold Lib.cut
 split
 ·simp only [List.length_take, List.length_drop]
  omega
 ·exact ⟨Nat.le_refl _, Nat.zero_le _⟩
theorem sign_three (c : UInt8) : (c = 43 /\ (((c.toNat : Nat) : Int) == 43) = true) ∨ (c = 45 /\ (((c.toNat : Nat) : Int) == 43) = false /\ (((c.toNat : Nat) : Int) == 45) = true) ∨ (¬ (c = 43 ∨ c = 45) /\ (((c.toNat : Nat) : Int) == 43) = false /\ (((c.toNat : Nat) : Int) == 45) = false) := by
 by_cases h1 : c = 43
 ·exact .inl ⟨h1, by rw [h1]; rfl⟩
 ·have b1 : (((c.toNat : Nat) : Int) == 43) = false := by rw [beq_eq_false_iff_ne]; intro e; exact h1 (UInt8.toNat_inj.1 (show c.toNat = 43 by omega))
  by_cases h2 : c = 45
  ·exact .inr (.inl ⟨h2, b1, by rw [h2]; rfl⟩)
  ·exact .inr (.inr ⟨fun h => h.elim h1 h2, b1, by rw [beq_eq_false_iff_ne]; intro e; exact h2 (UInt8.toNat_inj.1 (show c.toNat = 45 by omega))⟩)
theorem idx_head (c : UInt8) (r : Bs) (h : 0 < (bs (c :: r)).size) : (bs (c :: r))[0]'h = c := rfl
def NthR (w : World) : Option (Int × Int) -> Ending -> World -> Prop
 | some p, e, w' => e = .returned (.tuple #[.int .i64 p.1, .int .i64 p.2, .bool true]) /\ Below w.heap.size w w'
 | none, e, w' => (∃ a b, e = .returned (.tuple #[.int .i64 a, .int .i64 b, .bool false])) /\ Below w.heap.size w w'
theorem whole_two (s : Bs) (hs : s.length <= 1000000) : (∃ v, wholeI s = some v /\ ∀ w, SEnv w -> Calls Tryz.prog 133 #[.string (bs s)] w (rt w (.tuple #[.int .i64 v, .bool true]))) ∨
  (wholeI s = none /\ ∃ d, ∀ w, SEnv w -> Calls Tryz.prog 133 #[.string (bs s)] w (rt w (.tuple #[.int .i64 d, .bool false]))) := by
 cases h : wholeI s with
 | some v => exact .inl ⟨v, rfl, fun w hE => whole_yes s hs v h w hE⟩
 | none => exact .inr ⟨rfl, whole_dull s hs h⟩
theorem nth_ct (s : Bs) (hs : s.length <= 400000) (w : World) (hE : SEnv w) :
  Calls Tryz.prog 125 #[.string (bs s)] w (NthR w (nthI s)) := by
 have cL : ∀ w, Calls Tryz.prog 70 #[.string (bs s)] w (rt w (.string (bs (lowP s)))) := fun w => low_ct (bs s) (by rw [bs_size]; omega) w
 have hl : (lowP s).length <= 400000 := by rw [low_len]; exact hs
 unfold nthI
 generalize lowP s = l at *
 have cC := hid (fun w hm => cutS_ct l (by omega) w hm)
 replace cL := hid cL
 have HE := hid hE
 clear hE
 by_cases h1 : l = oddT
 ·have q1 : ((bs l).toList == [111, 100, 100]) = true := by rw [bs_toList, h1]; rfl
  rw [if_pos h1]
  clear h1 cC
  go_enter Tryz.func125, Tryz.ntmps125
  go_wp2_with (first
   | (go_at_call 70; (with_reducible refine (cL.out _).mono ?_); rintro e W1 ⟨rfl, hb1⟩; have HB1 := hid hb1; have HE1 := hid (HE.out.on hb1); clear hb1))
  exact bodyPost_ret (v := .tuple #[.int .i64 2, .int .i64 1, .bool true]) (by simp [results, Tryz.results125, go_sem]) rfl ⟨rfl, HB1.out⟩
 ·have q1 : ((bs l).toList == [111, 100, 100]) = false := by rw [bs_toList, beq_eq_false_iff_ne]; exact h1
  rw [if_neg h1]
  by_cases h2 : l = evenT
  ·have q2 : ((bs l).toList == [101, 118, 101, 110]) = true := by rw [bs_toList, h2]; rfl
   rw [if_pos h2]
   clear h1 h2 cC
   go_enter Tryz.func125, Tryz.ntmps125
   go_wp2_with (first
    | (go_at_call 70; (with_reducible refine (cL.out _).mono ?_); rintro e W1 ⟨rfl, hb1⟩; have HB1 := hid hb1; have HE1 := hid (HE.out.on hb1); clear hb1))
   exact bodyPost_ret (v := .tuple #[.int .i64 2, .int .i64 0, .bool true]) (by simp [results, Tryz.results125, go_sem]) rfl ⟨rfl, HB1.out⟩
  ·have q2 : ((bs l).toList == [101, 118, 101, 110]) = false := by rw [bs_toList, beq_eq_false_iff_ne]; exact h2
   rw [if_neg h2]
   have hsm := cut_small l [110]
   rcases hcut : Lib.cut l [110] with ⟨h, t, is⟩
   rw [hcut] at cC hsm
   dsimp only at cC hsm ⊢
   clear h1 h2 hcut
   cases is with
   | false =>
    rw [if_neg (by decide)]
    by_cases h3 : l = []
    ·have q3 : ((bs l).toList == []) = true := by rw [bs_toList, h3]; rfl
     rw [if_pos h3]
     clear h3
     go_enter Tryz.func125, Tryz.ntmps125
     go_wp2_with (first
      | (go_at_call 70; (with_reducible refine (cL.out _).mono ?_); rintro e W1 ⟨rfl, hb1⟩; have HB1 := hid hb1; have HE1 := hid (HE.out.on hb1); clear hb1)
      | (go_at_call 132; (with_reducible refine (cC.out _ HE1.out.max).mono ?_); rintro e W2 ⟨rfl, hb2⟩; have HB2 := hid (tb HB1 hb2); have HE2 := hid (HE1.out.on hb2); clear hb2))
     exact bodyPost_ret (v := .tuple #[.int .i64 0, .int .i64 0, .bool false]) (by simp [results, Tryz.results125, go_sem]) rfl (show NthR w none _ _ from ⟨⟨_, _, rfl⟩, HB2.out⟩)
    ·have q3 : ((bs l).toList == []) = false := by rw [bs_toList, beq_eq_false_iff_ne]; exact h3
     rw [if_neg h3]
     clear h3
     rcases whole_two l (by omega) with ⟨v, hv, cW⟩ | ⟨hv, d, cW⟩
     ·rw [hv]
      replace cW := hid cW
      clear hv
      go_enter Tryz.func125, Tryz.ntmps125
      go_wp2_with (first
       | (go_at_call 70; (with_reducible refine (cL.out _).mono ?_); rintro e W1 ⟨rfl, hb1⟩; have HB1 := hid hb1; have HE1 := hid (HE.out.on hb1); clear hb1)
       | (go_at_call 132; (with_reducible refine (cC.out _ HE1.out.max).mono ?_); rintro e W2 ⟨rfl, hb2⟩; have HB2 := hid (tb HB1 hb2); have HE2 := hid (HE1.out.on hb2); clear hb2)
       | (go_at_call 133; (with_reducible refine (cW.out _ HE2.out).mono ?_); rintro e W3 ⟨rfl, hb3⟩; have HB3 := hid (tb HB2 hb3); clear hb3))
      exact bodyPost_ret (v := .tuple #[.int .i64 0, .int .i64 v, .bool true]) (by simp [results, Tryz.results125, go_sem]) rfl ⟨rfl, HB3.out⟩
     ·rw [hv]
      replace cW := hid cW
      clear hv
      go_enter Tryz.func125, Tryz.ntmps125
      go_wp2_with (first
       | (go_at_call 70; (with_reducible refine (cL.out _).mono ?_); rintro e W1 ⟨rfl, hb1⟩; have HB1 := hid hb1; have HE1 := hid (HE.out.on hb1); clear hb1)
       | (go_at_call 132; (with_reducible refine (cC.out _ HE1.out.max).mono ?_); rintro e W2 ⟨rfl, hb2⟩; have HB2 := hid (tb HB1 hb2); have HE2 := hid (HE1.out.on hb2); clear hb2)
       | (go_at_call 133; (with_reducible refine (cW.out _ HE2.out).mono ?_); rintro e W3 ⟨rfl, hb3⟩; have HB3 := hid (tb HB2 hb3); clear hb3))
      exact bodyPost_ret (v := .tuple #[.int .i64 0, .int .i64 d, .bool false]) (by simp [results, Tryz.results125, go_sem]) rfl (show NthR w none _ _ from ⟨⟨_, _, rfl⟩, HB3.out⟩)
   | true =>
    rw [if_pos rfl]
    have cH := whole_two h (by omega)
    have cT := whole_two t (by omega)
    have hhead : (headI h = some 1 /\ ((bs h).toList == []) = true) ∨ (headI h = some (-1) /\ ((bs h).toList == []) = false /\ ((bs h).toList == [45]) = true) ∨ (headI h = wholeI h /\ ((bs h).toList == []) = false /\ ((bs h).toList == [45]) = false) := by
     unfold headI
     by_cases e1 : h = []
     ·exact .inl ⟨if_pos e1, by rw [bs_toList, e1]; rfl⟩
     ·have b1 : ((bs h).toList == []) = false := by rw [bs_toList, beq_eq_false_iff_ne]; exact e1
      rw [if_neg e1]
      by_cases e2 : h = [45]
      ·exact .inr (.inl ⟨if_pos e2, b1, by rw [bs_toList, e2]; rfl⟩)
      ·exact .inr (.inr ⟨if_neg e2, b1, by rw [bs_toList, beq_eq_false_iff_ne]; exact e2⟩)
    rcases hhead with ⟨hI, q5⟩ | ⟨hI, q5, q6⟩ | ⟨hI, q5, q6⟩
    ·rw [hI]
     clear hI cH
     cases t with
     | nil =>
      have q8 : (bs []).toList = [] := bs_toList []
      clear cT
      simp only [tailI, Option.bind_some, Option.map_some]
      go_enter Tryz.func125, Tryz.ntmps125
      go_wp2_with (first
       | (go_at_call 70; (with_reducible refine (cL.out _).mono ?_); rintro e W1 ⟨rfl, hb1⟩; have HB1 := hid hb1; have HE1 := hid (HE.out.on hb1); clear hb1)
       | (go_at_call 132; (with_reducible refine (cC.out _ HE1.out.max).mono ?_); rintro e W2 ⟨rfl, hb2⟩; have HB2 := hid (tb HB1 hb2); have HE2 := hid (HE1.out.on hb2); clear hb2))
      exact bodyPost_ret (v := .tuple #[.int .i64 1, .int .i64 0, .bool true]) (by simp [results, Tryz.results125, go_sem]) rfl ⟨rfl, HB2.out⟩
     | cons c r =>
      have q8 : ((bs (c :: r)).toList == []) = false := by rw [bs_toList]; rfl
      have q9 : ¬ (bs (c :: r)).toList = [] := by rw [bs_toList]; exact List.cons_ne_nil _ _
      have hz9 : 0 < (bs (c :: r)).size := by rw [bs_size]; simp
      have hix := idx_head c r hz9
      have hc : (c = 43 /\ (((c.toNat : Nat) : Int) == 43) = true) ∨ (c = 45 /\ (((c.toNat : Nat) : Int) == 43) = false /\ (((c.toNat : Nat) : Int) == 45) = true) ∨ (¬ (c = 43 ∨ c = 45) /\ (((c.toNat : Nat) : Int) == 43) = false /\ (((c.toNat : Nat) : Int) == 45) = false) := sign_three c
      have ht : tailI (c :: r) = if c = 43 ∨ c = 45 then wholeI (c :: r) else none := by rw [tailI]
      rcases cT with ⟨v, hv, cT⟩ | ⟨hv, dt, cT⟩
      ·replace cT := hid cT
       rw [hv] at ht
       rcases hc with ⟨hc, c43⟩ | ⟨hc, c43, c45⟩ | ⟨hc, c43, c45⟩
       ·rw [if_pos (.inl hc)] at ht
        rw [ht]
        simp only [Option.bind_some, Option.map_some]
        clear hc ht hv
        go_enter Tryz.func125, Tryz.ntmps125
        go_wp2_with (first
         | (go_at_call 70; (with_reducible refine (cL.out _).mono ?_); rintro e W1 ⟨rfl, hb1⟩; have HB1 := hid hb1; have HE1 := hid (HE.out.on hb1); clear hb1)
         | (go_at_call 132; (with_reducible refine (cC.out _ HE1.out.max).mono ?_); rintro e W2 ⟨rfl, hb2⟩; have HB2 := hid (tb HB1 hb2); have HE2 := hid (HE1.out.on hb2); clear hb2)
         | (go_at_call 133; (with_reducible refine (cT.out _ HE2.out).mono ?_); rintro e W4 ⟨rfl, hb4⟩; have HB2 := hid (tb HB2 hb4); clear hb4))
        exact bodyPost_ret (v := .tuple #[.int .i64 1, .int .i64 v, .bool true]) (by simp [results, Tryz.results125, go_sem]) rfl ⟨rfl, HB2.out⟩
       ·rw [if_pos (.inr hc)] at ht
        rw [ht]
        simp only [Option.bind_some, Option.map_some]
        clear hc ht hv
        go_enter Tryz.func125, Tryz.ntmps125
        go_wp2_with (first
         | (go_at_call 70; (with_reducible refine (cL.out _).mono ?_); rintro e W1 ⟨rfl, hb1⟩; have HB1 := hid hb1; have HE1 := hid (HE.out.on hb1); clear hb1)
         | (go_at_call 132; (with_reducible refine (cC.out _ HE1.out.max).mono ?_); rintro e W2 ⟨rfl, hb2⟩; have HB2 := hid (tb HB1 hb2); have HE2 := hid (HE1.out.on hb2); clear hb2)
         | (go_at_call 133; (with_reducible refine (cT.out _ HE2.out).mono ?_); rintro e W4 ⟨rfl, hb4⟩; have HB2 := hid (tb HB2 hb4); clear hb4))
        exact bodyPost_ret (v := .tuple #[.int .i64 1, .int .i64 v, .bool true]) (by simp [results, Tryz.results125, go_sem]) rfl ⟨rfl, HB2.out⟩
       ·rw [if_neg hc] at ht
        rw [ht]
        simp only [Option.bind_some, Option.map_none]
        clear hc ht hv
        go_enter Tryz.func125, Tryz.ntmps125
        go_wp2_with (first
         | (go_at_call 70; (with_reducible refine (cL.out _).mono ?_); rintro e W1 ⟨rfl, hb1⟩; have HB1 := hid hb1; have HE1 := hid (HE.out.on hb1); clear hb1)
         | (go_at_call 132; (with_reducible refine (cC.out _ HE1.out.max).mono ?_); rintro e W2 ⟨rfl, hb2⟩; have HB2 := hid (tb HB1 hb2); have HE2 := hid (HE1.out.on hb2); clear hb2)
         | (go_at_call 133; (with_reducible refine (cT.out _ HE2.out).mono ?_); rintro e W4 ⟨rfl, hb4⟩; have HB2 := hid (tb HB2 hb4); clear hb4))
        exact bodyPost_ret (v := .tuple #[.int .i64 1, .int .i64 v, .bool false]) (by simp [results, Tryz.results125, go_sem]) rfl (show NthR w none _ _ from ⟨⟨_, _, rfl⟩, HB2.out⟩)
      ·replace cT := hid cT
       rw [hv] at ht
       rcases hc with ⟨hc, c43⟩ | ⟨hc, c43, c45⟩ | ⟨hc, c43, c45⟩
       ·rw [if_pos (.inl hc)] at ht
        rw [ht]
        simp only [Option.bind_some, Option.map_none]
        clear hc ht hv
        go_enter Tryz.func125, Tryz.ntmps125
        go_wp2_with (first
         | (go_at_call 70; (with_reducible refine (cL.out _).mono ?_); rintro e W1 ⟨rfl, hb1⟩; have HB1 := hid hb1; have HE1 := hid (HE.out.on hb1); clear hb1)
         | (go_at_call 132; (with_reducible refine (cC.out _ HE1.out.max).mono ?_); rintro e W2 ⟨rfl, hb2⟩; have HB2 := hid (tb HB1 hb2); have HE2 := hid (HE1.out.on hb2); clear hb2)
         | (go_at_call 133; (with_reducible refine (cT.out _ HE2.out).mono ?_); rintro e W4 ⟨rfl, hb4⟩; have HB2 := hid (tb HB2 hb4); clear hb4))
        exact bodyPost_ret (v := .tuple #[.int .i64 1, .int .i64 dt, .bool false]) (by simp [results, Tryz.results125, go_sem]) rfl (show NthR w none _ _ from ⟨⟨_, _, rfl⟩, HB2.out⟩)
       ·rw [if_pos (.inr hc)] at ht
        rw [ht]
        simp only [Option.bind_some, Option.map_none]
        clear hc ht hv
        go_enter Tryz.func125, Tryz.ntmps125
        go_wp2_with (first
         | (go_at_call 70; (with_reducible refine (cL.out _).mono ?_); rintro e W1 ⟨rfl, hb1⟩; have HB1 := hid hb1; have HE1 := hid (HE.out.on hb1); clear hb1)
         | (go_at_call 132; (with_reducible refine (cC.out _ HE1.out.max).mono ?_); rintro e W2 ⟨rfl, hb2⟩; have HB2 := hid (tb HB1 hb2); have HE2 := hid (HE1.out.on hb2); clear hb2)
         | (go_at_call 133; (with_reducible refine (cT.out _ HE2.out).mono ?_); rintro e W4 ⟨rfl, hb4⟩; have HB2 := hid (tb HB2 hb4); clear hb4))
        exact bodyPost_ret (v := .tuple #[.int .i64 1, .int .i64 dt, .bool false]) (by simp [results, Tryz.results125, go_sem]) rfl (show NthR w none _ _ from ⟨⟨_, _, rfl⟩, HB2.out⟩)
       ·rw [if_neg hc] at ht
        rw [ht]
        simp only [Option.bind_some, Option.map_none]
        clear hc ht hv
        go_enter Tryz.func125, Tryz.ntmps125
        go_wp2_with (first
         | (go_at_call 70; (with_reducible refine (cL.out _).mono ?_); rintro e W1 ⟨rfl, hb1⟩; have HB1 := hid hb1; have HE1 := hid (HE.out.on hb1); clear hb1)
         | (go_at_call 132; (with_reducible refine (cC.out _ HE1.out.max).mono ?_); rintro e W2 ⟨rfl, hb2⟩; have HB2 := hid (tb HB1 hb2); have HE2 := hid (HE1.out.on hb2); clear hb2)
         | (go_at_call 133; (with_reducible refine (cT.out _ HE2.out).mono ?_); rintro e W4 ⟨rfl, hb4⟩; have HB2 := hid (tb HB2 hb4); clear hb4))
        exact bodyPost_ret (v := .tuple #[.int .i64 1, .int .i64 dt, .bool false]) (by simp [results, Tryz.results125, go_sem]) rfl (show NthR w none _ _ from ⟨⟨_, _, rfl⟩, HB2.out⟩)
    ·rw [hI]
     clear hI cH
     cases t with
     | nil =>
      have q8 : (bs []).toList = [] := bs_toList []
      clear cT
      simp only [tailI, Option.bind_some, Option.map_some]
      go_enter Tryz.func125, Tryz.ntmps125
      go_wp2_with (first
       | (go_at_call 70; (with_reducible refine (cL.out _).mono ?_); rintro e W1 ⟨rfl, hb1⟩; have HB1 := hid hb1; have HE1 := hid (HE.out.on hb1); clear hb1)
       | (go_at_call 132; (with_reducible refine (cC.out _ HE1.out.max).mono ?_); rintro e W2 ⟨rfl, hb2⟩; have HB2 := hid (tb HB1 hb2); have HE2 := hid (HE1.out.on hb2); clear hb2))
      exact bodyPost_ret (v := .tuple #[.int .i64 (-1), .int .i64 0, .bool true]) (by simp [results, Tryz.results125, go_sem]) rfl ⟨rfl, HB2.out⟩
     | cons c r =>
      have q8 : ((bs (c :: r)).toList == []) = false := by rw [bs_toList]; rfl
      have q9 : ¬ (bs (c :: r)).toList = [] := by rw [bs_toList]; exact List.cons_ne_nil _ _
      have hz9 : 0 < (bs (c :: r)).size := by rw [bs_size]; simp
      have hix := idx_head c r hz9
      have hc : (c = 43 /\ (((c.toNat : Nat) : Int) == 43) = true) ∨ (c = 45 /\ (((c.toNat : Nat) : Int) == 43) = false /\ (((c.toNat : Nat) : Int) == 45) = true) ∨ (¬ (c = 43 ∨ c = 45) /\ (((c.toNat : Nat) : Int) == 43) = false /\ (((c.toNat : Nat) : Int) == 45) = false) := sign_three c
      have ht : tailI (c :: r) = if c = 43 ∨ c = 45 then wholeI (c :: r) else none := by rw [tailI]
      rcases cT with ⟨v, hv, cT⟩ | ⟨hv, dt, cT⟩
      ·replace cT := hid cT
       rw [hv] at ht
       rcases hc with ⟨hc, c43⟩ | ⟨hc, c43, c45⟩ | ⟨hc, c43, c45⟩
       ·rw [if_pos (.inl hc)] at ht
        rw [ht]
        simp only [Option.bind_some, Option.map_some]
        clear hc ht hv
        go_enter Tryz.func125, Tryz.ntmps125
        go_wp2_with (first
         | (go_at_call 70; (with_reducible refine (cL.out _).mono ?_); rintro e W1 ⟨rfl, hb1⟩; have HB1 := hid hb1; have HE1 := hid (HE.out.on hb1); clear hb1)
         | (go_at_call 132; (with_reducible refine (cC.out _ HE1.out.max).mono ?_); rintro e W2 ⟨rfl, hb2⟩; have HB2 := hid (tb HB1 hb2); have HE2 := hid (HE1.out.on hb2); clear hb2)
         | (go_at_call 133; (with_reducible refine (cT.out _ HE2.out).mono ?_); rintro e W4 ⟨rfl, hb4⟩; have HB2 := hid (tb HB2 hb4); clear hb4))
        exact bodyPost_ret (v := .tuple #[.int .i64 (-1), .int .i64 v, .bool true]) (by simp [results, Tryz.results125, go_sem]) rfl ⟨rfl, HB2.out⟩
       ·rw [if_pos (.inr hc)] at ht
        rw [ht]
        simp only [Option.bind_some, Option.map_some]
        clear hc ht hv
        go_enter Tryz.func125, Tryz.ntmps125
        go_wp2_with (first
         | (go_at_call 70; (with_reducible refine (cL.out _).mono ?_); rintro e W1 ⟨rfl, hb1⟩; have HB1 := hid hb1; have HE1 := hid (HE.out.on hb1); clear hb1)
         | (go_at_call 132; (with_reducible refine (cC.out _ HE1.out.max).mono ?_); rintro e W2 ⟨rfl, hb2⟩; have HB2 := hid (tb HB1 hb2); have HE2 := hid (HE1.out.on hb2); clear hb2)
         | (go_at_call 133; (with_reducible refine (cT.out _ HE2.out).mono ?_); rintro e W4 ⟨rfl, hb4⟩; have HB2 := hid (tb HB2 hb4); clear hb4))
        exact bodyPost_ret (v := .tuple #[.int .i64 (-1), .int .i64 v, .bool true]) (by simp [results, Tryz.results125, go_sem]) rfl ⟨rfl, HB2.out⟩
       ·rw [if_neg hc] at ht
        rw [ht]
        simp only [Option.bind_some, Option.map_none]
        clear hc ht hv
        go_enter Tryz.func125, Tryz.ntmps125
        go_wp2_with (first
         | (go_at_call 70; (with_reducible refine (cL.out _).mono ?_); rintro e W1 ⟨rfl, hb1⟩; have HB1 := hid hb1; have HE1 := hid (HE.out.on hb1); clear hb1)
         | (go_at_call 132; (with_reducible refine (cC.out _ HE1.out.max).mono ?_); rintro e W2 ⟨rfl, hb2⟩; have HB2 := hid (tb HB1 hb2); have HE2 := hid (HE1.out.on hb2); clear hb2)
         | (go_at_call 133; (with_reducible refine (cT.out _ HE2.out).mono ?_); rintro e W4 ⟨rfl, hb4⟩; have HB2 := hid (tb HB2 hb4); clear hb4))
        exact bodyPost_ret (v := .tuple #[.int .i64 (-1), .int .i64 v, .bool false]) (by simp [results, Tryz.results125, go_sem]) rfl (show NthR w none _ _ from ⟨⟨_, _, rfl⟩, HB2.out⟩)
      ·replace cT := hid cT
       rw [hv] at ht
       rcases hc with ⟨hc, c43⟩ | ⟨hc, c43, c45⟩ | ⟨hc, c43, c45⟩
       ·rw [if_pos (.inl hc)] at ht
        rw [ht]
        simp only [Option.bind_some, Option.map_none]
        clear hc ht hv
        go_enter Tryz.func125, Tryz.ntmps125
        go_wp2_with (first
         | (go_at_call 70; (with_reducible refine (cL.out _).mono ?_); rintro e W1 ⟨rfl, hb1⟩; have HB1 := hid hb1; have HE1 := hid (HE.out.on hb1); clear hb1)
         | (go_at_call 132; (with_reducible refine (cC.out _ HE1.out.max).mono ?_); rintro e W2 ⟨rfl, hb2⟩; have HB2 := hid (tb HB1 hb2); have HE2 := hid (HE1.out.on hb2); clear hb2)
         | (go_at_call 133; (with_reducible refine (cT.out _ HE2.out).mono ?_); rintro e W4 ⟨rfl, hb4⟩; have HB2 := hid (tb HB2 hb4); clear hb4))
        exact bodyPost_ret (v := .tuple #[.int .i64 (-1), .int .i64 dt, .bool false]) (by simp [results, Tryz.results125, go_sem]) rfl (show NthR w none _ _ from ⟨⟨_, _, rfl⟩, HB2.out⟩)
       ·rw [if_pos (.inr hc)] at ht
        rw [ht]
        simp only [Option.bind_some, Option.map_none]
        clear hc ht hv
        go_enter Tryz.func125, Tryz.ntmps125
        go_wp2_with (first
         | (go_at_call 70; (with_reducible refine (cL.out _).mono ?_); rintro e W1 ⟨rfl, hb1⟩; have HB1 := hid hb1; have HE1 := hid (HE.out.on hb1); clear hb1)
         | (go_at_call 132; (with_reducible refine (cC.out _ HE1.out.max).mono ?_); rintro e W2 ⟨rfl, hb2⟩; have HB2 := hid (tb HB1 hb2); have HE2 := hid (HE1.out.on hb2); clear hb2)
         | (go_at_call 133; (with_reducible refine (cT.out _ HE2.out).mono ?_); rintro e W4 ⟨rfl, hb4⟩; have HB2 := hid (tb HB2 hb4); clear hb4))
        exact bodyPost_ret (v := .tuple #[.int .i64 (-1), .int .i64 dt, .bool false]) (by simp [results, Tryz.results125, go_sem]) rfl (show NthR w none _ _ from ⟨⟨_, _, rfl⟩, HB2.out⟩)
       ·rw [if_neg hc] at ht
        rw [ht]
        simp only [Option.bind_some, Option.map_none]
        clear hc ht hv
        go_enter Tryz.func125, Tryz.ntmps125
        go_wp2_with (first
         | (go_at_call 70; (with_reducible refine (cL.out _).mono ?_); rintro e W1 ⟨rfl, hb1⟩; have HB1 := hid hb1; have HE1 := hid (HE.out.on hb1); clear hb1)
         | (go_at_call 132; (with_reducible refine (cC.out _ HE1.out.max).mono ?_); rintro e W2 ⟨rfl, hb2⟩; have HB2 := hid (tb HB1 hb2); have HE2 := hid (HE1.out.on hb2); clear hb2)
         | (go_at_call 133; (with_reducible refine (cT.out _ HE2.out).mono ?_); rintro e W4 ⟨rfl, hb4⟩; have HB2 := hid (tb HB2 hb4); clear hb4))
        exact bodyPost_ret (v := .tuple #[.int .i64 (-1), .int .i64 dt, .bool false]) (by simp [results, Tryz.results125, go_sem]) rfl (show NthR w none _ _ from ⟨⟨_, _, rfl⟩, HB2.out⟩)
    ·rcases cH with ⟨a, ha, cH⟩ | ⟨ha, d, cH⟩
     ·rw [hI, ha]
      replace cH := hid cH
      clear hI ha
      cases t with
      | nil =>
       have q8 : (bs []).toList = [] := bs_toList []
       clear cT
       simp only [tailI, Option.bind_some, Option.map_some]
       go_enter Tryz.func125, Tryz.ntmps125
       go_wp2_with (first
        | (go_at_call 70; (with_reducible refine (cL.out _).mono ?_); rintro e W1 ⟨rfl, hb1⟩; have HB1 := hid hb1; have HE1 := hid (HE.out.on hb1); clear hb1)
        | (go_at_call 132; (with_reducible refine (cC.out _ HE1.out.max).mono ?_); rintro e W2 ⟨rfl, hb2⟩; have HB2 := hid (tb HB1 hb2); have HE2 := hid (HE1.out.on hb2); clear hb2)
        | (go_at_call 133; (with_reducible refine (cH.out _ HE2.out).mono ?_); rintro e W3 ⟨rfl, hb3⟩; have HB2 := hid (tb HB2 hb3); have HE2 := hid (HE2.out.on hb3); clear hb3))
       exact bodyPost_ret (v := .tuple #[.int .i64 a, .int .i64 0, .bool true]) (by simp [results, Tryz.results125, go_sem]) rfl ⟨rfl, HB2.out⟩
      | cons c r =>
       have q8 : ((bs (c :: r)).toList == []) = false := by rw [bs_toList]; rfl
       have q9 : ¬ (bs (c :: r)).toList = [] := by rw [bs_toList]; exact List.cons_ne_nil _ _
       have hz9 : 0 < (bs (c :: r)).size := by rw [bs_size]; simp
       have hix := idx_head c r hz9
       have hc : (c = 43 /\ (((c.toNat : Nat) : Int) == 43) = true) ∨ (c = 45 /\ (((c.toNat : Nat) : Int) == 43) = false /\ (((c.toNat : Nat) : Int) == 45) = true) ∨ (¬ (c = 43 ∨ c = 45) /\ (((c.toNat : Nat) : Int) == 43) = false /\ (((c.toNat : Nat) : Int) == 45) = false) := sign_three c
       have ht : tailI (c :: r) = if c = 43 ∨ c = 45 then wholeI (c :: r) else none := by rw [tailI]
       rcases cT with ⟨v, hv, cT⟩ | ⟨hv, dt, cT⟩
       ·replace cT := hid cT
        rw [hv] at ht
        rcases hc with ⟨hc, c43⟩ | ⟨hc, c43, c45⟩ | ⟨hc, c43, c45⟩
        ·rw [if_pos (.inl hc)] at ht
         rw [ht]
         simp only [Option.bind_some, Option.map_some]
         clear hc ht hv
         go_enter Tryz.func125, Tryz.ntmps125
         go_wp2_with (first
          | (go_at_call 70; (with_reducible refine (cL.out _).mono ?_); rintro e W1 ⟨rfl, hb1⟩; have HB1 := hid hb1; have HE1 := hid (HE.out.on hb1); clear hb1)
          | (go_at_call 132; (with_reducible refine (cC.out _ HE1.out.max).mono ?_); rintro e W2 ⟨rfl, hb2⟩; have HB2 := hid (tb HB1 hb2); have HE2 := hid (HE1.out.on hb2); clear hb2)
          | (go_at_call 133; (with_reducible refine (cH.out _ HE2.out).mono ?_); rintro e W3 ⟨rfl, hb3⟩; have HB2 := hid (tb HB2 hb3); have HE2 := hid (HE2.out.on hb3); clear hb3)
          | (go_at_call 133; (with_reducible refine (cT.out _ HE2.out).mono ?_); rintro e W4 ⟨rfl, hb4⟩; have HB2 := hid (tb HB2 hb4); clear hb4))
         exact bodyPost_ret (v := .tuple #[.int .i64 a, .int .i64 v, .bool true]) (by simp [results, Tryz.results125, go_sem]) rfl ⟨rfl, HB2.out⟩
        ·rw [if_pos (.inr hc)] at ht
         rw [ht]
         simp only [Option.bind_some, Option.map_some]
         clear hc ht hv
         go_enter Tryz.func125, Tryz.ntmps125
         go_wp2_with (first
          | (go_at_call 70; (with_reducible refine (cL.out _).mono ?_); rintro e W1 ⟨rfl, hb1⟩; have HB1 := hid hb1; have HE1 := hid (HE.out.on hb1); clear hb1)
          | (go_at_call 132; (with_reducible refine (cC.out _ HE1.out.max).mono ?_); rintro e W2 ⟨rfl, hb2⟩; have HB2 := hid (tb HB1 hb2); have HE2 := hid (HE1.out.on hb2); clear hb2)
          | (go_at_call 133; (with_reducible refine (cH.out _ HE2.out).mono ?_); rintro e W3 ⟨rfl, hb3⟩; have HB2 := hid (tb HB2 hb3); have HE2 := hid (HE2.out.on hb3); clear hb3)
          | (go_at_call 133; (with_reducible refine (cT.out _ HE2.out).mono ?_); rintro e W4 ⟨rfl, hb4⟩; have HB2 := hid (tb HB2 hb4); clear hb4))
         exact bodyPost_ret (v := .tuple #[.int .i64 a, .int .i64 v, .bool true]) (by simp [results, Tryz.results125, go_sem]) rfl ⟨rfl, HB2.out⟩
        ·rw [if_neg hc] at ht
         rw [ht]
         simp only [Option.bind_some, Option.map_none]
         clear hc ht hv
         go_enter Tryz.func125, Tryz.ntmps125
         go_wp2_with (first
          | (go_at_call 70; (with_reducible refine (cL.out _).mono ?_); rintro e W1 ⟨rfl, hb1⟩; have HB1 := hid hb1; have HE1 := hid (HE.out.on hb1); clear hb1)
          | (go_at_call 132; (with_reducible refine (cC.out _ HE1.out.max).mono ?_); rintro e W2 ⟨rfl, hb2⟩; have HB2 := hid (tb HB1 hb2); have HE2 := hid (HE1.out.on hb2); clear hb2)
          | (go_at_call 133; (with_reducible refine (cH.out _ HE2.out).mono ?_); rintro e W3 ⟨rfl, hb3⟩; have HB2 := hid (tb HB2 hb3); have HE2 := hid (HE2.out.on hb3); clear hb3)
          | (go_at_call 133; (with_reducible refine (cT.out _ HE2.out).mono ?_); rintro e W4 ⟨rfl, hb4⟩; have HB2 := hid (tb HB2 hb4); clear hb4))
         exact bodyPost_ret (v := .tuple #[.int .i64 a, .int .i64 v, .bool false]) (by simp [results, Tryz.results125, go_sem]) rfl (show NthR w none _ _ from ⟨⟨_, _, rfl⟩, HB2.out⟩)
       ·replace cT := hid cT
        rw [hv] at ht
        rcases hc with ⟨hc, c43⟩ | ⟨hc, c43, c45⟩ | ⟨hc, c43, c45⟩
        ·rw [if_pos (.inl hc)] at ht
         rw [ht]
         simp only [Option.bind_some, Option.map_none]
         clear hc ht hv
         go_enter Tryz.func125, Tryz.ntmps125
         go_wp2_with (first
          | (go_at_call 70; (with_reducible refine (cL.out _).mono ?_); rintro e W1 ⟨rfl, hb1⟩; have HB1 := hid hb1; have HE1 := hid (HE.out.on hb1); clear hb1)
          | (go_at_call 132; (with_reducible refine (cC.out _ HE1.out.max).mono ?_); rintro e W2 ⟨rfl, hb2⟩; have HB2 := hid (tb HB1 hb2); have HE2 := hid (HE1.out.on hb2); clear hb2)
          | (go_at_call 133; (with_reducible refine (cH.out _ HE2.out).mono ?_); rintro e W3 ⟨rfl, hb3⟩; have HB2 := hid (tb HB2 hb3); have HE2 := hid (HE2.out.on hb3); clear hb3)
          | (go_at_call 133; (with_reducible refine (cT.out _ HE2.out).mono ?_); rintro e W4 ⟨rfl, hb4⟩; have HB2 := hid (tb HB2 hb4); clear hb4))
         exact bodyPost_ret (v := .tuple #[.int .i64 a, .int .i64 dt, .bool false]) (by simp [results, Tryz.results125, go_sem]) rfl (show NthR w none _ _ from ⟨⟨_, _, rfl⟩, HB2.out⟩)
        ·rw [if_pos (.inr hc)] at ht
         rw [ht]
         simp only [Option.bind_some, Option.map_none]
         clear hc ht hv
         go_enter Tryz.func125, Tryz.ntmps125
         go_wp2_with (first
          | (go_at_call 70; (with_reducible refine (cL.out _).mono ?_); rintro e W1 ⟨rfl, hb1⟩; have HB1 := hid hb1; have HE1 := hid (HE.out.on hb1); clear hb1)
          | (go_at_call 132; (with_reducible refine (cC.out _ HE1.out.max).mono ?_); rintro e W2 ⟨rfl, hb2⟩; have HB2 := hid (tb HB1 hb2); have HE2 := hid (HE1.out.on hb2); clear hb2)
          | (go_at_call 133; (with_reducible refine (cH.out _ HE2.out).mono ?_); rintro e W3 ⟨rfl, hb3⟩; have HB2 := hid (tb HB2 hb3); have HE2 := hid (HE2.out.on hb3); clear hb3)
          | (go_at_call 133; (with_reducible refine (cT.out _ HE2.out).mono ?_); rintro e W4 ⟨rfl, hb4⟩; have HB2 := hid (tb HB2 hb4); clear hb4))
         exact bodyPost_ret (v := .tuple #[.int .i64 a, .int .i64 dt, .bool false]) (by simp [results, Tryz.results125, go_sem]) rfl (show NthR w none _ _ from ⟨⟨_, _, rfl⟩, HB2.out⟩)
        ·rw [if_neg hc] at ht
         rw [ht]
         simp only [Option.bind_some, Option.map_none]
         clear hc ht hv
         go_enter Tryz.func125, Tryz.ntmps125
         go_wp2_with (first
          | (go_at_call 70; (with_reducible refine (cL.out _).mono ?_); rintro e W1 ⟨rfl, hb1⟩; have HB1 := hid hb1; have HE1 := hid (HE.out.on hb1); clear hb1)
          | (go_at_call 132; (with_reducible refine (cC.out _ HE1.out.max).mono ?_); rintro e W2 ⟨rfl, hb2⟩; have HB2 := hid (tb HB1 hb2); have HE2 := hid (HE1.out.on hb2); clear hb2)
          | (go_at_call 133; (with_reducible refine (cH.out _ HE2.out).mono ?_); rintro e W3 ⟨rfl, hb3⟩; have HB2 := hid (tb HB2 hb3); have HE2 := hid (HE2.out.on hb3); clear hb3)
          | (go_at_call 133; (with_reducible refine (cT.out _ HE2.out).mono ?_); rintro e W4 ⟨rfl, hb4⟩; have HB2 := hid (tb HB2 hb4); clear hb4))
         exact bodyPost_ret (v := .tuple #[.int .i64 a, .int .i64 dt, .bool false]) (by simp [results, Tryz.results125, go_sem]) rfl (show NthR w none _ _ from ⟨⟨_, _, rfl⟩, HB2.out⟩)
     ·rw [hI, ha]
      replace cH := hid cH
      clear hI ha
      cases t with
      | nil =>
       have q8 : (bs []).toList = [] := bs_toList []
       clear cT
       simp only [Option.bind_none]
       go_enter Tryz.func125, Tryz.ntmps125
       go_wp2_with (first
        | (go_at_call 70; (with_reducible refine (cL.out _).mono ?_); rintro e W1 ⟨rfl, hb1⟩; have HB1 := hid hb1; have HE1 := hid (HE.out.on hb1); clear hb1)
        | (go_at_call 132; (with_reducible refine (cC.out _ HE1.out.max).mono ?_); rintro e W2 ⟨rfl, hb2⟩; have HB2 := hid (tb HB1 hb2); have HE2 := hid (HE1.out.on hb2); clear hb2)
        | (go_at_call 133; (with_reducible refine (cH.out _ HE2.out).mono ?_); rintro e W3 ⟨rfl, hb3⟩; have HB2 := hid (tb HB2 hb3); have HE2 := hid (HE2.out.on hb3); clear hb3))
       exact bodyPost_ret (v := .tuple #[.int .i64 d, .int .i64 0, .bool false]) (by simp [results, Tryz.results125, go_sem]) rfl (show NthR w none _ _ from ⟨⟨_, _, rfl⟩, HB2.out⟩)
      | cons c r =>
       have q8 : ((bs (c :: r)).toList == []) = false := by rw [bs_toList]; rfl
       have q9 : ¬ (bs (c :: r)).toList = [] := by rw [bs_toList]; exact List.cons_ne_nil _ _
       have hz9 : 0 < (bs (c :: r)).size := by rw [bs_size]; simp
       have hix := idx_head c r hz9
       have hc : (c = 43 /\ (((c.toNat : Nat) : Int) == 43) = true) ∨ (c = 45 /\ (((c.toNat : Nat) : Int) == 43) = false /\ (((c.toNat : Nat) : Int) == 45) = true) ∨ (¬ (c = 43 ∨ c = 45) /\ (((c.toNat : Nat) : Int) == 43) = false /\ (((c.toNat : Nat) : Int) == 45) = false) := sign_three c
       have ht : tailI (c :: r) = if c = 43 ∨ c = 45 then wholeI (c :: r) else none := by rw [tailI]
       rcases cT with ⟨v, hv, cT⟩ | ⟨hv, dt, cT⟩
       ·replace cT := hid cT
        rw [hv] at ht
        rcases hc with ⟨hc, c43⟩ | ⟨hc, c43, c45⟩ | ⟨hc, c43, c45⟩
        ·rw [if_pos (.inl hc)] at ht
         rw [ht]
         simp only [Option.bind_none]
         clear hc ht hv
         go_enter Tryz.func125, Tryz.ntmps125
         go_wp2_with (first
          | (go_at_call 70; (with_reducible refine (cL.out _).mono ?_); rintro e W1 ⟨rfl, hb1⟩; have HB1 := hid hb1; have HE1 := hid (HE.out.on hb1); clear hb1)
          | (go_at_call 132; (with_reducible refine (cC.out _ HE1.out.max).mono ?_); rintro e W2 ⟨rfl, hb2⟩; have HB2 := hid (tb HB1 hb2); have HE2 := hid (HE1.out.on hb2); clear hb2)
          | (go_at_call 133; (with_reducible refine (cH.out _ HE2.out).mono ?_); rintro e W3 ⟨rfl, hb3⟩; have HB2 := hid (tb HB2 hb3); have HE2 := hid (HE2.out.on hb3); clear hb3)
          | (go_at_call 133; (with_reducible refine (cT.out _ HE2.out).mono ?_); rintro e W4 ⟨rfl, hb4⟩; have HB2 := hid (tb HB2 hb4); clear hb4))
         exact bodyPost_ret (v := .tuple #[.int .i64 d, .int .i64 v, .bool false]) (by simp [results, Tryz.results125, go_sem]) rfl (show NthR w none _ _ from ⟨⟨_, _, rfl⟩, HB2.out⟩)
        ·rw [if_pos (.inr hc)] at ht
         rw [ht]
         simp only [Option.bind_none]
         clear hc ht hv
         go_enter Tryz.func125, Tryz.ntmps125
         go_wp2_with (first
          | (go_at_call 70; (with_reducible refine (cL.out _).mono ?_); rintro e W1 ⟨rfl, hb1⟩; have HB1 := hid hb1; have HE1 := hid (HE.out.on hb1); clear hb1)
          | (go_at_call 132; (with_reducible refine (cC.out _ HE1.out.max).mono ?_); rintro e W2 ⟨rfl, hb2⟩; have HB2 := hid (tb HB1 hb2); have HE2 := hid (HE1.out.on hb2); clear hb2)
          | (go_at_call 133; (with_reducible refine (cH.out _ HE2.out).mono ?_); rintro e W3 ⟨rfl, hb3⟩; have HB2 := hid (tb HB2 hb3); have HE2 := hid (HE2.out.on hb3); clear hb3)
          | (go_at_call 133; (with_reducible refine (cT.out _ HE2.out).mono ?_); rintro e W4 ⟨rfl, hb4⟩; have HB2 := hid (tb HB2 hb4); clear hb4))
         exact bodyPost_ret (v := .tuple #[.int .i64 d, .int .i64 v, .bool false]) (by simp [results, Tryz.results125, go_sem]) rfl (show NthR w none _ _ from ⟨⟨_, _, rfl⟩, HB2.out⟩)
        ·rw [if_neg hc] at ht
         rw [ht]
         simp only [Option.bind_none]
         clear hc ht hv
         go_enter Tryz.func125, Tryz.ntmps125
         go_wp2_with (first
          | (go_at_call 70; (with_reducible refine (cL.out _).mono ?_); rintro e W1 ⟨rfl, hb1⟩; have HB1 := hid hb1; have HE1 := hid (HE.out.on hb1); clear hb1)
          | (go_at_call 132; (with_reducible refine (cC.out _ HE1.out.max).mono ?_); rintro e W2 ⟨rfl, hb2⟩; have HB2 := hid (tb HB1 hb2); have HE2 := hid (HE1.out.on hb2); clear hb2)
          | (go_at_call 133; (with_reducible refine (cH.out _ HE2.out).mono ?_); rintro e W3 ⟨rfl, hb3⟩; have HB2 := hid (tb HB2 hb3); have HE2 := hid (HE2.out.on hb3); clear hb3)
          | (go_at_call 133; (with_reducible refine (cT.out _ HE2.out).mono ?_); rintro e W4 ⟨rfl, hb4⟩; have HB2 := hid (tb HB2 hb4); clear hb4))
         exact bodyPost_ret (v := .tuple #[.int .i64 d, .int .i64 v, .bool false]) (by simp [results, Tryz.results125, go_sem]) rfl (show NthR w none _ _ from ⟨⟨_, _, rfl⟩, HB2.out⟩)
       ·replace cT := hid cT
        rw [hv] at ht
        rcases hc with ⟨hc, c43⟩ | ⟨hc, c43, c45⟩ | ⟨hc, c43, c45⟩
        ·rw [if_pos (.inl hc)] at ht
         rw [ht]
         simp only [Option.bind_none]
         clear hc ht hv
         go_enter Tryz.func125, Tryz.ntmps125
         go_wp2_with (first
          | (go_at_call 70; (with_reducible refine (cL.out _).mono ?_); rintro e W1 ⟨rfl, hb1⟩; have HB1 := hid hb1; have HE1 := hid (HE.out.on hb1); clear hb1)
          | (go_at_call 132; (with_reducible refine (cC.out _ HE1.out.max).mono ?_); rintro e W2 ⟨rfl, hb2⟩; have HB2 := hid (tb HB1 hb2); have HE2 := hid (HE1.out.on hb2); clear hb2)
          | (go_at_call 133; (with_reducible refine (cH.out _ HE2.out).mono ?_); rintro e W3 ⟨rfl, hb3⟩; have HB2 := hid (tb HB2 hb3); have HE2 := hid (HE2.out.on hb3); clear hb3)
          | (go_at_call 133; (with_reducible refine (cT.out _ HE2.out).mono ?_); rintro e W4 ⟨rfl, hb4⟩; have HB2 := hid (tb HB2 hb4); clear hb4))
         exact bodyPost_ret (v := .tuple #[.int .i64 d, .int .i64 dt, .bool false]) (by simp [results, Tryz.results125, go_sem]) rfl (show NthR w none _ _ from ⟨⟨_, _, rfl⟩, HB2.out⟩)
        ·rw [if_pos (.inr hc)] at ht
         rw [ht]
         simp only [Option.bind_none]
         clear hc ht hv
         go_enter Tryz.func125, Tryz.ntmps125
         go_wp2_with (first
          | (go_at_call 70; (with_reducible refine (cL.out _).mono ?_); rintro e W1 ⟨rfl, hb1⟩; have HB1 := hid hb1; have HE1 := hid (HE.out.on hb1); clear hb1)
          | (go_at_call 132; (with_reducible refine (cC.out _ HE1.out.max).mono ?_); rintro e W2 ⟨rfl, hb2⟩; have HB2 := hid (tb HB1 hb2); have HE2 := hid (HE1.out.on hb2); clear hb2)
          | (go_at_call 133; (with_reducible refine (cH.out _ HE2.out).mono ?_); rintro e W3 ⟨rfl, hb3⟩; have HB2 := hid (tb HB2 hb3); have HE2 := hid (HE2.out.on hb3); clear hb3)
          | (go_at_call 133; (with_reducible refine (cT.out _ HE2.out).mono ?_); rintro e W4 ⟨rfl, hb4⟩; have HB2 := hid (tb HB2 hb4); clear hb4))
         exact bodyPost_ret (v := .tuple #[.int .i64 d, .int .i64 dt, .bool false]) (by simp [results, Tryz.results125, go_sem]) rfl (show NthR w none _ _ from ⟨⟨_, _, rfl⟩, HB2.out⟩)
        ·rw [if_neg hc] at ht
         rw [ht]
         simp only [Option.bind_none]
         clear hc ht hv
         go_enter Tryz.func125, Tryz.ntmps125
         go_wp2_with (first
          | (go_at_call 70; (with_reducible refine (cL.out _).mono ?_); rintro e W1 ⟨rfl, hb1⟩; have HB1 := hid hb1; have HE1 := hid (HE.out.on hb1); clear hb1)
          | (go_at_call 132; (with_reducible refine (cC.out _ HE1.out.max).mono ?_); rintro e W2 ⟨rfl, hb2⟩; have HB2 := hid (tb HB1 hb2); have HE2 := hid (HE1.out.on hb2); clear hb2)
          | (go_at_call 133; (with_reducible refine (cH.out _ HE2.out).mono ?_); rintro e W3 ⟨rfl, hb3⟩; have HB2 := hid (tb HB2 hb3); have HE2 := hid (HE2.out.on hb3); clear hb3)
          | (go_at_call 133; (with_reducible refine (cT.out _ HE2.out).mono ?_); rintro e W4 ⟨rfl, hb4⟩; have HB2 := hid (tb HB2 hb4); clear hb4))
         exact bodyPost_ret (v := .tuple #[.int .i64 d, .int .i64 dt, .bool false]) (by simp [results, Tryz.results125, go_sem]) rfl (show NthR w none _ _ from ⟨⟨_, _, rfl⟩, HB2.out⟩)
end sel
namespace sel
open Go.RowKit base tok rul
theorem Blk_grown {w w' : World} {k b : Nat} {t : TypeId} {cs : Array Value} (h : Blk w k t cs) (hg : w.grownBy w' (some b)) (hk : k ≠ b) : Blk w' k t cs := (hg.block k h.lt (fun e => hk (Option.some.inj e))).trans h
theorem below_one {w w' : World} {b : Nat} (hg : w.grownBy w' (some b)) (hb : b < w.heap.size) : Below b w w' := (Below.refl b w).grown hg (Nat.le_of_lt hb) (fun k e => by cases e; exact Nat.le_refl _)
theorem blk_seven {w : World} {k : Nat} {t : TypeId} {a0 a1 a2 a3 a4 a5 a6 : Value} (h : Blk w k t #[a0, a1, a2, a3, a4, a5, a6]) (x0 x1 x2 x3 x4 x5 x6 : Value) : Blk (((((((w.setCell ⟨k, 0, none⟩ x0).setCell ⟨k, 1, none⟩ x1).setCell ⟨k, 2, none⟩ x2).setCell ⟨k, 3, none⟩ x3).setCell ⟨k, 4, none⟩ x4).setCell ⟨k, 5, none⟩ x5).setCell ⟨k, 6, none⟩ x6) k t #[x0, x1, x2, x3, x4, x5, x6] := by
 have h0 : Blk (w.setCell ⟨k, 0, none⟩ x0) k t #[x0, a1, a2, a3, a4, a5, a6] := h.put 0 x0
 have h1 : Blk ((w.setCell ⟨k, 0, none⟩ x0).setCell ⟨k, 1, none⟩ x1) k t #[x0, x1, a2, a3, a4, a5, a6] := h0.put 1 x1
 have h2 : Blk (((w.setCell ⟨k, 0, none⟩ x0).setCell ⟨k, 1, none⟩ x1).setCell ⟨k, 2, none⟩ x2) k t #[x0, x1, x2, a3, a4, a5, a6] := h1.put 2 x2
 have h3 : Blk ((((w.setCell ⟨k, 0, none⟩ x0).setCell ⟨k, 1, none⟩ x1).setCell ⟨k, 2, none⟩ x2).setCell ⟨k, 3, none⟩ x3) k t #[x0, x1, x2, x3, a4, a5, a6] := h2.put 3 x3
 have h4 : Blk (((((w.setCell ⟨k, 0, none⟩ x0).setCell ⟨k, 1, none⟩ x1).setCell ⟨k, 2, none⟩ x2).setCell ⟨k, 3, none⟩ x3).setCell ⟨k, 4, none⟩ x4) k t #[x0, x1, x2, x3, x4, a5, a6] := h3.put 4 x4
 have h5 : Blk ((((((w.setCell ⟨k, 0, none⟩ x0).setCell ⟨k, 1, none⟩ x1).setCell ⟨k, 2, none⟩ x2).setCell ⟨k, 3, none⟩ x3).setCell ⟨k, 4, none⟩ x4).setCell ⟨k, 5, none⟩ x5) k t #[x0, x1, x2, x3, x4, x5, a6] := h4.put 5 x5
 exact h5.put 6 x6
theorem RdrS.seven {w : World} {b k : Nat} {L : List Tk} (h : RdrS w b L) (hk : b < k) (x0 x1 x2 x3 x4 x5 x6 : Value) : RdrS (((((((w.setCell ⟨k, 0, none⟩ x0).setCell ⟨k, 1, none⟩ x1).setCell ⟨k, 2, none⟩ x2).setCell ⟨k, 3, none⟩ x3).setCell ⟨k, 4, none⟩ x4).setCell ⟨k, 5, none⟩ x5).setCell ⟨k, 6, none⟩ x6) b L :=
 ((((((h.far (p := ⟨k, 0, none⟩) hk x0).far (p := ⟨k, 1, none⟩) hk x1).far (p := ⟨k, 2, none⟩) hk x2).far (p := ⟨k, 3, none⟩) hk x3).far (p := ⟨k, 4, none⟩) hk x4).far (p := ⟨k, 5, none⟩) hk x5).far (p := ⟨k, 6, none⟩) hk x6
theorem grown_seven {w w' : World} {b k : Nat} (h : w.grownBy w' (some b)) (hk : w.heap.size <= k) (x0 x1 x2 x3 x4 x5 x6 : Value) : w.grownBy (((((((w'.setCell ⟨k, 0, none⟩ x0).setCell ⟨k, 1, none⟩ x1).setCell ⟨k, 2, none⟩ x2).setCell ⟨k, 3, none⟩ x3).setCell ⟨k, 4, none⟩ x4).setCell ⟨k, 5, none⟩ x5).setCell ⟨k, 6, none⟩ x6) (some b) :=
 grown_far (p := ⟨k, 6, none⟩) (grown_far (p := ⟨k, 5, none⟩) (grown_far (p := ⟨k, 4, none⟩) (grown_far (p := ⟨k, 3, none⟩) (grown_far (p := ⟨k, 2, none⟩) (grown_far (p := ⟨k, 1, none⟩) (grown_far (p := ⟨k, 0, none⟩) h hk) hk) hk) hk) hk) hk) hk
def EnvS (b : Nat) (w : World) : Prop := ∀ w', Below b w w' -> SEnv w'
theorem EnvS.on {b : Nat} {w w' : World} (h : EnvS b w) (hb : Below b w w') : EnvS b w' := fun v hv => h v (hb.trans hv)
theorem EnvS.at_ {b : Nat} {w w' : World} (h : EnvS b w) (hb : Below b w w') : SEnv w' := h w' hb
def leafV : Ts -> Value
 | .mk k n op v a b _ => (aTs k (bs n) (nv op) (bs v) a b none 0 0)
def RetA (b : Nat) (w : World) : Option (Ts × List Tk) -> Ending -> World -> Prop
 | some r, e, w' => e = .returned (leafV r.1) /\ RdrS w' b r.2 /\ w.grownBy w' (some b)
 | none, e, w' => e = .panicked chainN /\ w.grownBy w' (some b)
theorem counted_ct (b : Nat) (k : Int) (L : List Tk) (hg : GoodS L) (w : World) (h : RdrS w b L) (hE : EnvS b w) :
  Calls Tryz.prog 119 #[(pn b), .int .i64 k] w (RetA b w (countedF k L)) := by
 obtain ⟨O, hO⟩ : ∃ O, countedF k L = O := ⟨_, rfl⟩
 rw [hO]
 rw [show countedF k L = (countG [] L).bind fun r => (nthI r.1).map fun p => (.mk k [] 0 [] p.1 p.2 [], r.2) from rfl] at hO
 generalize hR : countG [] L = R at hO
 replace hO := hid hO
 have hblt := h.lt
 have hL4 := hg.1
 have H0 := hid h
 have hfd := field_raw
 have cY := hid (need_yes b)
 have cX := hid (need_no b)
 replace hE := hid hE
 replace hR := hid hR
 clear h
 go_enter Tryz.func119, Tryz.ntmps119
 go_wp2_with fail
 go_loopw [5] (fun x wr => ∃ (acc : Bs) (M : List Tk), x = .string (bs acc) /\ countG acc M = R /\ acc.length + 400 * M.length <= 160000 /\ M <:+ L /\ RdrS wr b M /\ w.grownBy wr (some b) /\ Blk wr w.heap.size 26 rZ) (fun _ wr => sel.lenV (wr.cell? ⟨b, 0, none⟩))
 case atStart => exact ⟨[], L, rfl, hR.out, by simp only [List.length_nil]; omega, List.suffix_refl _, H0.out.alloc _, World.grownBy_alloc _ _ _, Blk.new rfl⟩
 case round =>
  clear H0 hR
  obtain ⟨acc, M, rfl, hR, hal, hsf, hr, hgr, hz⟩ := hrel
  have hlenV := hr.lenV
  have hwz := hgr.size
  have HR := hid hr
  have HG := hid hgr
  have HZ := hid hz
  clear hr hgr hz
  cases M with
  | nil =>
   rw [countG] at hR
   subst hR
   obtain rfl : none = O := hO.out
   have cR := hid (fun w h => raw_no b [] ⟨#[41]⟩ w h (by decide))
   have cK := hid (fun w h => next_no b w h)
   go_wp2_with (first
    | (go_at_call 29; (with_reducible refine (cR.out _ HR.out).mono ?_); rintro e W1 ⟨rfl, hb1⟩; have HR1 := hid (HR.out.on hb1 HR.out.lt); have HG1 := hid (HG.out.trans (grown_of_below hb1 (some b))); have HZ1 := hid (HZ.out.below hb1 HZ.out.lt); clear hb1)
    | (go_at_call 59; (with_reducible refine (cK.out _ HR1.out).mono ?_); rintro e W2 ⟨rfl, hg2⟩; have HG2 := hid (HG1.out.trans hg2); clear hg2))
   exact ⟨rfl, rfl, HG2.out⟩
  | cons t M =>
   have ht := hg.2 t (hsf.subset (List.mem_cons_self ..))
   obtain ⟨hk0, -, hrl, -⟩ := ht
   simp only [List.length_cons] at hal hlenV
   by_cases h41 : t.raw = [41]
   ·rw [countG, if_pos h41] at hR
    subst hR
    have hO2 := hO.out
    have cR := hid (fun w h => raw_yes b t M ⟨#[41]⟩ w h h41)
    have cN := fun w hE => nth_ct acc (by omega) w hE
    rw [Option.bind_some] at hO2
    clear h41 hO
    cases hn : nthI acc with
    | some p =>
     obtain ⟨p1, p2⟩ := p
     rw [hn] at cN hO2
     obtain rfl : some (.mk k [] 0 [] p1 p2 [], M) = O := hO2
     unfold NthR at cN
     replace cN := hid cN
     clear hn
     go_wp2_with (first
      | (go_at_call 29; (with_reducible refine (cR.out _ HR.out).mono ?_); rintro e W1 ⟨rfl, hr1, hg1⟩; have HR1 := hid hr1; have HG1 := hid (HG.out.trans hg1); have HZ1 := hid (Blk_grown HZ.out hg1 (by omega)); have hz1 := hg1.size; clear hr1 hg1)
      | (go_at_call 125; (with_reducible refine (cN.out _ (hE.out.at_ (below_one HG1.out hblt))).mono ?_); rintro e W2 ⟨rfl, hb2⟩; have HR2 := hid (HR1.out.on hb2 HR1.out.lt); have HG2 := hid (HG1.out.trans (grown_of_below hb2 (some b))); have z2 := HZ1.out.below hb2 HZ1.out.lt; have z2c := z2.cell; have z2f := z2.frozen; have HZ2 := hid z2; clear hb2 z2)
      | (go_at_call 30; (with_reducible refine (cY.out _).mono ?_); rintro e W3 ⟨rfl, rfl⟩))
     have e := Blk.cell (blk_seven HZ2.out (.int .i64 k) (.string ⟨#[]⟩) (.int .u8 0) (.string ⟨#[]⟩) (.int .i64 p1) (.int .i64 p2) (.slice none 0 0))
     refine bodyPost_ret (v := (aTs k ⟨#[]⟩ 0 ⟨#[]⟩ p1 p2 none 0 0)) (by simp [results, Tryz.results119, go_sem, e]) rfl (show RetA b w (some (.mk k [] 0 [] p1 p2 [], M)) _ _ from ⟨rfl, ?_, ?_⟩)
     ·exact HR2.out.seven hblt _ _ _ _ _ _ _
     ·exact grown_seven HG2.out (Nat.le_refl _) _ _ _ _ _ _ _
    | none =>
     rw [hn] at cN hO2
     obtain rfl : none = O := hO2
     unfold NthR at cN
     replace cN := hid cN
     clear hn
     go_wp2_with (first
      | (go_at_call 29; (with_reducible refine (cR.out _ HR.out).mono ?_); rintro e W1 ⟨rfl, hr1, hg1⟩; have HR1 := hid hr1; have HG1 := hid (HG.out.trans hg1); have HZ1 := hid (Blk_grown HZ.out hg1 (by omega)); have hz1 := hg1.size; clear hr1 hg1)
      | (go_at_call 125; (with_reducible refine (cN.out _ (hE.out.at_ (below_one HG1.out hblt))).mono ?_); rintro e W2 ⟨⟨a, c, rfl⟩, hb2⟩; have HG2 := hid (HG1.out.trans (grown_of_below hb2 (some b))); clear hb2)
      | (go_at_call 30; (with_reducible refine (cX.out _).mono ?_); rintro e W3 ⟨rfl, rfl⟩))
     exact ⟨rfl, rfl, HG2.out⟩
   ·rw [countG, if_neg h41] at hR
    have cR := hid (fun w h => raw_no b (t :: M) ⟨#[41]⟩ w h h41)
    have cK := hid (fun w h => next_yes b t M hk0 w h)
    have hcat := bs_cat acc t.raw
    have hs1 : (bs acc).size = acc.length := rfl
    have hs2 : (bs t.raw).size = t.raw.length := rfl
    have a1 : ¬ 9223372036854775807 < (bs acc).size + (bs t.raw).size := by omega
    replace hR := hid hR
    clear h41 hs1 hs2
    go_wp2_with (first
     | (go_at_call 29; (with_reducible refine (cR.out _ HR.out).mono ?_); rintro e W1 ⟨rfl, hb1⟩; have HR1 := hid (HR.out.on hb1 HR.out.lt); have HG1 := hid (HG.out.trans (grown_of_below hb1 (some b))); have HZ1 := hid (HZ.out.below hb1 HZ.out.lt); clear hb1)
     | (go_at_call 59; (with_reducible refine (cK.out _ HR1.out).mono ?_); rintro e W2 ⟨rfl, hr2, hg2⟩; unfold tv; have HR2 := hid hr2; have HG2 := hid (HG1.out.trans hg2); have HZ2 := hid (Blk_grown HZ1.out hg2 (by omega)); clear hr2 hg2))
    go_roundw
    case rel => exact ⟨acc ++ t.raw, M, rfl, hR.out, by rw [List.length_append]; omega, (List.suffix_cons t M).trans hsf, HR2.out, HG2.out, HZ2.out⟩
    case measure =>
     rw [HR2.out.lenV, hlenV]
     omega
end sel
end Go.Proofs.YtaobpkffcolobaaGreatDoor
