/- Contracts and plain law, a bundle. -/
import Derived.Lib.Hide
import Derived.Test.YthgffoanecknoaaGreatDoorCC
set_option linter.unusedVariables false
set_option maxRecDepth 100000
set_option maxHeartbeats 16000000
open Go.Lib (hid)
namespace Go.Proofs.YthgffoanecknoaaGreatDoor
namespace prp
open Go.RowKit Go.Sort base tok
set_option linter.unusedSimpArgs false
theorem letter_one (k : Int) : ∃ c, letterP k = [c] := by
 unfold letterP
 repeat' (first | exact ⟨_, rfl⟩ | split)
def hasR (kd : Bs) (k : Int) : Bool := decide (0 <= Lib.indexByte kd ((letterP k).headD 0))
def lowZ (p : Nat) (ab : Bool) : Int := if p = 37 then 64 else if ab then 0 else -16777216
def highZ (p : Nat) : Int := if p = 34 then 1000 else 16777216
def fitsR (p : Nat) (kd ks : Bs) (ab : Bool) (k n : Int) : Bool :=
 hasR kd k && (if k = 1 then !decide (keyV ks n = ⟨#[]⟩) else if k = 6 then decide (n = 0) else if k = 5 then decide (0 <= n) && decide (n < 4294967296)
  else !((decide (p = 31) || decide (p = 53)) && !decide (n.tmod 1000 = 0)) && (decide (lowZ p ab <= n) && decide (n <= highZ p)))
def fitsP (p : Nat) (k n : Int) : Bool := fitsR p (rowP p).kinds (rowP p).keys (rowP p).above k n
theorem keys_len : ∀ p : Fin 59, (rowP p.val).keys.length < 200 := by decide +kernel
theorem fits_no (p : Nat) (hp : p < 59) (kd : Bs) (hkd : (rowP p).kinds = kd) (k n : Int) (hH : hasR kd k = false) (w : World) : Calls Tryz.prog 20 #[.int .i64 p, .agg #[.int .i64 k, .int .i64 n]] w fun e w' => e = .returned (.bool false) /\ Below w.heap.size w w' := by
 have hfd := field_row1
 obtain ⟨c, hc⟩ := letter_one k
 unfold hasR at hH
 rw [hc] at hH
 have cA0 := at_ct p hp
 have cL0 := letter_any k
 rw [hc] at cL0
 unfold rowV at cA0
 rw [hkd] at cA0
 generalize (rowP p).name = nm at *
 generalize (rowP p).keys = ks at *
 generalize (rowP p).auto = au at *
 generalize (rowP p).above = ab at *
 have cI0 := fun w => in_yes p hp w
 have cC0 : ∀ w, Calls Tryz.prog 39 #[.string (bs kd), .string (bs [c])] w fun e w' => e = .returned (.bool false) /\ Below w.heap.size w w' := fun w =>
  (Tryz.strings_Contains_one (bs kd) c w).mono fun e w' ⟨h1, h2⟩ => ⟨by rw [h1]; exact congrArg (fun b => Ending.returned (.bool b)) hH, by rw [h2]; exact Below.refl _ _⟩
 obtain ⟨W1, hW1⟩ : ∃ W1, w.alloc (.cells #[.int .i64 k, .int .i64 n] 36) = W1 := ⟨_, rfl⟩
 have Q1 := hid (show Blk W1 w.heap.size 36 #[.int .i64 k, .int .i64 n] by rw [<- hW1]; exact Blk.new rfl)
 have HB1 := hid (show Below w.heap.size w W1 by rw [<- hW1]; exact ba _ _)
 have k0 := cell_regrown (show W1.cell? ⟨w.heap.size, 0, none⟩ = some (.int .i64 k) from Q1.out.cell 0)
 have k1 := cell_regrown (show W1.cell? ⟨w.heap.size, 1, none⟩ = some (.int .i64 n) from Q1.out.cell 1)
 have qA : ∀ d os, Calls Tryz.prog 30 #[.int .i64 p] (grow (redrawn W1 d) os) fun e w'' => e = .returned (.agg #[.string (bs nm), .string (bs kd), .string (bs ks), .string (bs au), .bool ab]) /\ ∃ p : Regrown, w'' = grow (redrawn W1 p.d) p.os := fun d os => Calls.regrown_of (cA0 _)
 have qI : ∀ d os, Calls Tryz.prog 38 #[.int .i64 p] (grow (redrawn W1 d) os) fun e w'' => e = .returned (.bool true) /\ ∃ p : Regrown, w'' = grow (redrawn W1 p.d) p.os := fun d os => Calls.regrown_of (cI0 _)
 have qL : ∀ d os, Calls Tryz.prog 40 #[.int .i64 k] (grow (redrawn W1 d) os) fun e w'' => e = .returned (.string (bs [c])) /\ ∃ p : Regrown, w'' = grow (redrawn W1 p.d) p.os := fun d os => Calls.regrown_of (cL0 _)
 have qC : ∀ d os, Calls Tryz.prog 39 #[.string (bs kd), .string (bs [c])] (grow (redrawn W1 d) os) fun e w'' => e = .returned (.bool false) /\ ∃ p : Regrown, w'' = grow (redrawn W1 p.d) p.os := fun d os => Calls.regrown_of (cC0 _)
 clear cA0 cL0 cI0 cC0
 go_enter Tryz.func20, Tryz.ntmps20
 go_wp2_with fail
 refine wp_region_quiet_below (by kernel_rfl) (by kernel_rfl) ?_
 repeat (quiet_step (first | exact qI _ _ | exact qA _ _ | exact qL _ _ | exact qC _ _))
 refine wpQuiet_nil ?_
 intro _ hw'
 obtain ⟨⟨dq, osq⟩, hw''⟩ := hw'
 subst hw''
 have hb2 := below_regrown W1 dq osq
 have HB2 := hid (tb HB1 hb2)
 clear hb2 k0 k1 qA qI qL qC
 generalize grow (redrawn W1 dq) osq = W2 at *
 go_wp2_with fail
 exact bodyPost_ret (v := .bool false) (by simp [results, Tryz.results20, go_sem]) rfl ⟨rfl, HB2.out⟩
theorem fits_has (p : Nat) (hp : p < 59) (kd ks : Bs) (ab : Bool) (hkd : (rowP p).kinds = kd) (hks : (rowP p).keys = ks) (hab : (rowP p).above = ab) (k n : Int) (hn : -9223372036854775808 <= n /\ n <= 9223372036854775807) (hH : hasR kd k = true) (hk : k = 1 ∨ k = 6 ∨ k = 5 ∨ k = 2 ∨ k = 3 ∨ k = 4) (w : World) (hm : MaxL w) : Calls Tryz.prog 20 #[.int .i64 p, .agg #[.int .i64 k, .int .i64 n]] w fun e w' => e = .returned (.bool (fitsR p kd ks ab k n)) /\ Below w.heap.size w w' := by
 have hfd := field_row1
 obtain ⟨c, hc⟩ := letter_one k
 have hkl : ks.length < 200 := hks ▸ keys_len ⟨p, hp⟩
 unfold fitsR
 rw [hH, Bool.true_and]
 unfold hasR at hH
 rw [hc] at hH
 have cA0 := at_ct p hp
 have cL0 := letter_any k
 rw [hc] at cL0
 unfold rowV at cA0
 rw [hkd, hks, hab] at cA0
 generalize (rowP p).name = nm at *
 generalize (rowP p).auto = au at *
 have cI0 := fun w => in_yes p hp w
 have cC0 : ∀ w, Calls Tryz.prog 39 #[.string (bs kd), .string (bs [c])] w fun e w' => e = .returned (.bool true) /\ Below w.heap.size w w' := fun w =>
  (Tryz.strings_Contains_one (bs kd) c w).mono fun e w' ⟨h1, h2⟩ => ⟨by rw [h1]; exact congrArg (fun b => Ending.returned (.bool b)) hH, by rw [h2]; exact Below.refl _ _⟩
 have cK := hid (fun w hm => key_ct (bs nm) (bs kd) (bs au) ks ab n (by omega) w hm)
 have HM := hid hm
 obtain ⟨X, hX0⟩ : ∃ X, (if k = 1 then !decide (keyV ks n = ⟨#[]⟩) else if k = 6 then decide (n = 0) else if k = 5 then decide (0 <= n) && decide (n < 4294967296) else !((decide (p = 31) || decide (p = 53)) && !decide (n.tmod 1000 = 0)) && (decide (lowZ p ab <= n) && decide (n <= highZ p))) = X := ⟨_, rfl⟩
 rw [hX0]
 have hX := hid hX0
 clear hm hkd hks hab hc hkl hX0
 obtain ⟨W1, hW1⟩ : ∃ W1, w.alloc (.cells #[.int .i64 k, .int .i64 n] 36) = W1 := ⟨_, rfl⟩
 have Q1 := hid (show Blk W1 w.heap.size 36 #[.int .i64 k, .int .i64 n] by rw [<- hW1]; exact Blk.new rfl)
 have HB1 := hid (show Below w.heap.size w W1 by rw [<- hW1]; exact ba _ _)
 have k0 := cell_regrown (show W1.cell? ⟨w.heap.size, 0, none⟩ = some (.int .i64 k) from Q1.out.cell 0)
 have k1 := cell_regrown (show W1.cell? ⟨w.heap.size, 1, none⟩ = some (.int .i64 n) from Q1.out.cell 1)
 have qA : ∀ d os, Calls Tryz.prog 30 #[.int .i64 p] (grow (redrawn W1 d) os) fun e w'' => e = .returned (.agg #[.string (bs nm), .string (bs kd), .string (bs ks), .string (bs au), .bool ab]) /\ ∃ p : Regrown, w'' = grow (redrawn W1 p.d) p.os := fun d os => Calls.regrown_of (cA0 _)
 have qI : ∀ d os, Calls Tryz.prog 38 #[.int .i64 p] (grow (redrawn W1 d) os) fun e w'' => e = .returned (.bool true) /\ ∃ p : Regrown, w'' = grow (redrawn W1 p.d) p.os := fun d os => Calls.regrown_of (cI0 _)
 have qL : ∀ d os, Calls Tryz.prog 40 #[.int .i64 k] (grow (redrawn W1 d) os) fun e w'' => e = .returned (.string (bs [c])) /\ ∃ p : Regrown, w'' = grow (redrawn W1 p.d) p.os := fun d os => Calls.regrown_of (cL0 _)
 have qC : ∀ d os, Calls Tryz.prog 39 #[.string (bs kd), .string (bs [c])] (grow (redrawn W1 d) os) fun e w'' => e = .returned (.bool true) /\ ∃ p : Regrown, w'' = grow (redrawn W1 p.d) p.os := fun d os => Calls.regrown_of (cC0 _)
 have cA := hid cA0
 clear cA0 cL0 cI0 cC0
 go_enter Tryz.func20, Tryz.ntmps20
 go_wp2_with fail
 refine wp_region_quiet_below (by kernel_rfl) (by kernel_rfl) ?_
 repeat (quiet_step (first | exact qI _ _ | exact qA _ _ | exact qL _ _ | exact qC _ _))
 refine wpQuiet_nil ?_
 intro _ hw'
 obtain ⟨⟨dq, osq⟩, hw''⟩ := hw'
 subst hw''
 have hb2 := below_regrown W1 dq osq
 have hq2 := Q1.out.below hb2 Q1.out.lt
 have Q2 := hid hq2
 have HB2 := hid (tb HB1 hb2)
 have q2c := hq2.cell
 clear hb2 hq2 k0 k1 qA qI qL qC
 generalize grow (redrawn W1 dq) osq = W2 at *
 rcases hk with rfl | rfl | rfl | hk
 ·have e1 : X = !decide (keyV ks n = ⟨#[]⟩) := hX.out.symm.trans (if_pos rfl)
  clear hX
  generalize keyV ks n = K at *
  by_cases hK : K = ⟨#[]⟩
  ·subst hK
   rw [decide_eq_true rfl] at e1
   subst e1
   go_wp2_with (first
    | (go_at_call 30; (with_reducible refine (cA.out _).mono ?_); rintro e W3 ⟨rfl, hb⟩; have Q3 := hid (Q2.out.below hb Q2.out.lt); have HB3 := hid (tb HB2 hb); have Q4 := hid (Q3.out.alloc (.cells #[.string (bs nm), .string (bs kd), .string (bs ks), .string (bs au), .bool ab] 73)); have q4c := Q4.out.cell; have l3 := Q3.out.lt; have HB4 := hid (HB3.out.alloc HB3.out.size (.cells #[.string (bs nm), .string (bs kd), .string (bs ks), .string (bs au), .bool ab] 73)); clear hb)
    | (go_at_call 41; (with_reducible refine (cK.out _ (HM.out.on HB4.out HM.out.lt)).mono ?_); rintro e W5 ⟨rfl, hb⟩; have HB5 := hid (tb HB4 hb); clear hb))
   exact bodyPost_ret (v := .bool false) (by simp [results, Tryz.results20, go_sem]) rfl ⟨rfl, HB5.out⟩
  ·have h6 : (K.toList == []) = false := by
    rw [beq_eq_false_iff_ne]
    intro e
    apply hK
    have := congrArg bs e
    rw [bs_back] at this
    exact this
   rw [decide_eq_false hK] at e1
   subst e1
   go_wp2_with (first
    | (go_at_call 30; (with_reducible refine (cA.out _).mono ?_); rintro e W3 ⟨rfl, hb⟩; have Q3 := hid (Q2.out.below hb Q2.out.lt); have HB3 := hid (tb HB2 hb); have Q4 := hid (Q3.out.alloc (.cells #[.string (bs nm), .string (bs kd), .string (bs ks), .string (bs au), .bool ab] 73)); have q4c := Q4.out.cell; have l3 := Q3.out.lt; have HB4 := hid (HB3.out.alloc HB3.out.size (.cells #[.string (bs nm), .string (bs kd), .string (bs ks), .string (bs au), .bool ab] 73)); clear hb)
    | (go_at_call 41; (with_reducible refine (cK.out _ (HM.out.on HB4.out HM.out.lt)).mono ?_); rintro e W5 ⟨rfl, hb⟩; have HB5 := hid (tb HB4 hb); clear hb))
   exact bodyPost_ret (v := .bool true) (by simp [results, Tryz.results20, go_sem]) rfl ⟨rfl, HB5.out⟩
 ·have e1 : X = decide (n = 0) := hX.out.symm.trans ((if_neg (by decide)).trans (if_pos rfl))
  clear hX
  by_cases hn : n = 0
  ·subst hn
   rw [decide_eq_true rfl] at e1
   subst e1
   go_wp2_with (first
    | (go_at_call 30; (with_reducible refine (cA.out _).mono ?_); rintro e W3 ⟨rfl, hb⟩; have Q3 := hid (Q2.out.below hb Q2.out.lt); have HB3 := hid (tb HB2 hb); have Q4 := hid (Q3.out.alloc (.cells #[.string (bs nm), .string (bs kd), .string (bs ks), .string (bs au), .bool ab] 73)); have q4c := Q4.out.cell; have l3 := Q3.out.lt; have HB4 := hid (HB3.out.alloc HB3.out.size (.cells #[.string (bs nm), .string (bs kd), .string (bs ks), .string (bs au), .bool ab] 73)); clear hb)
    | (go_at_call 41; (with_reducible refine (cK.out _ (HM.out.on HB4.out HM.out.lt)).mono ?_); rintro e W5 ⟨rfl, hb⟩; have HB5 := hid (tb HB4 hb); clear hb))
   exact bodyPost_ret (v := .bool true) (by simp [results, Tryz.results20, go_sem] <;> omega) rfl ⟨rfl, HB4.out⟩
  ·rw [decide_eq_false hn] at e1
   subst e1
   go_wp2_with (first
    | (go_at_call 30; (with_reducible refine (cA.out _).mono ?_); rintro e W3 ⟨rfl, hb⟩; have Q3 := hid (Q2.out.below hb Q2.out.lt); have HB3 := hid (tb HB2 hb); have Q4 := hid (Q3.out.alloc (.cells #[.string (bs nm), .string (bs kd), .string (bs ks), .string (bs au), .bool ab] 73)); have q4c := Q4.out.cell; have l3 := Q3.out.lt; have HB4 := hid (HB3.out.alloc HB3.out.size (.cells #[.string (bs nm), .string (bs kd), .string (bs ks), .string (bs au), .bool ab] 73)); clear hb)
    | (go_at_call 41; (with_reducible refine (cK.out _ (HM.out.on HB4.out HM.out.lt)).mono ?_); rintro e W5 ⟨rfl, hb⟩; have HB5 := hid (tb HB4 hb); clear hb))
   exact bodyPost_ret (v := .bool false) (by simp [results, Tryz.results20, go_sem] <;> omega) rfl ⟨rfl, HB4.out⟩
 ·have e1 : X = (decide (0 <= n) && decide (n < 4294967296)) := hX.out.symm.trans ((if_neg (by decide)).trans ((if_neg (by decide)).trans (if_pos rfl)))
  clear hX
  by_cases h0 : 0 <= n
  ·by_cases h1 : n < 4294967296
   ·rw [decide_eq_true h0, decide_eq_true h1] at e1
    subst e1
    go_wp2_with (first
    | (go_at_call 30; (with_reducible refine (cA.out _).mono ?_); rintro e W3 ⟨rfl, hb⟩; have Q3 := hid (Q2.out.below hb Q2.out.lt); have HB3 := hid (tb HB2 hb); have Q4 := hid (Q3.out.alloc (.cells #[.string (bs nm), .string (bs kd), .string (bs ks), .string (bs au), .bool ab] 73)); have q4c := Q4.out.cell; have l3 := Q3.out.lt; have HB4 := hid (HB3.out.alloc HB3.out.size (.cells #[.string (bs nm), .string (bs kd), .string (bs ks), .string (bs au), .bool ab] 73)); clear hb)
    | (go_at_call 41; (with_reducible refine (cK.out _ (HM.out.on HB4.out HM.out.lt)).mono ?_); rintro e W5 ⟨rfl, hb⟩; have HB5 := hid (tb HB4 hb); clear hb))
    exact bodyPost_ret (v := .bool true) (by simp [results, Tryz.results20, go_sem] <;> omega) rfl ⟨rfl, HB4.out⟩
   ·rw [decide_eq_true h0, decide_eq_false h1] at e1
    subst e1
    go_wp2_with (first
    | (go_at_call 30; (with_reducible refine (cA.out _).mono ?_); rintro e W3 ⟨rfl, hb⟩; have Q3 := hid (Q2.out.below hb Q2.out.lt); have HB3 := hid (tb HB2 hb); have Q4 := hid (Q3.out.alloc (.cells #[.string (bs nm), .string (bs kd), .string (bs ks), .string (bs au), .bool ab] 73)); have q4c := Q4.out.cell; have l3 := Q3.out.lt; have HB4 := hid (HB3.out.alloc HB3.out.size (.cells #[.string (bs nm), .string (bs kd), .string (bs ks), .string (bs au), .bool ab] 73)); clear hb)
    | (go_at_call 41; (with_reducible refine (cK.out _ (HM.out.on HB4.out HM.out.lt)).mono ?_); rintro e W5 ⟨rfl, hb⟩; have HB5 := hid (tb HB4 hb); clear hb))
    exact bodyPost_ret (v := .bool false) (by simp [results, Tryz.results20, go_sem] <;> omega) rfl ⟨rfl, HB4.out⟩
  ·rw [decide_eq_false h0] at e1
   subst e1
   go_wp2_with (first
    | (go_at_call 30; (with_reducible refine (cA.out _).mono ?_); rintro e W3 ⟨rfl, hb⟩; have Q3 := hid (Q2.out.below hb Q2.out.lt); have HB3 := hid (tb HB2 hb); have Q4 := hid (Q3.out.alloc (.cells #[.string (bs nm), .string (bs kd), .string (bs ks), .string (bs au), .bool ab] 73)); have q4c := Q4.out.cell; have l3 := Q3.out.lt; have HB4 := hid (HB3.out.alloc HB3.out.size (.cells #[.string (bs nm), .string (bs kd), .string (bs ks), .string (bs au), .bool ab] 73)); clear hb)
    | (go_at_call 41; (with_reducible refine (cK.out _ (HM.out.on HB4.out HM.out.lt)).mono ?_); rintro e W5 ⟨rfl, hb⟩; have HB5 := hid (tb HB4 hb); clear hb))
   exact bodyPost_ret (v := .bool false) (by simp [results, Tryz.results20, go_sem] <;> omega) rfl ⟨rfl, HB4.out⟩
 ·have e1 : X = (!((decide (p = 31) || decide (p = 53)) && !decide (n.tmod 1000 = 0)) && (decide (lowZ p ab <= n) && decide (n <= highZ p))) := hX.out.symm.trans ((if_neg (by omega)).trans ((if_neg (by omega)).trans (if_neg (by omega))))
  clear hX
  have k1 : ¬ k = 1 := by omega
  have k6 : ¬ k = 6 := by omega
  have k5 : ¬ k = 5 := by omega
  clear hk
  have tm : IntKind.i64.wrap (n.tmod 1000) = n.tmod 1000 := IntWalk.i64_in _ (by have h1 := Int.tmod_lt_of_pos n (show (0 : Int) < 1000 by decide); have h2 := Int.tmod_lt_of_pos (-n) (show (0 : Int) < 1000 by decide); rw [Int.neg_tmod] at h2; omega)
  have h0 : lowZ p ab <= n ∨ ¬ lowZ p ab <= n := by omega
  have h1 : n <= highZ p ∨ ¬ n <= highZ p := by omega
  have h2 : n.tmod 1000 = 0 ∨ ¬ n.tmod 1000 = 0 := by omega
  have h3 : p = 37 ∨ p = 34 ∨ p = 31 ∨ p = 53 ∨ (¬ p = 37 /\ ¬ p = 34 /\ ¬ p = 31 /\ ¬ p = 53) := by omega
  cases ab
  ·rcases h3 with rfl | rfl | rfl | rfl | ⟨a1, a2, a3, a4⟩
   ·replace cA := hid (fun w => show Calls Tryz.prog 30 #[.int .i64 37] w fun e w' => e = .returned (.agg #[.string (bs nm), .string (bs kd), .string (bs ks), .string (bs au), .bool false]) /\ RowKit.Below w.heap.size w w' from cA.out w)
    by_cases h0 : 64 <= n
    ·by_cases h1 : n <= 16777216
     ·have e2 : X = true := by rw [e1]; simp [show lowZ 37 false = 64 from rfl, show highZ 37 = 16777216 from rfl, h0, h1]
      clear e1
      subst e2
      go_wp2_with (first
          | (go_at_call 30; (with_reducible refine (cA.out _).mono ?_); rintro e W3 ⟨rfl, hb⟩; have Q3 := hid (Q2.out.below hb Q2.out.lt); have HB3 := hid (tb HB2 hb); have Q4 := hid (Q3.out.alloc (.cells #[.string (bs nm), .string (bs kd), .string (bs ks), .string (bs au), .bool false] 73)); have q4c := Q4.out.cell; have l3 := Q3.out.lt; have HB4 := hid (HB3.out.alloc HB3.out.size (.cells #[.string (bs nm), .string (bs kd), .string (bs ks), .string (bs au), .bool false] 73)); clear hb)
          | (go_at_call 41; (with_reducible refine (cK.out _ (HM.out.on HB4.out HM.out.lt)).mono ?_); rintro e W5 ⟨rfl, hb⟩; have HB5 := hid (tb HB4 hb); clear hb))
      exact bodyPost_ret (v := .bool true) (by simp [results, Tryz.results20, go_sem] <;> omega) rfl ⟨rfl, HB4.out⟩
     ·have e2 : X = false := by rw [e1]; simp [show lowZ 37 false = 64 from rfl, show highZ 37 = 16777216 from rfl, h0, h1]; try omega
      clear e1
      subst e2
      go_wp2_with (first
          | (go_at_call 30; (with_reducible refine (cA.out _).mono ?_); rintro e W3 ⟨rfl, hb⟩; have Q3 := hid (Q2.out.below hb Q2.out.lt); have HB3 := hid (tb HB2 hb); have Q4 := hid (Q3.out.alloc (.cells #[.string (bs nm), .string (bs kd), .string (bs ks), .string (bs au), .bool false] 73)); have q4c := Q4.out.cell; have l3 := Q3.out.lt; have HB4 := hid (HB3.out.alloc HB3.out.size (.cells #[.string (bs nm), .string (bs kd), .string (bs ks), .string (bs au), .bool false] 73)); clear hb)
          | (go_at_call 41; (with_reducible refine (cK.out _ (HM.out.on HB4.out HM.out.lt)).mono ?_); rintro e W5 ⟨rfl, hb⟩; have HB5 := hid (tb HB4 hb); clear hb))
      exact bodyPost_ret (v := .bool false) (by simp [results, Tryz.results20, go_sem] <;> omega) rfl ⟨rfl, HB4.out⟩
    ·have e2 : X = false := by rw [e1]; simp [show lowZ 37 false = 64 from rfl, show highZ 37 = 16777216 from rfl, h0]; try omega
     clear e1
     subst e2
     go_wp2_with (first
         | (go_at_call 30; (with_reducible refine (cA.out _).mono ?_); rintro e W3 ⟨rfl, hb⟩; have Q3 := hid (Q2.out.below hb Q2.out.lt); have HB3 := hid (tb HB2 hb); have Q4 := hid (Q3.out.alloc (.cells #[.string (bs nm), .string (bs kd), .string (bs ks), .string (bs au), .bool false] 73)); have q4c := Q4.out.cell; have l3 := Q3.out.lt; have HB4 := hid (HB3.out.alloc HB3.out.size (.cells #[.string (bs nm), .string (bs kd), .string (bs ks), .string (bs au), .bool false] 73)); clear hb)
         | (go_at_call 41; (with_reducible refine (cK.out _ (HM.out.on HB4.out HM.out.lt)).mono ?_); rintro e W5 ⟨rfl, hb⟩; have HB5 := hid (tb HB4 hb); clear hb))
     exact bodyPost_ret (v := .bool false) (by simp [results, Tryz.results20, go_sem] <;> omega) rfl ⟨rfl, HB4.out⟩
   ·replace cA := hid (fun w => show Calls Tryz.prog 30 #[.int .i64 34] w fun e w' => e = .returned (.agg #[.string (bs nm), .string (bs kd), .string (bs ks), .string (bs au), .bool false]) /\ RowKit.Below w.heap.size w w' from cA.out w)
    by_cases h0 : -16777216 <= n
    ·by_cases h1 : n <= 1000
     ·have e2 : X = true := by rw [e1]; simp [show lowZ 34 false = -16777216 from rfl, show highZ 34 = 1000 from rfl, h0, h1]
      clear e1
      subst e2
      go_wp2_with (first
          | (go_at_call 30; (with_reducible refine (cA.out _).mono ?_); rintro e W3 ⟨rfl, hb⟩; have Q3 := hid (Q2.out.below hb Q2.out.lt); have HB3 := hid (tb HB2 hb); have Q4 := hid (Q3.out.alloc (.cells #[.string (bs nm), .string (bs kd), .string (bs ks), .string (bs au), .bool false] 73)); have q4c := Q4.out.cell; have l3 := Q3.out.lt; have HB4 := hid (HB3.out.alloc HB3.out.size (.cells #[.string (bs nm), .string (bs kd), .string (bs ks), .string (bs au), .bool false] 73)); clear hb)
          | (go_at_call 41; (with_reducible refine (cK.out _ (HM.out.on HB4.out HM.out.lt)).mono ?_); rintro e W5 ⟨rfl, hb⟩; have HB5 := hid (tb HB4 hb); clear hb))
      exact bodyPost_ret (v := .bool true) (by simp [results, Tryz.results20, go_sem] <;> omega) rfl ⟨rfl, HB4.out⟩
     ·have e2 : X = false := by rw [e1]; simp [show lowZ 34 false = -16777216 from rfl, show highZ 34 = 1000 from rfl, h0, h1]; try omega
      clear e1
      subst e2
      go_wp2_with (first
          | (go_at_call 30; (with_reducible refine (cA.out _).mono ?_); rintro e W3 ⟨rfl, hb⟩; have Q3 := hid (Q2.out.below hb Q2.out.lt); have HB3 := hid (tb HB2 hb); have Q4 := hid (Q3.out.alloc (.cells #[.string (bs nm), .string (bs kd), .string (bs ks), .string (bs au), .bool false] 73)); have q4c := Q4.out.cell; have l3 := Q3.out.lt; have HB4 := hid (HB3.out.alloc HB3.out.size (.cells #[.string (bs nm), .string (bs kd), .string (bs ks), .string (bs au), .bool false] 73)); clear hb)
          | (go_at_call 41; (with_reducible refine (cK.out _ (HM.out.on HB4.out HM.out.lt)).mono ?_); rintro e W5 ⟨rfl, hb⟩; have HB5 := hid (tb HB4 hb); clear hb))
      exact bodyPost_ret (v := .bool false) (by simp [results, Tryz.results20, go_sem] <;> omega) rfl ⟨rfl, HB4.out⟩
    ·have e2 : X = false := by rw [e1]; simp [show lowZ 34 false = -16777216 from rfl, show highZ 34 = 1000 from rfl, h0]; try omega
     clear e1
     subst e2
     go_wp2_with (first
         | (go_at_call 30; (with_reducible refine (cA.out _).mono ?_); rintro e W3 ⟨rfl, hb⟩; have Q3 := hid (Q2.out.below hb Q2.out.lt); have HB3 := hid (tb HB2 hb); have Q4 := hid (Q3.out.alloc (.cells #[.string (bs nm), .string (bs kd), .string (bs ks), .string (bs au), .bool false] 73)); have q4c := Q4.out.cell; have l3 := Q3.out.lt; have HB4 := hid (HB3.out.alloc HB3.out.size (.cells #[.string (bs nm), .string (bs kd), .string (bs ks), .string (bs au), .bool false] 73)); clear hb)
         | (go_at_call 41; (with_reducible refine (cK.out _ (HM.out.on HB4.out HM.out.lt)).mono ?_); rintro e W5 ⟨rfl, hb⟩; have HB5 := hid (tb HB4 hb); clear hb))
     exact bodyPost_ret (v := .bool false) (by simp [results, Tryz.results20, go_sem] <;> omega) rfl ⟨rfl, HB4.out⟩
   ·replace cA := hid (fun w => show Calls Tryz.prog 30 #[.int .i64 31] w fun e w' => e = .returned (.agg #[.string (bs nm), .string (bs kd), .string (bs ks), .string (bs au), .bool false]) /\ RowKit.Below w.heap.size w w' from cA.out w)
    rcases h2 with h2 | h2
    ·by_cases h0 : -16777216 <= n
     ·by_cases h1 : n <= 16777216
      ·have e2 : X = true := by rw [e1]; simp [show lowZ 31 false = -16777216 from rfl, show highZ 31 = 16777216 from rfl, h0, h1, h2]
       clear e1
       subst e2
       go_wp2_with (first
           | (go_at_call 30; (with_reducible refine (cA.out _).mono ?_); rintro e W3 ⟨rfl, hb⟩; have Q3 := hid (Q2.out.below hb Q2.out.lt); have HB3 := hid (tb HB2 hb); have Q4 := hid (Q3.out.alloc (.cells #[.string (bs nm), .string (bs kd), .string (bs ks), .string (bs au), .bool false] 73)); have q4c := Q4.out.cell; have l3 := Q3.out.lt; have HB4 := hid (HB3.out.alloc HB3.out.size (.cells #[.string (bs nm), .string (bs kd), .string (bs ks), .string (bs au), .bool false] 73)); clear hb)
           | (go_at_call 41; (with_reducible refine (cK.out _ (HM.out.on HB4.out HM.out.lt)).mono ?_); rintro e W5 ⟨rfl, hb⟩; have HB5 := hid (tb HB4 hb); clear hb))
       exact bodyPost_ret (v := .bool true) (by simp [results, Tryz.results20, go_sem] <;> omega) rfl ⟨rfl, HB4.out⟩
      ·have e2 : X = false := by rw [e1]; simp [show lowZ 31 false = -16777216 from rfl, show highZ 31 = 16777216 from rfl, h0, h1, h2]; try omega
       clear e1
       subst e2
       go_wp2_with (first
           | (go_at_call 30; (with_reducible refine (cA.out _).mono ?_); rintro e W3 ⟨rfl, hb⟩; have Q3 := hid (Q2.out.below hb Q2.out.lt); have HB3 := hid (tb HB2 hb); have Q4 := hid (Q3.out.alloc (.cells #[.string (bs nm), .string (bs kd), .string (bs ks), .string (bs au), .bool false] 73)); have q4c := Q4.out.cell; have l3 := Q3.out.lt; have HB4 := hid (HB3.out.alloc HB3.out.size (.cells #[.string (bs nm), .string (bs kd), .string (bs ks), .string (bs au), .bool false] 73)); clear hb)
           | (go_at_call 41; (with_reducible refine (cK.out _ (HM.out.on HB4.out HM.out.lt)).mono ?_); rintro e W5 ⟨rfl, hb⟩; have HB5 := hid (tb HB4 hb); clear hb))
       exact bodyPost_ret (v := .bool false) (by simp [results, Tryz.results20, go_sem] <;> omega) rfl ⟨rfl, HB4.out⟩
     ·have e2 : X = false := by rw [e1]; simp [show lowZ 31 false = -16777216 from rfl, show highZ 31 = 16777216 from rfl, h0, h2]; try omega
      clear e1
      subst e2
      go_wp2_with (first
          | (go_at_call 30; (with_reducible refine (cA.out _).mono ?_); rintro e W3 ⟨rfl, hb⟩; have Q3 := hid (Q2.out.below hb Q2.out.lt); have HB3 := hid (tb HB2 hb); have Q4 := hid (Q3.out.alloc (.cells #[.string (bs nm), .string (bs kd), .string (bs ks), .string (bs au), .bool false] 73)); have q4c := Q4.out.cell; have l3 := Q3.out.lt; have HB4 := hid (HB3.out.alloc HB3.out.size (.cells #[.string (bs nm), .string (bs kd), .string (bs ks), .string (bs au), .bool false] 73)); clear hb)
          | (go_at_call 41; (with_reducible refine (cK.out _ (HM.out.on HB4.out HM.out.lt)).mono ?_); rintro e W5 ⟨rfl, hb⟩; have HB5 := hid (tb HB4 hb); clear hb))
      exact bodyPost_ret (v := .bool false) (by simp [results, Tryz.results20, go_sem] <;> omega) rfl ⟨rfl, HB4.out⟩
    ·have e2 : X = false := by rw [e1]; simp [h2]
     clear e1
     subst e2
     go_wp2_with (first
         | (go_at_call 30; (with_reducible refine (cA.out _).mono ?_); rintro e W3 ⟨rfl, hb⟩; have Q3 := hid (Q2.out.below hb Q2.out.lt); have HB3 := hid (tb HB2 hb); have Q4 := hid (Q3.out.alloc (.cells #[.string (bs nm), .string (bs kd), .string (bs ks), .string (bs au), .bool false] 73)); have q4c := Q4.out.cell; have l3 := Q3.out.lt; have HB4 := hid (HB3.out.alloc HB3.out.size (.cells #[.string (bs nm), .string (bs kd), .string (bs ks), .string (bs au), .bool false] 73)); clear hb)
         | (go_at_call 41; (with_reducible refine (cK.out _ (HM.out.on HB4.out HM.out.lt)).mono ?_); rintro e W5 ⟨rfl, hb⟩; have HB5 := hid (tb HB4 hb); clear hb))
     exact bodyPost_ret (v := .bool false) (by simp [results, Tryz.results20, go_sem] <;> omega) rfl ⟨rfl, HB4.out⟩
   ·replace cA := hid (fun w => show Calls Tryz.prog 30 #[.int .i64 53] w fun e w' => e = .returned (.agg #[.string (bs nm), .string (bs kd), .string (bs ks), .string (bs au), .bool false]) /\ RowKit.Below w.heap.size w w' from cA.out w)
    rcases h2 with h2 | h2
    ·by_cases h0 : -16777216 <= n
     ·by_cases h1 : n <= 16777216
      ·have e2 : X = true := by rw [e1]; simp [show lowZ 53 false = -16777216 from rfl, show highZ 53 = 16777216 from rfl, h0, h1, h2]
       clear e1
       subst e2
       go_wp2_with (first
           | (go_at_call 30; (with_reducible refine (cA.out _).mono ?_); rintro e W3 ⟨rfl, hb⟩; have Q3 := hid (Q2.out.below hb Q2.out.lt); have HB3 := hid (tb HB2 hb); have Q4 := hid (Q3.out.alloc (.cells #[.string (bs nm), .string (bs kd), .string (bs ks), .string (bs au), .bool false] 73)); have q4c := Q4.out.cell; have l3 := Q3.out.lt; have HB4 := hid (HB3.out.alloc HB3.out.size (.cells #[.string (bs nm), .string (bs kd), .string (bs ks), .string (bs au), .bool false] 73)); clear hb)
           | (go_at_call 41; (with_reducible refine (cK.out _ (HM.out.on HB4.out HM.out.lt)).mono ?_); rintro e W5 ⟨rfl, hb⟩; have HB5 := hid (tb HB4 hb); clear hb))
       exact bodyPost_ret (v := .bool true) (by simp [results, Tryz.results20, go_sem] <;> omega) rfl ⟨rfl, HB4.out⟩
      ·have e2 : X = false := by rw [e1]; simp [show lowZ 53 false = -16777216 from rfl, show highZ 53 = 16777216 from rfl, h0, h1, h2]; try omega
       clear e1
       subst e2
       go_wp2_with (first
           | (go_at_call 30; (with_reducible refine (cA.out _).mono ?_); rintro e W3 ⟨rfl, hb⟩; have Q3 := hid (Q2.out.below hb Q2.out.lt); have HB3 := hid (tb HB2 hb); have Q4 := hid (Q3.out.alloc (.cells #[.string (bs nm), .string (bs kd), .string (bs ks), .string (bs au), .bool false] 73)); have q4c := Q4.out.cell; have l3 := Q3.out.lt; have HB4 := hid (HB3.out.alloc HB3.out.size (.cells #[.string (bs nm), .string (bs kd), .string (bs ks), .string (bs au), .bool false] 73)); clear hb)
           | (go_at_call 41; (with_reducible refine (cK.out _ (HM.out.on HB4.out HM.out.lt)).mono ?_); rintro e W5 ⟨rfl, hb⟩; have HB5 := hid (tb HB4 hb); clear hb))
       exact bodyPost_ret (v := .bool false) (by simp [results, Tryz.results20, go_sem] <;> omega) rfl ⟨rfl, HB4.out⟩
     ·have e2 : X = false := by rw [e1]; simp [show lowZ 53 false = -16777216 from rfl, show highZ 53 = 16777216 from rfl, h0, h2]; try omega
      clear e1
      subst e2
      go_wp2_with (first
          | (go_at_call 30; (with_reducible refine (cA.out _).mono ?_); rintro e W3 ⟨rfl, hb⟩; have Q3 := hid (Q2.out.below hb Q2.out.lt); have HB3 := hid (tb HB2 hb); have Q4 := hid (Q3.out.alloc (.cells #[.string (bs nm), .string (bs kd), .string (bs ks), .string (bs au), .bool false] 73)); have q4c := Q4.out.cell; have l3 := Q3.out.lt; have HB4 := hid (HB3.out.alloc HB3.out.size (.cells #[.string (bs nm), .string (bs kd), .string (bs ks), .string (bs au), .bool false] 73)); clear hb)
          | (go_at_call 41; (with_reducible refine (cK.out _ (HM.out.on HB4.out HM.out.lt)).mono ?_); rintro e W5 ⟨rfl, hb⟩; have HB5 := hid (tb HB4 hb); clear hb))
      exact bodyPost_ret (v := .bool false) (by simp [results, Tryz.results20, go_sem] <;> omega) rfl ⟨rfl, HB4.out⟩
    ·have e2 : X = false := by rw [e1]; simp [h2]
     clear e1
     subst e2
     go_wp2_with (first
         | (go_at_call 30; (with_reducible refine (cA.out _).mono ?_); rintro e W3 ⟨rfl, hb⟩; have Q3 := hid (Q2.out.below hb Q2.out.lt); have HB3 := hid (tb HB2 hb); have Q4 := hid (Q3.out.alloc (.cells #[.string (bs nm), .string (bs kd), .string (bs ks), .string (bs au), .bool false] 73)); have q4c := Q4.out.cell; have l3 := Q3.out.lt; have HB4 := hid (HB3.out.alloc HB3.out.size (.cells #[.string (bs nm), .string (bs kd), .string (bs ks), .string (bs au), .bool false] 73)); clear hb)
         | (go_at_call 41; (with_reducible refine (cK.out _ (HM.out.on HB4.out HM.out.lt)).mono ?_); rintro e W5 ⟨rfl, hb⟩; have HB5 := hid (tb HB4 hb); clear hb))
     exact bodyPost_ret (v := .bool false) (by simp [results, Tryz.results20, go_sem] <;> omega) rfl ⟨rfl, HB4.out⟩
   ·have b1 : ¬ (p : Int) = 37 := by omega
    have b2 : ¬ (p : Int) = 34 := by omega
    have b3 : ¬ (p : Int) = 31 := by omega
    have b4 : ¬ (p : Int) = 53 := by omega
    by_cases h0 : -16777216 <= n
    ·by_cases h1 : n <= 16777216
     ·have e2 : X = true := by rw [e1]; simp [show lowZ p false = -16777216 from (if_neg a1).trans rfl, show highZ p = 16777216 from if_neg a2, h0, h1, a1, a2, a3, a4]
      clear e1
      subst e2
      go_wp2_with (first
          | (go_at_call 30; (with_reducible refine (cA.out _).mono ?_); rintro e W3 ⟨rfl, hb⟩; have Q3 := hid (Q2.out.below hb Q2.out.lt); have HB3 := hid (tb HB2 hb); have Q4 := hid (Q3.out.alloc (.cells #[.string (bs nm), .string (bs kd), .string (bs ks), .string (bs au), .bool false] 73)); have q4c := Q4.out.cell; have l3 := Q3.out.lt; have HB4 := hid (HB3.out.alloc HB3.out.size (.cells #[.string (bs nm), .string (bs kd), .string (bs ks), .string (bs au), .bool false] 73)); clear hb)
          | (go_at_call 41; (with_reducible refine (cK.out _ (HM.out.on HB4.out HM.out.lt)).mono ?_); rintro e W5 ⟨rfl, hb⟩; have HB5 := hid (tb HB4 hb); clear hb))
      exact bodyPost_ret (v := .bool true) (by simp [results, Tryz.results20, go_sem] <;> omega) rfl ⟨rfl, HB4.out⟩
     ·have e2 : X = false := by rw [e1]; simp [show lowZ p false = -16777216 from (if_neg a1).trans rfl, show highZ p = 16777216 from if_neg a2, h0, h1, a1, a2, a3, a4]; try omega
      clear e1
      subst e2
      go_wp2_with (first
          | (go_at_call 30; (with_reducible refine (cA.out _).mono ?_); rintro e W3 ⟨rfl, hb⟩; have Q3 := hid (Q2.out.below hb Q2.out.lt); have HB3 := hid (tb HB2 hb); have Q4 := hid (Q3.out.alloc (.cells #[.string (bs nm), .string (bs kd), .string (bs ks), .string (bs au), .bool false] 73)); have q4c := Q4.out.cell; have l3 := Q3.out.lt; have HB4 := hid (HB3.out.alloc HB3.out.size (.cells #[.string (bs nm), .string (bs kd), .string (bs ks), .string (bs au), .bool false] 73)); clear hb)
          | (go_at_call 41; (with_reducible refine (cK.out _ (HM.out.on HB4.out HM.out.lt)).mono ?_); rintro e W5 ⟨rfl, hb⟩; have HB5 := hid (tb HB4 hb); clear hb))
      exact bodyPost_ret (v := .bool false) (by simp [results, Tryz.results20, go_sem] <;> omega) rfl ⟨rfl, HB4.out⟩
    ·have e2 : X = false := by rw [e1]; simp [show lowZ p false = -16777216 from (if_neg a1).trans rfl, show highZ p = 16777216 from if_neg a2, h0, a1, a2, a3, a4]; try omega
     clear e1
     subst e2
     go_wp2_with (first
         | (go_at_call 30; (with_reducible refine (cA.out _).mono ?_); rintro e W3 ⟨rfl, hb⟩; have Q3 := hid (Q2.out.below hb Q2.out.lt); have HB3 := hid (tb HB2 hb); have Q4 := hid (Q3.out.alloc (.cells #[.string (bs nm), .string (bs kd), .string (bs ks), .string (bs au), .bool false] 73)); have q4c := Q4.out.cell; have l3 := Q3.out.lt; have HB4 := hid (HB3.out.alloc HB3.out.size (.cells #[.string (bs nm), .string (bs kd), .string (bs ks), .string (bs au), .bool false] 73)); clear hb)
         | (go_at_call 41; (with_reducible refine (cK.out _ (HM.out.on HB4.out HM.out.lt)).mono ?_); rintro e W5 ⟨rfl, hb⟩; have HB5 := hid (tb HB4 hb); clear hb))
     exact bodyPost_ret (v := .bool false) (by simp [results, Tryz.results20, go_sem] <;> omega) rfl ⟨rfl, HB4.out⟩
  ·rcases h3 with rfl | rfl | rfl | rfl | ⟨a1, a2, a3, a4⟩
   ·replace cA := hid (fun w => show Calls Tryz.prog 30 #[.int .i64 37] w fun e w' => e = .returned (.agg #[.string (bs nm), .string (bs kd), .string (bs ks), .string (bs au), .bool true]) /\ RowKit.Below w.heap.size w w' from cA.out w)
    by_cases h0 : 64 <= n
    ·by_cases h1 : n <= 16777216
     ·have e2 : X = true := by rw [e1]; simp [show lowZ 37 true = 64 from rfl, show highZ 37 = 16777216 from rfl, h0, h1]
      clear e1
      subst e2
      go_wp2_with (first
          | (go_at_call 30; (with_reducible refine (cA.out _).mono ?_); rintro e W3 ⟨rfl, hb⟩; have Q3 := hid (Q2.out.below hb Q2.out.lt); have HB3 := hid (tb HB2 hb); have Q4 := hid (Q3.out.alloc (.cells #[.string (bs nm), .string (bs kd), .string (bs ks), .string (bs au), .bool true] 73)); have q4c := Q4.out.cell; have l3 := Q3.out.lt; have HB4 := hid (HB3.out.alloc HB3.out.size (.cells #[.string (bs nm), .string (bs kd), .string (bs ks), .string (bs au), .bool true] 73)); clear hb)
          | (go_at_call 41; (with_reducible refine (cK.out _ (HM.out.on HB4.out HM.out.lt)).mono ?_); rintro e W5 ⟨rfl, hb⟩; have HB5 := hid (tb HB4 hb); clear hb))
      exact bodyPost_ret (v := .bool true) (by simp [results, Tryz.results20, go_sem] <;> omega) rfl ⟨rfl, HB4.out⟩
     ·have e2 : X = false := by rw [e1]; simp [show lowZ 37 true = 64 from rfl, show highZ 37 = 16777216 from rfl, h0, h1]; try omega
      clear e1
      subst e2
      go_wp2_with (first
          | (go_at_call 30; (with_reducible refine (cA.out _).mono ?_); rintro e W3 ⟨rfl, hb⟩; have Q3 := hid (Q2.out.below hb Q2.out.lt); have HB3 := hid (tb HB2 hb); have Q4 := hid (Q3.out.alloc (.cells #[.string (bs nm), .string (bs kd), .string (bs ks), .string (bs au), .bool true] 73)); have q4c := Q4.out.cell; have l3 := Q3.out.lt; have HB4 := hid (HB3.out.alloc HB3.out.size (.cells #[.string (bs nm), .string (bs kd), .string (bs ks), .string (bs au), .bool true] 73)); clear hb)
          | (go_at_call 41; (with_reducible refine (cK.out _ (HM.out.on HB4.out HM.out.lt)).mono ?_); rintro e W5 ⟨rfl, hb⟩; have HB5 := hid (tb HB4 hb); clear hb))
      exact bodyPost_ret (v := .bool false) (by simp [results, Tryz.results20, go_sem] <;> omega) rfl ⟨rfl, HB4.out⟩
    ·have e2 : X = false := by rw [e1]; simp [show lowZ 37 true = 64 from rfl, show highZ 37 = 16777216 from rfl, h0]; try omega
     clear e1
     subst e2
     go_wp2_with (first
         | (go_at_call 30; (with_reducible refine (cA.out _).mono ?_); rintro e W3 ⟨rfl, hb⟩; have Q3 := hid (Q2.out.below hb Q2.out.lt); have HB3 := hid (tb HB2 hb); have Q4 := hid (Q3.out.alloc (.cells #[.string (bs nm), .string (bs kd), .string (bs ks), .string (bs au), .bool true] 73)); have q4c := Q4.out.cell; have l3 := Q3.out.lt; have HB4 := hid (HB3.out.alloc HB3.out.size (.cells #[.string (bs nm), .string (bs kd), .string (bs ks), .string (bs au), .bool true] 73)); clear hb)
         | (go_at_call 41; (with_reducible refine (cK.out _ (HM.out.on HB4.out HM.out.lt)).mono ?_); rintro e W5 ⟨rfl, hb⟩; have HB5 := hid (tb HB4 hb); clear hb))
     exact bodyPost_ret (v := .bool false) (by simp [results, Tryz.results20, go_sem] <;> omega) rfl ⟨rfl, HB4.out⟩
   ·replace cA := hid (fun w => show Calls Tryz.prog 30 #[.int .i64 34] w fun e w' => e = .returned (.agg #[.string (bs nm), .string (bs kd), .string (bs ks), .string (bs au), .bool true]) /\ RowKit.Below w.heap.size w w' from cA.out w)
    by_cases h0 : 0 <= n
    ·by_cases h1 : n <= 1000
     ·have e2 : X = true := by rw [e1]; simp [show lowZ 34 true = 0 from rfl, show highZ 34 = 1000 from rfl, h0, h1]
      clear e1
      subst e2
      go_wp2_with (first
          | (go_at_call 30; (with_reducible refine (cA.out _).mono ?_); rintro e W3 ⟨rfl, hb⟩; have Q3 := hid (Q2.out.below hb Q2.out.lt); have HB3 := hid (tb HB2 hb); have Q4 := hid (Q3.out.alloc (.cells #[.string (bs nm), .string (bs kd), .string (bs ks), .string (bs au), .bool true] 73)); have q4c := Q4.out.cell; have l3 := Q3.out.lt; have HB4 := hid (HB3.out.alloc HB3.out.size (.cells #[.string (bs nm), .string (bs kd), .string (bs ks), .string (bs au), .bool true] 73)); clear hb)
          | (go_at_call 41; (with_reducible refine (cK.out _ (HM.out.on HB4.out HM.out.lt)).mono ?_); rintro e W5 ⟨rfl, hb⟩; have HB5 := hid (tb HB4 hb); clear hb))
      exact bodyPost_ret (v := .bool true) (by simp [results, Tryz.results20, go_sem] <;> omega) rfl ⟨rfl, HB4.out⟩
     ·have e2 : X = false := by rw [e1]; simp [show lowZ 34 true = 0 from rfl, show highZ 34 = 1000 from rfl, h0, h1]; try omega
      clear e1
      subst e2
      go_wp2_with (first
          | (go_at_call 30; (with_reducible refine (cA.out _).mono ?_); rintro e W3 ⟨rfl, hb⟩; have Q3 := hid (Q2.out.below hb Q2.out.lt); have HB3 := hid (tb HB2 hb); have Q4 := hid (Q3.out.alloc (.cells #[.string (bs nm), .string (bs kd), .string (bs ks), .string (bs au), .bool true] 73)); have q4c := Q4.out.cell; have l3 := Q3.out.lt; have HB4 := hid (HB3.out.alloc HB3.out.size (.cells #[.string (bs nm), .string (bs kd), .string (bs ks), .string (bs au), .bool true] 73)); clear hb)
          | (go_at_call 41; (with_reducible refine (cK.out _ (HM.out.on HB4.out HM.out.lt)).mono ?_); rintro e W5 ⟨rfl, hb⟩; have HB5 := hid (tb HB4 hb); clear hb))
      exact bodyPost_ret (v := .bool false) (by simp [results, Tryz.results20, go_sem] <;> omega) rfl ⟨rfl, HB4.out⟩
    ·have e2 : X = false := by rw [e1]; simp [show lowZ 34 true = 0 from rfl, show highZ 34 = 1000 from rfl, h0]; try omega
     clear e1
     subst e2
     go_wp2_with (first
         | (go_at_call 30; (with_reducible refine (cA.out _).mono ?_); rintro e W3 ⟨rfl, hb⟩; have Q3 := hid (Q2.out.below hb Q2.out.lt); have HB3 := hid (tb HB2 hb); have Q4 := hid (Q3.out.alloc (.cells #[.string (bs nm), .string (bs kd), .string (bs ks), .string (bs au), .bool true] 73)); have q4c := Q4.out.cell; have l3 := Q3.out.lt; have HB4 := hid (HB3.out.alloc HB3.out.size (.cells #[.string (bs nm), .string (bs kd), .string (bs ks), .string (bs au), .bool true] 73)); clear hb)
         | (go_at_call 41; (with_reducible refine (cK.out _ (HM.out.on HB4.out HM.out.lt)).mono ?_); rintro e W5 ⟨rfl, hb⟩; have HB5 := hid (tb HB4 hb); clear hb))
     exact bodyPost_ret (v := .bool false) (by simp [results, Tryz.results20, go_sem] <;> omega) rfl ⟨rfl, HB4.out⟩
   ·replace cA := hid (fun w => show Calls Tryz.prog 30 #[.int .i64 31] w fun e w' => e = .returned (.agg #[.string (bs nm), .string (bs kd), .string (bs ks), .string (bs au), .bool true]) /\ RowKit.Below w.heap.size w w' from cA.out w)
    rcases h2 with h2 | h2
    ·by_cases h0 : 0 <= n
     ·by_cases h1 : n <= 16777216
      ·have e2 : X = true := by rw [e1]; simp [show lowZ 31 true = 0 from rfl, show highZ 31 = 16777216 from rfl, h0, h1, h2]
       clear e1
       subst e2
       go_wp2_with (first
           | (go_at_call 30; (with_reducible refine (cA.out _).mono ?_); rintro e W3 ⟨rfl, hb⟩; have Q3 := hid (Q2.out.below hb Q2.out.lt); have HB3 := hid (tb HB2 hb); have Q4 := hid (Q3.out.alloc (.cells #[.string (bs nm), .string (bs kd), .string (bs ks), .string (bs au), .bool true] 73)); have q4c := Q4.out.cell; have l3 := Q3.out.lt; have HB4 := hid (HB3.out.alloc HB3.out.size (.cells #[.string (bs nm), .string (bs kd), .string (bs ks), .string (bs au), .bool true] 73)); clear hb)
           | (go_at_call 41; (with_reducible refine (cK.out _ (HM.out.on HB4.out HM.out.lt)).mono ?_); rintro e W5 ⟨rfl, hb⟩; have HB5 := hid (tb HB4 hb); clear hb))
       exact bodyPost_ret (v := .bool true) (by simp [results, Tryz.results20, go_sem] <;> omega) rfl ⟨rfl, HB4.out⟩
      ·have e2 : X = false := by rw [e1]; simp [show lowZ 31 true = 0 from rfl, show highZ 31 = 16777216 from rfl, h0, h1, h2]; try omega
       clear e1
       subst e2
       go_wp2_with (first
           | (go_at_call 30; (with_reducible refine (cA.out _).mono ?_); rintro e W3 ⟨rfl, hb⟩; have Q3 := hid (Q2.out.below hb Q2.out.lt); have HB3 := hid (tb HB2 hb); have Q4 := hid (Q3.out.alloc (.cells #[.string (bs nm), .string (bs kd), .string (bs ks), .string (bs au), .bool true] 73)); have q4c := Q4.out.cell; have l3 := Q3.out.lt; have HB4 := hid (HB3.out.alloc HB3.out.size (.cells #[.string (bs nm), .string (bs kd), .string (bs ks), .string (bs au), .bool true] 73)); clear hb)
           | (go_at_call 41; (with_reducible refine (cK.out _ (HM.out.on HB4.out HM.out.lt)).mono ?_); rintro e W5 ⟨rfl, hb⟩; have HB5 := hid (tb HB4 hb); clear hb))
       exact bodyPost_ret (v := .bool false) (by simp [results, Tryz.results20, go_sem] <;> omega) rfl ⟨rfl, HB4.out⟩
     ·have e2 : X = false := by rw [e1]; simp [show lowZ 31 true = 0 from rfl, show highZ 31 = 16777216 from rfl, h0, h2]; try omega
      clear e1
      subst e2
      go_wp2_with (first
          | (go_at_call 30; (with_reducible refine (cA.out _).mono ?_); rintro e W3 ⟨rfl, hb⟩; have Q3 := hid (Q2.out.below hb Q2.out.lt); have HB3 := hid (tb HB2 hb); have Q4 := hid (Q3.out.alloc (.cells #[.string (bs nm), .string (bs kd), .string (bs ks), .string (bs au), .bool true] 73)); have q4c := Q4.out.cell; have l3 := Q3.out.lt; have HB4 := hid (HB3.out.alloc HB3.out.size (.cells #[.string (bs nm), .string (bs kd), .string (bs ks), .string (bs au), .bool true] 73)); clear hb)
          | (go_at_call 41; (with_reducible refine (cK.out _ (HM.out.on HB4.out HM.out.lt)).mono ?_); rintro e W5 ⟨rfl, hb⟩; have HB5 := hid (tb HB4 hb); clear hb))
      exact bodyPost_ret (v := .bool false) (by simp [results, Tryz.results20, go_sem] <;> omega) rfl ⟨rfl, HB4.out⟩
    ·have e2 : X = false := by rw [e1]; simp [h2]
     clear e1
     subst e2
     go_wp2_with (first
         | (go_at_call 30; (with_reducible refine (cA.out _).mono ?_); rintro e W3 ⟨rfl, hb⟩; have Q3 := hid (Q2.out.below hb Q2.out.lt); have HB3 := hid (tb HB2 hb); have Q4 := hid (Q3.out.alloc (.cells #[.string (bs nm), .string (bs kd), .string (bs ks), .string (bs au), .bool true] 73)); have q4c := Q4.out.cell; have l3 := Q3.out.lt; have HB4 := hid (HB3.out.alloc HB3.out.size (.cells #[.string (bs nm), .string (bs kd), .string (bs ks), .string (bs au), .bool true] 73)); clear hb)
         | (go_at_call 41; (with_reducible refine (cK.out _ (HM.out.on HB4.out HM.out.lt)).mono ?_); rintro e W5 ⟨rfl, hb⟩; have HB5 := hid (tb HB4 hb); clear hb))
     exact bodyPost_ret (v := .bool false) (by simp [results, Tryz.results20, go_sem] <;> omega) rfl ⟨rfl, HB4.out⟩
   ·replace cA := hid (fun w => show Calls Tryz.prog 30 #[.int .i64 53] w fun e w' => e = .returned (.agg #[.string (bs nm), .string (bs kd), .string (bs ks), .string (bs au), .bool true]) /\ RowKit.Below w.heap.size w w' from cA.out w)
    rcases h2 with h2 | h2
    ·by_cases h0 : 0 <= n
     ·by_cases h1 : n <= 16777216
      ·have e2 : X = true := by rw [e1]; simp [show lowZ 53 true = 0 from rfl, show highZ 53 = 16777216 from rfl, h0, h1, h2]
       clear e1
       subst e2
       go_wp2_with (first
           | (go_at_call 30; (with_reducible refine (cA.out _).mono ?_); rintro e W3 ⟨rfl, hb⟩; have Q3 := hid (Q2.out.below hb Q2.out.lt); have HB3 := hid (tb HB2 hb); have Q4 := hid (Q3.out.alloc (.cells #[.string (bs nm), .string (bs kd), .string (bs ks), .string (bs au), .bool true] 73)); have q4c := Q4.out.cell; have l3 := Q3.out.lt; have HB4 := hid (HB3.out.alloc HB3.out.size (.cells #[.string (bs nm), .string (bs kd), .string (bs ks), .string (bs au), .bool true] 73)); clear hb)
           | (go_at_call 41; (with_reducible refine (cK.out _ (HM.out.on HB4.out HM.out.lt)).mono ?_); rintro e W5 ⟨rfl, hb⟩; have HB5 := hid (tb HB4 hb); clear hb))
       exact bodyPost_ret (v := .bool true) (by simp [results, Tryz.results20, go_sem] <;> omega) rfl ⟨rfl, HB4.out⟩
      ·have e2 : X = false := by rw [e1]; simp [show lowZ 53 true = 0 from rfl, show highZ 53 = 16777216 from rfl, h0, h1, h2]; try omega
       clear e1
       subst e2
       go_wp2_with (first
           | (go_at_call 30; (with_reducible refine (cA.out _).mono ?_); rintro e W3 ⟨rfl, hb⟩; have Q3 := hid (Q2.out.below hb Q2.out.lt); have HB3 := hid (tb HB2 hb); have Q4 := hid (Q3.out.alloc (.cells #[.string (bs nm), .string (bs kd), .string (bs ks), .string (bs au), .bool true] 73)); have q4c := Q4.out.cell; have l3 := Q3.out.lt; have HB4 := hid (HB3.out.alloc HB3.out.size (.cells #[.string (bs nm), .string (bs kd), .string (bs ks), .string (bs au), .bool true] 73)); clear hb)
           | (go_at_call 41; (with_reducible refine (cK.out _ (HM.out.on HB4.out HM.out.lt)).mono ?_); rintro e W5 ⟨rfl, hb⟩; have HB5 := hid (tb HB4 hb); clear hb))
       exact bodyPost_ret (v := .bool false) (by simp [results, Tryz.results20, go_sem] <;> omega) rfl ⟨rfl, HB4.out⟩
     ·have e2 : X = false := by rw [e1]; simp [show lowZ 53 true = 0 from rfl, show highZ 53 = 16777216 from rfl, h0, h2]; try omega
      clear e1
      subst e2
      go_wp2_with (first
          | (go_at_call 30; (with_reducible refine (cA.out _).mono ?_); rintro e W3 ⟨rfl, hb⟩; have Q3 := hid (Q2.out.below hb Q2.out.lt); have HB3 := hid (tb HB2 hb); have Q4 := hid (Q3.out.alloc (.cells #[.string (bs nm), .string (bs kd), .string (bs ks), .string (bs au), .bool true] 73)); have q4c := Q4.out.cell; have l3 := Q3.out.lt; have HB4 := hid (HB3.out.alloc HB3.out.size (.cells #[.string (bs nm), .string (bs kd), .string (bs ks), .string (bs au), .bool true] 73)); clear hb)
          | (go_at_call 41; (with_reducible refine (cK.out _ (HM.out.on HB4.out HM.out.lt)).mono ?_); rintro e W5 ⟨rfl, hb⟩; have HB5 := hid (tb HB4 hb); clear hb))
      exact bodyPost_ret (v := .bool false) (by simp [results, Tryz.results20, go_sem] <;> omega) rfl ⟨rfl, HB4.out⟩
    ·have e2 : X = false := by rw [e1]; simp [h2]
     clear e1
     subst e2
     go_wp2_with (first
         | (go_at_call 30; (with_reducible refine (cA.out _).mono ?_); rintro e W3 ⟨rfl, hb⟩; have Q3 := hid (Q2.out.below hb Q2.out.lt); have HB3 := hid (tb HB2 hb); have Q4 := hid (Q3.out.alloc (.cells #[.string (bs nm), .string (bs kd), .string (bs ks), .string (bs au), .bool true] 73)); have q4c := Q4.out.cell; have l3 := Q3.out.lt; have HB4 := hid (HB3.out.alloc HB3.out.size (.cells #[.string (bs nm), .string (bs kd), .string (bs ks), .string (bs au), .bool true] 73)); clear hb)
         | (go_at_call 41; (with_reducible refine (cK.out _ (HM.out.on HB4.out HM.out.lt)).mono ?_); rintro e W5 ⟨rfl, hb⟩; have HB5 := hid (tb HB4 hb); clear hb))
     exact bodyPost_ret (v := .bool false) (by simp [results, Tryz.results20, go_sem] <;> omega) rfl ⟨rfl, HB4.out⟩
   ·have b1 : ¬ (p : Int) = 37 := by omega
    have b2 : ¬ (p : Int) = 34 := by omega
    have b3 : ¬ (p : Int) = 31 := by omega
    have b4 : ¬ (p : Int) = 53 := by omega
    by_cases h0 : 0 <= n
    ·by_cases h1 : n <= 16777216
     ·have e2 : X = true := by rw [e1]; simp [show lowZ p true = 0 from (if_neg a1).trans rfl, show highZ p = 16777216 from if_neg a2, h0, h1, a1, a2, a3, a4]
      clear e1
      subst e2
      go_wp2_with (first
          | (go_at_call 30; (with_reducible refine (cA.out _).mono ?_); rintro e W3 ⟨rfl, hb⟩; have Q3 := hid (Q2.out.below hb Q2.out.lt); have HB3 := hid (tb HB2 hb); have Q4 := hid (Q3.out.alloc (.cells #[.string (bs nm), .string (bs kd), .string (bs ks), .string (bs au), .bool true] 73)); have q4c := Q4.out.cell; have l3 := Q3.out.lt; have HB4 := hid (HB3.out.alloc HB3.out.size (.cells #[.string (bs nm), .string (bs kd), .string (bs ks), .string (bs au), .bool true] 73)); clear hb)
          | (go_at_call 41; (with_reducible refine (cK.out _ (HM.out.on HB4.out HM.out.lt)).mono ?_); rintro e W5 ⟨rfl, hb⟩; have HB5 := hid (tb HB4 hb); clear hb))
      exact bodyPost_ret (v := .bool true) (by simp [results, Tryz.results20, go_sem] <;> omega) rfl ⟨rfl, HB4.out⟩
     ·have e2 : X = false := by rw [e1]; simp [show lowZ p true = 0 from (if_neg a1).trans rfl, show highZ p = 16777216 from if_neg a2, h0, h1, a1, a2, a3, a4]; try omega
      clear e1
      subst e2
      go_wp2_with (first
          | (go_at_call 30; (with_reducible refine (cA.out _).mono ?_); rintro e W3 ⟨rfl, hb⟩; have Q3 := hid (Q2.out.below hb Q2.out.lt); have HB3 := hid (tb HB2 hb); have Q4 := hid (Q3.out.alloc (.cells #[.string (bs nm), .string (bs kd), .string (bs ks), .string (bs au), .bool true] 73)); have q4c := Q4.out.cell; have l3 := Q3.out.lt; have HB4 := hid (HB3.out.alloc HB3.out.size (.cells #[.string (bs nm), .string (bs kd), .string (bs ks), .string (bs au), .bool true] 73)); clear hb)
          | (go_at_call 41; (with_reducible refine (cK.out _ (HM.out.on HB4.out HM.out.lt)).mono ?_); rintro e W5 ⟨rfl, hb⟩; have HB5 := hid (tb HB4 hb); clear hb))
      exact bodyPost_ret (v := .bool false) (by simp [results, Tryz.results20, go_sem] <;> omega) rfl ⟨rfl, HB4.out⟩
    ·have e2 : X = false := by rw [e1]; simp [show lowZ p true = 0 from (if_neg a1).trans rfl, show highZ p = 16777216 from if_neg a2, h0, a1, a2, a3, a4]; try omega
     clear e1
     subst e2
     go_wp2_with (first
         | (go_at_call 30; (with_reducible refine (cA.out _).mono ?_); rintro e W3 ⟨rfl, hb⟩; have Q3 := hid (Q2.out.below hb Q2.out.lt); have HB3 := hid (tb HB2 hb); have Q4 := hid (Q3.out.alloc (.cells #[.string (bs nm), .string (bs kd), .string (bs ks), .string (bs au), .bool true] 73)); have q4c := Q4.out.cell; have l3 := Q3.out.lt; have HB4 := hid (HB3.out.alloc HB3.out.size (.cells #[.string (bs nm), .string (bs kd), .string (bs ks), .string (bs au), .bool true] 73)); clear hb)
         | (go_at_call 41; (with_reducible refine (cK.out _ (HM.out.on HB4.out HM.out.lt)).mono ?_); rintro e W5 ⟨rfl, hb⟩; have HB5 := hid (tb HB4 hb); clear hb))
     exact bodyPost_ret (v := .bool false) (by simp [results, Tryz.results20, go_sem] <;> omega) rfl ⟨rfl, HB4.out⟩
end prp
namespace prp
open Go.RowKit base tok
set_option linter.unusedSimpArgs false
theorem kinds_odd : ∀ p : Fin 59, decide (0 <= Lib.indexByte (rowP p.val).kinds 63) = false := by decide +kernel
theorem kinds_some {p : Nat} (hp : p < 59) {k : Int} (h : hasR (rowP p).kinds k = true) : k = 1 ∨ k = 6 ∨ k = 5 ∨ k = 2 ∨ k = 3 ∨ k = 4 := by
 by_cases hk : 1 <= k /\ k <= 6
 ·omega
 ·have g : letterP k = [63] := by unfold letterP; repeat rw [if_neg (by omega)]
  unfold hasR at h
  rw [g] at h
  have := kinds_odd ⟨p, hp⟩
  rw [show ([63] : Bs).headD 0 = 63 from rfl] at h
  simp_all
theorem fits_ct (p : Nat) (hp : p < 59) (k n : Int) (hn : -9223372036854775808 <= n /\ n <= 9223372036854775807) (w : World) (hm : MaxL w) : Calls Tryz.prog 20 #[.int .i64 p, .agg #[.int .i64 k, .int .i64 n]] w fun e w' => e = .returned (.bool (fitsP p k n)) /\ Below w.heap.size w w' := by
 cases h : hasR (rowP p).kinds k with
 | true => exact fits_has p hp _ _ _ rfl rfl rfl k n hn h (kinds_some hp h) w hm
 | false =>
  have e : fitsP p k n = false := by unfold fitsP fitsR; rw [h, Bool.false_and]
  rw [e]
  exact fits_no p hp _ rfl k n h w
end prp
end Go.Proofs.YthgffoanecknoaaGreatDoor
