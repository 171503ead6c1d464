/- Contracts and plain law, a bundle. -/
import Derived.Lib.Hide
import Derived.Test.YthgffoanecknoaaGreatDoorI1
import Derived.Test.YthgffoanecknoaaGreatDoorI2
set_option linter.unusedVariables false
set_option maxRecDepth 100000
set_option maxHeartbeats 16000000
open Go.Lib (hid)
namespace Go.Proofs.YthgffoanecknoaaGreatDoor
namespace doc
open Go.RowKit base tok
set_option linter.unusedSimpArgs false
def BSt (w wr : World) (n : Nat) (A : Option Addr) (cap : Nat) (q : Bool) : Prop :=
 Blk wr w.heap.size 24 #[.slice A n cap, .bool q] /\ Below w.heap.size w wr
theorem BSt.alloc {w wr : World} {n : Nat} {A : Option Addr} {cap : Nat} {q : Bool} (h : BSt w wr n A cap q) (o : Obj) : BSt w (wr.alloc o) n A cap q :=
 ⟨h.1.alloc o, h.2.alloc h.2.size o⟩
theorem BSt.on {w wr w' : World} {n : Nat} {A : Option Addr} {cap : Nat} {q : Bool} (h : BSt w wr n A cap q) (hb : Below wr.heap.size wr w') : BSt w w' n A cap q :=
 ⟨h.1.below hb h.1.lt, h.2.trans (hb.mono h.2.size)⟩
theorem BSt.beg {w : World} {n : Nat} {A : Option Addr} {cap : Nat} {q : Bool} : BSt w (w.alloc (.cells #[.slice A n cap, .bool q] 24)) n A cap q :=
 ⟨Blk.new rfl, (Below.refl _ w).alloc (Nat.le_refl _) _⟩
theorem checkN_step {D : List Nd} {i : Nat} {x : Nd} (h : D[i]? = some x) : checkN i (D.drop i) = if decide (x.kind = 1) ≠ decide (i = 0) then 3 else if oneF x ≠ 0 then oneF x else checkN (i + 1) (D.drop (i + 1)) := by
 obtain ⟨hl, he⟩ := List.getElem?_eq_some_iff.1 h
 rw [List.drop_eq_getElem_cons hl, he, checkN]
theorem Check_ct (D : List Nd) (A : Option Addr) (cap : Nat) (q : Bool) (w : World) (hD : DocAt w w.heap.size A cap D) : Calls Tryz.prog 31 #[dcV A D.length cap q] w fun e w' => e = .returned (.int .i64 (checkF D)) /\ Below w.heap.size w w' := by
 have HD := hid hD
 have hcp := hD.len
 unfold maxLen at hcp
 clear hD
 obtain ⟨n, hn⟩ : ∃ n, D.length = n := ⟨_, rfl⟩
 have HN := hid hn
 obtain ⟨R, hR⟩ : ∃ R, checkF D = R := ⟨_, rfl⟩
 rw [hR]
 unfold checkF at hR
 rw [hn] at hR hcp ⊢
 have hK0 := hid (BSt.beg (w := w) (n := n) (A := A) (cap := cap) (q := q))
 clear hn
 by_cases h1 : 200 < n
 ·rw [if_pos h1] at hR
  subst hR
  have h1' : (200 : Int) < (n : Int) := by omega
  go_enter Tryz.func31, Tryz.ntmps31
  go_wp2_with fail
  go_ret
  exact ⟨rfl, hK0.out.2⟩
 have h1' : ¬ (200 : Int) < (n : Int) := by omega
 rw [if_neg h1] at hR
 by_cases h2 : n = 0
 ·rw [if_pos h2] at hR
  subst hR h2
  go_enter Tryz.func31, Tryz.ntmps31
  go_wp2_with fail
  go_ret
  exact ⟨rfl, hK0.out.2⟩
 have h2' : ((n : Int) == 0) = false := by simpa using h2
 rw [if_neg h2] at hR
 obtain ⟨C, hC⟩ : ∃ C, checkN 0 D = C := ⟨_, rfl⟩
 rw [hC] at hR
 have HR := hid hR
 have HC := hid hC
 clear hR hC h1 h2
 go_enter Tryz.func31, Tryz.ntmps31
 go_wp2_with fail
 go_loopw [22] (fun x wr => ∃ i : Nat, i <= n /\ x = .int .i64 i /\ checkN i (D.drop i) = C /\ BSt w wr n A cap q) (fun x _ => n - (intOf x).toNat)
 case atStart => exact ⟨0, Nat.zero_le _, rfl, HC.out, hK0.out⟩
 case round =>
  obtain ⟨i, hil, rfl, hinv, hst⟩ := hrel
  have HInv := hid hinv
  have HS := hid hst
  clear hinv
  have b0 := HS.out.1.cell
  have hDr := (HD.out.keep hst.2 (Nat.le_refl _))
  have hrow := hDr.row
  rw [HN.out] at hrow
  by_cases hlt : i < n
  ·have hlt' : (i : Int) < (n : Int) := by omega
   obtain ⟨b, off, x, hA, hbb, hx, g0, g1, g2, g3, g4, g5⟩ := ndRd hrow hlt
   subst hA
   have hstep := checkN_step hx
   rw [HInv.out] at hstep
   have HStep := hid hstep
   have HA := hid (HS.out.alloc (.cells (ndC x) 34))
   have cO := hid (fun W' (h : Below w.heap.size w W') => one_ct x W' (((HD.out.each x (List.mem_of_getElem? hx)).keep h h.size)))
   clear hstep hDr hrow hst hx
   by_cases h3 : decide (x.kind = 1) ≠ decide (i = 0)
   ·have hF := hid (show R = 3 by
     have e := HStep.out
     rw [if_pos h3] at e
     rw [<- HR.out, if_pos (by rw [e]; decide), e])
    have h4 : ((x.kind == 1) = true /\ ((i : Int) == 0) = false) ∨ ((x.kind == 1) = false /\ ((i : Int) == 0) = true) := by
     by_cases a1 : x.kind = 1
     ·by_cases a2 : i = 0
      ·exact absurd (by rw [decide_eq_true a1, decide_eq_true a2]) h3
      ·exact .inl ⟨by simp [a1], by simpa using a2⟩
     ·by_cases a2 : i = 0
      ·exact .inr ⟨by simpa using a1, by simp [a2]⟩
      ·exact absurd (by rw [decide_eq_false a1, decide_eq_false a2]) h3
    clear h3
    rcases h4 with ⟨h5, h6⟩ | ⟨h5, h6⟩
    all_goals
     go_wp2_with fail
     go_ret
     exact ⟨congrArg (fun z => Ending.returned (Value.int IntKind.i64 z)) hF.out.symm, HA.out.2⟩
   ·have h4 : ((x.kind == 1) = true /\ ((i : Int) == 0) = true) ∨ ((x.kind == 1) = false /\ ((i : Int) == 0) = false) := by
     by_cases a1 : x.kind = 1
     ·by_cases a2 : i = 0
      ·exact .inl ⟨by simp [a1], by simp [a2]⟩
      ·exact absurd (by rw [decide_eq_true a1, decide_eq_false a2]; decide) h3
     ·by_cases a2 : i = 0
      ·exact absurd (by rw [decide_eq_false a1, decide_eq_true a2]; decide) h3
      ·exact .inr ⟨by simpa using a1, by simpa using a2⟩
    obtain ⟨E, hE⟩ : ∃ E, oneF x = E := ⟨_, rfl⟩
    have hst2 := HStep.out
    rw [if_neg h3, hE] at hst2
    rw [hE] at cO
    have HSt2 := hid hst2
    clear h3 hst2 hE
    by_cases h7 : E ≠ 0
    ·have h7' : (E != 0) = true := by simpa using h7
     have hF := hid (show R = E by
      have e := HSt2.out
      rw [if_pos h7] at e
      rw [<- HR.out, if_pos (by rw [e]; exact h7), e])
     clear h7
     rcases h4 with ⟨h5, h6⟩ | ⟨h5, h6⟩
     all_goals
      go_wp2_with (go_at_call 50; refine (cO.out _ HA.out.2).mono ?_; rintro e W1 ⟨rfl, hb1⟩; have HS1 := hid (HA.out.on hb1); clear hb1)
      go_ret
      exact ⟨congrArg (fun z => Ending.returned (Value.int IntKind.i64 z)) hF.out.symm, HS1.out.2⟩
    ·have h7' : (E != 0) = false := by simpa using h7
     have hF := hid (HSt2.out.trans (if_neg h7)).symm
     clear h7
     rcases h4 with ⟨h5, h6⟩ | ⟨h5, h6⟩
     all_goals
      go_wp2_with (go_at_call 50; refine (cO.out _ HA.out.2).mono ?_; rintro e W1 ⟨rfl, hb1⟩; have HS1 := hid (HA.out.on hb1); clear hb1)
      go_roundw
      case rel => exact ⟨i + 1, by omega, by go_num, hF.out, HS1.out⟩
      case measure => simp [intOf]; omega
  ·obtain rfl : i = n := by omega
   have hC0 : C = 0 := by rw [<- HInv.out, List.drop_of_length_le (by rw [HN.out]; omega)]; rfl
   have hn0 : 0 < i := by
    have : ¬ i = 0 := by simpa using h2'
    omega
   have cK := hid (fun W' (h : Below w.heap.size w W') => kids_ct D A cap q W' (HD.out.keep h h.size) (by rw [HN.out]; exact hn0) (by rw [HN.out]; omega))
   obtain ⟨K, hK⟩ : ∃ K, kidsF D = K := ⟨_, rfl⟩
   have e := HR.out
   rw [if_neg (by rw [hC0]; decide), hK] at e
   rw [hK, HN.out] at cK
   clear hDr hrow hst hC0
   by_cases h3 : K ≠ 0
   ·rw [if_pos h3] at e
    have hF := hid e.symm
    have h3' : (K != 0) = true := by simpa using h3
    clear h3 e hK
    go_wp2_with (go_at_call 51; refine (cK.out _ HS.out.2).mono ?_; rintro e W1 ⟨rfl, hb1⟩; have HS1 := hid (HS.out.on hb1); clear hb1)
    go_ret
    exact ⟨congrArg (fun z => Ending.returned (Value.int IntKind.i64 z)) hF.out.symm, HS1.out.2⟩
   ·rw [if_neg h3] at e
    have HO := hid (kids_ok (D := D) (by rw [hK]; simpa using h3))
    have h3' : (K != 0) = false := by simpa using h3
    have HE := hid e
    clear h3 e hK
    go_wp2_with (go_at_call 51; refine (cK.out _ HS.out.2).mono ?_; rintro e W1 ⟨rfl, hb1⟩; have HS1 := hid (HS.out.on hb1); have b1 := HS1.out.1.cell; clear hb1)
    go_loopw [47] (fun x wr => ∃ j : Nat, j <= i /\ x = .int .i64 j /\ checkU D j (i - j) = R /\ BSt w wr i A cap q) (fun x _ => i - (intOf x).toNat)
    case atStart => exact ⟨0, Nat.zero_le _, rfl, HE.out, HS1.out⟩
    case round =>
     obtain ⟨j, hjl, rfl, hinj, hst⟩ := hrel
     have HInj := hid hinj
     have HS' := hid hst
     clear hinj hst
     have d0 := HS'.out.1.cell
     by_cases hjt : j < i
     ·have hjt' : (j : Int) < (i : Int) := by omega
      have cU := hid (fun W' (h : Below w.heap.size w W') => up_ct D j (by rw [HN.out]; exact hjt) A cap q W' (HD.out.keep h h.size) HO.out (by rw [HN.out]; omega))
      obtain ⟨U, hU⟩ : ∃ U, upF D (D.length + 1) j = U := ⟨_, rfl⟩
      rw [hU, HN.out] at cU
      have hstep : R = if i < U then 8 else if 40 < U then 2 else checkU D (j + 1) (i - (j + 1)) := by
       rw [<- HInj.out, show i - j = (i - (j + 1)) + 1 by omega, checkU, hU, HN.out]
      have HStep := hid hstep
      clear hstep hU
      by_cases h4 : i < U
      ·have h4' : (i : Int) < (U : Int) := by omega
       have hF := hid (HStep.out.trans (if_pos h4)).symm
       clear h4
       go_wp2_with (go_at_call 52; refine (cU.out _ HS'.out.2).mono ?_; rintro e W2 ⟨rfl, hb1⟩; have HS2 := hid (HS'.out.on hb1); have d1 := HS2.out.1.cell; clear hb1)
       go_ret
       exact ⟨congrArg (fun z => Ending.returned (Value.int IntKind.i64 z)) hF.out, HS2.out.2⟩
      have h4' : ¬ (i : Int) < (U : Int) := by omega
      by_cases h5 : 40 < U
      ·have h5' : (40 : Int) < (U : Int) := by omega
       have hF := hid ((HStep.out.trans (if_neg h4)).trans (if_pos h5)).symm
       clear h4 h5
       go_wp2_with (go_at_call 52; refine (cU.out _ HS'.out.2).mono ?_; rintro e W2 ⟨rfl, hb1⟩; have HS2 := hid (HS'.out.on hb1); have d1 := HS2.out.1.cell; clear hb1)
       go_ret
       exact ⟨congrArg (fun z => Ending.returned (Value.int IntKind.i64 z)) hF.out, HS2.out.2⟩
      ·have h5' : ¬ (40 : Int) < (U : Int) := by omega
       have hF := hid ((HStep.out.trans (if_neg h4)).trans (if_neg h5)).symm
       clear h4 h5
       go_wp2_with (go_at_call 52; refine (cU.out _ HS'.out.2).mono ?_; rintro e W2 ⟨rfl, hb1⟩; have HS2 := hid (HS'.out.on hb1); have d1 := HS2.out.1.cell; clear hb1)
       go_roundw
       case rel => exact ⟨j + 1, by omega, by go_num, hF.out, HS2.out⟩
       case measure => simp [intOf]; omega
     ·obtain rfl : j = i := by omega
      have hF := hid (show R = 0 by rw [<- HInj.out, Nat.sub_self]; rfl)
      go_wp2_with fail
      go_ret
      exact ⟨congrArg (fun z => Ending.returned (Value.int IntKind.i64 z)) hF.out.symm, HS'.out.2⟩
end doc
end Go.Proofs.YthgffoanecknoaaGreatDoor
