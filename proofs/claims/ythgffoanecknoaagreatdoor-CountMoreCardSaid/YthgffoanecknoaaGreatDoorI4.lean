/- Contracts and plain law, a bundle. -/
import Derived.Deep.WholeRow
import Derived.Lib.Hide
import Derived.Test.YthgffoanecknoaaGreatDoorI3
import Derived.Test.YthgffoanecknoaaGreatDoorCC1
set_option linter.unusedVariables false
set_option maxRecDepth 100000
set_option maxHeartbeats 16000000
open Go.Lib (hid)
namespace Go.Proofs.YthgffoanecknoaaGreatDoor
namespace doc
open Go.RowKit base tok prp
set_option linter.unusedSimpArgs false
def fitP (s : Sy) (p : Nat) : Bool := fitsP p (s p).1 (s p).2
def fitsG (s : Sy) : Nat -> Nat -> Bool
 | _, 0 => true
 | p, m + 1 => fitP s p && fitsG s (p + 1) m
def fitsL : List Sy -> Bool
 | [] => true
 | s :: R => fitsG s 0 59 && fitsL R
def fitsF (D : List Nd) (L : List Sy) : Int := if checkF D ≠ 0 then checkF D else if L.length ≠ D.length then 3 else if fitsL L then 0 else 3
theorem fitsL_step {L : List Sy} {i : Nat} {s : Sy} (h : L[i]? = some s) : fitsL (L.drop i) = (fitsG s 0 59 && fitsL (L.drop (i + 1))) := by
 obtain ⟨hl, he⟩ := List.getElem?_eq_some_iff.1 h
 rw [List.drop_eq_getElem_cons hl, he, fitsL]
theorem pairs_len (s : Sy) : ∀ k, ((List.range k).flatMap fun p => [Value.int .i64 (s p).1, .int .i64 (s p).2]).length = k * 2
 | 0 => rfl
 | k + 1 => by
  rw [List.range_succ, List.flatMap_append, List.length_append, pairs_len s k]
  simp
  omega
theorem style_index {cs : List Value} {p : Nat} {a b : Value} (hp : p < 59) (hl : cs.length = 118) (h0 : cs[p * 2]? = some a) (h1 : cs[p * 2 + 1]? = some b) (w : World) : (Instr.index 38 (.agg cs.toArray) (.int .i64 p)).run Tryz.prog w = .ok (.agg #[a, b]) w := by
 have hx : List.take 2 (List.drop (p * 2) cs) = [a, b] := by
  obtain ⟨l0, e0⟩ := List.getElem?_eq_some_iff.1 h0
  obtain ⟨l1, e1⟩ := List.getElem?_eq_some_iff.1 h1
  rw [List.drop_eq_getElem_cons l0, List.drop_eq_getElem_cons l1, e0, e1]
  rfl
 have hp1 : (0 : Int) <= (p : Int) := by omega
 have hp2 : (p : Int) < 59 := by omega
 have hagg : ∀ w, (isAgg 36).run Tryz.prog w = .ok true w := fun w => by
  unfold isAgg
  rw [Sem.run_bind, run_underlying Tryz.underlying36 w]
  rfl
 simp [Instr.index, part, run_underlying Tryz.underlying38, asIntOf, Tryz.sizeOf36, hp1, hp2, hp, hagg, hx, go_sem]
theorem scells_one (s : Sy) : (scells s).toArray.all (·.oneCell') = true := by
 rw [Array.all_eq_true_iff_forall_mem]
 intro v hv
 have hv' : v ∈ scells s := by simpa using hv
 obtain ⟨p, -, hp⟩ := List.mem_flatMap.1 hv'
 simp only [List.mem_cons, List.not_mem_nil, or_false] at hp
 rcases hp with rfl | rfl <;> rfl
theorem wp_load_at {P : Program} {o : Oper} {a : Act} {w : World} {K : Act -> World -> Prop} {Q : Exit -> Act -> World -> Prop} (ty : TypeId) (x : Operand) (ho : o.op = .load ty x)
  (g : Addr) (hx : a.eval x = .pointer (some g)) (cs : List Value) (d : TypeDesc) (hc : ∀ j v, cs[j]? = some v -> w.cell? (g.add j) = some v)
  (hu : P.underlying ty = some d) (hd : (match d with | .struct _ | .array _ _ => true | _ => false) = true) (hi : (P.info? ty).map (·.size) = some cs.length)
  (h : K (a.put o.dst (.agg cs.toArray)) w) : o.wp P a w K Q := by
 have hl := run_loadCells_list (P := P) w g cs hc
 have hv : (loadVar ty g).run P w = .ok (.agg cs.toArray) w := by
  cases hq : P.info? ty with
  | none => simp [hq] at hi
  | some i =>
   have hs : i.size = cs.length := by simpa [hq] using hi
   have hagg : (isAgg ty).run P w = .ok true w := by
    unfold isAgg
    rw [Sem.run_bind, run_underlying hu w]
    cases d <;> simp_all
   simp [loadVar, Sem.run_bind, hagg, sizeOf, typeInfo, hq, hs, hl]
 unfold Oper.wp execOp
 simp only [ho, hx, Instr.loadAt, Instr.sureAddr, Sem.run_bind, Sem.run_pure, Result.andThen_ok, hv]
 exact h
theorem scells_at (s : Sy) {p : Nat} (hp : p < 59) (j : Nat) (hj : j < 2) : (scells s)[p * 2 + j]? = [Value.int .i64 (s p).1, .int .i64 (s p).2][j]? := by
 unfold scells
 have key : ∀ k, p < k -> ((List.range k).flatMap fun p => [Value.int .i64 (s p).1, .int .i64 (s p).2])[p * 2 + j]? = [Value.int .i64 (s p).1, .int .i64 (s p).2][j]? := by
  intro k
  induction k with
  | zero => intro h; omega
  | succ k ih =>
   intro h
   have hlen : ((List.range k).flatMap fun p => [Value.int .i64 (s p).1, .int .i64 (s p).2]).length = k * 2 := pairs_len s k
   rw [List.range_succ, List.flatMap_append]
   by_cases hpk : p < k
   ·rw [List.getElem?_append_left (by rw [hlen]; omega)]
    exact ih hpk
   ·obtain rfl : p = k := by omega
    rw [List.getElem?_append_right (by rw [hlen]; omega), hlen]
    simp
 exact key 59 hp
theorem scells_len (s : Sy) : (scells s).length = 118 := pairs_len s 59
theorem Fits_ct (D : List Nd) (L : List Sy) (A B : Option Addr) (cap capL : Nat) (q : Bool) (w : World) (hD : DocAt w w.heap.size A cap D) (hL : StyAt w w.heap.size B capL L) (hM : MaxL w) : Calls Tryz.prog 16 #[dcV A D.length cap q, .slice B L.length capL] w fun e w' => e = .returned (.int .i64 (fitsF D L)) /\ Below w.heap.size w w' := by
 have hcp := hD.len
 have hcl := hL.len
 unfold maxLen at hcp hcl
 have HL := hid hL
 have HM2 := hid hM
 have HML := hid hM.lt
 have cC := hid (fun W' (h : Below w.heap.size w W') => Check_ct D A cap q W' (hD.keep h h.size))
 have hK0 := hid (BSt.beg (w := w) (n := D.length) (A := A) (cap := cap) (q := q))
 unfold fitsF
 obtain ⟨C, hC⟩ : ∃ C, checkF D = C := ⟨_, rfl⟩
 rw [hC] at cC ⊢
 obtain ⟨n, hn⟩ : ∃ n, D.length = n := ⟨_, rfl⟩
 obtain ⟨m, hm⟩ : ∃ m, L.length = m := ⟨_, rfl⟩
 have HM := hid hm
 rw [hn] at cC hK0 hcp ⊢
 rw [hm] at hcl ⊢
 clear hD hL hC hn hm hM
 by_cases h1 : C ≠ 0
 ·rw [if_pos h1]
  have h1' : (C != 0) = true := by simpa using h1
  clear h1
  go_enter Tryz.func16, Tryz.ntmps16
  go_wp2_with (go_at_call 31; refine (cC.out _ hK0.out.2).mono ?_; rintro e W1 ⟨rfl, hb1⟩; have HS1 := hid (hK0.out.on hb1); have b1 := HS1.out.1.cell; clear hb1)
  go_ret
  exact ⟨rfl, HS1.out.2⟩
 rw [if_neg h1]
 have h1' : (C != 0) = false := by simpa using h1
 clear h1
 by_cases h2 : m ≠ n
 ·rw [if_pos h2]
  have h2' : ((m : Int) != (n : Int)) = true := by simp; omega
  go_enter Tryz.func16, Tryz.ntmps16
  go_wp2_with (go_at_call 31; refine (cC.out _ hK0.out.2).mono ?_; rintro e W1 ⟨rfl, hb1⟩; have HS1 := hid (hK0.out.on hb1); have b1 := HS1.out.1.cell; clear hb1)
  go_ret
  exact ⟨rfl, HS1.out.2⟩
 rw [if_neg h2]
 have h2' : ((m : Int) != (n : Int)) = false := by simp; omega
 obtain ⟨R, hR⟩ : ∃ R, fitsL L = R := ⟨_, rfl⟩
 have HR := hid hR
 rw [hR]
 obtain ⟨Z, hZ⟩ : ∃ Z : Int, (if R = true then (0 : Int) else 3) = Z := ⟨_, rfl⟩
 rw [hZ]
 have HZ := hid hZ
 clear h2 hR hZ
 go_enter Tryz.func16, Tryz.ntmps16
 go_wp2_with (go_at_call 31; refine (cC.out _ hK0.out.2).mono ?_; rintro e W1 ⟨rfl, hb1⟩; have HS1 := hid (hK0.out.on hb1); have b1 := HS1.out.1.cell; clear hb1)
 go_loopw [23] (fun x wr => ∃ i : Nat, i <= m /\ x = .int .i64 i /\ fitsL (L.drop i) = R /\ Below w.heap.size w wr) (fun x _ => m - (intOf x).toNat)
 case atStart => exact ⟨0, Nat.zero_le _, rfl, HR.out, HS1.out.2⟩
 case round =>
  obtain ⟨i, hil, rfl, hinv, hbel⟩ := hrel
  have HInv := hid hinv
  have HBl := hid hbel
  clear hinv
  by_cases hlt : i < m
  ·have hlt' : (i : Int) < (m : Int) := by omega
   have hrow := (HL.out.keep hbel (Nat.le_refl _)).row
   rw [HM.out] at hrow
   obtain ⟨b, off, s, hA, hbb, hs, hcs⟩ := Rd.at_ hrow hlt
   subst hA
   have hld : ∀ j v, (scells s)[j]? = some v -> wr.cell? ((⟨b, off + i * 118, none⟩ : Addr).add j) = some v := fun j v hv => by
    rw [add_none, hcs j (by have := (List.getElem?_eq_some_iff.1 hv).1; rwa [scells_len] at this)]
    exact hv
   have HLd := hid hld
   have hlen := scells_len s
   have hone := scells_one s
   have HSy := hid (HL.out.each s (List.mem_of_getElem? hs))
   have hat := hid (fun p (hp : p < 59) => scells_at s hp)
   obtain ⟨cs, hcs'⟩ : ∃ cs, scells s = cs := ⟨_, rfl⟩
   rw [hcs'] at HLd hlen hone hat
   have HOne := hid hone
   have HLen := hid hlen
   clear hone hlen hcs'
   clear hld hrow hcs hbel
   go_wp2_with fail
   refine wp_load_at 38 (.tmp 25) rfl ⟨b, off + i * 118, none⟩ rfl cs (.array 59 36) HLd.out Tryz.underlying38 rfl (by rw [HLen.out]; kernel_rfl) ?_
   go_wp2_with fail
   refine upon_rows ?hb (D := cs.toArray) ?hL ?hi ?hz ?h1 ?hn
   case hb => rfl
   case hL => rfl
   case hi => rw [List.size_toArray, HLen.out]; kernel_rfl
   case hz =>
    have e : cs.toArray.size = 118 := by simpa using HLen.out
    rw [e]
    decide +kernel
   case h1 => exact HOne.out
   have BN := hid (Blk.new (w := wr) (t := 38) (cs := cs.toArray) rfl)
   have HBa := hid (HBl.out.alloc HBl.out.size (.cells cs.toArray 38))
   obtain ⟨W2, hW2⟩ : ∃ W2, wr.alloc (.cells cs.toArray 38) = W2 := ⟨_, rfl⟩
   rw [hW2] at BN HBa ⊢
   clear hW2
   go_wp2_with fail
   refine wp_load_at 38 (.tmp 7) rfl ⟨wr.heap.size, 0, none⟩ rfl cs (.array 59 36) (fun j v hv => by rw [add_none, Nat.zero_add, BN.out.cell]; simpa using hv) Tryz.underlying38 rfl (by rw [HLen.out]; kernel_rfl) ?_
   go_wp2_with fail
   go_loopw [28] (fun y wr2 => ∃ p : Nat, p <= 59 /\ y = .int .i64 p /\ fitsG s p (59 - p) = fitsG s 0 59 /\ Below w.heap.size w wr2) (fun y _ => 59 - (intOf y).toNat)
   case atStart => exact ⟨0, Nat.zero_le _, rfl, rfl, HBa.out⟩
   case round =>
    rename_i wr2
    obtain ⟨p, hpl, rfl, hinp, hbp⟩ := hrel
    have HInp := hid hinp
    have HBp := hid hbp
    clear hinp hbp
    by_cases hpt : p < 59
    ·have hpt' : (p : Int) < 59 := by omega
     have z0 := hat.out p hpt 0 (by decide)
     have z1 := hat.out p hpt 1 (by decide)
     have hix := fun w => style_index hpt HLen.out z0 z1 w
     have hsy := HSy.out p hpt
     have cF := hid (fun W' hm => fits_ct p hpt (s p).1 (s p).2 hsy.2 W' hm)
     have HA2 := hid (HBp.out.alloc HBp.out.size (.cells #[.int .i64 (s p).1, .int .i64 (s p).2] 36))
     have hst : fitsG s p (59 - p) = (fitP s p && fitsG s (p + 1) (59 - (p + 1))) := by
      rw [show 59 - p = (59 - (p + 1)) + 1 by omega, fitsG]
     rw [HInp.out] at hst
     unfold fitP at hst
     obtain ⟨F, hF⟩ : ∃ F, fitsP p (s p).1 (s p).2 = F := ⟨_, rfl⟩
     rw [hF] at hst cF
     have HSt := hid hst
     clear z0 z1 hsy hst hF
     cases F with
     | false =>
      have hF := hid (show R = false by rw [<- HInv.out, fitsL_step hs, HSt.out]; rfl)
      go_wp2_with (go_at_call 20; refine (cF.out _ (HM2.out.on HA2.out HML.out)).mono ?_; rintro e W3 ⟨rfl, hb1⟩; have HS3 := hid (tb HA2 hb1); clear hb1)
      go_ret
      exact ⟨by rw [<- HZ.out, hF.out]; rfl, HS3.out⟩
     | true =>
      have hF := hid (show fitsG s (p + 1) (59 - (p + 1)) = fitsG s 0 59 by rw [HSt.out]; rfl)
      go_wp2_with (go_at_call 20; refine (cF.out _ (HM2.out.on HA2.out HML.out)).mono ?_; rintro e W3 ⟨rfl, hb1⟩; have HS3 := hid (tb HA2 hb1); clear hb1)
      go_roundw
      case rel => exact ⟨p + 1, by omega, by go_num, hF.out, HS3.out⟩
      case measure => simp [intOf]; omega
    ·obtain rfl : p = 59 := by omega
     have hF := hid (show fitsL (L.drop (i + 1)) = R by rw [<- HInv.out, fitsL_step hs, <- HInp.out]; rfl)
     go_wp2_with fail
     go_roundw
     case rel => exact ⟨i + 1, by omega, by go_num, hF.out, HBp.out⟩
     case measure => simp [intOf]; omega
  ·obtain rfl : i = m := by omega
   have hF := hid (show R = true by rw [<- HInv.out, List.drop_of_length_le (by rw [HM.out]; omega)]; rfl)
   clear hbel
   go_wp2_with fail
   go_ret
   exact ⟨by rw [<- HZ.out, hF.out]; rfl, HBl.out⟩
end doc
end Go.Proofs.YthgffoanecknoaaGreatDoor
