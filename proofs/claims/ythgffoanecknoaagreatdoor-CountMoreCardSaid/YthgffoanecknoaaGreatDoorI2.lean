/- Contracts and plain law, a bundle. -/
import Derived.Laws.MakeOwn
import Derived.Lib.Hide
import Derived.Test.YthgffoanecknoaaGreatDoorI1
set_option linter.unusedVariables false
set_option maxRecDepth 100000
set_option maxHeartbeats 16000000
open Go.Lib (hid)
namespace Go.Proofs.YthgffoanecknoaaGreatDoor
namespace doc
open Go.RowKit base tok
set_option linter.unusedSimpArgs false
theorem run_mkn {P : Program} {T E : TypeId} {z : Value} {b : Nat} (hT : P.underlying T = some (.slice E)) (hi : (P.info? E).map (fun i => (i.zero, i.size, i.bytes)) = some (some z, 1, b)) (hz : z.cells = #[z]) (hb : b <= 8) (n : Nat) (hn : n <= 1000000) (w : World) :
  (Instr.makeSlice T (.int .i64 n) (.int .i64 n)).run P w = .ok (.slice (some ⟨w.heap.size, 0, none⟩) n n) (w.alloc (.cells (Array.replicate n z) E)) := by
 cases h : P.info? E with
 | none => rw [h] at hi; cases hi
 | some i =>
  rw [h] at hi
  simp only [Option.map_some, Option.some.injEq, Prod.mk.injEq] at hi
  obtain ⟨h1, h2, h3⟩ := hi
  have hm : (i.bytes : Int) * (n : Int) <= 8 * 1000000 := by
   have : i.bytes * n <= 8 * 1000000 := Nat.mul_le_mul (by omega) hn
   omega
  have := run_make (P := P) w T E i z hT h h1 .i64 .i64 n n (by omega) (Int.le_refl _) (by omega) (by omega)
  rw [this, h2, hz]
  simp only [Int.toNat_natCast, Nat.mul_one]
  congr 3
  apply Array.ext
  ·simp [madeCells]
  ·intro i h1 h2
   simp [madeCells, Nat.mod_one]
def seenC (n : Nat) (s : List Int) : Array Value := ((List.range n).map fun k => .bool (decide ((k : Int) ∈ s))).toArray
theorem seenC_nil (n : Nat) : Array.replicate n (.bool false) = seenC n [] := by
 apply Array.ext
 ·simp [seenC]
 ·intro i h1 h2
  simp [seenC]
theorem seenC_at {n k : Nat} (s : List Int) (hk : k < n) : (seenC n s)[k]? = some (.bool (decide ((k : Int) ∈ s))) := by
 simp [seenC, hk]
theorem seenC_put {n k : Nat} (s : List Int) (hk : k < n) : (seenC n s).setIfInBounds k (.bool true) = seenC n ((k : Int) :: s) := by
 apply Array.ext
 ·simp [seenC]
 ·intro i h1 h2
  have hi : i < n := by simpa [seenC] using h2
  by_cases h : k = i
  ·subst h
   simp [seenC]
  ·have h' : ¬ (i : Int) = (k : Int) := by omega
   simp [seenC, h, h']
theorem kidsG_step {D : List Nd} {i j : Nat} {s L : List Int} {k : Int} (h : L[j]? = some k) : kidsG D i s (L.drop j) = if k < 0 ∨ (D.length : Int) <= k ∨ parAt D k ≠ i ∨ k ∈ s then (3, s) else if i = 0 /\ kindAt D k = 3 then (7, s) else kidsG D i (k :: s) (L.drop (j + 1)) := by
 obtain ⟨hl, he⟩ := List.getElem?_eq_some_iff.1 h
 rw [List.drop_eq_getElem_cons hl, he, kidsG]
theorem kidsN_step {D : List Nd} {i : Nat} {s : List Int} {x : Nd} (h : D[i]? = some x) : kidsN D i s (D.drop i) = if (kidsG D i s x.kids).1 ≠ 0 then kidsG D i s x.kids else kidsN D (i + 1) (kidsG D i s x.kids).2 (D.drop (i + 1)) := by
 obtain ⟨hl, he⟩ := List.getElem?_eq_some_iff.1 h
 rw [List.drop_eq_getElem_cons hl, he, kidsN]
theorem kidsO_step {D : List Nd} {i : Nat} {s : List Int} {x : Nd} (h : D[i]? = some x) : kidsO s i (D.drop i) = if x.parent ≠ -1 /\ (i : Int) ∉ s then 3 else kidsO s (i + 1) (D.drop (i + 1)) := by
 obtain ⟨hl, he⟩ := List.getElem?_eq_some_iff.1 h
 rw [List.drop_eq_getElem_cons hl, he, kidsO]
theorem kindAt_at {D : List Nd} {j : Nat} {x : Nd} (h : D[j]? = some x) : kindAt D j = x.kind := by unfold kindAt; rw [Int.toNat_natCast, h]; rfl
theorem inRd {w : World} {B : Nat} {A : Option Addr} {n k : Nat} {V : List Int} (h : Rd 1 icells w B A n V) (hk : k < n) : ∃ b off p, A = some ⟨b, off, none⟩ /\ b < B /\ V[k]? = some p /\ w.cell? ⟨b, off + k, none⟩ = some (.int .i64 p) := by
 obtain ⟨b, off, p, hA, hlt, hd, hc⟩ := Rd.at_ h hk
 exact ⟨b, off, p, hA, hlt, hd, by have := hc 0 (by decide); rwa [Nat.mul_one, Nat.add_zero] at this⟩
theorem kidsF_err {D : List Nd} {P PG : Int × List Int} (hP : kidsN D 0 [] D = P) {i : Nat} {s : List Int} {x : Nd} (hx : D[i]? = some x) (hi : kidsN D i s (D.drop i) = P) (hg : kidsG D i s x.kids = PG) (h : PG.1 ≠ 0) : kidsF D = PG.1 := by
 rw [kidsN_step hx, hg, if_pos h] at hi
 subst hi
 unfold kidsF
 rw [hP, if_pos h]
def KSt (w wr : World) (n : Nat) (A : Option Addr) (cap : Nat) (q : Bool) (s : List Int) : Prop :=
 Blk wr w.heap.size 24 #[.slice A n cap, .bool q] /\ Blk wr (w.heap.size + 1) 4 (seenC n s) /\ Below w.heap.size w wr
theorem KSt.alloc {w wr : World} {n : Nat} {A : Option Addr} {cap : Nat} {q : Bool} {s : List Int} (h : KSt w wr n A cap q s) (o : Obj) : KSt w (wr.alloc o) n A cap q s :=
 ⟨h.1.alloc o, h.2.1.alloc o, h.2.2.alloc h.2.2.size o⟩
theorem KSt.put {w wr : World} {n : Nat} {A : Option Addr} {cap : Nat} {q : Bool} {s : List Int} (h : KSt w wr n A cap q s) {m : Nat} (hm : m < n) : KSt w (wr.setCell ⟨w.heap.size + 1, m, none⟩ (.bool true)) n A cap q ((m : Int) :: s) :=
 ⟨h.1.far (by simp) _, by have := h.2.1.put m (.bool true); rwa [seenC_put s hm] at this, h.2.2.setCell (by simp) _⟩
theorem kids_ct (D : List Nd) (A : Option Addr) (cap : Nat) (q : Bool) (w : World) (hD : DocAt w w.heap.size A cap D) (h0 : 0 < D.length) (hl : D.length <= 200) : Calls Tryz.prog 51 #[dcV A D.length cap q] w fun e w' => e = .returned (.int .i64 (kidsF D)) /\ Below w.heap.size w w' := by
 have HD := hid hD
 clear hD
 obtain ⟨n, hn⟩ : ∃ n, D.length = n := ⟨_, rfl⟩
 have HN := hid hn
 rw [hn] at h0 hl ⊢
 clear hn
 obtain ⟨P, hP⟩ : ∃ P, kidsN D 0 [] D = P := ⟨_, rfl⟩
 have HP := hid hP
 have hK0 := hid (show KSt w ((w.alloc (.cells #[.slice A n cap, .bool q] 24)).alloc (.cells (seenC n []) 4)) n A cap q [] from ⟨(Blk.new rfl).alloc _, Blk.new (by simp), ((Below.refl _ w).alloc (Nat.le_refl _) _).alloc (by simp) _⟩)
 obtain ⟨R, hR⟩ : ∃ R, kidsF D = R := ⟨_, rfl⟩
 have HR := hid hR
 rw [hR]
 clear hP hR
 go_enter Tryz.func51, Tryz.ntmps51
 have hmk := fun w => run_mkn Tryz.underlying125 (z := .bool false) (b := 1) (by kernel_rfl) rfl (by decide) n (by omega) w
 rw [seenC_nil] at hmk
 go_wp2_with fail
 clear hmk
 go_loopw [17] (fun x wr => ∃ (i : Nat) (s : List Int), i <= n /\ x = .int .i64 i /\ kidsN D i s (D.drop i) = P /\ KSt w wr n A cap q s) (fun x _ => n - (intOf x).toNat)
 case atStart => exact ⟨0, [], Nat.zero_le _, rfl, HP.out, hK0.out⟩
 case round =>
  obtain ⟨i, s, hil, rfl, hinv, hst⟩ := hrel
  have HInv := hid hinv
  have HS := hid hst
  clear hinv
  obtain ⟨wo, hwo⟩ : ∃ wo : World, wo = wr := ⟨_, rfl⟩
  subst hwo
  have b0 := HS.out.1.cell
  by_cases hlt : i < n
  ·have hlt' : (i : Int) < (n : Int) := by omega
   have hDr := (HD.out.keep hst.2.2 (Nat.le_refl _))
   have hrow := hDr.row
   rw [HN.out] at hrow
   obtain ⟨b, off, x, hA, hbb, hx, g0, g1, g2, g3, g4, g5⟩ := ndRd hrow hlt
   subst hA
   have HX := hid hx
   have hin := hDr.each x (List.mem_of_getElem? hx)
   have HIn := hid hin
   have HA := hid (HS.out.alloc (.cells (ndC x) 34))
   obtain ⟨PG, hPG⟩ : ∃ PG, kidsG D i s x.kids = PG := ⟨_, rfl⟩
   have HG := hid hPG
   have hkl := hin.kidL
   unfold maxLen at hkl
   clear hDr hrow hx hin hPG hst
   go_wp2_with fail
   go_loopw [25] (fun y wr => ∃ (j : Nat) (s' : List Int), j <= x.kids.length /\ y = .int .i64 j /\ kidsG D i s' (x.kids.drop j) = PG /\ KSt w wr n (some ⟨b, off, none⟩) cap q s') (fun y _ => x.kids.length - (intOf y).toNat)
   case atStart => exact ⟨0, s, Nat.zero_le _, rfl, HG.out, HA.out⟩
   case round =>
    obtain ⟨j, s', hjl, rfl, hing, hst⟩ := hrel
    have HIg := hid hing
    have HS' := hid hst
    clear hing
    have d0 := HS'.out.1.cell
    by_cases hjt : j < x.kids.length
    ·have hjt' : (j : Int) < (x.kids.length : Int) := by omega
     have hDr := (HD.out.keep hst.2.2 (Nat.le_refl _))
     have hrow := hDr.row
     rw [HN.out] at hrow
     obtain ⟨kb, koff, k, hkA, hkb, hk, ck⟩ := inRd (hDr.each x (List.mem_of_getElem? HX.out)).kids hjt
     have hks := (hDr.each x (List.mem_of_getElem? HX.out)).kidS k (List.mem_of_getElem? hk)
     have hstep := kidsG_step (D := D) (i := i) (s := s') hk
     rw [HIg.out, HN.out] at hstep
     have HStep := hid hstep
     have hB := hid hst.2.2
     clear hDr hk hstep
     have err3 : PG = (3, s') -> R = 3 := fun h => by
      have := kidsF_err HP.out HX.out HInv.out HG.out (by rw [h]; exact (by decide : ¬ (3 : Int) = 0))
      rw [HR.out, h] at this
      exact this
     rw [hkA]
     by_cases h1 : k < 0
     ·have hF := hid (err3 (by rw [HStep.out, if_pos (.inl h1)]))
      clear err3 hst hrow hkA g5
      go_wp2_with fail
      go_ret
      exact ⟨congrArg (fun z => Ending.returned (Value.int IntKind.i64 z)) hF.out.symm, hB.out⟩
     by_cases h2 : (n : Int) <= k
     ·have hF := hid (err3 (by rw [HStep.out, if_pos (.inr (.inl h2))]))
      clear err3 hst hrow hkA g5
      go_wp2_with fail
      go_ret
      exact ⟨congrArg (fun z => Ending.returned (Value.int IntKind.i64 z)) hF.out.symm, hB.out⟩
     obtain ⟨m, rfl⟩ : ∃ m : Nat, k = m := ⟨k.toNat, by omega⟩
     have hmn : m < n := by omega
     obtain ⟨b', off', y, hA', hbb', hy, r0, r1, r2, r3, r4, r5⟩ := ndRd hrow hmn
     obtain ⟨rfl, rfl⟩ : b = b' /\ off = off' := by simpa using hA'
     have hpy := parAt_at hy
     have hky := kindAt_at hy
     have s0 : wr.cell? ⟨w.heap.size + 1, m, none⟩ = some (.bool (decide ((m : Int) ∈ s'))) := (HS'.out.2.1.cell m).trans (seenC_at s' hmn)
     have h0' : ¬ (m : Int) < 0 := by omega
     have h2' : (m : Int) < (n : Int) := by omega
     by_cases h3 : y.parent ≠ i
     ·have hF := hid (err3 (by rw [HStep.out, if_pos (.inr (.inr (.inl (by rw [hpy]; exact h3))))]))
      have h3' : (y.parent != (i : Int)) = true := by simpa using h3
      clear err3 hst hrow hkA g5 hA' hy h3 h1 h2
      go_wp2_with fail
      go_ret
      exact ⟨congrArg (fun z => Ending.returned (Value.int IntKind.i64 z)) hF.out.symm, hB.out⟩
     replace h3 : y.parent = i := by simpa using h3
     have h3' : (y.parent != (i : Int)) = false := by simpa using h3
     by_cases h4 : (m : Int) ∈ s'
     ·have hF := hid (err3 (by rw [HStep.out, if_pos (.inr (.inr (.inr h4)))]))
      rw [decide_eq_true h4] at s0
      clear err3 hst hrow hkA g5 hA' hy h3 h1 h2 h4
      go_wp2_with fail
      go_ret
      exact ⟨congrArg (fun z => Ending.returned (Value.int IntKind.i64 z)) hF.out.symm, hB.out⟩
     rw [decide_eq_false h4] at s0
     have hst2 := HStep.out
     rw [if_neg (by rw [hpy]; exact fun g => g.elim h1 fun g => g.elim h2 fun g => g.elim (fun g => g h3) h4), hky] at hst2
     have HSt2 := hid hst2
     clear hst2
     by_cases h5 : i = 0 /\ y.kind = 3
     ·have hF := hid (show R = 7 by
       have e := HSt2.out
       rw [if_pos h5] at e
       have := kidsF_err HP.out HX.out HInv.out HG.out (by rw [e]; exact (by decide : ¬ (7 : Int) = 0))
       rw [HR.out, e] at this
       exact this)
      obtain ⟨h6, h7⟩ := h5
      have h6' : ((i : Int) == 0) = true := by simp [h6]
      have h7' : (y.kind == 3) = true := by simp [h7]
      clear err3 hst hrow hkA g5 hA' hy h3 h1 h2 h4 h6 h7
      go_wp2_with fail
      go_ret
      exact ⟨congrArg (fun z => Ending.returned (Value.int IntKind.i64 z)) hF.out.symm, hB.out⟩
     have hF := hid (HSt2.out.trans (if_neg h5)).symm
     have h6 : ((i : Int) == 0) = false ∨ (((i : Int) == 0) = true /\ (y.kind == 3) = false) := by
      by_cases g : i = 0
      ·exact .inr ⟨by simp [g], by simp; exact fun h => h5 ⟨g, h⟩⟩
      ·exact .inl (by simpa using g)
     have HW := hid (HS'.out.put hmn)
     have sf := HS'.out.2.1.frozen
     clear err3 hst hrow hkA g5 hA' hy h3 h1 h2 h4 h5
     rcases h6 with h6 | ⟨h6, h7⟩
     all_goals
      go_wp2_with fail
      go_roundw
      case rel => exact ⟨j + 1, (m : Int) :: s', by omega, by go_num, hF.out, HW.out⟩
      case measure => simp [intOf]; omega
    ·obtain rfl : j = x.kids.length := by omega
     have hFin := hid (show kidsN D (i + 1) s' (D.drop (i + 1)) = P by
      have e : PG = (0, s') := by rw [<- HIg.out, List.drop_length]; rfl
      rw [<- HInv.out, kidsN_step HX.out, HG.out, e]
      rfl)
     clear hst
     go_wp2_with fail
     go_roundw
     case rel => exact ⟨i + 1, s', by omega, by go_num, hFin.out, HS'.out⟩
     case measure => simp [intOf]; omega
  ·obtain rfl : i = n := by omega
   have hP2 : P = (0, s) := by rw [<- HInv.out, List.drop_of_length_le (by rw [HN.out]; omega)]; rfl
   obtain ⟨O, hO⟩ : ∃ O, kidsO s 0 D = O := ⟨_, rfl⟩
   have hR2 : R = if O ≠ 0 then 3 else if parAt D 0 ≠ -1 then 3 else 0 := by
    have e := HP.out
    rw [hP2] at e
    rw [<- HR.out, <- hO]
    unfold kidsF
    rw [e]
    rfl
   have HR2 := hid hR2
   have HO := hid hO
   clear hP2 hR2 hO hst
   go_wp2_with fail
   go_loopw [74] (fun y wr => ∃ j : Nat, j <= i /\ y = .int .i64 j /\ kidsO s j (D.drop j) = O /\ KSt w wr i A cap q s) (fun y _ => i - (intOf y).toNat)
   case atStart => exact ⟨0, Nat.zero_le _, rfl, HO.out, HS.out⟩
   case round =>
    obtain ⟨j, hjl, rfl, hinj, hst⟩ := hrel
    have HInj := hid hinj
    have HS' := hid hst
    have hB := hid hst.2.2
    clear hinj
    have d0 := HS'.out.1.cell
    have hDr := (HD.out.keep hst.2.2 (Nat.le_refl _))
    have hrow := hDr.row
    rw [HN.out] at hrow
    by_cases hjt : j < i
    ·have hjt' : (j : Int) < (i : Int) := by omega
     obtain ⟨b, off, x, hA, hbb, hx, g0, g1, g2, g3, g4, g5⟩ := ndRd hrow hjt
     subst hA
     have hstep := kidsO_step (s := s) hx
     rw [HInj.out] at hstep
     have HStep := hid hstep
     have HA := hid (HS'.out.alloc (.cells (ndC x) 34))
     have s0 : (wr.alloc (.cells (ndC x) 34)).cell? ⟨w.heap.size + 1, j, none⟩ = some (.bool (decide ((j : Int) ∈ s))) := (HA.out.2.1.cell j).trans (seenC_at s hjt)
     clear hstep hDr hrow hst hx
     by_cases h1 : x.parent ≠ -1
     ·have h1' : (x.parent != -1) = true := by simpa using h1
      by_cases h2 : (j : Int) ∈ s
      ·rw [decide_eq_true h2] at s0
       have hF := hid (HStep.out.trans (if_neg (fun g => g.2 h2))).symm
       clear h1 h2
       go_wp2_with fail
       go_roundw
       case rel => exact ⟨j + 1, by omega, by go_num, hF.out, HA.out⟩
       case measure => simp [intOf]; omega
      ·rw [decide_eq_false h2] at s0
       have hF := hid (show R = 3 by rw [HR2.out, if_pos (by rw [HStep.out, if_pos ⟨h1, h2⟩]; decide)])
       clear h1 h2
       go_wp2_with fail
       go_ret
       exact ⟨congrArg (fun z => Ending.returned (Value.int IntKind.i64 z)) hF.out.symm, HA.out.2.2⟩
     ·have h1' : (x.parent != -1) = false := by simpa using h1
      have hF := hid (HStep.out.trans (if_neg (fun g => h1 g.1))).symm
      clear h1
      go_wp2_with fail
      go_roundw
      case rel => exact ⟨j + 1, by omega, by go_num, hF.out, HA.out⟩
      case measure => simp [intOf]; omega
    ·obtain rfl : j = i := by omega
     have hO0 : O = 0 := by rw [<- HInj.out, List.drop_of_length_le (by rw [HN.out]; omega)]; rfl
     obtain ⟨b, off, x, hA, hbb, hx, g0, g1, g2, g3, g4, g5⟩ := ndRd hrow h0
     subst hA
     rw [Nat.zero_mul, Nat.add_zero] at g4
     have hp := parAt_at hx
     have e := HR2.out
     rw [if_neg (by rw [hO0]; decide), show parAt D 0 = x.parent from hp] at e
     have h0' : (0 : Int) < (j : Int) := by omega
     by_cases h1 : x.parent ≠ -1
     ·have h1' : (x.parent != -1) = true := by simpa using h1
      rw [if_pos h1] at e
      have hF := hid e
      clear h1 e hrow hDr hst hx hp hO0
      go_wp2_with fail
      go_ret
      exact ⟨congrArg (fun z => Ending.returned (Value.int IntKind.i64 z)) hF.out.symm, hB.out⟩
     ·have h1' : (x.parent != -1) = false := by simpa using h1
      rw [if_neg h1] at e
      have hF := hid e
      clear h1 e hrow hDr hst hx hp hO0
      go_wp2_with fail
      go_ret
      exact ⟨congrArg (fun z => Ending.returned (Value.int IntKind.i64 z)) hF.out.symm, hB.out⟩
end doc
end Go.Proofs.YthgffoanecknoaaGreatDoor
