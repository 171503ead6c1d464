/- Contracts and plain law, a bundle. -/
import Derived.Lib.Hide
import Derived.Test.YthgffoanecknoaaGreatDoorI0
set_option linter.unusedVariables false
set_option maxRecDepth 100000
set_option maxHeartbeats 16000000
open Go.Lib (hid)
namespace Go.Proofs.YthgffoanecknoaaGreatDoor
namespace doc
open Go.RowKit base tok
set_option linter.unusedSimpArgs false
abbrev dcV (A : Option Addr) (n cap : Nat) (q : Bool) : Value := .agg #[.slice A n cap, .bool q]
theorem ndRd {w : World} {B : Nat} {A : Option Addr} {n k : Nat} {D : List Nd} (h : Rd 6 ncells w B A n D) (hk : k < n) : ∃ b off x, A = some ⟨b, off, none⟩ /\ b < B /\ D[k]? = some x /\ w.cell? ⟨b, off + k * 6, none⟩ = some (.int .i64 x.kind) /\ w.cell? ⟨b, off + k * 6 + 1, none⟩ = some (.string (bs x.name)) /\ w.cell? ⟨b, off + k * 6 + 2, none⟩ = some (.slice x.aA x.attrs.length x.aC) /\ w.cell? ⟨b, off + k * 6 + 3, none⟩ = some (.string (bs x.text)) /\ w.cell? ⟨b, off + k * 6 + 4, none⟩ = some (.int .i64 x.parent) /\ w.cell? ⟨b, off + k * 6 + 5, none⟩ = some (.slice x.kA x.kids.length x.kC) := by
 obtain ⟨b, off, p, hA, hlt, hd, hc⟩ := Rd.at_ h hk
 exact ⟨b, off, p, hA, hlt, hd, hc 0 (by decide), hc 1 (by decide), hc 2 (by decide), hc 3 (by decide), hc 4 (by decide), hc 5 (by decide)⟩
theorem parAt_at {D : List Nd} {j : Nat} {x : Nd} (h : D[j]? = some x) : parAt D j = x.parent := by unfold parAt; rw [Int.toNat_natCast, h]; rfl
theorem upF_le (D : List Nd) : ∀ (f : Nat) (n : Int), upF D f n <= f
 | 0, n => Nat.le_refl _
 | f + 1, n => by
  rw [upF]
  split
  ·exact Nat.succ_le_succ (upF_le D f _)
  ·exact Nat.zero_le _
theorem up_ct (D : List Nd) (j : Nat) (hj : j < D.length) (A : Option Addr) (cap : Nat) (q : Bool) (w : World) (hD : DocAt w w.heap.size A cap D) (hO : OkD D) (hl : D.length <= 200) : Calls Tryz.prog 52 #[dcV A D.length cap q, .int .i64 (j : Int)] w fun e w' => e = .returned (.int .i64 ((upF D (D.length + 1) j : Nat) : Int)) /\ Below w.heap.size w w' := by
 have hb := hid (show Below w.heap.size w (w.alloc (.cells #[.slice A D.length cap, .bool q] 24)) from ba _ _)
 have HD := hid (hD.keep hb.out hb.out.size)
 generalize hR : upF D (D.length + 1) (j : Int) = R
 have HR := hid hR
 have HO := hid hO
 clear hD hR hO
 have hz : (w.alloc (.cells #[.slice A D.length cap, .bool q] 24)).heap.size = w.heap.size + 1 := by simp
 have c0 := (Blk.new (w := w) (t := 24) (cs := #[.slice A D.length cap, .bool q]) rfl).cell
 go_enter Tryz.func52, Tryz.ntmps52
 go_wp2_with fail
 go_loop [1, 4] (fun x m => ∃ (i k : Nat), i < D.length /\ x = .int .i64 (i : Int) /\ m = .int .i64 (k : Int) /\ k <= D.length + 1 /\ k + upF D (D.length + 1 - k) i = R) (fun _ m => D.length + 1 - (intOf m).toNat)
 case atStart => exact ⟨j, 0, hj, rfl, rfl, Nat.zero_le _, by rw [Nat.sub_zero, Nat.zero_add]; exact HR.out⟩
 case round =>
  obtain ⟨i, k, hi, rfl, rfl, hk, hinv⟩ := hrel
  obtain ⟨b, off, x, rfl, hbb, hx, g0, g1, g2, g3, g4, g5⟩ := ndRd HD.out.row hi
  have hp := parAt_at hx
  have HI := hid hinv
  have hO := HO.out.par i
  rw [hp] at hO
  have hk2 : k <= 201 := by omega
  rcases hO with h1 | ⟨h1, h2⟩
  ·have hF := hid (show (k : Int) = (R : Int) by
    have e : upF D (D.length + 1 - k) i = 0 := by
     cases hf : D.length + 1 - k with
     | zero => rfl
     | succ f => rw [upF, hp, if_neg (by omega)]
    have := HI.out
    omega)
   rw [h1] at g4
   clear hx hp hinv h1 g0 g1 g2 g3 g5
   go_wp2_with fail
   go_ret
   exact ⟨by rw [<- hF.out]; rfl, hb.out⟩
  ·by_cases h3 : k <= D.length
   ·have h3' : (k : Int) <= (D.length : Int) := by omega
    obtain ⟨m, hm⟩ : ∃ m : Nat, x.parent = m := ⟨x.parent.toNat, by omega⟩
    have hF := hid (show (k + 1) + upF D (D.length + 1 - (k + 1)) m = R by
     have e : upF D (D.length + 1 - k) i = upF D (D.length + 1 - (k + 1)) m + 1 := by
      rw [show D.length + 1 - k = (D.length + 1 - (k + 1)) + 1 by omega, upF, hp, if_pos h1, hm]
     have := HI.out
     omega)
    rw [hm] at g4
    have hm2 : m < D.length := by omega
    clear hx hp hinv h1 h2 hm g0 g1 g2 g3 g5
    go_wp2_with fail
    go_round
    case rel => exact ⟨m, k + 1, hm2, rfl, by go_num, by omega, hF.out⟩
    case measure => simp [intOf]; omega
   ·have h3' : ¬ (k : Int) <= (D.length : Int) := by omega
    have hF := hid (show (k : Int) = (R : Int) by
     have e : upF D (D.length + 1 - k) i = 0 := by rw [show D.length + 1 - k = 0 by omega, upF]
     have := HI.out
     omega)
    clear hx hp hinv h3
    go_wp2_with fail
    go_ret
    exact ⟨by rw [<- hF.out]; rfl, hb.out⟩
end doc
namespace doc
open Go.RowKit base tok
set_option linter.unusedSimpArgs false
theorem slice_to {P : Program} {T e : TypeId} {k : Nat} (hT : P.underlying T = some (.slice e)) (hs : ∀ w, (sizeOf e).run P w = .ok k w) (A : Option Addr) (n cap : Nat) (j : Int) (h0 : 0 <= j) (h1 : j <= cap) (w : World) :
  (Instr.slice T (.slice A n cap) none (some (.int .i64 j)) none).run P w = .ok (.slice A j.toNat cap) w := by
 simp [Instr.slice, Instr.sliceBounds, Instr.sliceBound, run_underlying hT, hs, asIntOf, h0, h1, go_sem]
theorem find_n (s : Bs) (A : Option Addr) (cap n : Nat) (V : List At) (hV : V.length = n) (hn : n <= maxLen) (w : World) (hI : Rd 2 acells w w.heap.size A n V) :
  Calls Tryz.prog 106 #[.slice A n cap, .string (bs s)] w fun e w' => e = .returned (.int .i64 (findF V s)) /\ Below w.heap.size w w' := by
 subst hV
 exact find_ct s A cap V hn w hI
theorem attrsG_step {V : List At} {i : Nat} {a : At} (h : V[i]? = some a) : attrsG (V.take i) (V.drop i) = if namedF a.1 attrB = false then 3 else if 400 < a.2.length then 2 else if 0 <= findF (V.take i) a.1 then 3 else attrsG (V.take (i + 1)) (V.drop (i + 1)) := by
 obtain ⟨hl, he⟩ := List.getElem?_eq_some_iff.1 h
 rw [List.drop_eq_getElem_cons hl, he, attrsG, List.take_add_one, h]
 rfl
theorem attrs_ct (A : Option Addr) (cap : Nat) (V : List At) (hc : V.length <= cap) (hn : cap <= maxLen) (hS : ∀ a ∈ V, a.1.length <= maxLen /\ a.2.length <= maxLen) (w : World) (hI : Rd 2 acells w w.heap.size A V.length V) :
  Calls Tryz.prog 70 #[.slice A V.length cap] w fun e w' => e = .returned (.int .i64 (attrsF V)) /\ Below w.heap.size w w' := by
 unfold maxLen at hn
 unfold attrsF
 by_cases h12 : 12 < V.length
 ·have h12' : (12 : Int) < (V.length : Int) := by omega
  rw [if_pos h12]
  clear hS hI
  go_enter Tryz.func70, Tryz.ntmps70
  go_wp2_with fail
  go_ret
  exact ⟨rfl, Below.refl _ _⟩
 rw [if_neg h12]
 have h12' : ¬ (12 : Int) < (V.length : Int) := by omega
 have HI := hid hI
 have HS := hid hS
 generalize hR : attrsG [] V = R
 have HR := hid hR
 clear hI hS hR
 go_enter Tryz.func70, Tryz.ntmps70
 go_wp2_with fail
 go_loopw [10] (fun x wr => ∃ i : Nat, i <= V.length /\ x = .int .i64 i /\ attrsG (V.take i) (V.drop i) = R /\ Below w.heap.size w wr) (fun x _ => V.length - (intOf x).toNat)
 case atStart => exact ⟨0, Nat.zero_le _, rfl, HR.out, Below.refl _ _⟩
 case round =>
  obtain ⟨i, hil, rfl, hinv, hbel⟩ := hrel
  have HInv := hid hinv
  have HBl := hid hbel
  clear hinv HR
  by_cases hlt : i < V.length
  ·have hlt' : (i : Int) < (V.length : Int) := by omega
   have hIr := HI.out.keep hbel hbel.size
   have HIr := hid hIr
   obtain ⟨b, off, x, hA, hbb, hd, c0, c1⟩ := atRd hIr hlt
   subst hA
   have hst := attrsG_step hd
   rw [HInv.out] at hst
   have HSt := hid hst
   have hx := HS.out x (List.mem_of_getElem? hd)
   have cN := hid (attrName_ct x.1 hx.1)
   have BN := hid (Blk.new (w := wr) (t := 107) (cs := #[.string (bs x.1), .string (bs x.2)]) rfl)
   have HBa := hid (hbel.alloc hbel.size (.cells #[.string (bs x.1), .string (bs x.2)] 107))
   have hza : (wr.alloc (.cells #[.string (bs x.1), .string (bs x.2)] 107)).heap.size = wr.heap.size + 1 := by simp
   have HZa := hid hza
   have hsz : ((bs x.2).size : Int) = (x.2.length : Int) := rfl
   clear hst hd hIr hbel hza
   cases hq : namedF x.1 attrB with
   | false =>
    have hF := hid (show R = 3 by rw [HSt.out, if_pos hq])
    rw [hq] at cN
    go_wp2_with (go_at_call 105; refine (cN.out _).mono ?_; rintro e W1 ⟨rfl, hb1⟩; have HB1 := hid hb1; clear hb1)
    go_ret
    exact ⟨congrArg (fun z => Ending.returned (Value.int IntKind.i64 z)) hF.out.symm, HBa.out.trans (HB1.out.mono HBa.out.size)⟩
   | true =>
    rw [hq] at cN
    by_cases h4 : 400 < x.2.length
    ·have hF := hid (show R = 2 by rw [HSt.out, if_neg (by rw [hq]; decide), if_pos h4])
     have h4' : (400 : Int) < ((bs x.2).size : Int) := by rw [hsz]; omega
     clear hsz
     go_wp2_with (go_at_call 105; refine (cN.out _).mono ?_; rintro e W1 ⟨rfl, hb1⟩; have HB1 := hid hb1; have q1 := BN.out.below hb1 (by rw [HZa.out]; omega); have q2 := q1.cell; clear hb1 q1)
     go_ret
     exact ⟨congrArg (fun z => Ending.returned (Value.int IntKind.i64 z)) hF.out.symm, HBa.out.trans (HB1.out.mono HBa.out.size)⟩
    ·have hst := HSt.out
     rw [if_neg (by rw [hq]; decide), if_neg h4] at hst
     replace HSt := hid hst
     have h4' : ¬ (400 : Int) < ((bs x.2).size : Int) := by rw [hsz]; omega
     clear hsz hst
     have hsl := fun w => slice_to (P := Tryz.prog) (k := 2) Tryz.underlying32 Tryz.sizeOf107 (some ⟨b, off, none⟩) V.length cap (i : Int) (by omega) (by omega) w
     simp only [Int.toNat_natCast] at hsl
     go_wp2_with (go_at_call 105; refine (cN.out _).mono ?_; rintro e W1 ⟨rfl, hb1⟩; have HB1 := hid hb1; have HQ := hid (BN.out.below hb1 (by rw [HZa.out]; omega)); have q2 := HQ.out.cell; clear hb1)
     have HRd1 := hid (((HIr.out.keep ((Below.refl _ wr).alloc (Nat.le_refl _) (.cells #[.string (bs x.1), .string (bs x.2)] 107)) (by rw [HZa.out]; omega)).keep HB1.out HB1.out.size).first (m := i) (by omega))
     have hL : (V.take i).length = i := by rw [List.length_take]; omega
     have cF := hid (find_n x.1 (some ⟨b, off, none⟩) cap i (V.take i) hL (by unfold maxLen; omega) W1.drew (HRd1.out.keep ((Below.refl _ W1).drew) (Nat.le_refl _)))
     have ZR : W1.heap.size <= W1.heap.size := Nat.le_refl _
     have hz1 : wr.heap.size < W1.heap.size := by have := HB1.out.size; rw [HZa.out] at this; omega
     have e0 : W1.cell? ⟨wr.heap.size, 0, none⟩ = some (.string (bs x.1)) := HQ.out.cell 0
     have HB2 := hid (HBa.out.trans (HB1.out.mono HBa.out.size))
     obtain ⟨F, hF⟩ : ∃ F, findF (V.take i) x.1 = F := ⟨_, rfl⟩
     rw [hF] at cF HSt
     clear hL hF
     have HB3 : ∀ (w2 : World), Below W1.heap.size W1 w2 -> Below w.heap.size w w2 := fun _ h => tb HB2 h
     replace HB3 := hid HB3
     by_cases h5 : 0 <= F
     ·have hF := hid (show R = 3 by rw [HSt.out, if_pos h5])
      go_region_held3 (fun w' => (∀ b o, b < W1.heap.size -> w'.cell? ⟨b, o, none⟩ = W1.cell? ⟨b, o, none⟩) /\ Below W1.heap.size W1 w')
       (first | exact As.beg | assumption | exact As.on hb3 (by assumption) ZR)
       ((go_at_call 106; (with_reducible refine cF.out.mono ?_); rintro e W2 ⟨rfl, hb3⟩))
      all_goals
       rename_i hHeld
       have HX := hid (HB3.out _ hHeld.2)
       clear hHeld
       go_wp2_with fail
       go_ret
       exact ⟨congrArg (fun z => Ending.returned (Value.int IntKind.i64 z)) hF.out.symm, HX.out⟩
     have hF := hid (HSt.out.trans (if_neg h5)).symm
     go_region_held3 (fun w' => (∀ b o, b < W1.heap.size -> w'.cell? ⟨b, o, none⟩ = W1.cell? ⟨b, o, none⟩) /\ Below W1.heap.size W1 w')
      (first | exact As.beg | assumption | exact As.on hb3 (by assumption) ZR)
      ((go_at_call 106; (with_reducible refine cF.out.mono ?_); rintro e W2 ⟨rfl, hb3⟩))
     all_goals
      rename_i hHeld
      have HX := hid (HB3.out _ hHeld.2)
      clear hHeld
      go_wp2_with fail
      go_roundw
      case rel => exact ⟨i + 1, by omega, by go_num, hF.out, HX.out⟩
      case measure => simp [intOf]; omega
  ·obtain rfl : i = V.length := by omega
   have hF := hid (show R = 0 by rw [<- HInv.out, List.drop_length]; rfl)
   clear hbel
   go_wp2_with fail
   go_ret
   exact ⟨congrArg (fun z => Ending.returned (Value.int IntKind.i64 z)) hF.out.symm, HBl.out⟩
theorem one_ct (x : Nd) (w : World) (hx : NdIn w w.heap.size x) : Calls Tryz.prog 50 #[ndV x] w fun e w' => e = .returned (.int .i64 (oneF x)) /\ Below w.heap.size w w' := by
 have hb : Below w.heap.size w (w.alloc (.cells #[.int .i64 x.kind, .string (bs x.name), .slice x.aA x.attrs.length x.aC, .string (bs x.text), .int .i64 x.parent, .slice x.kA x.kids.length x.kC] 34)) := ba _ _
 have HB := hid hb
 have QN := hid (Blk.new (w := w) (t := 34) (cs := #[.int .i64 x.kind, .string (bs x.name), .slice x.aA x.attrs.length x.aC, .string (bs x.text), .int .i64 x.parent, .slice x.kA x.kids.length x.kC]) rfl)
 have hzz : (w.alloc (.cells #[.int .i64 x.kind, .string (bs x.name), .slice x.aA x.attrs.length x.aC, .string (bs x.text), .int .i64 x.parent, .slice x.kA x.kids.length x.kC] 34)).heap.size = w.heap.size + 1 := by simp
 have HZ := hid hzz
 have q0 := QN.out.cell
 have cA := hid (fun W' (h : Below w.heap.size w W') => attrs_ct x.aA x.aC x.attrs hx.attrL.1 hx.attrL.2 hx.attrS W' (hx.attrs.keep h h.size))
 have cN := hid (fun W' => Name_ct x.name hx.name W')
 have s1 : ((bs x.name).size : Int) = (x.name.length : Int) := rfl
 have s2 : ((bs x.text).size : Int) = (x.text.length : Int) := rfl
 unfold oneF
 by_cases h1 : x.kind < 1
 ·rw [if_pos (.inl h1)]
  clear s1 s2 hx hb hzz
  go_enter Tryz.func50, Tryz.ntmps50
  go_wp2_with fail
  go_ret
  exact ⟨rfl, HB.out⟩
 by_cases h2 : 5 < x.kind
 ·rw [if_pos (.inr (.inl h2))]
  clear s1 s2 hx hb hzz
  go_enter Tryz.func50, Tryz.ntmps50
  go_wp2_with fail
  go_ret
  exact ⟨rfl, HB.out⟩
 have cB := hid (fun W' => bare_ct x (by omega) W')
 cases h3 : bareF x with
 | false =>
  rw [if_pos (.inr (.inr rfl))]
  rw [h3] at cB
  clear s1 s2 hx hb hzz
  go_enter Tryz.func50, Tryz.ntmps50
  go_wp2_with (go_at_call 68; refine (cB.out _).mono ?_; rintro e W1 ⟨rfl, hb1⟩; have HB1 := hid (tb HB hb1); clear hb1)
  go_ret
  exact ⟨rfl, HB1.out⟩
 | true =>
  rw [if_neg (by simp; omega)]
  rw [h3] at cB
  obtain ⟨F, hF⟩ : ∃ F, attrsF x.attrs = F := ⟨_, rfl⟩
  obtain ⟨nm, hnm⟩ : ∃ v, namedF x.name lettersB = v := ⟨_, rfl⟩
  rw [hF] at cA ⊢
  rw [hnm] at cN ⊢
  clear hx hb hzz hF hnm h3
  by_cases h4 : x.kind = 2 /\ nm = false
  ·rw [if_pos h4]
   obtain ⟨h5, rfl⟩ := h4
   have h5' : (x.kind == 2) = true := by simp [h5]
   clear h5
   go_enter Tryz.func50, Tryz.ntmps50
   go_wp2_with (first
    | (go_at_call 68; refine (cB.out _).mono ?_; rintro e W1 ⟨rfl, hb1⟩; have HB1 := hid (tb HB hb1); have Q1 := hid (QN.out.below hb1 (by rw [HZ.out]; omega)); have q1 := Q1.out.cell; clear hb1)
    | (go_at_call 69; refine (cN.out _).mono ?_; rintro e W2 ⟨rfl, hb1⟩; have HB2 := hid (tb HB1 hb1); clear hb1))
   go_ret
   exact ⟨rfl, HB2.out⟩
  rw [if_neg h4]
  have h4' : ((x.kind == 2) = true /\ nm = true) ∨ (x.kind == 2) = false := by
   by_cases g : x.kind = 2
   ·exact .inl ⟨by simp [g], by cases nm; exact absurd ⟨g, rfl⟩ h4; rfl⟩
   ·exact .inr (by simp [g])
  clear h4
  by_cases h5 : F ≠ 0
  ·rw [if_pos h5]
   have h6 : (F != 0) = true := by simp [h5]
   clear h5 s1 s2
   rcases h4' with ⟨g, rfl⟩ | g
   all_goals
    go_enter Tryz.func50, Tryz.ntmps50
    go_wp2_with (first
     | (go_at_call 68; refine (cB.out _).mono ?_; rintro e W1 ⟨rfl, hb1⟩; have HB1 := hid (tb HB hb1); have Q1 := hid (QN.out.below hb1 (by rw [HZ.out]; omega)); have q1 := Q1.out.cell; have HL := hid Q1.out.lt; clear hb1)
     | (go_at_call 69; refine (cN.out _).mono ?_; rintro e W2 ⟨rfl, hb1⟩; have HB2 := hid (tb HB1 hb1); have Q2 := hid (Q1.out.below hb1 HL.out); have q2 := Q2.out.cell; clear hb1)
     | (go_at_call 70; (first | refine (cA.out _ HB2.out).mono ?_ | refine (cA.out _ HB1.out).mono ?_); rintro e W3 ⟨rfl, hb1⟩; (first | (have HB3 := hid (tb HB2 hb1)) | (have HB3 := hid (tb HB1 hb1))); clear hb1))
    go_ret
    exact ⟨rfl, HB3.out⟩
  rw [if_neg h5]
  obtain rfl : F = 0 := by simpa using h5
  have h7 : (400 < x.text.length /\ (400 : Int) < ((bs x.text).size : Int)) ∨ (¬ 400 < x.text.length /\ 400 < x.name.length /\ ¬ (400 : Int) < ((bs x.text).size : Int) /\ (400 : Int) < ((bs x.name).size : Int)) ∨ (¬ 400 < x.text.length /\ ¬ 400 < x.name.length /\ ¬ (400 : Int) < ((bs x.text).size : Int) /\ ¬ (400 : Int) < ((bs x.name).size : Int)) := by
   rw [s1, s2]
   omega
  clear s1 s2 h5
  rcases h7 with ⟨g1, h8⟩ | ⟨g1, g2, h8, h9⟩ | ⟨g1, g2, h8, h9⟩
  ·rw [if_pos (.inl g1)]
   clear g1
   rcases h4' with ⟨g, rfl⟩ | g
   all_goals
    go_enter Tryz.func50, Tryz.ntmps50
    go_wp2_with (first
     | (go_at_call 68; refine (cB.out _).mono ?_; rintro e W1 ⟨rfl, hb1⟩; have HB1 := hid (tb HB hb1); have Q1 := hid (QN.out.below hb1 (by rw [HZ.out]; omega)); have q1 := Q1.out.cell; have HL := hid Q1.out.lt; clear hb1)
     | (go_at_call 69; refine (cN.out _).mono ?_; rintro e W2 ⟨rfl, hb1⟩; have HB2 := hid (tb HB1 hb1); have Q2 := hid (Q1.out.below hb1 HL.out); have q2 := Q2.out.cell; have HL2 := hid Q2.out.lt; clear hb1)
     | (go_at_call 70; (first | refine (cA.out _ HB2.out).mono ?_ | refine (cA.out _ HB1.out).mono ?_); rintro e W3 ⟨rfl, hb1⟩; (first | (have HB3 := hid (tb HB2 hb1); have q3 := (Q2.out.below hb1 HL2.out).cell) | (have HB3 := hid (tb HB1 hb1); have q3 := (Q1.out.below hb1 HL.out).cell)); clear hb1))
    go_ret
    exact ⟨rfl, HB3.out⟩
  ·rw [if_pos (.inr g2)]
   clear g1 g2
   rcases h4' with ⟨g, rfl⟩ | g
   all_goals
    go_enter Tryz.func50, Tryz.ntmps50
    go_wp2_with (first
     | (go_at_call 68; refine (cB.out _).mono ?_; rintro e W1 ⟨rfl, hb1⟩; have HB1 := hid (tb HB hb1); have Q1 := hid (QN.out.below hb1 (by rw [HZ.out]; omega)); have q1 := Q1.out.cell; have HL := hid Q1.out.lt; clear hb1)
     | (go_at_call 69; refine (cN.out _).mono ?_; rintro e W2 ⟨rfl, hb1⟩; have HB2 := hid (tb HB1 hb1); have Q2 := hid (Q1.out.below hb1 HL.out); have q2 := Q2.out.cell; have HL2 := hid Q2.out.lt; clear hb1)
     | (go_at_call 70; (first | refine (cA.out _ HB2.out).mono ?_ | refine (cA.out _ HB1.out).mono ?_); rintro e W3 ⟨rfl, hb1⟩; (first | (have HB3 := hid (tb HB2 hb1); have q3 := (Q2.out.below hb1 HL2.out).cell) | (have HB3 := hid (tb HB1 hb1); have q3 := (Q1.out.below hb1 HL.out).cell)); clear hb1))
    go_ret
    exact ⟨rfl, HB3.out⟩
  ·rw [if_neg (by omega)]
   clear g1 g2
   rcases h4' with ⟨g, rfl⟩ | g
   all_goals
    go_enter Tryz.func50, Tryz.ntmps50
    go_wp2_with (first
     | (go_at_call 68; refine (cB.out _).mono ?_; rintro e W1 ⟨rfl, hb1⟩; have HB1 := hid (tb HB hb1); have Q1 := hid (QN.out.below hb1 (by rw [HZ.out]; omega)); have q1 := Q1.out.cell; have HL := hid Q1.out.lt; clear hb1)
     | (go_at_call 69; refine (cN.out _).mono ?_; rintro e W2 ⟨rfl, hb1⟩; have HB2 := hid (tb HB1 hb1); have Q2 := hid (Q1.out.below hb1 HL.out); have q2 := Q2.out.cell; have HL2 := hid Q2.out.lt; clear hb1)
     | (go_at_call 70; (first | refine (cA.out _ HB2.out).mono ?_ | refine (cA.out _ HB1.out).mono ?_); rintro e W3 ⟨rfl, hb1⟩; (first | (have HB3 := hid (tb HB2 hb1); have q3 := (Q2.out.below hb1 HL2.out).cell) | (have HB3 := hid (tb HB1 hb1); have q3 := (Q1.out.below hb1 HL.out).cell)); clear hb1))
    go_ret
    exact ⟨rfl, HB3.out⟩
end doc
end Go.Proofs.YthgffoanecknoaaGreatDoor
