/- CascadeOne: for every list of declarations the call returns true, and all that was there reads as before. No condition. -/
import Derived.Test.YtchmpdibbklpfaaWin5
namespace Go.Proofs.Ytchmpdibbklpfaa.win.one
open Go.RowKit Go.Proofs.Ytchmpdibbklpfaa.base Go.Proofs.Ytchmpdibbklpfaa.cas Go.ChangeShapes Go.WideShapes Go.ChangeAt
set_option linter.unusedVariables false

theorem As.begN {B : Nat} {W0 : World} {n : Nat} : (∀ b o, b < B → (W0.drewN n).drew.cell? ⟨b, o, none⟩ = W0.cell? ⟨b, o, none⟩) ∧ Below B W0 (W0.drewN n).drew := ⟨fun _ _ _ => rfl, (below_drewN (Below.refl _ _) _).drew⟩
theorem name_ne {a b : ByteArray} (h : ¬ a = b) : (a.toList == b.toList) = false := by
  rw [ByteArray.toList_eq, ByteArray.toList_eq, beq_eq_false_iff_ne]
  exact fun e => h (ByteArray.ext (Array.toList_inj.1 e))

set_option maxRecDepth 100000 in
set_option maxHeartbeats 8000000 in
theorem law_ct (A : Option Addr) (n cap : Nat) (L0 : List GD) (w : World) (hn : n ≤ cap) (hcm : n ≤ maxLen) (hL : GRd w w.heap.size A n L0) (hN : Named L0) :
    Calls Try.prog 6 #[.slice A n cap] w fun e w' => e = .returned (.bool true) ∧ Below w.heap.size w w' := by
  have hL1 := hL.first (m := min n 20) (Nat.min_le_left _ _)
  have HN := Lib.hid (show Named (L0.take (min n 20)) from fun d hd => hN d (List.mem_of_mem_take hd))
  clear hL hN
  generalize L0.take (min n 20) = L at *
  unfold maxLen at hcm
  obtain ⟨m, hm⟩ : ∃ m, m = min n 20 := ⟨_, rfl⟩
  rw [← hm] at hL1
  have hw := won L
  have hlen := hL1.1
  rcases Nat.lt_or_ge 20 n with hc | hc
  · obtain rfl : m = 20 := by omega
    have i0 : (20 : Int) < n := by omega
    have hl1 : 20 ≤ L.length := by omega
    have hl2 : L.length ≤ 20 := by omega
    have HLw := Lib.hid hL1
    rw [← hlen] at hL1
    have HL := Lib.hid hL1
    have HW := Lib.hid hw
    clear hm hlen hL1 hw
    go_enter Try.func6, Try.ntmps6
    go_wp2_with fail
    refine (own_ct _).mono ?_
    rintro e W1 ⟨rfl, hb⟩
    have HB1 := Lib.hid hb
    clear hb
    go_wp2_with fail
    refine (win_row A _ cap L _ (by omega) (HLw.out.keep HB1.out HB1.out.size) HN.out).mono ?_
    rintro e W2 ⟨⟨A2, cap2, rfl, hg2⟩, hb⟩
    have HB2 := Lib.hid (HB1.out.trans (hb.mono HB1.out.size))
    have HL2 := Lib.hid (HL.out.keep HB2.out HB2.out.size)
    have HG2 := Lib.hid hg2
    clear hb hg2 HL HLw HB1
    have hfew := HW.out.few
    generalize winP L = acc at *
    go_wp2_with fail
    go_loopw [5] (fun i wr => ∃ k : Nat, k ≤ L.length ∧ i = .int .i64 k ∧ Below W2.heap.size W2 wr) (fun i _ => L.length - (intOf i).toNat)
    case atStart => exact ⟨0, by omega, rfl, Below.refl _ _⟩
    case round =>
      obtain ⟨k, hk, rfl, hbel⟩ := hrel
      by_cases hlt : k < L.length
      · have hlt' : (k : Int) < (L.length : Int) := by omega
        have hlt'' : (k : Int) < 20 := by omega
        obtain ⟨d, hd⟩ : ∃ d, L[k]? = some d := ⟨L[k], List.getElem?_eq_getElem hlt⟩
        have hdm : d ∈ L := List.mem_of_getElem? hd
        have hc1 := Lib.hid (cnt_one HW.out hdm)
        have hnb := Lib.hid (fun e he hn => not_below HW.out hdm (e := e) he hn)
        obtain ⟨WO, hWO⟩ : ∃ WO, WO = wr := ⟨_, rfl⟩
        subst hWO
        have HBel := Lib.hid hbel
        replace hd := Lib.hid hd
        clear hbel hdm
        go_wp2_with fail
        go_loopw [6, 7] (fun c j wr => ∃ q : Nat, q ≤ acc.length ∧ j = .int .i64 q ∧ c = .int .i64 (cnt d.nm (acc.take q)) ∧ Below W2.heap.size W2 wr) (fun _ j _ => acc.length - (intOf j).toNat)
        case atStart => exact ⟨0, by omega, rfl, rfl, HBel.out⟩
        case round =>
          obtain ⟨q, hq, rfl, rfl, hbel⟩ := hrel
          by_cases hlq : q < acc.length
          · have hlq' : (q : Int) < (acc.length : Int) := by omega
            obtain ⟨b, off, d', hA, hb, hd', e0, e1, e2, e3, e4, e5⟩ := (HL2.out.keep hbel hbel.size).at_ hlt
            obtain rfl : d' = d := by rw [hd.out] at hd'; exact (Option.some.inj hd').symm
            obtain ⟨b2, off2, e, hA2, hb2, he, f0, f1, f2, f3, f4, f5⟩ := (HG2.out.keep hbel hbel.size).at_ hlq
            subst hA hA2
            have hst := Lib.hid (cnt_step (nm := d'.nm) he)
            have hcl : cnt d'.nm (acc.take q) ≤ q := Nat.le_trans (cnt_le _ _) (List.length_take_le _ _)
            have hem : e ∈ acc := List.mem_of_getElem? he
            have HBl := Lib.hid hbel
            clear hbel hd' he
            by_cases hnn : e.nm = d'.nm
            · have hlo := hnb.out e hem hnn
              have hs1 : cnt d'.nm (acc.take (q + 1)) = cnt d'.nm (acc.take q) + 1 := by rw [hst.out, if_pos hnn]
              replace hs1 := Lib.hid hs1
              replace hlo := Lib.hid hlo
              go_wp2_with fail
              go_quiet (fail)
              go_wp2_with fail
              replace hnn := Lib.hid hnn
              go_region_held3 (fun w' => (∀ b o, b < wr.heap.size → w'.cell? ⟨b, o, none⟩ = wr.cell? ⟨b, o, none⟩) ∧ Below wr.heap.size wr w')
                (first | exact As.begN | assumption | exact As.on hb3 (by assumption) (Nat.le_refl _) | exact As.alloc (by assumption) (Nat.le_refl _))
                ((go_at_call 13; refine (less_ct _ _ _ _ _ _ _ _ _ _ _ _ _).mono ?_; rintro ee w3 ⟨rfl, hb3⟩; rw [hlo.out]; have hS3 := Lib.hid (As.on (B := wr.heap.size) (W0 := wr) hb3 As.begN (Nat.le_refl _))))
              have HB3 := Lib.hid (HBl.out.trans (hS3.out.2.mono HBl.out.size))
              clear hS3
              go_wp2
              go_roundw
              case rel => exact ⟨q + 1, by omega, by go_num, by rw [hs1.out]; go_num, HB3.out⟩
              case measure => simp [intOf]; omega
            · have ht := name_ne hnn
              have hs1 : cnt d'.nm (acc.take (q + 1)) = cnt d'.nm (acc.take q) := by rw [hst.out, if_neg hnn, Nat.add_zero]
              replace hs1 := Lib.hid hs1
              replace hnn := Lib.hid hnn
              go_wp2_with fail
              go_quiet (fail)
              go_wp2
              go_roundw
              case rel => exact ⟨q + 1, by omega, by go_num, by rw [hs1.out], below_drewN HBl.out _⟩
              case measure => simp [intOf]; omega
          · obtain rfl : q = acc.length := by omega
            have HBl := Lib.hid hbel
            clear hbel
            rw [List.take_of_length_le (Nat.le_refl _), hc1.out]
            go_wp2
            go_roundw
            case rel => exact ⟨k + 1, by omega, by go_num, HBl.out⟩
            case measure => simp [intOf]; omega
      · obtain rfl : k = L.length := by omega
        have HBl := Lib.hid hbel
        clear hbel
        have hfi : (acc.length : Int) ≤ (L.length : Int) := by omega
        have hfi2 : (acc.length : Int) ≤ 20 := by omega
        go_wp2
        go_ret
        exact ⟨rfl, HB2.out.trans (HBl.out.mono HB2.out.size)⟩
  · obtain rfl : m = n := by omega
    obtain rfl : L.length = m := hlen
    have i0 : (L.length : Int) ≤ 20 := by omega
    have hl1 : L.length ≤ L.length := by omega
    have hl2 : L.length ≤ 20 := by omega
    have HLw := Lib.hid hL1
    have HL := Lib.hid hL1
    have HW := Lib.hid hw
    clear hm hL1 hw
    go_enter Try.func6, Try.ntmps6
    go_wp2_with fail
    refine (own_ct _).mono ?_
    rintro e W1 ⟨rfl, hb⟩
    have HB1 := Lib.hid hb
    clear hb
    go_wp2_with fail
    refine (win_row A _ cap L _ (by omega) (HLw.out.keep HB1.out HB1.out.size) HN.out).mono ?_
    rintro e W2 ⟨⟨A2, cap2, rfl, hg2⟩, hb⟩
    have HB2 := Lib.hid (HB1.out.trans (hb.mono HB1.out.size))
    have HL2 := Lib.hid (HL.out.keep HB2.out HB2.out.size)
    have HG2 := Lib.hid hg2
    clear hb hg2 HL HLw HB1
    have hfew := HW.out.few
    generalize winP L = acc at *
    go_wp2_with fail
    go_loopw [5] (fun i wr => ∃ k : Nat, k ≤ L.length ∧ i = .int .i64 k ∧ Below W2.heap.size W2 wr) (fun i _ => L.length - (intOf i).toNat)
    case atStart => exact ⟨0, by omega, rfl, Below.refl _ _⟩
    case round =>
      obtain ⟨k, hk, rfl, hbel⟩ := hrel
      by_cases hlt : k < L.length
      · have hlt' : (k : Int) < (L.length : Int) := by omega
        have hlt'' : (k : Int) < 20 := by omega
        obtain ⟨d, hd⟩ : ∃ d, L[k]? = some d := ⟨L[k], List.getElem?_eq_getElem hlt⟩
        have hdm : d ∈ L := List.mem_of_getElem? hd
        have hc1 := Lib.hid (cnt_one HW.out hdm)
        have hnb := Lib.hid (fun e he hn => not_below HW.out hdm (e := e) he hn)
        obtain ⟨WO, hWO⟩ : ∃ WO, WO = wr := ⟨_, rfl⟩
        subst hWO
        have HBel := Lib.hid hbel
        replace hd := Lib.hid hd
        clear hbel hdm
        go_wp2_with fail
        go_loopw [6, 7] (fun c j wr => ∃ q : Nat, q ≤ acc.length ∧ j = .int .i64 q ∧ c = .int .i64 (cnt d.nm (acc.take q)) ∧ Below W2.heap.size W2 wr) (fun _ j _ => acc.length - (intOf j).toNat)
        case atStart => exact ⟨0, by omega, rfl, rfl, HBel.out⟩
        case round =>
          obtain ⟨q, hq, rfl, rfl, hbel⟩ := hrel
          by_cases hlq : q < acc.length
          · have hlq' : (q : Int) < (acc.length : Int) := by omega
            obtain ⟨b, off, d', hA, hb, hd', e0, e1, e2, e3, e4, e5⟩ := (HL2.out.keep hbel hbel.size).at_ hlt
            obtain rfl : d' = d := by rw [hd.out] at hd'; exact (Option.some.inj hd').symm
            obtain ⟨b2, off2, e, hA2, hb2, he, f0, f1, f2, f3, f4, f5⟩ := (HG2.out.keep hbel hbel.size).at_ hlq
            subst hA hA2
            have hst := Lib.hid (cnt_step (nm := d'.nm) he)
            have hcl : cnt d'.nm (acc.take q) ≤ q := Nat.le_trans (cnt_le _ _) (List.length_take_le _ _)
            have hem : e ∈ acc := List.mem_of_getElem? he
            have HBl := Lib.hid hbel
            clear hbel hd' he
            by_cases hnn : e.nm = d'.nm
            · have hlo := hnb.out e hem hnn
              have hs1 : cnt d'.nm (acc.take (q + 1)) = cnt d'.nm (acc.take q) + 1 := by rw [hst.out, if_pos hnn]
              replace hs1 := Lib.hid hs1
              replace hlo := Lib.hid hlo
              go_wp2_with fail
              go_quiet (fail)
              go_wp2_with fail
              replace hnn := Lib.hid hnn
              go_region_held3 (fun w' => (∀ b o, b < wr.heap.size → w'.cell? ⟨b, o, none⟩ = wr.cell? ⟨b, o, none⟩) ∧ Below wr.heap.size wr w')
                (first | exact As.begN | assumption | exact As.on hb3 (by assumption) (Nat.le_refl _) | exact As.alloc (by assumption) (Nat.le_refl _))
                ((go_at_call 13; refine (less_ct _ _ _ _ _ _ _ _ _ _ _ _ _).mono ?_; rintro ee w3 ⟨rfl, hb3⟩; rw [hlo.out]; have hS3 := Lib.hid (As.on (B := wr.heap.size) (W0 := wr) hb3 As.begN (Nat.le_refl _))))
              have HB3 := Lib.hid (HBl.out.trans (hS3.out.2.mono HBl.out.size))
              clear hS3
              go_wp2
              go_roundw
              case rel => exact ⟨q + 1, by omega, by go_num, by rw [hs1.out]; go_num, HB3.out⟩
              case measure => simp [intOf]; omega
            · have ht := name_ne hnn
              have hs1 : cnt d'.nm (acc.take (q + 1)) = cnt d'.nm (acc.take q) := by rw [hst.out, if_neg hnn, Nat.add_zero]
              replace hs1 := Lib.hid hs1
              replace hnn := Lib.hid hnn
              go_wp2_with fail
              go_quiet (fail)
              go_wp2
              go_roundw
              case rel => exact ⟨q + 1, by omega, by go_num, by rw [hs1.out], below_drewN HBl.out _⟩
              case measure => simp [intOf]; omega
          · obtain rfl : q = acc.length := by omega
            have HBl := Lib.hid hbel
            clear hbel
            rw [List.take_of_length_le (Nat.le_refl _), hc1.out]
            go_wp2
            go_roundw
            case rel => exact ⟨k + 1, by omega, by go_num, HBl.out⟩
            case measure => simp [intOf]; omega
      · obtain rfl : k = L.length := by omega
        have HBl := Lib.hid hbel
        clear hbel
        have hfi : (acc.length : Int) ≤ (L.length : Int) := by omega
        have hfi2 : (acc.length : Int) ≤ 20 := by omega
        go_wp2
        go_ret
        exact ⟨rfl, HB2.out.trans (HBl.out.mono HB2.out.size)⟩

set_option maxRecDepth 100000 in
theorem lifted (os : Os) (started : os.Started) (H : Type) (enc : TypeId × Value → H) :
    ReturnsInHanded {} Try.checked os 6 .any (Rows.cascadeOneSpec.pre6 enc Try.prog Try.f6 Rows.cascadeOneRow.domain false) (Rows.cascadeOneSpec.post enc Try.prog Try.f6 false true false false) := by
  refine returnsInHanded_of_change (C := Try.checked) own started (by kernel_rfl) Try.func6
    (ChangeSpec.witness6 (enc := enc) (C := Try.checked) false ⟨#[], #[.slice none 0 0], []⟩ 8 (by kernel_rfl) (by kernel_rfl) (by kernel_rfl) (by kernel_rfl)) ?_
  intro W base args ds gs before hval0 hW _ _
  have hval : ∀ (j : Nat) t v, Try.f6.params[j]? = some t → args[j]? = some v → Value.okWide Try.prog W .any base t v := hval0
  have hW' := hW
  obtain ⟨p, q, hA0, hV, -, -, -⟩ := hW
  have hA : DataW.TrodAll enc Try.prog W 0 (fun _ => true) true Try.f6.params.toList args.toList ds p := hA0
  rw [Try.params6] at hA hval
  obtain ⟨v0, vs0, d0, ds0, p0, q0, hargs, rfl, -, h0, r0⟩ := trodAll_cons hA
  obtain ⟨rfl, rfl, -⟩ := trodAll_nil r0
  obtain rfl : args = #[v0] := by cases args; simp_all
  obtain ⟨rfl, -⟩ := trodVars_none hV
  obtain ⟨A, n, cap, L, rfl, hn, hm, hL, hN⟩ := arg_givens (hval 0 _ _ rfl rfl) h0
  exact (law_ct A n cap L W hn hm hL hN).mono fun e W' ⟨he, bel⟩ => ⟨_, he, law_post laidOut rfl Try.underlying4 rfl (by intro t ht; rw [Try.params6] at ht; revert t; decide +kernel) rfl hW' bel⟩

theorem proved : Rows.CascadeOneSaid :=
  OpenClaim.holds_of_wide 6 Try.f6 rfl rfl rfl rfl rfl rfl rfl ⟨rfl, rfl, rfl, rfl, rfl⟩ rfl rfl rfl rfl rfl (by kernel_rfl) Try.func6 (by kernel_rfl)
    (of_decide_eq_true (by kernel_rfl)) (by unfold Func.isWrapper; first | (rw [if_pos (by decide +kernel)]; kernel_rfl) | (rw [if_neg (by decide +kernel)]; exact ⟨rfl, rfl⟩))
    (fun os started H enc _ => lifted os started H enc)
#print axioms proved

end Go.Proofs.Ytchmpdibbklpfaa.win.one
