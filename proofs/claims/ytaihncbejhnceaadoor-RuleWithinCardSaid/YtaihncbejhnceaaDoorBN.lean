/- Contracts and plain law, a bundle: Show5 RulT4. -/
import Derived.Test.YtaihncbejhnceaaDoorBM
import Derived.Test.YtaihncbejhnceaaDoorBJ

namespace Go.Proofs.YtaihncbejhnceaaDoor.rul
open Go.RowKit Go.Proofs.YtaihncbejhnceaaDoor.base Go.Proofs.YtaihncbejhnceaaDoor.tok
set_option linter.unusedVariables false

theorem parse_nil : ParseP [] = some [] := by
  have hn : rulesP 3 [] = [] := by rw [rulesP_is, rulesW_nil (by rfl)]
  unfold ParseP
  rw [cutP_nil, hn, if_neg (by decide), if_neg (by simp [manyP, manyG])]
theorem parseL_good (s : Bs) : ∃ s', ParseP s' = some (parseL s) := by
  cases h : ParseP s with
  | none => exact ⟨[], by rw [parse_nil]; simp [parseL, h]⟩
  | some R => exact ⟨s, by rw [h]; simp [parseL, h]⟩
def shownS (s : Bs) : Bs := ShowS (parseL s)
def shownB (s : Bs) : Bool := decide (parseE s = 0) && decide (ShowE (parseL s) = 0)
theorem ShowE_or (R : List Rl) : ShowE R = 0 ∨ ShowE R = 2 := by
  unfold ShowE
  split
  · exact .inr rfl
  · exact .inl rfl
theorem shownS_len (s : Bs) : (shownS s).length ≤ 3000 := by
  unfold shownS ShowS
  split
  · exact Nat.zero_le _
  · omega
theorem shownB_true {s : Bs} (h : shownB s = true) : ParseP s = some (parseL s) ∧ shownS s = showG (parseL s) := by
  unfold shownB at h
  rw [Bool.and_eq_true, decide_eq_true_eq, decide_eq_true_eq] at h
  refine ⟨parseE_some h.1, ?_⟩
  unfold shownS ShowS
  split
  · rename_i h2
    have := h.2
    unfold ShowE at this
    rw [if_pos h2] at this
    exact absurd this (by decide)
  · rfl
def ShownRet (w w' : World) (s : Bs) (b : Bool) (e : Ending) : Prop := ∃ A cap, e = .returned (.tuple #[.string (bs (shownS s)), .slice A (parseL s).length cap, .bool b]) ∧ Got w w' (.slice A (parseL s).length cap) (parseL s) ∧ fullG (parseL s) ≤ 3000

set_option maxRecDepth 100000 in
set_option maxHeartbeats 4000000 in
theorem shown_ct (s : Bs) (w : World) (hF : FoldAt w) (hm : MaxL w) :
    Calls Tryd.prog 16 #[.string (bs s)] w fun e w' => ShownRet w w' s (shownB s) e ∧ Below w.heap.size w w' := by
  have cP := Lib.hid (fun W hF hm => Parse_all s W hF hm)
  have HF := Lib.hid hF
  have HM := Lib.hid hm
  obtain ⟨s', hs'⟩ := parseL_good s
  have cSh := Lib.hid (fun (hf : fullG (parseL s) ≤ 3000) v w hv hF hm => Show_ct s' (parseL s) hs' hf v w hv hF hm)
  unfold shownB ShownRet shownS
  generalize hT : ShowS (parseL s) = T at *
  generalize hL : parseL s = L at *
  rcases parseE_or s with h1 | h1 <;> rcases ShowE_or L with h2 | h2 <;> rw [h1] at cP <;> rw [h1, h2] <;> rw [h2] at cSh
  all_goals (
  clear hF hm h1 h2 hT hL hs'
  go_enter Tryd.func16, Tryd.ntmps16
  go_wp2_with (first
    | (go_at_call 13; (with_reducible refine (cP.out _ HF.out HM.out).mono ?_); rintro e W2 ⟨⟨A2, k2, rfl, hr2, hf2⟩, hb2⟩; have HB2 := Lib.hid hb2; have HR2 := Lib.hid hr2; have HF2 := Lib.hid hf2; have HS2 := Lib.hid hr2.rs.sl; clear hb2 hr2 hf2)
    | (go_at_call 14; (with_reducible refine (cSh.out HF2.out _ _ HS2.out (HF.out.on HB2.out) (HM.out.on HB2.out HM.out.lt)).mono ?_); rintro e W3 ⟨rfl, hb3⟩; have HB3 := Lib.hid (HB2.out.trans (hb3.mono HB2.out.size)); have HR3 := Lib.hid (HR2.out.on hb3); clear hb3))
  go_ret3
  exact ⟨⟨A2, k2, rfl, HR3.out, HF2.out⟩, HB3.out⟩)

end Go.Proofs.YtaihncbejhnceaaDoor.rul

namespace Go.Proofs.YtaihncbejhnceaaDoor.rul
open Go.RowKit Go.Proofs.YtaihncbejhnceaaDoor.base Go.Proofs.YtaihncbejhnceaaDoor.tok
set_option linter.unusedVariables false

mutual
theorem deepR_le : ∀ r : Rl, deepR r ≤ fullR r
  | .mk md h ds rs => by
    have := deepG_le rs
    simp only [deepR, fullR]
    split <;> omega
theorem deepG_le : ∀ rs : List Rl, deepG rs ≤ fullG rs
  | [] => by simp [deepG]
  | r :: rs => by
    have h1 := deepR_le r
    have h2 := deepG_le rs
    simp only [deepG, fullG]
    omega
end
theorem deepG_drop {rs : List Rl} {k : Nat} {md : Bool} {h : Bs} {ds : List Dc} {sub : List Rl} (hg : rs[k]? = some (.mk md h ds sub)) (acc : Nat) : max acc (deepG (rs.drop k)) = max (if md then max acc (1 + deepG sub) else acc) (deepG (rs.drop (k + 1))) := by
  obtain ⟨hl, he⟩ := List.getElem?_eq_some_iff.1 hg
  rw [List.drop_eq_getElem_cons hl, he]
  simp only [deepG, deepR]
  split <;> omega

set_option maxRecDepth 100000 in
set_option maxHeartbeats 4000000 in
theorem deep_ct : ∀ (N : Nat) (rs : List Rl), fullG rs ≤ N → N ≤ 1000000 → ∀ (v : Value) (w : World), RSl w v rs →
    Calls Tryd.prog 17 #[v] w fun e w' => e = .returned (.int .i64 (deepG rs : Int)) ∧ Below w.heap.size w w' := by
  intro N
  induction N with
  | zero =>
    intro rs hN hN2 v w h
    obtain rfl := List.eq_nil_of_length_eq_zero (Nat.le_zero.1 (Nat.le_trans (fullG_len rs) hN))
    obtain ⟨A, cap, rfl, hc, h0⟩ := h
    go_enter Tryd.func17, Tryd.ntmps17
    go_wp2_with fail
    go_loopw [3, 4] (fun n i wr => n = .int .i64 0 ∧ i = .int .i64 0 ∧ wr = w) (fun _ i _ => 0)
    case atStart => exact ⟨rfl, rfl, rfl⟩
    case round =>
      obtain ⟨rfl, rfl, rfl⟩ := hrel
      go_wp2
      go_ret
      exact ⟨rfl, Below.refl _ _⟩
  | succ N ih =>
    intro rs hN hN2 v w h
    obtain ⟨A, cap, rfl, hc, h0⟩ := id h
    have HS := Lib.hid h
    have hlen := fullG_len rs
    have hdl := deepG_le rs
    have IH := Lib.hid (fun rs' (h1 : fullG rs' ≤ N) v w h => ih rs' h1 (by omega) v w h)
    generalize hR : deepG rs = R at *
    have HR := Lib.hid hR
    have hRb : R ≤ 1000000 := by omega
    clear ih h h0 hdl
    have hrl : rs.length ≤ 1000000 := by omega
    go_enter Tryd.func17, Tryd.ntmps17
    go_wp2_with fail
    go_loopw [3, 4] (fun n i wr => ∃ k acc : Nat, k ≤ rs.length ∧ i = .int .i64 k ∧ n = .int .i64 acc ∧ acc ≤ 1000000 ∧ max acc (deepG (rs.drop k)) = R ∧ Below w.heap.size w wr) (fun _ i _ => rs.length - (intOf i).toNat)
    case atStart => exact ⟨0, 0, by omega, rfl, rfl, by omega, by have := HR.out; simpa using this, Below.refl _ _⟩
    case round =>
      obtain ⟨k, acc, hk, rfl, rfl, hacc, hrest, hbel⟩ := hrel
      have HBl := Lib.hid hbel
      have hz := hbel.size
      have HSr := Lib.hid (HS.out.on hbel)
      by_cases hlt : k < rs.length
      · have hlt' : (k : Int) < (rs.length : Int) := by omega
        obtain ⟨b, off, m, hd, ds, sub, A1, c1, A2, c2, rfl, hb, hg, e0, e1, e2, e3, hc1, hD, hSub⟩ := HSr.out.rule hlt
        obtain ⟨f1, f2, f3⟩ := fullG_drop rs k _ hg
        have hfr : 1 + fullG sub ≤ fullG rs := by have := f2; simp only [fullR] at this; omega
        have cSub := fun (W : World) (hW : RSl W (.slice A2 sub.length c2) sub) => IH.out sub (by omega) _ W hW
        have HSub := Lib.hid hSub
        have hsb := deepG_le sub
        rw [deepG_drop hg] at hrest
        generalize deepG sub = D at *
        have hD1 : D ≤ 1000000 := by omega
        replace hg := Lib.hid hg
        replace cSub := Lib.hid cSub
        have Hrest := Lib.hid hrest
        clear hrest f1 f2 f3 hfr hD hSub hbel hN hlen hsb
        cases m with
        | true =>
          have hmx : max ((acc : Int)) (1 + (D : Int)) = ((max acc (1 + D) : Nat) : Int) := by omega
          go_wp2_with (go_at_call 17; (with_reducible refine (cSub.out _ HSub.out).mono ?_); rintro e W1 ⟨rfl, hb1⟩; have HB1 := Lib.hid (HBl.out.trans (hb1.mono hz)); clear hb1)
          go_roundw
          case rel => exact ⟨k + 1, max acc (1 + D), by omega, by go_num, by go_num, by have := Hrest.out; simp only [if_true] at this; omega, by simpa using Hrest.out, HB1.out⟩
          case measure => simp [intOf]; omega
        | false =>
          go_wp2_with fail
          go_roundw
          case rel => exact ⟨k + 1, acc, by omega, by go_num, by go_num, by omega, by simpa using Hrest.out, HBl.out⟩
          case measure => simp [intOf]; omega
      · obtain rfl : k = rs.length := by omega
        have hr : R = acc := by have := hrest; rw [List.drop_eq_nil_of_le (Nat.le_refl _), deepG] at this; omega
        subst hr
        go_wp2
        go_ret
        exact ⟨rfl, HBl.out⟩

/-! ### closes -/
def closesG (rs : List Rl) : Bool := rs.any fun r => (headOf r).contains 125
theorem any_drop {α : Type} {l : List α} {k : Nat} {a : α} (h : l[k]? = some a) (p : α → Bool) : (l.drop k).any p = (p a || (l.drop (k + 1)).any p) := by
  obtain ⟨hl, he⟩ := List.getElem?_eq_some_iff.1 h
  rw [List.drop_eq_getElem_cons hl, he, List.any_cons]
theorem contains_hit {h : Bs} {k : Nat} (hk : k < h.length) (h1 : h[k] = 125) : (h.drop k).contains 125 = true := by
  rw [List.drop_eq_getElem_cons hk, h1, List.contains_cons]
  rfl
theorem contains_miss {h : Bs} {k : Nat} (hk : k < h.length) (h1 : ¬ h[k] = 125) : (h.drop k).contains 125 = (h.drop (k + 1)).contains 125 := by
  rw [List.drop_eq_getElem_cons hk, List.contains_cons, show ((125 : UInt8) == h[k]) = false from by rw [beq_eq_false_iff_ne]; exact fun e => h1 e.symm, Bool.false_or]

set_option maxRecDepth 100000 in
set_option maxHeartbeats 4000000 in
theorem closes_ct (rs : List Rl) (hN : rs.length ≤ 1000000) (hh : ∀ r ∈ rs, (headOf r).length ≤ 1000000) (v : Value) (w : World) (h : RSl w v rs) :
    Calls Tryd.prog 18 #[v] w fun e w' => e = .returned (.bool (closesG rs)) ∧ w' = w := by
  obtain ⟨A, cap, rfl, hc, h0⟩ := id h
  have HS := Lib.hid h
  generalize hR : closesG rs = R
  have HR := Lib.hid hR
  have HH := Lib.hid hh
  clear h h0 hR hh
  go_enter Tryd.func18, Tryd.ntmps18
  go_wp2_with fail
  go_loopw [3] (fun i wr => ∃ k : Nat, k ≤ rs.length ∧ i = .int .i64 k ∧ closesG (rs.drop k) = R ∧ wr = w) (fun i _ => rs.length - (intOf i).toNat)
  case atStart => exact ⟨0, by omega, rfl, HR.out, rfl⟩
  case round =>
    obtain ⟨k, hk, rfl, hrest, rfl⟩ := hrel
    by_cases hlt : k < rs.length
    · have hlt' : (k : Int) < (rs.length : Int) := by omega
      obtain ⟨b, off, m, hd, ds, sub, A1, c1, A2, c2, rfl, hb, hg, e0, e1, e2, e3, hc1, hD, hSub⟩ := HS.out.rule hlt
      have hhd : hd.length ≤ 1000000 := HH.out _ (List.mem_of_getElem? hg)
      unfold closesG at hrest
      rw [any_drop hg] at hrest
      have Hrest := Lib.hid (show (hd.contains 125 || closesG (rs.drop (k + 1))) = R from hrest)
      have hsz : (bs hd).size = hd.length := rfl
      clear hrest hg hD hSub
      go_wp2_with fail
      go_loopw [4] (fun i wr2 => ∃ q : Nat, q ≤ hd.length ∧ i = .int .i64 q ∧ ((hd.drop q).contains 125 || closesG (rs.drop (k + 1))) = R ∧ wr2 = wr) (fun i _ => hd.length - (intOf i).toNat)
      case atStart => exact ⟨0, by omega, rfl, Hrest.out, rfl⟩
      case round =>
        obtain ⟨q, hq, rfl, hrest, rfl⟩ := hrel
        by_cases hqt : q < hd.length
        · have hqt' : q < (bs hd).size := hqt
          have Hr2 := Lib.hid hrest
          by_cases h125 : hd[q] = 125
          · have hr : R = true := by rw [← hrest, contains_hit hqt h125]; rfl
            subst hr
            have hi : nv ((bs hd)[q]'hqt') = 125 := by rw [show (bs hd)[q]'hqt' = hd[q] from rfl, h125]; rfl
            go_wp2_with fail

            go_ret
            exact ⟨rfl, rfl⟩
          · have hi : ¬ nv ((bs hd)[q]'hqt') = 125 := by
              rw [show (bs hd)[q]'hqt' = hd[q] from rfl]
              intro e
              exact h125 (UInt8.toNat_inj.1 (by simp only [nv] at e; have : (125 : UInt8).toNat = 125 := rfl; omega))
            replace hi : (nv ((bs hd)[q]'hqt') == 125) = false := by simpa using hi
            have Hr3 := Lib.hid (show ((hd.drop (q + 1)).contains 125 || closesG (rs.drop (k + 1))) = R by rwa [contains_miss hqt h125] at hrest)
            clear hrest
            go_wp2_with fail
            go_roundw
            case rel => exact ⟨q + 1, by omega, by go_num, Hr3.out, trivial⟩
            case measure => simp [intOf]; omega
        · obtain rfl : q = hd.length := by omega
          have Hr3 := Lib.hid (show closesG (rs.drop (k + 1)) = R by have := hrest; simpa using this)
          clear hrest
          go_wp2_with fail
          go_roundw
          case rel => exact ⟨k + 1, by omega, by go_num, Hr3.out, trivial⟩
          case measure => simp [intOf]; omega
    · obtain rfl : k = rs.length := by omega
      have hr : R = false := by have := hrest; simpa [closesG] using this.symm
      subst hr
      go_wp2_with fail
      go_ret
      exact ⟨rfl, rfl⟩

theorem good_heads {N m : Nat} {nst : Bool} : ∀ {rs : List Rl}, GoodG N m nst rs → ∀ r ∈ rs, (headOf r).length ≤ N
  | [], _, r, h => by cases h
  | x :: rs, hg, r, h => by
    unfold GoodG at hg
    rcases List.mem_cons.1 h with rfl | h
    · cases r with
      | mk md hd ds sub =>
        have := hg.1
        unfold GoodR at this
        obtain ⟨⟨V, hc, hs, hb, rfl, hV, h3, hN⟩, _⟩ := this
        show (headP V).length ≤ N
        rw [head_is hs hc.raw]
        exact Nat.le_trans (sq_len V false hc.raw) hN
    · exact good_heads hg.2 r h
theorem closes_not {rs : List Rl} (h : closesG rs = false) : ∀ r ∈ rs, ¬ (125 : UInt8) ∈ headOf r := fun r hr hm => by
  unfold closesG at h
  rw [List.any_eq_false] at h
  exact h r hr (by simpa using hm)

end Go.Proofs.YtaihncbejhnceaaDoor.rul
