/- CascadeTurned: for every list of declarations the call returns true, and all that was there reads as before. No condition. -/
import Derived.Test.YtchmpdibbklpfaaWin5
namespace Go.Proofs.Ytchmpdibbklpfaa.win.turned
open Go.RowKit Go.Proofs.Ytchmpdibbklpfaa.base Go.Proofs.Ytchmpdibbklpfaa.cas Go.ChangeShapes Go.WideShapes Go.ChangeAt
set_option linter.unusedVariables false

theorem int_of {a b : Int} (h : a = b) : Value.int .i64 a = Value.int .i64 b := by rw [h]

/-- the last k stand at other places than those before them -/
def Dif (L : List GD) (k : Nat) : Prop := ∀ (a b : Nat) (x y : GD), a < b → L.length ≤ b + k → L[a]? = some x → L[b]? = some y → x.p ≠ y.p

theorem Dif.zero (L : List GD) : Dif L 0 := fun a b x y _ h _ hb => by
  have := (List.getElem?_eq_some_iff.1 hb).1
  omega
theorem Dif.step {L : List GD} {k t : Nat} {d : GD} (h : Dif L k) (ht : t + 1 + k = L.length) (hd : L[t]? = some d) (hq : ∀ a x, a < t → L[a]? = some x → x.p ≠ d.p) : Dif L (k + 1) := fun a b x y hab hb hx hy => by
  rcases Nat.lt_or_ge b (L.length - k) with hlt | hge
  · obtain rfl : b = t := by omega
    rw [hd] at hy
    obtain rfl := Option.some.inj hy
    exact hq a x hab hx
  · exact h a b x y hab (by omega) hx hy
theorem Dif.apart {L : List GD} (h : Dif L L.length) : Apart L := fun a ha b hb hp => by
  obtain ⟨i, hi⟩ := List.mem_iff_getElem?.1 ha
  obtain ⟨j, hj⟩ := List.mem_iff_getElem?.1 hb
  rcases Nat.lt_trichotomy i j with hij | hij | hij
  · exact absurd hp (h i j a b hij (by omega) hi hj)
  · subst hij
    rw [hi] at hj
    exact Option.some.inj hj
  · exact absurd hp.symm (h j i b a hij (by omega) hj hi)
theorem rev_snoc {L : List GD} {k t : Nat} {d : GD} (ht : t + 1 + k = L.length) (hd : L[t]? = some d) : L.reverse.take (k + 1) = L.reverse.take k ++ [d] := by
  have hl : k < L.reverse.length := by simp; omega
  rw [List.take_succ_eq_append_getElem hl]
  congr 2
  rw [List.getElem_reverse]
  obtain ⟨h1, h2⟩ := List.getElem?_eq_some_iff.1 hd
  rw [← h2]
  congr 1
  omega

/-- what is kept while the list is turned -/
def BackRel (L : List GD) (w : World) (v i : Value) (wr : World) : Prop :=
  ∃ k : Nat, k ≤ L.length ∧ ((∃ t : Nat, i = .int .i64 t ∧ t + 1 + k = L.length) ∨ (i = .int .i64 (-1) ∧ k = L.length)) ∧ Dif L k ∧ wr.ownsRow w.heap.size 23 6 v k (rows (L.reverse.take k)) ∧ Below w.heap.size w wr

def leftOf : Value → Nat
  | .int _ i => (i + 1).toNat
  | _ => 0

set_option maxRecDepth 100000 in
set_option maxHeartbeats 8000000 in
theorem law_ct (A : Option Addr) (n cap : Nat) (L0 : List GD) (w : World) (hn : n ≤ cap) (hcm : n ≤ maxLen) (hL : GRd w w.heap.size A n L0) (hN : Named L0) :
    Calls Try.prog 5 #[.slice A n cap] w fun e w' => e = .returned (.bool true) ∧ Below w.heap.size w w' := by
  have hL1 := hL.first (m := min n 20) (Nat.min_le_left _ _)
  have HN := Lib.hid (show Named (L0.take (min n 20)) from fun d hd => hN d (List.mem_of_mem_take hd))
  clear hL hN
  generalize L0.take (min n 20) = L at *
  unfold maxLen at hcm
  obtain ⟨m, hm⟩ : ∃ m, m = min n 20 := ⟨_, rfl⟩
  rw [← hm] at hL1
  obtain ⟨i0, hi, hz0, hz1, hz2⟩ := info_parts infoG
  have Hz0 := Lib.hid hz0
  have Hi := Lib.hid hi
  have Hz1 := Lib.hid hz1
  have Hz2 := Lib.hid hz2
  clear hz0 hi hz1 hz2
  have hlen := hL1.1
  rcases Nat.lt_or_ge 20 n with hc | hc
  · obtain rfl : m = 20 := by omega
    have i0' : (20 : Int) < n := by omega
    have hl1 : 20 ≤ L.length := by omega
    have hl2 : L.length ≤ 20 := by omega
    have HLw := Lib.hid hL1
    rw [← hlen] at hL1
    have HL := Lib.hid hL1
    clear hm hlen hL1
    go_enter Try.func5, Try.ntmps5
    go_wp2_with fail
    refine (own_ct _).mono ?_
    rintro e W1 ⟨rfl, hb⟩
    have HB1 := Lib.hid hb
    have HL1 := Lib.hid (HL.out.keep hb hb.size)
    clear hb
    go_wp2_with fail
    go_loopw [4, 5] (fun v i wr => BackRel L W1 v i wr) (fun _ i _ => leftOf i)
    case atStart =>
      refine ⟨0, by omega, ?_, Dif.zero L, World.ownsRow_nil _ _ _ _, Below.refl _ _⟩
      rcases Nat.eq_zero_or_pos L.length with h0 | h0
      · right
        exact ⟨int_of (by omega), h0.symm⟩
      · left
        exact ⟨L.length - 1, int_of (by omega), by omega⟩
    case round =>
      obtain ⟨k, hk, hti, hdif, hrow, hbel⟩ := hrel
      rcases hti with ⟨t, rfl, ht⟩ | ⟨rfl, rfl⟩
      · have hlt : t < L.length := by omega
        have hlt' : (t : Int) < (L.length : Int) := by omega
        have hlt'' : (t : Int) < 20 := by omega
        have ht0 : (0 : Int) ≤ (t : Int) := by omega
        obtain ⟨d, hd⟩ : ∃ d, L[t]? = some d := ⟨L[t], List.getElem?_eq_getElem hlt⟩
        have hdif1 := Lib.hid (hdif.step ht hd)
        obtain ⟨WO, hWO⟩ : ∃ WO, WO = wr := ⟨_, rfl⟩
        subst hWO
        have HBel := Lib.hid hbel
        replace hrow := Lib.hid hrow
        replace hd := Lib.hid hd
        replace ht := Lib.hid ht
        clear hbel hdif
        go_wp2_with fail
        go_loopw [6] (fun j wr => ∃ q : Nat, q ≤ t ∧ j = .int .i64 q ∧ (∀ a x, a < q → L[a]? = some x → x.p ≠ d.p) ∧ ∃ nq, wr = WO.drewN nq) (fun j _ => t - (intOf j).toNat)
        case atStart => exact ⟨0, by omega, rfl, fun a x h => by omega, 0, rfl⟩
        case round =>
          obtain ⟨q, hq, rfl, hdq, n0, rfl⟩ := hrel
          obtain ⟨b, off, d', hA, hb, hd', e0, e1, e2, e3, e4, e5⟩ := (HL1.out.keep HBel.out HBel.out.size).at_ hlt
          obtain rfl : d' = d := by rw [hd.out] at hd'; exact (Option.some.inj hd').symm
          replace hdq := Lib.hid hdq
          by_cases hlq : q < t
          · have hlq1 : q < L.length := by omega
            have hlq' : (q : Int) < (t : Int) := by omega
            have hlq2 : (q : Int) < (L.length : Int) := by omega
            have hlq3 : (q : Int) < 20 := by omega
            obtain ⟨b2, off2, e, hA2, hb2, he, f0, f1, f2, f3, f4, f5⟩ := (HL1.out.keep HBel.out HBel.out.size).at_ hlq1
            subst hA
            simp only [Option.some.injEq, Addr.mk.injEq, and_true] at hA2
            obtain ⟨rfl, rfl⟩ := hA2
            replace he := Lib.hid he
            clear hd' e0 e1 e2 e3 e4 f0 f1 f2 f3 f4
            by_cases hnn : e.p = d'.p
            · replace hnn' := Lib.hid hnn
              go_wp2_with fail
              go_quiet (fail)
              go_wp2
              go_ret
              exact ⟨rfl, HB1.out.trans ((below_drewN (below_drewN HBel.out _) _).mono HB1.out.size)⟩
            · have ht : (e.p == d'.p) = false := by simpa using hnn
              replace hnn := Lib.hid hnn
              go_wp2_with fail
              go_quiet (fail)
              go_wp2
              go_roundw
              case rel =>
                refine ⟨q + 1, by omega, by go_num, fun a x ha hx => ?_, _, rfl⟩
                rcases Nat.lt_or_ge a q with h1 | h1
                · exact hdq.out a x h1 hx
                · obtain rfl : a = q := by omega
                  rw [he.out] at hx
                  obtain rfl := Option.some.inj hx
                  exact hnn.out
              case measure => simp [intOf]; omega
          · obtain rfl : q = t := by omega
            subst hA
            have hrevs := Lib.hid (rev_snoc ht.out hd')
            have hdif2 := Lib.hid (hdif1.out hdq.out)
            have HBz := HBel.out.size
            replace hrow := Lib.hid (show (WO.drewN n0).ownsRow W1.heap.size 23 6 _ k (rows (L.reverse.take k)) from hrow.out)
            have hbd := Lib.hid (below_drewN HBel.out n0)
            clear hd' hdif1 hd hdq
            go_wp2_with (at_builtin; refine wpList_append_own _ rfl _ _ 34 rfl W1.heap.size 23 i0 _ 6 64 Try.underlying34 Hi.out Hz0.out Hz1.out Hz2.out rfl (by decide) _ _ _ rfl (hrow.out.alloc _) ⟨WO.heap.size, 0, none⟩ 1 1 d'.cells.toList rfl rfl ?c1 ?c2 ?c3 ?c4 ?c5 ?_)
            case c1 => exact fun j u h => ((Blk.new (w := WO.drewN n0) rfl).cell j).trans (by simpa using h)
            case c2 => simp [Value.oneCell']
            case c3 => unfold maxLen; omega
            case c4 => omega
            case c5 => simp; omega
            intro v' w2 hown2 hgrow2 hnil2
            have hb2 := Lib.hid ((hbd.out.alloc (by simpa using HBz) _).grown hgrow2 (by simp; omega) (fun j hj => (hrow.out.lt j hj).1))
            replace hown2 := Lib.hid hown2
            clear hgrow2 hnil2 e0 e1 e2 e3 e4 e5
            go_wp2
            go_roundw
            case rel =>
              refine ⟨k + 1, by have := ht.out; omega, ?_, hdif2.out, ?_, hb2.out⟩
              · rcases Nat.eq_zero_or_pos q with h0 | h0
                · right
                  exact ⟨int_of (by omega), by have := ht.out; omega⟩
                · left
                  exact ⟨q - 1, int_of (by omega), by have := ht.out; omega⟩
              · rw [hrevs.out]
                simpa [rows_snoc] using hown2.out
            case measure => simp [leftOf]
      · have hrev : rows (L.reverse.take L.length) = rows L.reverse := by rw [List.take_of_length_le (by simp)]
        rw [hrev] at hrow
        obtain ⟨A2, cap2, rfl, _, hg2⟩ := row_grdn (by simp) hrow
        obtain ⟨tm, tl⟩ := turned_alike hdif.apart
        have hNr := Lib.hid (show Named L.reverse from fun d hd => HN.out d (by simpa using hd))
        have HBW := Lib.hid hbel
        have HG2 := Lib.hid hg2
        replace tm := Lib.hid tm
        have hx20 : (winP L).length ≤ L.length := (won L).few
        have TL := Lib.hid tl
        clear hrow hg2 hdif hbel hrev tl
        go_wp2_with fail
        refine (win_row A _ cap L _ (by omega) ((HLw.out.keep HB1.out HB1.out.size).keep HBW.out HBW.out.size) HN.out).mono ?_
        rintro e W3 ⟨⟨A3, cap3, rfl, hg3⟩, hb3⟩
        have HG23 := Lib.hid (HG2.out.keep hb3 hb3.size)
        have HBW3 := Lib.hid (HBW.out.trans (hb3.mono HBW.out.size))
        have HG3 := Lib.hid hg3
        clear hb3 hg3
        go_wp2_with fail
        refine (win_row A2 _ cap2 L.reverse _ (by omega) HG23.out hNr.out).mono ?_
        rintro e W4 ⟨⟨A4, cap4, rfl, hg4⟩, hb4⟩
        have HG34 := Lib.hid (HG3.out.keep hb4 hb4.size)
        have HBW4 := Lib.hid (HBW3.out.trans (hb4.mono HBW3.out.size))
        have HG4 := Lib.hid hg4
        clear hb4 hg4 HG2 HG23 HG3 HBW HBW3
        generalize winP L = X at *
        generalize winP L.reverse = Y at *
        have hy20 : Y.length ≤ L.length := by have := TL.out; omega
        go_wp2_with fail
        go_loopw [9] (fun i wr => ∃ k : Nat, k ≤ X.length ∧ i = .int .i64 k ∧ ∃ nq, wr = W4.drewN nq) (fun i _ => X.length - (intOf i).toNat)
        case atStart => exact ⟨0, by omega, rfl, 0, rfl⟩
        case round =>
          obtain ⟨k, hk, rfl, n0, rfl⟩ := hrel
          by_cases hlt : k < X.length
          · have hlt' : (k : Int) < (X.length : Int) := by omega
            obtain ⟨b, off, d, hA, hb, hd, e0, e1, e2, e3, e4, e5⟩ := HG34.out.at_ hlt
            subst hA
            have hdY := Lib.hid (tm.out d (List.mem_of_getElem? hd))
            clear hd
            go_wp2_with fail
            go_loopw [10, 11] (fun s j wr => ∃ q : Nat, ∃ sb : Bool, q ≤ Y.length ∧ j = .int .i64 q ∧ s = .bool sb ∧ (d ∈ Y.take q → sb = true) ∧ ∃ nq, wr = W4.drewN nq) (fun _ j _ => Y.length - (intOf j).toNat)
            case atStart => exact ⟨0, false, by omega, rfl, rfl, by simp, n0, rfl⟩
            case round =>
              obtain ⟨q, sb, hq, rfl, rfl, hsb, n1, rfl⟩ := hrel
              replace hsb := Lib.hid hsb
              by_cases hlq : q < Y.length
              · have hlq' : (q : Int) < (Y.length : Int) := by omega
                obtain ⟨b2, off2, e, hA2, hb2, he, f0, f1, f2, f3, f4, f5⟩ := HG4.out.at_ hlq
                subst hA2
                replace he := Lib.hid he
                cases sb
                · have keq := fun W => run_eq_given d e W
                  obtain ⟨bb, hbb⟩ : ∃ bb, bb = decide (d = e) := ⟨_, rfl⟩
                  rw [← hbb] at keq
                  replace hbb := Lib.hid hbb
                  go_wp2_with fail
                  go_quiet (fail)
                  go_wp2
                  go_roundw
                  case rel =>
                    refine ⟨q + 1, bb, by omega, by go_num, rfl, fun hm => ?_, _, rfl⟩
                    obtain ⟨hl, he2⟩ := List.getElem?_eq_some_iff.1 he.out
                    rw [List.take_succ_eq_append_getElem hl, he2, List.mem_append] at hm
                    rcases hm with hm | hm
                    · exact absurd (hsb.out hm) (by simp)
                    · rw [hbb.out]
                      simpa using hm
                  case measure => simp [intOf]; omega
                · go_wp2_with fail
                  go_quiet (fail)
                  go_wp2
                  go_roundw
                  case rel => exact ⟨q + 1, true, by omega, by go_num, rfl, fun _ => rfl, _, rfl⟩
                  case measure => simp [intOf]; omega
              · obtain rfl : q = Y.length := by omega
                obtain rfl : sb = true := hsb.out (by rw [List.take_of_length_le (Nat.le_refl _)]; exact hdY.out)
                go_wp2
                go_roundw
                case rel => exact ⟨k + 1, by omega, by go_num, _, rfl⟩
                case measure => simp [intOf]; omega
          · obtain rfl : k = X.length := by omega
            have hxy : ((X.length : Int) == (Y.length : Int)) = true := by simp [TL.out]
            go_wp2
            go_ret
            exact ⟨rfl, HB1.out.trans ((below_drewN HBW4.out _).mono HB1.out.size)⟩
  · obtain rfl : m = n := by omega
    obtain rfl : L.length = m := hlen
    have i0' : (L.length : Int) ≤ 20 := by omega
    have hl1 : L.length ≤ L.length := by omega
    have hl2 : L.length ≤ 20 := by omega
    have HLw := Lib.hid hL1
    have HL := Lib.hid hL1
    clear hm hL1
    go_enter Try.func5, Try.ntmps5
    go_wp2_with fail
    refine (own_ct _).mono ?_
    rintro e W1 ⟨rfl, hb⟩
    have HB1 := Lib.hid hb
    have HL1 := Lib.hid (HL.out.keep hb hb.size)
    clear hb
    go_wp2_with fail
    go_loopw [4, 5] (fun v i wr => BackRel L W1 v i wr) (fun _ i _ => leftOf i)
    case atStart =>
      refine ⟨0, by omega, ?_, Dif.zero L, World.ownsRow_nil _ _ _ _, Below.refl _ _⟩
      rcases Nat.eq_zero_or_pos L.length with h0 | h0
      · right
        exact ⟨int_of (by omega), h0.symm⟩
      · left
        exact ⟨L.length - 1, int_of (by omega), by omega⟩
    case round =>
      obtain ⟨k, hk, hti, hdif, hrow, hbel⟩ := hrel
      rcases hti with ⟨t, rfl, ht⟩ | ⟨rfl, rfl⟩
      · have hlt : t < L.length := by omega
        have hlt' : (t : Int) < (L.length : Int) := by omega
        have hlt'' : (t : Int) < 20 := by omega
        have ht0 : (0 : Int) ≤ (t : Int) := by omega
        obtain ⟨d, hd⟩ : ∃ d, L[t]? = some d := ⟨L[t], List.getElem?_eq_getElem hlt⟩
        have hdif1 := Lib.hid (hdif.step ht hd)
        obtain ⟨WO, hWO⟩ : ∃ WO, WO = wr := ⟨_, rfl⟩
        subst hWO
        have HBel := Lib.hid hbel
        replace hrow := Lib.hid hrow
        replace hd := Lib.hid hd
        replace ht := Lib.hid ht
        clear hbel hdif
        go_wp2_with fail
        go_loopw [6] (fun j wr => ∃ q : Nat, q ≤ t ∧ j = .int .i64 q ∧ (∀ a x, a < q → L[a]? = some x → x.p ≠ d.p) ∧ ∃ nq, wr = WO.drewN nq) (fun j _ => t - (intOf j).toNat)
        case atStart => exact ⟨0, by omega, rfl, fun a x h => by omega, 0, rfl⟩
        case round =>
          obtain ⟨q, hq, rfl, hdq, n0, rfl⟩ := hrel
          obtain ⟨b, off, d', hA, hb, hd', e0, e1, e2, e3, e4, e5⟩ := (HL1.out.keep HBel.out HBel.out.size).at_ hlt
          obtain rfl : d' = d := by rw [hd.out] at hd'; exact (Option.some.inj hd').symm
          replace hdq := Lib.hid hdq
          by_cases hlq : q < t
          · have hlq1 : q < L.length := by omega
            have hlq' : (q : Int) < (t : Int) := by omega
            have hlq2 : (q : Int) < (L.length : Int) := by omega
            have hlq3 : (q : Int) < 20 := by omega
            obtain ⟨b2, off2, e, hA2, hb2, he, f0, f1, f2, f3, f4, f5⟩ := (HL1.out.keep HBel.out HBel.out.size).at_ hlq1
            subst hA
            simp only [Option.some.injEq, Addr.mk.injEq, and_true] at hA2
            obtain ⟨rfl, rfl⟩ := hA2
            replace he := Lib.hid he
            clear hd' e0 e1 e2 e3 e4 f0 f1 f2 f3 f4
            by_cases hnn : e.p = d'.p
            · replace hnn' := Lib.hid hnn
              go_wp2_with fail
              go_quiet (fail)
              go_wp2
              go_ret
              exact ⟨rfl, HB1.out.trans ((below_drewN (below_drewN HBel.out _) _).mono HB1.out.size)⟩
            · have ht : (e.p == d'.p) = false := by simpa using hnn
              replace hnn := Lib.hid hnn
              go_wp2_with fail
              go_quiet (fail)
              go_wp2
              go_roundw
              case rel =>
                refine ⟨q + 1, by omega, by go_num, fun a x ha hx => ?_, _, rfl⟩
                rcases Nat.lt_or_ge a q with h1 | h1
                · exact hdq.out a x h1 hx
                · obtain rfl : a = q := by omega
                  rw [he.out] at hx
                  obtain rfl := Option.some.inj hx
                  exact hnn.out
              case measure => simp [intOf]; omega
          · obtain rfl : q = t := by omega
            subst hA
            have hrevs := Lib.hid (rev_snoc ht.out hd')
            have hdif2 := Lib.hid (hdif1.out hdq.out)
            have HBz := HBel.out.size
            replace hrow := Lib.hid (show (WO.drewN n0).ownsRow W1.heap.size 23 6 _ k (rows (L.reverse.take k)) from hrow.out)
            have hbd := Lib.hid (below_drewN HBel.out n0)
            clear hd' hdif1 hd hdq
            go_wp2_with (at_builtin; refine wpList_append_own _ rfl _ _ 34 rfl W1.heap.size 23 i0 _ 6 64 Try.underlying34 Hi.out Hz0.out Hz1.out Hz2.out rfl (by decide) _ _ _ rfl (hrow.out.alloc _) ⟨WO.heap.size, 0, none⟩ 1 1 d'.cells.toList rfl rfl ?c1 ?c2 ?c3 ?c4 ?c5 ?_)
            case c1 => exact fun j u h => ((Blk.new (w := WO.drewN n0) rfl).cell j).trans (by simpa using h)
            case c2 => simp [Value.oneCell']
            case c3 => unfold maxLen; omega
            case c4 => omega
            case c5 => simp; omega
            intro v' w2 hown2 hgrow2 hnil2
            have hb2 := Lib.hid ((hbd.out.alloc (by simpa using HBz) _).grown hgrow2 (by simp; omega) (fun j hj => (hrow.out.lt j hj).1))
            replace hown2 := Lib.hid hown2
            clear hgrow2 hnil2 e0 e1 e2 e3 e4 e5
            go_wp2
            go_roundw
            case rel =>
              refine ⟨k + 1, by have := ht.out; omega, ?_, hdif2.out, ?_, hb2.out⟩
              · rcases Nat.eq_zero_or_pos q with h0 | h0
                · right
                  exact ⟨int_of (by omega), by have := ht.out; omega⟩
                · left
                  exact ⟨q - 1, int_of (by omega), by have := ht.out; omega⟩
              · rw [hrevs.out]
                simpa [rows_snoc] using hown2.out
            case measure => simp [leftOf]
      · have hrev : rows (L.reverse.take L.length) = rows L.reverse := by rw [List.take_of_length_le (by simp)]
        rw [hrev] at hrow
        obtain ⟨A2, cap2, rfl, _, hg2⟩ := row_grdn (by simp) hrow
        obtain ⟨tm, tl⟩ := turned_alike hdif.apart
        have hNr := Lib.hid (show Named L.reverse from fun d hd => HN.out d (by simpa using hd))
        have HBW := Lib.hid hbel
        have HG2 := Lib.hid hg2
        replace tm := Lib.hid tm
        have hx20 : (winP L).length ≤ L.length := (won L).few
        have TL := Lib.hid tl
        clear hrow hg2 hdif hbel hrev tl
        go_wp2_with fail
        refine (win_row A _ cap L _ (by omega) ((HLw.out.keep HB1.out HB1.out.size).keep HBW.out HBW.out.size) HN.out).mono ?_
        rintro e W3 ⟨⟨A3, cap3, rfl, hg3⟩, hb3⟩
        have HG23 := Lib.hid (HG2.out.keep hb3 hb3.size)
        have HBW3 := Lib.hid (HBW.out.trans (hb3.mono HBW.out.size))
        have HG3 := Lib.hid hg3
        clear hb3 hg3
        go_wp2_with fail
        refine (win_row A2 _ cap2 L.reverse _ (by omega) HG23.out hNr.out).mono ?_
        rintro e W4 ⟨⟨A4, cap4, rfl, hg4⟩, hb4⟩
        have HG34 := Lib.hid (HG3.out.keep hb4 hb4.size)
        have HBW4 := Lib.hid (HBW3.out.trans (hb4.mono HBW3.out.size))
        have HG4 := Lib.hid hg4
        clear hb4 hg4 HG2 HG23 HG3 HBW HBW3
        generalize winP L = X at *
        generalize winP L.reverse = Y at *
        have hy20 : Y.length ≤ L.length := by have := TL.out; omega
        go_wp2_with fail
        go_loopw [9] (fun i wr => ∃ k : Nat, k ≤ X.length ∧ i = .int .i64 k ∧ ∃ nq, wr = W4.drewN nq) (fun i _ => X.length - (intOf i).toNat)
        case atStart => exact ⟨0, by omega, rfl, 0, rfl⟩
        case round =>
          obtain ⟨k, hk, rfl, n0, rfl⟩ := hrel
          by_cases hlt : k < X.length
          · have hlt' : (k : Int) < (X.length : Int) := by omega
            obtain ⟨b, off, d, hA, hb, hd, e0, e1, e2, e3, e4, e5⟩ := HG34.out.at_ hlt
            subst hA
            have hdY := Lib.hid (tm.out d (List.mem_of_getElem? hd))
            clear hd
            go_wp2_with fail
            go_loopw [10, 11] (fun s j wr => ∃ q : Nat, ∃ sb : Bool, q ≤ Y.length ∧ j = .int .i64 q ∧ s = .bool sb ∧ (d ∈ Y.take q → sb = true) ∧ ∃ nq, wr = W4.drewN nq) (fun _ j _ => Y.length - (intOf j).toNat)
            case atStart => exact ⟨0, false, by omega, rfl, rfl, by simp, n0, rfl⟩
            case round =>
              obtain ⟨q, sb, hq, rfl, rfl, hsb, n1, rfl⟩ := hrel
              replace hsb := Lib.hid hsb
              by_cases hlq : q < Y.length
              · have hlq' : (q : Int) < (Y.length : Int) := by omega
                obtain ⟨b2, off2, e, hA2, hb2, he, f0, f1, f2, f3, f4, f5⟩ := HG4.out.at_ hlq
                subst hA2
                replace he := Lib.hid he
                cases sb
                · have keq := fun W => run_eq_given d e W
                  obtain ⟨bb, hbb⟩ : ∃ bb, bb = decide (d = e) := ⟨_, rfl⟩
                  rw [← hbb] at keq
                  replace hbb := Lib.hid hbb
                  go_wp2_with fail
                  go_quiet (fail)
                  go_wp2
                  go_roundw
                  case rel =>
                    refine ⟨q + 1, bb, by omega, by go_num, rfl, fun hm => ?_, _, rfl⟩
                    obtain ⟨hl, he2⟩ := List.getElem?_eq_some_iff.1 he.out
                    rw [List.take_succ_eq_append_getElem hl, he2, List.mem_append] at hm
                    rcases hm with hm | hm
                    · exact absurd (hsb.out hm) (by simp)
                    · rw [hbb.out]
                      simpa using hm
                  case measure => simp [intOf]; omega
                · go_wp2_with fail
                  go_quiet (fail)
                  go_wp2
                  go_roundw
                  case rel => exact ⟨q + 1, true, by omega, by go_num, rfl, fun _ => rfl, _, rfl⟩
                  case measure => simp [intOf]; omega
              · obtain rfl : q = Y.length := by omega
                obtain rfl : sb = true := hsb.out (by rw [List.take_of_length_le (Nat.le_refl _)]; exact hdY.out)
                go_wp2
                go_roundw
                case rel => exact ⟨k + 1, by omega, by go_num, _, rfl⟩
                case measure => simp [intOf]; omega
          · obtain rfl : k = X.length := by omega
            have hxy : ((X.length : Int) == (Y.length : Int)) = true := by simp [TL.out]
            go_wp2
            go_ret
            exact ⟨rfl, HB1.out.trans ((below_drewN HBW4.out _).mono HB1.out.size)⟩
set_option maxRecDepth 100000 in
theorem lifted (os : Os) (started : os.Started) (H : Type) (enc : TypeId × Value → H) :
    ReturnsInHanded {} Try.checked os 5 .any (Rows.cascadeTurnedSpec.pre6 enc Try.prog Try.f5 Rows.cascadeTurnedRow.domain false) (Rows.cascadeTurnedSpec.post enc Try.prog Try.f5 false true false false) := by
  refine returnsInHanded_of_change (C := Try.checked) own started (by kernel_rfl) Try.func5
    (ChangeSpec.witness6 (enc := enc) (C := Try.checked) false ⟨#[], #[.slice none 0 0], []⟩ 8 (by kernel_rfl) (by kernel_rfl) (by kernel_rfl) (by kernel_rfl)) ?_
  intro W base args ds gs before hval0 hW _ _
  have hval : ∀ (j : Nat) t v, Try.f5.params[j]? = some t → args[j]? = some v → Value.okWide Try.prog W .any base t v := hval0
  have hW' := hW
  obtain ⟨p, q, hA0, hV, -, -, -⟩ := hW
  have hA : DataW.TrodAll enc Try.prog W 0 (fun _ => true) true Try.f5.params.toList args.toList ds p := hA0
  rw [Try.params5] at hA hval
  obtain ⟨v0, vs0, d0, ds0, p0, q0, hargs, rfl, -, h0, r0⟩ := trodAll_cons hA
  obtain ⟨rfl, rfl, -⟩ := trodAll_nil r0
  obtain rfl : args = #[v0] := by cases args; simp_all
  obtain ⟨rfl, -⟩ := trodVars_none hV
  obtain ⟨A, n, cap, L, rfl, hn, hm, hL, hN⟩ := arg_givens (hval 0 _ _ rfl rfl) h0
  exact (law_ct A n cap L W hn hm hL hN).mono fun e W' ⟨he, bel⟩ => ⟨_, he, law_post laidOut rfl Try.underlying4 rfl (by intro t ht; rw [Try.params5] at ht; revert t; decide +kernel) rfl hW' bel⟩

theorem proved : Rows.CascadeTurnedSaid :=
  OpenClaim.holds_of_wide 5 Try.f5 rfl rfl rfl rfl rfl rfl rfl ⟨rfl, rfl, rfl, rfl, rfl⟩ rfl rfl rfl rfl rfl (by kernel_rfl) Try.func5 (by kernel_rfl)
    (of_decide_eq_true (by kernel_rfl)) (by unfold Func.isWrapper; first | (rw [if_pos (by decide +kernel)]; kernel_rfl) | (rw [if_neg (by decide +kernel)]; exact ⟨rfl, rfl⟩))
    (fun os started H enc _ => lifted os started H enc)
#print axioms proved

end Go.Proofs.Ytchmpdibbklpfaa.win.turned
