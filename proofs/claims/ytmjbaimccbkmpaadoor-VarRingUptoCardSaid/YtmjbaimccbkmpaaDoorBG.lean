/- Contracts and plain law, a bundle: Var6 TokE Var7 VarL. -/
import Derived.Test.YtmjbaimccbkmpaaDoorBF
import Derived.Test.YtmjbaimccbkmpaaDoorBD

namespace Go.Proofs.YtmjbaimccbkmpaaDoor.vrs
open Go.RowKit Go.Proofs.YtmjbaimccbkmpaaDoor.base Go.Proofs.YtmjbaimccbkmpaaDoor.tok Go.Proofs.YtmjbaimccbkmpaaDoor.rul
set_option linter.unusedVariables false

theorem blk_too {t : Tk} {L : List Tk} (h : blkOk t L = true) : 2 ≤ blkLen t L := by
  unfold blkOk at h
  unfold blkLen
  cases hc : closeP [closerP t.raw] L with
  | none => rw [hc] at h; cases h
  | some e => have := close_le L _ e hc; simp; omega
theorem closed_is {t : Tk} {M : List Tk} (ho : opensP t = true) : (blkP [] (t :: M) 0).getD 0 = if blkOk t M = true then blkLen t M else 0 := by
  rw [blkP, if_pos ho, List.nil_append, blk_close]
  unfold blkOk blkLen
  cases closeP [closerP t.raw] M with
  | none => rfl
  | some e => simp; omega
theorem var_opens {t : Tk} (h : isVarP t = true) : opensP t = true := by
  unfold isVarP at h
  rw [Bool.and_eq_true, decide_eq_true_eq] at h
  unfold opensP
  rw [h.1]
  rfl
theorem fillG_true {P : List Tk → Bs × Bool} : ∀ (n : Nat) (L : List Tk) (b r : Bs), L.length ≤ n → fillG P L b = (r, true) → r.length ≤ 400
  | _, [], b, r, _, h => by
    rw [fillG_nil] at h
    injection h with h1 h2
    subst h1
    simpa using h2
  | 0, t :: L, b, r, hn, _ => by simp at hn
  | n + 1, t :: L, b, r, hn, h => by
    simp only [List.length_cons] at hn
    cases hv : isVarP t
    · rw [fillG_other hv] at h
      exact fillG_true n L _ r (by omega) h
    · cases ho : blkOk t L
      · rw [fillG_open hv ho] at h
        cases h
      · obtain ⟨s, is, hs⟩ : ∃ s is, P (((t :: L).take (blkLen t L - 1)).drop 1) = (s, is) := ⟨_, _, rfl⟩
        cases is
        · rw [fillG_none hv ho hs] at h
          cases h
        · by_cases hm : 400 < (b ++ s).length
          · rw [fillG_much hv ho hs hm] at h
            cases h
          · rw [fillG_put hv ho hs hm] at h
            have hb := blkLen_bd t L
            exact fillG_true n _ _ r (by rw [List.length_drop, List.length_cons]; omega) h
theorem fillF_true {d : Nat} {V : List Vr} {s r : Bs} (h : fillF d V s = (r, true)) : r.length ≤ 400 := by
  cases d with
  | zero => cases h
  | succ d =>
    unfold fillF at h
    split at h
    · cases h
    · exact fillG_true _ _ _ _ (Nat.le_refl _) h
theorem putG_true {d : Nat} {V : List Vr} (hV : ∀ p ∈ V, p.2.length ≤ 140737488351232) {L : List Tk} {r : Bs} (h : putG (fillF d V) V L = (r, true)) : r.length ≤ 140737488351232 := by
  unfold putG at h
  split at h
  · cases h
  · split at h
    · rename_i v hl
      injection h with h1 h2
      subst h1
      unfold lastP at hl
      obtain ⟨p, hp, rfl⟩ := Option.map_eq_some_iff.1 hl
      exact hV p (List.mem_reverse.1 (List.mem_of_find?_eq_some hp))
    · split at h
      · cases h
      · have := fillF_true h
        omega
theorem text_mid {L : List Tk} {i n : Nat} {t : Tk} (h : L[i]? = some t) (hr : t.raw ≠ []) : (textOf ((L.drop (i + 1)).take n)).length < (textOf L).length := by
  have h1 := text_sub (List.take_sublist n (L.drop (i + 1)))
  have h2 : textOf (L.drop i) = t.raw ++ textOf (L.drop (i + 1)) := by
    rw [drop_at h]; simp [textOf]
  have h3 := text_sub (List.drop_sublist i L)
  have h4 : 0 < t.raw.length := List.length_pos_iff.2 hr
  rw [h2, List.length_append] at h3
  omega
theorem mid_is {t : Tk} {M : List Tk} {n : Nat} (h : 2 ≤ n) : ((t :: M).take (n - 1)).drop 1 = M.take (n - 2) := by
  obtain ⟨k, rfl⟩ : ∃ k, n = k + 2 := ⟨n - 2, by omega⟩
  rfl

theorem len_f (B b : Nat) (l : Bs) (w : World) (h : Lib.IsBuilderF 40 5 B b (Lib.byteCells l) w) :
    Calls Tryd.prog 17 #[.pointer (some ⟨b, 0, none⟩)] w fun e w' => e = .returned (.int .i64 l.length) ∧ w = w' :=
  (Tryd.Builder_Len_f B b _ w h).mono fun e w' ⟨he, hw⟩ => ⟨by rw [he, Lib.byteCells_length], hw.symm⟩
theorem string_f (B b : Nat) (l : Bs) (w : World) (h : IsB B b l w) (hBw : B ≤ w.heap.size) :
    Calls Tryd.prog 18 #[.pointer (some ⟨b, 0, none⟩)] w fun e w' => e = .returned (.string (bs l)) ∧ Lib.IsBuilderF 40 5 B b (Lib.byteCells l) w' ∧ Below B w w' :=
  Tryd.Builder_String_any_f B b l w (Lib.IsBuilderF.of h) hBw
theorem cutB_ct (s : Bs) (hs : s.length ≤ 1000000) (w : World) (hm : MaxL w) :
    Calls Tryd.prog 12 #[.string (bs s)] w fun e w' => (∃ A cap, e = .returned (.slice A (cutP s).length cap) ∧ (cutP s).length ≤ cap ∧ TRd w' w'.heap.size A (cutP s).length (cutP s)) ∧ Below w.heap.size w w' :=
  cut_ct (bs s) (by rw [bs_size]; omega) w hm

def FillRel (P : List Tk → Bs × Bool) (L : List Tk) (R : Bs × Bool) (W : World) (x : Value) (wr : World) : Prop :=
  ∃ (i : Nat) (out : Bs), i ≤ L.length ∧ x = .int .i64 i ∧ fillG P (L.drop i) out = R ∧ out.length ≤ 400 + (textOf (L.take i)).length ∧ IsB W.heap.size W.heap.size out wr ∧ Below W.heap.size W wr

set_option maxRecDepth 100000 in
set_option maxHeartbeats 8000000 in
theorem fill_step {b d : Nat} {V : List Vr} (hV : V.length ≤ 1000000) (hVl : ∀ p ∈ V, p.2.length ≤ 140737488351232) (HF : FillAt b d V) : FillAt b (d + 1) V := by
  intro s A cap w hs h4 hI hb hE
  have cC := Lib.hid (fun (w' : World) (h : Below w.heap.size w w') => cutB_ct s (by omega) w' (hE _ (h.mono hb)).1)
  have cV := Lib.hid (fun (t : Tk) (ht : t.val.length ≤ 1000000) (w' : World) (h : Below w.heap.size w w') => isVar_ct t (by omega) w' (hE _ (h.mono hb)).2)
  have hfit := fit_cut (l := s) (by omega)
  have htx := cut_text s
  have hfew := cut_few s
  have hRR : fillF (d + 1) V s = fillG (putG (fillF d V) V) (cutP s) [] := by
    show (if 400 < s.length then _ else _) = _
    rw [if_neg (by omega)]
  rw [hRR]
  clear hRR
  generalize cutP s = L at *
  have cP := Lib.hid (fun (M : List Tk) (v : Value) (w' : World) (h : Below w.heap.size w w') (hM : M.Sublist L) (h1 : (textOf M).length < (textOf L).length) (h2 : TS w' v M) =>
    put_ct hV HF v M A cap w' (by have := hM.length_le; omega) (by rw [htx] at h1; omega) (by rw [htx] at h1; omega) (fun t ht => (hfit.2.2 t (hM.subset ht)).1) h2 (hI.keep h h.size) (Nat.le_trans hb h.size) (hE.on (h.mono hb)))
  have hPl := Lib.hid (fun (M : List Tk) (r : Bs) (h : putG (fillF d V) V M = (r, true)) => putG_true hVl h)
  generalize putG (fillF d V) V = P at *
  have hz : ¬ (400 : Int) < ((bs s).size : Int) := by rw [bs_size]; omega
  have HT := Lib.hid (show (textOf L).length ≤ 400 by rw [htx]; exact h4)
  have HFit := Lib.hid hfit
  have hLn : L.length ≤ 400 := by omega
  generalize hR : fillG P L [] = R
  have HR := Lib.hid hR
  clear hR hfit htx hfew HF hI hE hV hVl hs h4 hb
  go_enter Tryd.func8, Tryd.ntmps8
  go_wp2_with (go_at_call 12; (with_reducible refine (cC.out _ (Below.refl _ _)).mono ?_); rintro e W1 ⟨⟨A1, c1, rfl, hc1, hr1⟩, hb1⟩; have HB1 := Lib.hid hb1; have HL := Lib.hid hr1; clear hb1 hr1)
  clear hz
  go_loopw [8] (fun x wr => FillRel P L R W1 x wr) (fun x _ => L.length - (intOf x).toNat)
  case atStart => exact ⟨0, [], Nat.zero_le _, rfl, HR.out, by simp, IsB.new W1 _ (Nat.le_refl _), (Below.refl _ _).alloc (Nat.le_refl _) _⟩
  case round =>
    obtain ⟨i, out, hil, rfl, hinv, hol, hib, hbel⟩ := hrel
    have HInv := Lib.hid hinv
    have HIb := Lib.hid hib
    have HBl := Lib.hid hbel
    have HBw := Lib.hid (HB1.out.trans (hbel.mono HB1.out.size))
    have Hol := Lib.hid hol
    have hol2 : out.length ≤ 800 := by have := text_part (L := L) i; have := HT.out; omega
    clear hinv hib hol HR
    by_cases hlt : i < L.length
    · have hlt' : (i : Int) < (L.length : Int) := by omega
      have hrd := HL.out.keep hbel hbel.size
      obtain ⟨tb, off, t, rfl, htb, hd, e0, e1, e2, e3⟩ := TRd.tok hrd hlt
      have hcons : L.drop i = t :: L.drop (i + 1) := drop_at hd
      have hft := HFit.out.2.2 t (List.mem_of_getElem? hd)
      have Hst := Lib.hid (show (textOf (L.take (i + 1))).length = (textOf (L.take i)).length + t.raw.length by rw [text_step hd, List.length_append])
      have cVt := Lib.hid (fun w' h => cV.out t hft.2.2 w' h)
      have HMid := Lib.hid (fun n => text_mid (n := n) hd hft.1)
      have hrl : t.raw.length ≤ 400 := by have := Hst.out; have := text_part (L := L) (i + 1); have := HT.out; omega
      cases hv : isVarP t
      · have HNew := Lib.hid (show fillG P (L.drop (i + 1)) (out ++ t.raw) = R by rw [← HInv.out, hcons, fillG_other hv])
        rw [hv] at cVt
        obtain ⟨tk, tr, tv, tn⟩ := t
        simp only [Tk.cells] at e0 e1 e2 e3 hrl cVt HNew Hst
        clear hbel hrd hcons hft hd hv HMid
        go_wp2_with (first
          | (go_at_call 13; (with_reducible refine (cVt.out _ HBw.out).mono ?_); rintro e W2 ⟨rfl, hb2⟩; have HI2 := Lib.hid (HIb.out.on hb2); have HB2 := Lib.hid (HBl.out.trans (hb2.mono HBl.out.size)); obtain ⟨f0, f1, f2, f3⟩ := tok_on (w := wr) hb2 htb e0 e1 e2 e3; clear hb2 e0 e1 e2 e3)
          | (go_at_call 14; (with_reducible refine (writeString_ct W1.heap.size W1.heap.size out (bs tr) _ HI2.out (by rw [bs_size]; omega) HB2.out.size).mono ?_); rintro e W3 ⟨rfl, hi3, hb3⟩; have HI3 := Lib.hid hi3; have HB3 := Lib.hid (HB2.out.trans hb3); clear hi3 hb3 f0 f1 f2 f3))
        go_roundw
        case rel => exact ⟨i + 1, out ++ tr, by omega, by go_num, HNew.out, by rw [Hst.out, List.length_append]; have := Hol.out; omega, HI3.out, HB3.out⟩
        case measure => simp [intOf]; omega
      · have ho := var_opens hv
        have hbd := blkLen_bd t (L.drop (i + 1))
        rw [List.length_drop] at hbd
        have hcl : (blkP [] (L.drop i) 0).getD 0 = if blkOk t (L.drop (i + 1)) = true then blkLen t (L.drop (i + 1)) else 0 := by rw [hcons]; exact closed_is ho
        have hfs : Fit (L.drop i) := HFit.out.sub (List.drop_sublist _ _)
        have cK := Lib.hid (fun (w' : World) (h : Below W1.heap.size W1 w') => closed_ct (addrAt 4 (some ⟨tb, off, none⟩) c1 i) (c1 - i) (L.drop i) w' hfs.1 (by rw [List.length_drop]; exact rd_from (HL.out.keep h h.size) hc1 hil) (fun x hx => ⟨(hfs.2.2 x hx).1, (hfs.2.2 x hx).2.1⟩) (fun x hx => by rw [hcons] at hx; simp at hx; subst hx; exact ho))
        rw [hcl, List.length_drop] at cK
        have hsl := fun w => slice_from (P := Tryd.prog) (k := 4) Tryd.underlying36 Tryd.sizeOf43 (some ⟨tb, off, none⟩) L.length c1 (i : Int) (by omega) (by omega) w
        simp only [Int.toNat_natCast] at hsl
        rw [hv] at cVt
        cases hok : blkOk t (L.drop (i + 1))
        · have HFin := Lib.hid (show R = ([], false) by rw [← HInv.out, hcons, fillG_open hv hok])
          rw [hok] at cK
          simp only [Bool.false_eq_true, if_false] at cK
          obtain ⟨tk, tr, tv, tn⟩ := t
          simp only [Tk.cells] at e0 e1 e2 e3 cVt
          clear hbel hrd hcons hft hd hv HMid hcl hfs hbd ho hok hrl
          go_wp2_with (first
            | (go_at_call 13; (with_reducible refine (cVt.out _ HBw.out).mono ?_); rintro e W2 ⟨rfl, hb2⟩; have HI2 := Lib.hid (HIb.out.on hb2); have HB2 := Lib.hid (HBl.out.trans (hb2.mono HBl.out.size)); clear hb2 e0 e1 e2 e3)
            | (go_at_call 15; (with_reducible refine (cK.out _ HB2.out).mono ?_); rintro e W3 ⟨rfl, hb3⟩; have HB3 := Lib.hid (HB2.out.trans (hb3.mono HB2.out.size)); clear hb3))
          go_ret2
          exact ⟨by rw [HFin.out]; rfl, HB1.out.trans (HB3.out.mono HB1.out.size)⟩
        · have h2 := blk_too hok
          rw [hok] at cK
          simp only [if_true] at cK
          generalize hn : blkLen t (L.drop (i + 1)) = n at *
          have hn0 : ((n : Int) == 0) = false := by simp; omega
          have hnl : (n : Int) ≤ 400 := by omega
          have q1 : IntKind.i64.wrap ((i : Int) + 1) = (i : Int) + 1 := IntWalk.i64_in _ (by omega)
          have q2 : IntKind.i64.wrap ((i : Int) + (n : Int)) = (i : Int) + (n : Int) := IntWalk.i64_in _ (by omega)
          have q3 : IntKind.i64.wrap ((i : Int) + (n : Int) - 1) = (i : Int) + (n : Int) - 1 := IntWalk.i64_in _ (by omega)
          have hsb := fun w => slice_both (P := Tryd.prog) (k := 4) Tryd.underlying36 Tryd.sizeOf43 (some ⟨tb, off, none⟩) L.length c1 ((i : Int) + 1) ((i : Int) + (n : Int) - 1) (by omega) (by omega) (by omega) w
          simp only [show ((i : Int) + 1).toNat = i + 1 by omega, show ((i : Int) + (n : Int) - 1).toNat = i + n - 1 by omega, show i + n - 1 - (i + 1) = n - 2 by omega] at hsb
          have hmid : ((t :: L.drop (i + 1)).take (n - 1)).drop 1 = (L.drop (i + 1)).take (n - 2) := mid_is h2
          have HTs := Lib.hid (fun (w' : World) (h : Below W1.heap.size W1 w') => ts_cut (HL.out.keep h h.size) hc1 (i := i + 1) (m := n - 2) (by omega))
          have hsub : ((L.drop (i + 1)).take (n - 2)).Sublist L := (List.take_sublist _ _).trans (List.drop_sublist _ _)
          have cPm := Lib.hid (fun (w' : World) (h : Below W1.heap.size W1 w') => cP.out ((L.drop (i + 1)).take (n - 2)) _ w' (HB1.out.trans (h.mono HB1.out.size)) hsub (HMid.out (n - 2)) (HTs.out w' h))
          obtain ⟨r, is, hp⟩ : ∃ r is, P ((L.drop (i + 1)).take (n - 2)) = (r, is) := ⟨_, _, rfl⟩
          rw [hp] at cPm
          rw [← hmid] at hp
          have hdn : (t :: L.drop (i + 1)).drop n = L.drop (i + n) := by rw [← hcons, List.drop_drop]
          have hst2 : (textOf (L.take (i + n))).length ≤ 400 := by have := text_part (L := L) (i + n); have := HT.out; omega
          cases is
          · have HFin := Lib.hid (show R = ([], false) by rw [← HInv.out, hcons, fillG_none hv hok (by rw [hn]; exact hp)])
            obtain ⟨tk, tr, tv, tn⟩ := t
            simp only [Tk.cells] at e0 e1 e2 e3 cVt
            clear hbel hrd hcons hft hd hv HMid hcl hfs hbd ho hok hrl hn hp hmid hsub hdn h2
            go_wp2_with (first
              | (go_at_call 13; (with_reducible refine (cVt.out _ HBw.out).mono ?_); rintro e W2 ⟨rfl, hb2⟩; have HI2 := Lib.hid (HIb.out.on hb2); have HB2 := Lib.hid (HBl.out.trans (hb2.mono HBl.out.size)); clear hb2 e0 e1 e2 e3)
              | (go_at_call 15; (with_reducible refine (cK.out _ HB2.out).mono ?_); rintro e W3 ⟨rfl, hb3⟩; have HB3 := Lib.hid (HB2.out.trans (hb3.mono HB2.out.size)); have HI3 := Lib.hid (HI2.out.on hb3); clear hb3)
              | (go_at_call 16; (with_reducible refine (cPm.out _ HB3.out).mono ?_); rintro e W4 ⟨rfl, hb4⟩; have HB4 := Lib.hid (HB3.out.trans (hb4.mono HB3.out.size)); clear hb4))
            go_ret2
            exact ⟨by rw [HFin.out]; rfl, HB1.out.trans (HB4.out.mono HB1.out.size)⟩
          · have hrlen : r.length ≤ 140737488351232 := hPl.out _ r hp
            by_cases hmu : 400 < (out ++ r).length
            · have HFin := Lib.hid (show R = ([], false) by rw [← HInv.out, hcons, fillG_much hv hok (by rw [hn]; exact hp) hmu])
              have hmz : (400 : Int) < (out.length : Int) + (r.length : Int) := by rw [List.length_append] at hmu; omega
              obtain ⟨tk, tr, tv, tn⟩ := t
              simp only [Tk.cells] at e0 e1 e2 e3 cVt
              clear hbel hrd hcons hft hd hv HMid hcl hfs hbd ho hok hrl hn hp hmid hsub hdn h2 hmu
              go_wp2_with (first
                | (go_at_call 13; (with_reducible refine (cVt.out _ HBw.out).mono ?_); rintro e W2 ⟨rfl, hb2⟩; have HI2 := Lib.hid (HIb.out.on hb2); have HB2 := Lib.hid (HBl.out.trans (hb2.mono HBl.out.size)); clear hb2 e0 e1 e2 e3)
                | (go_at_call 15; (with_reducible refine (cK.out _ HB2.out).mono ?_); rintro e W3 ⟨rfl, hb3⟩; have HB3 := Lib.hid (HB2.out.trans (hb3.mono HB2.out.size)); have HI3 := Lib.hid (HI2.out.on hb3); clear hb3)
                | (go_at_call 16; (with_reducible refine (cPm.out _ HB3.out).mono ?_); rintro e W4 ⟨rfl, hb4⟩; have HB4 := Lib.hid (HB3.out.trans (hb4.mono HB3.out.size)); have HI4 := Lib.hid (HI3.out.on hb4); clear hb4)
                | (go_at_call 14; (with_reducible refine (writeString_ct W1.heap.size W1.heap.size out (bs r) _ HI4.out (by rw [bs_size]; omega) HB4.out.size).mono ?_); rintro e W5 ⟨rfl, hi5, hb5⟩; have HI5 := Lib.hid (show IsB W1.heap.size W1.heap.size (out ++ r) W5 from hi5); have HB5 := Lib.hid (HB4.out.trans hb5); clear hi5 hb5)
                | (go_at_call 17; (with_reducible refine (len_ct W1.heap.size W1.heap.size (out ++ r) _ HI5.out).mono ?_); rintro e W6 ⟨rfl, rfl⟩))
              go_ret2
              exact ⟨by rw [HFin.out]; rfl, HB1.out.trans (HB5.out.mono HB1.out.size)⟩
            · have HNew := Lib.hid (show fillG P (L.drop (i + n)) (out ++ r) = R by rw [← HInv.out, hcons, fillG_put hv hok (by rw [hn]; exact hp) hmu, hn, hdn])
              have hmz : ¬ (400 : Int) < (out.length : Int) + (r.length : Int) := by rw [List.length_append] at hmu; omega
              have Hmu := Lib.hid hmu
              obtain ⟨tk, tr, tv, tn⟩ := t
              simp only [Tk.cells] at e0 e1 e2 e3 cVt
              clear hbel hrd hcons hft hd hv HMid hcl hfs ho hok hrl hn hp hmid hsub hdn hmu
              go_wp2_with (first
                | (go_at_call 13; (with_reducible refine (cVt.out _ HBw.out).mono ?_); rintro e W2 ⟨rfl, hb2⟩; have HI2 := Lib.hid (HIb.out.on hb2); have HB2 := Lib.hid (HBl.out.trans (hb2.mono HBl.out.size)); clear hb2 e0 e1 e2 e3)
                | (go_at_call 15; (with_reducible refine (cK.out _ HB2.out).mono ?_); rintro e W3 ⟨rfl, hb3⟩; have HB3 := Lib.hid (HB2.out.trans (hb3.mono HB2.out.size)); have HI3 := Lib.hid (HI2.out.on hb3); clear hb3)
                | (go_at_call 16; (with_reducible refine (cPm.out _ HB3.out).mono ?_); rintro e W4 ⟨rfl, hb4⟩; have HB4 := Lib.hid (HB3.out.trans (hb4.mono HB3.out.size)); have HI4 := Lib.hid (HI3.out.on hb4); clear hb4)
                | (go_at_call 14; (with_reducible refine (writeString_ct W1.heap.size W1.heap.size out (bs r) _ HI4.out (by rw [bs_size]; omega) HB4.out.size).mono ?_); rintro e W5 ⟨rfl, hi5, hb5⟩; have HI5 := Lib.hid (show IsB W1.heap.size W1.heap.size (out ++ r) W5 from hi5); have HB5 := Lib.hid (HB4.out.trans hb5); clear hi5 hb5)
                | (go_at_call 17; (with_reducible refine (len_ct W1.heap.size W1.heap.size (out ++ r) _ HI5.out).mono ?_); rintro e W6 ⟨rfl, rfl⟩))
              go_roundw
              case rel => exact ⟨i + n, out ++ r, by omega, by go_num, HNew.out, by have := Hmu.out; omega, HI5.out, HB5.out⟩
              case measure => simp [intOf]; omega
    · obtain rfl : i = L.length := by omega
      have HFin := Lib.hid (show R = (out, decide ((out.length : Int) ≤ 400)) by
        rw [← HInv.out, List.drop_length, fillG_nil, show decide ((out.length : Int) ≤ 400) = decide (out.length ≤ 400) by rw [decide_eq_decide]; omega])
      clear hbel
      go_wp2_with (first
        | (go_at_call 18; (with_reducible refine (string_f _ _ out _ HIb.out HBl.out.size).mono ?_); rintro e W2 ⟨rfl, hi2, hb2⟩; have HI2 := Lib.hid hi2; have HB2 := Lib.hid (HBl.out.trans hb2); clear hb2 hi2)
        | (go_at_call 17; (with_reducible refine (len_f _ _ out _ HI2.out).mono ?_); rintro e W3 ⟨rfl, rfl⟩))
      go_ret2
      exact ⟨by rw [HFin.out]; rfl, HB1.out.trans (HB2.out.mono HB1.out.size)⟩

theorem fill_at {b : Nat} {V : List Vr} (hV : V.length ≤ 1000000) (hVl : ∀ p ∈ V, p.2.length ≤ 140737488351232) : ∀ d, FillAt b d V
  | 0 => fun s A cap w h => absurd h (Nat.not_lt_zero _)
  | d + 1 => fill_step hV hVl (fill_at hV hVl d)

set_option maxRecDepth 100000 in
theorem fill_ct {b : Nat} {V : List Vr} (hV : V.length ≤ 1000000) (hVl : ∀ p ∈ V, p.2.length ≤ 140737488351232) (s : Bs) (hsz : s.length ≤ 140737488355328) (A : Option Addr) (cap : Nat) (w : World) (hI : VRd w w.heap.size A V.length V) (hb : b ≤ w.heap.size) (hE : VEnv b w) :
    Calls Tryd.prog 8 #[.string (bs s), .slice A V.length cap] w fun e w' => e = .returned (.tuple #[.string (bs (fillP V s).1), .bool (fillP V s).2]) ∧ Below w.heap.size w w' := by
  by_cases h4 : s.length ≤ 400
  · exact fill_at hV hVl 401 s A cap w (by omega) h4 hI hb hE
  · rw [fill_large (by omega)]
    have hz : (400 : Int) < ((bs s).size : Int) := by rw [bs_size]; omega
    clear hI hE hb hV hVl h4
    go_enter Tryd.func8, Tryd.ntmps8
    go_wp2_with fail
    go_ret2
    exact ⟨rfl, Below.refl _ _⟩

end Go.Proofs.YtmjbaimccbkmpaaDoor.vrs

namespace Go.Proofs.YtmjbaimccbkmpaaDoor.tok
open Go.RowKit Go.Proofs.YtmjbaimccbkmpaaDoor.base
set_option linter.unusedVariables false

def nameE : Nat → Bs → Bs × Nat
  | 0, _ => ([], 0)
  | n + 1, c :: d :: r => if escP (c :: d :: r) then (match nameE n r with | (a, b) => (d :: a, b + 2)) else if signI (nv c) then (match nameE n (d :: r) with | (a, b) => (c :: a, b + 1)) else ([], 0)
  | _ + 1, [c] => if signI (nv c) then ([c], 1) else ([], 0)
  | _ + 1, [] => ([], 0)
theorem nameE_eq : ∀ (n : Nat) (l : Bs), l.length ≤ n → nameE n l = nameP l
  | 0, l, h => by
    obtain rfl := List.eq_nil_of_length_eq_zero (Nat.le_zero.1 h)
    rw [nameP]; rfl
  | n + 1, [], _ => by rw [nameP]; rfl
  | n + 1, [c], _ => by rw [nameP]; rfl
  | n + 1, c :: d :: r, h => by
    have h1 := nameE_eq n r (by simp at h; omega)
    have h2 := nameE_eq n (d :: r) (by simp at h ⊢; omega)
    rw [nameP, nameE, h1, h2]
def textE (q : UInt8) : Nat → Bs → Int × Nat × Bs
  | 0, _ => (6, 0, [])
  | _ + 1, [] => (6, 0, [])
  | _ + 1, [c] => if nv c = nv q then (5, 1, []) else if nv c = 10 then (6, 0, []) else (6, 1, [c])
  | n + 1, c :: d :: r => if nv c = nv q then (5, 1, []) else if nv c = 10 then (6, 0, []) else
      if nv c = 92 then (match textE q n r with | (a, b, x) => (a, b + 2, d :: x)) else (match textE q n (d :: r) with | (a, b, x) => (a, b + 1, c :: x))
theorem textE_eq (q : UInt8) : ∀ (n : Nat) (l : Bs), l.length ≤ n → textE q n l = textR q l
  | 0, l, h => by
    obtain rfl := List.eq_nil_of_length_eq_zero (Nat.le_zero.1 h)
    rw [textR]; rfl
  | n + 1, [], _ => by rw [textR]; rfl
  | n + 1, [c], _ => by rw [textR]; rfl
  | n + 1, c :: d :: r, h => by
    have h1 := textE_eq q n r (by simp at h; omega)
    have h2 := textE_eq q n (d :: r) (by simp at h ⊢; omega)
    rw [textR, textE, h1, h2]
def namedE (k : Int) (l : Bs) (a : Nat) : Tk := match nameE l.length (l.drop a) with | (x, m) => ⟨k, l.take (a + m), x, 0⟩
theorem namedE_eq (k : Int) (l : Bs) (a : Nat) : namedE k l a = namedP k l a := by
  unfold namedE namedP
  rw [nameE_eq l.length (l.drop a) (by rw [List.length_drop]; omega)]
def textEP : Bs → Tk
  | [] => ⟨6, [], [], 0⟩
  | q :: r => match textE q r.length r with | (a, b, x) => ⟨a, (q :: r).take (1 + b), if a = 5 then x else [], 0⟩
theorem textEP_eq : ∀ l, textEP l = textP l
  | [] => rfl
  | q :: r => by
    simp only [textEP, textP]
    rw [textE_eq q r.length r (Nat.le_refl _)]
def numTkE (l : Bs) (num : Int) (n : Nat) : Tk :=
  if Lib.hasPrefix (l.drop n) [37] then ⟨7, l.take (n + 1), [37], num⟩
  else if beginsP (l.drop n) then (match nameE l.length (l.drop n) with | (x, m) => ⟨7, l.take (n + m), x.map lowB, num⟩)
  else ⟨7, l.take n, [], num⟩
theorem numTkE_eq (l : Bs) (num : Int) (n : Nat) : numTkE l num n = numTkP l num n := by
  unfold numTkE numTkP
  rw [nameE_eq l.length (l.drop n) (by rw [List.length_drop]; omega)]
def wordE (l : Bs) : Tk := match namedE 1 l 0 with
  | ⟨k, r, v, n⟩ => if Lib.hasPrefix (l.drop r.length) [40] then ⟨2, l.take (r.length + 1), v, n⟩ else ⟨k, r, v, n⟩
theorem wordE_eq (l : Bs) : wordE l = wordP l := by
  unfold wordE wordP
  rw [namedE_eq]
def firstE (l : Bs) : Tk :=
  if 0 < spaceP l then ⟨8, l.take (spaceP l), [], 0⟩ else
  if Lib.hasPrefix l [47, 42] then noteP l else
  if quoteP l then textEP l else
  if hashP l then namedE 4 l 1 else
  if atP l then namedE 3 l 1 else
  if 0 < (numberP l).2 then numTkE l (numberP l).1 (numberP l).2 else
  if beginsP l then wordE l else ⟨oneK l, l.take 1, [], 0⟩
theorem firstE_eq (l : Bs) : firstE l = firstP l := by
  unfold firstE firstP
  rw [textEP_eq, namedE_eq, namedE_eq, numTkE_eq, wordE_eq]
def cutE : Nat → Bs → List Tk
  | 0, _ => []
  | n + 1, l => match l with
    | [] => []
    | c :: r => match firstE (c :: r) with
      | ⟨k, w, v, m⟩ => ⟨k, w, v, m⟩ :: cutE n ((c :: r).drop w.length)
theorem cutE_eq : ∀ (n : Nat) (l : Bs), l.length ≤ n → cutE n l = cutP l
  | 0, l, h => by
    obtain rfl := List.eq_nil_of_length_eq_zero (Nat.le_zero.1 h)
    rw [cutP_nil]; rfl
  | n + 1, [], _ => by rw [cutP_nil]; rfl
  | n + 1, c :: r, h => by
    have hp := (first_pre (c :: r) (by simp)).2
    have h1 := cutE_eq n ((c :: r).drop (firstP (c :: r)).raw.length) (by rw [List.length_drop]; omega)
    rw [cutP_cons (by simp), ← h1]
    show (match firstE (c :: r) with | ⟨k, w, v, m⟩ => (⟨k, w, v, m⟩ : Tk) :: cutE n ((c :: r).drop w.length)) = _
    rw [firstE_eq]
/-- a text's tokens, computed -/
theorem cut_eval {l : Bs} {L : List Tk} (h : cutE l.length l = L) : cutP l = L := by rw [← cutE_eq l.length l (Nat.le_refl _), h]

end Go.Proofs.YtmjbaimccbkmpaaDoor.tok

namespace Go.Proofs.YtmjbaimccbkmpaaDoor.vrs
open Go.RowKit Go.Proofs.YtmjbaimccbkmpaaDoor.base Go.Proofs.YtmjbaimccbkmpaaDoor.tok Go.Proofs.YtmjbaimccbkmpaaDoor.rul
set_option linter.unusedVariables false

/-- does one text stand in another? -/
def hasT (u : Bs) : Bs → Bool
  | [] => u.isEmpty
  | c :: r => u.isPrefixOf (c :: r) || hasT u r
theorem hasT_short {u : Bs} : ∀ {l : Bs}, l.length < u.length → hasT u l = false
  | [], h => by cases u with | nil => simp at h | cons => rfl
  | c :: r, h => by
    rw [hasT, hasT_short (l := r) (by simp at h; omega), Bool.or_false]
    cases hp : u.isPrefixOf (c :: r) with
    | false => rfl
    | true => have := (List.isPrefixOf_iff_prefix.1 hp).length_le; simp at this h; omega
theorem hasT_step {u l : Bs} {i : Nat} (hu : u ≠ []) (hi : i < l.length) : hasT u (l.drop i) = (decide ((l.drop i).take u.length = u) || hasT u (l.drop (i + 1))) := by
  rw [List.drop_eq_getElem_cons hi, hasT]
  congr 1
  rw [Bool.eq_iff_iff, decide_eq_true_eq, List.isPrefixOf_iff_prefix]
  constructor
  · rintro ⟨r, hr⟩
    rw [← hr, List.take_left]
  · intro h
    have h2 := List.take_prefix u.length (l[i] :: l.drop (i + 1))
    rw [h] at h2
    exact h2

theorem hasT_one {c : UInt8} : ∀ {l : Bs}, hasT [c] l = decide (c ∈ l)
  | [] => rfl
  | d :: r => by
    rw [hasT, hasT_one (l := r)]
    by_cases h : c = d
    · subst h; simp [List.isPrefixOf]
    · have : (c == d) = false := by simpa using h
      simp [List.isPrefixOf, h]

theorem ex_take (l : Bs) (i n : Nat) : ((bs l).extract i (i + n)).toList = (l.drop i).take n := by
  have h : (bs l).extract i (i + n) = bs ((l.drop i).take n) := by
    have h2 := take_extract (bs l) i n
    generalize (bs l).extract i (i + n) = x at *
    obtain ⟨⟨x⟩⟩ := x
    exact congrArg bs h2
  rw [h, bs_toList]

set_option maxRecDepth 100000 in
set_option maxHeartbeats 4000000 in
theorem hasText_ct (l u : Bs) (hu : u ≠ []) (hl : l.length ≤ 140737488355328) (hul : u.length ≤ 1000) (w : World) :
    Calls Tryd.prog 9 #[.string (bs l), .string (bs u)] w fun e w' => e = .returned (.bool (hasT u l)) ∧ Below w.heap.size w w' := by
  have hu0 : 0 < u.length := List.length_pos_iff.2 hu
  have HU := Lib.hid hu
  generalize hR : hasT u l = R
  have HR := Lib.hid hR
  have hzu : (bs u).size = u.length := rfl
  have hzl : (bs l).size = l.length := rfl
  clear hR hu
  go_enter Tryd.func9, Tryd.ntmps9
  go_wp2_with fail
  go_loopw [5] (fun x wr => ∃ i : Nat, x = .int .i64 i ∧ i ≤ l.length ∧ hasT u (l.drop i) = R ∧ Below w.heap.size w wr) (fun x _ => l.length + 1 - (intOf x).toNat)
  case atStart => exact ⟨0, rfl, Nat.zero_le _, HR.out, Below.refl _ _⟩
  case round =>
    obtain ⟨i, rfl, hil, hinv, hbel⟩ := hrel
    have HInv := Lib.hid hinv
    have HB := Lib.hid hbel
    clear hinv hbel HR
    by_cases hlt : i + u.length ≤ l.length
    · have hz : (i : Int) + ((bs u).size : Int) ≤ ((bs l).size : Int) := by rw [hzu, hzl]; omega
      have hz0 : (0 : Int) ≤ (i : Int) := by omega
      have hz1 : (i : Int) ≤ (i : Int) + ((bs u).size : Int) := by omega
      have q1 : IntKind.i64.wrap ((i : Int) + ((bs u).size : Int)) = (i : Int) + ((bs u).size : Int) := IntWalk.i64_in _ (by rw [hzu]; omega)
      have ht1 : ((i : Int) + ((bs u).size : Int)).toNat = i + u.length := by rw [hzu]; omega
      have hstep := hasT_step (l := l) (i := i) HU.out (by omega)
      by_cases hp : (l.drop i).take u.length = u
      · have b1 : (((bs l).extract i (i + u.length)).toList == (bs u).toList) = true := by rw [ex_take, bs_toList, hp]; simp
        have HFin := Lib.hid (show R = true by rw [← HInv.out, hstep, decide_eq_true hp]; rfl)
        clear hstep hp
        go_wp2
        go_ret
        exact ⟨by rw [HFin.out]; rfl, HB.out⟩
      · have b1 : (((bs l).extract i (i + u.length)).toList == (bs u).toList) = false := by rw [ex_take, bs_toList]; simpa using hp
        have HNew := Lib.hid (show hasT u (l.drop (i + 1)) = R by rw [← HInv.out, hstep, decide_eq_false hp]; rfl)
        clear hstep hp
        go_wp2
        go_roundw
        case rel => exact ⟨i + 1, by go_num, by omega, HNew.out, HB.out⟩
        case measure => simp [intOf]; omega
    · have hz : ¬ (i : Int) + ((bs u).size : Int) ≤ ((bs l).size : Int) := by rw [hzu, hzl]; omega
      have q1 : IntKind.i64.wrap ((i : Int) + ((bs u).size : Int)) = (i : Int) + ((bs u).size : Int) := IntWalk.i64_in _ (by rw [hzu]; omega)
      have HFin := Lib.hid (show R = false by rw [← HInv.out, hasT_short (by rw [List.length_drop]; omega)])
      go_wp2
      go_ret
      exact ⟨by rw [HFin.out]; rfl, HB.out⟩

end Go.Proofs.YtmjbaimccbkmpaaDoor.vrs

namespace Go.Proofs.YtmjbaimccbkmpaaDoor.vrs
open Go.RowKit Go.Proofs.YtmjbaimccbkmpaaDoor.base Go.Proofs.YtmjbaimccbkmpaaDoor.tok Go.Proofs.YtmjbaimccbkmpaaDoor.rul
set_option linter.unusedVariables false

/-- a var(--x, b) -/
def putT : Bs := [97, 32, 118, 97, 114, 40, 45, 45, 120, 44, 32, 98, 41]
def putL : List Tk := [⟨1, [97], [97], 0⟩, ⟨8, [32], [], 0⟩, ⟨2, [118, 97, 114, 40], [118, 97, 114], 0⟩, ⟨1, [45, 45, 120], [45, 45, 120], 0⟩, ⟨12, [44], [], 0⟩, ⟨8, [32], [], 0⟩, ⟨1, [98], [98], 0⟩, ⟨11, [41], [], 0⟩]
set_option maxRecDepth 100000 in
theorem cut_put : cutP putT = putL := cut_eval (by decide +kernel)
/-- VAR( --a /**/ ) -/
def askT : Bs := [86, 65, 82, 40, 32, 45, 45, 97, 32, 47, 42, 42, 47, 32, 41]
def askL : List Tk := [⟨2, [86, 65, 82, 40], [86, 65, 82], 0⟩, ⟨8, [32], [], 0⟩, ⟨1, [45, 45, 97], [45, 45, 97], 0⟩, ⟨8, [32], [], 0⟩, ⟨9, [47, 42, 42, 47], [], 0⟩, ⟨8, [32], [], 0⟩, ⟨11, [41], [], 0⟩]
set_option maxRecDepth 100000 in
theorem cut_ask : cutP askT = askL := cut_eval (by decide +kernel)

theorem put_fact : fillP [([45, 45, 120], [99])] putT = ([97, 32, 99], true) := by
  unfold fillP
  show (if 400 < putT.length then _ else _) = _
  rw [if_neg (by decide), cut_put]
  unfold putL
  rw [fillG_other (by decide), fillG_other (by decide)]
  have hb : blkLen ⟨2, [118, 97, 114, 40], [118, 97, 114], 0⟩ [⟨1, [45, 45, 120], [45, 45, 120], 0⟩, ⟨12, [44], [], 0⟩, ⟨8, [32], [], 0⟩, ⟨1, [98], [98], 0⟩, ⟨11, [41], [], 0⟩] = 6 := by decide
  rw [fillG_put (s := [99]) (by decide) (by decide) (by rw [hb]; unfold putG; rfl) (by decide), hb]
  exact fillG_nil _ _
def wantP (n s v : Bs) : Bs := if n = [45, 45, 97] then s else v
theorem ask_last (n s v : Bs) : lastP [([45, 45, 97], v), (n, s)] [45, 45, 97] = some (wantP n s v) := by
  unfold lastP wantP
  by_cases h : n = [45, 45, 97]
  · subst h; rfl
  · rw [if_neg h]
    simp [h]
theorem ask_fact (n s v : Bs) : fillP [([45, 45, 97], v), (n, s)] askT = if (wantP n s v).length ≤ 400 then (wantP n s v, true) else ([], false) := by
  unfold fillP
  show (if 400 < askT.length then _ else _) = _
  rw [if_neg (by decide), cut_ask]
  unfold askL
  have hb : blkLen ⟨2, [86, 65, 82, 40], [86, 65, 82], 0⟩ [⟨8, [32], [], 0⟩, ⟨1, [45, 45, 97], [45, 45, 97], 0⟩, ⟨8, [32], [], 0⟩, ⟨9, [47, 42, 42, 47], [], 0⟩, ⟨8, [32], [], 0⟩, ⟨11, [41], [], 0⟩] = 7 := by decide
  have hq : askP [⟨8, [32], [], 0⟩, ⟨1, [45, 45, 97], [45, 45, 97], 0⟩, ⟨8, [32], [], 0⟩, ⟨9, [47, 42, 42, 47], [], 0⟩, ⟨8, [32], [], 0⟩] = some ([45, 45, 97], none) := by rfl
  have hp : putG (fillF 400 [([45, 45, 97], v), (n, s)]) [([45, 45, 97], v), (n, s)] [⟨8, [32], [], 0⟩, ⟨1, [45, 45, 97], [45, 45, 97], 0⟩, ⟨8, [32], [], 0⟩, ⟨9, [47, 42, 42, 47], [], 0⟩, ⟨8, [32], [], 0⟩] = (wantP n s v, true) := by
    unfold putG
    rw [hq]
    simp only
    rw [ask_last]
  by_cases h : (wantP n s v).length ≤ 400
  · rw [if_pos h, fillG_put (s := wantP n s v) (by decide) (by decide) (by rw [hb]; exact hp) (by simp; omega), hb]
    show fillG _ [] _ = _
    rw [fillG_nil, List.nil_append, decide_eq_true h]
  · rw [if_neg h, fillG_much (s := wantP n s v) (by decide) (by decide) (by rw [hb]; exact hp) (by simp; omega)]

end Go.Proofs.YtmjbaimccbkmpaaDoor.vrs
