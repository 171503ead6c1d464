/- Contracts and plain law, a bundle: Fold Rul7 RulL0 Med9 Med10 Med12 Med11 Med13 Med14 Med15 Med16. -/
import Derived.ScopeJumps
import Derived.WalkMore
import Derived.Laws.RangeAny
import Derived.Lib.OthersKept
import Derived.Deep.LoopGhost
import Derived.Maps.AppendAt
import Derived.Test.YtmjbaimccbkmpaaGreatDoorBH
import Derived.Test.YtmjbaimccbkmpaaGreatDoorBG

namespace Go.Proofs.YtmjbaimccbkmpaaGreatDoor.base
open Go.RowKit Go.Proofs.YtmjbaimccbkmpaaGreatDoor.tok
set_option linter.unusedVariables false

def Word (T : Bs) : Prop := T.length ≤ 20 ∧ ∀ c ∈ T, 97 ≤ c.toNat ∧ c.toNat ≤ 122 ∧ c.toNat ≠ 107 ∧ c.toNat ≠ 115
theorem or_is (x y : UInt8) (hy : y.toNat < 128) : decide (128 ≤ bits BinOp.or IntKind.u8 (x.toNat : Int) (y.toNat : Int)) = decide (128 ≤ x.toNat) := by
  rw [u8_or_nat _ _ (by have := x.toNat_lt; omega) (by omega)]
  apply decide_eq_decide.2
  have h1 := Nat.left_le_or (n := x.toNat) (m := y.toNat)
  constructor
  · intro h
    rcases Nat.lt_or_ge x.toNat 128 with hx | hx
    · have := Nat.or_lt_two_pow (n := 7) hx hy
      omega
    · exact hx
  · intro h
    omega
theorem fold_letter : ∀ c : Fin 123, 97 ≤ c.val → c.val ≠ 107 → c.val ≠ 115 → foldTab.getD c.val 0 = (c.val : Int) - 32 ∧ foldTab.getD (c.val - 32) 0 = (c.val : Int) := by decide +kernel
theorem fold_drop {l : Bs} {i : Nat} {x : UInt8} (h : l[i]? = some x) : l.drop i = x :: l.drop (i + 1) := by
  obtain ⟨hl, he⟩ := List.getElem?_eq_some_iff.1 h
  rw [List.drop_eq_getElem_cons hl, he]
theorem fold_high {x y : UInt8} (hx : 128 ≤ x.toNat) (hy : y.toNat < 123) (h0 : 97 ≤ y.toNat) : Lib.foldEq x y = false := by
  unfold Lib.foldEq
  exact decide_eq_false (by omega)

theorem below_iter (w : World) (k : Nat) (s : ByteArray) (p B : Nat) (h : B ≤ k) : Below B w (w.iterAt k s p) := by
  refine ⟨rfl, rfl, rfl, by simp [World.iterAt], fun j hj => ?_⟩
  simp only [World.iterAt]
  rw [Array.getElem?_setIfInBounds, if_neg (by omega)]
def lits (U : Nat → Value) : Nat → Nat → List Value
  | 0, _ => []
  | n + 1, k => U k :: lits U n (k + 1)
theorem lits_of (U : Nat → Value) : ∀ (n k : Nat) (l : List Value), l.length = n → (∀ i, i < n → l[i]? = some (U (k + i))) → l = lits U n k
  | 0, k, l, h, _ => List.eq_nil_of_length_eq_zero h
  | n + 1, k, [], h, _ => by cases h
  | n + 1, k, x :: l, h, hx => by
    have h0 := hx 0 (by omega)
    simp at h0
    rw [lits, h0, lits_of U n (k + 1) l (by simpa using h) (fun i hi => by have := hx (i + 1) (by omega); rw [show k + 1 + i = k + (i + 1) by omega]; simpa using this)]
set_option maxRecDepth 100000 in
theorem frame_lit (f : Array Value) (h : f.size = 123) : ∃ U : Nat → Value, f = #[U 0, U 1, U 2, U 3, U 4, U 5, U 6, U 7, U 8, U 9, U 10, U 11, U 12, U 13, U 14, U 15, U 16, U 17, U 18, U 19, U 20, U 21, U 22, U 23, U 24, U 25, U 26, U 27, U 28, U 29, U 30, U 31, U 32, U 33, U 34, U 35, U 36, U 37, U 38, U 39, U 40, U 41, U 42, U 43, U 44, U 45, U 46, U 47, U 48, U 49, U 50, U 51, U 52, U 53, U 54, U 55, U 56, U 57, U 58, U 59, U 60, U 61, U 62, U 63, U 64, U 65, U 66, U 67, U 68, U 69, U 70, U 71, U 72, U 73, U 74, U 75, U 76, U 77, U 78, U 79, U 80, U 81, U 82, U 83, U 84, U 85, U 86, U 87, U 88, U 89, U 90, U 91, U 92, U 93, U 94, U 95, U 96, U 97, U 98, U 99, U 100, U 101, U 102, U 103, U 104, U 105, U 106, U 107, U 108, U 109, U 110, U 111, U 112, U 113, U 114, U 115, U 116, U 117, U 118, U 119, U 120, U 121, U 122] := by
  refine ⟨fun k => f.getD k undef, ?_⟩
  generalize hU : (fun k => f.getD k undef) = U
  have e : f.toList = lits U 123 0 := lits_of U 123 0 f.toList (by simpa using h) (fun i hi => by
    subst hU
    simp [h, hi, Array.getD])
  apply Array.toList_inj.1
  rw [e]
  simp only [lits, Nat.zero_add, Nat.reduceAdd]

end Go.Proofs.YtmjbaimccbkmpaaGreatDoor.base

namespace Go.Proofs.YtmjbaimccbkmpaaGreatDoor.rul
open Go.RowKit Go.Proofs.YtmjbaimccbkmpaaGreatDoor.base Go.Proofs.YtmjbaimccbkmpaaGreatDoor.tok
set_option linter.unusedVariables false

/-- tokens that are few and short -/
def Fit (L : List Tk) : Prop := L.length ≤ 1000000 ∧ (textOf L).length ≤ 1000000 ∧ ∀ t ∈ L, t.raw ≠ [] ∧ t.raw.length ≤ 1000000 ∧ t.val.length ≤ 1000000
theorem text_sub {M L : List Tk} (h : M.Sublist L) : (textOf M).length ≤ (textOf L).length := by
  induction h with
  | slnil => exact Nat.le_refl _
  | cons a _ ih => simp only [textOf, List.flatMap_cons, List.length_append] at ih ⊢; omega
  | cons_cons a _ ih => simp only [textOf, List.flatMap_cons, List.length_append] at ih ⊢; omega
theorem Fit.sub {M L : List Tk} (h : Fit L) (hs : M.Sublist L) : Fit M :=
  ⟨Nat.le_trans hs.length_le h.1, Nat.le_trans (text_sub hs) h.2.1, fun t ht => h.2.2 t (hs.subset ht)⟩
theorem Fit.raws {L : List Tk} (h : Fit L) : ∀ t ∈ L, t.raw ≠ [] ∧ t.raw.length ≤ 1000000 := fun t ht => ⟨(h.2.2 t ht).1, (h.2.2 t ht).2.1⟩
theorem end_sub (L : List Tk) : (endP L).Sublist L := by
  unfold endP
  have := (List.dropWhile_sublist silP (l := L.reverse)).reverse
  rwa [List.reverse_reverse] at this
theorem solid_sub (L : List Tk) : (solidP L).Sublist L := (end_sub _).trans (List.dropWhile_sublist _)

/-! ### a value without what says that it is important -/
def impW : Bs := [105, 109, 112, 111, 114, 116, 97, 110, 116]
def impM (M : List Tk) : List Tk × Bool :=
  match M.getLast? with
  | none => (M, false)
  | some t => if M.length < 2 then (M, false) else if t.k = 1 ∧ Lib.equalFold t.val impW = true then
      (match (solidP M.dropLast).getLast? with
      | none => (M, false)
      | some m => if markP m then (solidP (solidP M.dropLast).dropLast, true) else (M, false))
    else (M, false)
def impP (L : List Tk) : List Tk × Bool := impM (solidP L)
theorem imp_few {M : List Tk} (h : M.length < 2) : impM M = (M, false) := by
  unfold impM
  split
  · rfl
  · rw [if_pos h]
theorem imp_snoc (K : List Tk) (t : Tk) (h : 0 < K.length) : impM (K ++ [t]) = if t.k = 1 ∧ Lib.equalFold t.val impW = true then
      (match (solidP K).getLast? with
      | none => (K ++ [t], false)
      | some m => if markP m then (solidP (solidP K).dropLast, true) else (K ++ [t], false))
    else (K ++ [t], false) := by
  unfold impM
  simp only [List.getLast?_append, List.getLast?_singleton, Option.some_or, List.dropLast_concat]
  rw [if_neg (by simp; omega)]

theorem word_imp : Word impW := by
  refine ⟨by decide, ?_⟩
  intro c hc
  revert c
  decide
end Go.Proofs.YtmjbaimccbkmpaaGreatDoor.rul

namespace Go.Proofs.YtmjbaimccbkmpaaGreatDoor.rul
open Go.RowKit Go.Proofs.YtmjbaimccbkmpaaGreatDoor.base Go.Proofs.YtmjbaimccbkmpaaGreatDoor.tok
set_option linter.unusedVariables false

theorem textR_val (q : UInt8) : ∀ (n : Nat) (l : Bs), l.length ≤ n → (textR q l).2.2.length ≤ l.length
  | 0, l, h => by
    obtain rfl := List.eq_nil_of_length_eq_zero (Nat.le_zero.1 h)
    simp [textR]
  | n + 1, [], h => by simp [textR]
  | n + 1, [c], h => by
    rw [textR]
    (repeat' split) <;> simp
  | n + 1, c :: d :: r, h => by
    have h1 := textR_val q n (d :: r) (by simp at h ⊢; omega)
    have h2 := textR_val q n r (by simp at h; omega)
    rw [textR]
    simp only [List.length_cons] at h1 h2 ⊢
    (repeat' split) <;> simp <;> omega
theorem first_val (l : Bs) (h0 : l ≠ []) : (firstP l).val.length ≤ l.length := by
  have hl : 0 < l.length := List.length_pos_iff.2 h0
  have hn : ∀ a, (nameP (l.drop a)).1.length ≤ l.length := fun a => Nat.le_trans (nameP_val _) (by rw [List.length_drop]; omega)
  unfold firstP
  split
  · simp
  · split
    · unfold noteP; simp
    · split
      · unfold textP
        cases l with
        | nil => simp
        | cons q r =>
          simp only
          split
          · have := textR_val q _ r (Nat.le_refl _); simp; omega
          · simp
      · split
        · exact hn 1
        · split
          · exact hn 1
          · split
            · unfold numTkP
              split
              · simp; omega
              · split
                · simp only [List.length_map]; exact hn _
                · simp
            · split
              · unfold wordP
                split
                · exact hn 0
                · exact hn 0
              · simp
theorem cut_vals : ∀ (n : Nat) (l : Bs), l.length ≤ n → ∀ t ∈ cutP l, t.raw ≠ [] ∧ t.raw.length ≤ l.length ∧ t.val.length ≤ l.length
  | 0, l, h, t, ht => by
    obtain rfl := List.eq_nil_of_length_eq_zero (Nat.le_zero.1 h)
    rw [cutP_nil] at ht
    cases ht
  | n + 1, l, h, t, ht => by
    by_cases h0 : l = []
    · subst h0; rw [cutP_nil] at ht; cases ht
    · rw [cutP_cons h0] at ht
      have hp := (first_pre l h0).2
      have hr := first_raw l h0
      have hv := first_val l h0
      rcases List.mem_cons.1 ht with rfl | ht
      · refine ⟨fun e => by rw [e] at hp; simp at hp, ?_, hv⟩
        rw [hr, List.length_take]
        omega
      · obtain ⟨h1, h2, h3⟩ := cut_vals n (l.drop (firstP l).raw.length) (by rw [List.length_drop]; omega) t ht
        rw [List.length_drop] at h2 h3
        exact ⟨h1, by omega, by omega⟩
theorem fit_cut {l : Bs} (h : l.length ≤ 1000000) : Fit (cutP l) :=
  ⟨Nat.le_trans (cut_few l) h, by rw [cut_text]; exact h, fun t ht => by
    obtain ⟨h1, h2, h3⟩ := cut_vals _ l (Nat.le_refl _) t ht
    exact ⟨h1, by omega, by omega⟩⟩

end Go.Proofs.YtmjbaimccbkmpaaGreatDoor.rul

namespace Go.Proofs.YtmjbaimccbkmpaaGreatDoor.med
open Go.RowKit Go.Proofs.YtmjbaimccbkmpaaGreatDoor.base Go.Proofs.YtmjbaimccbkmpaaGreatDoor.tok Go.Proofs.YtmjbaimccbkmpaaGreatDoor.rul
set_option linter.unusedVariables false

def Shape (t : Tk) : Prop := (t.k = 2 → t.raw.getLast? = some 40) ∧ (t.k = 10 → ∃ x, t.raw = [x] ∧ (x = 40 ∨ x = 91 ∨ x = 123)) ∧ (t.k = 11 → ∃ x, t.raw = [x]) ∧ (t.k = 7 → t.val = [112, 120] → 2 ≤ t.raw.length)
theorem shape_of {t : Tk} (h2 : ¬ t.k = 2) (h10 : ¬ t.k = 10) (h11 : ¬ t.k = 11) (h7 : ¬ t.k = 7) : Shape t := ⟨fun h => absurd h h2, fun h => absurd h h10, fun h => absurd h h11, fun h => absurd h h7⟩
theorem byte_nv {c : UInt8} {n : Nat} (hn : n < 256) (h : nv c = n) : c = UInt8.ofNat n := by
  apply UInt8.toNat_inj.1
  rw [UInt8.toNat_ofNat']
  simp only [nv] at h
  omega
theorem name_two : ∀ (n : Nat) (l : Bs), l.length ≤ n → (nameP l).1.length ≤ (nameP l).2
  | 0, l, h => by
    obtain rfl := List.eq_nil_of_length_eq_zero (Nat.le_zero.1 h)
    rw [name_nil]
    simp
  | n + 1, [], h => by rw [name_nil]; simp
  | n + 1, [c], h => by
    rw [name_cons1]
    split <;> simp
  | n + 1, c :: d :: r, h => by
    rw [name_cons2]
    split
    · have := name_two n r (by simp at h; omega)
      simp only [List.length_cons]
      omega
    · split
      · have := name_two n (d :: r) (by simp at h ⊢; omega)
        simp only [List.length_cons]
        omega
      · simp
theorem shape_word (l : Bs) : Shape (wordP l) := by
  unfold wordP
  split
  · rename_i hp
    refine ⟨fun _ => ?_, fun h => (by cases h), fun h => (by cases h), fun h => (by cases h)⟩
    simp only
    generalize (namedP 1 l 0).raw.length = m at *
    have hx : [40] <+: l.drop m := List.isPrefixOf_iff_prefix.1 hp
    obtain ⟨r, hr⟩ := hx
    have hm : l[m]? = some 40 := by
      have := congrArg (·[0]?) hr
      simpa using this.symm
    obtain ⟨hl, he⟩ := List.getElem?_eq_some_iff.1 hm
    rw [List.take_succ_eq_append_getElem hl, he, List.getLast?_concat]
  · exact shape_of (by simp [namedP]) (by simp [namedP]) (by simp [namedP]) (by simp [namedP])
theorem shape_num (l : Bs) (num : Int) (n : Nat) : Shape (numTkP l num n) := by
  unfold numTkP
  split
  · exact ⟨fun h => (by cases h), fun h => (by cases h), fun h => (by cases h), fun _ h => (by simp at h)⟩
  · split
    · refine ⟨fun h => (by cases h), fun h => (by cases h), fun h => (by cases h), fun _ h => ?_⟩
      simp only at h ⊢
      have h1 : (nameP (l.drop n)).1.length = 2 := by
        have := congrArg List.length h
        simpa using this
      have h2 := nameP_val (l.drop n)
      rw [h1, List.length_drop] at h2
      have h3 := name_two _ (l.drop n) (Nat.le_refl _)
      rw [List.length_take]
      omega
    · exact ⟨fun h => (by cases h), fun h => (by cases h), fun h => (by cases h), fun _ h => (by simp at h)⟩
theorem shape_one (l : Bs) (h0 : l ≠ []) : Shape ⟨oneK l, l.take 1, [], 0⟩ := by
  match l, h0 with
  | c :: r, _ =>
    refine ⟨fun h => ?_, fun h => ?_, fun _ => ⟨c, rfl⟩, fun _ h => (by simp at h)⟩
    · exfalso
      simp only [oneK] at h
      split at h
      · cases h
      · split at h
        · cases h
        · split at h <;> cases h
    · refine ⟨c, rfl, ?_⟩
      simp only [oneK] at h
      split at h
      · rename_i hc
        rcases hc with hc | hc | hc
        · exact .inl (byte_nv (n := 40) (by omega) hc)
        · exact .inr (.inl (byte_nv (n := 91) (by omega) hc))
        · exact .inr (.inr (byte_nv (n := 123) (by omega) hc))
      · split at h
        · cases h
        · split at h <;> cases h
theorem shape_first (l : Bs) (h0 : l ≠ []) : Shape (firstP l) := by
  unfold firstP
  split
  · exact shape_of (by simp) (by simp) (by simp) (by simp)
  · split
    · exact shape_of (by simp [noteP]) (by simp [noteP]) (by simp [noteP]) (by simp [noteP])
    · split
      · match l, h0 with
        | c :: r, _ =>
          have := textR_kind c _ r (Nat.le_refl _)
          have hk : (Go.Proofs.YtmjbaimccbkmpaaGreatDoor.tok.textP (c :: r)).k = (textR c r).1 := rfl
          exact shape_of (by omega) (by omega) (by omega) (by omega)
      · split
        · exact shape_of (by simp [namedP]) (by simp [namedP]) (by simp [namedP]) (by simp [namedP])
        · split
          · exact shape_of (by simp [namedP]) (by simp [namedP]) (by simp [namedP]) (by simp [namedP])
          · split
            · exact shape_num _ _ _
            · split
              · exact shape_word _
              · exact shape_one l h0
theorem shape_cut {l : Bs} {t : Tk} (h : t ∈ cutP l) : Shape t ∧ (t.raw = [40] → t.k = 10) := by
  have hr := cut_full l t h
  have ha := cut_alone _ l (Nat.le_refl _) t h
  have hf : firstP t.raw = t := by
    have := ha
    rw [cutP_cons hr] at this
    injection this
  refine ⟨by rw [← hf]; exact shape_first _ hr, fun h40 => ?_⟩
  rw [h40, cut_open, cutP_nil] at ha
  injection ha with ha _
  rw [← ha]
theorem ok_cut {l : Bs} (hl : l.length ≤ 1000000) {t : Tk} (h : t ∈ cutP l) : TokOk t := by
  obtain ⟨⟨s2, s10, s11, s7⟩, s40⟩ := shape_cut h
  obtain ⟨f1, f2, f3⟩ := (fit_cut hl).2.2 t h
  refine ⟨⟨f1, f2, f3, fun ho => ?_, s11⟩, s7, s40⟩
  simp only [opensP, Bool.or_eq_true, decide_eq_true_eq] at ho
  rcases ho with h10 | h2
  · obtain ⟨x, hx, hxx⟩ := s10 h10
    exact ⟨x, by rw [hx]; rfl, hxx⟩
  · exact ⟨40, s2 h2, .inl rfl⟩
theorem ok_sol {l : Bs} (hl : l.length ≤ 1000000) {t : Tk} (h : t ∈ solP (cutP l)) : TokOk t := ok_cut hl (List.mem_filter.1 h).1

end Go.Proofs.YtmjbaimccbkmpaaGreatDoor.med

namespace Go.Proofs.YtmjbaimccbkmpaaGreatDoor.med
open Go.RowKit Go.Proofs.YtmjbaimccbkmpaaGreatDoor.base Go.Proofs.YtmjbaimccbkmpaaGreatDoor.tok Go.Proofs.YtmjbaimccbkmpaaGreatDoor.rul
set_option linter.unusedVariables false

abbrev qc (r : Bool × Value) : List Value := [.bool r.1, r.2]
theorem qc_len (r : Bool × Value) : (qc r).length = 2 := rfl
theorem infoQ : (Tryz.prog.info? 53).map (fun i => (i.zero, i.size, i.bytes)) = some (some (.agg #[.bool false, .slice none 0 0]), 2, 32) := by kernel_rfl
/-- features that lie in another block than o -/
def FSx (o : Option Nat) (w : World) (v : Value) (L : List Fe) : Prop := ∃ A cap, v = .slice A L.length cap ∧ L.length ≤ cap ∧ Rd 2 fc w w.heap.size A L.length L ∧ ∀ b off, 0 < L.length → A = some ⟨b, off, none⟩ → some b ≠ o
theorem FSx.of {B : Nat} {o : Option Nat} {w : World} {v : Value} {L : List Fe} (h : FS B w v L) (ho : ∀ g, o = some g → g < B) : FSx o w v L := by
  obtain ⟨A, cap, rfl, hc, hr, hx⟩ := h
  exact ⟨A, cap, rfl, hc, hr, fun b off _ e h => by have := hx b off e; have := ho b h.symm; omega⟩
theorem FSx.to {o : Option Nat} {w : World} {v : Value} {L : List Fe} (h : FSx o w v L) : FS 0 w v L := by
  obtain ⟨A, cap, rfl, hc, hr, _⟩ := h
  exact ⟨A, cap, rfl, hc, hr, fun _ _ _ => Nat.zero_le _⟩
theorem FSx.on {o : Option Nat} {w w' : World} {v : Value} {L : List Fe} (h : FSx o w v L) (hb : Below w.heap.size w w') : FSx o w' v L := by
  obtain ⟨A, cap, rfl, hc, hr, hx⟩ := h
  exact ⟨A, cap, rfl, hc, Rd.keep hr hb hb.size, hx⟩
theorem FSx.grown {w w' : World} {u u' v : Value} {L : List Fe} (h : FSx u.ownBlock w v L) (hg : w.grownBy w' u.ownBlock) (hl : u'.ownBlock = u.ownBlock ∨ u'.ownBlock = some w.heap.size) : FSx u'.ownBlock w' v L := by
  obtain ⟨A, cap, rfl, hc, hr, hx⟩ := h
  refine ⟨A, cap, rfl, hc, ⟨hr.1, fun h0 => ?_⟩, fun b off h0 e => ?_⟩
  · obtain ⟨b, off, rfl, hlt, hcc⟩ := hr.2 h0
    refine ⟨b, off, rfl, Nat.lt_of_lt_of_le hlt hg.size, fun i d hd j hj => ?_⟩
    rw [← hcc i d hd j hj]
    have hk := hg.block b hlt (hx b off (by rw [hr.1]; exact h0) rfl)
    simp [World.cell?, hk]
  · obtain ⟨b', off', e', hlt, _⟩ := hr.2 h0
    rw [e] at e'
    injection e' with e'
    injection e' with e1 _ _
    rcases hl with hl | hl
    · rw [hl]; exact hx b off h0 e
    · rw [hl]
      intro h
      injection h with h
      omega
/-- queries as they lie -/
def QS (w : World) (v : Value) (Q : List Qu) : Prop := ∃ A cap rows, v = .slice A Q.length cap ∧ Q.length ≤ cap ∧ Rd 2 qc w w.heap.size A Q.length rows ∧ ∀ (i : Nat) (r : Bool × Value) (q : Qu), rows[i]? = some r → Q[i]? = some q → r.1 = q.no ∧ FS 0 w r.2 q.fs
theorem QS.on {w w' : World} {v : Value} {Q : List Qu} (h : QS w v Q) (hb : Below w.heap.size w w') : QS w' v Q := by
  obtain ⟨A, cap, rows, rfl, hc, hr, hx⟩ := h
  exact ⟨A, cap, rows, rfl, hc, Rd.keep hr hb hb.size, fun i r q h1 h2 => ⟨(hx i r q h1 h2).1, (hx i r q h1 h2).2.on hb⟩⟩
/-- rows that are being made, beside their slice's own block -/
def RowsOf (w : World) (o : Option Nat) (rows : List (Bool × Value)) (Q : List Qu) : Prop := rows.length = Q.length ∧ ∀ (i : Nat) (r : Bool × Value) (q : Qu), rows[i]? = some r → Q[i]? = some q → r.1 = q.no ∧ FSx o w r.2 q.fs
theorem RowsOf.nil {w : World} {o : Option Nat} : RowsOf w o [] [] := ⟨rfl, fun i r q h => by simp at h⟩
theorem RowsOf.on {w w' : World} {o : Option Nat} {rows : List (Bool × Value)} {Q : List Qu} (h : RowsOf w o rows Q) (hb : Below w.heap.size w w') : RowsOf w' o rows Q :=
  ⟨h.1, fun i r q h1 h2 => ⟨(h.2 i r q h1 h2).1, (h.2 i r q h1 h2).2.on hb⟩⟩
theorem RowsOf.grown {w w' : World} {u u' : Value} {rows : List (Bool × Value)} {Q : List Qu} (h : RowsOf w u.ownBlock rows Q) (hg : w.grownBy w' u.ownBlock) (hl : u'.ownBlock = u.ownBlock ∨ u'.ownBlock = some w.heap.size) : RowsOf w' u'.ownBlock rows Q :=
  ⟨h.1, fun i r q h1 h2 => ⟨(h.2 i r q h1 h2).1, (h.2 i r q h1 h2).2.grown hg hl⟩⟩
theorem RowsOf.snoc {w : World} {o : Option Nat} {rows : List (Bool × Value)} {Q : List Qu} {r : Bool × Value} {q : Qu} (h : RowsOf w o rows Q) (h1 : r.1 = q.no) (h2 : FSx o w r.2 q.fs) : RowsOf w o (rows ++ [r]) (Q ++ [q]) := by
  refine ⟨by simp [h.1], fun i r' q' hr hq => ?_⟩
  rcases Nat.lt_or_ge i rows.length with hlt | hge
  · rw [List.getElem?_append_left hlt] at hr
    rw [List.getElem?_append_left (by rw [← h.1]; exact hlt)] at hq
    exact h.2 i r' q' hr hq
  · have hj2 := (List.getElem?_eq_some_iff.1 hr).1
    simp only [List.length_append, List.length_singleton] at hj2
    obtain rfl : i = rows.length := by omega
    rw [List.getElem?_concat_length] at hr
    rw [h.1, List.getElem?_concat_length] at hq
    obtain rfl := Option.some.inj hr
    obtain rfl := Option.some.inj hq
    exact ⟨h1, h2⟩
theorem qs_of {w : World} {base : Nat} {v : Value} {rows : List (Bool × Value)} {Q : List Qu} (h : w.ownsRow base 53 2 v rows.length (flatR qc rows)) (hr : RowsOf w v.ownBlock rows Q) : QS w v Q := by
  obtain ⟨A, cap, rfl, hc, hrd⟩ := row_rd qc_len rfl h
  rw [hr.1] at hc hrd ⊢
  exact ⟨A, cap, rows, rfl, hc, hrd, fun i r q h1 h2 => ⟨(hr.2 i r q h1 h2).1, (hr.2 i r q h1 h2).2.to⟩⟩

/-- one query of one feature, that was just built -/
theorem fs_one {w : World} {k : Nat} {f : Fe} {t : TypeId} (h : Blk w k t #[.int .i64 f.k, .int .i64 f.n]) : FS k w (.slice (some ⟨k, 0, none⟩) 1 1) [f] := by
  refine ⟨_, 1, rfl, Nat.le_refl _, ⟨rfl, fun _ => ⟨k, 0, rfl, h.lt, fun i d hd j hj => ?_⟩⟩, fun b off e => by injection e with e; injection e with e _ _; omega⟩
  have hi : i = 0 := by have := (List.getElem?_eq_some_iff.1 hd).1; simp at this; omega
  subst hi
  obtain rfl : f = d := by simpa using hd
  have hj2 : j = 0 ∨ j = 1 := by omega
  rcases hj2 with rfl | rfl <;> exact h.cell _
theorem qs_one {w : World} {k : Nat} {t : TypeId} {no : Bool} {fv : Value} {fs : List Fe} (h : Blk w k t #[.bool no, fv]) (hf : FS 0 w fv fs) : QS w (.slice (some ⟨k, 0, none⟩) 1 1) [⟨no, fs⟩] := by
  refine ⟨_, 1, [(no, fv)], rfl, Nat.le_refl _, ⟨rfl, fun _ => ⟨k, 0, rfl, h.lt, fun i d hd j hj => ?_⟩⟩, fun i r q h1 h2 => ?_⟩
  · have hi : i = 0 := by have := (List.getElem?_eq_some_iff.1 hd).1; simp at this; omega
    subst hi
    obtain rfl : (no, fv) = d := by simpa using hd
    have hj2 : j = 0 ∨ j = 1 := by omega
    rcases hj2 with rfl | rfl <;> exact h.cell _
  · have hi : i = 0 := by have := (List.getElem?_eq_some_iff.1 h1).1; simp at this; omega
    subst hi
    obtain rfl : (no, fv) = r := by simpa using h1
    obtain rfl : (⟨no, fs⟩ : Qu) = q := by simpa using h2
    exact ⟨rfl, hf⟩
/-- what Read hands back -/
def RdRet (R : Option (List Qu)) (e : Ending) (w' : World) : Prop :=
  (R = none ∧ e = .returned (.tuple #[.slice none 0 0, .int .i64 2])) ∨ ∃ Q v, R = some Q ∧ e = .returned (.tuple #[v, .int .i64 0]) ∧ QS w' v Q

def RdRel (w0 : World) (P : List (List Tk)) (v x : Value) (wr : World) : Prop :=
  ∃ (k : Nat) (rows : List (Bool × Value)), k ≤ P.length ∧ x = .int .i64 k ∧ RowsOf wr v.ownBlock rows ((P.take k).map fun p => (queP p).getD badQ) ∧ wr.ownsRow w0.heap.size 53 2 v rows.length (flatR qc rows) ∧ Below w0.heap.size w0 wr

theorem read_large (s : Bs) (h : 400 < s.length) (hs : s.length ≤ 9223372036854775807) (w : World) :
    Calls Tryz.prog 13 #[.string (bs s)] w fun e w' => RdRet (readP s) e w' ∧ Below w.heap.size w w' := by
  have hz : (400 : Int) < ((bs s).size : Int) := by rw [bs_size]; omega
  have HR := Lib.hid (show readP s = none from if_pos h)
  clear h hs
  go_enter Tryz.func13, Tryz.ntmps13
  go_wp2_with fail
  go_ret2
  exact ⟨.inl ⟨HR.out, rfl⟩, Below.refl _ _⟩

theorem mcut_ct (s : Bs) (hs : s.length ≤ 1000000) (w : World) (hm : MaxL w) :
    Calls Tryz.prog 18 #[.string (bs s)] w fun e w' => (∃ A cap, e = .returned (.slice A (cutP s).length cap) ∧ TRd w' w'.heap.size A (cutP s).length (cutP s)) ∧ Below w.heap.size w w' :=
  (cut_ct (bs s) (by rw [bs_size]; omega) w hm).mono fun e w' ⟨⟨A, cap, he, _, hr⟩, hb⟩ => ⟨⟨A, cap, he, hr⟩, hb⟩
theorem solid_two (A : Option Addr) (cap : Nat) (L : List Tk) (hn : L.length ≤ 1000000) (w : World) (hL : TRd w w.heap.size A L.length L) :
    Calls Tryz.prog 24 #[.slice A L.length cap] w fun e w' => (∃ B c, e = .returned (.slice B (solP L).length c) ∧ (solP L).length ≤ c ∧ TRd w' w'.heap.size B (solP L).length (solP L)) ∧ Below w.heap.size w w' :=
  (msolid_ct A cap L w hn hL).mono fun e w' ⟨⟨v, he, A', c', hv, hc, hr⟩, hb⟩ => ⟨⟨A', c', by rw [he, hv], hc, hr⟩, hb⟩

set_option maxRecDepth 100000 in
set_option maxHeartbeats 8000000 in
theorem read_empty (s : Bs) (h : s.length ≤ 400) (h0 : solP (cutP s) = []) (w : World) (hE : MEnv w) :
    Calls Tryz.prog 13 #[.string (bs s)] w fun e w' => RdRet (readP s) e w' ∧ Below w.heap.size w w' := by
  have hz : ¬ (400 : Int) < ((bs s).size : Int) := by rw [bs_size]; omega
  have HR := Lib.hid (show readP s = some [⟨false, [⟨1, 0⟩]⟩] by unfold readP; rw [if_neg (by omega), h0]; rfl)
  have cC := Lib.hid (mcut_ct s (by omega) w hE.1)
  have cS := fun A cap W hL => solid_two A cap (cutP s) (by have := cut_few s; omega) W hL
  rw [h0] at cS
  simp only [List.length_nil] at cS
  replace cS := Lib.hid cS
  generalize cutP s = L at *
  clear h h0 hE
  go_enter Tryz.func13, Tryz.ntmps13
  go_wp2_with (first
    | (go_at_call 18; (with_reducible refine (cC.out).mono ?_); rintro e W1 ⟨⟨A1, c1, rfl, hr1⟩, hb1⟩; have HB1 := Lib.hid hb1; have HL := Lib.hid hr1; clear hb1 hr1)
    | (go_at_call 24; (with_reducible refine (cS.out _ _ _ HL.out).mono ?_); rintro e W2 ⟨⟨B2, c2, rfl, _, _⟩, hb2⟩; have HB2 := Lib.hid (HB1.out.trans (hb2.mono HB1.out.size)); clear hb2))
  go_ret2
  have q1 := Blk.new (w := W2) (t := 55) (cs := #[.int .i64 1, .int .i64 0]) rfl
  have q2 := q1.alloc (.cells #[.bool false, .slice (some ⟨W2.heap.size, 0, none⟩) 1 1] 53)
  have q3 := Blk.new (w := W2.alloc (.cells #[.int .i64 1, .int .i64 0] 55)) (k := W2.heap.size + 1) (t := 53) (cs := #[.bool false, .slice (some ⟨W2.heap.size, 0, none⟩) 1 1]) (by simp)
  have hf : FS 0 ((W2.alloc (.cells #[.int .i64 1, .int .i64 0] 55)).alloc (.cells #[.bool false, .slice (some ⟨W2.heap.size, 0, none⟩) 1 1] 53)) (.slice (some ⟨W2.heap.size, 0, none⟩) 1 1) [⟨1, 0⟩] := by
    obtain ⟨A, cap, e, hc, hr, _⟩ := fs_one (f := ⟨1, 0⟩) q2
    exact ⟨A, cap, e, hc, hr, fun _ _ _ => Nat.zero_le _⟩
  exact ⟨.inr ⟨_, _, HR.out, rfl, qs_one q3 hf⟩, (HB2.out.alloc HB2.out.size _).alloc (by have := HB2.out.size; simp; omega) _⟩

end Go.Proofs.YtmjbaimccbkmpaaGreatDoor.med

namespace Go.Proofs.YtmjbaimccbkmpaaGreatDoor.med
open Go.RowKit Go.Proofs.YtmjbaimccbkmpaaGreatDoor.base Go.Proofs.YtmjbaimccbkmpaaGreatDoor.tok Go.Proofs.YtmjbaimccbkmpaaGreatDoor.rul
set_option linter.unusedVariables false

theorem feat_low {k n : Int} (h0 : 1 ≤ k) (h1 : k ≤ 3) : featT ⟨k, n⟩ = wordK k := if_pos ⟨h0, h1⟩
theorem feat_mid {k n : Int} (h0 : 4 ≤ k) (h1 : k ≤ 7) : featT ⟨k, n⟩ = [40] ++ wordK k ++ [58, 32] ++ Lib.itoa n ++ [112, 120, 41] := by
  unfold featT
  rw [if_neg (by simp only; omega), if_pos ⟨h0, h1⟩]
theorem feat_high {k n : Int} (h0 : 8 ≤ k) (h1 : k ≤ 11) : featT ⟨k, n⟩ = [40] ++ shownK k ++ [41] := by
  unfold featT
  rw [if_neg (by simp only; omega), if_neg (by simp only; omega), if_pos ⟨h0, h1⟩]
theorem words_of {w : World} (hW : WordsAt w) {k : Int} (h0 : 0 ≤ k) (h1 : k < 12) : w.cell? ⟨0, k.toNat, none⟩ = some (.string (bs (wordK k))) := by
  have hl : wordsL.length = 12 := rfl
  have hi : k.toNat < wordsL.length := by omega
  have := hW k.toNat wordsL[k.toNat] (List.getElem?_eq_getElem hi)
  rw [this]
  unfold wordK
  rw [List.getElem?_eq_getElem hi]
  rfl
theorem replace_ct (k : Int) (hk : 8 ≤ k ∧ k ≤ 11) (w : World) (hm : MaxL w) :
    Calls Tryz.prog 46 #[.string (bs (wordK k)), .string ⟨#[58]⟩, .string ⟨#[58, 32]⟩, .int .i64 1] w fun e w' => e = .returned (.string (bs (shownK k))) ∧ Below w.heap.size w w' := by
  obtain ⟨m, hm⟩ := hm
  have h := Tryz.strings_Replace (bs (wordK k)) ⟨#[58]⟩ ⟨#[58, 32]⟩ 1 m w (by have := wordK_len k; rw [bs_size]; omega) hm (by decide) (by
    obtain ⟨h0, h1⟩ := hk
    rcases last4 h0 h1 with rfl | rfl | rfl | rfl <;> decide +kernel)
  have e : Lib.replace (bs (wordK k)).data.toList [58] [58, 32] 1 = shownK k := by
    obtain ⟨h0, h1⟩ := hk
    rcases last4 h0 h1 with rfl | rfl | rfl | rfl <;> decide +kernel
  exact h.mono fun x w' ⟨hx, hb⟩ => ⟨(by rw [hx]; show Ending.returned (.string ⟨(Lib.replace (bs (wordK k)).data.toList [58] [58, 32] 1).toArray⟩) = _; rw [e]; rfl), hb⟩

set_option maxRecDepth 100000 in
set_option maxHeartbeats 4000000 in
theorem mft_low (k n : Int) (h0 : 1 ≤ k) (h1 : k ≤ 3) (w : World) (hE : MEnv w) :
    Calls Tryz.prog 27 #[.agg #[.int .i64 k, .int .i64 n]] w fun e w' => e = .returned (.string (bs (featT ⟨k, n⟩))) ∧ Below w.heap.size w w' := by
  have HR := Lib.hid (feat_low (n := n) h0 h1)
  have hc := words_of hE.2.1 (k := k) (by omega) (by omega)
  have hg := hE.2.1.lt
  have hb := Lib.hid (show Below w.heap.size w (w.alloc (.cells #[.int .i64 k, .int .i64 n] 55)) from (Below.refl _ _).alloc (Nat.le_refl _) _)
  clear hE
  rcases three h0 h1 with rfl | rfl | rfl
  all_goals
    simp only [show (1 : Int).toNat = 1 from rfl, show (2 : Int).toNat = 2 from rfl, show (3 : Int).toNat = 3 from rfl] at hc
    clear h0 h1
    go_enter Tryz.func27, Tryz.ntmps27
    go_wp2_with fail
    go_ret
    exact ⟨by rw [HR.out]; rfl, hb.out⟩

set_option maxRecDepth 100000 in
set_option maxHeartbeats 4000000 in
theorem mft_mid (k n : Int) (h0 : 4 ≤ k) (h1 : k ≤ 7) (n0 : 0 ≤ n) (n1 : n ≤ 1000000) (w : World) (hE : MEnv w) :
    Calls Tryz.prog 27 #[.agg #[.int .i64 k, .int .i64 n]] w fun e w' => e = .returned (.string (bs (featT ⟨k, n⟩))) ∧ Below w.heap.size w w' := by
  have hcat : (⟨#[40]⟩ : ByteArray) ++ bs (wordK k) ++ ⟨#[58, 32]⟩ ++ bs (Lib.itoa n) ++ ⟨#[112, 120, 41]⟩ = bs (featT ⟨k, n⟩) := by
    rw [feat_mid h0 h1]
    apply ByteArray.ext; apply Array.ext'
    simp [bs, ByteArray.data_append]
  rw [← hcat]
  have cI := Lib.hid (fun w (h : MEnv w) => dim.itoa_ct n (by omega) (by omega) w h.2.2.1)
  have hc0 := words_of hE.2.1 (k := k) (by omega) (by omega)
  have hg := hE.2.1.lt
  have z1 : (bs (wordK k)).size ≤ 30 := wordK_len k
  have z2 : (bs (Lib.itoa n)).size ≤ 7 := itoa_short n0 n1
  have hE0 := Lib.hid hE
  generalize bs (Lib.itoa n) = it at *
  generalize wordK k = wd at *
  have a1 : ¬ 9223372036854775807 < 1 + (bs wd).size := by omega
  have a2 : ¬ 9223372036854775807 < 1 + (bs wd).size + 2 := by omega
  have a3 : ¬ 9223372036854775807 < 1 + (bs wd).size + 2 + it.size := by omega
  have a4 : ¬ 9223372036854775807 < 1 + (bs wd).size + 2 + it.size + 3 := by omega
  clear hE hcat n0 n1
  rcases four h0 h1 with rfl | rfl | rfl | rfl
  all_goals
    simp only [show (4 : Int).toNat = 4 from rfl, show (5 : Int).toNat = 5 from rfl, show (6 : Int).toNat = 6 from rfl, show (7 : Int).toNat = 7 from rfl] at hc0
    clear h0 h1
    go_enter Tryz.func27, Tryz.ntmps27
    go_upto_region 4 with (fail)
    generalize hV : w.alloc (.cells #[_, .int .i64 n] 55) = V
    have HB := Lib.hid (show Below w.heap.size w V by subst hV; exact (Below.refl _ _).alloc (Nat.le_refl _) _)
    have cV := (show Blk V w.heap.size 55 #[_, .int .i64 n] by subst hV; exact Blk.new rfl).cell
    have zV : w.heap.size + 1 ≤ V.heap.size := by subst hV; simp
    have hc := (HB.out.cell (p := ⟨0, _, none⟩) hg).trans hc0
    have hgV : 0 < V.heap.size := by omega
    have hwV : w.heap.size < V.heap.size := by omega
    have zz : V.heap.size ≤ V.heap.size := Nat.le_refl _
    have HEV := Lib.hid (hE0.out.on HB.out)
    clear hV hc0 hg
    go_region_held3 (fun w' => (∀ b o, b < V.heap.size → w'.cell? ⟨b, o, none⟩ = V.cell? ⟨b, o, none⟩) ∧ Below V.heap.size V w')
      (first | exact As.beg | assumption | exact As.on hb3 (by assumption) zz)
      (first | (go_at_call 22; (with_reducible refine (cI.out _ (HEV.out.on ((Below.refl _ _).drew))).mono ?_); rintro e w3 ⟨rfl, hb3⟩))
    all_goals
      have HS := Lib.hid (show (∀ (b o : Nat), b < V.heap.size → w3.cell? ⟨b, o, none⟩ = V.cell? ⟨b, o, none⟩) ∧ Below V.heap.size V w3 by assumption)
      rename_i hHeld
      clear hHeld
      go_wp2_with fail
      go_ret
      exact ⟨rfl, HB.out.trans (HS.out.2.mono HB.out.size)⟩

set_option maxRecDepth 100000 in
set_option maxHeartbeats 4000000 in
theorem mft_high (k n : Int) (h0 : 8 ≤ k) (h1 : k ≤ 11) (w : World) (hE : MEnv w) :
    Calls Tryz.prog 27 #[.agg #[.int .i64 k, .int .i64 n]] w fun e w' => e = .returned (.string (bs (featT ⟨k, n⟩))) ∧ Below w.heap.size w w' := by
  have hcat : (⟨#[40]⟩ : ByteArray) ++ bs (shownK k) ++ ⟨#[41]⟩ = bs (featT ⟨k, n⟩) := by
    rw [feat_high h0 h1]
    apply ByteArray.ext; apply Array.ext'
    simp [bs, ByteArray.data_append]
  rw [← hcat]
  have cR := Lib.hid (fun w (h : MEnv w) => replace_ct k ⟨h0, h1⟩ w h.1)
  have hc := words_of hE.2.1 (k := k) (by omega) (by omega)
  have hg := hE.2.1.lt
  have z1 : (bs (shownK k)).size ≤ 30 := shownK_len k
  generalize bs (shownK k) = sh at *
  generalize wordK k = wd at *
  have hb := Lib.hid (show Below w.heap.size w (w.alloc (.cells #[.int .i64 k, .int .i64 n] 55)) from (Below.refl _ _).alloc (Nat.le_refl _) _)
  have HE := Lib.hid (hE.on hb.out)
  have a1 : ¬ 9223372036854775807 < 1 + sh.size := by omega
  have a2 : ¬ 9223372036854775807 < 1 + sh.size + 1 := by omega
  clear hE hcat
  rcases last4 h0 h1 with rfl | rfl | rfl | rfl
  all_goals
    simp only [show (8 : Int).toNat = 8 from rfl, show (9 : Int).toNat = 9 from rfl, show (10 : Int).toNat = 10 from rfl, show (11 : Int).toNat = 11 from rfl] at hc
    clear h0 h1
    go_enter Tryz.func27, Tryz.ntmps27
    go_wp2_with (go_at_call 46; (with_reducible refine (cR.out _ HE.out).mono ?_); rintro e W1 ⟨rfl, hb1⟩; have HB1 := Lib.hid (hb.out.trans (hb1.mono (by simp))); clear hb1)
    go_ret
    exact ⟨rfl, HB1.out⟩

set_option maxRecDepth 100000 in
theorem mft_unk (w : World) : Calls Tryz.prog 27 #[.agg #[.int .i64 12, .int .i64 0]] w fun e w' => e = .returned (.string (bs (featT ⟨12, 0⟩))) ∧ Below w.heap.size w w' := by
  have hb := Lib.hid (show Below w.heap.size w (w.alloc (.cells #[.int .i64 12, .int .i64 0] 55)) from (Below.refl _ _).alloc (Nat.le_refl _) _)
  go_enter Tryz.func27, Tryz.ntmps27
  go_wp2_with fail
  go_ret
  exact ⟨rfl, hb.out⟩

theorem mft_ct (f : Fe) (hf : GoodF f) (w : World) (hE : MEnv w) :
    Calls Tryz.prog 27 #[.agg #[.int .i64 f.k, .int .i64 f.n]] w fun e w' => e = .returned (.string (bs (featT f))) ∧ Below w.heap.size w w' := by
  obtain ⟨k, n⟩ := f
  rcases hf with ⟨h0, h1, _⟩ | ⟨h0, h1, h2, h3⟩ | ⟨h0, h1, _⟩ | h
  · exact mft_low k n h0 h1 w hE
  · exact mft_mid k n h0 h1 h2 h3 w hE
  · exact mft_high k n h0 h1 w hE
  · unfold unk at h
    injection h with h1 h2
    subst h1 h2
    exact mft_unk w

end Go.Proofs.YtmjbaimccbkmpaaGreatDoor.med

namespace Go.Proofs.YtmjbaimccbkmpaaGreatDoor.med
open Go.RowKit Go.Proofs.YtmjbaimccbkmpaaGreatDoor.base Go.Proofs.YtmjbaimccbkmpaaGreatDoor.tok Go.Proofs.YtmjbaimccbkmpaaGreatDoor.rul
set_option linter.unusedVariables false

theorem take_map {P : List (List Tk)} {k : Nat} {p : List Tk} (h : P[k]? = some p) : (P.take (k + 1)).map (fun p => (queP p).getD badQ) = (P.take k).map (fun p => (queP p).getD badQ) ++ [(queP p).getD badQ] := by
  obtain ⟨hl, he⟩ := List.getElem?_eq_some_iff.1 h
  rw [List.take_succ_eq_append_getElem hl, List.map_append, he]
  rfl
theorem pieces_mem : ∀ (n : Nat) (L cur : List Tk), L.length ≤ n → ∀ p ∈ piecesF L cur, (∀ t ∈ p, t ∈ L ∨ t ∈ cur) ∧ p.length ≤ L.length + cur.length
  | _, [], cur, _, p, hp => by
    rw [pieces_nil] at hp
    obtain rfl : p = cur := by simpa using hp
    exact ⟨fun t ht => .inr ht, by simp⟩
  | 0, t :: M, cur, hn, _, _ => by simp at hn
  | n + 1, t :: M, cur, hn, p, hp => by
    simp only [List.length_cons] at hn
    cases ho : opensP t
    · by_cases hc : t.k = 12 ∧ t.raw = [44]
      · rw [pieces_comma ho hc] at hp
        rcases List.mem_cons.1 hp with rfl | hp
        · exact ⟨fun t ht => .inr ht, by simp⟩
        · obtain ⟨h1, h2⟩ := pieces_mem n M [] (by omega) p hp
          refine ⟨fun x hx => ?_, by simp only [List.length_nil, List.length_cons] at h2 ⊢; omega⟩
          rcases h1 x hx with h | h
          · exact .inl (List.mem_cons_of_mem _ h)
          · cases h
      · rw [pieces_other ho hc] at hp
        obtain ⟨h1, h2⟩ := pieces_mem n M (cur ++ [t]) (by omega) p hp
        refine ⟨fun x hx => ?_, by simp only [List.length_append, List.length_cons, List.length_nil] at h2 ⊢; omega⟩
        rcases h1 x hx with h | h
        · exact .inl (List.mem_cons_of_mem _ h)
        · rcases List.mem_append.1 h with h | h
          · exact .inr h
          · obtain rfl : x = t := by simpa using h
            exact .inl (List.mem_cons_self ..)
    · rw [pieces_open ho] at hp
      have hb := blkLen_bd t M
      obtain ⟨h1, h2⟩ := pieces_mem n ((t :: M).drop (blkLen t M)) (cur ++ (t :: M).take (blkLen t M)) (by rw [List.length_drop, List.length_cons]; omega) p hp
      refine ⟨fun x hx => ?_, by simp only [List.length_append, List.length_drop, List.length_take, List.length_cons] at h2 ⊢; omega⟩
      rcases h1 x hx with h | h
      · exact .inl (List.mem_of_mem_drop h)
      · rcases List.mem_append.1 h with h | h
        · exact .inr h
        · exact .inl (List.mem_of_mem_take h)
theorem owns_one {w : World} {base : Nat} {e : TypeId} {v : Value} {vs : List Value} (h : w.ownsRow base e 1 v vs.length vs) (h0 : 0 < vs.length) : ∃ g cap, v = .slice (some ⟨g, 0, none⟩) vs.length cap ∧ g < w.heap.size ∧ vs.length ≤ cap ∧ ∀ (i : Nat) (x : Value), vs[i]? = some x → w.cell? ⟨g, i, none⟩ = some x := by
  obtain ⟨a, cap, rfl⟩ := row_form h
  obtain ⟨g, hg, hlt, _, hc, _⟩ := owns_at (i := 0) (x := vs[0]) h (List.getElem?_eq_getElem h0)
  subst hg
  refine ⟨g, cap, rfl, hlt, hc, fun i x hx => ?_⟩
  obtain ⟨g', hg', _, _, _, hcell⟩ := owns_at h hx
  injection hg' with hg'
  injection hg' with hg' _ _
  rw [hg']
  exact hcell

set_option maxRecDepth 100000 in
set_option maxHeartbeats 16000000 in
theorem read_go (s : Bs) (h : s.length ≤ 400) (h0 : solP (cutP s) ≠ []) (w : World) (hE : MEnv w) :
    Calls Tryz.prog 13 #[.string (bs s)] w fun e w' => RdRet (readP s) e w' ∧ Below w.heap.size w w' := by
  obtain ⟨i0, hi, hz0, hz1, hz2⟩ := info_parts infoQ
  have Hz0 := Lib.hid hz0
  have Hi := Lib.hid hi
  have Hz1 := Lib.hid hz1
  have Hz2 := Lib.hid hz2
  clear hz0 hi hz1 hz2
  have hz : ¬ (400 : Int) < ((bs s).size : Int) := by rw [bs_size]; omega
  have hRR : readP s = some ((piecesF (solP (cutP s)) []).map fun p => (queP p).getD badQ) := by
    unfold readP
    rw [if_neg (by omega), tokQ_ne h0]
  have cC := Lib.hid (mcut_ct s (by omega) w hE.1)
  have hfew := cut_few s
  have cS := Lib.hid (fun A cap W hL => solid_two A cap (cutP s) (by omega) W hL)
  have hok : ∀ t ∈ solP (cutP s), TokOk t := fun t ht => ok_sol (by omega) ht
  have hsl : (solP (cutP s)).length ≤ 400 := by
    have h1 : (solP (cutP s)).length ≤ (cutP s).length := List.length_filter_le _ _
    omega
  have hne : 0 < (solP (cutP s)).length := List.length_pos_iff.2 h0
  generalize cutP s = C at *
  generalize solP C = L at *
  have hwt := pieces_wt _ L [] (Nat.le_refl _)
  have cP := Lib.hid (fun A cap W W' hc hL hb => mpieces_ct A cap L W W' (by omega) hc hL hb hok)
  have hpl : ∀ p ∈ piecesF L [], (∀ t ∈ p, TokOk t) ∧ p.length ≤ 1000 := fun p hp => by
    obtain ⟨h1, h2⟩ := pieces_mem _ L [] (Nat.le_refl _) p hp
    refine ⟨fun t ht => ?_, by simp only [List.length_nil] at h2; omega⟩
    rcases h1 t ht with h | h
    · exact hok t h
    · cases h
  have hPl : (piecesF L []).length ≤ 1000 := by
    have h1 : ∀ P : List (List Tk), P.length ≤ wt P := fun P => by
      induction P with
      | nil => simp
      | cons a P ih => simp only [wt, List.map_cons, List.sum_cons, List.length_cons] at ih ⊢; omega
    have := h1 (piecesF L [])
    have h2 := hwt.1
    simp only [List.length_nil] at h2
    omega
  have hPn := hwt.2
  generalize piecesF L [] = P at *
  have HPl := Lib.hid hpl
  have HRR := Lib.hid hRR
  have HE := Lib.hid hE
  have HP0 := Lib.hid (List.length_pos_iff.2 hPn)
  have z0 : ((L.length : Int) == 0) = false := by simp; exact fun e => by rw [e] at hne; simp at hne
  clear hfew hok hwt hpl hRR hE h h0 hne hPn
  have hli : (L.length : Int) ≤ 400 := by omega
  go_enter Tryz.func13, Tryz.ntmps13
  go_wp2_with (first
    | (go_at_call 18; (with_reducible refine (cC.out).mono ?_); rintro e W1 ⟨⟨A1, c1, rfl, hr1⟩, hb1⟩; have HB1 := Lib.hid hb1; have HL := Lib.hid hr1; clear hb1 hr1)
    | (go_at_call 24; (with_reducible refine (cS.out _ _ _ HL.out).mono ?_); rintro e W2 ⟨⟨B2, c2, rfl, hc2, hr2⟩, hb2⟩; have HB2 := Lib.hid (HB1.out.trans (hb2.mono HB1.out.size)); have HR2 := Lib.hid hr2; have HC2 := Lib.hid hc2; clear hb2 hr2 hc2)
    | (go_at_call 25; (with_reducible refine (cP.out _ _ _ _ HC2.out HR2.out (Below.refl _ _)).mono ?_); rintro e W3 ⟨⟨v3, vs, rfl, hvs, hrow3⟩, hb3⟩; have HB3 := Lib.hid (HB2.out.trans (hb3.mono HB2.out.size)); have HB23 := Lib.hid hb3; have HVs := Lib.hid hvs; obtain ⟨g, cpv, rfl, hgl, hgc, hgx⟩ := owns_one hrow3 (by rw [hvs.1]; exact HP0.out); have HGx := Lib.hid hgx; clear hb3 hvs hrow3 hgx))
  have hvl : vs.length = P.length := HVs.out.1
  rw [hvl] at hgc ⊢
  have hPi : (P.length : Int) ≤ 1000 := by omega
  go_loopw [5, 26] (fun v x wr => RdRel W3 P v x wr) (fun _ x _ => P.length - (intOf x).toNat)
  case atStart => exact ⟨0, [], Nat.zero_le _, rfl, by simpa using RowsOf.nil, World.ownsRow_nil _ _ _ _, Below.refl _ _⟩
  case round =>
    obtain ⟨k, rows, hk, rfl, hrows, hrow, hbel⟩ := hrel
    have HRows := Lib.hid hrows
    have HRow := Lib.hid hrow
    have HBl := Lib.hid hbel
    have hrl : rows.length ≤ 1000 := by rw [hrows.1, List.length_map, List.length_take]; omega
    obtain ⟨av, cp, rfl⟩ := row_form hrow
    clear hrows hrow
    by_cases hlt : k < P.length
    · have hlt' : (k : Int) < (P.length : Int) := by omega
      obtain ⟨p, hp⟩ : ∃ p, P[k]? = some p := ⟨_, List.getElem?_eq_getElem hlt⟩
      obtain ⟨pv, hpv⟩ : ∃ v, vs[k]? = some v := ⟨_, List.getElem?_eq_getElem (by rw [hvl]; exact hlt)⟩
      have hts := HVs.out.2 k pv p hpv hp
      have hcell : wr.cell? ⟨g, k, none⟩ = some pv := (hbel.cell (p := ⟨g, k, none⟩) hgl).trans (HGx.out k pv hpv)
      obtain ⟨hpo, hpn⟩ := HPl.out p (List.mem_of_getElem? hp)
      obtain ⟨pA, pc, rfl, _⟩ := hts
      have HB2r := Lib.hid (HB23.out.trans (hbel.mono HB23.out.size))
      have cQ := Lib.hid (fun W hb hE => mquery_ct _ p W2 W hpn (HVs.out.2 k _ p hpv hp) hb hpo hE)
      have HTake := Lib.hid (take_map hp)
      clear hbel hp hpv hpo hpn
      have cq0 := cQ.out wr HB2r.out (HE.out.on (HB3.out.trans (HBl.out.mono HB3.out.size)))
      cases hq : queP p with
      | none =>
        have cq : Calls Tryz.prog 26 #[.slice pA p.length pc] wr fun e w' => (∃ bo A n c, e = .returned (.tuple #[.agg #[.bool bo, .slice A n c], .bool false])) ∧ Below wr.heap.size wr w' := cq0.mono fun e w' ⟨hm, hb⟩ => ⟨(by
          rcases hm with ⟨_, hx⟩ | ⟨q, A, c, h, _⟩
          · exact hx
          · rw [hq] at h; cases h), hb⟩
        have HBad := Lib.hid (show (queP p).getD badQ = ⟨false, [⟨12, 0⟩]⟩ by rw [hq]; rfl)
        replace cq := Lib.hid cq
        clear cq0 hq
        go_upto_region 13 with (go_at_call 26; (with_reducible refine (cq.out).mono ?_); rintro e W5 ⟨⟨bo, qA, qn, qcc, rfl⟩, hb5⟩; have HB5 := Lib.hid (HBl.out.trans (hb5.mono HBl.out.size)); have hrow5 := Lib.hid (row_on HRow.out hb5); have HRows5 := Lib.hid (HRows.out.on hb5); have HZ5 := Lib.hid hb5.size; clear hb5 hcell)
        generalize hV : (W5.alloc (.cells #[.bool false, .slice (some ⟨W5.heap.size + 1, 0, none⟩) 1 1] 53)).alloc (.cells #[.int .i64 12, .int .i64 0] 55) = V
        have HBV := Lib.hid (show Below W3.heap.size W3 V by subst hV; exact (HB5.out.alloc HB5.out.size _).alloc (by have := HB5.out.size; simp; omega) _)
        have hrowV := Lib.hid (show V.ownsRow W3.heap.size 53 2 (.slice av rows.length cp) rows.length (flatR qc rows) by subst hV; exact (hrow5.out.alloc _).alloc _)
        have HRowsV := Lib.hid (show RowsOf V (Value.slice av rows.length cp).ownBlock rows ((P.take k).map fun p => (queP p).getD badQ) by subst hV; exact (HRows5.out.on ((Below.refl _ _).alloc (Nat.le_refl _) _)).on ((Below.refl _ _).alloc (Nat.le_refl _) _))
        have HFV := Lib.hid (show FSx (Value.slice av rows.length cp).ownBlock V (.slice (some ⟨W5.heap.size + 1, 0, none⟩) 1 1) [⟨12, 0⟩] by
          subst hV
          exact FSx.of (fs_one (f := ⟨12, 0⟩) (Blk.new (by simp))) (fun g hg => by have := (hrow5.out.lt g hg).2; omega))
        have cV := (show Blk V W5.heap.size 53 #[.bool false, .slice (some ⟨W5.heap.size + 1, 0, none⟩) 1 1] by subst hV; exact (Blk.new rfl).alloc _).cell
        clear hV
        go_wp2_with (at_builtin; refine wpList_append_own_at _ rfl _ _ 41 rfl W3.heap.size 53 i0 _ 2 32 Tryz.underlying41 Hi.out Hz0.out Hz1.out Hz2.out rfl (by decide) _ _ _ rfl (hrowV.out.alloc _) ⟨V.heap.size, 0, none⟩ 1 1 [.bool false, .slice (some ⟨W5.heap.size + 1, 0, none⟩) 1 1] rfl rfl ?c1 ?c2 ?c3 ?c4 ?c5 ?_)
        case c1 => exact (Blk.new (w := V) (t := 53) (cs := #[.bool false, .slice (some ⟨W5.heap.size + 1, 0, none⟩) 1 1]) rfl).news
        case c2 => simp [Value.oneCell']
        case c3 => unfold maxLen; omega
        case c4 => omega
        case c5 => have := HBV.out.size; simp; omega
        intro v' w3 hown3 hgrow3 hnil3 hloc3
        have hb3 := Lib.hid (below_app (HBV.out.alloc HBV.out.size _) hgrow3 (hrowV.out.alloc _) (Nat.le_refl _) (by simp; have := HBV.out.size; omega))
        have hrows3 := Lib.hid (((HRowsV.out.on ((Below.refl _ _).alloc (Nat.le_refl _) _)).snoc (r := (false, .slice (some ⟨W5.heap.size + 1, 0, none⟩) 1 1)) (q := ⟨false, [⟨12, 0⟩]⟩) rfl (HFV.out.on ((Below.refl _ _).alloc (Nat.le_refl _) _))).grown hgrow3 (hloc3.imp id (fun h => h.trans (by simp))))
        replace hown3 := Lib.hid hown3
        clear hgrow3 hnil3 hloc3 cV
        go_wp2_with fail
        go_roundw
        case rel => exact ⟨k + 1, rows ++ [(false, .slice (some ⟨W5.heap.size + 1, 0, none⟩) 1 1)], by omega, by go_num, by rw [HTake.out, HBad.out]; exact hrows3.out, by rw [List.length_append, flatR_snoc]; exact hown3.out, hb3.out⟩
        case measure => simp [intOf]; omega
      | some q =>
        have cq : Calls Tryz.prog 26 #[.slice pA p.length pc] wr fun e w' => (∃ A c, e = .returned (.tuple #[.agg #[.bool q.no, .slice A q.fs.length c], .bool true]) ∧ FS (wr.heap.size + 2) w' (.slice A q.fs.length c) q.fs) ∧ Below wr.heap.size wr w' := cq0.mono fun e w' ⟨hm, hb⟩ => ⟨(by
          rcases hm with ⟨h, _⟩ | ⟨q', A, c, h, he, hf⟩
          · rw [hq] at h; cases h
          · rw [hq] at h
            obtain rfl := Option.some.inj h
            exact ⟨A, c, he, hf⟩), hb⟩
        have HBad := Lib.hid (show (queP p).getD badQ = q by rw [hq]; rfl)
        replace cq := Lib.hid cq
        clear cq0 hq
        obtain ⟨qno, qfs⟩ := q
        dsimp only at cq
        go_upto_region 13 with (go_at_call 26; (with_reducible refine (cq.out).mono ?_); rintro e W5 ⟨⟨qA, qcc, rfl, hf5⟩, hb5⟩; have HB5 := Lib.hid (HBl.out.trans (hb5.mono HBl.out.size)); have hrow5 := Lib.hid (row_on HRow.out hb5); have HRows5 := Lib.hid (HRows.out.on hb5); have HZ5 := Lib.hid hb5.size; have HF5 := Lib.hid hf5; clear hf5 hb5 hcell)
        generalize hV : W5.alloc (.cells #[.bool qno, .slice qA qfs.length qcc] 53) = V
        have HBV := Lib.hid (show Below W3.heap.size W3 V by subst hV; exact HB5.out.alloc HB5.out.size _)
        have hrowV := Lib.hid (show V.ownsRow W3.heap.size 53 2 (.slice av rows.length cp) rows.length (flatR qc rows) by subst hV; exact hrow5.out.alloc _)
        have HRowsV := Lib.hid (show RowsOf V (Value.slice av rows.length cp).ownBlock rows ((P.take k).map fun p => (queP p).getD badQ) by subst hV; exact HRows5.out.on ((Below.refl _ _).alloc (Nat.le_refl _) _))
        have HFV := Lib.hid (show FSx (Value.slice av rows.length cp).ownBlock V (.slice qA qfs.length qcc) qfs by
          subst hV
          exact (FSx.of HF5.out (fun g hg => by have := (HRow.out.lt g hg).2; omega)).on ((Below.refl _ _).alloc (Nat.le_refl _) _))
        have cV := (show Blk V W5.heap.size 53 #[.bool qno, .slice qA qfs.length qcc] by subst hV; exact Blk.new rfl).cell
        clear hV
        go_wp2_with (at_builtin; refine wpList_append_own_at _ rfl _ _ 41 rfl W3.heap.size 53 i0 _ 2 32 Tryz.underlying41 Hi.out Hz0.out Hz1.out Hz2.out rfl (by decide) _ _ _ rfl (hrowV.out.alloc _) ⟨V.heap.size, 0, none⟩ 1 1 [.bool qno, .slice qA qfs.length qcc] rfl rfl ?c1 ?c2 ?c3 ?c4 ?c5 ?_)
        case c1 => exact (Blk.new (w := V) (t := 53) (cs := #[.bool qno, .slice qA qfs.length qcc]) rfl).news
        case c2 => simp [Value.oneCell']
        case c3 => unfold maxLen; omega
        case c4 => omega
        case c5 => have := HBV.out.size; simp; omega
        intro v' w3 hown3 hgrow3 hnil3 hloc3
        have hb3 := Lib.hid (below_app (HBV.out.alloc HBV.out.size _) hgrow3 (hrowV.out.alloc _) (Nat.le_refl _) (by simp; have := HBV.out.size; omega))
        have hrows3 := Lib.hid (((HRowsV.out.on ((Below.refl _ _).alloc (Nat.le_refl _) _)).snoc (r := (qno, .slice qA qfs.length qcc)) (q := ⟨qno, qfs⟩) rfl (HFV.out.on ((Below.refl _ _).alloc (Nat.le_refl _) _))).grown hgrow3 (hloc3.imp id (fun h => h.trans (by simp))))
        replace hown3 := Lib.hid hown3
        clear hgrow3 hnil3 hloc3 cV
        go_wp2_with fail
        go_roundw
        case rel => exact ⟨k + 1, rows ++ [(qno, .slice qA qfs.length qcc)], by omega, by go_num, by rw [HTake.out, HBad.out]; exact hrows3.out, by rw [List.length_append, flatR_snoc]; exact hown3.out, hb3.out⟩
        case measure => simp [intOf]; omega
    · obtain rfl : k = P.length := by omega
      clear hbel
      go_wp2_with fail
      go_ret2
      refine ⟨.inr ⟨_, _, HRR.out, rfl, ?_⟩, HB3.out.trans (HBl.out.mono HB3.out.size)⟩
      have hq := qs_of HRow.out HRows.out
      rw [List.take_length] at hq
      exact hq

end Go.Proofs.YtmjbaimccbkmpaaGreatDoor.med

namespace Go.Proofs.YtmjbaimccbkmpaaGreatDoor.med
open Go.RowKit Go.Proofs.YtmjbaimccbkmpaaGreatDoor.base Go.Proofs.YtmjbaimccbkmpaaGreatDoor.tok Go.Proofs.YtmjbaimccbkmpaaGreatDoor.rul
set_option linter.unusedVariables false

theorem join_bs (ts : List Bs) (sep : Bs) : Lib.join ((ts.map bs).map (·.data.toList)) sep = Lib.join ts sep := by
  congr 1
  rw [List.map_map]
  exact (List.map_congr_left fun x _ => rfl).trans (List.map_id ts)
theorem join_row {base : Nat} {v : Value} (ts : List Bs) (sg : Bs) (w : World) (h : w.ownsRow base 9 1 v ts.length (ts.map strV)) (h0 : 0 < ts.length) (hn : ts.length ≤ 1000000) (hlen : (Lib.join ts sg).length ≤ 1000000000) :
    Calls Tryz.prog 28 #[v, .string (bs sg)] w fun e w' => e = .returned (.string (bs (Lib.join ts sg))) ∧ Below w.heap.size w w' := by
  have hl : (ts.map strV).length = ts.length := List.length_map _
  rw [← hl] at h
  obtain ⟨g, cap, rfl, hg, hc, hx⟩ := owns_one h (by rw [hl]; exact h0)
  rw [hl] at hc ⊢
  have hj := Tryz.strings_Join g 0 cap (ts.map bs) (bs sg) w (fun j x hj => by
    rw [Nat.zero_add]
    rw [List.getElem?_map] at hj
    cases ht : ts[j]? with
    | none => rw [ht] at hj; cases hj
    | some s =>
      rw [ht] at hj
      obtain rfl := Option.some.inj hj
      exact hx j _ (by rw [List.getElem?_map, ht]; rfl)) hg (by rw [List.length_map]; omega) (by rw [List.length_map]; exact hc) (by rw [show (bs sg).data.toList = sg from rfl, join_bs]; omega)
  rw [List.length_map, show (bs sg).data.toList = sg from rfl, join_bs] at hj
  exact hj
theorem take_str {α : Type} {f : α → Bs} {L : List α} {k : Nat} {x : α} (h : L[k]? = some x) : ((L.take (k + 1)).map f).map strV = ((L.take k).map f).map strV ++ [strV (f x)] := by
  obtain ⟨hl, he⟩ := List.getElem?_eq_some_iff.1 h
  rw [List.take_succ_eq_append_getElem hl, List.map_append, List.map_append, he]
  rfl

def TxRel (w : World) (Q : List Qu) (v x : Value) (wr : World) : Prop :=
  ∃ k : Nat, k ≤ Q.length ∧ x = .int .i64 k ∧ wr.ownsRow w.heap.size 9 1 v k (((Q.take k).map queT).map strV) ∧ Below w.heap.size w wr
def FxRel (w : World) (F : List Fe) (v x : Value) (wr : World) : Prop :=
  ∃ k : Nat, k ≤ F.length ∧ x = .int .i64 k ∧ wr.ownsRow w.heap.size 9 1 v k (((F.take k).map featT).map strV) ∧ Below w.heap.size w wr

set_option maxRecDepth 100000 in
set_option maxHeartbeats 16000000 in
theorem mtext_ct (v : Value) (Q : List Qu) (w : World) (hQ : QS w v Q) (hq : ∀ q ∈ Q, GoodQ q) (h0 : Q ≠ []) (hc : cnt Q ≤ 1203) (hE : MEnv w) :
    Calls Tryz.prog 14 #[v] w fun e w' => e = .returned (.string (bs (textP Q))) ∧ Below w.heap.size w w' := by
  obtain ⟨i0, hi, hz0, hz1, hz2⟩ := info_parts infoS
  have Hz0 := Lib.hid hz0
  have Hi := Lib.hid hi
  have Hz1 := Lib.hid hz1
  have Hz2 := Lib.hid hz2
  clear hz0 hi hz1 hz2
  obtain ⟨A, cap, rows, rfl, hcap, hrd, hrows⟩ := hQ
  obtain ⟨hQl, hfl⟩ := cnt_len Q
  have hQ3 : Q.length ≤ 1203 := by omega
  have hQi : (Q.length : Int) ≤ 1203 := by omega
  have hrl := hrd.1
  have cJ2 := Lib.hid (show ∀ (W : World) (base : Nat) (v : Value), W.ownsRow base 9 1 v Q.length ((Q.map queT).map strV) → Calls Tryz.prog 28 #[v, .string ⟨#[44, 32]⟩] W fun e w' => e = .returned (.string (bs (textP Q))) ∧ Below W.heap.size W w' from fun W base v h =>
    join_row (Q.map queT) [44, 32] W (by rw [List.length_map]; exact h) (by rw [List.length_map]; exact List.length_pos_iff.2 h0) (by rw [List.length_map]; omega) (by have := text_len hq hc; unfold textP at this; omega))
  have HRd := Lib.hid hrd
  have HRows := Lib.hid hrows
  have HQ := Lib.hid hq
  have HFl := Lib.hid (fun q hq => Nat.le_trans (hfl q hq) hc)
  have HE := Lib.hid hE
  clear hrd hrows hq hfl hE h0 hc hQl
  go_enter Tryz.func14, Tryz.ntmps14
  go_wp2_with fail
  go_loopw [3, 12] (fun v x wr => TxRel w Q v x wr) (fun _ x _ => Q.length - (intOf x).toNat)
  case atStart => exact ⟨0, Nat.zero_le _, rfl, World.ownsRow_nil _ _ _ _, Below.refl _ _⟩
  case round =>
    obtain ⟨k, hk, rfl, hrow, hbel⟩ := hrel
    obtain ⟨WO, hWO⟩ : ∃ WO, WO = wr := ⟨_, rfl⟩
    subst hWO
    have HBl := Lib.hid hbel
    have HRow := Lib.hid hrow
    obtain ⟨av, cp, rfl⟩ := row_form hrow
    clear hrow
    by_cases hlt : k < Q.length
    · have hlt' : (k : Int) < (Q.length : Int) := by omega
      obtain ⟨b, off, r, rfl, hbb, hr, hcell⟩ := Rd.at_ (HRd.out.keep hbel hbel.size) hlt
      obtain ⟨q, hqk⟩ : ∃ q, Q[k]? = some q := ⟨_, List.getElem?_eq_getElem hlt⟩
      obtain ⟨hno, hfs⟩ := HRows.out k r q hr hqk
      obtain ⟨no, fv⟩ := r
      simp only at hno hfs
      subst hno
      have hgq := HQ.out q (List.mem_of_getElem? hqk)
      have hfn : q.fs.length ≤ 1203 := HFl.out q (List.mem_of_getElem? hqk)
      obtain ⟨fA, fcap, rfl, hfc, hfrd, _⟩ := hfs
      have c0 : WO.cell? ⟨b, off + k * 2, none⟩ = some (.bool q.no) := hcell 0 (by omega)
      have c1 : WO.cell? ⟨b, off + k * 2 + 1, none⟩ = some (.slice fA q.fs.length fcap) := hcell 1 (by omega)
      have HTake := Lib.hid (take_str (f := queT) hqk)
      obtain ⟨no, F⟩ := q
      simp only at hfn hfc hfrd c0 c1 hgq
      have HF := Lib.hid hfrd
      have HGF := Lib.hid hgq
      have hFi : (F.length : Int) ≤ 1203 := by omega
      have cJ1 := Lib.hid (show ∀ (W : World) (base : Nat) (v : Value), W.ownsRow base 9 1 v F.length ((F.map featT).map strV) → Calls Tryz.prog 28 #[v, .string ⟨#[32, 97, 110, 100, 32]⟩] W fun e w' => e = .returned (.string (bs (Lib.join (F.map featT) andT))) ∧ Below W.heap.size W w' from fun W base v h =>
        join_row (F.map featT) andT W (by rw [List.length_map]; exact h) (by rw [List.length_map]; exact List.length_pos_iff.2 hgq.1) (by rw [List.length_map]; omega) (by
          have h1 := join_le (F.map featT) andT
          have h2 := feats_lens F hgq.2
          have h3 : andT.length = 5 := rfl
          rw [List.length_map, h3] at h1
          omega))
      have hjl : (bs (Lib.join (F.map featT) andT)).size ≤ 100000 := by
        have h1 := join_le (F.map featT) andT
        have h2 := feats_lens F hgq.2
        have h3 : andT.length = 5 := rfl
        rw [List.length_map, h3] at h1
        rw [bs_size]
        omega
      have hqt : queT ⟨no, F⟩ = (if no then notT else []) ++ Lib.join (F.map featT) andT := rfl
      have HQt := Lib.hid hqt
      generalize Lib.join (F.map featT) andT = J at *
      clear hbel hcell hr hqk hfrd hgq hfc hqt
      go_wp2_with fail
      generalize hV : WO.alloc (.cells #[.bool no, .slice fA F.length fcap] 53) = V
      have HBV := Lib.hid (show Below w.heap.size w V by subst hV; exact HBl.out.alloc HBl.out.size _)
      have HRowV := Lib.hid (show V.ownsRow w.heap.size 9 1 (.slice av k cp) k (((Q.take k).map queT).map strV) by subst hV; exact HRow.out.alloc _)
      have bV := Lib.hid (show Blk V WO.heap.size 53 #[.bool no, .slice fA F.length fcap] by subst hV; exact Blk.new rfl)
      have cV := bV.out.cell
      have HFV := Lib.hid (show Rd 2 fc V V.heap.size fA F.length F from HF.out.keep HBV.out HBV.out.size)
      clear hV c0 c1
      try go_wp2_with fail
      go_loopw [6, 19] (fun v x wx => FxRel V F v x wx) (fun _ x _ => F.length - (intOf x).toNat)
      case atStart => exact ⟨0, Nat.zero_le _, rfl, World.ownsRow_nil _ _ _ _, Below.refl _ _⟩
      case round =>
        obtain ⟨j, hj, rfl, hrow2, hbel2⟩ := hrel
        have HB2 := Lib.hid hbel2
        have HRow2 := Lib.hid hrow2
        obtain ⟨av2, cp2, rfl⟩ := row_form hrow2
        clear hrow2 cV
        by_cases hlt2 : j < F.length
        · have hlt2' : (j : Int) < (F.length : Int) := by omega
          obtain ⟨b2, off2, f, rfl, hbb2, hf, hcell2⟩ := Rd.at_ (HFV.out.keep hbel2 hbel2.size) hlt2
          have d0 : wr.cell? ⟨b2, off2 + j * 2, none⟩ = some (.int .i64 f.k) := hcell2 0 (by omega)
          have d1 : wr.cell? ⟨b2, off2 + j * 2 + 1, none⟩ = some (.int .i64 f.n) := hcell2 1 (by omega)
          have HTake2 := Lib.hid (take_str (f := featT) hf)
          have cT := Lib.hid (fun W (h : MEnv W) => mft_ct f (HGF.out.2 f (List.mem_of_getElem? hf)) W h)
          obtain ⟨fk, fn⟩ := f
          simp only at d0 d1
          dsimp only at cT
          have HEx := Lib.hid (HE.out.on ((HBV.out.trans (HB2.out.mono HBV.out.size)).alloc (HBV.out.trans (HB2.out.mono HBV.out.size)).size (.cells #[.int .i64 fk, .int .i64 fn] 55)))
          clear hbel2 hcell2 hf
          go_wp2_with (first
            | (go_at_call 27; (with_reducible refine (cT.out _ HEx.out).mono ?_); rintro e W3 ⟨rfl, hb3⟩; have HB3 := Lib.hid ((HB2.out.alloc HB2.out.size _).trans (hb3.mono (by have := HB2.out.size; simp; omega))); have hrow3 := Lib.hid (row_on (HRow2.out.alloc _) hb3); clear hb3 d0 d1)
            | (at_builtin; refine wpList_append_own _ rfl _ _ 23 rfl V.heap.size 9 i0 (.string .empty) 1 16 Tryz.underlying23 Hi.out Hz0.out Hz1.out Hz2.out rfl (by decide) _ _ _ rfl (hrow3.out.alloc _) ⟨W3.heap.size, 0, none⟩ 1 1 [strV (featT ⟨fk, fn⟩)] rfl rfl ?c1 ?c2 ?c3 ?c4 ?c5 ?_))
          case c1 => exact (Blk.new (w := W3) (t := 9) (cs := #[strV (featT ⟨fk, fn⟩)]) rfl).news
          case c2 => simp [Value.oneCell']
          case c3 => unfold maxLen; omega
          case c4 => omega
          case c5 => have := HB3.out.size; simp; omega
          intro v' w3 hown3 hgrow3 hnil3
          have hb3 := Lib.hid (below_app (HB3.out.alloc HB3.out.size _) hgrow3 (hrow3.out.alloc _) (Nat.le_refl _) (by simp; have := HB3.out.size; omega))
          replace hown3 := Lib.hid hown3
          clear hgrow3 hnil3
          go_wp2_with fail
          go_roundw
          case rel => exact ⟨j + 1, by omega, by go_num, by rw [HTake2.out]; simpa using hown3.out, hb3.out⟩
          case measure => simp [intOf]; omega
        · obtain rfl : j = F.length := by omega
          have HRow2F := Lib.hid (show wr.ownsRow V.heap.size 9 1 (.slice av2 F.length cp2) F.length ((F.map featT).map strV) by have := HRow2.out; rwa [List.take_length] at this)
          clear hbel2
          cases no
          · have HQs := Lib.hid (show queT ⟨false, F⟩ = J by rw [HQt.out]; rfl)
            rw [HQs.out] at HTake
            go_wp2_with (first
              | (go_at_call 28; (with_reducible refine (cJ1.out _ _ _ HRow2F.out).mono ?_); rintro e W4 ⟨rfl, hb4⟩; have HB4 := Lib.hid (HB2.out.trans (hb4.mono HB2.out.size)); have HBw4 := Lib.hid (HBV.out.trans (HB4.out.mono HBV.out.size)); have hrow4 := Lib.hid (row_on HRowV.out HB4.out); have cV4 := (bV.out.below HB4.out bV.out.lt).cell; clear hb4)
              | (at_builtin; refine wpList_append_own _ rfl _ _ 23 rfl w.heap.size 9 i0 (.string .empty) 1 16 Tryz.underlying23 Hi.out Hz0.out Hz1.out Hz2.out rfl (by decide) _ _ _ rfl (hrow4.out.alloc _) ⟨W4.heap.size, 0, none⟩ 1 1 [strV J] rfl rfl ?c1 ?c2 ?c3 ?c4 ?c5 ?_))
            case c1 => exact (Blk.new (w := W4) (t := 9) (cs := #[strV J]) rfl).news
            case c2 => simp [Value.oneCell']
            case c3 => unfold maxLen; omega
            case c4 => omega
            case c5 => have := HBw4.out.size; simp; omega
            intro v' w3 hown3 hgrow3 hnil3
            have hb3 := Lib.hid (below_app (HBw4.out.alloc HBw4.out.size _) hgrow3 (hrow4.out.alloc _) (Nat.le_refl _) (by simp; have := HBw4.out.size; omega))
            replace hown3 := Lib.hid hown3
            clear hgrow3 hnil3
            go_wp2_with fail
            go_roundw
            case rel => exact ⟨k + 1, by omega, by go_num, by rw [HTake.out]; simpa using hown3.out, hb3.out⟩
            case measure => simp [intOf]; omega
          · have hcat : (⟨#[110, 111, 116, 32]⟩ : ByteArray) ++ bs J = bs (queT ⟨true, F⟩) := by
              rw [HQt.out]
              apply ByteArray.ext; apply Array.ext'
              simp [bs, ByteArray.data_append, notT]
            have HCat := Lib.hid hcat
            have a1 : ¬ 9223372036854775807 < 4 + (bs J).size := by omega
            clear hcat
            go_wp2_with (first
              | (go_at_call 28; (with_reducible refine (cJ1.out _ _ _ HRow2F.out).mono ?_); rintro e W4 ⟨rfl, hb4⟩; have HB4 := Lib.hid (HB2.out.trans (hb4.mono HB2.out.size)); have HBw4 := Lib.hid (HBV.out.trans (HB4.out.mono HBV.out.size)); have hrow4 := Lib.hid (row_on HRowV.out HB4.out); have cV4 := (bV.out.below HB4.out bV.out.lt).cell; clear hb4)
              | (at_builtin; refine wpList_append_own _ rfl _ _ 23 rfl w.heap.size 9 i0 (.string .empty) 1 16 Tryz.underlying23 Hi.out Hz0.out Hz1.out Hz2.out rfl (by decide) _ _ _ rfl (hrow4.out.alloc _) ⟨W4.heap.size, 0, none⟩ 1 1 [.string (⟨#[110, 111, 116, 32]⟩ ++ bs J)] rfl rfl ?c1 ?c2 ?c3 ?c4 ?c5 ?_))
            case c1 => exact (Blk.new (w := W4) (t := 9) (cs := #[.string (⟨#[110, 111, 116, 32]⟩ ++ bs J)]) rfl).news
            case c2 => simp [Value.oneCell']
            case c3 => unfold maxLen; omega
            case c4 => omega
            case c5 => have := HBw4.out.size; simp; omega
            intro v' w3 hown3 hgrow3 hnil3
            have hb3 := Lib.hid (below_app (HBw4.out.alloc HBw4.out.size _) hgrow3 (hrow4.out.alloc _) (Nat.le_refl _) (by simp; have := HBw4.out.size; omega))
            replace hown3 := Lib.hid hown3
            clear hgrow3 hnil3
            go_wp2_with fail
            go_roundw
            case rel => exact ⟨k + 1, by omega, by go_num, by rw [HTake.out]; have h := hown3.out; rw [HCat.out] at h; simpa using h, hb3.out⟩
            case measure => simp [intOf]; omega
    · obtain rfl : k = Q.length := by omega
      have HRowF := Lib.hid (show WO.ownsRow w.heap.size 9 1 (.slice av Q.length cp) Q.length ((Q.map queT).map strV) by have := HRow.out; rwa [List.take_length] at this)
      clear hbel
      go_wp2_with (go_at_call 28; (with_reducible refine (cJ2.out _ _ _ HRowF.out).mono ?_); rintro e W4 ⟨rfl, hb4⟩; have HB4 := Lib.hid (HBl.out.trans (hb4.mono HBl.out.size)); clear hb4)
      go_ret
      exact ⟨rfl, HB4.out⟩

end Go.Proofs.YtmjbaimccbkmpaaGreatDoor.med

namespace Go.Proofs.YtmjbaimccbkmpaaGreatDoor.med
open Go.RowKit Go.Proofs.YtmjbaimccbkmpaaGreatDoor.base Go.Proofs.YtmjbaimccbkmpaaGreatDoor.tok Go.Proofs.YtmjbaimccbkmpaaGreatDoor.rul
set_option linter.unusedVariables false

abbrev En.v (e : En) : Value := .agg #[.int .i64 e.w, .int .i64 e.h, .bool e.dark, .bool e.pr]
theorem so_is {f : Fe} {e : En} {b : Bool} (h : isP f e = some b) : soP f e = if b then 1 else -1 := by
  unfold soP
  rw [h]
  cases b <;> rfl

set_option maxRecDepth 100000 in
set_option maxHeartbeats 8000000 in
theorem so_ct (f : Fe) (hf : GoodF f) (e : En) (w : World) :
    Calls Tryz.prog 50 #[.agg #[.int .i64 f.k, .int .i64 f.n], e.v] w fun x w' => x = .returned (.int .i64 (soP f e)) ∧ Below w.heap.size w w' := by
  obtain ⟨k, n⟩ := f
  obtain ⟨ew, eh, ed, ep⟩ := e
  have hb := Lib.hid (show Below w.heap.size w ((w.alloc (.cells #[.int .i64 k, .int .i64 n] 55)).alloc (.cells #[.int .i64 ew, .int .i64 eh, .bool ed, .bool ep] 48)) from ((Below.refl _ _).alloc (Nat.le_refl _) _).alloc (by simp) _)
  have hk : k = 1 ∨ k = 2 ∨ k = 3 ∨ k = 4 ∨ k = 5 ∨ k = 6 ∨ k = 7 ∨ k = 8 ∨ k = 9 ∨ k = 10 ∨ k = 11 ∨ k = 12 := by
    rcases hf with ⟨a, b, _⟩ | ⟨a, b, _⟩ | ⟨a, b, _⟩ | h
    · simp only at a b; omega
    · simp only at a b; omega
    · simp only at a b; omega
    · have := congrArg Fe.k h
      have h12 : unk.k = 12 := rfl
      simp only at this
      omega
  clear hf
  simp only [En.v]
  rcases hk with rfl | rfl | rfl | rfl | rfl | rfl | rfl | rfl | rfl | rfl | rfl | rfl
  · have HR := Lib.hid (show soP ⟨1, n⟩ ⟨ew, eh, ed, ep⟩ = 1 from rfl)
    go_enter Tryz.func50, Tryz.ntmps50
    go_wp2_with fail
    go_ret
    exact ⟨by rw [HR.out]; rfl, hb.out⟩
  · cases ep
    · have HR := Lib.hid (show soP ⟨2, n⟩ ⟨ew, eh, ed, false⟩ = 1 from rfl)
      go_enter Tryz.func50, Tryz.ntmps50
      go_wp2_with fail
      go_ret
      exact ⟨by rw [HR.out]; rfl, hb.out⟩
    · have HR := Lib.hid (show soP ⟨2, n⟩ ⟨ew, eh, ed, true⟩ = -1 from rfl)
      go_enter Tryz.func50, Tryz.ntmps50
      go_wp2_with fail
      go_ret
      exact ⟨by rw [HR.out]; rfl, hb.out⟩
  · cases ep
    · have HR := Lib.hid (show soP ⟨3, n⟩ ⟨ew, eh, ed, false⟩ = -1 from rfl)
      go_enter Tryz.func50, Tryz.ntmps50
      go_wp2_with fail
      go_ret
      exact ⟨by rw [HR.out]; rfl, hb.out⟩
    · have HR := Lib.hid (show soP ⟨3, n⟩ ⟨ew, eh, ed, true⟩ = 1 from rfl)
      go_enter Tryz.func50, Tryz.ntmps50
      go_wp2_with fail
      go_ret
      exact ⟨by rw [HR.out]; rfl, hb.out⟩
  · by_cases hc : n ≤ ew
    · have HR := Lib.hid (show soP ⟨4, n⟩ ⟨ew, eh, ed, ep⟩ = 1 by rw [so_is (b := true) (by show some (decide (n ≤ ew)) = _; rw [decide_eq_true hc])]; rfl)
      go_enter Tryz.func50, Tryz.ntmps50
      go_wp2_with fail
      go_ret
      exact ⟨by rw [HR.out]; rfl, hb.out⟩
    · have HR := Lib.hid (show soP ⟨4, n⟩ ⟨ew, eh, ed, ep⟩ = -1 by rw [so_is (b := false) (by show some (decide (n ≤ ew)) = _; rw [decide_eq_false hc])]; rfl)
      go_enter Tryz.func50, Tryz.ntmps50
      go_wp2_with fail
      go_ret
      exact ⟨by rw [HR.out]; rfl, hb.out⟩
  · by_cases hc : ew ≤ n
    · have HR := Lib.hid (show soP ⟨5, n⟩ ⟨ew, eh, ed, ep⟩ = 1 by rw [so_is (b := true) (by show some (decide (ew ≤ n)) = _; rw [decide_eq_true hc])]; rfl)
      go_enter Tryz.func50, Tryz.ntmps50
      go_wp2_with fail
      go_ret
      exact ⟨by rw [HR.out]; rfl, hb.out⟩
    · have HR := Lib.hid (show soP ⟨5, n⟩ ⟨ew, eh, ed, ep⟩ = -1 by rw [so_is (b := false) (by show some (decide (ew ≤ n)) = _; rw [decide_eq_false hc])]; rfl)
      go_enter Tryz.func50, Tryz.ntmps50
      go_wp2_with fail
      go_ret
      exact ⟨by rw [HR.out]; rfl, hb.out⟩
  · by_cases hc : n ≤ eh
    · have HR := Lib.hid (show soP ⟨6, n⟩ ⟨ew, eh, ed, ep⟩ = 1 by rw [so_is (b := true) (by show some (decide (n ≤ eh)) = _; rw [decide_eq_true hc])]; rfl)
      go_enter Tryz.func50, Tryz.ntmps50
      go_wp2_with fail
      go_ret
      exact ⟨by rw [HR.out]; rfl, hb.out⟩
    · have HR := Lib.hid (show soP ⟨6, n⟩ ⟨ew, eh, ed, ep⟩ = -1 by rw [so_is (b := false) (by show some (decide (n ≤ eh)) = _; rw [decide_eq_false hc])]; rfl)
      go_enter Tryz.func50, Tryz.ntmps50
      go_wp2_with fail
      go_ret
      exact ⟨by rw [HR.out]; rfl, hb.out⟩
  · by_cases hc : eh ≤ n
    · have HR := Lib.hid (show soP ⟨7, n⟩ ⟨ew, eh, ed, ep⟩ = 1 by rw [so_is (b := true) (by show some (decide (eh ≤ n)) = _; rw [decide_eq_true hc])]; rfl)
      go_enter Tryz.func50, Tryz.ntmps50
      go_wp2_with fail
      go_ret
      exact ⟨by rw [HR.out]; rfl, hb.out⟩
    · have HR := Lib.hid (show soP ⟨7, n⟩ ⟨ew, eh, ed, ep⟩ = -1 by rw [so_is (b := false) (by show some (decide (eh ≤ n)) = _; rw [decide_eq_false hc])]; rfl)
      go_enter Tryz.func50, Tryz.ntmps50
      go_wp2_with fail
      go_ret
      exact ⟨by rw [HR.out]; rfl, hb.out⟩
  · cases ed
    · have HR := Lib.hid (show soP ⟨8, n⟩ ⟨ew, eh, false, ep⟩ = -1 from rfl)
      go_enter Tryz.func50, Tryz.ntmps50
      go_wp2_with fail
      go_ret
      exact ⟨by rw [HR.out]; rfl, hb.out⟩
    · have HR := Lib.hid (show soP ⟨8, n⟩ ⟨ew, eh, true, ep⟩ = 1 from rfl)
      go_enter Tryz.func50, Tryz.ntmps50
      go_wp2_with fail
      go_ret
      exact ⟨by rw [HR.out]; rfl, hb.out⟩
  · cases ed
    · have HR := Lib.hid (show soP ⟨9, n⟩ ⟨ew, eh, false, ep⟩ = 1 from rfl)
      go_enter Tryz.func50, Tryz.ntmps50
      go_wp2_with fail
      go_ret
      exact ⟨by rw [HR.out]; rfl, hb.out⟩
    · have HR := Lib.hid (show soP ⟨9, n⟩ ⟨ew, eh, true, ep⟩ = -1 from rfl)
      go_enter Tryz.func50, Tryz.ntmps50
      go_wp2_with fail
      go_ret
      exact ⟨by rw [HR.out]; rfl, hb.out⟩
  · by_cases hc : ew ≤ eh
    · have HR := Lib.hid (show soP ⟨10, n⟩ ⟨ew, eh, ed, ep⟩ = 1 by rw [so_is (b := true) (by show some (decide (ew ≤ eh)) = _; rw [decide_eq_true hc])]; rfl)
      go_enter Tryz.func50, Tryz.ntmps50
      go_wp2_with fail
      go_ret
      exact ⟨by rw [HR.out]; rfl, hb.out⟩
    · have HR := Lib.hid (show soP ⟨10, n⟩ ⟨ew, eh, ed, ep⟩ = -1 by rw [so_is (b := false) (by show some (decide (ew ≤ eh)) = _; rw [decide_eq_false hc])]; rfl)
      go_enter Tryz.func50, Tryz.ntmps50
      go_wp2_with fail
      go_ret
      exact ⟨by rw [HR.out]; rfl, hb.out⟩
  · by_cases hc : eh < ew
    · have HR := Lib.hid (show soP ⟨11, n⟩ ⟨ew, eh, ed, ep⟩ = 1 by rw [so_is (b := true) (by show some (decide (eh < ew)) = _; rw [decide_eq_true hc])]; rfl)
      go_enter Tryz.func50, Tryz.ntmps50
      go_wp2_with fail
      go_ret
      exact ⟨by rw [HR.out]; rfl, hb.out⟩
    · have HR := Lib.hid (show soP ⟨11, n⟩ ⟨ew, eh, ed, ep⟩ = -1 by rw [so_is (b := false) (by show some (decide (eh < ew)) = _; rw [decide_eq_false hc])]; rfl)
      go_enter Tryz.func50, Tryz.ntmps50
      go_wp2_with fail
      go_ret
      exact ⟨by rw [HR.out]; rfl, hb.out⟩
  · have HR := Lib.hid (show soP ⟨12, n⟩ ⟨ew, eh, ed, ep⟩ = 0 from rfl)
    go_enter Tryz.func50, Tryz.ntmps50
    go_wp2_with fail
    go_ret
    exact ⟨by rw [HR.out]; rfl, hb.out⟩

set_option maxRecDepth 100000 in
set_option maxHeartbeats 8000000 in
theorem all_ct (no : Bool) (F : List Fe) (A : Option Addr) (cap : Nat) (hF : ∀ f ∈ F, GoodF f) (hn : F.length ≤ 1000000) (e : En) (w : World) (hrd : Rd 2 fc w w.heap.size A F.length F) :
    Calls Tryz.prog 29 #[.agg #[.bool no, .slice A F.length cap], e.v] w fun x w' => x = .returned (.int .i64 (allP ⟨no, F⟩ e)) ∧ Below w.heap.size w w' := by
  have hall : allP ⟨no, F⟩ e = if no then - minF e F 1 else minF e F 1 := rfl
  rw [hall]
  clear hall
  have hbd := min_bd e F 1 (by omega) (by omega)
  obtain ⟨m, hm⟩ : ∃ m, minF e F 1 = m := ⟨_, rfl⟩
  rw [hm] at hbd ⊢
  have HM := Lib.hid hm
  have HRd := Lib.hid hrd
  have HF := Lib.hid hF
  have cS := Lib.hid (fun f hf w => so_ct f hf e w)
  have hso := Lib.hid (fun f => so_cases f e)
  have hFi : (F.length : Int) ≤ 1000000 := by omega
  clear hm hrd hF
  generalize he : e = e0 at *
  obtain ⟨ew, eh, ed, ep⟩ := e0
  simp only [En.v] at cS ⊢
  have HW0 := Lib.hid (show Below w.heap.size w ((w.alloc (.cells #[.bool no, .slice A F.length cap] 53)).alloc (.cells #[.int .i64 ew, .int .i64 eh, .bool ed, .bool ep] 48)) from ((Below.refl _ _).alloc (Nat.le_refl _) _).alloc (by simp) _)
  have B0 := Lib.hid (show Blk ((w.alloc (.cells #[.bool no, .slice A F.length cap] 53)).alloc (.cells #[.int .i64 ew, .int .i64 eh, .bool ed, .bool ep] 48)) w.heap.size 53 #[.bool no, .slice A F.length cap] from (Blk.new rfl).alloc _)
  have B1 := Lib.hid (show Blk ((w.alloc (.cells #[.bool no, .slice A F.length cap] 53)).alloc (.cells #[.int .i64 ew, .int .i64 eh, .bool ed, .bool ep] 48)) (w.heap.size + 1) 48 #[.int .i64 ew, .int .i64 eh, .bool ed, .bool ep] from Blk.new (by simp))
  go_enter Tryz.func29, Tryz.ntmps29
  go_wp2_with fail
  generalize hW0 : (w.alloc (.cells #[.bool no, .slice A F.length cap] 53)).alloc (.cells #[.int .i64 ew, .int .i64 eh, .bool ed, .bool ep] 48) = W0 at *
  clear hW0
  go_loopw [5, 11] (fun v x wr => ∃ (j : Nat) (a : Int), j ≤ F.length ∧ x = .int .i64 j ∧ v = .int .i64 a ∧ -1 ≤ a ∧ a ≤ 1 ∧ minF ⟨ew, eh, ed, ep⟩ (F.drop j) a = m ∧ Below W0.heap.size W0 wr) (fun _ x _ => F.length - (intOf x).toNat)
  case atStart => exact ⟨0, 1, Nat.zero_le _, rfl, rfl, by omega, by omega, HM.out, Below.refl _ _⟩
  case round =>
    obtain ⟨j, a, hj, rfl, rfl, ha0, ha1, hinv, hbel⟩ := hrel
    have HBw := Lib.hid (HW0.out.trans (hbel.mono HW0.out.size))
    have q0 := B0.out.below hbel B0.out.lt
    have q1 := B1.out.below hbel B1.out.lt
    have HBl := Lib.hid hbel
    have HInv := Lib.hid hinv
    clear hbel hinv HM
    by_cases hlt : j < F.length
    · have hlt' : (j : Int) < (F.length : Int) := by omega
      obtain ⟨b, off, f, rfl, hbb, hf, hcell⟩ := Rd.at_ (HRd.out.keep HBw.out HBw.out.size) hlt
      have d0 : wr.cell? ⟨b, off + j * 2, none⟩ = some (.int .i64 f.k) := hcell 0 (by omega)
      have d1 : wr.cell? ⟨b, off + j * 2 + 1, none⟩ = some (.int .i64 f.n) := hcell 1 (by omega)
      have cT := Lib.hid (fun W => cS.out f (HF.out f (List.mem_of_getElem? hf)) W)
      have hsf := hso.out f
      have HNew := Lib.hid (show minF ⟨ew, eh, ed, ep⟩ (F.drop (j + 1)) (min a (soP f ⟨ew, eh, ed, ep⟩)) = m by
        rw [← HInv.out]
        obtain ⟨hl, he'⟩ := List.getElem?_eq_some_iff.1 hf
        rw [List.drop_eq_getElem_cons hl, he', minF])
      generalize soP f ⟨ew, eh, ed, ep⟩ = s at *
      obtain ⟨fk, fn⟩ := f
      simp only at d0 d1
      dsimp only at cT
      have p1 := fun o => (q1.alloc o).cell
      replace q0 := Lib.hid q0
      clear hcell hf
      go_wp2_with (go_at_call 50; (with_reducible refine (cT.out _).mono ?_); rintro e W3 ⟨rfl, hb3⟩; have HB3 := Lib.hid ((HBl.out.alloc HBl.out.size _).trans (hb3.mono (by have := HBl.out.size; simp; omega))); clear hb3 d0 d1)
      go_roundw
      case rel => exact ⟨j + 1, min a s, by omega, by go_num, rfl, by omega, by omega, HNew.out, HB3.out⟩
      case measure => simp [intOf]; omega
    · obtain rfl : j = F.length := by omega
      have HFin := Lib.hid (show a = m by rw [← HInv.out, List.drop_length]; rfl)
      have c0 := q0.cell
      have q2 : IntKind.i64.wrap (-a) = -a := IntWalk.i64_in _ (by omega)
      clear q1
      cases no
      · go_wp2_with fail
        go_ret
        exact ⟨by rw [HFin.out]; rfl, HBw.out⟩
      · go_wp2_with fail
        go_ret
        exact ⟨by rw [HFin.out]; rfl, HBw.out⟩

end Go.Proofs.YtmjbaimccbkmpaaGreatDoor.med

namespace Go.Proofs.YtmjbaimccbkmpaaGreatDoor.med
open Go.RowKit Go.Proofs.YtmjbaimccbkmpaaGreatDoor.base Go.Proofs.YtmjbaimccbkmpaaGreatDoor.tok Go.Proofs.YtmjbaimccbkmpaaGreatDoor.rul
set_option linter.unusedVariables false

theorem mread_ct (s : Bs) (hs : s.length ≤ 9223372036854775807) (w : World) (hE : MEnv w) :
    Calls Tryz.prog 13 #[.string (bs s)] w fun e w' => RdRet (readP s) e w' ∧ Below w.heap.size w w' := by
  by_cases h : s.length ≤ 400
  · by_cases h0 : solP (cutP s) = []
    · exact read_empty s h h0 w hE
    · exact read_go s h h0 w hE
  · exact read_large s (by omega) hs w
theorem mread_some (s : Bs) (hs : s.length ≤ 9223372036854775807) (Q : List Qu) (h : readP s = some Q) (w : World) (hE : MEnv w) :
    Calls Tryz.prog 13 #[.string (bs s)] w fun e w' => (∃ A cap, e = .returned (.tuple #[.slice A Q.length cap, .int .i64 0]) ∧ QS w' (.slice A Q.length cap) Q) ∧ Below w.heap.size w w' :=
  (mread_ct s hs w hE).mono fun e w' ⟨hr, hb⟩ => ⟨(by
    rcases hr with ⟨hn, _⟩ | ⟨Q', v, hq, he, hv⟩
    · rw [h] at hn; cases hn
    · rw [h] at hq
      obtain rfl := Option.some.inj hq
      have hv' := hv
      obtain ⟨A, cap, rows, rfl, _⟩ := hv
      exact ⟨A, cap, he, hv'⟩), hb⟩
theorem mread_none (s : Bs) (hs : s.length ≤ 9223372036854775807) (h : readP s = none) (w : World) (hE : MEnv w) :
    Calls Tryz.prog 13 #[.string (bs s)] w fun e w' => e = .returned (.tuple #[.slice none 0 0, .int .i64 2]) ∧ Below w.heap.size w w' :=
  (mread_ct s hs w hE).mono fun e w' ⟨hr, hb⟩ => ⟨(by
    rcases hr with ⟨_, he⟩ | ⟨Q', v, hq, he, hv⟩
    · exact he
    · rw [h] at hq; cases hq), hb⟩

/-- what Holds tells: if it holds, and which fault -/
def holdP (s : Bs) (e : En) : Bool × Int :=
  match readP s with
  | none => (false, 2)
  | some Q => if envOk e then (anyQ Q e, 0) else (false, 1)
theorem hold_none {s : Bs} {e : En} (h : readP s = none) : holdP s e = (false, 2) := by unfold holdP; rw [h]
theorem hold_env {s : Bs} {e : En} {Q : List Qu} (h : readP s = some Q) (he : envOk e = false) : holdP s e = (false, 1) := by unfold holdP; rw [h]; simp only; rw [he]; rfl
theorem hold_some {s : Bs} {e : En} {Q : List Qu} (h : readP s = some Q) (he : envOk e = true) : holdP s e = (anyQ Q e, 0) := by unfold holdP; rw [h]; simp only; rw [he]; rfl
theorem any_step {Q : List Qu} {k : Nat} {q : Qu} (e : En) (h : Q[k]? = some q) : anyQ (Q.drop k) e = (decide (allP q e = 1) || anyQ (Q.drop (k + 1)) e) := by
  obtain ⟨hl, he⟩ := List.getElem?_eq_some_iff.1 h
  rw [List.drop_eq_getElem_cons hl, he]
  rfl

set_option maxRecDepth 100000 in
set_option maxHeartbeats 8000000 in
theorem holds_none (s : Bs) (hs : s.length ≤ 9223372036854775807) (h : readP s = none) (e : En) (w : World) (hE : MEnv w) :
    Calls Tryz.prog 16 #[.string (bs s), e.v] w fun x w' => x = .returned (.tuple #[.bool false, .int .i64 2]) ∧ Below w.heap.size w w' := by
  obtain ⟨ew, eh, ed, ep⟩ := e
  simp only [En.v]
  have hb0 := (Below.refl w.heap.size w).alloc (Nat.le_refl _) (.cells #[.int .i64 ew, .int .i64 eh, .bool ed, .bool ep] 48)
  have HB0 := Lib.hid hb0
  have cR := Lib.hid (mread_none s hs h _ (hE.on hb0))
  clear hE h hs hb0
  go_enter Tryz.func16, Tryz.ntmps16
  go_wp2_with (go_at_call 13; (with_reducible refine (cR.out).mono ?_); rintro e W1 ⟨rfl, hb1⟩; have HB1 := Lib.hid (HB0.out.trans (hb1.mono (by simp))); clear hb1)
  go_ret2
  exact ⟨rfl, HB1.out⟩

set_option maxRecDepth 100000 in
set_option maxHeartbeats 8000000 in
theorem holds_env (s : Bs) (hs : s.length ≤ 9223372036854775807) (Q : List Qu) (h : readP s = some Q) (e : En) (he : envOk e = false) (w : World) (hE : MEnv w) :
    Calls Tryz.prog 16 #[.string (bs s), e.v] w fun x w' => x = .returned (.tuple #[.bool false, .int .i64 1]) ∧ Below w.heap.size w w' := by
  obtain ⟨ew, eh, ed, ep⟩ := e
  have hor : ew < 1 ∨ (¬ ew < 1 ∧ 4000 < ew) ∨ (¬ ew < 1 ∧ ¬ 4000 < ew ∧ eh < 1) ∨ (¬ ew < 1 ∧ ¬ 4000 < ew ∧ ¬ eh < 1 ∧ 4000 < eh) := by
    unfold envOk at he
    have := of_decide_eq_false he
    simp only at this
    omega
  simp only [En.v]
  have hb0 := (Below.refl w.heap.size w).alloc (Nat.le_refl _) (.cells #[.int .i64 ew, .int .i64 eh, .bool ed, .bool ep] 48)
  have HB0 := Lib.hid hb0
  have cR := Lib.hid (mread_some s hs Q h _ (hE.on hb0))
  have HBlk := Lib.hid (Blk.new (w := w) (t := 48) (cs := #[.int .i64 ew, .int .i64 eh, .bool ed, .bool ep]) rfl)
  clear hE h hs hb0 he
  rcases hor with x1 | ⟨x1, x2⟩ | ⟨x1, x2, x3⟩ | ⟨x1, x2, x3, x4⟩
  all_goals
    go_enter Tryz.func16, Tryz.ntmps16
    go_wp2_with (go_at_call 13; (with_reducible refine (cR.out).mono ?_); rintro e W1 ⟨⟨A, cap, rfl, _⟩, hb1⟩; have HB1 := Lib.hid (HB0.out.trans (hb1.mono (by simp))); have cE := (HBlk.out.below hb1 (by simp)).cell; clear hb1)
    go_ret2
    exact ⟨rfl, HB1.out⟩

set_option maxRecDepth 100000 in
set_option maxHeartbeats 8000000 in
theorem holds_some (s : Bs) (hs : s.length ≤ 9223372036854775807) (Q : List Qu) (h : readP s = some Q) (e : En) (he : envOk e = true) (w : World) (hE : MEnv w) :
    Calls Tryz.prog 16 #[.string (bs s), e.v] w fun x w' => x = .returned (.tuple #[.bool (anyQ Q e), .int .i64 0]) ∧ Below w.heap.size w w' := by
  obtain ⟨hq0, hqg, hqc⟩ := read_good h
  obtain ⟨hQl, hfl⟩ := cnt_len Q
  have hQ3 : Q.length ≤ 1203 := by omega
  have hQi : (Q.length : Int) ≤ 1203 := by omega
  have HG := Lib.hid hqg
  have HFl := Lib.hid (fun q hq => Nat.le_trans (hfl q hq) hqc)
  obtain ⟨R, hR⟩ : ∃ R, anyQ Q e = R := ⟨_, rfl⟩
  rw [hR]
  have HR := Lib.hid hR
  obtain ⟨ew, eh, ed, ep⟩ := e
  have hor : ¬ ew < 1 ∧ ¬ 4000 < ew ∧ ¬ eh < 1 ∧ ¬ 4000 < eh := by
    unfold envOk at he
    have := of_decide_eq_true he
    simp only at this
    omega
  obtain ⟨x1, x2, x3, x4⟩ := hor
  simp only [En.v]
  have hb0 := (Below.refl w.heap.size w).alloc (Nat.le_refl _) (.cells #[.int .i64 ew, .int .i64 eh, .bool ed, .bool ep] 48)
  have HB0 := Lib.hid hb0
  have cR := Lib.hid (mread_some s hs Q h _ (hE.on hb0))
  have cAll := Lib.hid (fun no F A cap hF hn W hrd => all_ct no F A cap hF hn ⟨ew, eh, ed, ep⟩ W hrd)
  simp only [En.v] at cAll
  have HBlk := Lib.hid (Blk.new (w := w) (t := 48) (cs := #[.int .i64 ew, .int .i64 eh, .bool ed, .bool ep]) rfl)
  clear hE h hs hb0 he hR hqg hfl hq0 hqc hQl
  go_enter Tryz.func16, Tryz.ntmps16
  go_wp2_with (go_at_call 13; (with_reducible refine (cR.out).mono ?_); rintro e W1 ⟨⟨A, cap, rfl, hqs⟩, hb1⟩; have HB1 := Lib.hid (HB0.out.trans (hb1.mono (by simp))); have bE := HBlk.out.below hb1 (by simp); have cE := bE.cell; have BE := Lib.hid bE; have HQS := Lib.hid hqs; clear hb1 hqs bE)
  clear cE
  go_loopw [38] (fun x wr => ∃ k : Nat, k ≤ Q.length ∧ x = .int .i64 k ∧ anyQ (Q.drop k) ⟨ew, eh, ed, ep⟩ = R ∧ Below W1.heap.size W1 wr) (fun x _ => Q.length - (intOf x).toNat)
  case atStart => exact ⟨0, Nat.zero_le _, rfl, HR.out, Below.refl _ _⟩
  case round =>
    obtain ⟨k, hk, rfl, hinv, hbel⟩ := hrel
    have HInv := Lib.hid hinv
    have HBl := Lib.hid hbel
    have q1 := BE.out.below hbel BE.out.lt
    obtain ⟨A', cap', rows, hv, hcap, hrd, hrows⟩ := HQS.out.on hbel
    obtain ⟨rfl, -, rfl⟩ : A = A' ∧ Q.length = Q.length ∧ cap = cap' := by injection hv with a b c; exact ⟨a, b, c⟩
    clear hinv hbel hv HR
    by_cases hlt : k < Q.length
    · have hlt' : (k : Int) < (Q.length : Int) := by omega
      obtain ⟨b, off, r, rfl, hbb, hr, hcell⟩ := Rd.at_ hrd hlt
      obtain ⟨q, hqk⟩ : ∃ q, Q[k]? = some q := ⟨_, List.getElem?_eq_getElem hlt⟩
      obtain ⟨hno, hfs⟩ := hrows k r q hr hqk
      obtain ⟨no, fv⟩ := r
      simp only at hno hfs
      subst hno
      have hgq := HG.out q (List.mem_of_getElem? hqk)
      have hfn : q.fs.length ≤ 1203 := HFl.out q (List.mem_of_getElem? hqk)
      obtain ⟨fA, fcap, rfl, hfc, hfrd, _⟩ := hfs
      have c0 : wr.cell? ⟨b, off + k * 2, none⟩ = some (.bool q.no) := hcell 0 (by omega)
      have c1 : wr.cell? ⟨b, off + k * 2 + 1, none⟩ = some (.slice fA q.fs.length fcap) := hcell 1 (by omega)
      have HStep := Lib.hid (any_step ⟨ew, eh, ed, ep⟩ hqk)
      obtain ⟨no, F⟩ := q
      simp only at hfn hfc hfrd c0 c1 hgq
      have HF := Lib.hid hfrd
      have cA := Lib.hid (cAll.out no F fA fcap hgq.2 (by omega))
      have p1 := fun o => (q1.alloc o).cell
      clear hcell hr hqk hfrd hgq hfc hrd hrows
      by_cases hone : allP ⟨no, F⟩ ⟨ew, eh, ed, ep⟩ = 1
      · have HFin := Lib.hid (show R = true by rw [← HInv.out, HStep.out, decide_eq_true hone]; rfl)
        rw [hone] at cA
        clear hone
        go_wp2_with (go_at_call 29; (with_reducible refine (cA.out _ (HF.out.keep ((Below.refl _ _).alloc (Nat.le_refl _) _) (by simp))).mono ?_); rintro e W3 ⟨rfl, hb3⟩; have HB3 := Lib.hid ((HBl.out.alloc HBl.out.size _).trans (hb3.mono (by have := HBl.out.size; simp; omega))); clear hb3 c0 c1)
        go_ret2
        exact ⟨by rw [HFin.out]; rfl, HB1.out.trans (HB3.out.mono HB1.out.size)⟩
      · have HNew := Lib.hid (show anyQ (Q.drop (k + 1)) ⟨ew, eh, ed, ep⟩ = R by rw [← HInv.out, HStep.out, decide_eq_false hone]; rfl)
        generalize allP ⟨no, F⟩ ⟨ew, eh, ed, ep⟩ = a at *
        have b1 : (a == 1) = false := by simpa using hone
        clear hone
        go_wp2_with (go_at_call 29; (with_reducible refine (cA.out _ (HF.out.keep ((Below.refl _ _).alloc (Nat.le_refl _) _) (by simp))).mono ?_); rintro e W3 ⟨rfl, hb3⟩; have HB3 := Lib.hid ((HBl.out.alloc HBl.out.size _).trans (hb3.mono (by have := HBl.out.size; simp; omega))); clear hb3 c0 c1)
        go_roundw
        case rel => exact ⟨k + 1, by omega, by go_num, HNew.out, HB3.out⟩
        case measure => simp [intOf]; omega
    · obtain rfl : k = Q.length := by omega
      have HFin := Lib.hid (show R = false by rw [← HInv.out, List.drop_length]; rfl)
      clear hrd hrows
      go_wp2_with fail
      go_ret2
      exact ⟨by rw [HFin.out]; rfl, HB1.out.trans (HBl.out.mono HB1.out.size)⟩

theorem mholds_ct (s : Bs) (hs : s.length ≤ 9223372036854775807) (e : En) (w : World) (hE : MEnv w) :
    Calls Tryz.prog 16 #[.string (bs s), e.v] w fun x w' => x = .returned (.tuple #[.bool (holdP s e).1, .int .i64 (holdP s e).2]) ∧ Below w.heap.size w w' := by
  cases h : readP s with
  | none => rw [hold_none h]; exact holds_none s hs h e w hE
  | some Q =>
    cases he : envOk e
    · rw [hold_env h he]; exact holds_env s hs Q h e he w hE
    · rw [hold_some h he]; exact holds_some s hs Q h e he w hE

/-! ### the law's own fact -/
def wideT : Bs := [40, 109, 105, 110, 45, 119, 105, 100, 116, 104, 58, 32, 54, 48, 48, 112, 120, 41]
theorem wide_text : wideT = textP [⟨false, [⟨4, 600⟩]⟩] := by decide +kernel
theorem wide_hold : holdP wideT ⟨600, 1, false, false⟩ = (true, 0) := by
  have hq : ∀ q ∈ [(⟨false, [⟨4, 600⟩]⟩ : Qu)], GoodQ q := fun q hq => by
    obtain rfl : q = ⟨false, [⟨4, 600⟩]⟩ := by simpa using hq
    exact ⟨by simp, fun f hf => by
      obtain rfl : f = ⟨4, 600⟩ := by simpa using hf
      exact .inr (.inl ⟨by decide, by decide, by decide, by decide⟩)⟩
  have h := read_text (by simp) hq
  rw [← wide_text, if_neg (by decide)] at h
  rw [hold_some h (by decide)]
  rfl
set_option maxRecDepth 100000 in
theorem wide_ct (w : World) (hE : MEnv w) : Calls Tryz.prog 12 #[] w fun x w' => x = .returned (.bool true) ∧ Below w.heap.size w w' := by
  have cH := mholds_ct wideT (by decide) ⟨600, 1, false, false⟩ w hE
  rw [wide_hold] at cH
  replace cH := Lib.hid (show Calls Tryz.prog 16 #[.string ⟨#[40, 109, 105, 110, 45, 119, 105, 100, 116, 104, 58, 32, 54, 48, 48, 112, 120, 41]⟩, .agg #[.int .i64 600, .int .i64 1, .bool false, .bool false]] w fun x w' => x = .returned (.tuple #[.bool true, .int .i64 0]) ∧ Below w.heap.size w w' from cH)
  clear hE
  go_enter Tryz.func12, Tryz.ntmps12
  go_wp2_with (go_at_call 16; (with_reducible refine (cH.out).mono ?_); rintro e W1 ⟨rfl, hb1⟩; have HB1 := Lib.hid hb1; clear hb1)
  go_ret
  exact ⟨rfl, HB1.out⟩

end Go.Proofs.YtmjbaimccbkmpaaGreatDoor.med

namespace Go.Proofs.YtmjbaimccbkmpaaGreatDoor.med
open Go.RowKit Go.Proofs.YtmjbaimccbkmpaaGreatDoor.base Go.Proofs.YtmjbaimccbkmpaaGreatDoor.tok Go.Proofs.YtmjbaimccbkmpaaGreatDoor.rul
set_option linter.unusedVariables false

theorem run_ne_fe (a b : Fe) (w : World) : (binOp .neq 55 (.agg #[.int .i64 a.k, .int .i64 a.n]) (.agg #[.int .i64 b.k, .int .i64 b.n])).run Tryz.prog w = .ok (.bool (decide (a ≠ b))) w := by
  rw [run_neq_struct, run_equalIn_agg w _ _ _ _ (by kernel_rfl) (by kernel_rfl)]
  simp only [Program.fieldsOf, Tryz.underlying55]
  obtain ⟨k1, n1⟩ := a
  obtain ⟨k2, n2⟩ := b
  simp [Op.eqFields, go_sem, Tryz.underlying3]
  (repeat' split) <;> simp_all
theorem run_ne_bool (a : Bool) (w : World) : (binOp .neq 4 (.bool a) (.bool a)).run Tryz.prog w = .ok (.bool false) w := by
  cases a <;> kernel_rfl

set_option maxRecDepth 100000 in
theorem sameQ_len (A1 A2 : Option Addr) (n1 n2 c1 c2 : Nat) (hne : n1 ≠ n2) (w : World) :
    Calls Tryz.prog 15 #[.slice A1 n1 c1, .slice A2 n2 c2] w fun e w' => e = .returned (.bool false) ∧ ∃ m, w' = w.drewN m := by
  have hni : ((n1 : Int) != (n2 : Int)) = true := by simp; omega
  go_enter Tryz.func15, Tryz.ntmps15
  go_wp2_with fail
  go_ret
  exact ⟨rfl, 0, rfl⟩

set_option maxRecDepth 100000 in
set_option maxHeartbeats 8000000 in
theorem sameQ_eq (A1 A2 : Option Addr) (c1 c2 : Nat) (Q : List Qu) (hn : Q.length ≤ 1000000) (hf : ∀ q ∈ Q, q.fs.length ≤ 1000000) (w : World) (h1 : QS w (.slice A1 Q.length c1) Q) (h2 : QS w (.slice A2 Q.length c2) Q) :
    Calls Tryz.prog 15 #[.slice A1 Q.length c1, .slice A2 Q.length c2] w fun e w' => e = .returned (.bool true) ∧ ∃ m, w' = w.drewN m := by
  obtain ⟨A, cap, r1, hv, hcap, hrd1, hrows1⟩ := h1
  obtain ⟨rfl, -, rfl⟩ : A1 = A ∧ Q.length = Q.length ∧ c1 = cap := by injection hv with a b c; exact ⟨a, b, c⟩
  obtain ⟨A, cap, r2, hv2, hcap2, hrd2, hrows2⟩ := h2
  obtain ⟨rfl, -, rfl⟩ : A2 = A ∧ Q.length = Q.length ∧ c2 = cap := by injection hv2 with a b c; exact ⟨a, b, c⟩
  have H1 := Lib.hid hrd1
  have H2 := Lib.hid hrd2
  have R1 := Lib.hid hrows1
  have R2 := Lib.hid hrows2
  have HF := Lib.hid hf
  have hQi : (Q.length : Int) ≤ 1000000 := by omega
  have hni : ((Q.length : Int) != (Q.length : Int)) = false := by simp
  clear hv hcap hrd1 hrows1 hv2 hcap2 hrd2 hrows2 hf
  go_enter Tryz.func15, Tryz.ntmps15
  go_wp2_with fail
  clear hni
  go_loopw [5] (fun i wr => ∃ k : Nat, k ≤ Q.length ∧ i = .int .i64 k ∧ ∃ m, wr = w.drewN m) (fun i _ => Q.length - (intOf i).toNat)
  case atStart => exact ⟨0, by omega, rfl, 0, rfl⟩
  case round =>
    obtain ⟨k, hk, rfl, m0, rfl⟩ := hrel
    by_cases hlt : k < Q.length
    · have hlt' : (k : Int) < (Q.length : Int) := by omega
      obtain ⟨b1, o1, x1, rfl, hb1, hx1, hc1⟩ := Rd.at_ H1.out hlt
      obtain ⟨b2, o2, x2, rfl, hb2, hx2, hc2⟩ := Rd.at_ H2.out hlt
      obtain ⟨q, hq⟩ : ∃ q, Q[k]? = some q := ⟨_, List.getElem?_eq_getElem hlt⟩
      obtain ⟨n1, f1⟩ := R1.out k x1 q hx1 hq
      obtain ⟨n2, f2⟩ := R2.out k x2 q hx2 hq
      obtain ⟨no1, fv1⟩ := x1
      obtain ⟨no2, fv2⟩ := x2
      simp only at n1 n2 f1 f2
      subst n1 n2
      have hfn : q.fs.length ≤ 1000000 := HF.out q (List.mem_of_getElem? hq)
      obtain ⟨fA1, fc1, rfl, _, fr1, _⟩ := f1
      obtain ⟨fA2, fc2, rfl, _, fr2, _⟩ := f2
      have e0 : w.cell? ⟨b1, o1 + k * 2, none⟩ = some (.bool q.no) := hc1 0 (by omega)
      have e1 : w.cell? ⟨b1, o1 + k * 2 + 1, none⟩ = some (.slice fA1 q.fs.length fc1) := hc1 1 (by omega)
      have g0 : w.cell? ⟨b2, o2 + k * 2, none⟩ = some (.bool q.no) := hc2 0 (by omega)
      have g1 : w.cell? ⟨b2, o2 + k * 2 + 1, none⟩ = some (.slice fA2 q.fs.length fc2) := hc2 1 (by omega)
      obtain ⟨no, F⟩ := q
      simp only at hfn fr1 fr2 e0 e1 g0 g1
      have hbn := fun W => run_ne_bool no W
      have hfi : (F.length : Int) ≤ 1000000 := by omega
      have hff : ((F.length : Int) != (F.length : Int)) = false := by simp
      have FR1 := Lib.hid fr1
      have FR2 := Lib.hid fr2
      clear hc1 hc2 hx1 hx2 hq fr1 fr2
      go_wp2_with fail
      go_quiet (fail)
      go_wp2_with fail
      clear hbn hff
      go_loopw [6] (fun i wx => ∃ j : Nat, j ≤ F.length ∧ i = .int .i64 j ∧ ∃ m, wx = w.drewN m) (fun i _ => F.length - (intOf i).toNat)
      case atStart => exact ⟨0, by omega, rfl, _, by first | rfl | rw [World.drewN_drewN]⟩
      case round =>
        obtain ⟨j, hj, rfl, m1, rfl⟩ := hrel
        by_cases hlt2 : j < F.length
        · have hlt2' : (j : Int) < (F.length : Int) := by omega
          obtain ⟨p1, s1, y1, rfl, hp1, hy1, hd1⟩ := Rd.at_ FR1.out hlt2
          obtain ⟨p2, s2, y2, rfl, hp2, hy2, hd2⟩ := Rd.at_ FR2.out hlt2
          obtain rfl : y1 = y2 := Option.some.inj (hy1.symm.trans hy2)
          have d0 : w.cell? ⟨p1, s1 + j * 2, none⟩ = some (.int .i64 y1.k) := hd1 0 (by omega)
          have d1 : w.cell? ⟨p1, s1 + j * 2 + 1, none⟩ = some (.int .i64 y1.n) := hd1 1 (by omega)
          have d2 : w.cell? ⟨p2, s2 + j * 2, none⟩ = some (.int .i64 y1.k) := hd2 0 (by omega)
          have d3 : w.cell? ⟨p2, s2 + j * 2 + 1, none⟩ = some (.int .i64 y1.n) := hd2 1 (by omega)
          have hne : ∀ W : World, (binOp .neq 55 (.agg #[.int .i64 y1.k, .int .i64 y1.n]) (.agg #[.int .i64 y1.k, .int .i64 y1.n])).run Tryz.prog W = .ok (.bool false) W := fun W => by rw [run_ne_fe y1 y1 W, decide_eq_false (by simp)]
          clear hd1 hd2 hy1 hy2
          go_wp2_with fail
          go_quiet (fail)
          go_wp2_with fail
          go_roundw
          case rel => exact ⟨j + 1, by omega, by go_num, _, by first | rfl | rw [World.drewN_drewN]⟩
          case measure => simp [intOf]; omega
        · obtain rfl : j = F.length := by omega
          go_wp2_with fail
          go_roundw
          case rel => exact ⟨k + 1, by omega, by go_num, _, by first | rfl | rw [World.drewN_drewN]⟩
          case measure => simp [intOf]; omega
    · obtain rfl : k = Q.length := by omega
      go_wp2_with fail
      go_ret
      exact ⟨rfl, _, rfl⟩

end Go.Proofs.YtmjbaimccbkmpaaGreatDoor.med
