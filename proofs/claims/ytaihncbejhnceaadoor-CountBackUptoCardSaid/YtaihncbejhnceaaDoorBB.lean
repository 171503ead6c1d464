/- Contracts and plain law, a bundle: Tok12 Tok13 Tok14 Tok15 Tok16 Tok17 Tok18 Tok19 Rd Tok20 Tok21. -/
import Derived.Maps.AppendAt
import Derived.Laws.OwnMore
import Derived.Laws.StructEq
import Derived.Test.YtaihncbejhnceaaDoorBK
import Derived.Test.YtaihncbejhnceaaDoorBA

namespace Go.Proofs.YtaihncbejhnceaaDoor.tok
open Go.RowKit Go.Proofs.YtaihncbejhnceaaDoor.base
set_option linter.unusedVariables false

set_option maxRecDepth 100000 in
set_option maxHeartbeats 8000000 in
theorem first_at (s : ByteArray) (hs : s.size < 4294967281) (h0 : 0 < s.size) (w : World) (hsp : spaceP s.data.toList = 0) (hn : Lib.hasPrefix s.data.toList [47, 42] = false) (hx : nv s[0] = 64) (hb : beginsP (s.extract 1 s.size).data.toList = true) :
    Calls Tryd.prog 70 #[.string s] w fun e w' => e = .returned (.agg (firstP s.data.toList).cells) ∧ Below w.heap.size w w' := by
  have hsl := space_len s.data.toList
  rw [← Lib.size_eq] at hsl
  have cT := fun w => trimL_ct s [32, 9, 10, 12, 13] (by decide) (by decide) w
  have hP : firstP s.data.toList = if 0 < spaceP s.data.toList then ⟨8, s.data.toList.take (spaceP s.data.toList), [], 0⟩ else
    if Lib.hasPrefix s.data.toList [47, 42] then noteP s.data.toList else
    if quoteP s.data.toList then textP s.data.toList else
    if hashP s.data.toList then namedP 4 s.data.toList 1 else
    if atP s.data.toList then namedP 3 s.data.toList 1 else
    if 0 < (numberP s.data.toList).2 then numTkP s.data.toList (numberP s.data.toList).1 (numberP s.data.toList).2 else
    if beginsP s.data.toList then wordP s.data.toList else ⟨oneK s.data.toList, s.data.toList.take 1, [], 0⟩ := rfl
  generalize hNP : firstP s.data.toList = NP at *
  clear hNP
  generalize hTT : Lib.trimLeftS s.data.toList [32, 9, 10, 12, 13] = T at *
  clear hTT
  replace cT := Lib.hid cT

  rw [if_neg (by omega : ¬ 0 < spaceP s.data.toList)] at hP
  have hsl1 : (s.size : Int) ≤ (T.length : Int) := by omega
  have hsl3 : (T.length : Int) ≤ (s.size : Int) := by omega
  clear hsl

  have cC : ∀ w, Calls Tryd.prog 59 #[.string s, .string ⟨#[47, 42]⟩] w fun e w' => e = .returned (.tuple #[.string ⟨(Lib.trimPrefix s.data.toList [47, 42]).toArray⟩, .bool false]) ∧ w = w' := fun w => by
    have := Tryd.strings_CutPrefix s (bs [47, 42]) w
    rw [show (bs [47, 42]).data.toList = [47, 42] from rfl, hn] at this
    exact this.mono fun e w' ⟨h1, h2⟩ => ⟨h1, h2.symm⟩

  rw [hn, if_neg (by simp)] at hP
  generalize Lib.trimPrefix s.data.toList [47, 42] = R at *
  replace cC := Lib.hid cC
  replace hn := Lib.hid hn

  rw [quote_of h0, decide_eq_false (by omega : ¬ (nv s[0] = 39 ∨ nv s[0] = 34)), if_neg (by simp)] at hP

  have hh : hashP s.data.toList = false := by
    rcases Nat.lt_or_ge 1 s.size with h1 | h1
    · rw [hash_long h1, decide_eq_false (by omega : ¬ nv s[0] = 35)]
      rfl
    · exact hash_short h1
  rw [hh, if_neg (by simp), at_of h0, decide_eq_true hx, hb, if_pos (by rfl)] at hP

  have cK : ∀ w, Calls Tryd.prog 116 #[.int .i64 3, .string s, .int .i64 1] w fun e w' => e = .returned (.agg (namedP 3 s.data.toList 1).cells) ∧ Below w.heap.size w w' := fun w => named_ct 3 s 1 (by omega) (by omega) w
  generalize hTK : namedP 3 s.data.toList 1 = t at *
  clear hTK
  obtain ⟨tk, tr, tv, tn⟩ := t
  simp only [Tk.cells] at cK
  replace cK := Lib.hid cK

  have cB := fun w => begins_ct (s.extract 1 s.size) (sub_len _ _ (by unfold maxLen; omega)) w
  simp only [hb] at cB
  replace cB := Lib.hid cB
  replace hP := Lib.hid hP
  clear hb hh
  have q39 : ((s[0].toNat : Int) == 39) = false := by have h := hx; simp only [nv] at h; rw [beq_eq_false_iff_ne]; omega
  have q34 : ((s[0].toNat : Int) == 34) = false := by have h := hx; simp only [nv] at h; rw [beq_eq_false_iff_ne]; omega
  have q35 : ((s[0].toNat : Int) == 35) = false := by have h := hx; simp only [nv] at h; rw [beq_eq_false_iff_ne]; omega
  have q64 : ((s[0].toNat : Int) == 64) = true := by have h := hx; simp only [nv] at h; rw [h]; rfl

  replace hx := Lib.hid hx
  have h1' : (1 : Int) ≤ (s.size : Int) := by omega

  go_enter Tryd.func70, Tryd.ntmps70
  go_wp2_with fail
  generalize hW0 : (w.alloc (.cells #[.string s] 9)).alloc (.cells #[.int .i64 0, .string ⟨#[]⟩, .string ⟨#[]⟩, .int .i64 0] 104) = W0
  have HB0 := Lib.hid (show Below w.heap.size w W0 by subst hW0; exact ((Below.refl _ _).alloc (Nat.le_refl _) _).alloc (by simp) _)
  have HZ : w.heap.size + 2 ≤ W0.heap.size := by subst hW0; simp
  have sB0 := Lib.hid (show Blk W0 w.heap.size 9 #[.string s] by subst hW0; exact (Blk.new rfl).alloc _)
  have rB0 := Lib.hid (show Blk W0 (w.heap.size + 1) 104 #[.int .i64 0, .string ⟨#[]⟩, .string ⟨#[]⟩, .int .i64 0] by subst hW0; exact Blk.new (by simp))
  have c0 : W0.cell? ⟨w.heap.size, 0, none⟩ = some (.string s) := sB0.out.cell 0
  clear hW0
  go_region_held3 (fun w' => (∀ b o, b < w.heap.size + 2 → w'.cell? ⟨b, o, none⟩ = W0.cell? ⟨b, o, none⟩) ∧ Below (w.heap.size + 2) W0 w')
    (first | exact As.beg | assumption | exact As.on hb3 (by assumption) HZ | exact As.alloc (by assumption) HZ)
    ((go_at_call 111; (with_reducible refine (cT.out _).mono ?_); rintro e W1 ⟨rfl, hb3⟩; have hS := Lib.hid (As.on (B := w.heap.size + 2) (W0 := W0) hb3 As.beg HZ)))
  all_goals
    rename_i hHeld
    clear hHeld
    have HB1 := Lib.hid (HB0.out.trans (hS.out.2.mono (by omega)))
    have sB := Lib.hid (sB0.out.below hS.out.2 (by omega))
    have rB := Lib.hid (rB0.out.below hS.out.2 (by omega))
    have rC := rB.out.cell
    have rF := rB.out.frozen
    have sF := sB.out.frozen
    have sz1 := rB.out.lt
    clear sB0 rB0 HB0 hS c0 hb3
    have sC := sB.out.cell
    go_wp2_with (first | (go_at_call 59; (with_reducible refine (cC.out _).mono ?_); rintro e w2 ⟨rfl, rfl⟩) | (go_at_call 117; (with_reducible refine (cB.out _).mono ?_); rintro e w2 ⟨rfl, rfl⟩) | (go_at_call 116; (with_reducible refine (cK.out _).mono ?_); rintro e W2 ⟨rfl, hb2⟩; have rB2 := Lib.hid (rB.out.below hb2 rB.out.lt); have HB2 := Lib.hid (HB1.out.trans (hb2.mono HB1.out.size)); have sB2 := Lib.hid (sB.out.below hb2 sB.out.lt); clear rC rF sC sF hb2; have rC := rB2.out.cell; have rF := rB2.out.frozen; have sC := sB2.out.cell; have sF := sB2.out.frozen; have sz2 := rB2.out.lt; have szs := sB2.out.lt))

    have e := Blk.cell (Blk.four (rB2.out) (.int .i64 tk) (.string (bs tr)) (.string (bs tv)) (.int .i64 tn))
    refine bodyPost_ret (v := .agg #[.int .i64 tk, .string (bs tr), .string (bs tv), .int .i64 tn]) (by simp [results, Tryd.results70, go_sem, e]) rfl ⟨?_, ?_⟩
    · rw [hP.out]
      skip
    · exact (((HB2.out.setCell (by simp) _).setCell (by simp) _).setCell (by simp) _).setCell (by simp) _

end Go.Proofs.YtaihncbejhnceaaDoor.tok

namespace Go.Proofs.YtaihncbejhnceaaDoor.tok
open Go.RowKit Go.Proofs.YtaihncbejhnceaaDoor.base
set_option linter.unusedVariables false

set_option maxRecDepth 100000 in
set_option maxHeartbeats 8000000 in
theorem first_note (s : ByteArray) (hs : s.size < 4294967281) (h0 : 0 < s.size) (w : World) (hm : MaxL w) (hsp : spaceP s.data.toList = 0) (hn : Lib.hasPrefix s.data.toList [47, 42] = true) :
    Calls Tryd.prog 70 #[.string s] w fun e w' => e = .returned (.agg (firstP s.data.toList).cells) ∧ Below w.heap.size w w' := by
  have hsl := space_len s.data.toList
  rw [← Lib.size_eq] at hsl
  have cT := fun w => trimL_ct s [32, 9, 10, 12, 13] (by decide) (by decide) w
  have hP : firstP s.data.toList = if 0 < spaceP s.data.toList then ⟨8, s.data.toList.take (spaceP s.data.toList), [], 0⟩ else
    if Lib.hasPrefix s.data.toList [47, 42] then noteP s.data.toList else
    if quoteP s.data.toList then textP s.data.toList else
    if hashP s.data.toList then namedP 4 s.data.toList 1 else
    if atP s.data.toList then namedP 3 s.data.toList 1 else
    if 0 < (numberP s.data.toList).2 then numTkP s.data.toList (numberP s.data.toList).1 (numberP s.data.toList).2 else
    if beginsP s.data.toList then wordP s.data.toList else ⟨oneK s.data.toList, s.data.toList.take 1, [], 0⟩ := rfl
  generalize hNP : firstP s.data.toList = NP at *
  clear hNP
  generalize hTT : Lib.trimLeftS s.data.toList [32, 9, 10, 12, 13] = T at *
  clear hTT
  replace cT := Lib.hid cT

  rw [if_neg (by omega : ¬ 0 < spaceP s.data.toList)] at hP
  have hsl1 : (s.size : Int) ≤ (T.length : Int) := by omega
  have hsl3 : (T.length : Int) ≤ (s.size : Int) := by omega
  clear hsl

  have cC : ∀ w, Calls Tryd.prog 59 #[.string s, .string ⟨#[47, 42]⟩] w fun e w' => e = .returned (.tuple #[.string ⟨(Lib.trimPrefix s.data.toList [47, 42]).toArray⟩, .bool true]) ∧ w = w' := fun w => by
    have := Tryd.strings_CutPrefix s (bs [47, 42]) w
    rw [show (bs [47, 42]).data.toList = [47, 42] from rfl, hn] at this
    exact this.mono fun e w' ⟨h1, h2⟩ => ⟨h1, h2.symm⟩

  rw [hn, if_pos rfl, noteP] at hP
  have h2 : 2 ≤ s.size := by
    rw [Lib.size_eq]
    generalize s.data.toList = l at *
    match l, hn with
    | [], hn => simp [Lib.hasPrefix, List.isPrefixOf] at hn
    | [a], hn => simp [Lib.hasPrefix, List.isPrefixOf] at hn
    | a :: b :: r, _ => simp
  have hR : Lib.trimPrefix s.data.toList [47, 42] = s.data.toList.drop 2 := by unfold Lib.trimPrefix; rw [if_pos hn]; rfl
  rw [hR] at cC
  have hrl : (s.data.toList.drop 2).length + 2 = s.size := by rw [List.length_drop, ← Lib.size_eq]; omega
  have hix := Lib.index_room (s.data.toList.drop 2) [42, 47]
  have hig := Lib.index_ge (s.data.toList.drop 2) [42, 47]
  have cI : ∀ (w : World) (m : Int), w.cell? ⟨7, 0, none⟩ = some (.int .i64 m) → Calls Tryd.prog 112 #[.string ⟨(s.data.toList.drop 2).toArray⟩, .string ⟨#[42, 47]⟩] w fun e w' => e = .returned (.int .i64 (Lib.index (s.data.toList.drop 2) [42, 47])) ∧ w = w' := fun w m h =>
    (Tryd.strings_Index ⟨(s.data.toList.drop 2).toArray⟩ (bs [42, 47]) m w (by show (s.data.toList.drop 2).length < _; omega) h).mono fun e w' ⟨h1, h2⟩ => ⟨h1, h2.symm⟩
  generalize Lib.index (s.data.toList.drop 2) [42, 47] = ix at *
  generalize hRR : s.data.toList.drop 2 = R at *
  clear hRR hR hn
  replace cC := Lib.hid cC
  replace cI := Lib.hid cI
  by_cases hi : 0 ≤ ix
  · obtain ⟨m, rfl⟩ := Int.eq_ofNat_of_zero_le hi
    have hr := hix hi
    simp only [List.length_cons, List.length_nil] at hr
    have hm4 : m + 4 ≤ s.size := by omega
    have hP2 := Lib.hid (show NP = ⟨9, s.data.toList.take (m + 4), [], 0⟩ by rw [hP, if_pos hi]; rfl)
    clear hix hr hrl hP

    go_enter Tryd.func70, Tryd.ntmps70
    go_wp2_with fail
    generalize hW0 : (w.alloc (.cells #[.string s] 9)).alloc (.cells #[.int .i64 0, .string ⟨#[]⟩, .string ⟨#[]⟩, .int .i64 0] 104) = W0
    have HB0 := Lib.hid (show Below w.heap.size w W0 by subst hW0; exact ((Below.refl _ _).alloc (Nat.le_refl _) _).alloc (by simp) _)
    have HZ : w.heap.size + 2 ≤ W0.heap.size := by subst hW0; simp
    have sB0 := Lib.hid (show Blk W0 w.heap.size 9 #[.string s] by subst hW0; exact (Blk.new rfl).alloc _)
    have rB0 := Lib.hid (show Blk W0 (w.heap.size + 1) 104 #[.int .i64 0, .string ⟨#[]⟩, .string ⟨#[]⟩, .int .i64 0] by subst hW0; exact Blk.new (by simp))
    have c0 : W0.cell? ⟨w.heap.size, 0, none⟩ = some (.string s) := sB0.out.cell 0
    clear hW0
    go_region_held3 (fun w' => (∀ b o, b < w.heap.size + 2 → w'.cell? ⟨b, o, none⟩ = W0.cell? ⟨b, o, none⟩) ∧ Below (w.heap.size + 2) W0 w')
      (first | exact As.beg | assumption | exact As.on hb3 (by assumption) HZ | exact As.alloc (by assumption) HZ)
      ((go_at_call 111; (with_reducible refine (cT.out _).mono ?_); rintro e W1 ⟨rfl, hb3⟩; have hS := Lib.hid (As.on (B := w.heap.size + 2) (W0 := W0) hb3 As.beg HZ)))
    all_goals
      rename_i hHeld
      clear hHeld
      have HB1 := Lib.hid (HB0.out.trans (hS.out.2.mono (by omega)))
      have sB := Lib.hid (sB0.out.below hS.out.2 (by omega))
      have rB := Lib.hid (rB0.out.below hS.out.2 (by omega))
      have rC := rB.out.cell
      have rF := rB.out.frozen
      have sF := sB.out.frozen
      have sz1 := rB.out.lt
      clear sB0 rB0 HB0 hS c0 hb3
      have sC := sB.out.cell
      obtain ⟨mm, hmm⟩ := hm.on HB1.out hm.lt
      replace hmm := Lib.hid hmm
      go_wp2_with (first | (go_at_call 59; (with_reducible refine (cC.out _).mono ?_); rintro e w2 ⟨rfl, rfl⟩) | (go_at_call 112; (with_reducible refine (cI.out _ mm hmm.out).mono ?_); rintro e w2 ⟨rfl, rfl⟩))

      have e := Blk.cell (Blk.four (rB.out.far (p := ⟨w.heap.size, 0, none⟩) (by simp) (.string (s.extract 0 (m + 4)))) (.int .i64 9) (.string (s.extract 0 (m + 4))) (.string ⟨#[]⟩) (.int .i64 0))
      refine bodyPost_ret (v := .agg #[.int .i64 9, .string (s.extract 0 (m + 4)), .string ⟨#[]⟩, .int .i64 0]) (by simp [results, Tryd.results70, go_sem, e]) rfl ⟨?_, ?_⟩
      · rw [hP2.out]
        exact ret_tok rfl (take_ex _ _) rfl rfl
      · exact ((((HB1.out.setCell (p := ⟨w.heap.size, 0, none⟩) (by simp) _).setCell (by simp) _).setCell (by simp) _).setCell (by simp) _).setCell (by simp) _

  · have hi2 : ix < 0 := by omega
    have hP2 := Lib.hid (show NP = ⟨9, s.data.toList, [], 0⟩ by rw [hP, if_neg hi])
    clear hix hrl hP hi

    go_enter Tryd.func70, Tryd.ntmps70
    go_wp2_with fail
    generalize hW0 : (w.alloc (.cells #[.string s] 9)).alloc (.cells #[.int .i64 0, .string ⟨#[]⟩, .string ⟨#[]⟩, .int .i64 0] 104) = W0
    have HB0 := Lib.hid (show Below w.heap.size w W0 by subst hW0; exact ((Below.refl _ _).alloc (Nat.le_refl _) _).alloc (by simp) _)
    have HZ : w.heap.size + 2 ≤ W0.heap.size := by subst hW0; simp
    have sB0 := Lib.hid (show Blk W0 w.heap.size 9 #[.string s] by subst hW0; exact (Blk.new rfl).alloc _)
    have rB0 := Lib.hid (show Blk W0 (w.heap.size + 1) 104 #[.int .i64 0, .string ⟨#[]⟩, .string ⟨#[]⟩, .int .i64 0] by subst hW0; exact Blk.new (by simp))
    have c0 : W0.cell? ⟨w.heap.size, 0, none⟩ = some (.string s) := sB0.out.cell 0
    clear hW0
    go_region_held3 (fun w' => (∀ b o, b < w.heap.size + 2 → w'.cell? ⟨b, o, none⟩ = W0.cell? ⟨b, o, none⟩) ∧ Below (w.heap.size + 2) W0 w')
      (first | exact As.beg | assumption | exact As.on hb3 (by assumption) HZ | exact As.alloc (by assumption) HZ)
      ((go_at_call 111; (with_reducible refine (cT.out _).mono ?_); rintro e W1 ⟨rfl, hb3⟩; have hS := Lib.hid (As.on (B := w.heap.size + 2) (W0 := W0) hb3 As.beg HZ)))
    all_goals
      rename_i hHeld
      clear hHeld
      have HB1 := Lib.hid (HB0.out.trans (hS.out.2.mono (by omega)))
      have sB := Lib.hid (sB0.out.below hS.out.2 (by omega))
      have rB := Lib.hid (rB0.out.below hS.out.2 (by omega))
      have rC := rB.out.cell
      have rF := rB.out.frozen
      have sF := sB.out.frozen
      have sz1 := rB.out.lt
      clear sB0 rB0 HB0 hS c0 hb3
      have sC := sB.out.cell
      obtain ⟨mm, hmm⟩ := hm.on HB1.out hm.lt
      replace hmm := Lib.hid hmm
      go_wp2_with (first | (go_at_call 59; (with_reducible refine (cC.out _).mono ?_); rintro e w2 ⟨rfl, rfl⟩) | (go_at_call 112; (with_reducible refine (cI.out _ mm hmm.out).mono ?_); rintro e w2 ⟨rfl, rfl⟩))

      have e := Blk.cell (Blk.four (rB.out) (.int .i64 9) (.string s) (.string ⟨#[]⟩) (.int .i64 0))
      refine bodyPost_ret (v := .agg #[.int .i64 9, .string s, .string ⟨#[]⟩, .int .i64 0]) (by simp [results, Tryd.results70, go_sem, e]) rfl ⟨?_, ?_⟩
      · rw [hP2.out]
        exact ret_tok rfl (Lib.mk_data s).symm rfl rfl
      · exact (((HB1.out.setCell (by simp) _).setCell (by simp) _).setCell (by simp) _).setCell (by simp) _


end Go.Proofs.YtaihncbejhnceaaDoor.tok

namespace Go.Proofs.YtaihncbejhnceaaDoor.tok
open Go.RowKit Go.Proofs.YtaihncbejhnceaaDoor.base
set_option linter.unusedVariables false

theorem signAt_le (l : Bs) : signAt l ≤ 1 ∧ signAt l ≤ l.length := by
  match l with
  | [] => simp [signAt]
  | c :: r =>
    simp only [signAt]
    split <;> simp
theorem behind_le (r : Bs) : behindP r = 0 ∨ behindP r + 1 ≤ r.length := by
  match r with
  | [] => left; rfl
  | c :: t =>
    simp only [behindP]
    split
    · right
      have := digits_le t
      simp
      omega
    · left; rfl
theorem numberP_le (l : Bs) : (numberP l).2 ≤ l.length := by
  unfold numberP numAt
  obtain ⟨_, h1⟩ := signAt_le l
  have h2 := digits_le (l.drop (signAt l))
  have h3 := behind_le (l.drop (signAt l + digitsP (l.drop (signAt l))))
  rw [List.length_drop] at h2 h3
  split
  · simp
  · simp only
    split
    · omega
    · omega

set_option maxRecDepth 100000 in
set_option maxHeartbeats 8000000 in
theorem first_number (s : ByteArray) (hs : s.size < 4294967281) (h0 : 0 < s.size) (w : World) (hsp : spaceP s.data.toList = 0) (hn : Lib.hasPrefix s.data.toList [47, 42] = false) (hnp : 0 < (numberP s.data.toList).2) :
    Calls Tryd.prog 70 #[.string s] w fun e w' => e = .returned (.agg (firstP s.data.toList).cells) ∧ Below w.heap.size w w' := by
  have hsl := space_len s.data.toList
  rw [← Lib.size_eq] at hsl
  have cT := fun w => trimL_ct s [32, 9, 10, 12, 13] (by decide) (by decide) w
  have hP : firstP s.data.toList = if 0 < spaceP s.data.toList then ⟨8, s.data.toList.take (spaceP s.data.toList), [], 0⟩ else
    if Lib.hasPrefix s.data.toList [47, 42] then noteP s.data.toList else
    if quoteP s.data.toList then textP s.data.toList else
    if hashP s.data.toList then namedP 4 s.data.toList 1 else
    if atP s.data.toList then namedP 3 s.data.toList 1 else
    if 0 < (numberP s.data.toList).2 then numTkP s.data.toList (numberP s.data.toList).1 (numberP s.data.toList).2 else
    if beginsP s.data.toList then wordP s.data.toList else ⟨oneK s.data.toList, s.data.toList.take 1, [], 0⟩ := rfl
  generalize hNP : firstP s.data.toList = NP at *
  clear hNP
  generalize hTT : Lib.trimLeftS s.data.toList [32, 9, 10, 12, 13] = T at *
  clear hTT
  replace cT := Lib.hid cT

  rw [if_neg (by omega : ¬ 0 < spaceP s.data.toList)] at hP
  have hsl1 : (s.size : Int) ≤ (T.length : Int) := by omega
  have hsl3 : (T.length : Int) ≤ (s.size : Int) := by omega
  clear hsl

  have cC : ∀ w, Calls Tryd.prog 59 #[.string s, .string ⟨#[47, 42]⟩] w fun e w' => e = .returned (.tuple #[.string ⟨(Lib.trimPrefix s.data.toList [47, 42]).toArray⟩, .bool false]) ∧ w = w' := fun w => by
    have := Tryd.strings_CutPrefix s (bs [47, 42]) w
    rw [show (bs [47, 42]).data.toList = [47, 42] from rfl, hn] at this
    exact this.mono fun e w' ⟨h1, h2⟩ => ⟨h1, h2.symm⟩

  rw [hn, if_neg (by simp)] at hP
  generalize Lib.trimPrefix s.data.toList [47, 42] = R at *
  replace cC := Lib.hid cC
  replace hn := Lib.hid hn

  obtain ⟨x1, x2, x3, x4⟩ := number_no' (head_of h0) hnp
  have hh : hashP s.data.toList = false := by
    rcases Nat.lt_or_ge 1 s.size with h1 | h1
    · rw [hash_long h1, decide_eq_false x1]
      rfl
    · exact hash_short h1
  have ha : atP s.data.toList = false := by rw [at_of h0, decide_eq_false x2]; rfl
  rw [quote_of h0, decide_eq_false (by omega : ¬ (nv s[0] = 39 ∨ nv s[0] = 34)), if_neg (by simp), hh, if_neg (by simp), ha, if_neg (by simp), if_pos hnp] at hP
  have hnl := numberP_le s.data.toList
  rw [← Lib.size_eq] at hnl
  have cN := fun w => number_ct s (by omega) w
  generalize numberP s.data.toList = V at *
  obtain ⟨nm, nn⟩ := V
  simp only at hnp hP hnl cN

  have cK : ∀ w, Calls Tryd.prog 119 #[.string s, .int .i64 nm, .int .i64 (nn : Int)] w fun e w' => e = .returned (.agg (numTkP s.data.toList nm nn).cells) ∧ Below w.heap.size w w' := fun w => number_tk s nm nn (by omega) hnl w
  generalize hTK : numTkP s.data.toList nm nn = t at *
  clear hTK
  obtain ⟨tk, tr, tv, tn⟩ := t
  simp only [Tk.cells] at cK
  replace cK := Lib.hid cK
  have q35 : ((s[0].toNat : Int) == 35) = false := by have h := x1; simp only [nv] at h; rw [beq_eq_false_iff_ne]; omega
  have q64 : ((s[0].toNat : Int) == 64) = false := by have h := x2; simp only [nv] at h; rw [beq_eq_false_iff_ne]; omega
  have q39 : ((s[0].toNat : Int) == 39) = false := by have h := x3; simp only [nv] at h; rw [beq_eq_false_iff_ne]; omega
  have q34 : ((s[0].toNat : Int) == 34) = false := by have h := x4; simp only [nv] at h; rw [beq_eq_false_iff_ne]; omega

  replace cN := Lib.hid cN
  replace hP := Lib.hid hP
  have hnn : (0 : Int) < (nn : Int) := by omega
  clear x1 x2 x3 x4 hh ha

  go_enter Tryd.func70, Tryd.ntmps70
  go_wp2_with fail
  generalize hW0 : (w.alloc (.cells #[.string s] 9)).alloc (.cells #[.int .i64 0, .string ⟨#[]⟩, .string ⟨#[]⟩, .int .i64 0] 104) = W0
  have HB0 := Lib.hid (show Below w.heap.size w W0 by subst hW0; exact ((Below.refl _ _).alloc (Nat.le_refl _) _).alloc (by simp) _)
  have HZ : w.heap.size + 2 ≤ W0.heap.size := by subst hW0; simp
  have sB0 := Lib.hid (show Blk W0 w.heap.size 9 #[.string s] by subst hW0; exact (Blk.new rfl).alloc _)
  have rB0 := Lib.hid (show Blk W0 (w.heap.size + 1) 104 #[.int .i64 0, .string ⟨#[]⟩, .string ⟨#[]⟩, .int .i64 0] by subst hW0; exact Blk.new (by simp))
  have c0 : W0.cell? ⟨w.heap.size, 0, none⟩ = some (.string s) := sB0.out.cell 0
  clear hW0
  go_region_held3 (fun w' => (∀ b o, b < w.heap.size + 2 → w'.cell? ⟨b, o, none⟩ = W0.cell? ⟨b, o, none⟩) ∧ Below (w.heap.size + 2) W0 w')
    (first | exact As.beg | assumption | exact As.on hb3 (by assumption) HZ | exact As.alloc (by assumption) HZ)
    ((go_at_call 111; (with_reducible refine (cT.out _).mono ?_); rintro e W1 ⟨rfl, hb3⟩; have hS := Lib.hid (As.on (B := w.heap.size + 2) (W0 := W0) hb3 As.beg HZ)))
  all_goals
    rename_i hHeld
    clear hHeld
    have HB1 := Lib.hid (HB0.out.trans (hS.out.2.mono (by omega)))
    have sB := Lib.hid (sB0.out.below hS.out.2 (by omega))
    have rB := Lib.hid (rB0.out.below hS.out.2 (by omega))
    have rC := rB.out.cell
    have rF := rB.out.frozen
    have sF := sB.out.frozen
    have sz1 := rB.out.lt
    clear sB0 rB0 HB0 hS c0 hb3
    have sC := sB.out.cell
    go_wp2_with (first | (go_at_call 59; (with_reducible refine (cC.out _).mono ?_); rintro e w2 ⟨rfl, rfl⟩) | (go_at_call 118; (with_reducible refine (cN.out _).mono ?_); rintro e W2 ⟨rfl, hb2⟩; have rB2 := Lib.hid (rB.out.below hb2 rB.out.lt); have HB2 := Lib.hid (HB1.out.trans (hb2.mono HB1.out.size)); have sB2 := Lib.hid (sB.out.below hb2 sB.out.lt); clear rC rF sC sF hb2; have rC := rB2.out.cell; have rF := rB2.out.frozen; have sC := sB2.out.cell; have sF := sB2.out.frozen; have sz2 := rB2.out.lt; have szs := sB2.out.lt) | (go_at_call 119; (with_reducible refine (cK.out _).mono ?_); rintro e W3 ⟨rfl, hb2⟩; have rB3 := Lib.hid (rB2.out.below hb2 rB2.out.lt); have HB3 := Lib.hid (HB2.out.trans (hb2.mono HB2.out.size)); have sB3 := Lib.hid (sB2.out.below hb2 sB2.out.lt); clear rC rF sC sF hb2; have rC := rB3.out.cell; have rF := rB3.out.frozen; have sC := sB3.out.cell; have sF := sB3.out.frozen; have sz3 := rB3.out.lt; have szt := sB3.out.lt))

    have e := Blk.cell (Blk.four (rB3.out) (.int .i64 tk) (.string (bs tr)) (.string (bs tv)) (.int .i64 tn))
    refine bodyPost_ret (v := .agg #[.int .i64 tk, .string (bs tr), .string (bs tv), .int .i64 tn]) (by simp [results, Tryd.results70, go_sem, e]) rfl ⟨?_, ?_⟩
    · rw [hP.out]
      skip
    · exact (((HB3.out.setCell (by simp) _).setCell (by simp) _).setCell (by simp) _).setCell (by simp) _

end Go.Proofs.YtaihncbejhnceaaDoor.tok

namespace Go.Proofs.YtaihncbejhnceaaDoor.tok
open Go.RowKit Go.Proofs.YtaihncbejhnceaaDoor.base
set_option linter.unusedVariables false

set_option maxRecDepth 100000 in
set_option maxHeartbeats 1000000 in
theorem one_ct (k : Int) (s : ByteArray) (b : Nat) (w : World) (hs : s.size < 4294967281) (h0 : 0 < s.size) (h : Blk w b 9 #[.string s]) :
    Calls Tryd.prog 110 #[.int .i64 k, .pointer (some ⟨b, 0, none⟩)] w fun e w' => e = .returned (.agg #[.int .i64 k, .string (s.extract 0 1), .string ⟨#[]⟩, .int .i64 0]) ∧ Below w.heap.size w w' := by
  have c0 := h.cell
  have hlt := h.lt
  replace h := Lib.hid h
  have h1 : (1 : Int) ≤ (s.size : Int) := by omega
  go_enter Tryd.func110, Tryd.ntmps110
  go_wp2
  refine bodyPost_ret (v := .agg #[.int .i64 k, .string (s.extract 0 1), .string ⟨#[]⟩, .int .i64 0]) (by simp [results, Tryd.results110, go_sem]) rfl ⟨rfl, (Below.refl _ _).alloc (Nat.le_refl _) _⟩

set_option maxRecDepth 100000 in
set_option maxHeartbeats 8000000 in
theorem first_word (s : ByteArray) (hs : s.size < 4294967281) (h0 : 0 < s.size) (w : World) (hsp : spaceP s.data.toList = 0) (hn : Lib.hasPrefix s.data.toList [47, 42] = false) (hnp : (numberP s.data.toList).2 = 0) (hbg : beginsP s.data.toList = true) (pp : Bool) (hpp : Lib.hasPrefix (s.data.toList.drop (namedP 1 s.data.toList 0).raw.length) [40] = pp) :
    Calls Tryd.prog 70 #[.string s] w fun e w' => e = .returned (.agg (firstP s.data.toList).cells) ∧ Below w.heap.size w w' := by
  have hsl := space_len s.data.toList
  rw [← Lib.size_eq] at hsl
  have cT := fun w => trimL_ct s [32, 9, 10, 12, 13] (by decide) (by decide) w
  have hP : firstP s.data.toList = if 0 < spaceP s.data.toList then ⟨8, s.data.toList.take (spaceP s.data.toList), [], 0⟩ else
    if Lib.hasPrefix s.data.toList [47, 42] then noteP s.data.toList else
    if quoteP s.data.toList then textP s.data.toList else
    if hashP s.data.toList then namedP 4 s.data.toList 1 else
    if atP s.data.toList then namedP 3 s.data.toList 1 else
    if 0 < (numberP s.data.toList).2 then numTkP s.data.toList (numberP s.data.toList).1 (numberP s.data.toList).2 else
    if beginsP s.data.toList then wordP s.data.toList else ⟨oneK s.data.toList, s.data.toList.take 1, [], 0⟩ := rfl
  generalize hNP : firstP s.data.toList = NP at *
  clear hNP
  generalize hTT : Lib.trimLeftS s.data.toList [32, 9, 10, 12, 13] = T at *
  clear hTT
  replace cT := Lib.hid cT

  rw [if_neg (by omega : ¬ 0 < spaceP s.data.toList)] at hP
  have hsl1 : (s.size : Int) ≤ (T.length : Int) := by omega
  have hsl3 : (T.length : Int) ≤ (s.size : Int) := by omega
  clear hsl

  have cC : ∀ w, Calls Tryd.prog 59 #[.string s, .string ⟨#[47, 42]⟩] w fun e w' => e = .returned (.tuple #[.string ⟨(Lib.trimPrefix s.data.toList [47, 42]).toArray⟩, .bool false]) ∧ w = w' := fun w => by
    have := Tryd.strings_CutPrefix s (bs [47, 42]) w
    rw [show (bs [47, 42]).data.toList = [47, 42] from rfl, hn] at this
    exact this.mono fun e w' ⟨h1, h2⟩ => ⟨h1, h2.symm⟩

  rw [hn, if_neg (by simp)] at hP
  generalize Lib.trimPrefix s.data.toList [47, 42] = R at *
  replace cC := Lib.hid cC
  replace hn := Lib.hid hn

  obtain ⟨x1, x2, x3, x4⟩ := begins_no' (head_of h0) hbg
  have hh : hashP s.data.toList = false := by
    rcases Nat.lt_or_ge 1 s.size with h1 | h1
    · rw [hash_long h1, decide_eq_false x1]
      rfl
    · exact hash_short h1
  have ha : atP s.data.toList = false := by rw [at_of h0, decide_eq_false x2]; rfl
  rw [quote_of h0, decide_eq_false (by omega : ¬ (nv s[0] = 39 ∨ nv s[0] = 34)), if_neg (by simp), hh, if_neg (by simp), ha, if_neg (by simp), if_neg (by omega), hbg, if_pos rfl, wordP, hpp] at hP

  have cN := fun w => number_ct s (by omega) w
  have hnn : (((numberP s.data.toList).2 : Nat) : Int) ≤ 0 := by omega
  generalize numberP s.data.toList = V at *
  obtain ⟨nm, nn⟩ := V
  simp only at hnn cN
  replace cN := Lib.hid cN

  have cB := fun w => begins_ct s (by unfold maxLen; omega) w
  simp only [hbg] at cB
  replace cB := Lib.hid cB
  have hrl : (namedP 1 s.data.toList 0).raw.length ≤ s.size := by
    show (s.data.toList.take _).length ≤ _
    rw [List.length_take, ← Lib.size_eq]
    omega
  have hro : pp = true → (namedP 1 s.data.toList 0).raw.length + 1 ≤ s.size := fun h => by
    rw [h] at hpp
    have := hp_roomc hpp
    rw [← Lib.size_eq] at this
    exact this
  have cX : ∀ w, Calls Tryd.prog 120 #[.string (s.extract (namedP 1 s.data.toList 0).raw.length s.size), .string ⟨#[40]⟩] w fun e w' => e = .returned (.bool pp) ∧ w = w' := fun w => by
    have := Tryd.strings_HasPrefix (s.extract (namedP 1 s.data.toList 0).raw.length s.size) (bs [40]) w
    rw [Lib.extract_to_end, show (bs [40]).data.toList = [40] from rfl, hpp] at this
    exact this.mono fun e w' ⟨h1, h2⟩ => ⟨h1, h2.symm⟩
  clear hpp hbg

  have cK : ∀ w, Calls Tryd.prog 116 #[.int .i64 1, .string s, .int .i64 0] w fun e w' => e = .returned (.agg (namedP 1 s.data.toList 0).cells) ∧ Below w.heap.size w w' := fun w => named_ct 1 s 0 (by omega) (by omega) w
  generalize hTK : namedP 1 s.data.toList 0 = t at *
  clear hTK
  obtain ⟨tk, tr, tv, tn⟩ := t
  simp only [Tk.cells] at cK
  simp only at hP hrl hro cX
  replace cK := Lib.hid cK
  have q35 : ((s[0].toNat : Int) == 35) = false := by have h := x1; simp only [nv] at h; rw [beq_eq_false_iff_ne]; omega
  have q64 : ((s[0].toNat : Int) == 64) = false := by have h := x2; simp only [nv] at h; rw [beq_eq_false_iff_ne]; omega
  have q39 : ((s[0].toNat : Int) == 39) = false := by have h := x3; simp only [nv] at h; rw [beq_eq_false_iff_ne]; omega
  have q34 : ((s[0].toNat : Int) == 34) = false := by have h := x4; simp only [nv] at h; rw [beq_eq_false_iff_ne]; omega

  replace cX := Lib.hid cX
  have hsz : (bs tr).size = tr.length := rfl
  replace hsz := Lib.hid hsz
  clear x1 x2 x3 x4 hh ha
  have cX2 : ∀ w, Calls Tryd.prog 120 #[.string (s.extract (bs tr).size s.size), .string ⟨#[40]⟩] w fun e w' => e = .returned (.bool pp) ∧ w = w' := cX.out
  replace cX2 := Lib.hid cX2
  have hr1 : (bs tr).size ≤ s.size := hrl
  cases pp
  · rw [if_neg (by simp)] at hP
    replace hP := Lib.hid hP
    clear hro

    go_enter Tryd.func70, Tryd.ntmps70
    go_wp2_with fail
    generalize hW0 : (w.alloc (.cells #[.string s] 9)).alloc (.cells #[.int .i64 0, .string ⟨#[]⟩, .string ⟨#[]⟩, .int .i64 0] 104) = W0
    have HB0 := Lib.hid (show Below w.heap.size w W0 by subst hW0; exact ((Below.refl _ _).alloc (Nat.le_refl _) _).alloc (by simp) _)
    have HZ : w.heap.size + 2 ≤ W0.heap.size := by subst hW0; simp
    have sB0 := Lib.hid (show Blk W0 w.heap.size 9 #[.string s] by subst hW0; exact (Blk.new rfl).alloc _)
    have rB0 := Lib.hid (show Blk W0 (w.heap.size + 1) 104 #[.int .i64 0, .string ⟨#[]⟩, .string ⟨#[]⟩, .int .i64 0] by subst hW0; exact Blk.new (by simp))
    have c0 : W0.cell? ⟨w.heap.size, 0, none⟩ = some (.string s) := sB0.out.cell 0
    clear hW0
    go_region_held3 (fun w' => (∀ b o, b < w.heap.size + 2 → w'.cell? ⟨b, o, none⟩ = W0.cell? ⟨b, o, none⟩) ∧ Below (w.heap.size + 2) W0 w')
      (first | exact As.beg | assumption | exact As.on hb3 (by assumption) HZ | exact As.alloc (by assumption) HZ)
      ((go_at_call 111; (with_reducible refine (cT.out _).mono ?_); rintro e W1 ⟨rfl, hb3⟩; have hS := Lib.hid (As.on (B := w.heap.size + 2) (W0 := W0) hb3 As.beg HZ)))
    all_goals
      rename_i hHeld
      clear hHeld
      have HB1 := Lib.hid (HB0.out.trans (hS.out.2.mono (by omega)))
      have sB := Lib.hid (sB0.out.below hS.out.2 (by omega))
      have rB := Lib.hid (rB0.out.below hS.out.2 (by omega))
      have rC := rB.out.cell
      have rF := rB.out.frozen
      have sF := sB.out.frozen
      have sz1 := rB.out.lt
      clear sB0 rB0 HB0 hS c0 hb3
      have sC := sB.out.cell
      go_wp2_with (first | (go_at_call 59; (with_reducible refine (cC.out _).mono ?_); rintro e w2 ⟨rfl, rfl⟩) | (go_at_call 117; (with_reducible refine (cB.out _).mono ?_); rintro e w2 ⟨rfl, rfl⟩) | (go_at_call 118; (with_reducible refine (cN.out _).mono ?_); rintro e W2 ⟨rfl, hb2⟩; have rB2 := Lib.hid (rB.out.below hb2 rB.out.lt); have HB2 := Lib.hid (HB1.out.trans (hb2.mono HB1.out.size)); have sB2 := Lib.hid (sB.out.below hb2 sB.out.lt); clear rC rF sC sF hb2; have rC := rB2.out.cell; have rF := rB2.out.frozen; have sC := sB2.out.cell; have sF := sB2.out.frozen; have sz2 := rB2.out.lt; have szs := sB2.out.lt) | (go_at_call 116; (with_reducible refine (cK.out _).mono ?_); rintro e W3 ⟨rfl, hb2⟩; have rB3 := Lib.hid (rB2.out.below hb2 rB2.out.lt); have HB3 := Lib.hid (HB2.out.trans (hb2.mono HB2.out.size)); have sB3 := Lib.hid (sB2.out.below hb2 sB2.out.lt); clear rC rF sC sF hb2; have rC := rB3.out.cell; have rF := rB3.out.frozen; have sC := sB3.out.cell; have sF := sB3.out.frozen; have sz3 := rB3.out.lt; have szt := sB3.out.lt) | (go_at_call 120; (with_reducible refine (cX2.out _).mono ?_); rintro e w2 ⟨rfl, rfl⟩))

      have e := Blk.cell (Blk.alloc (Blk.four rB3.out (.int .i64 tk) (.string (bs tr)) (.string (bs tv)) (.int .i64 tn)) (.cells #[.int .i64 tk, .string (bs tr), .string (bs tv), .int .i64 tn] 104))
      refine bodyPost_ret (v := .agg #[.int .i64 tk, .string (bs tr), .string (bs tv), .int .i64 tn]) (by simp [results, Tryd.results70, go_sem, e]) rfl ⟨?_, ?_⟩
      · rw [hP.out]
      · exact ((((HB3.out.setCell (by simp) _).setCell (by simp) _).setCell (by simp) _).setCell (by simp) _).alloc (by simp only [size_setCell]; omega) _

  · rw [if_pos rfl] at hP
    replace hP := Lib.hid hP
    have hr2 : (bs tr).size + 1 ≤ s.size := hro rfl
    have hr3 : ((bs tr).size : Int) + 1 ≤ (s.size : Int) := by omega
    have hr4 : (0 : Int) ≤ ((bs tr).size : Int) + 1 := by omega
    have hr5 := IntWalk.i64_in (((bs tr).size : Int) + 1) (by omega)
    have hr6 : (((bs tr).size : Int) + 1).toNat = (bs tr).size + 1 := by omega
    clear hro

    go_enter Tryd.func70, Tryd.ntmps70
    go_wp2_with fail
    generalize hW0 : (w.alloc (.cells #[.string s] 9)).alloc (.cells #[.int .i64 0, .string ⟨#[]⟩, .string ⟨#[]⟩, .int .i64 0] 104) = W0
    have HB0 := Lib.hid (show Below w.heap.size w W0 by subst hW0; exact ((Below.refl _ _).alloc (Nat.le_refl _) _).alloc (by simp) _)
    have HZ : w.heap.size + 2 ≤ W0.heap.size := by subst hW0; simp
    have sB0 := Lib.hid (show Blk W0 w.heap.size 9 #[.string s] by subst hW0; exact (Blk.new rfl).alloc _)
    have rB0 := Lib.hid (show Blk W0 (w.heap.size + 1) 104 #[.int .i64 0, .string ⟨#[]⟩, .string ⟨#[]⟩, .int .i64 0] by subst hW0; exact Blk.new (by simp))
    have c0 : W0.cell? ⟨w.heap.size, 0, none⟩ = some (.string s) := sB0.out.cell 0
    clear hW0
    go_region_held3 (fun w' => (∀ b o, b < w.heap.size + 2 → w'.cell? ⟨b, o, none⟩ = W0.cell? ⟨b, o, none⟩) ∧ Below (w.heap.size + 2) W0 w')
      (first | exact As.beg | assumption | exact As.on hb3 (by assumption) HZ | exact As.alloc (by assumption) HZ)
      ((go_at_call 111; (with_reducible refine (cT.out _).mono ?_); rintro e W1 ⟨rfl, hb3⟩; have hS := Lib.hid (As.on (B := w.heap.size + 2) (W0 := W0) hb3 As.beg HZ)))
    all_goals
      rename_i hHeld
      clear hHeld
      have HB1 := Lib.hid (HB0.out.trans (hS.out.2.mono (by omega)))
      have sB := Lib.hid (sB0.out.below hS.out.2 (by omega))
      have rB := Lib.hid (rB0.out.below hS.out.2 (by omega))
      have rC := rB.out.cell
      have rF := rB.out.frozen
      have sF := sB.out.frozen
      have sz1 := rB.out.lt
      clear sB0 rB0 HB0 hS c0 hb3
      have sC := sB.out.cell
      go_wp2_with (first | (go_at_call 59; (with_reducible refine (cC.out _).mono ?_); rintro e w2 ⟨rfl, rfl⟩) | (go_at_call 117; (with_reducible refine (cB.out _).mono ?_); rintro e w2 ⟨rfl, rfl⟩) | (go_at_call 118; (with_reducible refine (cN.out _).mono ?_); rintro e W2 ⟨rfl, hb2⟩; have rB2 := Lib.hid (rB.out.below hb2 rB.out.lt); have HB2 := Lib.hid (HB1.out.trans (hb2.mono HB1.out.size)); have sB2 := Lib.hid (sB.out.below hb2 sB.out.lt); clear rC rF sC sF hb2; have rC := rB2.out.cell; have rF := rB2.out.frozen; have sC := sB2.out.cell; have sF := sB2.out.frozen; have sz2 := rB2.out.lt; have szs := sB2.out.lt) | (go_at_call 116; (with_reducible refine (cK.out _).mono ?_); rintro e W3 ⟨rfl, hb2⟩; have rB3 := Lib.hid (rB2.out.below hb2 rB2.out.lt); have HB3 := Lib.hid (HB2.out.trans (hb2.mono HB2.out.size)); have sB3 := Lib.hid (sB2.out.below hb2 sB2.out.lt); clear rC rF sC sF hb2; have rC := rB3.out.cell; have rF := rB3.out.frozen; have sC := sB3.out.cell; have sF := sB3.out.frozen; have sz3 := rB3.out.lt; have szt := sB3.out.lt) | (go_at_call 120; (with_reducible refine (cX2.out _).mono ?_); rintro e w2 ⟨rfl, rfl⟩))

      generalize hV : W3.alloc (.cells #[.int .i64 tk, .string (bs tr), .string (bs tv), .int .i64 tn] 104) = V
      have tBv := Lib.hid (show Blk V W3.heap.size 104 #[.int .i64 tk, .string (bs tr), .string (bs tv), .int .i64 tn] by subst hV; exact Blk.new rfl)
      have sBv := Lib.hid (show Blk V w.heap.size 9 #[.string s] by subst hV; exact sB3.out.alloc _)
      have rBv := Lib.hid (show Blk V (w.heap.size + 1) 104 #[.int .i64 0, .string ⟨#[]⟩, .string ⟨#[]⟩, .int .i64 0] by subst hV; exact rB3.out.alloc _)
      have HBv := Lib.hid (show Below w.heap.size w V by subst hV; exact HB3.out.alloc HB3.out.size _)
      have hzv := tBv.out.lt
      clear hV rC rF sC sF
      have vC := sBv.out.cell
      have vC2 := rBv.out.cell
      have vC3 := tBv.out.cell
      have vF2 := rBv.out.frozen
      have vF3 := tBv.out.frozen
      go_region_held3 (fun w' => (∀ b o, b < W3.heap.size → w'.cell? ⟨b, o, none⟩ = V.cell? ⟨b, o, none⟩) ∧ Below W3.heap.size V w')
        (first | exact As.beg | assumption | exact As.drew (As.store As.beg0 (Nat.le_refl _)) | exact As.drew (As.store (As.store As.beg0 (Nat.le_refl _)) (Nat.le_refl _)) | exact As.store As.beg0 (Nat.le_refl _) | exact As.store (As.store As.beg0 (Nat.le_refl _)) (Nat.le_refl _))
        (fail)
      all_goals
        rename_i hHeld
        clear hHeld
        generalize hX : ((V.setCell ⟨W3.heap.size, 0, none⟩ (.int .i64 2)).setCell ⟨W3.heap.size, 1, none⟩ (.string (s.extract 0 ((bs tr).size + 1)))).drew = X
        have tX := Lib.hid (show Blk X W3.heap.size 104 #[.int .i64 2, .string (s.extract 0 ((bs tr).size + 1)), .string (bs tv), .int .i64 tn] by subst hX; exact ((tBv.out.put 0 (.int .i64 2)).put 1 (.string (s.extract 0 ((bs tr).size + 1)))).drew)
        have rX := Lib.hid (show Blk X (w.heap.size + 1) 104 #[.int .i64 0, .string ⟨#[]⟩, .string ⟨#[]⟩, .int .i64 0] by subst hX; exact ((rBv.out.far (by dsimp only; omega) _).far (by dsimp only; omega) _).drew)
        have HX := Lib.hid (show Below w.heap.size w X by subst hX; exact ((HBv.out.setCell (by dsimp only; omega) _).setCell (by dsimp only; omega) _).drew)
        clear hX vC vC2 vC3 vF2 vF3
        have xC := tX.out.cell
        have xC2 := rX.out.cell
        have xF2 := rX.out.frozen
        go_wp2
        have e := Blk.cell (Blk.four rX.out (.int .i64 2) (.string (s.extract 0 ((bs tr).size + 1))) (.string (bs tv)) (.int .i64 tn))
        refine bodyPost_ret (v := .agg #[.int .i64 2, .string (s.extract 0 ((bs tr).size + 1)), .string (bs tv), .int .i64 tn]) (by simp [results, Tryd.results70, go_sem, e]) rfl ⟨?_, ?_⟩
        · rw [hP.out]
          exact ret_tok rfl (take_ex _ _) rfl rfl
        · exact (((HX.out.setCell (by simp) _).setCell (by simp) _).setCell (by simp) _).setCell (by simp) _


end Go.Proofs.YtaihncbejhnceaaDoor.tok

namespace Go.Proofs.YtaihncbejhnceaaDoor.tok
open Go.RowKit Go.Proofs.YtaihncbejhnceaaDoor.base
set_option linter.unusedVariables false

set_option maxRecDepth 100000 in
set_option maxHeartbeats 8000000 in
theorem one_hash_short (s : ByteArray) (hs : s.size < 4294967281) (h0 : 0 < s.size) (w : World) (hsp : spaceP s.data.toList = 0) (hn : Lib.hasPrefix s.data.toList [47, 42] = false) (hnp : (numberP s.data.toList).2 = 0) (hbg : beginsP s.data.toList = false) (hx : nv s[0] = 35) (h1 : s.size ≤ 1) :
    Calls Tryd.prog 70 #[.string s] w fun e w' => e = .returned (.agg (firstP s.data.toList).cells) ∧ Below w.heap.size w w' := by
  have hsl := space_len s.data.toList
  rw [← Lib.size_eq] at hsl
  have cT := fun w => trimL_ct s [32, 9, 10, 12, 13] (by decide) (by decide) w
  have hP : firstP s.data.toList = if 0 < spaceP s.data.toList then ⟨8, s.data.toList.take (spaceP s.data.toList), [], 0⟩ else
    if Lib.hasPrefix s.data.toList [47, 42] then noteP s.data.toList else
    if quoteP s.data.toList then textP s.data.toList else
    if hashP s.data.toList then namedP 4 s.data.toList 1 else
    if atP s.data.toList then namedP 3 s.data.toList 1 else
    if 0 < (numberP s.data.toList).2 then numTkP s.data.toList (numberP s.data.toList).1 (numberP s.data.toList).2 else
    if beginsP s.data.toList then wordP s.data.toList else ⟨oneK s.data.toList, s.data.toList.take 1, [], 0⟩ := rfl
  generalize hNP : firstP s.data.toList = NP at *
  clear hNP
  generalize hTT : Lib.trimLeftS s.data.toList [32, 9, 10, 12, 13] = T at *
  clear hTT
  replace cT := Lib.hid cT

  rw [if_neg (by omega : ¬ 0 < spaceP s.data.toList)] at hP
  have hsl1 : (s.size : Int) ≤ (T.length : Int) := by omega
  have hsl3 : (T.length : Int) ≤ (s.size : Int) := by omega
  clear hsl

  have cC : ∀ w, Calls Tryd.prog 59 #[.string s, .string ⟨#[47, 42]⟩] w fun e w' => e = .returned (.tuple #[.string ⟨(Lib.trimPrefix s.data.toList [47, 42]).toArray⟩, .bool false]) ∧ w = w' := fun w => by
    have := Tryd.strings_CutPrefix s (bs [47, 42]) w
    rw [show (bs [47, 42]).data.toList = [47, 42] from rfl, hn] at this
    exact this.mono fun e w' ⟨h1, h2⟩ => ⟨h1, h2.symm⟩

  rw [hn, if_neg (by simp)] at hP
  generalize Lib.trimPrefix s.data.toList [47, 42] = R at *
  replace cC := Lib.hid cC
  replace hn := Lib.hid hn

  have hh : hashP s.data.toList = false := hash_short (by omega)
  have ha : atP s.data.toList = false := by rw [at_of h0, decide_eq_false (by omega : ¬ nv s[0] = 64)]; rfl

  have ho : oneK s.data.toList = 12 := by rw [one_of h0]; split <;> (try split) <;> (try split) <;> first | rfl | omega
  rw [quote_of h0, decide_eq_false (by omega : ¬ (nv s[0] = 39 ∨ nv s[0] = 34)), if_neg (by simp), hh, if_neg (by simp), ha, if_neg (by simp), if_neg (by omega), hbg, if_neg (by simp), ho] at hP

  have cN := fun w => number_ct s (by omega) w
  have hnn : (((numberP s.data.toList).2 : Nat) : Int) ≤ 0 := by omega
  generalize numberP s.data.toList = V at *
  obtain ⟨nm, nn⟩ := V
  simp only at hnn cN
  replace cN := Lib.hid cN

  have cB := fun w => begins_ct s (by unfold maxLen; omega) w
  simp only [hbg] at cB
  replace cB := Lib.hid cB
  clear hbg hh ha ho
  have h1' : (s.size : Int) ≤ 1 := by omega
  have q39 : ((s[0].toNat : Int) == 39) = false := by have h := hx; simp only [nv] at h; rw [beq_eq_false_iff_ne]; omega
  have q34 : ((s[0].toNat : Int) == 34) = false := by have h := hx; simp only [nv] at h; rw [beq_eq_false_iff_ne]; omega
  have q35 : ((s[0].toNat : Int) == 35) = true := by have h := hx; simp only [nv] at h; rw [h]; rfl
  have q64 : ((s[0].toNat : Int) == 64) = false := by have h := hx; simp only [nv] at h; rw [beq_eq_false_iff_ne]; omega
  have q40 : ((s[0].toNat : Int) == 40) = false := by have h := hx; simp only [nv] at h; rw [beq_eq_false_iff_ne]; omega
  have q91 : ((s[0].toNat : Int) == 91) = false := by have h := hx; simp only [nv] at h; rw [beq_eq_false_iff_ne]; omega
  have q123 : ((s[0].toNat : Int) == 123) = false := by have h := hx; simp only [nv] at h; rw [beq_eq_false_iff_ne]; omega
  have q41 : ((s[0].toNat : Int) == 41) = false := by have h := hx; simp only [nv] at h; rw [beq_eq_false_iff_ne]; omega
  have q93 : ((s[0].toNat : Int) == 93) = false := by have h := hx; simp only [nv] at h; rw [beq_eq_false_iff_ne]; omega
  have q125 : ((s[0].toNat : Int) == 125) = false := by have h := hx; simp only [nv] at h; rw [beq_eq_false_iff_ne]; omega
  have q92 : ((s[0].toNat : Int) == 92) = false := by have h := hx; simp only [nv] at h; rw [beq_eq_false_iff_ne]; omega

  replace hx := Lib.hid hx
  replace hP := Lib.hid hP

  go_enter Tryd.func70, Tryd.ntmps70
  go_wp2_with fail
  generalize hW0 : (w.alloc (.cells #[.string s] 9)).alloc (.cells #[.int .i64 0, .string ⟨#[]⟩, .string ⟨#[]⟩, .int .i64 0] 104) = W0
  have HB0 := Lib.hid (show Below w.heap.size w W0 by subst hW0; exact ((Below.refl _ _).alloc (Nat.le_refl _) _).alloc (by simp) _)
  have HZ : w.heap.size + 2 ≤ W0.heap.size := by subst hW0; simp
  have sB0 := Lib.hid (show Blk W0 w.heap.size 9 #[.string s] by subst hW0; exact (Blk.new rfl).alloc _)
  have rB0 := Lib.hid (show Blk W0 (w.heap.size + 1) 104 #[.int .i64 0, .string ⟨#[]⟩, .string ⟨#[]⟩, .int .i64 0] by subst hW0; exact Blk.new (by simp))
  have c0 : W0.cell? ⟨w.heap.size, 0, none⟩ = some (.string s) := sB0.out.cell 0
  clear hW0
  go_region_held3 (fun w' => (∀ b o, b < w.heap.size + 2 → w'.cell? ⟨b, o, none⟩ = W0.cell? ⟨b, o, none⟩) ∧ Below (w.heap.size + 2) W0 w')
    (first | exact As.beg | assumption | exact As.on hb3 (by assumption) HZ | exact As.alloc (by assumption) HZ)
    ((go_at_call 111; (with_reducible refine (cT.out _).mono ?_); rintro e W1 ⟨rfl, hb3⟩; have hS := Lib.hid (As.on (B := w.heap.size + 2) (W0 := W0) hb3 As.beg HZ)))
  all_goals
    rename_i hHeld
    clear hHeld
    have HB1 := Lib.hid (HB0.out.trans (hS.out.2.mono (by omega)))
    have sB := Lib.hid (sB0.out.below hS.out.2 (by omega))
    have rB := Lib.hid (rB0.out.below hS.out.2 (by omega))
    have rC := rB.out.cell
    have rF := rB.out.frozen
    have sF := sB.out.frozen
    have sz1 := rB.out.lt
    clear sB0 rB0 HB0 hS c0 hb3
    have sC := sB.out.cell
    go_wp2_with (first | (go_at_call 59; (with_reducible refine (cC.out _).mono ?_); rintro e w2 ⟨rfl, rfl⟩) | (go_at_call 117; (with_reducible refine (cB.out _).mono ?_); rintro e w2 ⟨rfl, rfl⟩) | (go_at_call 118; (with_reducible refine (cN.out _).mono ?_); rintro e W2 ⟨rfl, hb2⟩; have rB2 := Lib.hid (rB.out.below hb2 rB.out.lt); have HB2 := Lib.hid (HB1.out.trans (hb2.mono HB1.out.size)); have sB2 := Lib.hid (sB.out.below hb2 sB.out.lt); clear rC rF sC sF hb2; have rC := rB2.out.cell; have rF := rB2.out.frozen; have sC := sB2.out.cell; have sF := sB2.out.frozen; have sz2 := rB2.out.lt; have szs := sB2.out.lt) | (go_at_call 110; (with_reducible refine (one_ct 12 s w.heap.size _ hs h0 sB2.out).mono ?_); rintro e W3 ⟨rfl, hb2⟩; have rB3 := Lib.hid (rB2.out.below hb2 rB2.out.lt); have HB3 := Lib.hid (HB2.out.trans (hb2.mono HB2.out.size)); clear rC rF sC sF hb2; have rC := rB3.out.cell; have rF := rB3.out.frozen; have sz3 := rB3.out.lt))

    have e := Blk.cell (Blk.four (rB3.out) (.int .i64 12) (.string (s.extract 0 1)) (.string ⟨#[]⟩) (.int .i64 0))
    refine bodyPost_ret (v := .agg #[.int .i64 12, .string (s.extract 0 1), .string ⟨#[]⟩, .int .i64 0]) (by simp [results, Tryd.results70, go_sem, e]) rfl ⟨?_, ?_⟩
    · rw [hP.out]
      exact ret_tok rfl (take_ex _ _) rfl rfl
    · exact (((HB3.out.setCell (by simp) _).setCell (by simp) _).setCell (by simp) _).setCell (by simp) _

set_option maxRecDepth 100000 in
set_option maxHeartbeats 8000000 in
theorem one_hash (s : ByteArray) (hs : s.size < 4294967281) (h0 : 0 < s.size) (w : World) (hsp : spaceP s.data.toList = 0) (hn : Lib.hasPrefix s.data.toList [47, 42] = false) (hnp : (numberP s.data.toList).2 = 0) (hbg : beginsP s.data.toList = false) (hx : nv s[0] = 35) (h1 : 1 < s.size) (sb eb : Bool) (hsb : signI (nv s[1]) = sb) (heb : escP (s.extract 1 s.size).data.toList = eb) (hsf : sb = false) (hef : eb = false) :
    Calls Tryd.prog 70 #[.string s] w fun e w' => e = .returned (.agg (firstP s.data.toList).cells) ∧ Below w.heap.size w w' := by
  have hsl := space_len s.data.toList
  rw [← Lib.size_eq] at hsl
  have cT := fun w => trimL_ct s [32, 9, 10, 12, 13] (by decide) (by decide) w
  have hP : firstP s.data.toList = if 0 < spaceP s.data.toList then ⟨8, s.data.toList.take (spaceP s.data.toList), [], 0⟩ else
    if Lib.hasPrefix s.data.toList [47, 42] then noteP s.data.toList else
    if quoteP s.data.toList then textP s.data.toList else
    if hashP s.data.toList then namedP 4 s.data.toList 1 else
    if atP s.data.toList then namedP 3 s.data.toList 1 else
    if 0 < (numberP s.data.toList).2 then numTkP s.data.toList (numberP s.data.toList).1 (numberP s.data.toList).2 else
    if beginsP s.data.toList then wordP s.data.toList else ⟨oneK s.data.toList, s.data.toList.take 1, [], 0⟩ := rfl
  generalize hNP : firstP s.data.toList = NP at *
  clear hNP
  generalize hTT : Lib.trimLeftS s.data.toList [32, 9, 10, 12, 13] = T at *
  clear hTT
  replace cT := Lib.hid cT

  rw [if_neg (by omega : ¬ 0 < spaceP s.data.toList)] at hP
  have hsl1 : (s.size : Int) ≤ (T.length : Int) := by omega
  have hsl3 : (T.length : Int) ≤ (s.size : Int) := by omega
  clear hsl

  have cC : ∀ w, Calls Tryd.prog 59 #[.string s, .string ⟨#[47, 42]⟩] w fun e w' => e = .returned (.tuple #[.string ⟨(Lib.trimPrefix s.data.toList [47, 42]).toArray⟩, .bool false]) ∧ w = w' := fun w => by
    have := Tryd.strings_CutPrefix s (bs [47, 42]) w
    rw [show (bs [47, 42]).data.toList = [47, 42] from rfl, hn] at this
    exact this.mono fun e w' ⟨h1, h2⟩ => ⟨h1, h2.symm⟩

  rw [hn, if_neg (by simp)] at hP
  generalize Lib.trimPrefix s.data.toList [47, 42] = R at *
  replace cC := Lib.hid cC
  replace hn := Lib.hid hn

  have hh : hashP s.data.toList = false := by rw [hash_long h1, hsb, heb, hsf, hef]; simp
  have ha : atP s.data.toList = false := by rw [at_of h0, decide_eq_false (by omega : ¬ nv s[0] = 64)]; rfl

  have ho : oneK s.data.toList = 12 := by rw [one_of h0]; split <;> (try split) <;> (try split) <;> first | rfl | omega
  rw [quote_of h0, decide_eq_false (by omega : ¬ (nv s[0] = 39 ∨ nv s[0] = 34)), if_neg (by simp), hh, if_neg (by simp), ha, if_neg (by simp), if_neg (by omega), hbg, if_neg (by simp), ho] at hP

  have cN := fun w => number_ct s (by omega) w
  have hnn : (((numberP s.data.toList).2 : Nat) : Int) ≤ 0 := by omega
  generalize numberP s.data.toList = V at *
  obtain ⟨nm, nn⟩ := V
  simp only at hnn cN
  replace cN := Lib.hid cN

  have cB := fun w => begins_ct s (by unfold maxLen; omega) w
  simp only [hbg] at cB
  replace cB := Lib.hid cB
  clear hbg hh ha ho

  have cS := fun w => sign_ct (nv s[1]) (nv_nn _) (nv_lt _) w
  simp only [hsb] at cS
  have cE := fun w => escape_ct (s.extract 1 s.size) (sub_len _ _ (by unfold maxLen; omega)) w
  simp only [heb] at cE
  replace cS := Lib.hid cS
  replace cE := Lib.hid cE
  have h1' : (1 : Int) < (s.size : Int) := by omega
  clear hsb heb
  subst hsf hef
  have q39 : ((s[0].toNat : Int) == 39) = false := by have h := hx; simp only [nv] at h; rw [beq_eq_false_iff_ne]; omega
  have q34 : ((s[0].toNat : Int) == 34) = false := by have h := hx; simp only [nv] at h; rw [beq_eq_false_iff_ne]; omega
  have q35 : ((s[0].toNat : Int) == 35) = true := by have h := hx; simp only [nv] at h; rw [h]; rfl
  have q64 : ((s[0].toNat : Int) == 64) = false := by have h := hx; simp only [nv] at h; rw [beq_eq_false_iff_ne]; omega
  have q40 : ((s[0].toNat : Int) == 40) = false := by have h := hx; simp only [nv] at h; rw [beq_eq_false_iff_ne]; omega
  have q91 : ((s[0].toNat : Int) == 91) = false := by have h := hx; simp only [nv] at h; rw [beq_eq_false_iff_ne]; omega
  have q123 : ((s[0].toNat : Int) == 123) = false := by have h := hx; simp only [nv] at h; rw [beq_eq_false_iff_ne]; omega
  have q41 : ((s[0].toNat : Int) == 41) = false := by have h := hx; simp only [nv] at h; rw [beq_eq_false_iff_ne]; omega
  have q93 : ((s[0].toNat : Int) == 93) = false := by have h := hx; simp only [nv] at h; rw [beq_eq_false_iff_ne]; omega
  have q125 : ((s[0].toNat : Int) == 125) = false := by have h := hx; simp only [nv] at h; rw [beq_eq_false_iff_ne]; omega
  have q92 : ((s[0].toNat : Int) == 92) = false := by have h := hx; simp only [nv] at h; rw [beq_eq_false_iff_ne]; omega

  replace hx := Lib.hid hx
  replace hP := Lib.hid hP

  go_enter Tryd.func70, Tryd.ntmps70
  go_wp2_with fail
  generalize hW0 : (w.alloc (.cells #[.string s] 9)).alloc (.cells #[.int .i64 0, .string ⟨#[]⟩, .string ⟨#[]⟩, .int .i64 0] 104) = W0
  have HB0 := Lib.hid (show Below w.heap.size w W0 by subst hW0; exact ((Below.refl _ _).alloc (Nat.le_refl _) _).alloc (by simp) _)
  have HZ : w.heap.size + 2 ≤ W0.heap.size := by subst hW0; simp
  have sB0 := Lib.hid (show Blk W0 w.heap.size 9 #[.string s] by subst hW0; exact (Blk.new rfl).alloc _)
  have rB0 := Lib.hid (show Blk W0 (w.heap.size + 1) 104 #[.int .i64 0, .string ⟨#[]⟩, .string ⟨#[]⟩, .int .i64 0] by subst hW0; exact Blk.new (by simp))
  have c0 : W0.cell? ⟨w.heap.size, 0, none⟩ = some (.string s) := sB0.out.cell 0
  clear hW0
  go_region_held3 (fun w' => (∀ b o, b < w.heap.size + 2 → w'.cell? ⟨b, o, none⟩ = W0.cell? ⟨b, o, none⟩) ∧ Below (w.heap.size + 2) W0 w')
    (first | exact As.beg | assumption | exact As.on hb3 (by assumption) HZ | exact As.alloc (by assumption) HZ)
    ((go_at_call 111; (with_reducible refine (cT.out _).mono ?_); rintro e W1 ⟨rfl, hb3⟩; have hS := Lib.hid (As.on (B := w.heap.size + 2) (W0 := W0) hb3 As.beg HZ)))
  all_goals
    rename_i hHeld
    clear hHeld
    have HB1 := Lib.hid (HB0.out.trans (hS.out.2.mono (by omega)))
    have sB := Lib.hid (sB0.out.below hS.out.2 (by omega))
    have rB := Lib.hid (rB0.out.below hS.out.2 (by omega))
    have rC := rB.out.cell
    have rF := rB.out.frozen
    have sF := sB.out.frozen
    have sz1 := rB.out.lt
    clear sB0 rB0 HB0 hS c0 hb3
    have sC := sB.out.cell
    go_wp2_with (first | (go_at_call 59; (with_reducible refine (cC.out _).mono ?_); rintro e w2 ⟨rfl, rfl⟩) | (go_at_call 114; (with_reducible refine (cS.out _).mono ?_); rintro e w2 ⟨rfl, rfl⟩) | (go_at_call 115; (with_reducible refine (cE.out _).mono ?_); rintro e w2 ⟨rfl, rfl⟩) | (go_at_call 117; (with_reducible refine (cB.out _).mono ?_); rintro e w2 ⟨rfl, rfl⟩) | (go_at_call 118; (with_reducible refine (cN.out _).mono ?_); rintro e W2 ⟨rfl, hb2⟩; have rB2 := Lib.hid (rB.out.below hb2 rB.out.lt); have HB2 := Lib.hid (HB1.out.trans (hb2.mono HB1.out.size)); have sB2 := Lib.hid (sB.out.below hb2 sB.out.lt); clear rC rF sC sF hb2; have rC := rB2.out.cell; have rF := rB2.out.frozen; have sC := sB2.out.cell; have sF := sB2.out.frozen; have sz2 := rB2.out.lt; have szs := sB2.out.lt) | (go_at_call 110; (with_reducible refine (one_ct 12 s w.heap.size _ hs h0 sB2.out).mono ?_); rintro e W3 ⟨rfl, hb2⟩; have rB3 := Lib.hid (rB2.out.below hb2 rB2.out.lt); have HB3 := Lib.hid (HB2.out.trans (hb2.mono HB2.out.size)); clear rC rF sC sF hb2; have rC := rB3.out.cell; have rF := rB3.out.frozen; have sz3 := rB3.out.lt))

    have e := Blk.cell (Blk.four (rB3.out) (.int .i64 12) (.string (s.extract 0 1)) (.string ⟨#[]⟩) (.int .i64 0))
    refine bodyPost_ret (v := .agg #[.int .i64 12, .string (s.extract 0 1), .string ⟨#[]⟩, .int .i64 0]) (by simp [results, Tryd.results70, go_sem, e]) rfl ⟨?_, ?_⟩
    · rw [hP.out]
      exact ret_tok rfl (take_ex _ _) rfl rfl
    · exact (((HB3.out.setCell (by simp) _).setCell (by simp) _).setCell (by simp) _).setCell (by simp) _

set_option maxRecDepth 100000 in
set_option maxHeartbeats 8000000 in
theorem one_at (s : ByteArray) (hs : s.size < 4294967281) (h0 : 0 < s.size) (w : World) (hsp : spaceP s.data.toList = 0) (hn : Lib.hasPrefix s.data.toList [47, 42] = false) (hnp : (numberP s.data.toList).2 = 0) (hbg : beginsP s.data.toList = false) (hx : nv s[0] = 64) (hb1 : beginsP (s.extract 1 s.size).data.toList = false) :
    Calls Tryd.prog 70 #[.string s] w fun e w' => e = .returned (.agg (firstP s.data.toList).cells) ∧ Below w.heap.size w w' := by
  have hsl := space_len s.data.toList
  rw [← Lib.size_eq] at hsl
  have cT := fun w => trimL_ct s [32, 9, 10, 12, 13] (by decide) (by decide) w
  have hP : firstP s.data.toList = if 0 < spaceP s.data.toList then ⟨8, s.data.toList.take (spaceP s.data.toList), [], 0⟩ else
    if Lib.hasPrefix s.data.toList [47, 42] then noteP s.data.toList else
    if quoteP s.data.toList then textP s.data.toList else
    if hashP s.data.toList then namedP 4 s.data.toList 1 else
    if atP s.data.toList then namedP 3 s.data.toList 1 else
    if 0 < (numberP s.data.toList).2 then numTkP s.data.toList (numberP s.data.toList).1 (numberP s.data.toList).2 else
    if beginsP s.data.toList then wordP s.data.toList else ⟨oneK s.data.toList, s.data.toList.take 1, [], 0⟩ := rfl
  generalize hNP : firstP s.data.toList = NP at *
  clear hNP
  generalize hTT : Lib.trimLeftS s.data.toList [32, 9, 10, 12, 13] = T at *
  clear hTT
  replace cT := Lib.hid cT

  rw [if_neg (by omega : ¬ 0 < spaceP s.data.toList)] at hP
  have hsl1 : (s.size : Int) ≤ (T.length : Int) := by omega
  have hsl3 : (T.length : Int) ≤ (s.size : Int) := by omega
  clear hsl

  have cC : ∀ w, Calls Tryd.prog 59 #[.string s, .string ⟨#[47, 42]⟩] w fun e w' => e = .returned (.tuple #[.string ⟨(Lib.trimPrefix s.data.toList [47, 42]).toArray⟩, .bool false]) ∧ w = w' := fun w => by
    have := Tryd.strings_CutPrefix s (bs [47, 42]) w
    rw [show (bs [47, 42]).data.toList = [47, 42] from rfl, hn] at this
    exact this.mono fun e w' ⟨h1, h2⟩ => ⟨h1, h2.symm⟩

  rw [hn, if_neg (by simp)] at hP
  generalize Lib.trimPrefix s.data.toList [47, 42] = R at *
  replace cC := Lib.hid cC
  replace hn := Lib.hid hn

  have hh : hashP s.data.toList = false := by
    rcases Nat.lt_or_ge 1 s.size with h1 | h1
    · rw [hash_long h1, decide_eq_false (by omega : ¬ nv s[0] = 35)]
      rfl
    · exact hash_short h1
  have ha : atP s.data.toList = false := by rw [at_of h0, hb1]; simp

  have ho : oneK s.data.toList = 12 := by rw [one_of h0]; split <;> (try split) <;> (try split) <;> first | rfl | omega
  rw [quote_of h0, decide_eq_false (by omega : ¬ (nv s[0] = 39 ∨ nv s[0] = 34)), if_neg (by simp), hh, if_neg (by simp), ha, if_neg (by simp), if_neg (by omega), hbg, if_neg (by simp), ho] at hP

  have cN := fun w => number_ct s (by omega) w
  have hnn : (((numberP s.data.toList).2 : Nat) : Int) ≤ 0 := by omega
  generalize numberP s.data.toList = V at *
  obtain ⟨nm, nn⟩ := V
  simp only at hnn cN
  replace cN := Lib.hid cN

  have cB := fun w => begins_ct s (by unfold maxLen; omega) w
  simp only [hbg] at cB
  replace cB := Lib.hid cB
  clear hbg hh ha ho

  have cB2 := fun w => begins_ct (s.extract 1 s.size) (sub_len _ _ (by unfold maxLen; omega)) w
  simp only [hb1] at cB2
  replace cB2 := Lib.hid cB2
  clear hb1
  have h1' : (1 : Int) ≤ (s.size : Int) := by omega
  have q39 : ((s[0].toNat : Int) == 39) = false := by have h := hx; simp only [nv] at h; rw [beq_eq_false_iff_ne]; omega
  have q34 : ((s[0].toNat : Int) == 34) = false := by have h := hx; simp only [nv] at h; rw [beq_eq_false_iff_ne]; omega
  have q35 : ((s[0].toNat : Int) == 35) = false := by have h := hx; simp only [nv] at h; rw [beq_eq_false_iff_ne]; omega
  have q64 : ((s[0].toNat : Int) == 64) = true := by have h := hx; simp only [nv] at h; rw [h]; rfl
  have q40 : ((s[0].toNat : Int) == 40) = false := by have h := hx; simp only [nv] at h; rw [beq_eq_false_iff_ne]; omega
  have q91 : ((s[0].toNat : Int) == 91) = false := by have h := hx; simp only [nv] at h; rw [beq_eq_false_iff_ne]; omega
  have q123 : ((s[0].toNat : Int) == 123) = false := by have h := hx; simp only [nv] at h; rw [beq_eq_false_iff_ne]; omega
  have q41 : ((s[0].toNat : Int) == 41) = false := by have h := hx; simp only [nv] at h; rw [beq_eq_false_iff_ne]; omega
  have q93 : ((s[0].toNat : Int) == 93) = false := by have h := hx; simp only [nv] at h; rw [beq_eq_false_iff_ne]; omega
  have q125 : ((s[0].toNat : Int) == 125) = false := by have h := hx; simp only [nv] at h; rw [beq_eq_false_iff_ne]; omega
  have q92 : ((s[0].toNat : Int) == 92) = false := by have h := hx; simp only [nv] at h; rw [beq_eq_false_iff_ne]; omega

  replace hx := Lib.hid hx
  replace hP := Lib.hid hP

  go_enter Tryd.func70, Tryd.ntmps70
  go_wp2_with fail
  generalize hW0 : (w.alloc (.cells #[.string s] 9)).alloc (.cells #[.int .i64 0, .string ⟨#[]⟩, .string ⟨#[]⟩, .int .i64 0] 104) = W0
  have HB0 := Lib.hid (show Below w.heap.size w W0 by subst hW0; exact ((Below.refl _ _).alloc (Nat.le_refl _) _).alloc (by simp) _)
  have HZ : w.heap.size + 2 ≤ W0.heap.size := by subst hW0; simp
  have sB0 := Lib.hid (show Blk W0 w.heap.size 9 #[.string s] by subst hW0; exact (Blk.new rfl).alloc _)
  have rB0 := Lib.hid (show Blk W0 (w.heap.size + 1) 104 #[.int .i64 0, .string ⟨#[]⟩, .string ⟨#[]⟩, .int .i64 0] by subst hW0; exact Blk.new (by simp))
  have c0 : W0.cell? ⟨w.heap.size, 0, none⟩ = some (.string s) := sB0.out.cell 0
  clear hW0
  go_region_held3 (fun w' => (∀ b o, b < w.heap.size + 2 → w'.cell? ⟨b, o, none⟩ = W0.cell? ⟨b, o, none⟩) ∧ Below (w.heap.size + 2) W0 w')
    (first | exact As.beg | assumption | exact As.on hb3 (by assumption) HZ | exact As.alloc (by assumption) HZ)
    ((go_at_call 111; (with_reducible refine (cT.out _).mono ?_); rintro e W1 ⟨rfl, hb3⟩; have hS := Lib.hid (As.on (B := w.heap.size + 2) (W0 := W0) hb3 As.beg HZ)))
  all_goals
    rename_i hHeld
    clear hHeld
    have HB1 := Lib.hid (HB0.out.trans (hS.out.2.mono (by omega)))
    have sB := Lib.hid (sB0.out.below hS.out.2 (by omega))
    have rB := Lib.hid (rB0.out.below hS.out.2 (by omega))
    have rC := rB.out.cell
    have rF := rB.out.frozen
    have sF := sB.out.frozen
    have sz1 := rB.out.lt
    clear sB0 rB0 HB0 hS c0 hb3
    have sC := sB.out.cell
    go_wp2_with (first | (go_at_call 59; (with_reducible refine (cC.out _).mono ?_); rintro e w2 ⟨rfl, rfl⟩) | (go_at_call 117; (with_reducible refine (cB2.out _).mono ?_); rintro e w2 ⟨rfl, rfl⟩) | (go_at_call 117; (with_reducible refine (cB.out _).mono ?_); rintro e w2 ⟨rfl, rfl⟩) | (go_at_call 118; (with_reducible refine (cN.out _).mono ?_); rintro e W2 ⟨rfl, hb2⟩; have rB2 := Lib.hid (rB.out.below hb2 rB.out.lt); have HB2 := Lib.hid (HB1.out.trans (hb2.mono HB1.out.size)); have sB2 := Lib.hid (sB.out.below hb2 sB.out.lt); clear rC rF sC sF hb2; have rC := rB2.out.cell; have rF := rB2.out.frozen; have sC := sB2.out.cell; have sF := sB2.out.frozen; have sz2 := rB2.out.lt; have szs := sB2.out.lt) | (go_at_call 110; (with_reducible refine (one_ct 12 s w.heap.size _ hs h0 sB2.out).mono ?_); rintro e W3 ⟨rfl, hb2⟩; have rB3 := Lib.hid (rB2.out.below hb2 rB2.out.lt); have HB3 := Lib.hid (HB2.out.trans (hb2.mono HB2.out.size)); clear rC rF sC sF hb2; have rC := rB3.out.cell; have rF := rB3.out.frozen; have sz3 := rB3.out.lt))

    have e := Blk.cell (Blk.four (rB3.out) (.int .i64 12) (.string (s.extract 0 1)) (.string ⟨#[]⟩) (.int .i64 0))
    refine bodyPost_ret (v := .agg #[.int .i64 12, .string (s.extract 0 1), .string ⟨#[]⟩, .int .i64 0]) (by simp [results, Tryd.results70, go_sem, e]) rfl ⟨?_, ?_⟩
    · rw [hP.out]
      exact ret_tok rfl (take_ex _ _) rfl rfl
    · exact (((HB3.out.setCell (by simp) _).setCell (by simp) _).setCell (by simp) _).setCell (by simp) _

end Go.Proofs.YtaihncbejhnceaaDoor.tok

namespace Go.Proofs.YtaihncbejhnceaaDoor.tok
open Go.RowKit Go.Proofs.YtaihncbejhnceaaDoor.base
set_option linter.unusedVariables false

set_option maxRecDepth 100000 in
set_option maxHeartbeats 8000000 in
theorem one_40 (s : ByteArray) (hs : s.size < 4294967281) (h0 : 0 < s.size) (w : World) (hsp : spaceP s.data.toList = 0) (hn : Lib.hasPrefix s.data.toList [47, 42] = false) (hnp : (numberP s.data.toList).2 = 0) (hbg : beginsP s.data.toList = false) (hx : nv s[0] = 40) :
    Calls Tryd.prog 70 #[.string s] w fun e w' => e = .returned (.agg (firstP s.data.toList).cells) ∧ Below w.heap.size w w' := by
  have hsl := space_len s.data.toList
  rw [← Lib.size_eq] at hsl
  have cT := fun w => trimL_ct s [32, 9, 10, 12, 13] (by decide) (by decide) w
  have hP : firstP s.data.toList = if 0 < spaceP s.data.toList then ⟨8, s.data.toList.take (spaceP s.data.toList), [], 0⟩ else
    if Lib.hasPrefix s.data.toList [47, 42] then noteP s.data.toList else
    if quoteP s.data.toList then textP s.data.toList else
    if hashP s.data.toList then namedP 4 s.data.toList 1 else
    if atP s.data.toList then namedP 3 s.data.toList 1 else
    if 0 < (numberP s.data.toList).2 then numTkP s.data.toList (numberP s.data.toList).1 (numberP s.data.toList).2 else
    if beginsP s.data.toList then wordP s.data.toList else ⟨oneK s.data.toList, s.data.toList.take 1, [], 0⟩ := rfl
  generalize hNP : firstP s.data.toList = NP at *
  clear hNP
  generalize hTT : Lib.trimLeftS s.data.toList [32, 9, 10, 12, 13] = T at *
  clear hTT
  replace cT := Lib.hid cT

  rw [if_neg (by omega : ¬ 0 < spaceP s.data.toList)] at hP
  have hsl1 : (s.size : Int) ≤ (T.length : Int) := by omega
  have hsl3 : (T.length : Int) ≤ (s.size : Int) := by omega
  clear hsl

  have cC : ∀ w, Calls Tryd.prog 59 #[.string s, .string ⟨#[47, 42]⟩] w fun e w' => e = .returned (.tuple #[.string ⟨(Lib.trimPrefix s.data.toList [47, 42]).toArray⟩, .bool false]) ∧ w = w' := fun w => by
    have := Tryd.strings_CutPrefix s (bs [47, 42]) w
    rw [show (bs [47, 42]).data.toList = [47, 42] from rfl, hn] at this
    exact this.mono fun e w' ⟨h1, h2⟩ => ⟨h1, h2.symm⟩

  rw [hn, if_neg (by simp)] at hP
  generalize Lib.trimPrefix s.data.toList [47, 42] = R at *
  replace cC := Lib.hid cC
  replace hn := Lib.hid hn

  have hh : hashP s.data.toList = false := by
    rcases Nat.lt_or_ge 1 s.size with h1 | h1
    · rw [hash_long h1, decide_eq_false (by omega : ¬ nv s[0] = 35)]
      rfl
    · exact hash_short h1
  have ha : atP s.data.toList = false := by rw [at_of h0, decide_eq_false (by omega : ¬ nv s[0] = 64)]; rfl

  have ho : oneK s.data.toList = 10 := by rw [one_of h0]; split <;> (try split) <;> (try split) <;> first | rfl | omega
  rw [quote_of h0, decide_eq_false (by omega : ¬ (nv s[0] = 39 ∨ nv s[0] = 34)), if_neg (by simp), hh, if_neg (by simp), ha, if_neg (by simp), if_neg (by omega), hbg, if_neg (by simp), ho] at hP

  have cN := fun w => number_ct s (by omega) w
  have hnn : (((numberP s.data.toList).2 : Nat) : Int) ≤ 0 := by omega
  generalize numberP s.data.toList = V at *
  obtain ⟨nm, nn⟩ := V
  simp only at hnn cN
  replace cN := Lib.hid cN

  have cB := fun w => begins_ct s (by unfold maxLen; omega) w
  simp only [hbg] at cB
  replace cB := Lib.hid cB
  clear hbg hh ha ho
  have q39 : ((s[0].toNat : Int) == 39) = false := by have h := hx; simp only [nv] at h; rw [beq_eq_false_iff_ne]; omega
  have q34 : ((s[0].toNat : Int) == 34) = false := by have h := hx; simp only [nv] at h; rw [beq_eq_false_iff_ne]; omega
  have q35 : ((s[0].toNat : Int) == 35) = false := by have h := hx; simp only [nv] at h; rw [beq_eq_false_iff_ne]; omega
  have q64 : ((s[0].toNat : Int) == 64) = false := by have h := hx; simp only [nv] at h; rw [beq_eq_false_iff_ne]; omega
  have q40 : ((s[0].toNat : Int) == 40) = true := by have h := hx; simp only [nv] at h; rw [h]; rfl
  have q91 : ((s[0].toNat : Int) == 91) = false := by have h := hx; simp only [nv] at h; rw [beq_eq_false_iff_ne]; omega
  have q123 : ((s[0].toNat : Int) == 123) = false := by have h := hx; simp only [nv] at h; rw [beq_eq_false_iff_ne]; omega
  have q41 : ((s[0].toNat : Int) == 41) = false := by have h := hx; simp only [nv] at h; rw [beq_eq_false_iff_ne]; omega
  have q93 : ((s[0].toNat : Int) == 93) = false := by have h := hx; simp only [nv] at h; rw [beq_eq_false_iff_ne]; omega
  have q125 : ((s[0].toNat : Int) == 125) = false := by have h := hx; simp only [nv] at h; rw [beq_eq_false_iff_ne]; omega
  have q92 : ((s[0].toNat : Int) == 92) = false := by have h := hx; simp only [nv] at h; rw [beq_eq_false_iff_ne]; omega

  replace hx := Lib.hid hx
  replace hP := Lib.hid hP

  go_enter Tryd.func70, Tryd.ntmps70
  go_wp2_with fail
  generalize hW0 : (w.alloc (.cells #[.string s] 9)).alloc (.cells #[.int .i64 0, .string ⟨#[]⟩, .string ⟨#[]⟩, .int .i64 0] 104) = W0
  have HB0 := Lib.hid (show Below w.heap.size w W0 by subst hW0; exact ((Below.refl _ _).alloc (Nat.le_refl _) _).alloc (by simp) _)
  have HZ : w.heap.size + 2 ≤ W0.heap.size := by subst hW0; simp
  have sB0 := Lib.hid (show Blk W0 w.heap.size 9 #[.string s] by subst hW0; exact (Blk.new rfl).alloc _)
  have rB0 := Lib.hid (show Blk W0 (w.heap.size + 1) 104 #[.int .i64 0, .string ⟨#[]⟩, .string ⟨#[]⟩, .int .i64 0] by subst hW0; exact Blk.new (by simp))
  have c0 : W0.cell? ⟨w.heap.size, 0, none⟩ = some (.string s) := sB0.out.cell 0
  clear hW0
  go_region_held3 (fun w' => (∀ b o, b < w.heap.size + 2 → w'.cell? ⟨b, o, none⟩ = W0.cell? ⟨b, o, none⟩) ∧ Below (w.heap.size + 2) W0 w')
    (first | exact As.beg | assumption | exact As.on hb3 (by assumption) HZ | exact As.alloc (by assumption) HZ)
    ((go_at_call 111; (with_reducible refine (cT.out _).mono ?_); rintro e W1 ⟨rfl, hb3⟩; have hS := Lib.hid (As.on (B := w.heap.size + 2) (W0 := W0) hb3 As.beg HZ)))
  all_goals
    rename_i hHeld
    clear hHeld
    have HB1 := Lib.hid (HB0.out.trans (hS.out.2.mono (by omega)))
    have sB := Lib.hid (sB0.out.below hS.out.2 (by omega))
    have rB := Lib.hid (rB0.out.below hS.out.2 (by omega))
    have rC := rB.out.cell
    have rF := rB.out.frozen
    have sF := sB.out.frozen
    have sz1 := rB.out.lt
    clear sB0 rB0 HB0 hS c0 hb3
    have sC := sB.out.cell
    go_wp2_with (first | (go_at_call 59; (with_reducible refine (cC.out _).mono ?_); rintro e w2 ⟨rfl, rfl⟩) | (go_at_call 117; (with_reducible refine (cB.out _).mono ?_); rintro e w2 ⟨rfl, rfl⟩) | (go_at_call 118; (with_reducible refine (cN.out _).mono ?_); rintro e W2 ⟨rfl, hb2⟩; have rB2 := Lib.hid (rB.out.below hb2 rB.out.lt); have HB2 := Lib.hid (HB1.out.trans (hb2.mono HB1.out.size)); have sB2 := Lib.hid (sB.out.below hb2 sB.out.lt); clear rC rF sC sF hb2; have rC := rB2.out.cell; have rF := rB2.out.frozen; have sC := sB2.out.cell; have sF := sB2.out.frozen; have sz2 := rB2.out.lt; have szs := sB2.out.lt) | (go_at_call 110; (with_reducible refine (one_ct 10 s w.heap.size _ hs h0 sB2.out).mono ?_); rintro e W3 ⟨rfl, hb2⟩; have rB3 := Lib.hid (rB2.out.below hb2 rB2.out.lt); have HB3 := Lib.hid (HB2.out.trans (hb2.mono HB2.out.size)); clear rC rF sC sF hb2; have rC := rB3.out.cell; have rF := rB3.out.frozen; have sz3 := rB3.out.lt))

    have e := Blk.cell (Blk.four (rB3.out) (.int .i64 10) (.string (s.extract 0 1)) (.string ⟨#[]⟩) (.int .i64 0))
    refine bodyPost_ret (v := .agg #[.int .i64 10, .string (s.extract 0 1), .string ⟨#[]⟩, .int .i64 0]) (by simp [results, Tryd.results70, go_sem, e]) rfl ⟨?_, ?_⟩
    · rw [hP.out]
      exact ret_tok rfl (take_ex _ _) rfl rfl
    · exact (((HB3.out.setCell (by simp) _).setCell (by simp) _).setCell (by simp) _).setCell (by simp) _

set_option maxRecDepth 100000 in
set_option maxHeartbeats 8000000 in
theorem one_91 (s : ByteArray) (hs : s.size < 4294967281) (h0 : 0 < s.size) (w : World) (hsp : spaceP s.data.toList = 0) (hn : Lib.hasPrefix s.data.toList [47, 42] = false) (hnp : (numberP s.data.toList).2 = 0) (hbg : beginsP s.data.toList = false) (hx : nv s[0] = 91) :
    Calls Tryd.prog 70 #[.string s] w fun e w' => e = .returned (.agg (firstP s.data.toList).cells) ∧ Below w.heap.size w w' := by
  have hsl := space_len s.data.toList
  rw [← Lib.size_eq] at hsl
  have cT := fun w => trimL_ct s [32, 9, 10, 12, 13] (by decide) (by decide) w
  have hP : firstP s.data.toList = if 0 < spaceP s.data.toList then ⟨8, s.data.toList.take (spaceP s.data.toList), [], 0⟩ else
    if Lib.hasPrefix s.data.toList [47, 42] then noteP s.data.toList else
    if quoteP s.data.toList then textP s.data.toList else
    if hashP s.data.toList then namedP 4 s.data.toList 1 else
    if atP s.data.toList then namedP 3 s.data.toList 1 else
    if 0 < (numberP s.data.toList).2 then numTkP s.data.toList (numberP s.data.toList).1 (numberP s.data.toList).2 else
    if beginsP s.data.toList then wordP s.data.toList else ⟨oneK s.data.toList, s.data.toList.take 1, [], 0⟩ := rfl
  generalize hNP : firstP s.data.toList = NP at *
  clear hNP
  generalize hTT : Lib.trimLeftS s.data.toList [32, 9, 10, 12, 13] = T at *
  clear hTT
  replace cT := Lib.hid cT

  rw [if_neg (by omega : ¬ 0 < spaceP s.data.toList)] at hP
  have hsl1 : (s.size : Int) ≤ (T.length : Int) := by omega
  have hsl3 : (T.length : Int) ≤ (s.size : Int) := by omega
  clear hsl

  have cC : ∀ w, Calls Tryd.prog 59 #[.string s, .string ⟨#[47, 42]⟩] w fun e w' => e = .returned (.tuple #[.string ⟨(Lib.trimPrefix s.data.toList [47, 42]).toArray⟩, .bool false]) ∧ w = w' := fun w => by
    have := Tryd.strings_CutPrefix s (bs [47, 42]) w
    rw [show (bs [47, 42]).data.toList = [47, 42] from rfl, hn] at this
    exact this.mono fun e w' ⟨h1, h2⟩ => ⟨h1, h2.symm⟩

  rw [hn, if_neg (by simp)] at hP
  generalize Lib.trimPrefix s.data.toList [47, 42] = R at *
  replace cC := Lib.hid cC
  replace hn := Lib.hid hn

  have hh : hashP s.data.toList = false := by
    rcases Nat.lt_or_ge 1 s.size with h1 | h1
    · rw [hash_long h1, decide_eq_false (by omega : ¬ nv s[0] = 35)]
      rfl
    · exact hash_short h1
  have ha : atP s.data.toList = false := by rw [at_of h0, decide_eq_false (by omega : ¬ nv s[0] = 64)]; rfl

  have ho : oneK s.data.toList = 10 := by rw [one_of h0]; split <;> (try split) <;> (try split) <;> first | rfl | omega
  rw [quote_of h0, decide_eq_false (by omega : ¬ (nv s[0] = 39 ∨ nv s[0] = 34)), if_neg (by simp), hh, if_neg (by simp), ha, if_neg (by simp), if_neg (by omega), hbg, if_neg (by simp), ho] at hP

  have cN := fun w => number_ct s (by omega) w
  have hnn : (((numberP s.data.toList).2 : Nat) : Int) ≤ 0 := by omega
  generalize numberP s.data.toList = V at *
  obtain ⟨nm, nn⟩ := V
  simp only at hnn cN
  replace cN := Lib.hid cN

  have cB := fun w => begins_ct s (by unfold maxLen; omega) w
  simp only [hbg] at cB
  replace cB := Lib.hid cB
  clear hbg hh ha ho
  have q39 : ((s[0].toNat : Int) == 39) = false := by have h := hx; simp only [nv] at h; rw [beq_eq_false_iff_ne]; omega
  have q34 : ((s[0].toNat : Int) == 34) = false := by have h := hx; simp only [nv] at h; rw [beq_eq_false_iff_ne]; omega
  have q35 : ((s[0].toNat : Int) == 35) = false := by have h := hx; simp only [nv] at h; rw [beq_eq_false_iff_ne]; omega
  have q64 : ((s[0].toNat : Int) == 64) = false := by have h := hx; simp only [nv] at h; rw [beq_eq_false_iff_ne]; omega
  have q40 : ((s[0].toNat : Int) == 40) = false := by have h := hx; simp only [nv] at h; rw [beq_eq_false_iff_ne]; omega
  have q91 : ((s[0].toNat : Int) == 91) = true := by have h := hx; simp only [nv] at h; rw [h]; rfl
  have q123 : ((s[0].toNat : Int) == 123) = false := by have h := hx; simp only [nv] at h; rw [beq_eq_false_iff_ne]; omega
  have q41 : ((s[0].toNat : Int) == 41) = false := by have h := hx; simp only [nv] at h; rw [beq_eq_false_iff_ne]; omega
  have q93 : ((s[0].toNat : Int) == 93) = false := by have h := hx; simp only [nv] at h; rw [beq_eq_false_iff_ne]; omega
  have q125 : ((s[0].toNat : Int) == 125) = false := by have h := hx; simp only [nv] at h; rw [beq_eq_false_iff_ne]; omega
  have q92 : ((s[0].toNat : Int) == 92) = false := by have h := hx; simp only [nv] at h; rw [beq_eq_false_iff_ne]; omega

  replace hx := Lib.hid hx
  replace hP := Lib.hid hP

  go_enter Tryd.func70, Tryd.ntmps70
  go_wp2_with fail
  generalize hW0 : (w.alloc (.cells #[.string s] 9)).alloc (.cells #[.int .i64 0, .string ⟨#[]⟩, .string ⟨#[]⟩, .int .i64 0] 104) = W0
  have HB0 := Lib.hid (show Below w.heap.size w W0 by subst hW0; exact ((Below.refl _ _).alloc (Nat.le_refl _) _).alloc (by simp) _)
  have HZ : w.heap.size + 2 ≤ W0.heap.size := by subst hW0; simp
  have sB0 := Lib.hid (show Blk W0 w.heap.size 9 #[.string s] by subst hW0; exact (Blk.new rfl).alloc _)
  have rB0 := Lib.hid (show Blk W0 (w.heap.size + 1) 104 #[.int .i64 0, .string ⟨#[]⟩, .string ⟨#[]⟩, .int .i64 0] by subst hW0; exact Blk.new (by simp))
  have c0 : W0.cell? ⟨w.heap.size, 0, none⟩ = some (.string s) := sB0.out.cell 0
  clear hW0
  go_region_held3 (fun w' => (∀ b o, b < w.heap.size + 2 → w'.cell? ⟨b, o, none⟩ = W0.cell? ⟨b, o, none⟩) ∧ Below (w.heap.size + 2) W0 w')
    (first | exact As.beg | assumption | exact As.on hb3 (by assumption) HZ | exact As.alloc (by assumption) HZ)
    ((go_at_call 111; (with_reducible refine (cT.out _).mono ?_); rintro e W1 ⟨rfl, hb3⟩; have hS := Lib.hid (As.on (B := w.heap.size + 2) (W0 := W0) hb3 As.beg HZ)))
  all_goals
    rename_i hHeld
    clear hHeld
    have HB1 := Lib.hid (HB0.out.trans (hS.out.2.mono (by omega)))
    have sB := Lib.hid (sB0.out.below hS.out.2 (by omega))
    have rB := Lib.hid (rB0.out.below hS.out.2 (by omega))
    have rC := rB.out.cell
    have rF := rB.out.frozen
    have sF := sB.out.frozen
    have sz1 := rB.out.lt
    clear sB0 rB0 HB0 hS c0 hb3
    have sC := sB.out.cell
    go_wp2_with (first | (go_at_call 59; (with_reducible refine (cC.out _).mono ?_); rintro e w2 ⟨rfl, rfl⟩) | (go_at_call 117; (with_reducible refine (cB.out _).mono ?_); rintro e w2 ⟨rfl, rfl⟩) | (go_at_call 118; (with_reducible refine (cN.out _).mono ?_); rintro e W2 ⟨rfl, hb2⟩; have rB2 := Lib.hid (rB.out.below hb2 rB.out.lt); have HB2 := Lib.hid (HB1.out.trans (hb2.mono HB1.out.size)); have sB2 := Lib.hid (sB.out.below hb2 sB.out.lt); clear rC rF sC sF hb2; have rC := rB2.out.cell; have rF := rB2.out.frozen; have sC := sB2.out.cell; have sF := sB2.out.frozen; have sz2 := rB2.out.lt; have szs := sB2.out.lt) | (go_at_call 110; (with_reducible refine (one_ct 10 s w.heap.size _ hs h0 sB2.out).mono ?_); rintro e W3 ⟨rfl, hb2⟩; have rB3 := Lib.hid (rB2.out.below hb2 rB2.out.lt); have HB3 := Lib.hid (HB2.out.trans (hb2.mono HB2.out.size)); clear rC rF sC sF hb2; have rC := rB3.out.cell; have rF := rB3.out.frozen; have sz3 := rB3.out.lt))

    have e := Blk.cell (Blk.four (rB3.out) (.int .i64 10) (.string (s.extract 0 1)) (.string ⟨#[]⟩) (.int .i64 0))
    refine bodyPost_ret (v := .agg #[.int .i64 10, .string (s.extract 0 1), .string ⟨#[]⟩, .int .i64 0]) (by simp [results, Tryd.results70, go_sem, e]) rfl ⟨?_, ?_⟩
    · rw [hP.out]
      exact ret_tok rfl (take_ex _ _) rfl rfl
    · exact (((HB3.out.setCell (by simp) _).setCell (by simp) _).setCell (by simp) _).setCell (by simp) _

set_option maxRecDepth 100000 in
set_option maxHeartbeats 8000000 in
theorem one_123 (s : ByteArray) (hs : s.size < 4294967281) (h0 : 0 < s.size) (w : World) (hsp : spaceP s.data.toList = 0) (hn : Lib.hasPrefix s.data.toList [47, 42] = false) (hnp : (numberP s.data.toList).2 = 0) (hbg : beginsP s.data.toList = false) (hx : nv s[0] = 123) :
    Calls Tryd.prog 70 #[.string s] w fun e w' => e = .returned (.agg (firstP s.data.toList).cells) ∧ Below w.heap.size w w' := by
  have hsl := space_len s.data.toList
  rw [← Lib.size_eq] at hsl
  have cT := fun w => trimL_ct s [32, 9, 10, 12, 13] (by decide) (by decide) w
  have hP : firstP s.data.toList = if 0 < spaceP s.data.toList then ⟨8, s.data.toList.take (spaceP s.data.toList), [], 0⟩ else
    if Lib.hasPrefix s.data.toList [47, 42] then noteP s.data.toList else
    if quoteP s.data.toList then textP s.data.toList else
    if hashP s.data.toList then namedP 4 s.data.toList 1 else
    if atP s.data.toList then namedP 3 s.data.toList 1 else
    if 0 < (numberP s.data.toList).2 then numTkP s.data.toList (numberP s.data.toList).1 (numberP s.data.toList).2 else
    if beginsP s.data.toList then wordP s.data.toList else ⟨oneK s.data.toList, s.data.toList.take 1, [], 0⟩ := rfl
  generalize hNP : firstP s.data.toList = NP at *
  clear hNP
  generalize hTT : Lib.trimLeftS s.data.toList [32, 9, 10, 12, 13] = T at *
  clear hTT
  replace cT := Lib.hid cT

  rw [if_neg (by omega : ¬ 0 < spaceP s.data.toList)] at hP
  have hsl1 : (s.size : Int) ≤ (T.length : Int) := by omega
  have hsl3 : (T.length : Int) ≤ (s.size : Int) := by omega
  clear hsl

  have cC : ∀ w, Calls Tryd.prog 59 #[.string s, .string ⟨#[47, 42]⟩] w fun e w' => e = .returned (.tuple #[.string ⟨(Lib.trimPrefix s.data.toList [47, 42]).toArray⟩, .bool false]) ∧ w = w' := fun w => by
    have := Tryd.strings_CutPrefix s (bs [47, 42]) w
    rw [show (bs [47, 42]).data.toList = [47, 42] from rfl, hn] at this
    exact this.mono fun e w' ⟨h1, h2⟩ => ⟨h1, h2.symm⟩

  rw [hn, if_neg (by simp)] at hP
  generalize Lib.trimPrefix s.data.toList [47, 42] = R at *
  replace cC := Lib.hid cC
  replace hn := Lib.hid hn

  have hh : hashP s.data.toList = false := by
    rcases Nat.lt_or_ge 1 s.size with h1 | h1
    · rw [hash_long h1, decide_eq_false (by omega : ¬ nv s[0] = 35)]
      rfl
    · exact hash_short h1
  have ha : atP s.data.toList = false := by rw [at_of h0, decide_eq_false (by omega : ¬ nv s[0] = 64)]; rfl

  have ho : oneK s.data.toList = 10 := by rw [one_of h0]; split <;> (try split) <;> (try split) <;> first | rfl | omega
  rw [quote_of h0, decide_eq_false (by omega : ¬ (nv s[0] = 39 ∨ nv s[0] = 34)), if_neg (by simp), hh, if_neg (by simp), ha, if_neg (by simp), if_neg (by omega), hbg, if_neg (by simp), ho] at hP

  have cN := fun w => number_ct s (by omega) w
  have hnn : (((numberP s.data.toList).2 : Nat) : Int) ≤ 0 := by omega
  generalize numberP s.data.toList = V at *
  obtain ⟨nm, nn⟩ := V
  simp only at hnn cN
  replace cN := Lib.hid cN

  have cB := fun w => begins_ct s (by unfold maxLen; omega) w
  simp only [hbg] at cB
  replace cB := Lib.hid cB
  clear hbg hh ha ho
  have q39 : ((s[0].toNat : Int) == 39) = false := by have h := hx; simp only [nv] at h; rw [beq_eq_false_iff_ne]; omega
  have q34 : ((s[0].toNat : Int) == 34) = false := by have h := hx; simp only [nv] at h; rw [beq_eq_false_iff_ne]; omega
  have q35 : ((s[0].toNat : Int) == 35) = false := by have h := hx; simp only [nv] at h; rw [beq_eq_false_iff_ne]; omega
  have q64 : ((s[0].toNat : Int) == 64) = false := by have h := hx; simp only [nv] at h; rw [beq_eq_false_iff_ne]; omega
  have q40 : ((s[0].toNat : Int) == 40) = false := by have h := hx; simp only [nv] at h; rw [beq_eq_false_iff_ne]; omega
  have q91 : ((s[0].toNat : Int) == 91) = false := by have h := hx; simp only [nv] at h; rw [beq_eq_false_iff_ne]; omega
  have q123 : ((s[0].toNat : Int) == 123) = true := by have h := hx; simp only [nv] at h; rw [h]; rfl
  have q41 : ((s[0].toNat : Int) == 41) = false := by have h := hx; simp only [nv] at h; rw [beq_eq_false_iff_ne]; omega
  have q93 : ((s[0].toNat : Int) == 93) = false := by have h := hx; simp only [nv] at h; rw [beq_eq_false_iff_ne]; omega
  have q125 : ((s[0].toNat : Int) == 125) = false := by have h := hx; simp only [nv] at h; rw [beq_eq_false_iff_ne]; omega
  have q92 : ((s[0].toNat : Int) == 92) = false := by have h := hx; simp only [nv] at h; rw [beq_eq_false_iff_ne]; omega

  replace hx := Lib.hid hx
  replace hP := Lib.hid hP

  go_enter Tryd.func70, Tryd.ntmps70
  go_wp2_with fail
  generalize hW0 : (w.alloc (.cells #[.string s] 9)).alloc (.cells #[.int .i64 0, .string ⟨#[]⟩, .string ⟨#[]⟩, .int .i64 0] 104) = W0
  have HB0 := Lib.hid (show Below w.heap.size w W0 by subst hW0; exact ((Below.refl _ _).alloc (Nat.le_refl _) _).alloc (by simp) _)
  have HZ : w.heap.size + 2 ≤ W0.heap.size := by subst hW0; simp
  have sB0 := Lib.hid (show Blk W0 w.heap.size 9 #[.string s] by subst hW0; exact (Blk.new rfl).alloc _)
  have rB0 := Lib.hid (show Blk W0 (w.heap.size + 1) 104 #[.int .i64 0, .string ⟨#[]⟩, .string ⟨#[]⟩, .int .i64 0] by subst hW0; exact Blk.new (by simp))
  have c0 : W0.cell? ⟨w.heap.size, 0, none⟩ = some (.string s) := sB0.out.cell 0
  clear hW0
  go_region_held3 (fun w' => (∀ b o, b < w.heap.size + 2 → w'.cell? ⟨b, o, none⟩ = W0.cell? ⟨b, o, none⟩) ∧ Below (w.heap.size + 2) W0 w')
    (first | exact As.beg | assumption | exact As.on hb3 (by assumption) HZ | exact As.alloc (by assumption) HZ)
    ((go_at_call 111; (with_reducible refine (cT.out _).mono ?_); rintro e W1 ⟨rfl, hb3⟩; have hS := Lib.hid (As.on (B := w.heap.size + 2) (W0 := W0) hb3 As.beg HZ)))
  all_goals
    rename_i hHeld
    clear hHeld
    have HB1 := Lib.hid (HB0.out.trans (hS.out.2.mono (by omega)))
    have sB := Lib.hid (sB0.out.below hS.out.2 (by omega))
    have rB := Lib.hid (rB0.out.below hS.out.2 (by omega))
    have rC := rB.out.cell
    have rF := rB.out.frozen
    have sF := sB.out.frozen
    have sz1 := rB.out.lt
    clear sB0 rB0 HB0 hS c0 hb3
    have sC := sB.out.cell
    go_wp2_with (first | (go_at_call 59; (with_reducible refine (cC.out _).mono ?_); rintro e w2 ⟨rfl, rfl⟩) | (go_at_call 117; (with_reducible refine (cB.out _).mono ?_); rintro e w2 ⟨rfl, rfl⟩) | (go_at_call 118; (with_reducible refine (cN.out _).mono ?_); rintro e W2 ⟨rfl, hb2⟩; have rB2 := Lib.hid (rB.out.below hb2 rB.out.lt); have HB2 := Lib.hid (HB1.out.trans (hb2.mono HB1.out.size)); have sB2 := Lib.hid (sB.out.below hb2 sB.out.lt); clear rC rF sC sF hb2; have rC := rB2.out.cell; have rF := rB2.out.frozen; have sC := sB2.out.cell; have sF := sB2.out.frozen; have sz2 := rB2.out.lt; have szs := sB2.out.lt) | (go_at_call 110; (with_reducible refine (one_ct 10 s w.heap.size _ hs h0 sB2.out).mono ?_); rintro e W3 ⟨rfl, hb2⟩; have rB3 := Lib.hid (rB2.out.below hb2 rB2.out.lt); have HB3 := Lib.hid (HB2.out.trans (hb2.mono HB2.out.size)); clear rC rF sC sF hb2; have rC := rB3.out.cell; have rF := rB3.out.frozen; have sz3 := rB3.out.lt))

    have e := Blk.cell (Blk.four (rB3.out) (.int .i64 10) (.string (s.extract 0 1)) (.string ⟨#[]⟩) (.int .i64 0))
    refine bodyPost_ret (v := .agg #[.int .i64 10, .string (s.extract 0 1), .string ⟨#[]⟩, .int .i64 0]) (by simp [results, Tryd.results70, go_sem, e]) rfl ⟨?_, ?_⟩
    · rw [hP.out]
      exact ret_tok rfl (take_ex _ _) rfl rfl
    · exact (((HB3.out.setCell (by simp) _).setCell (by simp) _).setCell (by simp) _).setCell (by simp) _

set_option maxRecDepth 100000 in
set_option maxHeartbeats 8000000 in
theorem one_41 (s : ByteArray) (hs : s.size < 4294967281) (h0 : 0 < s.size) (w : World) (hsp : spaceP s.data.toList = 0) (hn : Lib.hasPrefix s.data.toList [47, 42] = false) (hnp : (numberP s.data.toList).2 = 0) (hbg : beginsP s.data.toList = false) (hx : nv s[0] = 41) :
    Calls Tryd.prog 70 #[.string s] w fun e w' => e = .returned (.agg (firstP s.data.toList).cells) ∧ Below w.heap.size w w' := by
  have hsl := space_len s.data.toList
  rw [← Lib.size_eq] at hsl
  have cT := fun w => trimL_ct s [32, 9, 10, 12, 13] (by decide) (by decide) w
  have hP : firstP s.data.toList = if 0 < spaceP s.data.toList then ⟨8, s.data.toList.take (spaceP s.data.toList), [], 0⟩ else
    if Lib.hasPrefix s.data.toList [47, 42] then noteP s.data.toList else
    if quoteP s.data.toList then textP s.data.toList else
    if hashP s.data.toList then namedP 4 s.data.toList 1 else
    if atP s.data.toList then namedP 3 s.data.toList 1 else
    if 0 < (numberP s.data.toList).2 then numTkP s.data.toList (numberP s.data.toList).1 (numberP s.data.toList).2 else
    if beginsP s.data.toList then wordP s.data.toList else ⟨oneK s.data.toList, s.data.toList.take 1, [], 0⟩ := rfl
  generalize hNP : firstP s.data.toList = NP at *
  clear hNP
  generalize hTT : Lib.trimLeftS s.data.toList [32, 9, 10, 12, 13] = T at *
  clear hTT
  replace cT := Lib.hid cT

  rw [if_neg (by omega : ¬ 0 < spaceP s.data.toList)] at hP
  have hsl1 : (s.size : Int) ≤ (T.length : Int) := by omega
  have hsl3 : (T.length : Int) ≤ (s.size : Int) := by omega
  clear hsl

  have cC : ∀ w, Calls Tryd.prog 59 #[.string s, .string ⟨#[47, 42]⟩] w fun e w' => e = .returned (.tuple #[.string ⟨(Lib.trimPrefix s.data.toList [47, 42]).toArray⟩, .bool false]) ∧ w = w' := fun w => by
    have := Tryd.strings_CutPrefix s (bs [47, 42]) w
    rw [show (bs [47, 42]).data.toList = [47, 42] from rfl, hn] at this
    exact this.mono fun e w' ⟨h1, h2⟩ => ⟨h1, h2.symm⟩

  rw [hn, if_neg (by simp)] at hP
  generalize Lib.trimPrefix s.data.toList [47, 42] = R at *
  replace cC := Lib.hid cC
  replace hn := Lib.hid hn

  have hh : hashP s.data.toList = false := by
    rcases Nat.lt_or_ge 1 s.size with h1 | h1
    · rw [hash_long h1, decide_eq_false (by omega : ¬ nv s[0] = 35)]
      rfl
    · exact hash_short h1
  have ha : atP s.data.toList = false := by rw [at_of h0, decide_eq_false (by omega : ¬ nv s[0] = 64)]; rfl

  have ho : oneK s.data.toList = 11 := by rw [one_of h0]; split <;> (try split) <;> (try split) <;> first | rfl | omega
  rw [quote_of h0, decide_eq_false (by omega : ¬ (nv s[0] = 39 ∨ nv s[0] = 34)), if_neg (by simp), hh, if_neg (by simp), ha, if_neg (by simp), if_neg (by omega), hbg, if_neg (by simp), ho] at hP

  have cN := fun w => number_ct s (by omega) w
  have hnn : (((numberP s.data.toList).2 : Nat) : Int) ≤ 0 := by omega
  generalize numberP s.data.toList = V at *
  obtain ⟨nm, nn⟩ := V
  simp only at hnn cN
  replace cN := Lib.hid cN

  have cB := fun w => begins_ct s (by unfold maxLen; omega) w
  simp only [hbg] at cB
  replace cB := Lib.hid cB
  clear hbg hh ha ho
  have q39 : ((s[0].toNat : Int) == 39) = false := by have h := hx; simp only [nv] at h; rw [beq_eq_false_iff_ne]; omega
  have q34 : ((s[0].toNat : Int) == 34) = false := by have h := hx; simp only [nv] at h; rw [beq_eq_false_iff_ne]; omega
  have q35 : ((s[0].toNat : Int) == 35) = false := by have h := hx; simp only [nv] at h; rw [beq_eq_false_iff_ne]; omega
  have q64 : ((s[0].toNat : Int) == 64) = false := by have h := hx; simp only [nv] at h; rw [beq_eq_false_iff_ne]; omega
  have q40 : ((s[0].toNat : Int) == 40) = false := by have h := hx; simp only [nv] at h; rw [beq_eq_false_iff_ne]; omega
  have q91 : ((s[0].toNat : Int) == 91) = false := by have h := hx; simp only [nv] at h; rw [beq_eq_false_iff_ne]; omega
  have q123 : ((s[0].toNat : Int) == 123) = false := by have h := hx; simp only [nv] at h; rw [beq_eq_false_iff_ne]; omega
  have q41 : ((s[0].toNat : Int) == 41) = true := by have h := hx; simp only [nv] at h; rw [h]; rfl
  have q93 : ((s[0].toNat : Int) == 93) = false := by have h := hx; simp only [nv] at h; rw [beq_eq_false_iff_ne]; omega
  have q125 : ((s[0].toNat : Int) == 125) = false := by have h := hx; simp only [nv] at h; rw [beq_eq_false_iff_ne]; omega
  have q92 : ((s[0].toNat : Int) == 92) = false := by have h := hx; simp only [nv] at h; rw [beq_eq_false_iff_ne]; omega

  replace hx := Lib.hid hx
  replace hP := Lib.hid hP

  go_enter Tryd.func70, Tryd.ntmps70
  go_wp2_with fail
  generalize hW0 : (w.alloc (.cells #[.string s] 9)).alloc (.cells #[.int .i64 0, .string ⟨#[]⟩, .string ⟨#[]⟩, .int .i64 0] 104) = W0
  have HB0 := Lib.hid (show Below w.heap.size w W0 by subst hW0; exact ((Below.refl _ _).alloc (Nat.le_refl _) _).alloc (by simp) _)
  have HZ : w.heap.size + 2 ≤ W0.heap.size := by subst hW0; simp
  have sB0 := Lib.hid (show Blk W0 w.heap.size 9 #[.string s] by subst hW0; exact (Blk.new rfl).alloc _)
  have rB0 := Lib.hid (show Blk W0 (w.heap.size + 1) 104 #[.int .i64 0, .string ⟨#[]⟩, .string ⟨#[]⟩, .int .i64 0] by subst hW0; exact Blk.new (by simp))
  have c0 : W0.cell? ⟨w.heap.size, 0, none⟩ = some (.string s) := sB0.out.cell 0
  clear hW0
  go_region_held3 (fun w' => (∀ b o, b < w.heap.size + 2 → w'.cell? ⟨b, o, none⟩ = W0.cell? ⟨b, o, none⟩) ∧ Below (w.heap.size + 2) W0 w')
    (first | exact As.beg | assumption | exact As.on hb3 (by assumption) HZ | exact As.alloc (by assumption) HZ)
    ((go_at_call 111; (with_reducible refine (cT.out _).mono ?_); rintro e W1 ⟨rfl, hb3⟩; have hS := Lib.hid (As.on (B := w.heap.size + 2) (W0 := W0) hb3 As.beg HZ)))
  all_goals
    rename_i hHeld
    clear hHeld
    have HB1 := Lib.hid (HB0.out.trans (hS.out.2.mono (by omega)))
    have sB := Lib.hid (sB0.out.below hS.out.2 (by omega))
    have rB := Lib.hid (rB0.out.below hS.out.2 (by omega))
    have rC := rB.out.cell
    have rF := rB.out.frozen
    have sF := sB.out.frozen
    have sz1 := rB.out.lt
    clear sB0 rB0 HB0 hS c0 hb3
    have sC := sB.out.cell
    go_wp2_with (first | (go_at_call 59; (with_reducible refine (cC.out _).mono ?_); rintro e w2 ⟨rfl, rfl⟩) | (go_at_call 117; (with_reducible refine (cB.out _).mono ?_); rintro e w2 ⟨rfl, rfl⟩) | (go_at_call 118; (with_reducible refine (cN.out _).mono ?_); rintro e W2 ⟨rfl, hb2⟩; have rB2 := Lib.hid (rB.out.below hb2 rB.out.lt); have HB2 := Lib.hid (HB1.out.trans (hb2.mono HB1.out.size)); have sB2 := Lib.hid (sB.out.below hb2 sB.out.lt); clear rC rF sC sF hb2; have rC := rB2.out.cell; have rF := rB2.out.frozen; have sC := sB2.out.cell; have sF := sB2.out.frozen; have sz2 := rB2.out.lt; have szs := sB2.out.lt) | (go_at_call 110; (with_reducible refine (one_ct 11 s w.heap.size _ hs h0 sB2.out).mono ?_); rintro e W3 ⟨rfl, hb2⟩; have rB3 := Lib.hid (rB2.out.below hb2 rB2.out.lt); have HB3 := Lib.hid (HB2.out.trans (hb2.mono HB2.out.size)); clear rC rF sC sF hb2; have rC := rB3.out.cell; have rF := rB3.out.frozen; have sz3 := rB3.out.lt))

    have e := Blk.cell (Blk.four (rB3.out) (.int .i64 11) (.string (s.extract 0 1)) (.string ⟨#[]⟩) (.int .i64 0))
    refine bodyPost_ret (v := .agg #[.int .i64 11, .string (s.extract 0 1), .string ⟨#[]⟩, .int .i64 0]) (by simp [results, Tryd.results70, go_sem, e]) rfl ⟨?_, ?_⟩
    · rw [hP.out]
      exact ret_tok rfl (take_ex _ _) rfl rfl
    · exact (((HB3.out.setCell (by simp) _).setCell (by simp) _).setCell (by simp) _).setCell (by simp) _

end Go.Proofs.YtaihncbejhnceaaDoor.tok

namespace Go.Proofs.YtaihncbejhnceaaDoor.tok
open Go.RowKit Go.Proofs.YtaihncbejhnceaaDoor.base
set_option linter.unusedVariables false

set_option maxRecDepth 100000 in
set_option maxHeartbeats 8000000 in
theorem one_93 (s : ByteArray) (hs : s.size < 4294967281) (h0 : 0 < s.size) (w : World) (hsp : spaceP s.data.toList = 0) (hn : Lib.hasPrefix s.data.toList [47, 42] = false) (hnp : (numberP s.data.toList).2 = 0) (hbg : beginsP s.data.toList = false) (hx : nv s[0] = 93) :
    Calls Tryd.prog 70 #[.string s] w fun e w' => e = .returned (.agg (firstP s.data.toList).cells) ∧ Below w.heap.size w w' := by
  have hsl := space_len s.data.toList
  rw [← Lib.size_eq] at hsl
  have cT := fun w => trimL_ct s [32, 9, 10, 12, 13] (by decide) (by decide) w
  have hP : firstP s.data.toList = if 0 < spaceP s.data.toList then ⟨8, s.data.toList.take (spaceP s.data.toList), [], 0⟩ else
    if Lib.hasPrefix s.data.toList [47, 42] then noteP s.data.toList else
    if quoteP s.data.toList then textP s.data.toList else
    if hashP s.data.toList then namedP 4 s.data.toList 1 else
    if atP s.data.toList then namedP 3 s.data.toList 1 else
    if 0 < (numberP s.data.toList).2 then numTkP s.data.toList (numberP s.data.toList).1 (numberP s.data.toList).2 else
    if beginsP s.data.toList then wordP s.data.toList else ⟨oneK s.data.toList, s.data.toList.take 1, [], 0⟩ := rfl
  generalize hNP : firstP s.data.toList = NP at *
  clear hNP
  generalize hTT : Lib.trimLeftS s.data.toList [32, 9, 10, 12, 13] = T at *
  clear hTT
  replace cT := Lib.hid cT

  rw [if_neg (by omega : ¬ 0 < spaceP s.data.toList)] at hP
  have hsl1 : (s.size : Int) ≤ (T.length : Int) := by omega
  have hsl3 : (T.length : Int) ≤ (s.size : Int) := by omega
  clear hsl

  have cC : ∀ w, Calls Tryd.prog 59 #[.string s, .string ⟨#[47, 42]⟩] w fun e w' => e = .returned (.tuple #[.string ⟨(Lib.trimPrefix s.data.toList [47, 42]).toArray⟩, .bool false]) ∧ w = w' := fun w => by
    have := Tryd.strings_CutPrefix s (bs [47, 42]) w
    rw [show (bs [47, 42]).data.toList = [47, 42] from rfl, hn] at this
    exact this.mono fun e w' ⟨h1, h2⟩ => ⟨h1, h2.symm⟩

  rw [hn, if_neg (by simp)] at hP
  generalize Lib.trimPrefix s.data.toList [47, 42] = R at *
  replace cC := Lib.hid cC
  replace hn := Lib.hid hn

  have hh : hashP s.data.toList = false := by
    rcases Nat.lt_or_ge 1 s.size with h1 | h1
    · rw [hash_long h1, decide_eq_false (by omega : ¬ nv s[0] = 35)]
      rfl
    · exact hash_short h1
  have ha : atP s.data.toList = false := by rw [at_of h0, decide_eq_false (by omega : ¬ nv s[0] = 64)]; rfl

  have ho : oneK s.data.toList = 11 := by rw [one_of h0]; split <;> (try split) <;> (try split) <;> first | rfl | omega
  rw [quote_of h0, decide_eq_false (by omega : ¬ (nv s[0] = 39 ∨ nv s[0] = 34)), if_neg (by simp), hh, if_neg (by simp), ha, if_neg (by simp), if_neg (by omega), hbg, if_neg (by simp), ho] at hP

  have cN := fun w => number_ct s (by omega) w
  have hnn : (((numberP s.data.toList).2 : Nat) : Int) ≤ 0 := by omega
  generalize numberP s.data.toList = V at *
  obtain ⟨nm, nn⟩ := V
  simp only at hnn cN
  replace cN := Lib.hid cN

  have cB := fun w => begins_ct s (by unfold maxLen; omega) w
  simp only [hbg] at cB
  replace cB := Lib.hid cB
  clear hbg hh ha ho
  have q39 : ((s[0].toNat : Int) == 39) = false := by have h := hx; simp only [nv] at h; rw [beq_eq_false_iff_ne]; omega
  have q34 : ((s[0].toNat : Int) == 34) = false := by have h := hx; simp only [nv] at h; rw [beq_eq_false_iff_ne]; omega
  have q35 : ((s[0].toNat : Int) == 35) = false := by have h := hx; simp only [nv] at h; rw [beq_eq_false_iff_ne]; omega
  have q64 : ((s[0].toNat : Int) == 64) = false := by have h := hx; simp only [nv] at h; rw [beq_eq_false_iff_ne]; omega
  have q40 : ((s[0].toNat : Int) == 40) = false := by have h := hx; simp only [nv] at h; rw [beq_eq_false_iff_ne]; omega
  have q91 : ((s[0].toNat : Int) == 91) = false := by have h := hx; simp only [nv] at h; rw [beq_eq_false_iff_ne]; omega
  have q123 : ((s[0].toNat : Int) == 123) = false := by have h := hx; simp only [nv] at h; rw [beq_eq_false_iff_ne]; omega
  have q41 : ((s[0].toNat : Int) == 41) = false := by have h := hx; simp only [nv] at h; rw [beq_eq_false_iff_ne]; omega
  have q93 : ((s[0].toNat : Int) == 93) = true := by have h := hx; simp only [nv] at h; rw [h]; rfl
  have q125 : ((s[0].toNat : Int) == 125) = false := by have h := hx; simp only [nv] at h; rw [beq_eq_false_iff_ne]; omega
  have q92 : ((s[0].toNat : Int) == 92) = false := by have h := hx; simp only [nv] at h; rw [beq_eq_false_iff_ne]; omega

  replace hx := Lib.hid hx
  replace hP := Lib.hid hP

  go_enter Tryd.func70, Tryd.ntmps70
  go_wp2_with fail
  generalize hW0 : (w.alloc (.cells #[.string s] 9)).alloc (.cells #[.int .i64 0, .string ⟨#[]⟩, .string ⟨#[]⟩, .int .i64 0] 104) = W0
  have HB0 := Lib.hid (show Below w.heap.size w W0 by subst hW0; exact ((Below.refl _ _).alloc (Nat.le_refl _) _).alloc (by simp) _)
  have HZ : w.heap.size + 2 ≤ W0.heap.size := by subst hW0; simp
  have sB0 := Lib.hid (show Blk W0 w.heap.size 9 #[.string s] by subst hW0; exact (Blk.new rfl).alloc _)
  have rB0 := Lib.hid (show Blk W0 (w.heap.size + 1) 104 #[.int .i64 0, .string ⟨#[]⟩, .string ⟨#[]⟩, .int .i64 0] by subst hW0; exact Blk.new (by simp))
  have c0 : W0.cell? ⟨w.heap.size, 0, none⟩ = some (.string s) := sB0.out.cell 0
  clear hW0
  go_region_held3 (fun w' => (∀ b o, b < w.heap.size + 2 → w'.cell? ⟨b, o, none⟩ = W0.cell? ⟨b, o, none⟩) ∧ Below (w.heap.size + 2) W0 w')
    (first | exact As.beg | assumption | exact As.on hb3 (by assumption) HZ | exact As.alloc (by assumption) HZ)
    ((go_at_call 111; (with_reducible refine (cT.out _).mono ?_); rintro e W1 ⟨rfl, hb3⟩; have hS := Lib.hid (As.on (B := w.heap.size + 2) (W0 := W0) hb3 As.beg HZ)))
  all_goals
    rename_i hHeld
    clear hHeld
    have HB1 := Lib.hid (HB0.out.trans (hS.out.2.mono (by omega)))
    have sB := Lib.hid (sB0.out.below hS.out.2 (by omega))
    have rB := Lib.hid (rB0.out.below hS.out.2 (by omega))
    have rC := rB.out.cell
    have rF := rB.out.frozen
    have sF := sB.out.frozen
    have sz1 := rB.out.lt
    clear sB0 rB0 HB0 hS c0 hb3
    have sC := sB.out.cell
    go_wp2_with (first | (go_at_call 59; (with_reducible refine (cC.out _).mono ?_); rintro e w2 ⟨rfl, rfl⟩) | (go_at_call 117; (with_reducible refine (cB.out _).mono ?_); rintro e w2 ⟨rfl, rfl⟩) | (go_at_call 118; (with_reducible refine (cN.out _).mono ?_); rintro e W2 ⟨rfl, hb2⟩; have rB2 := Lib.hid (rB.out.below hb2 rB.out.lt); have HB2 := Lib.hid (HB1.out.trans (hb2.mono HB1.out.size)); have sB2 := Lib.hid (sB.out.below hb2 sB.out.lt); clear rC rF sC sF hb2; have rC := rB2.out.cell; have rF := rB2.out.frozen; have sC := sB2.out.cell; have sF := sB2.out.frozen; have sz2 := rB2.out.lt; have szs := sB2.out.lt) | (go_at_call 110; (with_reducible refine (one_ct 11 s w.heap.size _ hs h0 sB2.out).mono ?_); rintro e W3 ⟨rfl, hb2⟩; have rB3 := Lib.hid (rB2.out.below hb2 rB2.out.lt); have HB3 := Lib.hid (HB2.out.trans (hb2.mono HB2.out.size)); clear rC rF sC sF hb2; have rC := rB3.out.cell; have rF := rB3.out.frozen; have sz3 := rB3.out.lt))

    have e := Blk.cell (Blk.four (rB3.out) (.int .i64 11) (.string (s.extract 0 1)) (.string ⟨#[]⟩) (.int .i64 0))
    refine bodyPost_ret (v := .agg #[.int .i64 11, .string (s.extract 0 1), .string ⟨#[]⟩, .int .i64 0]) (by simp [results, Tryd.results70, go_sem, e]) rfl ⟨?_, ?_⟩
    · rw [hP.out]
      exact ret_tok rfl (take_ex _ _) rfl rfl
    · exact (((HB3.out.setCell (by simp) _).setCell (by simp) _).setCell (by simp) _).setCell (by simp) _

set_option maxRecDepth 100000 in
set_option maxHeartbeats 8000000 in
theorem one_125 (s : ByteArray) (hs : s.size < 4294967281) (h0 : 0 < s.size) (w : World) (hsp : spaceP s.data.toList = 0) (hn : Lib.hasPrefix s.data.toList [47, 42] = false) (hnp : (numberP s.data.toList).2 = 0) (hbg : beginsP s.data.toList = false) (hx : nv s[0] = 125) :
    Calls Tryd.prog 70 #[.string s] w fun e w' => e = .returned (.agg (firstP s.data.toList).cells) ∧ Below w.heap.size w w' := by
  have hsl := space_len s.data.toList
  rw [← Lib.size_eq] at hsl
  have cT := fun w => trimL_ct s [32, 9, 10, 12, 13] (by decide) (by decide) w
  have hP : firstP s.data.toList = if 0 < spaceP s.data.toList then ⟨8, s.data.toList.take (spaceP s.data.toList), [], 0⟩ else
    if Lib.hasPrefix s.data.toList [47, 42] then noteP s.data.toList else
    if quoteP s.data.toList then textP s.data.toList else
    if hashP s.data.toList then namedP 4 s.data.toList 1 else
    if atP s.data.toList then namedP 3 s.data.toList 1 else
    if 0 < (numberP s.data.toList).2 then numTkP s.data.toList (numberP s.data.toList).1 (numberP s.data.toList).2 else
    if beginsP s.data.toList then wordP s.data.toList else ⟨oneK s.data.toList, s.data.toList.take 1, [], 0⟩ := rfl
  generalize hNP : firstP s.data.toList = NP at *
  clear hNP
  generalize hTT : Lib.trimLeftS s.data.toList [32, 9, 10, 12, 13] = T at *
  clear hTT
  replace cT := Lib.hid cT

  rw [if_neg (by omega : ¬ 0 < spaceP s.data.toList)] at hP
  have hsl1 : (s.size : Int) ≤ (T.length : Int) := by omega
  have hsl3 : (T.length : Int) ≤ (s.size : Int) := by omega
  clear hsl

  have cC : ∀ w, Calls Tryd.prog 59 #[.string s, .string ⟨#[47, 42]⟩] w fun e w' => e = .returned (.tuple #[.string ⟨(Lib.trimPrefix s.data.toList [47, 42]).toArray⟩, .bool false]) ∧ w = w' := fun w => by
    have := Tryd.strings_CutPrefix s (bs [47, 42]) w
    rw [show (bs [47, 42]).data.toList = [47, 42] from rfl, hn] at this
    exact this.mono fun e w' ⟨h1, h2⟩ => ⟨h1, h2.symm⟩

  rw [hn, if_neg (by simp)] at hP
  generalize Lib.trimPrefix s.data.toList [47, 42] = R at *
  replace cC := Lib.hid cC
  replace hn := Lib.hid hn

  have hh : hashP s.data.toList = false := by
    rcases Nat.lt_or_ge 1 s.size with h1 | h1
    · rw [hash_long h1, decide_eq_false (by omega : ¬ nv s[0] = 35)]
      rfl
    · exact hash_short h1
  have ha : atP s.data.toList = false := by rw [at_of h0, decide_eq_false (by omega : ¬ nv s[0] = 64)]; rfl

  have ho : oneK s.data.toList = 11 := by rw [one_of h0]; split <;> (try split) <;> (try split) <;> first | rfl | omega
  rw [quote_of h0, decide_eq_false (by omega : ¬ (nv s[0] = 39 ∨ nv s[0] = 34)), if_neg (by simp), hh, if_neg (by simp), ha, if_neg (by simp), if_neg (by omega), hbg, if_neg (by simp), ho] at hP

  have cN := fun w => number_ct s (by omega) w
  have hnn : (((numberP s.data.toList).2 : Nat) : Int) ≤ 0 := by omega
  generalize numberP s.data.toList = V at *
  obtain ⟨nm, nn⟩ := V
  simp only at hnn cN
  replace cN := Lib.hid cN

  have cB := fun w => begins_ct s (by unfold maxLen; omega) w
  simp only [hbg] at cB
  replace cB := Lib.hid cB
  clear hbg hh ha ho
  have q39 : ((s[0].toNat : Int) == 39) = false := by have h := hx; simp only [nv] at h; rw [beq_eq_false_iff_ne]; omega
  have q34 : ((s[0].toNat : Int) == 34) = false := by have h := hx; simp only [nv] at h; rw [beq_eq_false_iff_ne]; omega
  have q35 : ((s[0].toNat : Int) == 35) = false := by have h := hx; simp only [nv] at h; rw [beq_eq_false_iff_ne]; omega
  have q64 : ((s[0].toNat : Int) == 64) = false := by have h := hx; simp only [nv] at h; rw [beq_eq_false_iff_ne]; omega
  have q40 : ((s[0].toNat : Int) == 40) = false := by have h := hx; simp only [nv] at h; rw [beq_eq_false_iff_ne]; omega
  have q91 : ((s[0].toNat : Int) == 91) = false := by have h := hx; simp only [nv] at h; rw [beq_eq_false_iff_ne]; omega
  have q123 : ((s[0].toNat : Int) == 123) = false := by have h := hx; simp only [nv] at h; rw [beq_eq_false_iff_ne]; omega
  have q41 : ((s[0].toNat : Int) == 41) = false := by have h := hx; simp only [nv] at h; rw [beq_eq_false_iff_ne]; omega
  have q93 : ((s[0].toNat : Int) == 93) = false := by have h := hx; simp only [nv] at h; rw [beq_eq_false_iff_ne]; omega
  have q125 : ((s[0].toNat : Int) == 125) = true := by have h := hx; simp only [nv] at h; rw [h]; rfl
  have q92 : ((s[0].toNat : Int) == 92) = false := by have h := hx; simp only [nv] at h; rw [beq_eq_false_iff_ne]; omega

  replace hx := Lib.hid hx
  replace hP := Lib.hid hP

  go_enter Tryd.func70, Tryd.ntmps70
  go_wp2_with fail
  generalize hW0 : (w.alloc (.cells #[.string s] 9)).alloc (.cells #[.int .i64 0, .string ⟨#[]⟩, .string ⟨#[]⟩, .int .i64 0] 104) = W0
  have HB0 := Lib.hid (show Below w.heap.size w W0 by subst hW0; exact ((Below.refl _ _).alloc (Nat.le_refl _) _).alloc (by simp) _)
  have HZ : w.heap.size + 2 ≤ W0.heap.size := by subst hW0; simp
  have sB0 := Lib.hid (show Blk W0 w.heap.size 9 #[.string s] by subst hW0; exact (Blk.new rfl).alloc _)
  have rB0 := Lib.hid (show Blk W0 (w.heap.size + 1) 104 #[.int .i64 0, .string ⟨#[]⟩, .string ⟨#[]⟩, .int .i64 0] by subst hW0; exact Blk.new (by simp))
  have c0 : W0.cell? ⟨w.heap.size, 0, none⟩ = some (.string s) := sB0.out.cell 0
  clear hW0
  go_region_held3 (fun w' => (∀ b o, b < w.heap.size + 2 → w'.cell? ⟨b, o, none⟩ = W0.cell? ⟨b, o, none⟩) ∧ Below (w.heap.size + 2) W0 w')
    (first | exact As.beg | assumption | exact As.on hb3 (by assumption) HZ | exact As.alloc (by assumption) HZ)
    ((go_at_call 111; (with_reducible refine (cT.out _).mono ?_); rintro e W1 ⟨rfl, hb3⟩; have hS := Lib.hid (As.on (B := w.heap.size + 2) (W0 := W0) hb3 As.beg HZ)))
  all_goals
    rename_i hHeld
    clear hHeld
    have HB1 := Lib.hid (HB0.out.trans (hS.out.2.mono (by omega)))
    have sB := Lib.hid (sB0.out.below hS.out.2 (by omega))
    have rB := Lib.hid (rB0.out.below hS.out.2 (by omega))
    have rC := rB.out.cell
    have rF := rB.out.frozen
    have sF := sB.out.frozen
    have sz1 := rB.out.lt
    clear sB0 rB0 HB0 hS c0 hb3
    have sC := sB.out.cell
    go_wp2_with (first | (go_at_call 59; (with_reducible refine (cC.out _).mono ?_); rintro e w2 ⟨rfl, rfl⟩) | (go_at_call 117; (with_reducible refine (cB.out _).mono ?_); rintro e w2 ⟨rfl, rfl⟩) | (go_at_call 118; (with_reducible refine (cN.out _).mono ?_); rintro e W2 ⟨rfl, hb2⟩; have rB2 := Lib.hid (rB.out.below hb2 rB.out.lt); have HB2 := Lib.hid (HB1.out.trans (hb2.mono HB1.out.size)); have sB2 := Lib.hid (sB.out.below hb2 sB.out.lt); clear rC rF sC sF hb2; have rC := rB2.out.cell; have rF := rB2.out.frozen; have sC := sB2.out.cell; have sF := sB2.out.frozen; have sz2 := rB2.out.lt; have szs := sB2.out.lt) | (go_at_call 110; (with_reducible refine (one_ct 11 s w.heap.size _ hs h0 sB2.out).mono ?_); rintro e W3 ⟨rfl, hb2⟩; have rB3 := Lib.hid (rB2.out.below hb2 rB2.out.lt); have HB3 := Lib.hid (HB2.out.trans (hb2.mono HB2.out.size)); clear rC rF sC sF hb2; have rC := rB3.out.cell; have rF := rB3.out.frozen; have sz3 := rB3.out.lt))

    have e := Blk.cell (Blk.four (rB3.out) (.int .i64 11) (.string (s.extract 0 1)) (.string ⟨#[]⟩) (.int .i64 0))
    refine bodyPost_ret (v := .agg #[.int .i64 11, .string (s.extract 0 1), .string ⟨#[]⟩, .int .i64 0]) (by simp [results, Tryd.results70, go_sem, e]) rfl ⟨?_, ?_⟩
    · rw [hP.out]
      exact ret_tok rfl (take_ex _ _) rfl rfl
    · exact (((HB3.out.setCell (by simp) _).setCell (by simp) _).setCell (by simp) _).setCell (by simp) _

set_option maxRecDepth 100000 in
set_option maxHeartbeats 8000000 in
theorem one_92 (s : ByteArray) (hs : s.size < 4294967281) (h0 : 0 < s.size) (w : World) (hsp : spaceP s.data.toList = 0) (hn : Lib.hasPrefix s.data.toList [47, 42] = false) (hnp : (numberP s.data.toList).2 = 0) (hbg : beginsP s.data.toList = false) (hx : nv s[0] = 92) :
    Calls Tryd.prog 70 #[.string s] w fun e w' => e = .returned (.agg (firstP s.data.toList).cells) ∧ Below w.heap.size w w' := by
  have hsl := space_len s.data.toList
  rw [← Lib.size_eq] at hsl
  have cT := fun w => trimL_ct s [32, 9, 10, 12, 13] (by decide) (by decide) w
  have hP : firstP s.data.toList = if 0 < spaceP s.data.toList then ⟨8, s.data.toList.take (spaceP s.data.toList), [], 0⟩ else
    if Lib.hasPrefix s.data.toList [47, 42] then noteP s.data.toList else
    if quoteP s.data.toList then textP s.data.toList else
    if hashP s.data.toList then namedP 4 s.data.toList 1 else
    if atP s.data.toList then namedP 3 s.data.toList 1 else
    if 0 < (numberP s.data.toList).2 then numTkP s.data.toList (numberP s.data.toList).1 (numberP s.data.toList).2 else
    if beginsP s.data.toList then wordP s.data.toList else ⟨oneK s.data.toList, s.data.toList.take 1, [], 0⟩ := rfl
  generalize hNP : firstP s.data.toList = NP at *
  clear hNP
  generalize hTT : Lib.trimLeftS s.data.toList [32, 9, 10, 12, 13] = T at *
  clear hTT
  replace cT := Lib.hid cT

  rw [if_neg (by omega : ¬ 0 < spaceP s.data.toList)] at hP
  have hsl1 : (s.size : Int) ≤ (T.length : Int) := by omega
  have hsl3 : (T.length : Int) ≤ (s.size : Int) := by omega
  clear hsl

  have cC : ∀ w, Calls Tryd.prog 59 #[.string s, .string ⟨#[47, 42]⟩] w fun e w' => e = .returned (.tuple #[.string ⟨(Lib.trimPrefix s.data.toList [47, 42]).toArray⟩, .bool false]) ∧ w = w' := fun w => by
    have := Tryd.strings_CutPrefix s (bs [47, 42]) w
    rw [show (bs [47, 42]).data.toList = [47, 42] from rfl, hn] at this
    exact this.mono fun e w' ⟨h1, h2⟩ => ⟨h1, h2.symm⟩

  rw [hn, if_neg (by simp)] at hP
  generalize Lib.trimPrefix s.data.toList [47, 42] = R at *
  replace cC := Lib.hid cC
  replace hn := Lib.hid hn

  have hh : hashP s.data.toList = false := by
    rcases Nat.lt_or_ge 1 s.size with h1 | h1
    · rw [hash_long h1, decide_eq_false (by omega : ¬ nv s[0] = 35)]
      rfl
    · exact hash_short h1
  have ha : atP s.data.toList = false := by rw [at_of h0, decide_eq_false (by omega : ¬ nv s[0] = 64)]; rfl

  have ho : oneK s.data.toList = 6 := by rw [one_of h0]; split <;> (try split) <;> (try split) <;> first | rfl | omega
  rw [quote_of h0, decide_eq_false (by omega : ¬ (nv s[0] = 39 ∨ nv s[0] = 34)), if_neg (by simp), hh, if_neg (by simp), ha, if_neg (by simp), if_neg (by omega), hbg, if_neg (by simp), ho] at hP

  have cN := fun w => number_ct s (by omega) w
  have hnn : (((numberP s.data.toList).2 : Nat) : Int) ≤ 0 := by omega
  generalize numberP s.data.toList = V at *
  obtain ⟨nm, nn⟩ := V
  simp only at hnn cN
  replace cN := Lib.hid cN

  have cB := fun w => begins_ct s (by unfold maxLen; omega) w
  simp only [hbg] at cB
  replace cB := Lib.hid cB
  clear hbg hh ha ho
  have q39 : ((s[0].toNat : Int) == 39) = false := by have h := hx; simp only [nv] at h; rw [beq_eq_false_iff_ne]; omega
  have q34 : ((s[0].toNat : Int) == 34) = false := by have h := hx; simp only [nv] at h; rw [beq_eq_false_iff_ne]; omega
  have q35 : ((s[0].toNat : Int) == 35) = false := by have h := hx; simp only [nv] at h; rw [beq_eq_false_iff_ne]; omega
  have q64 : ((s[0].toNat : Int) == 64) = false := by have h := hx; simp only [nv] at h; rw [beq_eq_false_iff_ne]; omega
  have q40 : ((s[0].toNat : Int) == 40) = false := by have h := hx; simp only [nv] at h; rw [beq_eq_false_iff_ne]; omega
  have q91 : ((s[0].toNat : Int) == 91) = false := by have h := hx; simp only [nv] at h; rw [beq_eq_false_iff_ne]; omega
  have q123 : ((s[0].toNat : Int) == 123) = false := by have h := hx; simp only [nv] at h; rw [beq_eq_false_iff_ne]; omega
  have q41 : ((s[0].toNat : Int) == 41) = false := by have h := hx; simp only [nv] at h; rw [beq_eq_false_iff_ne]; omega
  have q93 : ((s[0].toNat : Int) == 93) = false := by have h := hx; simp only [nv] at h; rw [beq_eq_false_iff_ne]; omega
  have q125 : ((s[0].toNat : Int) == 125) = false := by have h := hx; simp only [nv] at h; rw [beq_eq_false_iff_ne]; omega
  have q92 : ((s[0].toNat : Int) == 92) = true := by have h := hx; simp only [nv] at h; rw [h]; rfl

  replace hx := Lib.hid hx
  replace hP := Lib.hid hP

  go_enter Tryd.func70, Tryd.ntmps70
  go_wp2_with fail
  generalize hW0 : (w.alloc (.cells #[.string s] 9)).alloc (.cells #[.int .i64 0, .string ⟨#[]⟩, .string ⟨#[]⟩, .int .i64 0] 104) = W0
  have HB0 := Lib.hid (show Below w.heap.size w W0 by subst hW0; exact ((Below.refl _ _).alloc (Nat.le_refl _) _).alloc (by simp) _)
  have HZ : w.heap.size + 2 ≤ W0.heap.size := by subst hW0; simp
  have sB0 := Lib.hid (show Blk W0 w.heap.size 9 #[.string s] by subst hW0; exact (Blk.new rfl).alloc _)
  have rB0 := Lib.hid (show Blk W0 (w.heap.size + 1) 104 #[.int .i64 0, .string ⟨#[]⟩, .string ⟨#[]⟩, .int .i64 0] by subst hW0; exact Blk.new (by simp))
  have c0 : W0.cell? ⟨w.heap.size, 0, none⟩ = some (.string s) := sB0.out.cell 0
  clear hW0
  go_region_held3 (fun w' => (∀ b o, b < w.heap.size + 2 → w'.cell? ⟨b, o, none⟩ = W0.cell? ⟨b, o, none⟩) ∧ Below (w.heap.size + 2) W0 w')
    (first | exact As.beg | assumption | exact As.on hb3 (by assumption) HZ | exact As.alloc (by assumption) HZ)
    ((go_at_call 111; (with_reducible refine (cT.out _).mono ?_); rintro e W1 ⟨rfl, hb3⟩; have hS := Lib.hid (As.on (B := w.heap.size + 2) (W0 := W0) hb3 As.beg HZ)))
  all_goals
    rename_i hHeld
    clear hHeld
    have HB1 := Lib.hid (HB0.out.trans (hS.out.2.mono (by omega)))
    have sB := Lib.hid (sB0.out.below hS.out.2 (by omega))
    have rB := Lib.hid (rB0.out.below hS.out.2 (by omega))
    have rC := rB.out.cell
    have rF := rB.out.frozen
    have sF := sB.out.frozen
    have sz1 := rB.out.lt
    clear sB0 rB0 HB0 hS c0 hb3
    have sC := sB.out.cell
    go_wp2_with (first | (go_at_call 59; (with_reducible refine (cC.out _).mono ?_); rintro e w2 ⟨rfl, rfl⟩) | (go_at_call 117; (with_reducible refine (cB.out _).mono ?_); rintro e w2 ⟨rfl, rfl⟩) | (go_at_call 118; (with_reducible refine (cN.out _).mono ?_); rintro e W2 ⟨rfl, hb2⟩; have rB2 := Lib.hid (rB.out.below hb2 rB.out.lt); have HB2 := Lib.hid (HB1.out.trans (hb2.mono HB1.out.size)); have sB2 := Lib.hid (sB.out.below hb2 sB.out.lt); clear rC rF sC sF hb2; have rC := rB2.out.cell; have rF := rB2.out.frozen; have sC := sB2.out.cell; have sF := sB2.out.frozen; have sz2 := rB2.out.lt; have szs := sB2.out.lt) | (go_at_call 110; (with_reducible refine (one_ct 6 s w.heap.size _ hs h0 sB2.out).mono ?_); rintro e W3 ⟨rfl, hb2⟩; have rB3 := Lib.hid (rB2.out.below hb2 rB2.out.lt); have HB3 := Lib.hid (HB2.out.trans (hb2.mono HB2.out.size)); clear rC rF sC sF hb2; have rC := rB3.out.cell; have rF := rB3.out.frozen; have sz3 := rB3.out.lt))

    have e := Blk.cell (Blk.four (rB3.out) (.int .i64 6) (.string (s.extract 0 1)) (.string ⟨#[]⟩) (.int .i64 0))
    refine bodyPost_ret (v := .agg #[.int .i64 6, .string (s.extract 0 1), .string ⟨#[]⟩, .int .i64 0]) (by simp [results, Tryd.results70, go_sem, e]) rfl ⟨?_, ?_⟩
    · rw [hP.out]
      exact ret_tok rfl (take_ex _ _) rfl rfl
    · exact (((HB3.out.setCell (by simp) _).setCell (by simp) _).setCell (by simp) _).setCell (by simp) _

set_option maxRecDepth 100000 in
set_option maxHeartbeats 8000000 in
theorem one_other (s : ByteArray) (hs : s.size < 4294967281) (h0 : 0 < s.size) (w : World) (hsp : spaceP s.data.toList = 0) (hn : Lib.hasPrefix s.data.toList [47, 42] = false) (hnp : (numberP s.data.toList).2 = 0) (hbg : beginsP s.data.toList = false) (hx : ¬ nv s[0] = 39 ∧ ¬ nv s[0] = 34 ∧ ¬ nv s[0] = 35 ∧ ¬ nv s[0] = 64 ∧ ¬ nv s[0] = 40 ∧ ¬ nv s[0] = 91 ∧ ¬ nv s[0] = 123 ∧ ¬ nv s[0] = 41 ∧ ¬ nv s[0] = 93 ∧ ¬ nv s[0] = 125 ∧ ¬ nv s[0] = 92) :
    Calls Tryd.prog 70 #[.string s] w fun e w' => e = .returned (.agg (firstP s.data.toList).cells) ∧ Below w.heap.size w w' := by
  have hsl := space_len s.data.toList
  rw [← Lib.size_eq] at hsl
  have cT := fun w => trimL_ct s [32, 9, 10, 12, 13] (by decide) (by decide) w
  have hP : firstP s.data.toList = if 0 < spaceP s.data.toList then ⟨8, s.data.toList.take (spaceP s.data.toList), [], 0⟩ else
    if Lib.hasPrefix s.data.toList [47, 42] then noteP s.data.toList else
    if quoteP s.data.toList then textP s.data.toList else
    if hashP s.data.toList then namedP 4 s.data.toList 1 else
    if atP s.data.toList then namedP 3 s.data.toList 1 else
    if 0 < (numberP s.data.toList).2 then numTkP s.data.toList (numberP s.data.toList).1 (numberP s.data.toList).2 else
    if beginsP s.data.toList then wordP s.data.toList else ⟨oneK s.data.toList, s.data.toList.take 1, [], 0⟩ := rfl
  generalize hNP : firstP s.data.toList = NP at *
  clear hNP
  generalize hTT : Lib.trimLeftS s.data.toList [32, 9, 10, 12, 13] = T at *
  clear hTT
  replace cT := Lib.hid cT

  rw [if_neg (by omega : ¬ 0 < spaceP s.data.toList)] at hP
  have hsl1 : (s.size : Int) ≤ (T.length : Int) := by omega
  have hsl3 : (T.length : Int) ≤ (s.size : Int) := by omega
  clear hsl

  have cC : ∀ w, Calls Tryd.prog 59 #[.string s, .string ⟨#[47, 42]⟩] w fun e w' => e = .returned (.tuple #[.string ⟨(Lib.trimPrefix s.data.toList [47, 42]).toArray⟩, .bool false]) ∧ w = w' := fun w => by
    have := Tryd.strings_CutPrefix s (bs [47, 42]) w
    rw [show (bs [47, 42]).data.toList = [47, 42] from rfl, hn] at this
    exact this.mono fun e w' ⟨h1, h2⟩ => ⟨h1, h2.symm⟩

  rw [hn, if_neg (by simp)] at hP
  generalize Lib.trimPrefix s.data.toList [47, 42] = R at *
  replace cC := Lib.hid cC
  replace hn := Lib.hid hn

  have hh : hashP s.data.toList = false := by
    rcases Nat.lt_or_ge 1 s.size with h1 | h1
    · rw [hash_long h1, decide_eq_false (by omega : ¬ nv s[0] = 35)]
      rfl
    · exact hash_short h1
  have ha : atP s.data.toList = false := by rw [at_of h0, decide_eq_false (by omega : ¬ nv s[0] = 64)]; rfl

  have ho : oneK s.data.toList = 12 := by rw [one_of h0]; split <;> (try split) <;> (try split) <;> first | rfl | omega
  rw [quote_of h0, decide_eq_false (by omega : ¬ (nv s[0] = 39 ∨ nv s[0] = 34)), if_neg (by simp), hh, if_neg (by simp), ha, if_neg (by simp), if_neg (by omega), hbg, if_neg (by simp), ho] at hP

  have cN := fun w => number_ct s (by omega) w
  have hnn : (((numberP s.data.toList).2 : Nat) : Int) ≤ 0 := by omega
  generalize numberP s.data.toList = V at *
  obtain ⟨nm, nn⟩ := V
  simp only at hnn cN
  replace cN := Lib.hid cN

  have cB := fun w => begins_ct s (by unfold maxLen; omega) w
  simp only [hbg] at cB
  replace cB := Lib.hid cB
  clear hbg hh ha ho
  have q39 : ((s[0].toNat : Int) == 39) = false := by have h := hx; simp only [nv] at h; rw [beq_eq_false_iff_ne]; omega
  have q34 : ((s[0].toNat : Int) == 34) = false := by have h := hx; simp only [nv] at h; rw [beq_eq_false_iff_ne]; omega
  have q35 : ((s[0].toNat : Int) == 35) = false := by have h := hx; simp only [nv] at h; rw [beq_eq_false_iff_ne]; omega
  have q64 : ((s[0].toNat : Int) == 64) = false := by have h := hx; simp only [nv] at h; rw [beq_eq_false_iff_ne]; omega
  have q40 : ((s[0].toNat : Int) == 40) = false := by have h := hx; simp only [nv] at h; rw [beq_eq_false_iff_ne]; omega
  have q91 : ((s[0].toNat : Int) == 91) = false := by have h := hx; simp only [nv] at h; rw [beq_eq_false_iff_ne]; omega
  have q123 : ((s[0].toNat : Int) == 123) = false := by have h := hx; simp only [nv] at h; rw [beq_eq_false_iff_ne]; omega
  have q41 : ((s[0].toNat : Int) == 41) = false := by have h := hx; simp only [nv] at h; rw [beq_eq_false_iff_ne]; omega
  have q93 : ((s[0].toNat : Int) == 93) = false := by have h := hx; simp only [nv] at h; rw [beq_eq_false_iff_ne]; omega
  have q125 : ((s[0].toNat : Int) == 125) = false := by have h := hx; simp only [nv] at h; rw [beq_eq_false_iff_ne]; omega
  have q92 : ((s[0].toNat : Int) == 92) = false := by have h := hx; simp only [nv] at h; rw [beq_eq_false_iff_ne]; omega

  replace hx := Lib.hid hx
  replace hP := Lib.hid hP

  go_enter Tryd.func70, Tryd.ntmps70
  go_wp2_with fail
  generalize hW0 : (w.alloc (.cells #[.string s] 9)).alloc (.cells #[.int .i64 0, .string ⟨#[]⟩, .string ⟨#[]⟩, .int .i64 0] 104) = W0
  have HB0 := Lib.hid (show Below w.heap.size w W0 by subst hW0; exact ((Below.refl _ _).alloc (Nat.le_refl _) _).alloc (by simp) _)
  have HZ : w.heap.size + 2 ≤ W0.heap.size := by subst hW0; simp
  have sB0 := Lib.hid (show Blk W0 w.heap.size 9 #[.string s] by subst hW0; exact (Blk.new rfl).alloc _)
  have rB0 := Lib.hid (show Blk W0 (w.heap.size + 1) 104 #[.int .i64 0, .string ⟨#[]⟩, .string ⟨#[]⟩, .int .i64 0] by subst hW0; exact Blk.new (by simp))
  have c0 : W0.cell? ⟨w.heap.size, 0, none⟩ = some (.string s) := sB0.out.cell 0
  clear hW0
  go_region_held3 (fun w' => (∀ b o, b < w.heap.size + 2 → w'.cell? ⟨b, o, none⟩ = W0.cell? ⟨b, o, none⟩) ∧ Below (w.heap.size + 2) W0 w')
    (first | exact As.beg | assumption | exact As.on hb3 (by assumption) HZ | exact As.alloc (by assumption) HZ)
    ((go_at_call 111; (with_reducible refine (cT.out _).mono ?_); rintro e W1 ⟨rfl, hb3⟩; have hS := Lib.hid (As.on (B := w.heap.size + 2) (W0 := W0) hb3 As.beg HZ)))
  all_goals
    rename_i hHeld
    clear hHeld
    have HB1 := Lib.hid (HB0.out.trans (hS.out.2.mono (by omega)))
    have sB := Lib.hid (sB0.out.below hS.out.2 (by omega))
    have rB := Lib.hid (rB0.out.below hS.out.2 (by omega))
    have rC := rB.out.cell
    have rF := rB.out.frozen
    have sF := sB.out.frozen
    have sz1 := rB.out.lt
    clear sB0 rB0 HB0 hS c0 hb3
    have sC := sB.out.cell
    go_wp2_with (first | (go_at_call 59; (with_reducible refine (cC.out _).mono ?_); rintro e w2 ⟨rfl, rfl⟩) | (go_at_call 117; (with_reducible refine (cB.out _).mono ?_); rintro e w2 ⟨rfl, rfl⟩) | (go_at_call 118; (with_reducible refine (cN.out _).mono ?_); rintro e W2 ⟨rfl, hb2⟩; have rB2 := Lib.hid (rB.out.below hb2 rB.out.lt); have HB2 := Lib.hid (HB1.out.trans (hb2.mono HB1.out.size)); have sB2 := Lib.hid (sB.out.below hb2 sB.out.lt); clear rC rF sC sF hb2; have rC := rB2.out.cell; have rF := rB2.out.frozen; have sC := sB2.out.cell; have sF := sB2.out.frozen; have sz2 := rB2.out.lt; have szs := sB2.out.lt) | (go_at_call 110; (with_reducible refine (one_ct 12 s w.heap.size _ hs h0 sB2.out).mono ?_); rintro e W3 ⟨rfl, hb2⟩; have rB3 := Lib.hid (rB2.out.below hb2 rB2.out.lt); have HB3 := Lib.hid (HB2.out.trans (hb2.mono HB2.out.size)); clear rC rF sC sF hb2; have rC := rB3.out.cell; have rF := rB3.out.frozen; have sz3 := rB3.out.lt))

    have e := Blk.cell (Blk.four (rB3.out) (.int .i64 12) (.string (s.extract 0 1)) (.string ⟨#[]⟩) (.int .i64 0))
    refine bodyPost_ret (v := .agg #[.int .i64 12, .string (s.extract 0 1), .string ⟨#[]⟩, .int .i64 0]) (by simp [results, Tryd.results70, go_sem, e]) rfl ⟨?_, ?_⟩
    · rw [hP.out]
      exact ret_tok rfl (take_ex _ _) rfl rfl
    · exact (((HB3.out.setCell (by simp) _).setCell (by simp) _).setCell (by simp) _).setCell (by simp) _

end Go.Proofs.YtaihncbejhnceaaDoor.tok

namespace Go.Proofs.YtaihncbejhnceaaDoor.tok
open Go.RowKit Go.Proofs.YtaihncbejhnceaaDoor.base
set_option linter.unusedVariables false

theorem first_ct (s : ByteArray) (hs : s.size < 4294967281) (h0 : 0 < s.size) (w : World) (hm : MaxL w) :
    Calls Tryd.prog 70 #[.string s] w fun e w' => e = .returned (.agg (firstP s.data.toList).cells) ∧ Below w.heap.size w w' := by
  rcases Nat.eq_zero_or_pos (spaceP s.data.toList) with hsp | hsp
  · cases hn : Lib.hasPrefix s.data.toList [47, 42]
    · by_cases hq : nv s[0] = 39 ∨ nv s[0] = 34
      · exact first_quote s hs h0 w hsp hn hq
      · by_cases h35 : nv s[0] = 35
        · rcases Nat.lt_or_ge 1 s.size with h1 | h1
          · cases hsb : signI (nv s[1])
            · cases heb : escP (s.extract 1 s.size).data.toList
              · have hnp : (numberP s.data.toList).2 = 0 := by
                  rcases Nat.eq_zero_or_pos (numberP s.data.toList).2 with h | h
                  · exact h
                  · exact absurd h35 (number_no' (head_of h0) h).1
                have hbg : beginsP s.data.toList = false := by
                  cases h : beginsP s.data.toList
                  · rfl
                  · exact absurd h35 (begins_no' (head_of h0) h).1
                exact one_hash s hs h0 w hsp hn hnp hbg h35 h1 false false hsb heb rfl rfl
              · exact first_hash s hs h0 w hsp hn h35 h1 false true hsb heb rfl
            · exact first_hash s hs h0 w hsp hn h35 h1 true (escP (s.extract 1 s.size).data.toList) hsb rfl rfl
          · have hnp : (numberP s.data.toList).2 = 0 := by
              rcases Nat.eq_zero_or_pos (numberP s.data.toList).2 with h | h
              · exact h
              · exact absurd h35 (number_no' (head_of h0) h).1
            have hbg : beginsP s.data.toList = false := by
              cases h : beginsP s.data.toList
              · rfl
              · exact absurd h35 (begins_no' (head_of h0) h).1
            exact one_hash_short s hs h0 w hsp hn hnp hbg h35 h1
        · rcases Nat.eq_zero_or_pos (numberP s.data.toList).2 with hnp | hnp
          · cases hbg : beginsP s.data.toList
            · by_cases h64 : nv s[0] = 64
              · cases hb1 : beginsP (s.extract 1 s.size).data.toList
                · exact one_at s hs h0 w hsp hn hnp hbg h64 hb1
                · exact first_at s hs h0 w hsp hn h64 hb1
              · by_cases a1 : nv s[0] = 40
                · exact one_40 s hs h0 w hsp hn hnp hbg a1
                by_cases a2 : nv s[0] = 91
                · exact one_91 s hs h0 w hsp hn hnp hbg a2
                by_cases a3 : nv s[0] = 123
                · exact one_123 s hs h0 w hsp hn hnp hbg a3
                by_cases a4 : nv s[0] = 41
                · exact one_41 s hs h0 w hsp hn hnp hbg a4
                by_cases a5 : nv s[0] = 93
                · exact one_93 s hs h0 w hsp hn hnp hbg a5
                by_cases a6 : nv s[0] = 125
                · exact one_125 s hs h0 w hsp hn hnp hbg a6
                by_cases a7 : nv s[0] = 92
                · exact one_92 s hs h0 w hsp hn hnp hbg a7
                exact one_other s hs h0 w hsp hn hnp hbg (by omega)
            · exact first_word s hs h0 w hsp hn hnp hbg _ rfl
          · exact first_number s hs h0 w hsp hn hnp
    · exact first_note s hs h0 w hm hsp hn
  · exact first_space s hs h0 w hsp

/-- each token's raw text is a beginning, and not empty -/
theorem name_pos {l : Bs} (h : beginsP l = true) : 0 < (nameP l).2 := by
  match l, h with
  | [c], h =>
    have hs : signI (nv c) = true := by simp only [beginsP] at h; simp [signI, h]
    rw [nameP, if_pos hs]
    simp
  | c :: d :: r, h =>
    rw [nameP]
    split
    · simp
    · rename_i he
      have hs : signI (nv c) = true := by
        simp only [beginsP] at h
        split at h
        · rename_i h45
          simp [signI, h45]
        · simp only [he, Bool.or_false] at h
          simp [signI, h]
      rw [if_pos hs]
      simp
theorem space_le (l : Bs) : spaceP l ≤ l.length := by have := space_len l; omega
theorem first_pre (l : Bs) (h0 : l ≠ []) : (∃ k, (firstP l).raw = l.take k) ∧ 0 < (firstP l).raw.length := by
  have hl : 0 < l.length := List.length_pos_iff.2 h0
  have key : ∀ k, 0 < k → (∃ m, l.take k = l.take m) ∧ 0 < (l.take k).length := fun k hk => ⟨⟨k, rfl⟩, by rw [List.length_take]; omega⟩
  unfold firstP
  split
  · rename_i h
    exact key _ h
  · split
    · simp only [noteP]
      split
      · exact key _ (by omega)
      · exact ⟨⟨l.length, by rw [List.take_length]⟩, hl⟩
    · split
      · match l, h0 with
        | q :: r, _ =>
          simp only [textP]
          exact key _ (by omega)
      · split
        · exact key _ (by omega)
        · split
          · exact key _ (by omega)
          · split
            · rename_i h
              simp only [numTkP]
              split
              · exact key _ (by omega)
              · split
                · exact key _ (by omega)
                · exact key _ h
            · split
              · rename_i hb
                have hn := name_pos hb
                simp only [wordP]
                split
                · exact key _ (by omega)
                · simp only [namedP, List.drop_zero]
                  exact key _ (by omega)
              · exact key 1 (by omega)
theorem first_raw (l : Bs) (h0 : l ≠ []) : (firstP l).raw = l.take (firstP l).raw.length := by
  obtain ⟨⟨k, hk⟩, _⟩ := first_pre l h0
  rw [hk, List.length_take, ← List.take_take]
  simp

/-- a text, cut -/
def cutP (l : Bs) : List Tk := if h : l = [] then [] else firstP l :: cutP (l.drop (firstP l).raw.length)
termination_by l.length
decreasing_by
  have h1 := (first_pre l h).2
  have h2 : 0 < l.length := List.length_pos_iff.2 h
  rw [List.length_drop]
  omega
theorem cutP_nil : cutP [] = [] := by rw [cutP]; rfl
theorem cutP_cons {l : Bs} (h : l ≠ []) : cutP l = firstP l :: cutP (l.drop (firstP l).raw.length) := by rw [cutP, dif_neg h]

end Go.Proofs.YtaihncbejhnceaaDoor.tok

namespace Go.Proofs.YtaihncbejhnceaaDoor.base
open Go.RowKit
set_option linter.unusedVariables false

/-- the cells of the entries, one behind the other -/
def flatR {α : Type} (f : α → List Value) (L : List α) : List Value := L.flatMap f

section
variable {α : Type} {k : Nat} {f : α → List Value}
theorem flatR_nil : flatR f [] = [] := rfl
theorem flatR_snoc (L : List α) (d : α) : flatR f (L ++ [d]) = flatR f L ++ f d := by simp [flatR]
theorem flatR_app (L M : List α) : flatR f (L ++ M) = flatR f L ++ flatR f M := by simp [flatR]
theorem flatR_len (hf : ∀ d, (f d).length = k) : ∀ (L : List α), (flatR f L).length = L.length * k
  | [] => by simp [flatR]
  | d :: L => by
    have := flatR_len hf L
    simp only [flatR, List.flatMap_cons, List.length_append, List.length_cons] at this ⊢
    rw [this, hf, Nat.add_mul]
    omega
theorem flatR_at (hf : ∀ d, (f d).length = k) : ∀ {L : List α} {i : Nat} {d : α}, L[i]? = some d → ∀ j, j < k → (flatR f L)[i * k + j]? = (f d)[j]?
  | [], i, d, h, _, _ => by simp at h
  | e :: L, 0, d, h, j, hj => by
    simp at h
    subst h
    simp only [flatR, List.flatMap_cons, Nat.zero_mul, Nat.zero_add]
    rw [List.getElem?_append_left (by rw [hf]; exact hj)]
  | e :: L, i + 1, d, h, j, hj => by
    have ih := flatR_at hf (L := L) (i := i) (d := d) (by simpa using h) j hj
    simp only [flatR, List.flatMap_cons] at ih ⊢
    rw [List.getElem?_append_right (by rw [hf, Nat.add_mul]; omega), hf, show (i + 1) * k + j - k = i * k + j by rw [Nat.add_mul]; omega]
    exact ih

/-- they lie where the slice says, below block B -/
def Rd (k : Nat) (f : α → List Value) (w : World) (B : Nat) (A : Option Addr) (n : Nat) (L : List α) : Prop :=
  L.length = n ∧ (0 < n → ∃ b off, A = some ⟨b, off, none⟩ ∧ b < B ∧ ∀ (i : Nat) (d : α), L[i]? = some d → ∀ j, j < k → w.cell? ⟨b, off + i * k + j, none⟩ = (f d)[j]?)

theorem Rd.keep {w w' : World} {B B' : Nat} {A : Option Addr} {n : Nat} {L : List α} (h : Rd k f w B A n L) (hb : Below B w w') (hB : B ≤ B') : Rd k f w' B' A n L := by
  refine ⟨h.1, fun h0 => ?_⟩
  obtain ⟨b, off, hA, hlt, hc⟩ := h.2 h0
  exact ⟨b, off, hA, by omega, fun i d hd j hj => (hb.cell (p := ⟨b, _, none⟩) hlt).trans (hc i d hd j hj)⟩

theorem Rd.first {w : World} {B : Nat} {A : Option Addr} {n m : Nat} {L : List α} (h : Rd k f w B A n L) (hm : m ≤ n) : Rd k f w B A m (L.take m) := by
  refine ⟨by rw [List.length_take, h.1]; omega, fun h0 => ?_⟩
  obtain ⟨b, off, hA, hlt, hc⟩ := h.2 (by omega)
  refine ⟨b, off, hA, hlt, fun i d hd => hc i d ?_⟩
  have hi := (List.getElem?_eq_some_iff.1 hd).1
  rw [List.length_take] at hi
  rwa [List.getElem?_take_of_lt (by omega)] at hd

/-- one of them -/
theorem Rd.at_ {w : World} {B : Nat} {A : Option Addr} {n i : Nat} {L : List α} (h : Rd k f w B A n L) (hi : i < n) : ∃ b off d, A = some ⟨b, off, none⟩ ∧ b < B ∧ L[i]? = some d ∧ ∀ j, j < k → w.cell? ⟨b, off + i * k + j, none⟩ = (f d)[j]? := by
  obtain ⟨b, off, hA, hlt, hc⟩ := h.2 (by omega)
  have hl : i < L.length := by have := h.1; omega
  exact ⟨b, off, L[i], hA, hlt, List.getElem?_eq_getElem hl, hc i L[i] (List.getElem?_eq_getElem hl)⟩

theorem Rd.nil {w : World} {B : Nat} {A : Option Addr} : Rd k f w B A 0 [] := ⟨rfl, fun h => absurd h (by omega)⟩

/-- a row of the call's own reads so -/
theorem row_rd {w : World} {base n : Nat} {e : TypeId} {v : Value} {L : List α} (hf : ∀ d, (f d).length = k) (hn : L.length = n) (h : w.ownsRow base e k v n (flatR f L)) : ∃ A cap, v = .slice A n cap ∧ n ≤ cap ∧ Rd k f w w.heap.size A n L := by
  subst hn
  rcases Nat.eq_zero_or_pos L.length with h0 | h0
  · rcases h.2 with ⟨rfl, hz⟩ | ⟨g, cap, cur, rfl, _, _, hc, _⟩
    · exact ⟨none, 0, by rw [hz], by omega, rfl, fun h1 => by omega⟩
    · exact ⟨_, _, rfl, hc, rfl, fun h1 => by omega⟩
  · rcases h.2 with ⟨rfl, hz⟩ | ⟨g, cap, cur, rfl, _, _, hc, _⟩
    · omega
    · have hg := h.lt g rfl
      refine ⟨_, _, rfl, hc, rfl, fun _ => ⟨g, 0, rfl, hg.2, fun i d hd j hj => ?_⟩⟩
      rw [Nat.zero_add]
      have hil := (List.getElem?_eq_some_iff.1 hd).1
      have hlt : i * k + j < L.length * k := by
        have : (i + 1) * k ≤ L.length * k := Nat.mul_le_mul_right k hil
        rw [Nat.add_mul] at this
        omega
      have := (h.cellAt (i * k + j) hlt).trans (flatR_at hf hd j hj)
      rw [this]
end

theorem grown_of_below {w w' : World} (h : Below w.heap.size w w') (row : Option Nat) : w.grownBy w' row := ⟨h.os, h.tape, h.output, h.size, fun k hk _ => h.block k hk⟩
theorem row_form {w : World} {base : Nat} {e : TypeId} {size : Nat} {v : Value} {n : Nat} {xs : List Value} (h : w.ownsRow base e size v n xs) : ∃ a cap, v = .slice a n cap := by
  rcases h.2 with ⟨rfl, rfl⟩ | ⟨g, cap, cur, rfl, _⟩
  · exact ⟨none, 0, rfl⟩
  · exact ⟨_, _, rfl⟩
theorem row_on {w w' : World} {base : Nat} {e : TypeId} {size : Nat} {v : Value} {n : Nat} {xs : List Value} (h : w.ownsRow base e size v n xs) (hb : Below w.heap.size w w') : w'.ownsRow base e size v n xs :=
  h.kept (grown_of_below hb none) (by cases hv : v.ownBlock with | none => exact .inl rfl | some g => exact .inr (by simp))
/-- what lay below stands, behind an append to a row of the call's own -/
theorem below_app {B : Nat} {a w w' : World} {base : Nat} {e : TypeId} {size n : Nat} {v : Value} {xs : List Value} (h : Below B a w) (hg : w.grownBy w' v.ownBlock) (hown : w.ownsRow base e size v n xs) (hB : B ≤ base) (hz : B ≤ w.heap.size) : Below B a w' := below_grown h hg hown hB hz

end Go.Proofs.YtaihncbejhnceaaDoor.base

namespace Go.Proofs.YtaihncbejhnceaaDoor.tok
open Go.RowKit Go.Proofs.YtaihncbejhnceaaDoor.base
set_option linter.unusedVariables false

theorem infoT : (Tryd.prog.info? 104).map (fun i => (i.zero, i.size, i.bytes)) = some (some (.agg #[.int .i64 0, .string .empty, .string .empty, .int .i64 0]), 4, 48) := by kernel_rfl
abbrev tcells (t : Tk) : List Value := t.cells.toList
theorem tcells_len (t : Tk) : (tcells t).length = 4 := rfl

def strLen : Value → Nat
  | .string s => s.size
  | _ => 0

/-- what is known of a text that is cut so far -/
def CutRel (s : ByteArray) (w : World) (x v : Value) (wr : World) : Prop :=
  ∃ (X : ByteArray) (acc : List Tk), x = .string X ∧ acc.length + X.size ≤ s.size ∧ cutP s.data.toList = acc ++ cutP X.data.toList ∧ wr.ownsRow w.heap.size 104 4 v acc.length (flatR tcells acc) ∧ Below w.heap.size w wr

set_option maxRecDepth 100000 in
set_option maxHeartbeats 4000000 in
theorem cut_row (s : ByteArray) (hs : s.size < 4294967281) (w : World) (hm : MaxL w) :
    Calls Tryd.prog 32 #[.string s] w fun e w' => (∃ v, e = .returned v ∧ w'.ownsRow w.heap.size 104 4 v (cutP s.data.toList).length (flatR tcells (cutP s.data.toList))) ∧ Below w.heap.size w w' := by
  obtain ⟨i0, hi, hz0, hz1, hz2⟩ := info_parts infoT
  have Hz0 := Lib.hid hz0
  have Hi := Lib.hid hi
  have Hz1 := Lib.hid hz1
  have Hz2 := Lib.hid hz2
  have HM := Lib.hid hm
  clear hz0 hi hz1 hz2 hm
  go_enter Tryd.func32, Tryd.ntmps32
  go_wp2_with fail
  go_loopw [0, 3] (fun x v wr => CutRel s w x v wr) (fun x _ _ => strLen x)
  case atStart => exact ⟨s, [], rfl, by simp, by simp, World.ownsRow_nil _ _ _ _, Below.refl _ _⟩
  case round =>
    obtain ⟨X, acc, rfl, hal, hinv, hrow, hbel⟩ := hrel
    have hmr := Lib.hid (HM.out.on hbel HM.out.lt)
    have hz := hbel.size
    have HBl := Lib.hid hbel
    replace hrow := Lib.hid hrow
    replace hinv := Lib.hid hinv
    clear hbel
    rcases Nat.eq_zero_or_pos X.size with h0 | h0
    · have he := empty_yes h0
      have hX : X.data.toList = [] := List.eq_nil_of_length_eq_zero (by rw [← Lib.size_eq]; exact h0)
      have hfin := Lib.hid (show cutP s.data.toList = acc by rw [hinv.out, hX, cutP_nil, List.append_nil])
      clear hX h0
      go_wp2
      go_ret
      exact ⟨⟨_, rfl, by rw [hfin.out]; exact hrow.out⟩, HBl.out⟩
    · have he := empty_no h0
      have hX : X.data.toList ≠ [] := fun h => by
        rw [Lib.size_eq, h] at h0
        simp at h0
      have hpre := first_pre X.data.toList hX
      have hrw := first_raw X.data.toList hX
      have hcc := cutP_cons hX
      have hrl : (firstP X.data.toList).raw.length ≤ X.size := by
        rw [hrw, List.length_take, ← Lib.size_eq]
        omega
      have hpos := hpre.2
      have cF := fun w hm => first_ct X (by omega) h0 w hm
      generalize firstP X.data.toList = t at *
      have hnext : cutP s.data.toList = (acc ++ [t]) ++ cutP (X.extract (bs t.raw).size X.size).data.toList := by
        rw [Lib.extract_to_end, hinv.out, hcc]
        simp [bs_size]
      have hnl : (X.extract (bs t.raw).size X.size).size + t.raw.length = X.size := by
        simp only [ByteArray.size_extract, bs_size]
        omega
      have hrs : (bs t.raw).size ≤ X.size := hrl
      obtain ⟨tk, tr, tv, tn⟩ := t
      simp only [Tk.cells] at cF
      replace cF := Lib.hid cF
      replace hnext := Lib.hid hnext
      simp only at hpos hrl hnl hrs
      replace hnl := Lib.hid hnl
      clear hX hpre hrw hcc
      obtain ⟨a, cp, rfl⟩ := row_form hrow.out
      go_wp2_with (first
        | (go_at_call 70; (with_reducible refine (cF.out _ hmr.out).mono ?_); rintro e W2 ⟨rfl, hb2⟩; have hrow2 := Lib.hid (row_on hrow.out hb2); have HB2 := Lib.hid (HBl.out.trans (hb2.mono HBl.out.size)); have hz2 := hb2.size; clear hb2)
        | (at_builtin; refine wpList_append_own _ rfl _ _ 67 rfl w.heap.size 104 i0 _ 4 48 Tryd.underlying67 Hi.out Hz0.out Hz1.out Hz2.out rfl (by decide) _ _ _ rfl ((hrow2.out.alloc _).alloc _) ⟨W2.heap.size + 1, 0, none⟩ 1 1 [.int .i64 tk, .string (bs tr), .string (bs tv), .int .i64 tn] rfl rfl ?c1 ?c2 ?c3 ?c4 ?c5 ?_))
      case c1 => exact (Blk.new (w := W2.alloc (.cells #[.int .i64 tk, .string (bs tr), .string (bs tv), .int .i64 tn] 104)) (t := 104) (cs := #[.int .i64 tk, .string (bs tr), .string (bs tv), .int .i64 tn]) (by simp)).news
      case c2 => simp [Value.oneCell']
      case c3 => unfold maxLen; omega
      case c4 => omega
      case c5 => simp; omega
      intro v' w3 hown3 hgrow3 hnil3
      have tB := Lib.hid (show Blk w3 W2.heap.size 104 #[.int .i64 tk, .string (bs tr), .string (bs tv), .int .i64 tn] from
        (hgrow3.block W2.heap.size (by simp; omega) (fun e => by have := (hrow2.out.lt _ e.symm).2; omega)).trans ((Blk.new rfl).alloc _))
      have tC := tB.out.cell
      have hb3 := Lib.hid (below_app ((HB2.out.alloc HB2.out.size _).alloc (by simp; have := HB2.out.size; omega) _) hgrow3 ((hrow2.out.alloc _).alloc _) (Nat.le_refl _) (by simp; have := HB2.out.size; omega))
      replace hown3 := Lib.hid hown3
      clear hgrow3 hnil3
      go_wp2
      go_roundw
      case rel =>
        refine ⟨_, acc ++ [⟨tk, tr, tv, tn⟩], rfl, ?_, hnext.out, ?_, hb3.out⟩
        · have hbz : (bs tr).size = tr.length := rfl
          simp
          omega
        · simpa [flatR_snoc] using hown3.out
      case measure =>
        have hbz : (bs tr).size = tr.length := rfl
        simp [strLen]
        omega

/-- slices of tokens -/
abbrev TRd (w : World) (B : Nat) (A : Option Addr) (n : Nat) (L : List Tk) : Prop := Rd 4 tcells w B A n L

theorem cut_ct (s : ByteArray) (hs : s.size < 4294967281) (w : World) (hm : MaxL w) :
    Calls Tryd.prog 32 #[.string s] w fun e w' => (∃ A cap, e = .returned (.slice A (cutP s.data.toList).length cap) ∧ (cutP s.data.toList).length ≤ cap ∧ TRd w' w'.heap.size A (cutP s.data.toList).length (cutP s.data.toList)) ∧ Below w.heap.size w w' :=
  (cut_row s hs w hm).mono fun e w' ⟨⟨v, he, hr⟩, hb⟩ => by
    obtain ⟨A, c, rfl, hc, hg⟩ := row_rd tcells_len rfl hr
    exact ⟨⟨A, c, he, hc, hg⟩, hb⟩

end Go.Proofs.YtaihncbejhnceaaDoor.tok

namespace Go.Proofs.YtaihncbejhnceaaDoor.tok
open Go.RowKit Go.Proofs.YtaihncbejhnceaaDoor.base
set_option linter.unusedVariables false

def textOf (L : List Tk) : Bs := L.flatMap (·.raw)

theorem cut_raw : ∀ (n : Nat) (l : Bs), l.length ≤ n → textOf (cutP l) = l ∧ ∀ t ∈ cutP l, t.raw ≠ []
  | 0, l, h => by
    obtain rfl := List.eq_nil_of_length_eq_zero (Nat.le_zero.1 h)
    rw [cutP_nil]
    exact ⟨rfl, fun t ht => by cases ht⟩
  | n + 1, l, h => by
    by_cases h0 : l = []
    · subst h0
      rw [cutP_nil]
      exact ⟨rfl, fun t ht => by cases ht⟩
    · rw [cutP_cons h0]
      have hp := (first_pre l h0).2
      obtain ⟨h1, h2⟩ := cut_raw n (l.drop (firstP l).raw.length) (by rw [List.length_drop]; omega)
      refine ⟨?_, fun t ht => ?_⟩
      · show (firstP l).raw ++ textOf _ = l
        rw [h1]
        conv => rhs; rw [← List.take_append_drop (firstP l).raw.length l]
        rw [← first_raw l h0]
      · rcases List.mem_cons.1 ht with rfl | ht
        · exact fun e => by rw [e] at hp; simp at hp
        · exact h2 t ht
theorem cut_text (l : Bs) : textOf (cutP l) = l := (cut_raw _ l (Nat.le_refl _)).1
theorem cut_full (l : Bs) : ∀ t ∈ cutP l, t.raw ≠ [] := (cut_raw _ l (Nat.le_refl _)).2
theorem cut_few (l : Bs) : (cutP l).length ≤ l.length := by
  have key : ∀ L : List Tk, (∀ t ∈ L, t.raw ≠ []) → L.length ≤ (textOf L).length := by
    intro L
    induction L with
    | nil => intro _; simp
    | cons t L ih =>
      intro h
      have h1 := ih (fun x hx => h x (by simp [hx]))
      have h2 : 0 < t.raw.length := List.length_pos_iff.2 (h t (by simp))
      simp only [textOf, List.flatMap_cons, List.length_append, List.length_cons] at h1 ⊢
      omega
  have := key _ (cut_full l)
  rwa [cut_text] at this

theorem text_step {L : List Tk} {k : Nat} {t : Tk} (h : L[k]? = some t) : textOf (L.take (k + 1)) = textOf (L.take k) ++ t.raw := by
  obtain ⟨hl, he⟩ := List.getElem?_eq_some_iff.1 h
  rw [List.take_succ_eq_append_getElem hl, textOf, List.flatMap_append, he]
  simp [textOf]
theorem text_part {L : List Tk} (k : Nat) : (textOf (L.take k)).length ≤ (textOf L).length := by
  conv => rhs; rw [← List.take_append_drop k L]
  simp only [textOf, List.flatMap_append, List.length_append]
  omega

/-- a token of a slice, cell by cell -/
theorem TRd.tok {w : World} {B : Nat} {A : Option Addr} {n k : Nat} {L : List Tk} (h : TRd w B A n L) (hk : k < n) : ∃ b off t, A = some ⟨b, off, none⟩ ∧ b < B ∧ L[k]? = some t ∧
    w.cell? ⟨b, off + k * 4, none⟩ = some (.int .i64 t.k) ∧ w.cell? ⟨b, off + k * 4 + 1, none⟩ = some (.string (bs t.raw)) ∧ w.cell? ⟨b, off + k * 4 + 2, none⟩ = some (.string (bs t.val)) ∧ w.cell? ⟨b, off + k * 4 + 3, none⟩ = some (.int .i64 t.num) := by
  obtain ⟨b, off, t, hA, hlt, hd, hc⟩ := h.at_ hk
  exact ⟨b, off, t, hA, hlt, hd, hc 0 (by decide), hc 1 (by decide), hc 2 (by decide), hc 3 (by decide)⟩

theorem bs_toList (a : Bs) : (bs a).toList = a := ByteArray.toList_mk a
/-- == on two tokens -/
theorem run_eq_tok (a b : Tk) (w : World) : (binOp .eql 104 (.agg #[.int .i64 a.k, .string (bs a.raw), .string (bs a.val), .int .i64 a.num]) (.agg #[.int .i64 b.k, .string (bs b.raw), .string (bs b.val), .int .i64 b.num])).run Tryd.prog w = .ok (.bool (decide (a = b))) w := by
  rw [run_eql_struct, run_equalIn_agg w _ _ _ _ (by kernel_rfl) (by kernel_rfl)]
  simp only [Program.fieldsOf, Tryd.underlying104]
  obtain ⟨k1, r1, v1, n1⟩ := a
  obtain ⟨k2, r2, v2, n2⟩ := b
  simp [Op.eqFields, go_sem, Tryd.underlying9, Tryd.underlying3, bs_toList]
  (repeat' split) <;> simp_all
theorem run_ne_tok (a b : Tk) (w : World) : (binOp .neq 104 (.agg #[.int .i64 a.k, .string (bs a.raw), .string (bs a.val), .int .i64 a.num]) (.agg #[.int .i64 b.k, .string (bs b.raw), .string (bs b.val), .int .i64 b.num])).run Tryd.prog w = .ok (.bool (decide (a ≠ b))) w := by
  rw [run_neq_struct, run_equalIn_agg w _ _ _ _ (by kernel_rfl) (by kernel_rfl)]
  simp only [Program.fieldsOf, Tryd.underlying104]
  obtain ⟨k1, r1, v1, n1⟩ := a
  obtain ⟨k2, r2, v2, n2⟩ := b
  simp [Op.eqFields, go_sem, Tryd.underlying9, Tryd.underlying3, bs_toList]
  (repeat' split) <;> simp_all

theorem nv_lit (n : Nat) (h : n < 256) : nv (UInt8.ofNat n) = n := by simp [nv, UInt8.toNat_ofNat']; omega

theorem cut_fact : cutP [97, 58, 49, 112, 120] = [⟨1, [97], [97], 0⟩, ⟨12, [58], [], 0⟩, ⟨7, [49, 112, 120], [112, 120], 1000⟩] := by
  have f1 : firstP [97, 58, 49, 112, 120] = ⟨1, [97], [97], 0⟩ := by
    have hn : nameP [97, 58, 49, 112, 120] = ([97], 1) := by
      rw [nameP, if_neg (by decide), if_pos (by decide), nameP, if_neg (by decide), if_neg (by decide)]
    have hw : wordP [97, 58, 49, 112, 120] = ⟨1, [97], [97], 0⟩ := by
      have h1 : namedP 1 [97, 58, 49, 112, 120] 0 = ⟨1, [97], [97], 0⟩ := by
        simp only [namedP, List.drop_zero, hn]
        rfl
      simp only [wordP, h1]
      decide
    rw [firstP, if_neg (by decide), if_neg (by decide), if_neg (by decide), if_neg (by decide), if_neg (by decide), if_neg (by decide), if_pos (by decide), hw]
  have f2 : firstP [58, 49, 112, 120] = ⟨12, [58], [], 0⟩ := by
    rw [firstP, if_neg (by decide), if_neg (by decide), if_neg (by decide), if_neg (by decide), if_neg (by decide), if_neg (by decide), if_neg (by decide)]
    rfl
  have f3 : firstP [49, 112, 120] = ⟨7, [49, 112, 120], [112, 120], 1000⟩ := by
    have hn : nameP [112, 120] = ([112, 120], 2) := by
      rw [nameP, if_neg (by decide), if_pos (by decide), nameP, if_pos (by decide)]
    have hnum : numberP [49, 112, 120] = (1000, 1) := by decide
    rw [firstP, if_neg (by decide), if_neg (by decide), if_neg (by decide), if_neg (by decide), if_neg (by decide), hnum, if_pos (by decide)]
    simp only [numTkP]
    rw [if_neg (by decide), if_pos (by decide)]
    simp only [List.drop_succ_cons, List.drop_zero, hn]
    decide
  rw [cutP_cons (by decide), f1, cutP_cons (by decide)]
  simp only [List.length_cons, List.length_nil, List.drop_succ_cons, List.drop_zero, Nat.zero_add]
  rw [f2, cutP_cons (by decide)]
  simp only [List.length_cons, List.length_nil, List.drop_succ_cons, List.drop_zero, Nat.zero_add]
  rw [f3]
  simp [cutP_nil]

end Go.Proofs.YtaihncbejhnceaaDoor.tok
