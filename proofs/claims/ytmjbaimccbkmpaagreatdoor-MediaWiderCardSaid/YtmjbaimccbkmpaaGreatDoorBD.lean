/- Contracts and plain law, a bundle: Tok17 Tok18 Tok19 Rd Tok20 Tok21 Dim0 Dim1 DimL0. -/
import Derived.Maps.AppendAt
import Derived.Laws.OwnMore
import Derived.Laws.StructEq
import Derived.Lib.LaidU8
import Derived.Deep.QuietTactic
import Derived.BigQuiet
import Derived.Lib.ItoaNum
import Derived.Test.YtmjbaimccbkmpaaGreatDoorBC
import Derived.Test.YtmjbaimccbkmpaaGreatDoorBB
import Derived.Test.YtmjbaimccbkmpaaGreatDoorBA

namespace Go.Proofs.YtmjbaimccbkmpaaGreatDoor.tok
open Go.RowKit Go.Proofs.YtmjbaimccbkmpaaGreatDoor.base
set_option linter.unusedVariables false

set_option maxRecDepth 100000 in
set_option maxHeartbeats 8000000 in
theorem one_40 (s : ByteArray) (hs : s.size < 4294967281) (h0 : 0 < s.size) (w : World) (hsp : spaceP s.data.toList = 0) (hn : Lib.hasPrefix s.data.toList [47, 42] = false) (hnp : (numberP s.data.toList).2 = 0) (hbg : beginsP s.data.toList = false) (hx : nv s[0] = 40) :
    Calls Tryz.prog 30 #[.string s] w fun e w' => e = .returned (.agg (firstP s.data.toList).cells) ∧ Below w.heap.size w w' := by
  have hsl := space_len s.data.toList
  rw [← Lib.size_eq] at hsl
  have cT := fun w => trimL_ct s [32, 9, 10, 12, 13] (by decide) (by decide) w
  have hP : firstP s.data.toList = if 0 < spaceP s.data.toList then ⟨8, s.data.toList.take (spaceP s.data.toList), [], 0⟩ else
    if Lib.hasPrefix s.data.toList [47, 42] then noteP s.data.toList else
    if quoteP s.data.toList then textP s.data.toList else
    if hashP s.data.toList then namedP 4 s.data.toList 1 else
    if atP s.data.toList then namedP 3 s.data.toList 1 else
    if 0 < (numberP s.data.toList).2 then numTkP s.data.toList (numberP s.data.toList).1 (numberP s.data.toList).2 else
    if beginsP s.data.toList then wordP s.data.toList else ⟨oneK s.data.toList, s.data.toList.take 1, [], 0⟩ := rfl
  generalize hNP : firstP s.data.toList = NP at *
  clear hNP
  generalize hTT : Lib.trimLeftS s.data.toList [32, 9, 10, 12, 13] = T at *
  clear hTT
  replace cT := Lib.hid cT

  rw [if_neg (by omega : ¬ 0 < spaceP s.data.toList)] at hP
  have hsl1 : (s.size : Int) ≤ (T.length : Int) := by omega
  have hsl3 : (T.length : Int) ≤ (s.size : Int) := by omega
  clear hsl

  have cC : ∀ w, Calls Tryz.prog 53 #[.string s, .string ⟨#[47, 42]⟩] w fun e w' => e = .returned (.tuple #[.string ⟨(Lib.trimPrefix s.data.toList [47, 42]).toArray⟩, .bool false]) ∧ w = w' := fun w => by
    have := Tryz.strings_CutPrefix s (bs [47, 42]) w
    rw [show (bs [47, 42]).data.toList = [47, 42] from rfl, hn] at this
    exact this.mono fun e w' ⟨h1, h2⟩ => ⟨h1, h2.symm⟩

  rw [hn, if_neg (by simp)] at hP
  generalize Lib.trimPrefix s.data.toList [47, 42] = R at *
  replace cC := Lib.hid cC
  replace hn := Lib.hid hn

  have hh : hashP s.data.toList = false := by
    rcases Nat.lt_or_ge 1 s.size with h1 | h1
    · rw [hash_long h1, decide_eq_false (by omega : ¬ nv s[0] = 35)]
      rfl
    · exact hash_short h1
  have ha : atP s.data.toList = false := by rw [at_of h0, decide_eq_false (by omega : ¬ nv s[0] = 64)]; rfl

  have ho : oneK s.data.toList = 10 := by rw [one_of h0]; split <;> (try split) <;> (try split) <;> first | rfl | omega
  rw [quote_of h0, decide_eq_false (by omega : ¬ (nv s[0] = 39 ∨ nv s[0] = 34)), if_neg (by simp), hh, if_neg (by simp), ha, if_neg (by simp), if_neg (by omega), hbg, if_neg (by simp), ho] at hP

  have cN := fun w => number_ct s (by omega) w
  have hnn : (((numberP s.data.toList).2 : Nat) : Int) ≤ 0 := by omega
  generalize numberP s.data.toList = V at *
  obtain ⟨nm, nn⟩ := V
  simp only at hnn cN
  replace cN := Lib.hid cN

  have cB := fun w => begins_ct s (by unfold maxLen; omega) w
  simp only [hbg] at cB
  replace cB := Lib.hid cB
  clear hbg hh ha ho
  have q39 : ((s[0].toNat : Int) == 39) = false := by have h := hx; simp only [nv] at h; rw [beq_eq_false_iff_ne]; omega
  have q34 : ((s[0].toNat : Int) == 34) = false := by have h := hx; simp only [nv] at h; rw [beq_eq_false_iff_ne]; omega
  have q35 : ((s[0].toNat : Int) == 35) = false := by have h := hx; simp only [nv] at h; rw [beq_eq_false_iff_ne]; omega
  have q64 : ((s[0].toNat : Int) == 64) = false := by have h := hx; simp only [nv] at h; rw [beq_eq_false_iff_ne]; omega
  have q40 : ((s[0].toNat : Int) == 40) = true := by have h := hx; simp only [nv] at h; rw [h]; rfl
  have q91 : ((s[0].toNat : Int) == 91) = false := by have h := hx; simp only [nv] at h; rw [beq_eq_false_iff_ne]; omega
  have q123 : ((s[0].toNat : Int) == 123) = false := by have h := hx; simp only [nv] at h; rw [beq_eq_false_iff_ne]; omega
  have q41 : ((s[0].toNat : Int) == 41) = false := by have h := hx; simp only [nv] at h; rw [beq_eq_false_iff_ne]; omega
  have q93 : ((s[0].toNat : Int) == 93) = false := by have h := hx; simp only [nv] at h; rw [beq_eq_false_iff_ne]; omega
  have q125 : ((s[0].toNat : Int) == 125) = false := by have h := hx; simp only [nv] at h; rw [beq_eq_false_iff_ne]; omega
  have q92 : ((s[0].toNat : Int) == 92) = false := by have h := hx; simp only [nv] at h; rw [beq_eq_false_iff_ne]; omega

  replace hx := Lib.hid hx
  replace hP := Lib.hid hP

  go_enter Tryz.func30, Tryz.ntmps30
  go_wp2_with fail
  generalize hW0 : (w.alloc (.cells #[.string s] 9)).alloc (.cells #[.int .i64 0, .string ⟨#[]⟩, .string ⟨#[]⟩, .int .i64 0] 81) = W0
  have HB0 := Lib.hid (show Below w.heap.size w W0 by subst hW0; exact ((Below.refl _ _).alloc (Nat.le_refl _) _).alloc (by simp) _)
  have HZ : w.heap.size + 2 ≤ W0.heap.size := by subst hW0; simp
  have sB0 := Lib.hid (show Blk W0 w.heap.size 9 #[.string s] by subst hW0; exact (Blk.new rfl).alloc _)
  have rB0 := Lib.hid (show Blk W0 (w.heap.size + 1) 81 #[.int .i64 0, .string ⟨#[]⟩, .string ⟨#[]⟩, .int .i64 0] by subst hW0; exact Blk.new (by simp))
  have c0 : W0.cell? ⟨w.heap.size, 0, none⟩ = some (.string s) := sB0.out.cell 0
  clear hW0
  go_region_held3 (fun w' => (∀ b o, b < w.heap.size + 2 → w'.cell? ⟨b, o, none⟩ = W0.cell? ⟨b, o, none⟩) ∧ Below (w.heap.size + 2) W0 w')
    (first | exact As.beg | assumption | exact As.on hb3 (by assumption) HZ | exact As.alloc (by assumption) HZ)
    ((go_at_call 52; (with_reducible refine (cT.out _).mono ?_); rintro e W1 ⟨rfl, hb3⟩; have hS := Lib.hid (As.on (B := w.heap.size + 2) (W0 := W0) hb3 As.beg HZ)))
  all_goals
    rename_i hHeld
    clear hHeld
    have HB1 := Lib.hid (HB0.out.trans (hS.out.2.mono (by omega)))
    have sB := Lib.hid (sB0.out.below hS.out.2 (by omega))
    have rB := Lib.hid (rB0.out.below hS.out.2 (by omega))
    have rC := rB.out.cell
    have rF := rB.out.frozen
    have sF := sB.out.frozen
    have sz1 := rB.out.lt
    clear sB0 rB0 HB0 hS c0 hb3
    have sC := sB.out.cell
    go_wp2_with (first | (go_at_call 53; (with_reducible refine (cC.out _).mono ?_); rintro e w2 ⟨rfl, rfl⟩) | (go_at_call 59; (with_reducible refine (cB.out _).mono ?_); rintro e w2 ⟨rfl, rfl⟩) | (go_at_call 60; (with_reducible refine (cN.out _).mono ?_); rintro e W2 ⟨rfl, hb2⟩; have rB2 := Lib.hid (rB.out.below hb2 rB.out.lt); have HB2 := Lib.hid (HB1.out.trans (hb2.mono HB1.out.size)); have sB2 := Lib.hid (sB.out.below hb2 sB.out.lt); clear rC rF sC sF hb2; have rC := rB2.out.cell; have rF := rB2.out.frozen; have sC := sB2.out.cell; have sF := sB2.out.frozen; have sz2 := rB2.out.lt; have szs := sB2.out.lt) | (go_at_call 51; (with_reducible refine (one_ct 10 s w.heap.size _ hs h0 sB2.out).mono ?_); rintro e W3 ⟨rfl, hb2⟩; have rB3 := Lib.hid (rB2.out.below hb2 rB2.out.lt); have HB3 := Lib.hid (HB2.out.trans (hb2.mono HB2.out.size)); clear rC rF sC sF hb2; have rC := rB3.out.cell; have rF := rB3.out.frozen; have sz3 := rB3.out.lt))

    have e := Blk.cell (Blk.four (rB3.out) (.int .i64 10) (.string (s.extract 0 1)) (.string ⟨#[]⟩) (.int .i64 0))
    refine bodyPost_ret (v := .agg #[.int .i64 10, .string (s.extract 0 1), .string ⟨#[]⟩, .int .i64 0]) (by simp [results, Tryz.results30, go_sem, e]) rfl ⟨?_, ?_⟩
    · rw [hP.out]
      exact ret_tok rfl (take_ex _ _) rfl rfl
    · exact (((HB3.out.setCell (by simp) _).setCell (by simp) _).setCell (by simp) _).setCell (by simp) _

set_option maxRecDepth 100000 in
set_option maxHeartbeats 8000000 in
theorem one_91 (s : ByteArray) (hs : s.size < 4294967281) (h0 : 0 < s.size) (w : World) (hsp : spaceP s.data.toList = 0) (hn : Lib.hasPrefix s.data.toList [47, 42] = false) (hnp : (numberP s.data.toList).2 = 0) (hbg : beginsP s.data.toList = false) (hx : nv s[0] = 91) :
    Calls Tryz.prog 30 #[.string s] w fun e w' => e = .returned (.agg (firstP s.data.toList).cells) ∧ Below w.heap.size w w' := by
  have hsl := space_len s.data.toList
  rw [← Lib.size_eq] at hsl
  have cT := fun w => trimL_ct s [32, 9, 10, 12, 13] (by decide) (by decide) w
  have hP : firstP s.data.toList = if 0 < spaceP s.data.toList then ⟨8, s.data.toList.take (spaceP s.data.toList), [], 0⟩ else
    if Lib.hasPrefix s.data.toList [47, 42] then noteP s.data.toList else
    if quoteP s.data.toList then textP s.data.toList else
    if hashP s.data.toList then namedP 4 s.data.toList 1 else
    if atP s.data.toList then namedP 3 s.data.toList 1 else
    if 0 < (numberP s.data.toList).2 then numTkP s.data.toList (numberP s.data.toList).1 (numberP s.data.toList).2 else
    if beginsP s.data.toList then wordP s.data.toList else ⟨oneK s.data.toList, s.data.toList.take 1, [], 0⟩ := rfl
  generalize hNP : firstP s.data.toList = NP at *
  clear hNP
  generalize hTT : Lib.trimLeftS s.data.toList [32, 9, 10, 12, 13] = T at *
  clear hTT
  replace cT := Lib.hid cT

  rw [if_neg (by omega : ¬ 0 < spaceP s.data.toList)] at hP
  have hsl1 : (s.size : Int) ≤ (T.length : Int) := by omega
  have hsl3 : (T.length : Int) ≤ (s.size : Int) := by omega
  clear hsl

  have cC : ∀ w, Calls Tryz.prog 53 #[.string s, .string ⟨#[47, 42]⟩] w fun e w' => e = .returned (.tuple #[.string ⟨(Lib.trimPrefix s.data.toList [47, 42]).toArray⟩, .bool false]) ∧ w = w' := fun w => by
    have := Tryz.strings_CutPrefix s (bs [47, 42]) w
    rw [show (bs [47, 42]).data.toList = [47, 42] from rfl, hn] at this
    exact this.mono fun e w' ⟨h1, h2⟩ => ⟨h1, h2.symm⟩

  rw [hn, if_neg (by simp)] at hP
  generalize Lib.trimPrefix s.data.toList [47, 42] = R at *
  replace cC := Lib.hid cC
  replace hn := Lib.hid hn

  have hh : hashP s.data.toList = false := by
    rcases Nat.lt_or_ge 1 s.size with h1 | h1
    · rw [hash_long h1, decide_eq_false (by omega : ¬ nv s[0] = 35)]
      rfl
    · exact hash_short h1
  have ha : atP s.data.toList = false := by rw [at_of h0, decide_eq_false (by omega : ¬ nv s[0] = 64)]; rfl

  have ho : oneK s.data.toList = 10 := by rw [one_of h0]; split <;> (try split) <;> (try split) <;> first | rfl | omega
  rw [quote_of h0, decide_eq_false (by omega : ¬ (nv s[0] = 39 ∨ nv s[0] = 34)), if_neg (by simp), hh, if_neg (by simp), ha, if_neg (by simp), if_neg (by omega), hbg, if_neg (by simp), ho] at hP

  have cN := fun w => number_ct s (by omega) w
  have hnn : (((numberP s.data.toList).2 : Nat) : Int) ≤ 0 := by omega
  generalize numberP s.data.toList = V at *
  obtain ⟨nm, nn⟩ := V
  simp only at hnn cN
  replace cN := Lib.hid cN

  have cB := fun w => begins_ct s (by unfold maxLen; omega) w
  simp only [hbg] at cB
  replace cB := Lib.hid cB
  clear hbg hh ha ho
  have q39 : ((s[0].toNat : Int) == 39) = false := by have h := hx; simp only [nv] at h; rw [beq_eq_false_iff_ne]; omega
  have q34 : ((s[0].toNat : Int) == 34) = false := by have h := hx; simp only [nv] at h; rw [beq_eq_false_iff_ne]; omega
  have q35 : ((s[0].toNat : Int) == 35) = false := by have h := hx; simp only [nv] at h; rw [beq_eq_false_iff_ne]; omega
  have q64 : ((s[0].toNat : Int) == 64) = false := by have h := hx; simp only [nv] at h; rw [beq_eq_false_iff_ne]; omega
  have q40 : ((s[0].toNat : Int) == 40) = false := by have h := hx; simp only [nv] at h; rw [beq_eq_false_iff_ne]; omega
  have q91 : ((s[0].toNat : Int) == 91) = true := by have h := hx; simp only [nv] at h; rw [h]; rfl
  have q123 : ((s[0].toNat : Int) == 123) = false := by have h := hx; simp only [nv] at h; rw [beq_eq_false_iff_ne]; omega
  have q41 : ((s[0].toNat : Int) == 41) = false := by have h := hx; simp only [nv] at h; rw [beq_eq_false_iff_ne]; omega
  have q93 : ((s[0].toNat : Int) == 93) = false := by have h := hx; simp only [nv] at h; rw [beq_eq_false_iff_ne]; omega
  have q125 : ((s[0].toNat : Int) == 125) = false := by have h := hx; simp only [nv] at h; rw [beq_eq_false_iff_ne]; omega
  have q92 : ((s[0].toNat : Int) == 92) = false := by have h := hx; simp only [nv] at h; rw [beq_eq_false_iff_ne]; omega

  replace hx := Lib.hid hx
  replace hP := Lib.hid hP

  go_enter Tryz.func30, Tryz.ntmps30
  go_wp2_with fail
  generalize hW0 : (w.alloc (.cells #[.string s] 9)).alloc (.cells #[.int .i64 0, .string ⟨#[]⟩, .string ⟨#[]⟩, .int .i64 0] 81) = W0
  have HB0 := Lib.hid (show Below w.heap.size w W0 by subst hW0; exact ((Below.refl _ _).alloc (Nat.le_refl _) _).alloc (by simp) _)
  have HZ : w.heap.size + 2 ≤ W0.heap.size := by subst hW0; simp
  have sB0 := Lib.hid (show Blk W0 w.heap.size 9 #[.string s] by subst hW0; exact (Blk.new rfl).alloc _)
  have rB0 := Lib.hid (show Blk W0 (w.heap.size + 1) 81 #[.int .i64 0, .string ⟨#[]⟩, .string ⟨#[]⟩, .int .i64 0] by subst hW0; exact Blk.new (by simp))
  have c0 : W0.cell? ⟨w.heap.size, 0, none⟩ = some (.string s) := sB0.out.cell 0
  clear hW0
  go_region_held3 (fun w' => (∀ b o, b < w.heap.size + 2 → w'.cell? ⟨b, o, none⟩ = W0.cell? ⟨b, o, none⟩) ∧ Below (w.heap.size + 2) W0 w')
    (first | exact As.beg | assumption | exact As.on hb3 (by assumption) HZ | exact As.alloc (by assumption) HZ)
    ((go_at_call 52; (with_reducible refine (cT.out _).mono ?_); rintro e W1 ⟨rfl, hb3⟩; have hS := Lib.hid (As.on (B := w.heap.size + 2) (W0 := W0) hb3 As.beg HZ)))
  all_goals
    rename_i hHeld
    clear hHeld
    have HB1 := Lib.hid (HB0.out.trans (hS.out.2.mono (by omega)))
    have sB := Lib.hid (sB0.out.below hS.out.2 (by omega))
    have rB := Lib.hid (rB0.out.below hS.out.2 (by omega))
    have rC := rB.out.cell
    have rF := rB.out.frozen
    have sF := sB.out.frozen
    have sz1 := rB.out.lt
    clear sB0 rB0 HB0 hS c0 hb3
    have sC := sB.out.cell
    go_wp2_with (first | (go_at_call 53; (with_reducible refine (cC.out _).mono ?_); rintro e w2 ⟨rfl, rfl⟩) | (go_at_call 59; (with_reducible refine (cB.out _).mono ?_); rintro e w2 ⟨rfl, rfl⟩) | (go_at_call 60; (with_reducible refine (cN.out _).mono ?_); rintro e W2 ⟨rfl, hb2⟩; have rB2 := Lib.hid (rB.out.below hb2 rB.out.lt); have HB2 := Lib.hid (HB1.out.trans (hb2.mono HB1.out.size)); have sB2 := Lib.hid (sB.out.below hb2 sB.out.lt); clear rC rF sC sF hb2; have rC := rB2.out.cell; have rF := rB2.out.frozen; have sC := sB2.out.cell; have sF := sB2.out.frozen; have sz2 := rB2.out.lt; have szs := sB2.out.lt) | (go_at_call 51; (with_reducible refine (one_ct 10 s w.heap.size _ hs h0 sB2.out).mono ?_); rintro e W3 ⟨rfl, hb2⟩; have rB3 := Lib.hid (rB2.out.below hb2 rB2.out.lt); have HB3 := Lib.hid (HB2.out.trans (hb2.mono HB2.out.size)); clear rC rF sC sF hb2; have rC := rB3.out.cell; have rF := rB3.out.frozen; have sz3 := rB3.out.lt))

    have e := Blk.cell (Blk.four (rB3.out) (.int .i64 10) (.string (s.extract 0 1)) (.string ⟨#[]⟩) (.int .i64 0))
    refine bodyPost_ret (v := .agg #[.int .i64 10, .string (s.extract 0 1), .string ⟨#[]⟩, .int .i64 0]) (by simp [results, Tryz.results30, go_sem, e]) rfl ⟨?_, ?_⟩
    · rw [hP.out]
      exact ret_tok rfl (take_ex _ _) rfl rfl
    · exact (((HB3.out.setCell (by simp) _).setCell (by simp) _).setCell (by simp) _).setCell (by simp) _

set_option maxRecDepth 100000 in
set_option maxHeartbeats 8000000 in
theorem one_123 (s : ByteArray) (hs : s.size < 4294967281) (h0 : 0 < s.size) (w : World) (hsp : spaceP s.data.toList = 0) (hn : Lib.hasPrefix s.data.toList [47, 42] = false) (hnp : (numberP s.data.toList).2 = 0) (hbg : beginsP s.data.toList = false) (hx : nv s[0] = 123) :
    Calls Tryz.prog 30 #[.string s] w fun e w' => e = .returned (.agg (firstP s.data.toList).cells) ∧ Below w.heap.size w w' := by
  have hsl := space_len s.data.toList
  rw [← Lib.size_eq] at hsl
  have cT := fun w => trimL_ct s [32, 9, 10, 12, 13] (by decide) (by decide) w
  have hP : firstP s.data.toList = if 0 < spaceP s.data.toList then ⟨8, s.data.toList.take (spaceP s.data.toList), [], 0⟩ else
    if Lib.hasPrefix s.data.toList [47, 42] then noteP s.data.toList else
    if quoteP s.data.toList then textP s.data.toList else
    if hashP s.data.toList then namedP 4 s.data.toList 1 else
    if atP s.data.toList then namedP 3 s.data.toList 1 else
    if 0 < (numberP s.data.toList).2 then numTkP s.data.toList (numberP s.data.toList).1 (numberP s.data.toList).2 else
    if beginsP s.data.toList then wordP s.data.toList else ⟨oneK s.data.toList, s.data.toList.take 1, [], 0⟩ := rfl
  generalize hNP : firstP s.data.toList = NP at *
  clear hNP
  generalize hTT : Lib.trimLeftS s.data.toList [32, 9, 10, 12, 13] = T at *
  clear hTT
  replace cT := Lib.hid cT

  rw [if_neg (by omega : ¬ 0 < spaceP s.data.toList)] at hP
  have hsl1 : (s.size : Int) ≤ (T.length : Int) := by omega
  have hsl3 : (T.length : Int) ≤ (s.size : Int) := by omega
  clear hsl

  have cC : ∀ w, Calls Tryz.prog 53 #[.string s, .string ⟨#[47, 42]⟩] w fun e w' => e = .returned (.tuple #[.string ⟨(Lib.trimPrefix s.data.toList [47, 42]).toArray⟩, .bool false]) ∧ w = w' := fun w => by
    have := Tryz.strings_CutPrefix s (bs [47, 42]) w
    rw [show (bs [47, 42]).data.toList = [47, 42] from rfl, hn] at this
    exact this.mono fun e w' ⟨h1, h2⟩ => ⟨h1, h2.symm⟩

  rw [hn, if_neg (by simp)] at hP
  generalize Lib.trimPrefix s.data.toList [47, 42] = R at *
  replace cC := Lib.hid cC
  replace hn := Lib.hid hn

  have hh : hashP s.data.toList = false := by
    rcases Nat.lt_or_ge 1 s.size with h1 | h1
    · rw [hash_long h1, decide_eq_false (by omega : ¬ nv s[0] = 35)]
      rfl
    · exact hash_short h1
  have ha : atP s.data.toList = false := by rw [at_of h0, decide_eq_false (by omega : ¬ nv s[0] = 64)]; rfl

  have ho : oneK s.data.toList = 10 := by rw [one_of h0]; split <;> (try split) <;> (try split) <;> first | rfl | omega
  rw [quote_of h0, decide_eq_false (by omega : ¬ (nv s[0] = 39 ∨ nv s[0] = 34)), if_neg (by simp), hh, if_neg (by simp), ha, if_neg (by simp), if_neg (by omega), hbg, if_neg (by simp), ho] at hP

  have cN := fun w => number_ct s (by omega) w
  have hnn : (((numberP s.data.toList).2 : Nat) : Int) ≤ 0 := by omega
  generalize numberP s.data.toList = V at *
  obtain ⟨nm, nn⟩ := V
  simp only at hnn cN
  replace cN := Lib.hid cN

  have cB := fun w => begins_ct s (by unfold maxLen; omega) w
  simp only [hbg] at cB
  replace cB := Lib.hid cB
  clear hbg hh ha ho
  have q39 : ((s[0].toNat : Int) == 39) = false := by have h := hx; simp only [nv] at h; rw [beq_eq_false_iff_ne]; omega
  have q34 : ((s[0].toNat : Int) == 34) = false := by have h := hx; simp only [nv] at h; rw [beq_eq_false_iff_ne]; omega
  have q35 : ((s[0].toNat : Int) == 35) = false := by have h := hx; simp only [nv] at h; rw [beq_eq_false_iff_ne]; omega
  have q64 : ((s[0].toNat : Int) == 64) = false := by have h := hx; simp only [nv] at h; rw [beq_eq_false_iff_ne]; omega
  have q40 : ((s[0].toNat : Int) == 40) = false := by have h := hx; simp only [nv] at h; rw [beq_eq_false_iff_ne]; omega
  have q91 : ((s[0].toNat : Int) == 91) = false := by have h := hx; simp only [nv] at h; rw [beq_eq_false_iff_ne]; omega
  have q123 : ((s[0].toNat : Int) == 123) = true := by have h := hx; simp only [nv] at h; rw [h]; rfl
  have q41 : ((s[0].toNat : Int) == 41) = false := by have h := hx; simp only [nv] at h; rw [beq_eq_false_iff_ne]; omega
  have q93 : ((s[0].toNat : Int) == 93) = false := by have h := hx; simp only [nv] at h; rw [beq_eq_false_iff_ne]; omega
  have q125 : ((s[0].toNat : Int) == 125) = false := by have h := hx; simp only [nv] at h; rw [beq_eq_false_iff_ne]; omega
  have q92 : ((s[0].toNat : Int) == 92) = false := by have h := hx; simp only [nv] at h; rw [beq_eq_false_iff_ne]; omega

  replace hx := Lib.hid hx
  replace hP := Lib.hid hP

  go_enter Tryz.func30, Tryz.ntmps30
  go_wp2_with fail
  generalize hW0 : (w.alloc (.cells #[.string s] 9)).alloc (.cells #[.int .i64 0, .string ⟨#[]⟩, .string ⟨#[]⟩, .int .i64 0] 81) = W0
  have HB0 := Lib.hid (show Below w.heap.size w W0 by subst hW0; exact ((Below.refl _ _).alloc (Nat.le_refl _) _).alloc (by simp) _)
  have HZ : w.heap.size + 2 ≤ W0.heap.size := by subst hW0; simp
  have sB0 := Lib.hid (show Blk W0 w.heap.size 9 #[.string s] by subst hW0; exact (Blk.new rfl).alloc _)
  have rB0 := Lib.hid (show Blk W0 (w.heap.size + 1) 81 #[.int .i64 0, .string ⟨#[]⟩, .string ⟨#[]⟩, .int .i64 0] by subst hW0; exact Blk.new (by simp))
  have c0 : W0.cell? ⟨w.heap.size, 0, none⟩ = some (.string s) := sB0.out.cell 0
  clear hW0
  go_region_held3 (fun w' => (∀ b o, b < w.heap.size + 2 → w'.cell? ⟨b, o, none⟩ = W0.cell? ⟨b, o, none⟩) ∧ Below (w.heap.size + 2) W0 w')
    (first | exact As.beg | assumption | exact As.on hb3 (by assumption) HZ | exact As.alloc (by assumption) HZ)
    ((go_at_call 52; (with_reducible refine (cT.out _).mono ?_); rintro e W1 ⟨rfl, hb3⟩; have hS := Lib.hid (As.on (B := w.heap.size + 2) (W0 := W0) hb3 As.beg HZ)))
  all_goals
    rename_i hHeld
    clear hHeld
    have HB1 := Lib.hid (HB0.out.trans (hS.out.2.mono (by omega)))
    have sB := Lib.hid (sB0.out.below hS.out.2 (by omega))
    have rB := Lib.hid (rB0.out.below hS.out.2 (by omega))
    have rC := rB.out.cell
    have rF := rB.out.frozen
    have sF := sB.out.frozen
    have sz1 := rB.out.lt
    clear sB0 rB0 HB0 hS c0 hb3
    have sC := sB.out.cell
    go_wp2_with (first | (go_at_call 53; (with_reducible refine (cC.out _).mono ?_); rintro e w2 ⟨rfl, rfl⟩) | (go_at_call 59; (with_reducible refine (cB.out _).mono ?_); rintro e w2 ⟨rfl, rfl⟩) | (go_at_call 60; (with_reducible refine (cN.out _).mono ?_); rintro e W2 ⟨rfl, hb2⟩; have rB2 := Lib.hid (rB.out.below hb2 rB.out.lt); have HB2 := Lib.hid (HB1.out.trans (hb2.mono HB1.out.size)); have sB2 := Lib.hid (sB.out.below hb2 sB.out.lt); clear rC rF sC sF hb2; have rC := rB2.out.cell; have rF := rB2.out.frozen; have sC := sB2.out.cell; have sF := sB2.out.frozen; have sz2 := rB2.out.lt; have szs := sB2.out.lt) | (go_at_call 51; (with_reducible refine (one_ct 10 s w.heap.size _ hs h0 sB2.out).mono ?_); rintro e W3 ⟨rfl, hb2⟩; have rB3 := Lib.hid (rB2.out.below hb2 rB2.out.lt); have HB3 := Lib.hid (HB2.out.trans (hb2.mono HB2.out.size)); clear rC rF sC sF hb2; have rC := rB3.out.cell; have rF := rB3.out.frozen; have sz3 := rB3.out.lt))

    have e := Blk.cell (Blk.four (rB3.out) (.int .i64 10) (.string (s.extract 0 1)) (.string ⟨#[]⟩) (.int .i64 0))
    refine bodyPost_ret (v := .agg #[.int .i64 10, .string (s.extract 0 1), .string ⟨#[]⟩, .int .i64 0]) (by simp [results, Tryz.results30, go_sem, e]) rfl ⟨?_, ?_⟩
    · rw [hP.out]
      exact ret_tok rfl (take_ex _ _) rfl rfl
    · exact (((HB3.out.setCell (by simp) _).setCell (by simp) _).setCell (by simp) _).setCell (by simp) _

set_option maxRecDepth 100000 in
set_option maxHeartbeats 8000000 in
theorem one_41 (s : ByteArray) (hs : s.size < 4294967281) (h0 : 0 < s.size) (w : World) (hsp : spaceP s.data.toList = 0) (hn : Lib.hasPrefix s.data.toList [47, 42] = false) (hnp : (numberP s.data.toList).2 = 0) (hbg : beginsP s.data.toList = false) (hx : nv s[0] = 41) :
    Calls Tryz.prog 30 #[.string s] w fun e w' => e = .returned (.agg (firstP s.data.toList).cells) ∧ Below w.heap.size w w' := by
  have hsl := space_len s.data.toList
  rw [← Lib.size_eq] at hsl
  have cT := fun w => trimL_ct s [32, 9, 10, 12, 13] (by decide) (by decide) w
  have hP : firstP s.data.toList = if 0 < spaceP s.data.toList then ⟨8, s.data.toList.take (spaceP s.data.toList), [], 0⟩ else
    if Lib.hasPrefix s.data.toList [47, 42] then noteP s.data.toList else
    if quoteP s.data.toList then textP s.data.toList else
    if hashP s.data.toList then namedP 4 s.data.toList 1 else
    if atP s.data.toList then namedP 3 s.data.toList 1 else
    if 0 < (numberP s.data.toList).2 then numTkP s.data.toList (numberP s.data.toList).1 (numberP s.data.toList).2 else
    if beginsP s.data.toList then wordP s.data.toList else ⟨oneK s.data.toList, s.data.toList.take 1, [], 0⟩ := rfl
  generalize hNP : firstP s.data.toList = NP at *
  clear hNP
  generalize hTT : Lib.trimLeftS s.data.toList [32, 9, 10, 12, 13] = T at *
  clear hTT
  replace cT := Lib.hid cT

  rw [if_neg (by omega : ¬ 0 < spaceP s.data.toList)] at hP
  have hsl1 : (s.size : Int) ≤ (T.length : Int) := by omega
  have hsl3 : (T.length : Int) ≤ (s.size : Int) := by omega
  clear hsl

  have cC : ∀ w, Calls Tryz.prog 53 #[.string s, .string ⟨#[47, 42]⟩] w fun e w' => e = .returned (.tuple #[.string ⟨(Lib.trimPrefix s.data.toList [47, 42]).toArray⟩, .bool false]) ∧ w = w' := fun w => by
    have := Tryz.strings_CutPrefix s (bs [47, 42]) w
    rw [show (bs [47, 42]).data.toList = [47, 42] from rfl, hn] at this
    exact this.mono fun e w' ⟨h1, h2⟩ => ⟨h1, h2.symm⟩

  rw [hn, if_neg (by simp)] at hP
  generalize Lib.trimPrefix s.data.toList [47, 42] = R at *
  replace cC := Lib.hid cC
  replace hn := Lib.hid hn

  have hh : hashP s.data.toList = false := by
    rcases Nat.lt_or_ge 1 s.size with h1 | h1
    · rw [hash_long h1, decide_eq_false (by omega : ¬ nv s[0] = 35)]
      rfl
    · exact hash_short h1
  have ha : atP s.data.toList = false := by rw [at_of h0, decide_eq_false (by omega : ¬ nv s[0] = 64)]; rfl

  have ho : oneK s.data.toList = 11 := by rw [one_of h0]; split <;> (try split) <;> (try split) <;> first | rfl | omega
  rw [quote_of h0, decide_eq_false (by omega : ¬ (nv s[0] = 39 ∨ nv s[0] = 34)), if_neg (by simp), hh, if_neg (by simp), ha, if_neg (by simp), if_neg (by omega), hbg, if_neg (by simp), ho] at hP

  have cN := fun w => number_ct s (by omega) w
  have hnn : (((numberP s.data.toList).2 : Nat) : Int) ≤ 0 := by omega
  generalize numberP s.data.toList = V at *
  obtain ⟨nm, nn⟩ := V
  simp only at hnn cN
  replace cN := Lib.hid cN

  have cB := fun w => begins_ct s (by unfold maxLen; omega) w
  simp only [hbg] at cB
  replace cB := Lib.hid cB
  clear hbg hh ha ho
  have q39 : ((s[0].toNat : Int) == 39) = false := by have h := hx; simp only [nv] at h; rw [beq_eq_false_iff_ne]; omega
  have q34 : ((s[0].toNat : Int) == 34) = false := by have h := hx; simp only [nv] at h; rw [beq_eq_false_iff_ne]; omega
  have q35 : ((s[0].toNat : Int) == 35) = false := by have h := hx; simp only [nv] at h; rw [beq_eq_false_iff_ne]; omega
  have q64 : ((s[0].toNat : Int) == 64) = false := by have h := hx; simp only [nv] at h; rw [beq_eq_false_iff_ne]; omega
  have q40 : ((s[0].toNat : Int) == 40) = false := by have h := hx; simp only [nv] at h; rw [beq_eq_false_iff_ne]; omega
  have q91 : ((s[0].toNat : Int) == 91) = false := by have h := hx; simp only [nv] at h; rw [beq_eq_false_iff_ne]; omega
  have q123 : ((s[0].toNat : Int) == 123) = false := by have h := hx; simp only [nv] at h; rw [beq_eq_false_iff_ne]; omega
  have q41 : ((s[0].toNat : Int) == 41) = true := by have h := hx; simp only [nv] at h; rw [h]; rfl
  have q93 : ((s[0].toNat : Int) == 93) = false := by have h := hx; simp only [nv] at h; rw [beq_eq_false_iff_ne]; omega
  have q125 : ((s[0].toNat : Int) == 125) = false := by have h := hx; simp only [nv] at h; rw [beq_eq_false_iff_ne]; omega
  have q92 : ((s[0].toNat : Int) == 92) = false := by have h := hx; simp only [nv] at h; rw [beq_eq_false_iff_ne]; omega

  replace hx := Lib.hid hx
  replace hP := Lib.hid hP

  go_enter Tryz.func30, Tryz.ntmps30
  go_wp2_with fail
  generalize hW0 : (w.alloc (.cells #[.string s] 9)).alloc (.cells #[.int .i64 0, .string ⟨#[]⟩, .string ⟨#[]⟩, .int .i64 0] 81) = W0
  have HB0 := Lib.hid (show Below w.heap.size w W0 by subst hW0; exact ((Below.refl _ _).alloc (Nat.le_refl _) _).alloc (by simp) _)
  have HZ : w.heap.size + 2 ≤ W0.heap.size := by subst hW0; simp
  have sB0 := Lib.hid (show Blk W0 w.heap.size 9 #[.string s] by subst hW0; exact (Blk.new rfl).alloc _)
  have rB0 := Lib.hid (show Blk W0 (w.heap.size + 1) 81 #[.int .i64 0, .string ⟨#[]⟩, .string ⟨#[]⟩, .int .i64 0] by subst hW0; exact Blk.new (by simp))
  have c0 : W0.cell? ⟨w.heap.size, 0, none⟩ = some (.string s) := sB0.out.cell 0
  clear hW0
  go_region_held3 (fun w' => (∀ b o, b < w.heap.size + 2 → w'.cell? ⟨b, o, none⟩ = W0.cell? ⟨b, o, none⟩) ∧ Below (w.heap.size + 2) W0 w')
    (first | exact As.beg | assumption | exact As.on hb3 (by assumption) HZ | exact As.alloc (by assumption) HZ)
    ((go_at_call 52; (with_reducible refine (cT.out _).mono ?_); rintro e W1 ⟨rfl, hb3⟩; have hS := Lib.hid (As.on (B := w.heap.size + 2) (W0 := W0) hb3 As.beg HZ)))
  all_goals
    rename_i hHeld
    clear hHeld
    have HB1 := Lib.hid (HB0.out.trans (hS.out.2.mono (by omega)))
    have sB := Lib.hid (sB0.out.below hS.out.2 (by omega))
    have rB := Lib.hid (rB0.out.below hS.out.2 (by omega))
    have rC := rB.out.cell
    have rF := rB.out.frozen
    have sF := sB.out.frozen
    have sz1 := rB.out.lt
    clear sB0 rB0 HB0 hS c0 hb3
    have sC := sB.out.cell
    go_wp2_with (first | (go_at_call 53; (with_reducible refine (cC.out _).mono ?_); rintro e w2 ⟨rfl, rfl⟩) | (go_at_call 59; (with_reducible refine (cB.out _).mono ?_); rintro e w2 ⟨rfl, rfl⟩) | (go_at_call 60; (with_reducible refine (cN.out _).mono ?_); rintro e W2 ⟨rfl, hb2⟩; have rB2 := Lib.hid (rB.out.below hb2 rB.out.lt); have HB2 := Lib.hid (HB1.out.trans (hb2.mono HB1.out.size)); have sB2 := Lib.hid (sB.out.below hb2 sB.out.lt); clear rC rF sC sF hb2; have rC := rB2.out.cell; have rF := rB2.out.frozen; have sC := sB2.out.cell; have sF := sB2.out.frozen; have sz2 := rB2.out.lt; have szs := sB2.out.lt) | (go_at_call 51; (with_reducible refine (one_ct 11 s w.heap.size _ hs h0 sB2.out).mono ?_); rintro e W3 ⟨rfl, hb2⟩; have rB3 := Lib.hid (rB2.out.below hb2 rB2.out.lt); have HB3 := Lib.hid (HB2.out.trans (hb2.mono HB2.out.size)); clear rC rF sC sF hb2; have rC := rB3.out.cell; have rF := rB3.out.frozen; have sz3 := rB3.out.lt))

    have e := Blk.cell (Blk.four (rB3.out) (.int .i64 11) (.string (s.extract 0 1)) (.string ⟨#[]⟩) (.int .i64 0))
    refine bodyPost_ret (v := .agg #[.int .i64 11, .string (s.extract 0 1), .string ⟨#[]⟩, .int .i64 0]) (by simp [results, Tryz.results30, go_sem, e]) rfl ⟨?_, ?_⟩
    · rw [hP.out]
      exact ret_tok rfl (take_ex _ _) rfl rfl
    · exact (((HB3.out.setCell (by simp) _).setCell (by simp) _).setCell (by simp) _).setCell (by simp) _

end Go.Proofs.YtmjbaimccbkmpaaGreatDoor.tok

namespace Go.Proofs.YtmjbaimccbkmpaaGreatDoor.tok
open Go.RowKit Go.Proofs.YtmjbaimccbkmpaaGreatDoor.base
set_option linter.unusedVariables false

set_option maxRecDepth 100000 in
set_option maxHeartbeats 8000000 in
theorem one_93 (s : ByteArray) (hs : s.size < 4294967281) (h0 : 0 < s.size) (w : World) (hsp : spaceP s.data.toList = 0) (hn : Lib.hasPrefix s.data.toList [47, 42] = false) (hnp : (numberP s.data.toList).2 = 0) (hbg : beginsP s.data.toList = false) (hx : nv s[0] = 93) :
    Calls Tryz.prog 30 #[.string s] w fun e w' => e = .returned (.agg (firstP s.data.toList).cells) ∧ Below w.heap.size w w' := by
  have hsl := space_len s.data.toList
  rw [← Lib.size_eq] at hsl
  have cT := fun w => trimL_ct s [32, 9, 10, 12, 13] (by decide) (by decide) w
  have hP : firstP s.data.toList = if 0 < spaceP s.data.toList then ⟨8, s.data.toList.take (spaceP s.data.toList), [], 0⟩ else
    if Lib.hasPrefix s.data.toList [47, 42] then noteP s.data.toList else
    if quoteP s.data.toList then textP s.data.toList else
    if hashP s.data.toList then namedP 4 s.data.toList 1 else
    if atP s.data.toList then namedP 3 s.data.toList 1 else
    if 0 < (numberP s.data.toList).2 then numTkP s.data.toList (numberP s.data.toList).1 (numberP s.data.toList).2 else
    if beginsP s.data.toList then wordP s.data.toList else ⟨oneK s.data.toList, s.data.toList.take 1, [], 0⟩ := rfl
  generalize hNP : firstP s.data.toList = NP at *
  clear hNP
  generalize hTT : Lib.trimLeftS s.data.toList [32, 9, 10, 12, 13] = T at *
  clear hTT
  replace cT := Lib.hid cT

  rw [if_neg (by omega : ¬ 0 < spaceP s.data.toList)] at hP
  have hsl1 : (s.size : Int) ≤ (T.length : Int) := by omega
  have hsl3 : (T.length : Int) ≤ (s.size : Int) := by omega
  clear hsl

  have cC : ∀ w, Calls Tryz.prog 53 #[.string s, .string ⟨#[47, 42]⟩] w fun e w' => e = .returned (.tuple #[.string ⟨(Lib.trimPrefix s.data.toList [47, 42]).toArray⟩, .bool false]) ∧ w = w' := fun w => by
    have := Tryz.strings_CutPrefix s (bs [47, 42]) w
    rw [show (bs [47, 42]).data.toList = [47, 42] from rfl, hn] at this
    exact this.mono fun e w' ⟨h1, h2⟩ => ⟨h1, h2.symm⟩

  rw [hn, if_neg (by simp)] at hP
  generalize Lib.trimPrefix s.data.toList [47, 42] = R at *
  replace cC := Lib.hid cC
  replace hn := Lib.hid hn

  have hh : hashP s.data.toList = false := by
    rcases Nat.lt_or_ge 1 s.size with h1 | h1
    · rw [hash_long h1, decide_eq_false (by omega : ¬ nv s[0] = 35)]
      rfl
    · exact hash_short h1
  have ha : atP s.data.toList = false := by rw [at_of h0, decide_eq_false (by omega : ¬ nv s[0] = 64)]; rfl

  have ho : oneK s.data.toList = 11 := by rw [one_of h0]; split <;> (try split) <;> (try split) <;> first | rfl | omega
  rw [quote_of h0, decide_eq_false (by omega : ¬ (nv s[0] = 39 ∨ nv s[0] = 34)), if_neg (by simp), hh, if_neg (by simp), ha, if_neg (by simp), if_neg (by omega), hbg, if_neg (by simp), ho] at hP

  have cN := fun w => number_ct s (by omega) w
  have hnn : (((numberP s.data.toList).2 : Nat) : Int) ≤ 0 := by omega
  generalize numberP s.data.toList = V at *
  obtain ⟨nm, nn⟩ := V
  simp only at hnn cN
  replace cN := Lib.hid cN

  have cB := fun w => begins_ct s (by unfold maxLen; omega) w
  simp only [hbg] at cB
  replace cB := Lib.hid cB
  clear hbg hh ha ho
  have q39 : ((s[0].toNat : Int) == 39) = false := by have h := hx; simp only [nv] at h; rw [beq_eq_false_iff_ne]; omega
  have q34 : ((s[0].toNat : Int) == 34) = false := by have h := hx; simp only [nv] at h; rw [beq_eq_false_iff_ne]; omega
  have q35 : ((s[0].toNat : Int) == 35) = false := by have h := hx; simp only [nv] at h; rw [beq_eq_false_iff_ne]; omega
  have q64 : ((s[0].toNat : Int) == 64) = false := by have h := hx; simp only [nv] at h; rw [beq_eq_false_iff_ne]; omega
  have q40 : ((s[0].toNat : Int) == 40) = false := by have h := hx; simp only [nv] at h; rw [beq_eq_false_iff_ne]; omega
  have q91 : ((s[0].toNat : Int) == 91) = false := by have h := hx; simp only [nv] at h; rw [beq_eq_false_iff_ne]; omega
  have q123 : ((s[0].toNat : Int) == 123) = false := by have h := hx; simp only [nv] at h; rw [beq_eq_false_iff_ne]; omega
  have q41 : ((s[0].toNat : Int) == 41) = false := by have h := hx; simp only [nv] at h; rw [beq_eq_false_iff_ne]; omega
  have q93 : ((s[0].toNat : Int) == 93) = true := by have h := hx; simp only [nv] at h; rw [h]; rfl
  have q125 : ((s[0].toNat : Int) == 125) = false := by have h := hx; simp only [nv] at h; rw [beq_eq_false_iff_ne]; omega
  have q92 : ((s[0].toNat : Int) == 92) = false := by have h := hx; simp only [nv] at h; rw [beq_eq_false_iff_ne]; omega

  replace hx := Lib.hid hx
  replace hP := Lib.hid hP

  go_enter Tryz.func30, Tryz.ntmps30
  go_wp2_with fail
  generalize hW0 : (w.alloc (.cells #[.string s] 9)).alloc (.cells #[.int .i64 0, .string ⟨#[]⟩, .string ⟨#[]⟩, .int .i64 0] 81) = W0
  have HB0 := Lib.hid (show Below w.heap.size w W0 by subst hW0; exact ((Below.refl _ _).alloc (Nat.le_refl _) _).alloc (by simp) _)
  have HZ : w.heap.size + 2 ≤ W0.heap.size := by subst hW0; simp
  have sB0 := Lib.hid (show Blk W0 w.heap.size 9 #[.string s] by subst hW0; exact (Blk.new rfl).alloc _)
  have rB0 := Lib.hid (show Blk W0 (w.heap.size + 1) 81 #[.int .i64 0, .string ⟨#[]⟩, .string ⟨#[]⟩, .int .i64 0] by subst hW0; exact Blk.new (by simp))
  have c0 : W0.cell? ⟨w.heap.size, 0, none⟩ = some (.string s) := sB0.out.cell 0
  clear hW0
  go_region_held3 (fun w' => (∀ b o, b < w.heap.size + 2 → w'.cell? ⟨b, o, none⟩ = W0.cell? ⟨b, o, none⟩) ∧ Below (w.heap.size + 2) W0 w')
    (first | exact As.beg | assumption | exact As.on hb3 (by assumption) HZ | exact As.alloc (by assumption) HZ)
    ((go_at_call 52; (with_reducible refine (cT.out _).mono ?_); rintro e W1 ⟨rfl, hb3⟩; have hS := Lib.hid (As.on (B := w.heap.size + 2) (W0 := W0) hb3 As.beg HZ)))
  all_goals
    rename_i hHeld
    clear hHeld
    have HB1 := Lib.hid (HB0.out.trans (hS.out.2.mono (by omega)))
    have sB := Lib.hid (sB0.out.below hS.out.2 (by omega))
    have rB := Lib.hid (rB0.out.below hS.out.2 (by omega))
    have rC := rB.out.cell
    have rF := rB.out.frozen
    have sF := sB.out.frozen
    have sz1 := rB.out.lt
    clear sB0 rB0 HB0 hS c0 hb3
    have sC := sB.out.cell
    go_wp2_with (first | (go_at_call 53; (with_reducible refine (cC.out _).mono ?_); rintro e w2 ⟨rfl, rfl⟩) | (go_at_call 59; (with_reducible refine (cB.out _).mono ?_); rintro e w2 ⟨rfl, rfl⟩) | (go_at_call 60; (with_reducible refine (cN.out _).mono ?_); rintro e W2 ⟨rfl, hb2⟩; have rB2 := Lib.hid (rB.out.below hb2 rB.out.lt); have HB2 := Lib.hid (HB1.out.trans (hb2.mono HB1.out.size)); have sB2 := Lib.hid (sB.out.below hb2 sB.out.lt); clear rC rF sC sF hb2; have rC := rB2.out.cell; have rF := rB2.out.frozen; have sC := sB2.out.cell; have sF := sB2.out.frozen; have sz2 := rB2.out.lt; have szs := sB2.out.lt) | (go_at_call 51; (with_reducible refine (one_ct 11 s w.heap.size _ hs h0 sB2.out).mono ?_); rintro e W3 ⟨rfl, hb2⟩; have rB3 := Lib.hid (rB2.out.below hb2 rB2.out.lt); have HB3 := Lib.hid (HB2.out.trans (hb2.mono HB2.out.size)); clear rC rF sC sF hb2; have rC := rB3.out.cell; have rF := rB3.out.frozen; have sz3 := rB3.out.lt))

    have e := Blk.cell (Blk.four (rB3.out) (.int .i64 11) (.string (s.extract 0 1)) (.string ⟨#[]⟩) (.int .i64 0))
    refine bodyPost_ret (v := .agg #[.int .i64 11, .string (s.extract 0 1), .string ⟨#[]⟩, .int .i64 0]) (by simp [results, Tryz.results30, go_sem, e]) rfl ⟨?_, ?_⟩
    · rw [hP.out]
      exact ret_tok rfl (take_ex _ _) rfl rfl
    · exact (((HB3.out.setCell (by simp) _).setCell (by simp) _).setCell (by simp) _).setCell (by simp) _

set_option maxRecDepth 100000 in
set_option maxHeartbeats 8000000 in
theorem one_125 (s : ByteArray) (hs : s.size < 4294967281) (h0 : 0 < s.size) (w : World) (hsp : spaceP s.data.toList = 0) (hn : Lib.hasPrefix s.data.toList [47, 42] = false) (hnp : (numberP s.data.toList).2 = 0) (hbg : beginsP s.data.toList = false) (hx : nv s[0] = 125) :
    Calls Tryz.prog 30 #[.string s] w fun e w' => e = .returned (.agg (firstP s.data.toList).cells) ∧ Below w.heap.size w w' := by
  have hsl := space_len s.data.toList
  rw [← Lib.size_eq] at hsl
  have cT := fun w => trimL_ct s [32, 9, 10, 12, 13] (by decide) (by decide) w
  have hP : firstP s.data.toList = if 0 < spaceP s.data.toList then ⟨8, s.data.toList.take (spaceP s.data.toList), [], 0⟩ else
    if Lib.hasPrefix s.data.toList [47, 42] then noteP s.data.toList else
    if quoteP s.data.toList then textP s.data.toList else
    if hashP s.data.toList then namedP 4 s.data.toList 1 else
    if atP s.data.toList then namedP 3 s.data.toList 1 else
    if 0 < (numberP s.data.toList).2 then numTkP s.data.toList (numberP s.data.toList).1 (numberP s.data.toList).2 else
    if beginsP s.data.toList then wordP s.data.toList else ⟨oneK s.data.toList, s.data.toList.take 1, [], 0⟩ := rfl
  generalize hNP : firstP s.data.toList = NP at *
  clear hNP
  generalize hTT : Lib.trimLeftS s.data.toList [32, 9, 10, 12, 13] = T at *
  clear hTT
  replace cT := Lib.hid cT

  rw [if_neg (by omega : ¬ 0 < spaceP s.data.toList)] at hP
  have hsl1 : (s.size : Int) ≤ (T.length : Int) := by omega
  have hsl3 : (T.length : Int) ≤ (s.size : Int) := by omega
  clear hsl

  have cC : ∀ w, Calls Tryz.prog 53 #[.string s, .string ⟨#[47, 42]⟩] w fun e w' => e = .returned (.tuple #[.string ⟨(Lib.trimPrefix s.data.toList [47, 42]).toArray⟩, .bool false]) ∧ w = w' := fun w => by
    have := Tryz.strings_CutPrefix s (bs [47, 42]) w
    rw [show (bs [47, 42]).data.toList = [47, 42] from rfl, hn] at this
    exact this.mono fun e w' ⟨h1, h2⟩ => ⟨h1, h2.symm⟩

  rw [hn, if_neg (by simp)] at hP
  generalize Lib.trimPrefix s.data.toList [47, 42] = R at *
  replace cC := Lib.hid cC
  replace hn := Lib.hid hn

  have hh : hashP s.data.toList = false := by
    rcases Nat.lt_or_ge 1 s.size with h1 | h1
    · rw [hash_long h1, decide_eq_false (by omega : ¬ nv s[0] = 35)]
      rfl
    · exact hash_short h1
  have ha : atP s.data.toList = false := by rw [at_of h0, decide_eq_false (by omega : ¬ nv s[0] = 64)]; rfl

  have ho : oneK s.data.toList = 11 := by rw [one_of h0]; split <;> (try split) <;> (try split) <;> first | rfl | omega
  rw [quote_of h0, decide_eq_false (by omega : ¬ (nv s[0] = 39 ∨ nv s[0] = 34)), if_neg (by simp), hh, if_neg (by simp), ha, if_neg (by simp), if_neg (by omega), hbg, if_neg (by simp), ho] at hP

  have cN := fun w => number_ct s (by omega) w
  have hnn : (((numberP s.data.toList).2 : Nat) : Int) ≤ 0 := by omega
  generalize numberP s.data.toList = V at *
  obtain ⟨nm, nn⟩ := V
  simp only at hnn cN
  replace cN := Lib.hid cN

  have cB := fun w => begins_ct s (by unfold maxLen; omega) w
  simp only [hbg] at cB
  replace cB := Lib.hid cB
  clear hbg hh ha ho
  have q39 : ((s[0].toNat : Int) == 39) = false := by have h := hx; simp only [nv] at h; rw [beq_eq_false_iff_ne]; omega
  have q34 : ((s[0].toNat : Int) == 34) = false := by have h := hx; simp only [nv] at h; rw [beq_eq_false_iff_ne]; omega
  have q35 : ((s[0].toNat : Int) == 35) = false := by have h := hx; simp only [nv] at h; rw [beq_eq_false_iff_ne]; omega
  have q64 : ((s[0].toNat : Int) == 64) = false := by have h := hx; simp only [nv] at h; rw [beq_eq_false_iff_ne]; omega
  have q40 : ((s[0].toNat : Int) == 40) = false := by have h := hx; simp only [nv] at h; rw [beq_eq_false_iff_ne]; omega
  have q91 : ((s[0].toNat : Int) == 91) = false := by have h := hx; simp only [nv] at h; rw [beq_eq_false_iff_ne]; omega
  have q123 : ((s[0].toNat : Int) == 123) = false := by have h := hx; simp only [nv] at h; rw [beq_eq_false_iff_ne]; omega
  have q41 : ((s[0].toNat : Int) == 41) = false := by have h := hx; simp only [nv] at h; rw [beq_eq_false_iff_ne]; omega
  have q93 : ((s[0].toNat : Int) == 93) = false := by have h := hx; simp only [nv] at h; rw [beq_eq_false_iff_ne]; omega
  have q125 : ((s[0].toNat : Int) == 125) = true := by have h := hx; simp only [nv] at h; rw [h]; rfl
  have q92 : ((s[0].toNat : Int) == 92) = false := by have h := hx; simp only [nv] at h; rw [beq_eq_false_iff_ne]; omega

  replace hx := Lib.hid hx
  replace hP := Lib.hid hP

  go_enter Tryz.func30, Tryz.ntmps30
  go_wp2_with fail
  generalize hW0 : (w.alloc (.cells #[.string s] 9)).alloc (.cells #[.int .i64 0, .string ⟨#[]⟩, .string ⟨#[]⟩, .int .i64 0] 81) = W0
  have HB0 := Lib.hid (show Below w.heap.size w W0 by subst hW0; exact ((Below.refl _ _).alloc (Nat.le_refl _) _).alloc (by simp) _)
  have HZ : w.heap.size + 2 ≤ W0.heap.size := by subst hW0; simp
  have sB0 := Lib.hid (show Blk W0 w.heap.size 9 #[.string s] by subst hW0; exact (Blk.new rfl).alloc _)
  have rB0 := Lib.hid (show Blk W0 (w.heap.size + 1) 81 #[.int .i64 0, .string ⟨#[]⟩, .string ⟨#[]⟩, .int .i64 0] by subst hW0; exact Blk.new (by simp))
  have c0 : W0.cell? ⟨w.heap.size, 0, none⟩ = some (.string s) := sB0.out.cell 0
  clear hW0
  go_region_held3 (fun w' => (∀ b o, b < w.heap.size + 2 → w'.cell? ⟨b, o, none⟩ = W0.cell? ⟨b, o, none⟩) ∧ Below (w.heap.size + 2) W0 w')
    (first | exact As.beg | assumption | exact As.on hb3 (by assumption) HZ | exact As.alloc (by assumption) HZ)
    ((go_at_call 52; (with_reducible refine (cT.out _).mono ?_); rintro e W1 ⟨rfl, hb3⟩; have hS := Lib.hid (As.on (B := w.heap.size + 2) (W0 := W0) hb3 As.beg HZ)))
  all_goals
    rename_i hHeld
    clear hHeld
    have HB1 := Lib.hid (HB0.out.trans (hS.out.2.mono (by omega)))
    have sB := Lib.hid (sB0.out.below hS.out.2 (by omega))
    have rB := Lib.hid (rB0.out.below hS.out.2 (by omega))
    have rC := rB.out.cell
    have rF := rB.out.frozen
    have sF := sB.out.frozen
    have sz1 := rB.out.lt
    clear sB0 rB0 HB0 hS c0 hb3
    have sC := sB.out.cell
    go_wp2_with (first | (go_at_call 53; (with_reducible refine (cC.out _).mono ?_); rintro e w2 ⟨rfl, rfl⟩) | (go_at_call 59; (with_reducible refine (cB.out _).mono ?_); rintro e w2 ⟨rfl, rfl⟩) | (go_at_call 60; (with_reducible refine (cN.out _).mono ?_); rintro e W2 ⟨rfl, hb2⟩; have rB2 := Lib.hid (rB.out.below hb2 rB.out.lt); have HB2 := Lib.hid (HB1.out.trans (hb2.mono HB1.out.size)); have sB2 := Lib.hid (sB.out.below hb2 sB.out.lt); clear rC rF sC sF hb2; have rC := rB2.out.cell; have rF := rB2.out.frozen; have sC := sB2.out.cell; have sF := sB2.out.frozen; have sz2 := rB2.out.lt; have szs := sB2.out.lt) | (go_at_call 51; (with_reducible refine (one_ct 11 s w.heap.size _ hs h0 sB2.out).mono ?_); rintro e W3 ⟨rfl, hb2⟩; have rB3 := Lib.hid (rB2.out.below hb2 rB2.out.lt); have HB3 := Lib.hid (HB2.out.trans (hb2.mono HB2.out.size)); clear rC rF sC sF hb2; have rC := rB3.out.cell; have rF := rB3.out.frozen; have sz3 := rB3.out.lt))

    have e := Blk.cell (Blk.four (rB3.out) (.int .i64 11) (.string (s.extract 0 1)) (.string ⟨#[]⟩) (.int .i64 0))
    refine bodyPost_ret (v := .agg #[.int .i64 11, .string (s.extract 0 1), .string ⟨#[]⟩, .int .i64 0]) (by simp [results, Tryz.results30, go_sem, e]) rfl ⟨?_, ?_⟩
    · rw [hP.out]
      exact ret_tok rfl (take_ex _ _) rfl rfl
    · exact (((HB3.out.setCell (by simp) _).setCell (by simp) _).setCell (by simp) _).setCell (by simp) _

set_option maxRecDepth 100000 in
set_option maxHeartbeats 8000000 in
theorem one_92 (s : ByteArray) (hs : s.size < 4294967281) (h0 : 0 < s.size) (w : World) (hsp : spaceP s.data.toList = 0) (hn : Lib.hasPrefix s.data.toList [47, 42] = false) (hnp : (numberP s.data.toList).2 = 0) (hbg : beginsP s.data.toList = false) (hx : nv s[0] = 92) :
    Calls Tryz.prog 30 #[.string s] w fun e w' => e = .returned (.agg (firstP s.data.toList).cells) ∧ Below w.heap.size w w' := by
  have hsl := space_len s.data.toList
  rw [← Lib.size_eq] at hsl
  have cT := fun w => trimL_ct s [32, 9, 10, 12, 13] (by decide) (by decide) w
  have hP : firstP s.data.toList = if 0 < spaceP s.data.toList then ⟨8, s.data.toList.take (spaceP s.data.toList), [], 0⟩ else
    if Lib.hasPrefix s.data.toList [47, 42] then noteP s.data.toList else
    if quoteP s.data.toList then textP s.data.toList else
    if hashP s.data.toList then namedP 4 s.data.toList 1 else
    if atP s.data.toList then namedP 3 s.data.toList 1 else
    if 0 < (numberP s.data.toList).2 then numTkP s.data.toList (numberP s.data.toList).1 (numberP s.data.toList).2 else
    if beginsP s.data.toList then wordP s.data.toList else ⟨oneK s.data.toList, s.data.toList.take 1, [], 0⟩ := rfl
  generalize hNP : firstP s.data.toList = NP at *
  clear hNP
  generalize hTT : Lib.trimLeftS s.data.toList [32, 9, 10, 12, 13] = T at *
  clear hTT
  replace cT := Lib.hid cT

  rw [if_neg (by omega : ¬ 0 < spaceP s.data.toList)] at hP
  have hsl1 : (s.size : Int) ≤ (T.length : Int) := by omega
  have hsl3 : (T.length : Int) ≤ (s.size : Int) := by omega
  clear hsl

  have cC : ∀ w, Calls Tryz.prog 53 #[.string s, .string ⟨#[47, 42]⟩] w fun e w' => e = .returned (.tuple #[.string ⟨(Lib.trimPrefix s.data.toList [47, 42]).toArray⟩, .bool false]) ∧ w = w' := fun w => by
    have := Tryz.strings_CutPrefix s (bs [47, 42]) w
    rw [show (bs [47, 42]).data.toList = [47, 42] from rfl, hn] at this
    exact this.mono fun e w' ⟨h1, h2⟩ => ⟨h1, h2.symm⟩

  rw [hn, if_neg (by simp)] at hP
  generalize Lib.trimPrefix s.data.toList [47, 42] = R at *
  replace cC := Lib.hid cC
  replace hn := Lib.hid hn

  have hh : hashP s.data.toList = false := by
    rcases Nat.lt_or_ge 1 s.size with h1 | h1
    · rw [hash_long h1, decide_eq_false (by omega : ¬ nv s[0] = 35)]
      rfl
    · exact hash_short h1
  have ha : atP s.data.toList = false := by rw [at_of h0, decide_eq_false (by omega : ¬ nv s[0] = 64)]; rfl

  have ho : oneK s.data.toList = 6 := by rw [one_of h0]; split <;> (try split) <;> (try split) <;> first | rfl | omega
  rw [quote_of h0, decide_eq_false (by omega : ¬ (nv s[0] = 39 ∨ nv s[0] = 34)), if_neg (by simp), hh, if_neg (by simp), ha, if_neg (by simp), if_neg (by omega), hbg, if_neg (by simp), ho] at hP

  have cN := fun w => number_ct s (by omega) w
  have hnn : (((numberP s.data.toList).2 : Nat) : Int) ≤ 0 := by omega
  generalize numberP s.data.toList = V at *
  obtain ⟨nm, nn⟩ := V
  simp only at hnn cN
  replace cN := Lib.hid cN

  have cB := fun w => begins_ct s (by unfold maxLen; omega) w
  simp only [hbg] at cB
  replace cB := Lib.hid cB
  clear hbg hh ha ho
  have q39 : ((s[0].toNat : Int) == 39) = false := by have h := hx; simp only [nv] at h; rw [beq_eq_false_iff_ne]; omega
  have q34 : ((s[0].toNat : Int) == 34) = false := by have h := hx; simp only [nv] at h; rw [beq_eq_false_iff_ne]; omega
  have q35 : ((s[0].toNat : Int) == 35) = false := by have h := hx; simp only [nv] at h; rw [beq_eq_false_iff_ne]; omega
  have q64 : ((s[0].toNat : Int) == 64) = false := by have h := hx; simp only [nv] at h; rw [beq_eq_false_iff_ne]; omega
  have q40 : ((s[0].toNat : Int) == 40) = false := by have h := hx; simp only [nv] at h; rw [beq_eq_false_iff_ne]; omega
  have q91 : ((s[0].toNat : Int) == 91) = false := by have h := hx; simp only [nv] at h; rw [beq_eq_false_iff_ne]; omega
  have q123 : ((s[0].toNat : Int) == 123) = false := by have h := hx; simp only [nv] at h; rw [beq_eq_false_iff_ne]; omega
  have q41 : ((s[0].toNat : Int) == 41) = false := by have h := hx; simp only [nv] at h; rw [beq_eq_false_iff_ne]; omega
  have q93 : ((s[0].toNat : Int) == 93) = false := by have h := hx; simp only [nv] at h; rw [beq_eq_false_iff_ne]; omega
  have q125 : ((s[0].toNat : Int) == 125) = false := by have h := hx; simp only [nv] at h; rw [beq_eq_false_iff_ne]; omega
  have q92 : ((s[0].toNat : Int) == 92) = true := by have h := hx; simp only [nv] at h; rw [h]; rfl

  replace hx := Lib.hid hx
  replace hP := Lib.hid hP

  go_enter Tryz.func30, Tryz.ntmps30
  go_wp2_with fail
  generalize hW0 : (w.alloc (.cells #[.string s] 9)).alloc (.cells #[.int .i64 0, .string ⟨#[]⟩, .string ⟨#[]⟩, .int .i64 0] 81) = W0
  have HB0 := Lib.hid (show Below w.heap.size w W0 by subst hW0; exact ((Below.refl _ _).alloc (Nat.le_refl _) _).alloc (by simp) _)
  have HZ : w.heap.size + 2 ≤ W0.heap.size := by subst hW0; simp
  have sB0 := Lib.hid (show Blk W0 w.heap.size 9 #[.string s] by subst hW0; exact (Blk.new rfl).alloc _)
  have rB0 := Lib.hid (show Blk W0 (w.heap.size + 1) 81 #[.int .i64 0, .string ⟨#[]⟩, .string ⟨#[]⟩, .int .i64 0] by subst hW0; exact Blk.new (by simp))
  have c0 : W0.cell? ⟨w.heap.size, 0, none⟩ = some (.string s) := sB0.out.cell 0
  clear hW0
  go_region_held3 (fun w' => (∀ b o, b < w.heap.size + 2 → w'.cell? ⟨b, o, none⟩ = W0.cell? ⟨b, o, none⟩) ∧ Below (w.heap.size + 2) W0 w')
    (first | exact As.beg | assumption | exact As.on hb3 (by assumption) HZ | exact As.alloc (by assumption) HZ)
    ((go_at_call 52; (with_reducible refine (cT.out _).mono ?_); rintro e W1 ⟨rfl, hb3⟩; have hS := Lib.hid (As.on (B := w.heap.size + 2) (W0 := W0) hb3 As.beg HZ)))
  all_goals
    rename_i hHeld
    clear hHeld
    have HB1 := Lib.hid (HB0.out.trans (hS.out.2.mono (by omega)))
    have sB := Lib.hid (sB0.out.below hS.out.2 (by omega))
    have rB := Lib.hid (rB0.out.below hS.out.2 (by omega))
    have rC := rB.out.cell
    have rF := rB.out.frozen
    have sF := sB.out.frozen
    have sz1 := rB.out.lt
    clear sB0 rB0 HB0 hS c0 hb3
    have sC := sB.out.cell
    go_wp2_with (first | (go_at_call 53; (with_reducible refine (cC.out _).mono ?_); rintro e w2 ⟨rfl, rfl⟩) | (go_at_call 59; (with_reducible refine (cB.out _).mono ?_); rintro e w2 ⟨rfl, rfl⟩) | (go_at_call 60; (with_reducible refine (cN.out _).mono ?_); rintro e W2 ⟨rfl, hb2⟩; have rB2 := Lib.hid (rB.out.below hb2 rB.out.lt); have HB2 := Lib.hid (HB1.out.trans (hb2.mono HB1.out.size)); have sB2 := Lib.hid (sB.out.below hb2 sB.out.lt); clear rC rF sC sF hb2; have rC := rB2.out.cell; have rF := rB2.out.frozen; have sC := sB2.out.cell; have sF := sB2.out.frozen; have sz2 := rB2.out.lt; have szs := sB2.out.lt) | (go_at_call 51; (with_reducible refine (one_ct 6 s w.heap.size _ hs h0 sB2.out).mono ?_); rintro e W3 ⟨rfl, hb2⟩; have rB3 := Lib.hid (rB2.out.below hb2 rB2.out.lt); have HB3 := Lib.hid (HB2.out.trans (hb2.mono HB2.out.size)); clear rC rF sC sF hb2; have rC := rB3.out.cell; have rF := rB3.out.frozen; have sz3 := rB3.out.lt))

    have e := Blk.cell (Blk.four (rB3.out) (.int .i64 6) (.string (s.extract 0 1)) (.string ⟨#[]⟩) (.int .i64 0))
    refine bodyPost_ret (v := .agg #[.int .i64 6, .string (s.extract 0 1), .string ⟨#[]⟩, .int .i64 0]) (by simp [results, Tryz.results30, go_sem, e]) rfl ⟨?_, ?_⟩
    · rw [hP.out]
      exact ret_tok rfl (take_ex _ _) rfl rfl
    · exact (((HB3.out.setCell (by simp) _).setCell (by simp) _).setCell (by simp) _).setCell (by simp) _

set_option maxRecDepth 100000 in
set_option maxHeartbeats 8000000 in
theorem one_other (s : ByteArray) (hs : s.size < 4294967281) (h0 : 0 < s.size) (w : World) (hsp : spaceP s.data.toList = 0) (hn : Lib.hasPrefix s.data.toList [47, 42] = false) (hnp : (numberP s.data.toList).2 = 0) (hbg : beginsP s.data.toList = false) (hx : ¬ nv s[0] = 39 ∧ ¬ nv s[0] = 34 ∧ ¬ nv s[0] = 35 ∧ ¬ nv s[0] = 64 ∧ ¬ nv s[0] = 40 ∧ ¬ nv s[0] = 91 ∧ ¬ nv s[0] = 123 ∧ ¬ nv s[0] = 41 ∧ ¬ nv s[0] = 93 ∧ ¬ nv s[0] = 125 ∧ ¬ nv s[0] = 92) :
    Calls Tryz.prog 30 #[.string s] w fun e w' => e = .returned (.agg (firstP s.data.toList).cells) ∧ Below w.heap.size w w' := by
  have hsl := space_len s.data.toList
  rw [← Lib.size_eq] at hsl
  have cT := fun w => trimL_ct s [32, 9, 10, 12, 13] (by decide) (by decide) w
  have hP : firstP s.data.toList = if 0 < spaceP s.data.toList then ⟨8, s.data.toList.take (spaceP s.data.toList), [], 0⟩ else
    if Lib.hasPrefix s.data.toList [47, 42] then noteP s.data.toList else
    if quoteP s.data.toList then textP s.data.toList else
    if hashP s.data.toList then namedP 4 s.data.toList 1 else
    if atP s.data.toList then namedP 3 s.data.toList 1 else
    if 0 < (numberP s.data.toList).2 then numTkP s.data.toList (numberP s.data.toList).1 (numberP s.data.toList).2 else
    if beginsP s.data.toList then wordP s.data.toList else ⟨oneK s.data.toList, s.data.toList.take 1, [], 0⟩ := rfl
  generalize hNP : firstP s.data.toList = NP at *
  clear hNP
  generalize hTT : Lib.trimLeftS s.data.toList [32, 9, 10, 12, 13] = T at *
  clear hTT
  replace cT := Lib.hid cT

  rw [if_neg (by omega : ¬ 0 < spaceP s.data.toList)] at hP
  have hsl1 : (s.size : Int) ≤ (T.length : Int) := by omega
  have hsl3 : (T.length : Int) ≤ (s.size : Int) := by omega
  clear hsl

  have cC : ∀ w, Calls Tryz.prog 53 #[.string s, .string ⟨#[47, 42]⟩] w fun e w' => e = .returned (.tuple #[.string ⟨(Lib.trimPrefix s.data.toList [47, 42]).toArray⟩, .bool false]) ∧ w = w' := fun w => by
    have := Tryz.strings_CutPrefix s (bs [47, 42]) w
    rw [show (bs [47, 42]).data.toList = [47, 42] from rfl, hn] at this
    exact this.mono fun e w' ⟨h1, h2⟩ => ⟨h1, h2.symm⟩

  rw [hn, if_neg (by simp)] at hP
  generalize Lib.trimPrefix s.data.toList [47, 42] = R at *
  replace cC := Lib.hid cC
  replace hn := Lib.hid hn

  have hh : hashP s.data.toList = false := by
    rcases Nat.lt_or_ge 1 s.size with h1 | h1
    · rw [hash_long h1, decide_eq_false (by omega : ¬ nv s[0] = 35)]
      rfl
    · exact hash_short h1
  have ha : atP s.data.toList = false := by rw [at_of h0, decide_eq_false (by omega : ¬ nv s[0] = 64)]; rfl

  have ho : oneK s.data.toList = 12 := by rw [one_of h0]; split <;> (try split) <;> (try split) <;> first | rfl | omega
  rw [quote_of h0, decide_eq_false (by omega : ¬ (nv s[0] = 39 ∨ nv s[0] = 34)), if_neg (by simp), hh, if_neg (by simp), ha, if_neg (by simp), if_neg (by omega), hbg, if_neg (by simp), ho] at hP

  have cN := fun w => number_ct s (by omega) w
  have hnn : (((numberP s.data.toList).2 : Nat) : Int) ≤ 0 := by omega
  generalize numberP s.data.toList = V at *
  obtain ⟨nm, nn⟩ := V
  simp only at hnn cN
  replace cN := Lib.hid cN

  have cB := fun w => begins_ct s (by unfold maxLen; omega) w
  simp only [hbg] at cB
  replace cB := Lib.hid cB
  clear hbg hh ha ho
  have q39 : ((s[0].toNat : Int) == 39) = false := by have h := hx; simp only [nv] at h; rw [beq_eq_false_iff_ne]; omega
  have q34 : ((s[0].toNat : Int) == 34) = false := by have h := hx; simp only [nv] at h; rw [beq_eq_false_iff_ne]; omega
  have q35 : ((s[0].toNat : Int) == 35) = false := by have h := hx; simp only [nv] at h; rw [beq_eq_false_iff_ne]; omega
  have q64 : ((s[0].toNat : Int) == 64) = false := by have h := hx; simp only [nv] at h; rw [beq_eq_false_iff_ne]; omega
  have q40 : ((s[0].toNat : Int) == 40) = false := by have h := hx; simp only [nv] at h; rw [beq_eq_false_iff_ne]; omega
  have q91 : ((s[0].toNat : Int) == 91) = false := by have h := hx; simp only [nv] at h; rw [beq_eq_false_iff_ne]; omega
  have q123 : ((s[0].toNat : Int) == 123) = false := by have h := hx; simp only [nv] at h; rw [beq_eq_false_iff_ne]; omega
  have q41 : ((s[0].toNat : Int) == 41) = false := by have h := hx; simp only [nv] at h; rw [beq_eq_false_iff_ne]; omega
  have q93 : ((s[0].toNat : Int) == 93) = false := by have h := hx; simp only [nv] at h; rw [beq_eq_false_iff_ne]; omega
  have q125 : ((s[0].toNat : Int) == 125) = false := by have h := hx; simp only [nv] at h; rw [beq_eq_false_iff_ne]; omega
  have q92 : ((s[0].toNat : Int) == 92) = false := by have h := hx; simp only [nv] at h; rw [beq_eq_false_iff_ne]; omega

  replace hx := Lib.hid hx
  replace hP := Lib.hid hP

  go_enter Tryz.func30, Tryz.ntmps30
  go_wp2_with fail
  generalize hW0 : (w.alloc (.cells #[.string s] 9)).alloc (.cells #[.int .i64 0, .string ⟨#[]⟩, .string ⟨#[]⟩, .int .i64 0] 81) = W0
  have HB0 := Lib.hid (show Below w.heap.size w W0 by subst hW0; exact ((Below.refl _ _).alloc (Nat.le_refl _) _).alloc (by simp) _)
  have HZ : w.heap.size + 2 ≤ W0.heap.size := by subst hW0; simp
  have sB0 := Lib.hid (show Blk W0 w.heap.size 9 #[.string s] by subst hW0; exact (Blk.new rfl).alloc _)
  have rB0 := Lib.hid (show Blk W0 (w.heap.size + 1) 81 #[.int .i64 0, .string ⟨#[]⟩, .string ⟨#[]⟩, .int .i64 0] by subst hW0; exact Blk.new (by simp))
  have c0 : W0.cell? ⟨w.heap.size, 0, none⟩ = some (.string s) := sB0.out.cell 0
  clear hW0
  go_region_held3 (fun w' => (∀ b o, b < w.heap.size + 2 → w'.cell? ⟨b, o, none⟩ = W0.cell? ⟨b, o, none⟩) ∧ Below (w.heap.size + 2) W0 w')
    (first | exact As.beg | assumption | exact As.on hb3 (by assumption) HZ | exact As.alloc (by assumption) HZ)
    ((go_at_call 52; (with_reducible refine (cT.out _).mono ?_); rintro e W1 ⟨rfl, hb3⟩; have hS := Lib.hid (As.on (B := w.heap.size + 2) (W0 := W0) hb3 As.beg HZ)))
  all_goals
    rename_i hHeld
    clear hHeld
    have HB1 := Lib.hid (HB0.out.trans (hS.out.2.mono (by omega)))
    have sB := Lib.hid (sB0.out.below hS.out.2 (by omega))
    have rB := Lib.hid (rB0.out.below hS.out.2 (by omega))
    have rC := rB.out.cell
    have rF := rB.out.frozen
    have sF := sB.out.frozen
    have sz1 := rB.out.lt
    clear sB0 rB0 HB0 hS c0 hb3
    have sC := sB.out.cell
    go_wp2_with (first | (go_at_call 53; (with_reducible refine (cC.out _).mono ?_); rintro e w2 ⟨rfl, rfl⟩) | (go_at_call 59; (with_reducible refine (cB.out _).mono ?_); rintro e w2 ⟨rfl, rfl⟩) | (go_at_call 60; (with_reducible refine (cN.out _).mono ?_); rintro e W2 ⟨rfl, hb2⟩; have rB2 := Lib.hid (rB.out.below hb2 rB.out.lt); have HB2 := Lib.hid (HB1.out.trans (hb2.mono HB1.out.size)); have sB2 := Lib.hid (sB.out.below hb2 sB.out.lt); clear rC rF sC sF hb2; have rC := rB2.out.cell; have rF := rB2.out.frozen; have sC := sB2.out.cell; have sF := sB2.out.frozen; have sz2 := rB2.out.lt; have szs := sB2.out.lt) | (go_at_call 51; (with_reducible refine (one_ct 12 s w.heap.size _ hs h0 sB2.out).mono ?_); rintro e W3 ⟨rfl, hb2⟩; have rB3 := Lib.hid (rB2.out.below hb2 rB2.out.lt); have HB3 := Lib.hid (HB2.out.trans (hb2.mono HB2.out.size)); clear rC rF sC sF hb2; have rC := rB3.out.cell; have rF := rB3.out.frozen; have sz3 := rB3.out.lt))

    have e := Blk.cell (Blk.four (rB3.out) (.int .i64 12) (.string (s.extract 0 1)) (.string ⟨#[]⟩) (.int .i64 0))
    refine bodyPost_ret (v := .agg #[.int .i64 12, .string (s.extract 0 1), .string ⟨#[]⟩, .int .i64 0]) (by simp [results, Tryz.results30, go_sem, e]) rfl ⟨?_, ?_⟩
    · rw [hP.out]
      exact ret_tok rfl (take_ex _ _) rfl rfl
    · exact (((HB3.out.setCell (by simp) _).setCell (by simp) _).setCell (by simp) _).setCell (by simp) _

end Go.Proofs.YtmjbaimccbkmpaaGreatDoor.tok

namespace Go.Proofs.YtmjbaimccbkmpaaGreatDoor.tok
open Go.RowKit Go.Proofs.YtmjbaimccbkmpaaGreatDoor.base
set_option linter.unusedVariables false

theorem first_ct (s : ByteArray) (hs : s.size < 4294967281) (h0 : 0 < s.size) (w : World) (hm : MaxL w) :
    Calls Tryz.prog 30 #[.string s] w fun e w' => e = .returned (.agg (firstP s.data.toList).cells) ∧ Below w.heap.size w w' := by
  rcases Nat.eq_zero_or_pos (spaceP s.data.toList) with hsp | hsp
  · cases hn : Lib.hasPrefix s.data.toList [47, 42]
    · by_cases hq : nv s[0] = 39 ∨ nv s[0] = 34
      · exact first_quote s hs h0 w hsp hn hq
      · by_cases h35 : nv s[0] = 35
        · rcases Nat.lt_or_ge 1 s.size with h1 | h1
          · cases hsb : signI (nv s[1])
            · cases heb : escP (s.extract 1 s.size).data.toList
              · have hnp : (numberP s.data.toList).2 = 0 := by
                  rcases Nat.eq_zero_or_pos (numberP s.data.toList).2 with h | h
                  · exact h
                  · exact absurd h35 (number_no' (head_of h0) h).1
                have hbg : beginsP s.data.toList = false := by
                  cases h : beginsP s.data.toList
                  · rfl
                  · exact absurd h35 (begins_no' (head_of h0) h).1
                exact one_hash s hs h0 w hsp hn hnp hbg h35 h1 false false hsb heb rfl rfl
              · exact first_hash s hs h0 w hsp hn h35 h1 false true hsb heb rfl
            · exact first_hash s hs h0 w hsp hn h35 h1 true (escP (s.extract 1 s.size).data.toList) hsb rfl rfl
          · have hnp : (numberP s.data.toList).2 = 0 := by
              rcases Nat.eq_zero_or_pos (numberP s.data.toList).2 with h | h
              · exact h
              · exact absurd h35 (number_no' (head_of h0) h).1
            have hbg : beginsP s.data.toList = false := by
              cases h : beginsP s.data.toList
              · rfl
              · exact absurd h35 (begins_no' (head_of h0) h).1
            exact one_hash_short s hs h0 w hsp hn hnp hbg h35 h1
        · rcases Nat.eq_zero_or_pos (numberP s.data.toList).2 with hnp | hnp
          · cases hbg : beginsP s.data.toList
            · by_cases h64 : nv s[0] = 64
              · cases hb1 : beginsP (s.extract 1 s.size).data.toList
                · exact one_at s hs h0 w hsp hn hnp hbg h64 hb1
                · exact first_at s hs h0 w hsp hn h64 hb1
              · by_cases a1 : nv s[0] = 40
                · exact one_40 s hs h0 w hsp hn hnp hbg a1
                by_cases a2 : nv s[0] = 91
                · exact one_91 s hs h0 w hsp hn hnp hbg a2
                by_cases a3 : nv s[0] = 123
                · exact one_123 s hs h0 w hsp hn hnp hbg a3
                by_cases a4 : nv s[0] = 41
                · exact one_41 s hs h0 w hsp hn hnp hbg a4
                by_cases a5 : nv s[0] = 93
                · exact one_93 s hs h0 w hsp hn hnp hbg a5
                by_cases a6 : nv s[0] = 125
                · exact one_125 s hs h0 w hsp hn hnp hbg a6
                by_cases a7 : nv s[0] = 92
                · exact one_92 s hs h0 w hsp hn hnp hbg a7
                exact one_other s hs h0 w hsp hn hnp hbg (by omega)
            · exact first_word s hs h0 w hsp hn hnp hbg _ rfl
          · exact first_number s hs h0 w hsp hn hnp
    · exact first_note s hs h0 w hm hsp hn
  · exact first_space s hs h0 w hsp

/-- each token's raw text is a beginning, and not empty -/
theorem name_pos {l : Bs} (h : beginsP l = true) : 0 < (nameP l).2 := by
  match l, h with
  | [c], h =>
    have hs : signI (nv c) = true := by simp only [beginsP] at h; simp [signI, h]
    rw [nameP, if_pos hs]
    simp
  | c :: d :: r, h =>
    rw [nameP]
    split
    · simp
    · rename_i he
      have hs : signI (nv c) = true := by
        simp only [beginsP] at h
        split at h
        · rename_i h45
          simp [signI, h45]
        · simp only [he, Bool.or_false] at h
          simp [signI, h]
      rw [if_pos hs]
      simp
theorem space_le (l : Bs) : spaceP l ≤ l.length := by have := space_len l; omega
theorem first_pre (l : Bs) (h0 : l ≠ []) : (∃ k, (firstP l).raw = l.take k) ∧ 0 < (firstP l).raw.length := by
  have hl : 0 < l.length := List.length_pos_iff.2 h0
  have key : ∀ k, 0 < k → (∃ m, l.take k = l.take m) ∧ 0 < (l.take k).length := fun k hk => ⟨⟨k, rfl⟩, by rw [List.length_take]; omega⟩
  unfold firstP
  split
  · rename_i h
    exact key _ h
  · split
    · simp only [noteP]
      split
      · exact key _ (by omega)
      · exact ⟨⟨l.length, by rw [List.take_length]⟩, hl⟩
    · split
      · match l, h0 with
        | q :: r, _ =>
          simp only [textP]
          exact key _ (by omega)
      · split
        · exact key _ (by omega)
        · split
          · exact key _ (by omega)
          · split
            · rename_i h
              simp only [numTkP]
              split
              · exact key _ (by omega)
              · split
                · exact key _ (by omega)
                · exact key _ h
            · split
              · rename_i hb
                have hn := name_pos hb
                simp only [wordP]
                split
                · exact key _ (by omega)
                · simp only [namedP, List.drop_zero]
                  exact key _ (by omega)
              · exact key 1 (by omega)
theorem first_raw (l : Bs) (h0 : l ≠ []) : (firstP l).raw = l.take (firstP l).raw.length := by
  obtain ⟨⟨k, hk⟩, _⟩ := first_pre l h0
  rw [hk, List.length_take, ← List.take_take]
  simp

/-- a text, cut -/
def cutP (l : Bs) : List Tk := if h : l = [] then [] else firstP l :: cutP (l.drop (firstP l).raw.length)
termination_by l.length
decreasing_by
  have h1 := (first_pre l h).2
  have h2 : 0 < l.length := List.length_pos_iff.2 h
  rw [List.length_drop]
  omega
theorem cutP_nil : cutP [] = [] := by rw [cutP]; rfl
theorem cutP_cons {l : Bs} (h : l ≠ []) : cutP l = firstP l :: cutP (l.drop (firstP l).raw.length) := by rw [cutP, dif_neg h]

end Go.Proofs.YtmjbaimccbkmpaaGreatDoor.tok

namespace Go.Proofs.YtmjbaimccbkmpaaGreatDoor.base
open Go.RowKit
set_option linter.unusedVariables false

/-- the cells of the entries, one behind the other -/
def flatR {α : Type} (f : α → List Value) (L : List α) : List Value := L.flatMap f

section
variable {α : Type} {k : Nat} {f : α → List Value}
theorem flatR_nil : flatR f [] = [] := rfl
theorem flatR_snoc (L : List α) (d : α) : flatR f (L ++ [d]) = flatR f L ++ f d := by simp [flatR]
theorem flatR_app (L M : List α) : flatR f (L ++ M) = flatR f L ++ flatR f M := by simp [flatR]
theorem flatR_len (hf : ∀ d, (f d).length = k) : ∀ (L : List α), (flatR f L).length = L.length * k
  | [] => by simp [flatR]
  | d :: L => by
    have := flatR_len hf L
    simp only [flatR, List.flatMap_cons, List.length_append, List.length_cons] at this ⊢
    rw [this, hf, Nat.add_mul]
    omega
theorem flatR_at (hf : ∀ d, (f d).length = k) : ∀ {L : List α} {i : Nat} {d : α}, L[i]? = some d → ∀ j, j < k → (flatR f L)[i * k + j]? = (f d)[j]?
  | [], i, d, h, _, _ => by simp at h
  | e :: L, 0, d, h, j, hj => by
    simp at h
    subst h
    simp only [flatR, List.flatMap_cons, Nat.zero_mul, Nat.zero_add]
    rw [List.getElem?_append_left (by rw [hf]; exact hj)]
  | e :: L, i + 1, d, h, j, hj => by
    have ih := flatR_at hf (L := L) (i := i) (d := d) (by simpa using h) j hj
    simp only [flatR, List.flatMap_cons] at ih ⊢
    rw [List.getElem?_append_right (by rw [hf, Nat.add_mul]; omega), hf, show (i + 1) * k + j - k = i * k + j by rw [Nat.add_mul]; omega]
    exact ih

/-- they lie where the slice says, below block B -/
def Rd (k : Nat) (f : α → List Value) (w : World) (B : Nat) (A : Option Addr) (n : Nat) (L : List α) : Prop :=
  L.length = n ∧ (0 < n → ∃ b off, A = some ⟨b, off, none⟩ ∧ b < B ∧ ∀ (i : Nat) (d : α), L[i]? = some d → ∀ j, j < k → w.cell? ⟨b, off + i * k + j, none⟩ = (f d)[j]?)

theorem Rd.keep {w w' : World} {B B' : Nat} {A : Option Addr} {n : Nat} {L : List α} (h : Rd k f w B A n L) (hb : Below B w w') (hB : B ≤ B') : Rd k f w' B' A n L := by
  refine ⟨h.1, fun h0 => ?_⟩
  obtain ⟨b, off, hA, hlt, hc⟩ := h.2 h0
  exact ⟨b, off, hA, by omega, fun i d hd j hj => (hb.cell (p := ⟨b, _, none⟩) hlt).trans (hc i d hd j hj)⟩

theorem Rd.first {w : World} {B : Nat} {A : Option Addr} {n m : Nat} {L : List α} (h : Rd k f w B A n L) (hm : m ≤ n) : Rd k f w B A m (L.take m) := by
  refine ⟨by rw [List.length_take, h.1]; omega, fun h0 => ?_⟩
  obtain ⟨b, off, hA, hlt, hc⟩ := h.2 (by omega)
  refine ⟨b, off, hA, hlt, fun i d hd => hc i d ?_⟩
  have hi := (List.getElem?_eq_some_iff.1 hd).1
  rw [List.length_take] at hi
  rwa [List.getElem?_take_of_lt (by omega)] at hd

/-- one of them -/
theorem Rd.at_ {w : World} {B : Nat} {A : Option Addr} {n i : Nat} {L : List α} (h : Rd k f w B A n L) (hi : i < n) : ∃ b off d, A = some ⟨b, off, none⟩ ∧ b < B ∧ L[i]? = some d ∧ ∀ j, j < k → w.cell? ⟨b, off + i * k + j, none⟩ = (f d)[j]? := by
  obtain ⟨b, off, hA, hlt, hc⟩ := h.2 (by omega)
  have hl : i < L.length := by have := h.1; omega
  exact ⟨b, off, L[i], hA, hlt, List.getElem?_eq_getElem hl, hc i L[i] (List.getElem?_eq_getElem hl)⟩

theorem Rd.nil {w : World} {B : Nat} {A : Option Addr} : Rd k f w B A 0 [] := ⟨rfl, fun h => absurd h (by omega)⟩

/-- a row of the call's own reads so -/
theorem row_rd {w : World} {base n : Nat} {e : TypeId} {v : Value} {L : List α} (hf : ∀ d, (f d).length = k) (hn : L.length = n) (h : w.ownsRow base e k v n (flatR f L)) : ∃ A cap, v = .slice A n cap ∧ n ≤ cap ∧ Rd k f w w.heap.size A n L := by
  subst hn
  rcases Nat.eq_zero_or_pos L.length with h0 | h0
  · rcases h.2 with ⟨rfl, hz⟩ | ⟨g, cap, cur, rfl, _, _, hc, _⟩
    · exact ⟨none, 0, by rw [hz], by omega, rfl, fun h1 => by omega⟩
    · exact ⟨_, _, rfl, hc, rfl, fun h1 => by omega⟩
  · rcases h.2 with ⟨rfl, hz⟩ | ⟨g, cap, cur, rfl, _, _, hc, _⟩
    · omega
    · have hg := h.lt g rfl
      refine ⟨_, _, rfl, hc, rfl, fun _ => ⟨g, 0, rfl, hg.2, fun i d hd j hj => ?_⟩⟩
      rw [Nat.zero_add]
      have hil := (List.getElem?_eq_some_iff.1 hd).1
      have hlt : i * k + j < L.length * k := by
        have : (i + 1) * k ≤ L.length * k := Nat.mul_le_mul_right k hil
        rw [Nat.add_mul] at this
        omega
      have := (h.cellAt (i * k + j) hlt).trans (flatR_at hf hd j hj)
      rw [this]
end

theorem grown_of_below {w w' : World} (h : Below w.heap.size w w') (row : Option Nat) : w.grownBy w' row := ⟨h.os, h.tape, h.output, h.size, fun k hk _ => h.block k hk⟩
theorem row_form {w : World} {base : Nat} {e : TypeId} {size : Nat} {v : Value} {n : Nat} {xs : List Value} (h : w.ownsRow base e size v n xs) : ∃ a cap, v = .slice a n cap := by
  rcases h.2 with ⟨rfl, rfl⟩ | ⟨g, cap, cur, rfl, _⟩
  · exact ⟨none, 0, rfl⟩
  · exact ⟨_, _, rfl⟩
theorem row_on {w w' : World} {base : Nat} {e : TypeId} {size : Nat} {v : Value} {n : Nat} {xs : List Value} (h : w.ownsRow base e size v n xs) (hb : Below w.heap.size w w') : w'.ownsRow base e size v n xs :=
  h.kept (grown_of_below hb none) (by cases hv : v.ownBlock with | none => exact .inl rfl | some g => exact .inr (by simp))
/-- what lay below stands, behind an append to a row of the call's own -/
theorem below_app {B : Nat} {a w w' : World} {base : Nat} {e : TypeId} {size n : Nat} {v : Value} {xs : List Value} (h : Below B a w) (hg : w.grownBy w' v.ownBlock) (hown : w.ownsRow base e size v n xs) (hB : B ≤ base) (hz : B ≤ w.heap.size) : Below B a w' := below_grown h hg hown hB hz

end Go.Proofs.YtmjbaimccbkmpaaGreatDoor.base

namespace Go.Proofs.YtmjbaimccbkmpaaGreatDoor.tok
open Go.RowKit Go.Proofs.YtmjbaimccbkmpaaGreatDoor.base
set_option linter.unusedVariables false

theorem infoT : (Tryz.prog.info? 81).map (fun i => (i.zero, i.size, i.bytes)) = some (some (.agg #[.int .i64 0, .string .empty, .string .empty, .int .i64 0]), 4, 48) := by kernel_rfl
abbrev tcells (t : Tk) : List Value := t.cells.toList
theorem tcells_len (t : Tk) : (tcells t).length = 4 := rfl

def strLen : Value → Nat
  | .string s => s.size
  | _ => 0

/-- what is known of a text that is cut so far -/
def CutRel (s : ByteArray) (w : World) (x v : Value) (wr : World) : Prop :=
  ∃ (X : ByteArray) (acc : List Tk), x = .string X ∧ acc.length + X.size ≤ s.size ∧ cutP s.data.toList = acc ++ cutP X.data.toList ∧ wr.ownsRow w.heap.size 81 4 v acc.length (flatR tcells acc) ∧ Below w.heap.size w wr

set_option maxRecDepth 100000 in
set_option maxHeartbeats 4000000 in
theorem cut_row (s : ByteArray) (hs : s.size < 4294967281) (w : World) (hm : MaxL w) :
    Calls Tryz.prog 18 #[.string s] w fun e w' => (∃ v, e = .returned v ∧ w'.ownsRow w.heap.size 81 4 v (cutP s.data.toList).length (flatR tcells (cutP s.data.toList))) ∧ Below w.heap.size w w' := by
  obtain ⟨i0, hi, hz0, hz1, hz2⟩ := info_parts infoT
  have Hz0 := Lib.hid hz0
  have Hi := Lib.hid hi
  have Hz1 := Lib.hid hz1
  have Hz2 := Lib.hid hz2
  have HM := Lib.hid hm
  clear hz0 hi hz1 hz2 hm
  go_enter Tryz.func18, Tryz.ntmps18
  go_wp2_with fail
  go_loopw [0, 3] (fun x v wr => CutRel s w x v wr) (fun x _ _ => strLen x)
  case atStart => exact ⟨s, [], rfl, by simp, by simp, World.ownsRow_nil _ _ _ _, Below.refl _ _⟩
  case round =>
    obtain ⟨X, acc, rfl, hal, hinv, hrow, hbel⟩ := hrel
    have hmr := Lib.hid (HM.out.on hbel HM.out.lt)
    have hz := hbel.size
    have HBl := Lib.hid hbel
    replace hrow := Lib.hid hrow
    replace hinv := Lib.hid hinv
    clear hbel
    rcases Nat.eq_zero_or_pos X.size with h0 | h0
    · have he := empty_yes h0
      have hX : X.data.toList = [] := List.eq_nil_of_length_eq_zero (by rw [← Lib.size_eq]; exact h0)
      have hfin := Lib.hid (show cutP s.data.toList = acc by rw [hinv.out, hX, cutP_nil, List.append_nil])
      clear hX h0
      go_wp2
      go_ret
      exact ⟨⟨_, rfl, by rw [hfin.out]; exact hrow.out⟩, HBl.out⟩
    · have he := empty_no h0
      have hX : X.data.toList ≠ [] := fun h => by
        rw [Lib.size_eq, h] at h0
        simp at h0
      have hpre := first_pre X.data.toList hX
      have hrw := first_raw X.data.toList hX
      have hcc := cutP_cons hX
      have hrl : (firstP X.data.toList).raw.length ≤ X.size := by
        rw [hrw, List.length_take, ← Lib.size_eq]
        omega
      have hpos := hpre.2
      have cF := fun w hm => first_ct X (by omega) h0 w hm
      generalize firstP X.data.toList = t at *
      have hnext : cutP s.data.toList = (acc ++ [t]) ++ cutP (X.extract (bs t.raw).size X.size).data.toList := by
        rw [Lib.extract_to_end, hinv.out, hcc]
        simp [bs_size]
      have hnl : (X.extract (bs t.raw).size X.size).size + t.raw.length = X.size := by
        simp only [ByteArray.size_extract, bs_size]
        omega
      have hrs : (bs t.raw).size ≤ X.size := hrl
      obtain ⟨tk, tr, tv, tn⟩ := t
      simp only [Tk.cells] at cF
      replace cF := Lib.hid cF
      replace hnext := Lib.hid hnext
      simp only at hpos hrl hnl hrs
      replace hnl := Lib.hid hnl
      clear hX hpre hrw hcc
      obtain ⟨a, cp, rfl⟩ := row_form hrow.out
      go_wp2_with (first
        | (go_at_call 30; (with_reducible refine (cF.out _ hmr.out).mono ?_); rintro e W2 ⟨rfl, hb2⟩; have hrow2 := Lib.hid (row_on hrow.out hb2); have HB2 := Lib.hid (HBl.out.trans (hb2.mono HBl.out.size)); have hz2 := hb2.size; clear hb2)
        | (at_builtin; refine wpList_append_own _ rfl _ _ 63 rfl w.heap.size 81 i0 _ 4 48 Tryz.underlying63 Hi.out Hz0.out Hz1.out Hz2.out rfl (by decide) _ _ _ rfl ((hrow2.out.alloc _).alloc _) ⟨W2.heap.size + 1, 0, none⟩ 1 1 [.int .i64 tk, .string (bs tr), .string (bs tv), .int .i64 tn] rfl rfl ?c1 ?c2 ?c3 ?c4 ?c5 ?_))
      case c1 => exact (Blk.new (w := W2.alloc (.cells #[.int .i64 tk, .string (bs tr), .string (bs tv), .int .i64 tn] 81)) (t := 81) (cs := #[.int .i64 tk, .string (bs tr), .string (bs tv), .int .i64 tn]) (by simp)).news
      case c2 => simp [Value.oneCell']
      case c3 => unfold maxLen; omega
      case c4 => omega
      case c5 => simp; omega
      intro v' w3 hown3 hgrow3 hnil3
      have tB := Lib.hid (show Blk w3 W2.heap.size 81 #[.int .i64 tk, .string (bs tr), .string (bs tv), .int .i64 tn] from
        (hgrow3.block W2.heap.size (by simp; omega) (fun e => by have := (hrow2.out.lt _ e.symm).2; omega)).trans ((Blk.new rfl).alloc _))
      have tC := tB.out.cell
      have hb3 := Lib.hid (below_app ((HB2.out.alloc HB2.out.size _).alloc (by simp; have := HB2.out.size; omega) _) hgrow3 ((hrow2.out.alloc _).alloc _) (Nat.le_refl _) (by simp; have := HB2.out.size; omega))
      replace hown3 := Lib.hid hown3
      clear hgrow3 hnil3
      go_wp2
      go_roundw
      case rel =>
        refine ⟨_, acc ++ [⟨tk, tr, tv, tn⟩], rfl, ?_, hnext.out, ?_, hb3.out⟩
        · have hbz : (bs tr).size = tr.length := rfl
          simp
          omega
        · simpa [flatR_snoc] using hown3.out
      case measure =>
        have hbz : (bs tr).size = tr.length := rfl
        simp [strLen]
        omega

/-- slices of tokens -/
abbrev TRd (w : World) (B : Nat) (A : Option Addr) (n : Nat) (L : List Tk) : Prop := Rd 4 tcells w B A n L

theorem cut_ct (s : ByteArray) (hs : s.size < 4294967281) (w : World) (hm : MaxL w) :
    Calls Tryz.prog 18 #[.string s] w fun e w' => (∃ A cap, e = .returned (.slice A (cutP s.data.toList).length cap) ∧ (cutP s.data.toList).length ≤ cap ∧ TRd w' w'.heap.size A (cutP s.data.toList).length (cutP s.data.toList)) ∧ Below w.heap.size w w' :=
  (cut_row s hs w hm).mono fun e w' ⟨⟨v, he, hr⟩, hb⟩ => by
    obtain ⟨A, c, rfl, hc, hg⟩ := row_rd tcells_len rfl hr
    exact ⟨⟨A, c, he, hc, hg⟩, hb⟩

end Go.Proofs.YtmjbaimccbkmpaaGreatDoor.tok

namespace Go.Proofs.YtmjbaimccbkmpaaGreatDoor.tok
open Go.RowKit Go.Proofs.YtmjbaimccbkmpaaGreatDoor.base
set_option linter.unusedVariables false

def textOf (L : List Tk) : Bs := L.flatMap (·.raw)

theorem cut_raw : ∀ (n : Nat) (l : Bs), l.length ≤ n → textOf (cutP l) = l ∧ ∀ t ∈ cutP l, t.raw ≠ []
  | 0, l, h => by
    obtain rfl := List.eq_nil_of_length_eq_zero (Nat.le_zero.1 h)
    rw [cutP_nil]
    exact ⟨rfl, fun t ht => by cases ht⟩
  | n + 1, l, h => by
    by_cases h0 : l = []
    · subst h0
      rw [cutP_nil]
      exact ⟨rfl, fun t ht => by cases ht⟩
    · rw [cutP_cons h0]
      have hp := (first_pre l h0).2
      obtain ⟨h1, h2⟩ := cut_raw n (l.drop (firstP l).raw.length) (by rw [List.length_drop]; omega)
      refine ⟨?_, fun t ht => ?_⟩
      · show (firstP l).raw ++ textOf _ = l
        rw [h1]
        conv => rhs; rw [← List.take_append_drop (firstP l).raw.length l]
        rw [← first_raw l h0]
      · rcases List.mem_cons.1 ht with rfl | ht
        · exact fun e => by rw [e] at hp; simp at hp
        · exact h2 t ht
theorem cut_text (l : Bs) : textOf (cutP l) = l := (cut_raw _ l (Nat.le_refl _)).1
theorem cut_full (l : Bs) : ∀ t ∈ cutP l, t.raw ≠ [] := (cut_raw _ l (Nat.le_refl _)).2
theorem cut_few (l : Bs) : (cutP l).length ≤ l.length := by
  have key : ∀ L : List Tk, (∀ t ∈ L, t.raw ≠ []) → L.length ≤ (textOf L).length := by
    intro L
    induction L with
    | nil => intro _; simp
    | cons t L ih =>
      intro h
      have h1 := ih (fun x hx => h x (by simp [hx]))
      have h2 : 0 < t.raw.length := List.length_pos_iff.2 (h t (by simp))
      simp only [textOf, List.flatMap_cons, List.length_append, List.length_cons] at h1 ⊢
      omega
  have := key _ (cut_full l)
  rwa [cut_text] at this

theorem text_step {L : List Tk} {k : Nat} {t : Tk} (h : L[k]? = some t) : textOf (L.take (k + 1)) = textOf (L.take k) ++ t.raw := by
  obtain ⟨hl, he⟩ := List.getElem?_eq_some_iff.1 h
  rw [List.take_succ_eq_append_getElem hl, textOf, List.flatMap_append, he]
  simp [textOf]
theorem text_part {L : List Tk} (k : Nat) : (textOf (L.take k)).length ≤ (textOf L).length := by
  conv => rhs; rw [← List.take_append_drop k L]
  simp only [textOf, List.flatMap_append, List.length_append]
  omega

/-- a token of a slice, cell by cell -/
theorem TRd.tok {w : World} {B : Nat} {A : Option Addr} {n k : Nat} {L : List Tk} (h : TRd w B A n L) (hk : k < n) : ∃ b off t, A = some ⟨b, off, none⟩ ∧ b < B ∧ L[k]? = some t ∧
    w.cell? ⟨b, off + k * 4, none⟩ = some (.int .i64 t.k) ∧ w.cell? ⟨b, off + k * 4 + 1, none⟩ = some (.string (bs t.raw)) ∧ w.cell? ⟨b, off + k * 4 + 2, none⟩ = some (.string (bs t.val)) ∧ w.cell? ⟨b, off + k * 4 + 3, none⟩ = some (.int .i64 t.num) := by
  obtain ⟨b, off, t, hA, hlt, hd, hc⟩ := h.at_ hk
  exact ⟨b, off, t, hA, hlt, hd, hc 0 (by decide), hc 1 (by decide), hc 2 (by decide), hc 3 (by decide)⟩

theorem bs_toList (a : Bs) : (bs a).toList = a := ByteArray.toList_mk a
/-- == on two tokens -/
theorem run_eq_tok (a b : Tk) (w : World) : (binOp .eql 81 (.agg #[.int .i64 a.k, .string (bs a.raw), .string (bs a.val), .int .i64 a.num]) (.agg #[.int .i64 b.k, .string (bs b.raw), .string (bs b.val), .int .i64 b.num])).run Tryz.prog w = .ok (.bool (decide (a = b))) w := by
  rw [run_eql_struct, run_equalIn_agg w _ _ _ _ (by kernel_rfl) (by kernel_rfl)]
  simp only [Program.fieldsOf, Tryz.underlying81]
  obtain ⟨k1, r1, v1, n1⟩ := a
  obtain ⟨k2, r2, v2, n2⟩ := b
  simp [Op.eqFields, go_sem, Tryz.underlying9, Tryz.underlying3, bs_toList]
  (repeat' split) <;> simp_all
theorem run_ne_tok (a b : Tk) (w : World) : (binOp .neq 81 (.agg #[.int .i64 a.k, .string (bs a.raw), .string (bs a.val), .int .i64 a.num]) (.agg #[.int .i64 b.k, .string (bs b.raw), .string (bs b.val), .int .i64 b.num])).run Tryz.prog w = .ok (.bool (decide (a ≠ b))) w := by
  rw [run_neq_struct, run_equalIn_agg w _ _ _ _ (by kernel_rfl) (by kernel_rfl)]
  simp only [Program.fieldsOf, Tryz.underlying81]
  obtain ⟨k1, r1, v1, n1⟩ := a
  obtain ⟨k2, r2, v2, n2⟩ := b
  simp [Op.eqFields, go_sem, Tryz.underlying9, Tryz.underlying3, bs_toList]
  (repeat' split) <;> simp_all

theorem nv_lit (n : Nat) (h : n < 256) : nv (UInt8.ofNat n) = n := by simp [nv, UInt8.toNat_ofNat']; omega

theorem cut_fact : cutP [97, 58, 49, 112, 120] = [⟨1, [97], [97], 0⟩, ⟨12, [58], [], 0⟩, ⟨7, [49, 112, 120], [112, 120], 1000⟩] := by
  have f1 : firstP [97, 58, 49, 112, 120] = ⟨1, [97], [97], 0⟩ := by
    have hn : nameP [97, 58, 49, 112, 120] = ([97], 1) := by
      rw [nameP, if_neg (by decide), if_pos (by decide), nameP, if_neg (by decide), if_neg (by decide)]
    have hw : wordP [97, 58, 49, 112, 120] = ⟨1, [97], [97], 0⟩ := by
      have h1 : namedP 1 [97, 58, 49, 112, 120] 0 = ⟨1, [97], [97], 0⟩ := by
        simp only [namedP, List.drop_zero, hn]
        rfl
      simp only [wordP, h1]
      decide
    rw [firstP, if_neg (by decide), if_neg (by decide), if_neg (by decide), if_neg (by decide), if_neg (by decide), if_neg (by decide), if_pos (by decide), hw]
  have f2 : firstP [58, 49, 112, 120] = ⟨12, [58], [], 0⟩ := by
    rw [firstP, if_neg (by decide), if_neg (by decide), if_neg (by decide), if_neg (by decide), if_neg (by decide), if_neg (by decide), if_neg (by decide)]
    rfl
  have f3 : firstP [49, 112, 120] = ⟨7, [49, 112, 120], [112, 120], 1000⟩ := by
    have hn : nameP [112, 120] = ([112, 120], 2) := by
      rw [nameP, if_neg (by decide), if_pos (by decide), nameP, if_pos (by decide)]
    have hnum : numberP [49, 112, 120] = (1000, 1) := by decide
    rw [firstP, if_neg (by decide), if_neg (by decide), if_neg (by decide), if_neg (by decide), if_neg (by decide), hnum, if_pos (by decide)]
    simp only [numTkP]
    rw [if_neg (by decide), if_pos (by decide)]
    simp only [List.drop_succ_cons, List.drop_zero, hn]
    decide
  rw [cutP_cons (by decide), f1, cutP_cons (by decide)]
  simp only [List.length_cons, List.length_nil, List.drop_succ_cons, List.drop_zero, Nat.zero_add]
  rw [f2, cutP_cons (by decide)]
  simp only [List.length_cons, List.length_nil, List.drop_succ_cons, List.drop_zero, Nat.zero_add]
  rw [f3]
  simp [cutP_nil]

end Go.Proofs.YtmjbaimccbkmpaaGreatDoor.tok

namespace Go.Proofs.YtmjbaimccbkmpaaGreatDoor.dim
open Go.RowKit Go.Proofs.YtmjbaimccbkmpaaGreatDoor.base Go.Proofs.YtmjbaimccbkmpaaGreatDoor.tok
set_option linter.unusedVariables false

/-- strings lie there, one behind the other -/
def StrsAt (w : World) (R o : Nat) (L : List Bs) : Prop := R < w.heap.size ∧ ∀ (i : Nat) (s : Bs), L[i]? = some s → w.cell? ⟨R, o + i, none⟩ = some (.string (bs s))

theorem StrsAt.on {w w' : World} {R o : Nat} {L : List Bs} (h : StrsAt w R o L) (hb : Below w.heap.size w w') : StrsAt w' R o L :=
  ⟨Nat.lt_of_lt_of_le h.1 hb.size, fun i s hi => (hb.cell (p := ⟨R, o + i, none⟩) h.1).trans (h.2 i s hi)⟩

def strsData (L : List Bs) : DataW Unit := .slice (L.map fun s => .lit (.string s)) []

theorem strs_of_reads {P : Program} {w : World} {name : String} {g : Nat} {t e : TypeId} {L : List Bs} (hn : P.globalNamed name = some g) (hy : (P.globals[g]?).map (·.type) = some t)
    (ht : P.underlying t = some (.slice e)) (he : P.underlying e = some .string) (hc : P.cellsOf e = 1) (hl : 0 < L.length) (h : Lib.VarReads P w name (strsData L)) :
    ∃ R o cap, w.cell? ⟨g, 0, none⟩ = some (.slice (some ⟨R, o, none⟩) L.length cap) ∧ StrsAt w R o L := by
  obtain ⟨g', t', cs, fuel, p, hg, hty, hvar, hd⟩ := h
  obtain rfl := Option.some.inj (hn.symm.trans hg)
  obtain rfl := Option.some.inj (hy.symm.trans hty)
  rcases DataW.trod_slice ht hd with ⟨_, hx⟩ | ⟨a, len, cap, el, rs, m, rfl, hcs, hx, _, hlc, _, hel, helem, hsp, _⟩
  · cases hx
  have e0 := congrArg Prod.fst hx
  simp only [strsData, DataW.slice.injEq] at e0
  obtain ⟨eE, eR⟩ := e0
  have hlen : len = L.length := by
    have := congrArg List.length eE
    simp at this
    omega
  have hcell : ∀ i s, L[i]? = some s → w.cell? (a.add i) = some (.string (bs s)) := by
    intro i s hs
    have hi := (List.getElem?_eq_some_iff.1 hs).1
    have h1 := helem i (by omega)
    rw [hc] at h1
    obtain ⟨b, hb⟩ : ∃ b, el[i]? = some b := ⟨el[i]'(by omega), List.getElem?_eq_getElem (by omega)⟩
    rw [hb] at h1
    obtain ⟨ce, hce, hte⟩ := Option.bind_eq_some_iff.1 h1
    obtain ⟨z, hz, hbz, _⟩ := DataW.trod_string he hte
    have hb1 : b.1 = .lit (.string s) := by
      have := congrArg (·[i]?) eE
      simp [hb, hs] at this
      exact this.symm
    rw [hbz] at hb1
    simp only [DataW.lit.injEq, Lit.string.injEq] at hb1
    obtain ⟨_, _, hcc⟩ := World.cells?_some hce
    have := hcc 0 (by omega)
    rw [hz] at this
    simp only [Nat.mul_one] at this
    have e1 : (a.add i).add 0 = a.add i := by simp [Addr.add]
    rw [e1] at this
    rw [this, ← hb1]
    cases z
    simp [bs]
  obtain ⟨R, o, sR⟩ := a
  obtain ⟨s0, h0⟩ : ∃ s, L[0]? = some s := ⟨L[0], List.getElem?_eq_getElem hl⟩
  have h00 := hcell 0 s0 h0
  have ez : (Addr.add ⟨R, o, sR⟩ 0) = ⟨R, o, sR⟩ := by simp [Addr.add]
  rw [ez] at h00
  obtain rfl : sR = none := Go.Proofs.cell_spot h00
  refine ⟨R, o, cap, ?_, ?_, fun j s hj => ?_⟩
  · rw [World.var?_cell hg hvar 0, ← Array.getElem?_toList, hcs, hlen]
    rfl
  · rcases Nat.lt_or_ge R w.heap.size with hR | hR
    · exact hR
    · rw [World.cell?, Array.getElem?_eq_none hR] at h00
      cases h00
  · have := hcell j s hj
    rwa [Addr.add_lit] at this


theorem ret_int {a b : Int} (h : a = b) : Ending.returned (.int .i64 a) = .returned (.int .i64 b) := by rw [h]

/-- rounding down -/
theorem quo_1000 (a : Int) : a / 1000 = if a.tmod 1000 < 0 then a.tdiv 1000 - 1 else a.tdiv 1000 := by
  have h1 := Int.mul_tdiv_add_tmod a 1000
  have h5 := Int.tmod_lt_of_pos a (show (0 : Int) < 1000 by decide)
  have h6 := Int.lt_tmod_of_pos a (show (0 : Int) < 1000 by decide)
  split <;> omega

theorem quo_100000 (a : Int) : a / 100000 = if a.tmod 100000 < 0 then a.tdiv 100000 - 1 else a.tdiv 100000 := by
  have h1 := Int.mul_tdiv_add_tmod a 100000
  have h5 := Int.tmod_lt_of_pos a (show (0 : Int) < 100000 by decide)
  have h6 := Int.lt_tmod_of_pos a (show (0 : Int) < 100000 by decide)
  split <;> omega

end Go.Proofs.YtmjbaimccbkmpaaGreatDoor.dim

namespace Go.Proofs.YtmjbaimccbkmpaaGreatDoor.dim
open Go.RowKit Go.Proofs.YtmjbaimccbkmpaaGreatDoor.base Go.Proofs.YtmjbaimccbkmpaaGreatDoor.tok
set_option linter.unusedVariables false

def unitsL : List Bs := [[], [112, 120], [101, 109], [114, 101, 109], [118, 119], [118, 104], [37]]

theorem one_tok {w : World} {B : Nat} {A : Option Addr} {t : Tk} (h : TRd w B A 1 [t]) : ∃ b off, A = some ⟨b, off, none⟩ ∧ b < B ∧
    w.cell? ⟨b, off, none⟩ = some (.int .i64 t.k) ∧ w.cell? ⟨b, off + 1, none⟩ = some (.string (bs t.raw)) ∧ w.cell? ⟨b, off + 2, none⟩ = some (.string (bs t.val)) ∧ w.cell? ⟨b, off + 3, none⟩ = some (.int .i64 t.num) := by
  obtain ⟨b, off, u, hA, hlt, hd, e0, e1, e2, e3⟩ := TRd.tok h (show 0 < 1 by decide)
  obtain rfl : t = u := by simpa using hd
  simp only [Nat.zero_mul, Nat.add_zero] at e0 e1 e2 e3
  exact ⟨b, off, hA, hlt, e0, e1, e2, e3⟩

theorem cut_half : cutP [49, 46, 53, 48, 101, 109] = [⟨7, [49, 46, 53, 48, 101, 109], [101, 109], 1500⟩] := by
  have f3 : firstP [49, 46, 53, 48, 101, 109] = ⟨7, [49, 46, 53, 48, 101, 109], [101, 109], 1500⟩ := by
    have hn : nameP [101, 109] = ([101, 109], 2) := by
      rw [nameP, if_neg (by decide), if_pos (by decide), nameP, if_pos (by decide)]
    have hnum : numberP [49, 46, 53, 48, 101, 109] = (1500, 4) := by decide
    rw [firstP, if_neg (by decide), if_neg (by decide), if_neg (by decide), if_neg (by decide), if_neg (by decide), hnum, if_pos (by decide)]
    simp only [numTkP]
    rw [if_neg (by decide), if_pos (by decide)]
    simp only [List.drop_succ_cons, List.drop_zero, hn]
    decide
  rw [cutP_cons (by decide), f3]
  simp [cutP_nil]

theorem run_eq_dim (a b : Int × Bs) (w : World) : (binOp .eql 38 (.agg #[.int .i64 a.1, .string (bs a.2)]) (.agg #[.int .i64 b.1, .string (bs b.2)])).run Tryz.prog w = .ok (.bool (decide (a = b))) w := by
  rw [run_eql_struct, run_equalIn_agg w _ _ _ _ (by kernel_rfl) (by kernel_rfl)]
  simp only [Program.fieldsOf, Tryz.underlying38]
  obtain ⟨k1, r1⟩ := a
  obtain ⟨k2, r2⟩ := b
  simp [Op.eqFields, go_sem, Tryz.underlying9, Tryz.underlying3, bs_toList]
  (repeat' split) <;> simp_all

end Go.Proofs.YtmjbaimccbkmpaaGreatDoor.dim

namespace Go.Proofs.YtmjbaimccbkmpaaGreatDoor.dim
open Go.RowKit Go.Proofs.YtmjbaimccbkmpaaGreatDoor.base Go.Proofs.YtmjbaimccbkmpaaGreatDoor.tok
set_option linter.unusedVariables false

theorem nv_dig {k : Nat} (h : k < 10) : nv (UInt8.ofNat (48 + k)) = 48 + (k : Int) := by
  simp only [nv, UInt8.toNat_ofNat']
  omega
theorem dig_dig {k : Nat} (h : k < 10) : digI (nv (UInt8.ofNat (48 + k))) = true := by
  rw [nv_dig h]
  simp [digI]
  omega
theorem addD_dig {n : Int} {k : Nat} (h : k < 10) (hn : 10 * n + k ≤ 1000000000) : addD n (UInt8.ofNat (48 + k)) = 10 * n + k := by
  unfold addD
  rw [nv_dig h]
  omega

theorem dec_step {u : Nat} (h : ¬ u < 10) : Lib.decDigits u = Lib.decDigits (u / 10) ++ [UInt8.ofNat (48 + u % 10)] := by
  rw [Lib.decDigits, dif_neg h]

theorem dec_fold : ∀ (u : Nat), u ≤ 1000000000 → (Lib.decDigits u).foldl addD 0 = (u : Int) := by
  intro u
  induction u using Nat.strongRecOn with
  | _ u ih =>
    intro hu
    by_cases h : u < 10
    · rw [Lib.decDigits_one h]
      simp only [List.foldl_cons, List.foldl_nil]
      rw [addD_dig h (by omega)]
      omega
    · rw [dec_step h, List.foldl_append, ih (u / 10) (by omega) (by omega)]
      simp only [List.foldl_cons, List.foldl_nil]
      rw [addD_dig (by omega) (by omega)]
      omega
theorem dec_digs : ∀ (u : Nat), ∀ c ∈ Lib.decDigits u, digI (nv c) = true := by
  intro u
  induction u using Nat.strongRecOn with
  | _ u ih =>
    by_cases h : u < 10
    · rw [Lib.decDigits_one h]
      intro c hc
      obtain rfl : c = UInt8.ofNat (48 + u) := by simpa using hc
      exact dig_dig h
    · rw [dec_step h]
      intro c hc
      rcases List.mem_append.1 hc with hc | hc
      · exact ih (u / 10) (by omega) c hc
      · obtain rfl : c = UInt8.ofNat (48 + u % 10) := by simpa using hc
        exact dig_dig (by omega)
theorem dec_ne (u : Nat) : Lib.decDigits u ≠ [] := by
  by_cases h : u < 10
  · rw [Lib.decDigits_one h]; simp
  · rw [dec_step h]; simp

/-- three digits behind a one -/
theorem dec_three {r : Nat} (h : r < 1000) : Lib.decDigits (1000 + r) = 49 :: [UInt8.ofNat (48 + r / 100), UInt8.ofNat (48 + r / 10 % 10), UInt8.ofNat (48 + r % 10)] := by
  rw [dec_step (by omega), dec_step (u := (1000 + r) / 10) (by omega), dec_step (u := (1000 + r) / 10 / 10) (by omega), Lib.decDigits_one (i := (1000 + r) / 10 / 10 / 10) (by omega)]
  have e1 : (1000 + r) / 10 / 10 / 10 = 1 := by omega
  have e2 : (1000 + r) / 10 / 10 % 10 = r / 100 := by omega
  have e3 : (1000 + r) / 10 % 10 = r / 10 % 10 := by omega
  have e4 : (1000 + r) % 10 = r % 10 := by omega
  rw [e1, e2, e3, e4]
  rfl

/-- how many digits begin what begins with digits -/
theorem digits_app (d r : Bs) (hd : ∀ c ∈ d, digI (nv c) = true) (hr : ∀ c, r.head? = some c → digI (nv c) = false) : digitsP (d ++ r) = d.length := by
  unfold digitsP
  induction d with
  | nil =>
    cases r with
    | nil => rfl
    | cons c r => simp [hr c rfl]
  | cons c d ih =>
    simp only [List.cons_append, List.takeWhile_cons, hd c (by simp), if_true, List.length_cons]
    rw [ih (fun x hx => hd x (by simp [hx]))]

end Go.Proofs.YtmjbaimccbkmpaaGreatDoor.dim
