/- Contracts and plain law, a bundle: Tok16 Tok17 Tok18 Tok19. -/
import Derived.Test.YtmjbaimccbkmpaaDoorBC

namespace Go.Proofs.YtmjbaimccbkmpaaDoor.tok
open Go.RowKit Go.Proofs.YtmjbaimccbkmpaaDoor.base
set_option linter.unusedVariables false

set_option maxRecDepth 100000 in
set_option maxHeartbeats 8000000 in
theorem one_hash_short (s : ByteArray) (hs : s.size < 4294967281) (h0 : 0 < s.size) (w : World) (hsp : spaceP s.data.toList = 0) (hn : Lib.hasPrefix s.data.toList [47, 42] = false) (hnp : (numberP s.data.toList).2 = 0) (hbg : beginsP s.data.toList = false) (hx : nv s[0] = 35) (h1 : s.size ≤ 1) :
    Calls Tryd.prog 31 #[.string s] w fun e w' => e = .returned (.agg (firstP s.data.toList).cells) ∧ Below w.heap.size w w' := by
  have hsl := space_len s.data.toList
  rw [← Lib.size_eq] at hsl
  have cT := fun w => trimL_ct s [32, 9, 10, 12, 13] (by decide) (by decide) w
  have hP : firstP s.data.toList = if 0 < spaceP s.data.toList then ⟨8, s.data.toList.take (spaceP s.data.toList), [], 0⟩ else
    if Lib.hasPrefix s.data.toList [47, 42] then noteP s.data.toList else
    if quoteP s.data.toList then textP s.data.toList else
    if hashP s.data.toList then namedP 4 s.data.toList 1 else
    if atP s.data.toList then namedP 3 s.data.toList 1 else
    if 0 < (numberP s.data.toList).2 then numTkP s.data.toList (numberP s.data.toList).1 (numberP s.data.toList).2 else
    if beginsP s.data.toList then wordP s.data.toList else ⟨oneK s.data.toList, s.data.toList.take 1, [], 0⟩ := rfl
  generalize hNP : firstP s.data.toList = NP at *
  clear hNP
  generalize hTT : Lib.trimLeftS s.data.toList [32, 9, 10, 12, 13] = T at *
  clear hTT
  replace cT := Lib.hid cT

  rw [if_neg (by omega : ¬ 0 < spaceP s.data.toList)] at hP
  have hsl1 : (s.size : Int) ≤ (T.length : Int) := by omega
  have hsl3 : (T.length : Int) ≤ (s.size : Int) := by omega
  clear hsl

  have cC : ∀ w, Calls Tryd.prog 45 #[.string s, .string ⟨#[47, 42]⟩] w fun e w' => e = .returned (.tuple #[.string ⟨(Lib.trimPrefix s.data.toList [47, 42]).toArray⟩, .bool false]) ∧ w = w' := fun w => by
    have := Tryd.strings_CutPrefix s (bs [47, 42]) w
    rw [show (bs [47, 42]).data.toList = [47, 42] from rfl, hn] at this
    exact this.mono fun e w' ⟨h1, h2⟩ => ⟨h1, h2.symm⟩

  rw [hn, if_neg (by simp)] at hP
  generalize Lib.trimPrefix s.data.toList [47, 42] = R at *
  replace cC := Lib.hid cC
  replace hn := Lib.hid hn

  have hh : hashP s.data.toList = false := hash_short (by omega)
  have ha : atP s.data.toList = false := by rw [at_of h0, decide_eq_false (by omega : ¬ nv s[0] = 64)]; rfl

  have ho : oneK s.data.toList = 12 := by rw [one_of h0]; split <;> (try split) <;> (try split) <;> first | rfl | omega
  rw [quote_of h0, decide_eq_false (by omega : ¬ (nv s[0] = 39 ∨ nv s[0] = 34)), if_neg (by simp), hh, if_neg (by simp), ha, if_neg (by simp), if_neg (by omega), hbg, if_neg (by simp), ho] at hP

  have cN := fun w => number_ct s (by omega) w
  have hnn : (((numberP s.data.toList).2 : Nat) : Int) ≤ 0 := by omega
  generalize numberP s.data.toList = V at *
  obtain ⟨nm, nn⟩ := V
  simp only at hnn cN
  replace cN := Lib.hid cN

  have cB := fun w => begins_ct s (by unfold maxLen; omega) w
  simp only [hbg] at cB
  replace cB := Lib.hid cB
  clear hbg hh ha ho
  have h1' : (s.size : Int) ≤ 1 := by omega
  have q39 : ((s[0].toNat : Int) == 39) = false := by have h := hx; simp only [nv] at h; rw [beq_eq_false_iff_ne]; omega
  have q34 : ((s[0].toNat : Int) == 34) = false := by have h := hx; simp only [nv] at h; rw [beq_eq_false_iff_ne]; omega
  have q35 : ((s[0].toNat : Int) == 35) = true := by have h := hx; simp only [nv] at h; rw [h]; rfl
  have q64 : ((s[0].toNat : Int) == 64) = false := by have h := hx; simp only [nv] at h; rw [beq_eq_false_iff_ne]; omega
  have q40 : ((s[0].toNat : Int) == 40) = false := by have h := hx; simp only [nv] at h; rw [beq_eq_false_iff_ne]; omega
  have q91 : ((s[0].toNat : Int) == 91) = false := by have h := hx; simp only [nv] at h; rw [beq_eq_false_iff_ne]; omega
  have q123 : ((s[0].toNat : Int) == 123) = false := by have h := hx; simp only [nv] at h; rw [beq_eq_false_iff_ne]; omega
  have q41 : ((s[0].toNat : Int) == 41) = false := by have h := hx; simp only [nv] at h; rw [beq_eq_false_iff_ne]; omega
  have q93 : ((s[0].toNat : Int) == 93) = false := by have h := hx; simp only [nv] at h; rw [beq_eq_false_iff_ne]; omega
  have q125 : ((s[0].toNat : Int) == 125) = false := by have h := hx; simp only [nv] at h; rw [beq_eq_false_iff_ne]; omega
  have q92 : ((s[0].toNat : Int) == 92) = false := by have h := hx; simp only [nv] at h; rw [beq_eq_false_iff_ne]; omega

  replace hx := Lib.hid hx
  replace hP := Lib.hid hP

  go_enter Tryd.func31, Tryd.ntmps31
  go_wp2_with fail
  generalize hW0 : (w.alloc (.cells #[.string s] 9)).alloc (.cells #[.int .i64 0, .string ⟨#[]⟩, .string ⟨#[]⟩, .int .i64 0] 43) = W0
  have HB0 := Lib.hid (show Below w.heap.size w W0 by subst hW0; exact ((Below.refl _ _).alloc (Nat.le_refl _) _).alloc (by simp) _)
  have HZ : w.heap.size + 2 ≤ W0.heap.size := by subst hW0; simp
  have sB0 := Lib.hid (show Blk W0 w.heap.size 9 #[.string s] by subst hW0; exact (Blk.new rfl).alloc _)
  have rB0 := Lib.hid (show Blk W0 (w.heap.size + 1) 43 #[.int .i64 0, .string ⟨#[]⟩, .string ⟨#[]⟩, .int .i64 0] by subst hW0; exact Blk.new (by simp))
  have c0 : W0.cell? ⟨w.heap.size, 0, none⟩ = some (.string s) := sB0.out.cell 0
  clear hW0
  go_region_held3 (fun w' => (∀ b o, b < w.heap.size + 2 → w'.cell? ⟨b, o, none⟩ = W0.cell? ⟨b, o, none⟩) ∧ Below (w.heap.size + 2) W0 w')
    (first | exact As.beg | assumption | exact As.on hb3 (by assumption) HZ | exact As.alloc (by assumption) HZ)
    ((go_at_call 44; (with_reducible refine (cT.out _).mono ?_); rintro e W1 ⟨rfl, hb3⟩; have hS := Lib.hid (As.on (B := w.heap.size + 2) (W0 := W0) hb3 As.beg HZ)))
  all_goals
    rename_i hHeld
    clear hHeld
    have HB1 := Lib.hid (HB0.out.trans (hS.out.2.mono (by omega)))
    have sB := Lib.hid (sB0.out.below hS.out.2 (by omega))
    have rB := Lib.hid (rB0.out.below hS.out.2 (by omega))
    have rC := rB.out.cell
    have rF := rB.out.frozen
    have sF := sB.out.frozen
    have sz1 := rB.out.lt
    clear sB0 rB0 HB0 hS c0 hb3
    have sC := sB.out.cell
    go_wp2_with (first | (go_at_call 45; (with_reducible refine (cC.out _).mono ?_); rintro e w2 ⟨rfl, rfl⟩) | (go_at_call 51; (with_reducible refine (cB.out _).mono ?_); rintro e w2 ⟨rfl, rfl⟩) | (go_at_call 52; (with_reducible refine (cN.out _).mono ?_); rintro e W2 ⟨rfl, hb2⟩; have rB2 := Lib.hid (rB.out.below hb2 rB.out.lt); have HB2 := Lib.hid (HB1.out.trans (hb2.mono HB1.out.size)); have sB2 := Lib.hid (sB.out.below hb2 sB.out.lt); clear rC rF sC sF hb2; have rC := rB2.out.cell; have rF := rB2.out.frozen; have sC := sB2.out.cell; have sF := sB2.out.frozen; have sz2 := rB2.out.lt; have szs := sB2.out.lt) | (go_at_call 43; (with_reducible refine (one_ct 12 s w.heap.size _ hs h0 sB2.out).mono ?_); rintro e W3 ⟨rfl, hb2⟩; have rB3 := Lib.hid (rB2.out.below hb2 rB2.out.lt); have HB3 := Lib.hid (HB2.out.trans (hb2.mono HB2.out.size)); clear rC rF sC sF hb2; have rC := rB3.out.cell; have rF := rB3.out.frozen; have sz3 := rB3.out.lt))

    have e := Blk.cell (Blk.four (rB3.out) (.int .i64 12) (.string (s.extract 0 1)) (.string ⟨#[]⟩) (.int .i64 0))
    refine bodyPost_ret (v := .agg #[.int .i64 12, .string (s.extract 0 1), .string ⟨#[]⟩, .int .i64 0]) (by simp [results, Tryd.results31, go_sem, e]) rfl ⟨?_, ?_⟩
    · rw [hP.out]
      exact ret_tok rfl (take_ex _ _) rfl rfl
    · exact (((HB3.out.setCell (by simp) _).setCell (by simp) _).setCell (by simp) _).setCell (by simp) _

set_option maxRecDepth 100000 in
set_option maxHeartbeats 8000000 in
theorem one_hash (s : ByteArray) (hs : s.size < 4294967281) (h0 : 0 < s.size) (w : World) (hsp : spaceP s.data.toList = 0) (hn : Lib.hasPrefix s.data.toList [47, 42] = false) (hnp : (numberP s.data.toList).2 = 0) (hbg : beginsP s.data.toList = false) (hx : nv s[0] = 35) (h1 : 1 < s.size) (sb eb : Bool) (hsb : signI (nv s[1]) = sb) (heb : escP (s.extract 1 s.size).data.toList = eb) (hsf : sb = false) (hef : eb = false) :
    Calls Tryd.prog 31 #[.string s] w fun e w' => e = .returned (.agg (firstP s.data.toList).cells) ∧ Below w.heap.size w w' := by
  have hsl := space_len s.data.toList
  rw [← Lib.size_eq] at hsl
  have cT := fun w => trimL_ct s [32, 9, 10, 12, 13] (by decide) (by decide) w
  have hP : firstP s.data.toList = if 0 < spaceP s.data.toList then ⟨8, s.data.toList.take (spaceP s.data.toList), [], 0⟩ else
    if Lib.hasPrefix s.data.toList [47, 42] then noteP s.data.toList else
    if quoteP s.data.toList then textP s.data.toList else
    if hashP s.data.toList then namedP 4 s.data.toList 1 else
    if atP s.data.toList then namedP 3 s.data.toList 1 else
    if 0 < (numberP s.data.toList).2 then numTkP s.data.toList (numberP s.data.toList).1 (numberP s.data.toList).2 else
    if beginsP s.data.toList then wordP s.data.toList else ⟨oneK s.data.toList, s.data.toList.take 1, [], 0⟩ := rfl
  generalize hNP : firstP s.data.toList = NP at *
  clear hNP
  generalize hTT : Lib.trimLeftS s.data.toList [32, 9, 10, 12, 13] = T at *
  clear hTT
  replace cT := Lib.hid cT

  rw [if_neg (by omega : ¬ 0 < spaceP s.data.toList)] at hP
  have hsl1 : (s.size : Int) ≤ (T.length : Int) := by omega
  have hsl3 : (T.length : Int) ≤ (s.size : Int) := by omega
  clear hsl

  have cC : ∀ w, Calls Tryd.prog 45 #[.string s, .string ⟨#[47, 42]⟩] w fun e w' => e = .returned (.tuple #[.string ⟨(Lib.trimPrefix s.data.toList [47, 42]).toArray⟩, .bool false]) ∧ w = w' := fun w => by
    have := Tryd.strings_CutPrefix s (bs [47, 42]) w
    rw [show (bs [47, 42]).data.toList = [47, 42] from rfl, hn] at this
    exact this.mono fun e w' ⟨h1, h2⟩ => ⟨h1, h2.symm⟩

  rw [hn, if_neg (by simp)] at hP
  generalize Lib.trimPrefix s.data.toList [47, 42] = R at *
  replace cC := Lib.hid cC
  replace hn := Lib.hid hn

  have hh : hashP s.data.toList = false := by rw [hash_long h1, hsb, heb, hsf, hef]; simp
  have ha : atP s.data.toList = false := by rw [at_of h0, decide_eq_false (by omega : ¬ nv s[0] = 64)]; rfl

  have ho : oneK s.data.toList = 12 := by rw [one_of h0]; split <;> (try split) <;> (try split) <;> first | rfl | omega
  rw [quote_of h0, decide_eq_false (by omega : ¬ (nv s[0] = 39 ∨ nv s[0] = 34)), if_neg (by simp), hh, if_neg (by simp), ha, if_neg (by simp), if_neg (by omega), hbg, if_neg (by simp), ho] at hP

  have cN := fun w => number_ct s (by omega) w
  have hnn : (((numberP s.data.toList).2 : Nat) : Int) ≤ 0 := by omega
  generalize numberP s.data.toList = V at *
  obtain ⟨nm, nn⟩ := V
  simp only at hnn cN
  replace cN := Lib.hid cN

  have cB := fun w => begins_ct s (by unfold maxLen; omega) w
  simp only [hbg] at cB
  replace cB := Lib.hid cB
  clear hbg hh ha ho

  have cS := fun w => sign_ct (nv s[1]) (nv_nn _) (nv_lt _) w
  simp only [hsb] at cS
  have cE := fun w => escape_ct (s.extract 1 s.size) (sub_len _ _ (by unfold maxLen; omega)) w
  simp only [heb] at cE
  replace cS := Lib.hid cS
  replace cE := Lib.hid cE
  have h1' : (1 : Int) < (s.size : Int) := by omega
  clear hsb heb
  subst hsf hef
  have q39 : ((s[0].toNat : Int) == 39) = false := by have h := hx; simp only [nv] at h; rw [beq_eq_false_iff_ne]; omega
  have q34 : ((s[0].toNat : Int) == 34) = false := by have h := hx; simp only [nv] at h; rw [beq_eq_false_iff_ne]; omega
  have q35 : ((s[0].toNat : Int) == 35) = true := by have h := hx; simp only [nv] at h; rw [h]; rfl
  have q64 : ((s[0].toNat : Int) == 64) = false := by have h := hx; simp only [nv] at h; rw [beq_eq_false_iff_ne]; omega
  have q40 : ((s[0].toNat : Int) == 40) = false := by have h := hx; simp only [nv] at h; rw [beq_eq_false_iff_ne]; omega
  have q91 : ((s[0].toNat : Int) == 91) = false := by have h := hx; simp only [nv] at h; rw [beq_eq_false_iff_ne]; omega
  have q123 : ((s[0].toNat : Int) == 123) = false := by have h := hx; simp only [nv] at h; rw [beq_eq_false_iff_ne]; omega
  have q41 : ((s[0].toNat : Int) == 41) = false := by have h := hx; simp only [nv] at h; rw [beq_eq_false_iff_ne]; omega
  have q93 : ((s[0].toNat : Int) == 93) = false := by have h := hx; simp only [nv] at h; rw [beq_eq_false_iff_ne]; omega
  have q125 : ((s[0].toNat : Int) == 125) = false := by have h := hx; simp only [nv] at h; rw [beq_eq_false_iff_ne]; omega
  have q92 : ((s[0].toNat : Int) == 92) = false := by have h := hx; simp only [nv] at h; rw [beq_eq_false_iff_ne]; omega

  replace hx := Lib.hid hx
  replace hP := Lib.hid hP

  go_enter Tryd.func31, Tryd.ntmps31
  go_wp2_with fail
  generalize hW0 : (w.alloc (.cells #[.string s] 9)).alloc (.cells #[.int .i64 0, .string ⟨#[]⟩, .string ⟨#[]⟩, .int .i64 0] 43) = W0
  have HB0 := Lib.hid (show Below w.heap.size w W0 by subst hW0; exact ((Below.refl _ _).alloc (Nat.le_refl _) _).alloc (by simp) _)
  have HZ : w.heap.size + 2 ≤ W0.heap.size := by subst hW0; simp
  have sB0 := Lib.hid (show Blk W0 w.heap.size 9 #[.string s] by subst hW0; exact (Blk.new rfl).alloc _)
  have rB0 := Lib.hid (show Blk W0 (w.heap.size + 1) 43 #[.int .i64 0, .string ⟨#[]⟩, .string ⟨#[]⟩, .int .i64 0] by subst hW0; exact Blk.new (by simp))
  have c0 : W0.cell? ⟨w.heap.size, 0, none⟩ = some (.string s) := sB0.out.cell 0
  clear hW0
  go_region_held3 (fun w' => (∀ b o, b < w.heap.size + 2 → w'.cell? ⟨b, o, none⟩ = W0.cell? ⟨b, o, none⟩) ∧ Below (w.heap.size + 2) W0 w')
    (first | exact As.beg | assumption | exact As.on hb3 (by assumption) HZ | exact As.alloc (by assumption) HZ)
    ((go_at_call 44; (with_reducible refine (cT.out _).mono ?_); rintro e W1 ⟨rfl, hb3⟩; have hS := Lib.hid (As.on (B := w.heap.size + 2) (W0 := W0) hb3 As.beg HZ)))
  all_goals
    rename_i hHeld
    clear hHeld
    have HB1 := Lib.hid (HB0.out.trans (hS.out.2.mono (by omega)))
    have sB := Lib.hid (sB0.out.below hS.out.2 (by omega))
    have rB := Lib.hid (rB0.out.below hS.out.2 (by omega))
    have rC := rB.out.cell
    have rF := rB.out.frozen
    have sF := sB.out.frozen
    have sz1 := rB.out.lt
    clear sB0 rB0 HB0 hS c0 hb3
    have sC := sB.out.cell
    go_wp2_with (first | (go_at_call 45; (with_reducible refine (cC.out _).mono ?_); rintro e w2 ⟨rfl, rfl⟩) | (go_at_call 48; (with_reducible refine (cS.out _).mono ?_); rintro e w2 ⟨rfl, rfl⟩) | (go_at_call 49; (with_reducible refine (cE.out _).mono ?_); rintro e w2 ⟨rfl, rfl⟩) | (go_at_call 51; (with_reducible refine (cB.out _).mono ?_); rintro e w2 ⟨rfl, rfl⟩) | (go_at_call 52; (with_reducible refine (cN.out _).mono ?_); rintro e W2 ⟨rfl, hb2⟩; have rB2 := Lib.hid (rB.out.below hb2 rB.out.lt); have HB2 := Lib.hid (HB1.out.trans (hb2.mono HB1.out.size)); have sB2 := Lib.hid (sB.out.below hb2 sB.out.lt); clear rC rF sC sF hb2; have rC := rB2.out.cell; have rF := rB2.out.frozen; have sC := sB2.out.cell; have sF := sB2.out.frozen; have sz2 := rB2.out.lt; have szs := sB2.out.lt) | (go_at_call 43; (with_reducible refine (one_ct 12 s w.heap.size _ hs h0 sB2.out).mono ?_); rintro e W3 ⟨rfl, hb2⟩; have rB3 := Lib.hid (rB2.out.below hb2 rB2.out.lt); have HB3 := Lib.hid (HB2.out.trans (hb2.mono HB2.out.size)); clear rC rF sC sF hb2; have rC := rB3.out.cell; have rF := rB3.out.frozen; have sz3 := rB3.out.lt))

    have e := Blk.cell (Blk.four (rB3.out) (.int .i64 12) (.string (s.extract 0 1)) (.string ⟨#[]⟩) (.int .i64 0))
    refine bodyPost_ret (v := .agg #[.int .i64 12, .string (s.extract 0 1), .string ⟨#[]⟩, .int .i64 0]) (by simp [results, Tryd.results31, go_sem, e]) rfl ⟨?_, ?_⟩
    · rw [hP.out]
      exact ret_tok rfl (take_ex _ _) rfl rfl
    · exact (((HB3.out.setCell (by simp) _).setCell (by simp) _).setCell (by simp) _).setCell (by simp) _

set_option maxRecDepth 100000 in
set_option maxHeartbeats 8000000 in
theorem one_at (s : ByteArray) (hs : s.size < 4294967281) (h0 : 0 < s.size) (w : World) (hsp : spaceP s.data.toList = 0) (hn : Lib.hasPrefix s.data.toList [47, 42] = false) (hnp : (numberP s.data.toList).2 = 0) (hbg : beginsP s.data.toList = false) (hx : nv s[0] = 64) (hb1 : beginsP (s.extract 1 s.size).data.toList = false) :
    Calls Tryd.prog 31 #[.string s] w fun e w' => e = .returned (.agg (firstP s.data.toList).cells) ∧ Below w.heap.size w w' := by
  have hsl := space_len s.data.toList
  rw [← Lib.size_eq] at hsl
  have cT := fun w => trimL_ct s [32, 9, 10, 12, 13] (by decide) (by decide) w
  have hP : firstP s.data.toList = if 0 < spaceP s.data.toList then ⟨8, s.data.toList.take (spaceP s.data.toList), [], 0⟩ else
    if Lib.hasPrefix s.data.toList [47, 42] then noteP s.data.toList else
    if quoteP s.data.toList then textP s.data.toList else
    if hashP s.data.toList then namedP 4 s.data.toList 1 else
    if atP s.data.toList then namedP 3 s.data.toList 1 else
    if 0 < (numberP s.data.toList).2 then numTkP s.data.toList (numberP s.data.toList).1 (numberP s.data.toList).2 else
    if beginsP s.data.toList then wordP s.data.toList else ⟨oneK s.data.toList, s.data.toList.take 1, [], 0⟩ := rfl
  generalize hNP : firstP s.data.toList = NP at *
  clear hNP
  generalize hTT : Lib.trimLeftS s.data.toList [32, 9, 10, 12, 13] = T at *
  clear hTT
  replace cT := Lib.hid cT

  rw [if_neg (by omega : ¬ 0 < spaceP s.data.toList)] at hP
  have hsl1 : (s.size : Int) ≤ (T.length : Int) := by omega
  have hsl3 : (T.length : Int) ≤ (s.size : Int) := by omega
  clear hsl

  have cC : ∀ w, Calls Tryd.prog 45 #[.string s, .string ⟨#[47, 42]⟩] w fun e w' => e = .returned (.tuple #[.string ⟨(Lib.trimPrefix s.data.toList [47, 42]).toArray⟩, .bool false]) ∧ w = w' := fun w => by
    have := Tryd.strings_CutPrefix s (bs [47, 42]) w
    rw [show (bs [47, 42]).data.toList = [47, 42] from rfl, hn] at this
    exact this.mono fun e w' ⟨h1, h2⟩ => ⟨h1, h2.symm⟩

  rw [hn, if_neg (by simp)] at hP
  generalize Lib.trimPrefix s.data.toList [47, 42] = R at *
  replace cC := Lib.hid cC
  replace hn := Lib.hid hn

  have hh : hashP s.data.toList = false := by
    rcases Nat.lt_or_ge 1 s.size with h1 | h1
    · rw [hash_long h1, decide_eq_false (by omega : ¬ nv s[0] = 35)]
      rfl
    · exact hash_short h1
  have ha : atP s.data.toList = false := by rw [at_of h0, hb1]; simp

  have ho : oneK s.data.toList = 12 := by rw [one_of h0]; split <;> (try split) <;> (try split) <;> first | rfl | omega
  rw [quote_of h0, decide_eq_false (by omega : ¬ (nv s[0] = 39 ∨ nv s[0] = 34)), if_neg (by simp), hh, if_neg (by simp), ha, if_neg (by simp), if_neg (by omega), hbg, if_neg (by simp), ho] at hP

  have cN := fun w => number_ct s (by omega) w
  have hnn : (((numberP s.data.toList).2 : Nat) : Int) ≤ 0 := by omega
  generalize numberP s.data.toList = V at *
  obtain ⟨nm, nn⟩ := V
  simp only at hnn cN
  replace cN := Lib.hid cN

  have cB := fun w => begins_ct s (by unfold maxLen; omega) w
  simp only [hbg] at cB
  replace cB := Lib.hid cB
  clear hbg hh ha ho

  have cB2 := fun w => begins_ct (s.extract 1 s.size) (sub_len _ _ (by unfold maxLen; omega)) w
  simp only [hb1] at cB2
  replace cB2 := Lib.hid cB2
  clear hb1
  have h1' : (1 : Int) ≤ (s.size : Int) := by omega
  have q39 : ((s[0].toNat : Int) == 39) = false := by have h := hx; simp only [nv] at h; rw [beq_eq_false_iff_ne]; omega
  have q34 : ((s[0].toNat : Int) == 34) = false := by have h := hx; simp only [nv] at h; rw [beq_eq_false_iff_ne]; omega
  have q35 : ((s[0].toNat : Int) == 35) = false := by have h := hx; simp only [nv] at h; rw [beq_eq_false_iff_ne]; omega
  have q64 : ((s[0].toNat : Int) == 64) = true := by have h := hx; simp only [nv] at h; rw [h]; rfl
  have q40 : ((s[0].toNat : Int) == 40) = false := by have h := hx; simp only [nv] at h; rw [beq_eq_false_iff_ne]; omega
  have q91 : ((s[0].toNat : Int) == 91) = false := by have h := hx; simp only [nv] at h; rw [beq_eq_false_iff_ne]; omega
  have q123 : ((s[0].toNat : Int) == 123) = false := by have h := hx; simp only [nv] at h; rw [beq_eq_false_iff_ne]; omega
  have q41 : ((s[0].toNat : Int) == 41) = false := by have h := hx; simp only [nv] at h; rw [beq_eq_false_iff_ne]; omega
  have q93 : ((s[0].toNat : Int) == 93) = false := by have h := hx; simp only [nv] at h; rw [beq_eq_false_iff_ne]; omega
  have q125 : ((s[0].toNat : Int) == 125) = false := by have h := hx; simp only [nv] at h; rw [beq_eq_false_iff_ne]; omega
  have q92 : ((s[0].toNat : Int) == 92) = false := by have h := hx; simp only [nv] at h; rw [beq_eq_false_iff_ne]; omega

  replace hx := Lib.hid hx
  replace hP := Lib.hid hP

  go_enter Tryd.func31, Tryd.ntmps31
  go_wp2_with fail
  generalize hW0 : (w.alloc (.cells #[.string s] 9)).alloc (.cells #[.int .i64 0, .string ⟨#[]⟩, .string ⟨#[]⟩, .int .i64 0] 43) = W0
  have HB0 := Lib.hid (show Below w.heap.size w W0 by subst hW0; exact ((Below.refl _ _).alloc (Nat.le_refl _) _).alloc (by simp) _)
  have HZ : w.heap.size + 2 ≤ W0.heap.size := by subst hW0; simp
  have sB0 := Lib.hid (show Blk W0 w.heap.size 9 #[.string s] by subst hW0; exact (Blk.new rfl).alloc _)
  have rB0 := Lib.hid (show Blk W0 (w.heap.size + 1) 43 #[.int .i64 0, .string ⟨#[]⟩, .string ⟨#[]⟩, .int .i64 0] by subst hW0; exact Blk.new (by simp))
  have c0 : W0.cell? ⟨w.heap.size, 0, none⟩ = some (.string s) := sB0.out.cell 0
  clear hW0
  go_region_held3 (fun w' => (∀ b o, b < w.heap.size + 2 → w'.cell? ⟨b, o, none⟩ = W0.cell? ⟨b, o, none⟩) ∧ Below (w.heap.size + 2) W0 w')
    (first | exact As.beg | assumption | exact As.on hb3 (by assumption) HZ | exact As.alloc (by assumption) HZ)
    ((go_at_call 44; (with_reducible refine (cT.out _).mono ?_); rintro e W1 ⟨rfl, hb3⟩; have hS := Lib.hid (As.on (B := w.heap.size + 2) (W0 := W0) hb3 As.beg HZ)))
  all_goals
    rename_i hHeld
    clear hHeld
    have HB1 := Lib.hid (HB0.out.trans (hS.out.2.mono (by omega)))
    have sB := Lib.hid (sB0.out.below hS.out.2 (by omega))
    have rB := Lib.hid (rB0.out.below hS.out.2 (by omega))
    have rC := rB.out.cell
    have rF := rB.out.frozen
    have sF := sB.out.frozen
    have sz1 := rB.out.lt
    clear sB0 rB0 HB0 hS c0 hb3
    have sC := sB.out.cell
    go_wp2_with (first | (go_at_call 45; (with_reducible refine (cC.out _).mono ?_); rintro e w2 ⟨rfl, rfl⟩) | (go_at_call 51; (with_reducible refine (cB2.out _).mono ?_); rintro e w2 ⟨rfl, rfl⟩) | (go_at_call 51; (with_reducible refine (cB.out _).mono ?_); rintro e w2 ⟨rfl, rfl⟩) | (go_at_call 52; (with_reducible refine (cN.out _).mono ?_); rintro e W2 ⟨rfl, hb2⟩; have rB2 := Lib.hid (rB.out.below hb2 rB.out.lt); have HB2 := Lib.hid (HB1.out.trans (hb2.mono HB1.out.size)); have sB2 := Lib.hid (sB.out.below hb2 sB.out.lt); clear rC rF sC sF hb2; have rC := rB2.out.cell; have rF := rB2.out.frozen; have sC := sB2.out.cell; have sF := sB2.out.frozen; have sz2 := rB2.out.lt; have szs := sB2.out.lt) | (go_at_call 43; (with_reducible refine (one_ct 12 s w.heap.size _ hs h0 sB2.out).mono ?_); rintro e W3 ⟨rfl, hb2⟩; have rB3 := Lib.hid (rB2.out.below hb2 rB2.out.lt); have HB3 := Lib.hid (HB2.out.trans (hb2.mono HB2.out.size)); clear rC rF sC sF hb2; have rC := rB3.out.cell; have rF := rB3.out.frozen; have sz3 := rB3.out.lt))

    have e := Blk.cell (Blk.four (rB3.out) (.int .i64 12) (.string (s.extract 0 1)) (.string ⟨#[]⟩) (.int .i64 0))
    refine bodyPost_ret (v := .agg #[.int .i64 12, .string (s.extract 0 1), .string ⟨#[]⟩, .int .i64 0]) (by simp [results, Tryd.results31, go_sem, e]) rfl ⟨?_, ?_⟩
    · rw [hP.out]
      exact ret_tok rfl (take_ex _ _) rfl rfl
    · exact (((HB3.out.setCell (by simp) _).setCell (by simp) _).setCell (by simp) _).setCell (by simp) _

end Go.Proofs.YtmjbaimccbkmpaaDoor.tok

namespace Go.Proofs.YtmjbaimccbkmpaaDoor.tok
open Go.RowKit Go.Proofs.YtmjbaimccbkmpaaDoor.base
set_option linter.unusedVariables false

set_option maxRecDepth 100000 in
set_option maxHeartbeats 8000000 in
theorem one_40 (s : ByteArray) (hs : s.size < 4294967281) (h0 : 0 < s.size) (w : World) (hsp : spaceP s.data.toList = 0) (hn : Lib.hasPrefix s.data.toList [47, 42] = false) (hnp : (numberP s.data.toList).2 = 0) (hbg : beginsP s.data.toList = false) (hx : nv s[0] = 40) :
    Calls Tryd.prog 31 #[.string s] w fun e w' => e = .returned (.agg (firstP s.data.toList).cells) ∧ Below w.heap.size w w' := by
  have hsl := space_len s.data.toList
  rw [← Lib.size_eq] at hsl
  have cT := fun w => trimL_ct s [32, 9, 10, 12, 13] (by decide) (by decide) w
  have hP : firstP s.data.toList = if 0 < spaceP s.data.toList then ⟨8, s.data.toList.take (spaceP s.data.toList), [], 0⟩ else
    if Lib.hasPrefix s.data.toList [47, 42] then noteP s.data.toList else
    if quoteP s.data.toList then textP s.data.toList else
    if hashP s.data.toList then namedP 4 s.data.toList 1 else
    if atP s.data.toList then namedP 3 s.data.toList 1 else
    if 0 < (numberP s.data.toList).2 then numTkP s.data.toList (numberP s.data.toList).1 (numberP s.data.toList).2 else
    if beginsP s.data.toList then wordP s.data.toList else ⟨oneK s.data.toList, s.data.toList.take 1, [], 0⟩ := rfl
  generalize hNP : firstP s.data.toList = NP at *
  clear hNP
  generalize hTT : Lib.trimLeftS s.data.toList [32, 9, 10, 12, 13] = T at *
  clear hTT
  replace cT := Lib.hid cT

  rw [if_neg (by omega : ¬ 0 < spaceP s.data.toList)] at hP
  have hsl1 : (s.size : Int) ≤ (T.length : Int) := by omega
  have hsl3 : (T.length : Int) ≤ (s.size : Int) := by omega
  clear hsl

  have cC : ∀ w, Calls Tryd.prog 45 #[.string s, .string ⟨#[47, 42]⟩] w fun e w' => e = .returned (.tuple #[.string ⟨(Lib.trimPrefix s.data.toList [47, 42]).toArray⟩, .bool false]) ∧ w = w' := fun w => by
    have := Tryd.strings_CutPrefix s (bs [47, 42]) w
    rw [show (bs [47, 42]).data.toList = [47, 42] from rfl, hn] at this
    exact this.mono fun e w' ⟨h1, h2⟩ => ⟨h1, h2.symm⟩

  rw [hn, if_neg (by simp)] at hP
  generalize Lib.trimPrefix s.data.toList [47, 42] = R at *
  replace cC := Lib.hid cC
  replace hn := Lib.hid hn

  have hh : hashP s.data.toList = false := by
    rcases Nat.lt_or_ge 1 s.size with h1 | h1
    · rw [hash_long h1, decide_eq_false (by omega : ¬ nv s[0] = 35)]
      rfl
    · exact hash_short h1
  have ha : atP s.data.toList = false := by rw [at_of h0, decide_eq_false (by omega : ¬ nv s[0] = 64)]; rfl

  have ho : oneK s.data.toList = 10 := by rw [one_of h0]; split <;> (try split) <;> (try split) <;> first | rfl | omega
  rw [quote_of h0, decide_eq_false (by omega : ¬ (nv s[0] = 39 ∨ nv s[0] = 34)), if_neg (by simp), hh, if_neg (by simp), ha, if_neg (by simp), if_neg (by omega), hbg, if_neg (by simp), ho] at hP

  have cN := fun w => number_ct s (by omega) w
  have hnn : (((numberP s.data.toList).2 : Nat) : Int) ≤ 0 := by omega
  generalize numberP s.data.toList = V at *
  obtain ⟨nm, nn⟩ := V
  simp only at hnn cN
  replace cN := Lib.hid cN

  have cB := fun w => begins_ct s (by unfold maxLen; omega) w
  simp only [hbg] at cB
  replace cB := Lib.hid cB
  clear hbg hh ha ho
  have q39 : ((s[0].toNat : Int) == 39) = false := by have h := hx; simp only [nv] at h; rw [beq_eq_false_iff_ne]; omega
  have q34 : ((s[0].toNat : Int) == 34) = false := by have h := hx; simp only [nv] at h; rw [beq_eq_false_iff_ne]; omega
  have q35 : ((s[0].toNat : Int) == 35) = false := by have h := hx; simp only [nv] at h; rw [beq_eq_false_iff_ne]; omega
  have q64 : ((s[0].toNat : Int) == 64) = false := by have h := hx; simp only [nv] at h; rw [beq_eq_false_iff_ne]; omega
  have q40 : ((s[0].toNat : Int) == 40) = true := by have h := hx; simp only [nv] at h; rw [h]; rfl
  have q91 : ((s[0].toNat : Int) == 91) = false := by have h := hx; simp only [nv] at h; rw [beq_eq_false_iff_ne]; omega
  have q123 : ((s[0].toNat : Int) == 123) = false := by have h := hx; simp only [nv] at h; rw [beq_eq_false_iff_ne]; omega
  have q41 : ((s[0].toNat : Int) == 41) = false := by have h := hx; simp only [nv] at h; rw [beq_eq_false_iff_ne]; omega
  have q93 : ((s[0].toNat : Int) == 93) = false := by have h := hx; simp only [nv] at h; rw [beq_eq_false_iff_ne]; omega
  have q125 : ((s[0].toNat : Int) == 125) = false := by have h := hx; simp only [nv] at h; rw [beq_eq_false_iff_ne]; omega
  have q92 : ((s[0].toNat : Int) == 92) = false := by have h := hx; simp only [nv] at h; rw [beq_eq_false_iff_ne]; omega

  replace hx := Lib.hid hx
  replace hP := Lib.hid hP

  go_enter Tryd.func31, Tryd.ntmps31
  go_wp2_with fail
  generalize hW0 : (w.alloc (.cells #[.string s] 9)).alloc (.cells #[.int .i64 0, .string ⟨#[]⟩, .string ⟨#[]⟩, .int .i64 0] 43) = W0
  have HB0 := Lib.hid (show Below w.heap.size w W0 by subst hW0; exact ((Below.refl _ _).alloc (Nat.le_refl _) _).alloc (by simp) _)
  have HZ : w.heap.size + 2 ≤ W0.heap.size := by subst hW0; simp
  have sB0 := Lib.hid (show Blk W0 w.heap.size 9 #[.string s] by subst hW0; exact (Blk.new rfl).alloc _)
  have rB0 := Lib.hid (show Blk W0 (w.heap.size + 1) 43 #[.int .i64 0, .string ⟨#[]⟩, .string ⟨#[]⟩, .int .i64 0] by subst hW0; exact Blk.new (by simp))
  have c0 : W0.cell? ⟨w.heap.size, 0, none⟩ = some (.string s) := sB0.out.cell 0
  clear hW0
  go_region_held3 (fun w' => (∀ b o, b < w.heap.size + 2 → w'.cell? ⟨b, o, none⟩ = W0.cell? ⟨b, o, none⟩) ∧ Below (w.heap.size + 2) W0 w')
    (first | exact As.beg | assumption | exact As.on hb3 (by assumption) HZ | exact As.alloc (by assumption) HZ)
    ((go_at_call 44; (with_reducible refine (cT.out _).mono ?_); rintro e W1 ⟨rfl, hb3⟩; have hS := Lib.hid (As.on (B := w.heap.size + 2) (W0 := W0) hb3 As.beg HZ)))
  all_goals
    rename_i hHeld
    clear hHeld
    have HB1 := Lib.hid (HB0.out.trans (hS.out.2.mono (by omega)))
    have sB := Lib.hid (sB0.out.below hS.out.2 (by omega))
    have rB := Lib.hid (rB0.out.below hS.out.2 (by omega))
    have rC := rB.out.cell
    have rF := rB.out.frozen
    have sF := sB.out.frozen
    have sz1 := rB.out.lt
    clear sB0 rB0 HB0 hS c0 hb3
    have sC := sB.out.cell
    go_wp2_with (first | (go_at_call 45; (with_reducible refine (cC.out _).mono ?_); rintro e w2 ⟨rfl, rfl⟩) | (go_at_call 51; (with_reducible refine (cB.out _).mono ?_); rintro e w2 ⟨rfl, rfl⟩) | (go_at_call 52; (with_reducible refine (cN.out _).mono ?_); rintro e W2 ⟨rfl, hb2⟩; have rB2 := Lib.hid (rB.out.below hb2 rB.out.lt); have HB2 := Lib.hid (HB1.out.trans (hb2.mono HB1.out.size)); have sB2 := Lib.hid (sB.out.below hb2 sB.out.lt); clear rC rF sC sF hb2; have rC := rB2.out.cell; have rF := rB2.out.frozen; have sC := sB2.out.cell; have sF := sB2.out.frozen; have sz2 := rB2.out.lt; have szs := sB2.out.lt) | (go_at_call 43; (with_reducible refine (one_ct 10 s w.heap.size _ hs h0 sB2.out).mono ?_); rintro e W3 ⟨rfl, hb2⟩; have rB3 := Lib.hid (rB2.out.below hb2 rB2.out.lt); have HB3 := Lib.hid (HB2.out.trans (hb2.mono HB2.out.size)); clear rC rF sC sF hb2; have rC := rB3.out.cell; have rF := rB3.out.frozen; have sz3 := rB3.out.lt))

    have e := Blk.cell (Blk.four (rB3.out) (.int .i64 10) (.string (s.extract 0 1)) (.string ⟨#[]⟩) (.int .i64 0))
    refine bodyPost_ret (v := .agg #[.int .i64 10, .string (s.extract 0 1), .string ⟨#[]⟩, .int .i64 0]) (by simp [results, Tryd.results31, go_sem, e]) rfl ⟨?_, ?_⟩
    · rw [hP.out]
      exact ret_tok rfl (take_ex _ _) rfl rfl
    · exact (((HB3.out.setCell (by simp) _).setCell (by simp) _).setCell (by simp) _).setCell (by simp) _

set_option maxRecDepth 100000 in
set_option maxHeartbeats 8000000 in
theorem one_91 (s : ByteArray) (hs : s.size < 4294967281) (h0 : 0 < s.size) (w : World) (hsp : spaceP s.data.toList = 0) (hn : Lib.hasPrefix s.data.toList [47, 42] = false) (hnp : (numberP s.data.toList).2 = 0) (hbg : beginsP s.data.toList = false) (hx : nv s[0] = 91) :
    Calls Tryd.prog 31 #[.string s] w fun e w' => e = .returned (.agg (firstP s.data.toList).cells) ∧ Below w.heap.size w w' := by
  have hsl := space_len s.data.toList
  rw [← Lib.size_eq] at hsl
  have cT := fun w => trimL_ct s [32, 9, 10, 12, 13] (by decide) (by decide) w
  have hP : firstP s.data.toList = if 0 < spaceP s.data.toList then ⟨8, s.data.toList.take (spaceP s.data.toList), [], 0⟩ else
    if Lib.hasPrefix s.data.toList [47, 42] then noteP s.data.toList else
    if quoteP s.data.toList then textP s.data.toList else
    if hashP s.data.toList then namedP 4 s.data.toList 1 else
    if atP s.data.toList then namedP 3 s.data.toList 1 else
    if 0 < (numberP s.data.toList).2 then numTkP s.data.toList (numberP s.data.toList).1 (numberP s.data.toList).2 else
    if beginsP s.data.toList then wordP s.data.toList else ⟨oneK s.data.toList, s.data.toList.take 1, [], 0⟩ := rfl
  generalize hNP : firstP s.data.toList = NP at *
  clear hNP
  generalize hTT : Lib.trimLeftS s.data.toList [32, 9, 10, 12, 13] = T at *
  clear hTT
  replace cT := Lib.hid cT

  rw [if_neg (by omega : ¬ 0 < spaceP s.data.toList)] at hP
  have hsl1 : (s.size : Int) ≤ (T.length : Int) := by omega
  have hsl3 : (T.length : Int) ≤ (s.size : Int) := by omega
  clear hsl

  have cC : ∀ w, Calls Tryd.prog 45 #[.string s, .string ⟨#[47, 42]⟩] w fun e w' => e = .returned (.tuple #[.string ⟨(Lib.trimPrefix s.data.toList [47, 42]).toArray⟩, .bool false]) ∧ w = w' := fun w => by
    have := Tryd.strings_CutPrefix s (bs [47, 42]) w
    rw [show (bs [47, 42]).data.toList = [47, 42] from rfl, hn] at this
    exact this.mono fun e w' ⟨h1, h2⟩ => ⟨h1, h2.symm⟩

  rw [hn, if_neg (by simp)] at hP
  generalize Lib.trimPrefix s.data.toList [47, 42] = R at *
  replace cC := Lib.hid cC
  replace hn := Lib.hid hn

  have hh : hashP s.data.toList = false := by
    rcases Nat.lt_or_ge 1 s.size with h1 | h1
    · rw [hash_long h1, decide_eq_false (by omega : ¬ nv s[0] = 35)]
      rfl
    · exact hash_short h1
  have ha : atP s.data.toList = false := by rw [at_of h0, decide_eq_false (by omega : ¬ nv s[0] = 64)]; rfl

  have ho : oneK s.data.toList = 10 := by rw [one_of h0]; split <;> (try split) <;> (try split) <;> first | rfl | omega
  rw [quote_of h0, decide_eq_false (by omega : ¬ (nv s[0] = 39 ∨ nv s[0] = 34)), if_neg (by simp), hh, if_neg (by simp), ha, if_neg (by simp), if_neg (by omega), hbg, if_neg (by simp), ho] at hP

  have cN := fun w => number_ct s (by omega) w
  have hnn : (((numberP s.data.toList).2 : Nat) : Int) ≤ 0 := by omega
  generalize numberP s.data.toList = V at *
  obtain ⟨nm, nn⟩ := V
  simp only at hnn cN
  replace cN := Lib.hid cN

  have cB := fun w => begins_ct s (by unfold maxLen; omega) w
  simp only [hbg] at cB
  replace cB := Lib.hid cB
  clear hbg hh ha ho
  have q39 : ((s[0].toNat : Int) == 39) = false := by have h := hx; simp only [nv] at h; rw [beq_eq_false_iff_ne]; omega
  have q34 : ((s[0].toNat : Int) == 34) = false := by have h := hx; simp only [nv] at h; rw [beq_eq_false_iff_ne]; omega
  have q35 : ((s[0].toNat : Int) == 35) = false := by have h := hx; simp only [nv] at h; rw [beq_eq_false_iff_ne]; omega
  have q64 : ((s[0].toNat : Int) == 64) = false := by have h := hx; simp only [nv] at h; rw [beq_eq_false_iff_ne]; omega
  have q40 : ((s[0].toNat : Int) == 40) = false := by have h := hx; simp only [nv] at h; rw [beq_eq_false_iff_ne]; omega
  have q91 : ((s[0].toNat : Int) == 91) = true := by have h := hx; simp only [nv] at h; rw [h]; rfl
  have q123 : ((s[0].toNat : Int) == 123) = false := by have h := hx; simp only [nv] at h; rw [beq_eq_false_iff_ne]; omega
  have q41 : ((s[0].toNat : Int) == 41) = false := by have h := hx; simp only [nv] at h; rw [beq_eq_false_iff_ne]; omega
  have q93 : ((s[0].toNat : Int) == 93) = false := by have h := hx; simp only [nv] at h; rw [beq_eq_false_iff_ne]; omega
  have q125 : ((s[0].toNat : Int) == 125) = false := by have h := hx; simp only [nv] at h; rw [beq_eq_false_iff_ne]; omega
  have q92 : ((s[0].toNat : Int) == 92) = false := by have h := hx; simp only [nv] at h; rw [beq_eq_false_iff_ne]; omega

  replace hx := Lib.hid hx
  replace hP := Lib.hid hP

  go_enter Tryd.func31, Tryd.ntmps31
  go_wp2_with fail
  generalize hW0 : (w.alloc (.cells #[.string s] 9)).alloc (.cells #[.int .i64 0, .string ⟨#[]⟩, .string ⟨#[]⟩, .int .i64 0] 43) = W0
  have HB0 := Lib.hid (show Below w.heap.size w W0 by subst hW0; exact ((Below.refl _ _).alloc (Nat.le_refl _) _).alloc (by simp) _)
  have HZ : w.heap.size + 2 ≤ W0.heap.size := by subst hW0; simp
  have sB0 := Lib.hid (show Blk W0 w.heap.size 9 #[.string s] by subst hW0; exact (Blk.new rfl).alloc _)
  have rB0 := Lib.hid (show Blk W0 (w.heap.size + 1) 43 #[.int .i64 0, .string ⟨#[]⟩, .string ⟨#[]⟩, .int .i64 0] by subst hW0; exact Blk.new (by simp))
  have c0 : W0.cell? ⟨w.heap.size, 0, none⟩ = some (.string s) := sB0.out.cell 0
  clear hW0
  go_region_held3 (fun w' => (∀ b o, b < w.heap.size + 2 → w'.cell? ⟨b, o, none⟩ = W0.cell? ⟨b, o, none⟩) ∧ Below (w.heap.size + 2) W0 w')
    (first | exact As.beg | assumption | exact As.on hb3 (by assumption) HZ | exact As.alloc (by assumption) HZ)
    ((go_at_call 44; (with_reducible refine (cT.out _).mono ?_); rintro e W1 ⟨rfl, hb3⟩; have hS := Lib.hid (As.on (B := w.heap.size + 2) (W0 := W0) hb3 As.beg HZ)))
  all_goals
    rename_i hHeld
    clear hHeld
    have HB1 := Lib.hid (HB0.out.trans (hS.out.2.mono (by omega)))
    have sB := Lib.hid (sB0.out.below hS.out.2 (by omega))
    have rB := Lib.hid (rB0.out.below hS.out.2 (by omega))
    have rC := rB.out.cell
    have rF := rB.out.frozen
    have sF := sB.out.frozen
    have sz1 := rB.out.lt
    clear sB0 rB0 HB0 hS c0 hb3
    have sC := sB.out.cell
    go_wp2_with (first | (go_at_call 45; (with_reducible refine (cC.out _).mono ?_); rintro e w2 ⟨rfl, rfl⟩) | (go_at_call 51; (with_reducible refine (cB.out _).mono ?_); rintro e w2 ⟨rfl, rfl⟩) | (go_at_call 52; (with_reducible refine (cN.out _).mono ?_); rintro e W2 ⟨rfl, hb2⟩; have rB2 := Lib.hid (rB.out.below hb2 rB.out.lt); have HB2 := Lib.hid (HB1.out.trans (hb2.mono HB1.out.size)); have sB2 := Lib.hid (sB.out.below hb2 sB.out.lt); clear rC rF sC sF hb2; have rC := rB2.out.cell; have rF := rB2.out.frozen; have sC := sB2.out.cell; have sF := sB2.out.frozen; have sz2 := rB2.out.lt; have szs := sB2.out.lt) | (go_at_call 43; (with_reducible refine (one_ct 10 s w.heap.size _ hs h0 sB2.out).mono ?_); rintro e W3 ⟨rfl, hb2⟩; have rB3 := Lib.hid (rB2.out.below hb2 rB2.out.lt); have HB3 := Lib.hid (HB2.out.trans (hb2.mono HB2.out.size)); clear rC rF sC sF hb2; have rC := rB3.out.cell; have rF := rB3.out.frozen; have sz3 := rB3.out.lt))

    have e := Blk.cell (Blk.four (rB3.out) (.int .i64 10) (.string (s.extract 0 1)) (.string ⟨#[]⟩) (.int .i64 0))
    refine bodyPost_ret (v := .agg #[.int .i64 10, .string (s.extract 0 1), .string ⟨#[]⟩, .int .i64 0]) (by simp [results, Tryd.results31, go_sem, e]) rfl ⟨?_, ?_⟩
    · rw [hP.out]
      exact ret_tok rfl (take_ex _ _) rfl rfl
    · exact (((HB3.out.setCell (by simp) _).setCell (by simp) _).setCell (by simp) _).setCell (by simp) _

set_option maxRecDepth 100000 in
set_option maxHeartbeats 8000000 in
theorem one_123 (s : ByteArray) (hs : s.size < 4294967281) (h0 : 0 < s.size) (w : World) (hsp : spaceP s.data.toList = 0) (hn : Lib.hasPrefix s.data.toList [47, 42] = false) (hnp : (numberP s.data.toList).2 = 0) (hbg : beginsP s.data.toList = false) (hx : nv s[0] = 123) :
    Calls Tryd.prog 31 #[.string s] w fun e w' => e = .returned (.agg (firstP s.data.toList).cells) ∧ Below w.heap.size w w' := by
  have hsl := space_len s.data.toList
  rw [← Lib.size_eq] at hsl
  have cT := fun w => trimL_ct s [32, 9, 10, 12, 13] (by decide) (by decide) w
  have hP : firstP s.data.toList = if 0 < spaceP s.data.toList then ⟨8, s.data.toList.take (spaceP s.data.toList), [], 0⟩ else
    if Lib.hasPrefix s.data.toList [47, 42] then noteP s.data.toList else
    if quoteP s.data.toList then textP s.data.toList else
    if hashP s.data.toList then namedP 4 s.data.toList 1 else
    if atP s.data.toList then namedP 3 s.data.toList 1 else
    if 0 < (numberP s.data.toList).2 then numTkP s.data.toList (numberP s.data.toList).1 (numberP s.data.toList).2 else
    if beginsP s.data.toList then wordP s.data.toList else ⟨oneK s.data.toList, s.data.toList.take 1, [], 0⟩ := rfl
  generalize hNP : firstP s.data.toList = NP at *
  clear hNP
  generalize hTT : Lib.trimLeftS s.data.toList [32, 9, 10, 12, 13] = T at *
  clear hTT
  replace cT := Lib.hid cT

  rw [if_neg (by omega : ¬ 0 < spaceP s.data.toList)] at hP
  have hsl1 : (s.size : Int) ≤ (T.length : Int) := by omega
  have hsl3 : (T.length : Int) ≤ (s.size : Int) := by omega
  clear hsl

  have cC : ∀ w, Calls Tryd.prog 45 #[.string s, .string ⟨#[47, 42]⟩] w fun e w' => e = .returned (.tuple #[.string ⟨(Lib.trimPrefix s.data.toList [47, 42]).toArray⟩, .bool false]) ∧ w = w' := fun w => by
    have := Tryd.strings_CutPrefix s (bs [47, 42]) w
    rw [show (bs [47, 42]).data.toList = [47, 42] from rfl, hn] at this
    exact this.mono fun e w' ⟨h1, h2⟩ => ⟨h1, h2.symm⟩

  rw [hn, if_neg (by simp)] at hP
  generalize Lib.trimPrefix s.data.toList [47, 42] = R at *
  replace cC := Lib.hid cC
  replace hn := Lib.hid hn

  have hh : hashP s.data.toList = false := by
    rcases Nat.lt_or_ge 1 s.size with h1 | h1
    · rw [hash_long h1, decide_eq_false (by omega : ¬ nv s[0] = 35)]
      rfl
    · exact hash_short h1
  have ha : atP s.data.toList = false := by rw [at_of h0, decide_eq_false (by omega : ¬ nv s[0] = 64)]; rfl

  have ho : oneK s.data.toList = 10 := by rw [one_of h0]; split <;> (try split) <;> (try split) <;> first | rfl | omega
  rw [quote_of h0, decide_eq_false (by omega : ¬ (nv s[0] = 39 ∨ nv s[0] = 34)), if_neg (by simp), hh, if_neg (by simp), ha, if_neg (by simp), if_neg (by omega), hbg, if_neg (by simp), ho] at hP

  have cN := fun w => number_ct s (by omega) w
  have hnn : (((numberP s.data.toList).2 : Nat) : Int) ≤ 0 := by omega
  generalize numberP s.data.toList = V at *
  obtain ⟨nm, nn⟩ := V
  simp only at hnn cN
  replace cN := Lib.hid cN

  have cB := fun w => begins_ct s (by unfold maxLen; omega) w
  simp only [hbg] at cB
  replace cB := Lib.hid cB
  clear hbg hh ha ho
  have q39 : ((s[0].toNat : Int) == 39) = false := by have h := hx; simp only [nv] at h; rw [beq_eq_false_iff_ne]; omega
  have q34 : ((s[0].toNat : Int) == 34) = false := by have h := hx; simp only [nv] at h; rw [beq_eq_false_iff_ne]; omega
  have q35 : ((s[0].toNat : Int) == 35) = false := by have h := hx; simp only [nv] at h; rw [beq_eq_false_iff_ne]; omega
  have q64 : ((s[0].toNat : Int) == 64) = false := by have h := hx; simp only [nv] at h; rw [beq_eq_false_iff_ne]; omega
  have q40 : ((s[0].toNat : Int) == 40) = false := by have h := hx; simp only [nv] at h; rw [beq_eq_false_iff_ne]; omega
  have q91 : ((s[0].toNat : Int) == 91) = false := by have h := hx; simp only [nv] at h; rw [beq_eq_false_iff_ne]; omega
  have q123 : ((s[0].toNat : Int) == 123) = true := by have h := hx; simp only [nv] at h; rw [h]; rfl
  have q41 : ((s[0].toNat : Int) == 41) = false := by have h := hx; simp only [nv] at h; rw [beq_eq_false_iff_ne]; omega
  have q93 : ((s[0].toNat : Int) == 93) = false := by have h := hx; simp only [nv] at h; rw [beq_eq_false_iff_ne]; omega
  have q125 : ((s[0].toNat : Int) == 125) = false := by have h := hx; simp only [nv] at h; rw [beq_eq_false_iff_ne]; omega
  have q92 : ((s[0].toNat : Int) == 92) = false := by have h := hx; simp only [nv] at h; rw [beq_eq_false_iff_ne]; omega

  replace hx := Lib.hid hx
  replace hP := Lib.hid hP

  go_enter Tryd.func31, Tryd.ntmps31
  go_wp2_with fail
  generalize hW0 : (w.alloc (.cells #[.string s] 9)).alloc (.cells #[.int .i64 0, .string ⟨#[]⟩, .string ⟨#[]⟩, .int .i64 0] 43) = W0
  have HB0 := Lib.hid (show Below w.heap.size w W0 by subst hW0; exact ((Below.refl _ _).alloc (Nat.le_refl _) _).alloc (by simp) _)
  have HZ : w.heap.size + 2 ≤ W0.heap.size := by subst hW0; simp
  have sB0 := Lib.hid (show Blk W0 w.heap.size 9 #[.string s] by subst hW0; exact (Blk.new rfl).alloc _)
  have rB0 := Lib.hid (show Blk W0 (w.heap.size + 1) 43 #[.int .i64 0, .string ⟨#[]⟩, .string ⟨#[]⟩, .int .i64 0] by subst hW0; exact Blk.new (by simp))
  have c0 : W0.cell? ⟨w.heap.size, 0, none⟩ = some (.string s) := sB0.out.cell 0
  clear hW0
  go_region_held3 (fun w' => (∀ b o, b < w.heap.size + 2 → w'.cell? ⟨b, o, none⟩ = W0.cell? ⟨b, o, none⟩) ∧ Below (w.heap.size + 2) W0 w')
    (first | exact As.beg | assumption | exact As.on hb3 (by assumption) HZ | exact As.alloc (by assumption) HZ)
    ((go_at_call 44; (with_reducible refine (cT.out _).mono ?_); rintro e W1 ⟨rfl, hb3⟩; have hS := Lib.hid (As.on (B := w.heap.size + 2) (W0 := W0) hb3 As.beg HZ)))
  all_goals
    rename_i hHeld
    clear hHeld
    have HB1 := Lib.hid (HB0.out.trans (hS.out.2.mono (by omega)))
    have sB := Lib.hid (sB0.out.below hS.out.2 (by omega))
    have rB := Lib.hid (rB0.out.below hS.out.2 (by omega))
    have rC := rB.out.cell
    have rF := rB.out.frozen
    have sF := sB.out.frozen
    have sz1 := rB.out.lt
    clear sB0 rB0 HB0 hS c0 hb3
    have sC := sB.out.cell
    go_wp2_with (first | (go_at_call 45; (with_reducible refine (cC.out _).mono ?_); rintro e w2 ⟨rfl, rfl⟩) | (go_at_call 51; (with_reducible refine (cB.out _).mono ?_); rintro e w2 ⟨rfl, rfl⟩) | (go_at_call 52; (with_reducible refine (cN.out _).mono ?_); rintro e W2 ⟨rfl, hb2⟩; have rB2 := Lib.hid (rB.out.below hb2 rB.out.lt); have HB2 := Lib.hid (HB1.out.trans (hb2.mono HB1.out.size)); have sB2 := Lib.hid (sB.out.below hb2 sB.out.lt); clear rC rF sC sF hb2; have rC := rB2.out.cell; have rF := rB2.out.frozen; have sC := sB2.out.cell; have sF := sB2.out.frozen; have sz2 := rB2.out.lt; have szs := sB2.out.lt) | (go_at_call 43; (with_reducible refine (one_ct 10 s w.heap.size _ hs h0 sB2.out).mono ?_); rintro e W3 ⟨rfl, hb2⟩; have rB3 := Lib.hid (rB2.out.below hb2 rB2.out.lt); have HB3 := Lib.hid (HB2.out.trans (hb2.mono HB2.out.size)); clear rC rF sC sF hb2; have rC := rB3.out.cell; have rF := rB3.out.frozen; have sz3 := rB3.out.lt))

    have e := Blk.cell (Blk.four (rB3.out) (.int .i64 10) (.string (s.extract 0 1)) (.string ⟨#[]⟩) (.int .i64 0))
    refine bodyPost_ret (v := .agg #[.int .i64 10, .string (s.extract 0 1), .string ⟨#[]⟩, .int .i64 0]) (by simp [results, Tryd.results31, go_sem, e]) rfl ⟨?_, ?_⟩
    · rw [hP.out]
      exact ret_tok rfl (take_ex _ _) rfl rfl
    · exact (((HB3.out.setCell (by simp) _).setCell (by simp) _).setCell (by simp) _).setCell (by simp) _

set_option maxRecDepth 100000 in
set_option maxHeartbeats 8000000 in
theorem one_41 (s : ByteArray) (hs : s.size < 4294967281) (h0 : 0 < s.size) (w : World) (hsp : spaceP s.data.toList = 0) (hn : Lib.hasPrefix s.data.toList [47, 42] = false) (hnp : (numberP s.data.toList).2 = 0) (hbg : beginsP s.data.toList = false) (hx : nv s[0] = 41) :
    Calls Tryd.prog 31 #[.string s] w fun e w' => e = .returned (.agg (firstP s.data.toList).cells) ∧ Below w.heap.size w w' := by
  have hsl := space_len s.data.toList
  rw [← Lib.size_eq] at hsl
  have cT := fun w => trimL_ct s [32, 9, 10, 12, 13] (by decide) (by decide) w
  have hP : firstP s.data.toList = if 0 < spaceP s.data.toList then ⟨8, s.data.toList.take (spaceP s.data.toList), [], 0⟩ else
    if Lib.hasPrefix s.data.toList [47, 42] then noteP s.data.toList else
    if quoteP s.data.toList then textP s.data.toList else
    if hashP s.data.toList then namedP 4 s.data.toList 1 else
    if atP s.data.toList then namedP 3 s.data.toList 1 else
    if 0 < (numberP s.data.toList).2 then numTkP s.data.toList (numberP s.data.toList).1 (numberP s.data.toList).2 else
    if beginsP s.data.toList then wordP s.data.toList else ⟨oneK s.data.toList, s.data.toList.take 1, [], 0⟩ := rfl
  generalize hNP : firstP s.data.toList = NP at *
  clear hNP
  generalize hTT : Lib.trimLeftS s.data.toList [32, 9, 10, 12, 13] = T at *
  clear hTT
  replace cT := Lib.hid cT

  rw [if_neg (by omega : ¬ 0 < spaceP s.data.toList)] at hP
  have hsl1 : (s.size : Int) ≤ (T.length : Int) := by omega
  have hsl3 : (T.length : Int) ≤ (s.size : Int) := by omega
  clear hsl

  have cC : ∀ w, Calls Tryd.prog 45 #[.string s, .string ⟨#[47, 42]⟩] w fun e w' => e = .returned (.tuple #[.string ⟨(Lib.trimPrefix s.data.toList [47, 42]).toArray⟩, .bool false]) ∧ w = w' := fun w => by
    have := Tryd.strings_CutPrefix s (bs [47, 42]) w
    rw [show (bs [47, 42]).data.toList = [47, 42] from rfl, hn] at this
    exact this.mono fun e w' ⟨h1, h2⟩ => ⟨h1, h2.symm⟩

  rw [hn, if_neg (by simp)] at hP
  generalize Lib.trimPrefix s.data.toList [47, 42] = R at *
  replace cC := Lib.hid cC
  replace hn := Lib.hid hn

  have hh : hashP s.data.toList = false := by
    rcases Nat.lt_or_ge 1 s.size with h1 | h1
    · rw [hash_long h1, decide_eq_false (by omega : ¬ nv s[0] = 35)]
      rfl
    · exact hash_short h1
  have ha : atP s.data.toList = false := by rw [at_of h0, decide_eq_false (by omega : ¬ nv s[0] = 64)]; rfl

  have ho : oneK s.data.toList = 11 := by rw [one_of h0]; split <;> (try split) <;> (try split) <;> first | rfl | omega
  rw [quote_of h0, decide_eq_false (by omega : ¬ (nv s[0] = 39 ∨ nv s[0] = 34)), if_neg (by simp), hh, if_neg (by simp), ha, if_neg (by simp), if_neg (by omega), hbg, if_neg (by simp), ho] at hP

  have cN := fun w => number_ct s (by omega) w
  have hnn : (((numberP s.data.toList).2 : Nat) : Int) ≤ 0 := by omega
  generalize numberP s.data.toList = V at *
  obtain ⟨nm, nn⟩ := V
  simp only at hnn cN
  replace cN := Lib.hid cN

  have cB := fun w => begins_ct s (by unfold maxLen; omega) w
  simp only [hbg] at cB
  replace cB := Lib.hid cB
  clear hbg hh ha ho
  have q39 : ((s[0].toNat : Int) == 39) = false := by have h := hx; simp only [nv] at h; rw [beq_eq_false_iff_ne]; omega
  have q34 : ((s[0].toNat : Int) == 34) = false := by have h := hx; simp only [nv] at h; rw [beq_eq_false_iff_ne]; omega
  have q35 : ((s[0].toNat : Int) == 35) = false := by have h := hx; simp only [nv] at h; rw [beq_eq_false_iff_ne]; omega
  have q64 : ((s[0].toNat : Int) == 64) = false := by have h := hx; simp only [nv] at h; rw [beq_eq_false_iff_ne]; omega
  have q40 : ((s[0].toNat : Int) == 40) = false := by have h := hx; simp only [nv] at h; rw [beq_eq_false_iff_ne]; omega
  have q91 : ((s[0].toNat : Int) == 91) = false := by have h := hx; simp only [nv] at h; rw [beq_eq_false_iff_ne]; omega
  have q123 : ((s[0].toNat : Int) == 123) = false := by have h := hx; simp only [nv] at h; rw [beq_eq_false_iff_ne]; omega
  have q41 : ((s[0].toNat : Int) == 41) = true := by have h := hx; simp only [nv] at h; rw [h]; rfl
  have q93 : ((s[0].toNat : Int) == 93) = false := by have h := hx; simp only [nv] at h; rw [beq_eq_false_iff_ne]; omega
  have q125 : ((s[0].toNat : Int) == 125) = false := by have h := hx; simp only [nv] at h; rw [beq_eq_false_iff_ne]; omega
  have q92 : ((s[0].toNat : Int) == 92) = false := by have h := hx; simp only [nv] at h; rw [beq_eq_false_iff_ne]; omega

  replace hx := Lib.hid hx
  replace hP := Lib.hid hP

  go_enter Tryd.func31, Tryd.ntmps31
  go_wp2_with fail
  generalize hW0 : (w.alloc (.cells #[.string s] 9)).alloc (.cells #[.int .i64 0, .string ⟨#[]⟩, .string ⟨#[]⟩, .int .i64 0] 43) = W0
  have HB0 := Lib.hid (show Below w.heap.size w W0 by subst hW0; exact ((Below.refl _ _).alloc (Nat.le_refl _) _).alloc (by simp) _)
  have HZ : w.heap.size + 2 ≤ W0.heap.size := by subst hW0; simp
  have sB0 := Lib.hid (show Blk W0 w.heap.size 9 #[.string s] by subst hW0; exact (Blk.new rfl).alloc _)
  have rB0 := Lib.hid (show Blk W0 (w.heap.size + 1) 43 #[.int .i64 0, .string ⟨#[]⟩, .string ⟨#[]⟩, .int .i64 0] by subst hW0; exact Blk.new (by simp))
  have c0 : W0.cell? ⟨w.heap.size, 0, none⟩ = some (.string s) := sB0.out.cell 0
  clear hW0
  go_region_held3 (fun w' => (∀ b o, b < w.heap.size + 2 → w'.cell? ⟨b, o, none⟩ = W0.cell? ⟨b, o, none⟩) ∧ Below (w.heap.size + 2) W0 w')
    (first | exact As.beg | assumption | exact As.on hb3 (by assumption) HZ | exact As.alloc (by assumption) HZ)
    ((go_at_call 44; (with_reducible refine (cT.out _).mono ?_); rintro e W1 ⟨rfl, hb3⟩; have hS := Lib.hid (As.on (B := w.heap.size + 2) (W0 := W0) hb3 As.beg HZ)))
  all_goals
    rename_i hHeld
    clear hHeld
    have HB1 := Lib.hid (HB0.out.trans (hS.out.2.mono (by omega)))
    have sB := Lib.hid (sB0.out.below hS.out.2 (by omega))
    have rB := Lib.hid (rB0.out.below hS.out.2 (by omega))
    have rC := rB.out.cell
    have rF := rB.out.frozen
    have sF := sB.out.frozen
    have sz1 := rB.out.lt
    clear sB0 rB0 HB0 hS c0 hb3
    have sC := sB.out.cell
    go_wp2_with (first | (go_at_call 45; (with_reducible refine (cC.out _).mono ?_); rintro e w2 ⟨rfl, rfl⟩) | (go_at_call 51; (with_reducible refine (cB.out _).mono ?_); rintro e w2 ⟨rfl, rfl⟩) | (go_at_call 52; (with_reducible refine (cN.out _).mono ?_); rintro e W2 ⟨rfl, hb2⟩; have rB2 := Lib.hid (rB.out.below hb2 rB.out.lt); have HB2 := Lib.hid (HB1.out.trans (hb2.mono HB1.out.size)); have sB2 := Lib.hid (sB.out.below hb2 sB.out.lt); clear rC rF sC sF hb2; have rC := rB2.out.cell; have rF := rB2.out.frozen; have sC := sB2.out.cell; have sF := sB2.out.frozen; have sz2 := rB2.out.lt; have szs := sB2.out.lt) | (go_at_call 43; (with_reducible refine (one_ct 11 s w.heap.size _ hs h0 sB2.out).mono ?_); rintro e W3 ⟨rfl, hb2⟩; have rB3 := Lib.hid (rB2.out.below hb2 rB2.out.lt); have HB3 := Lib.hid (HB2.out.trans (hb2.mono HB2.out.size)); clear rC rF sC sF hb2; have rC := rB3.out.cell; have rF := rB3.out.frozen; have sz3 := rB3.out.lt))

    have e := Blk.cell (Blk.four (rB3.out) (.int .i64 11) (.string (s.extract 0 1)) (.string ⟨#[]⟩) (.int .i64 0))
    refine bodyPost_ret (v := .agg #[.int .i64 11, .string (s.extract 0 1), .string ⟨#[]⟩, .int .i64 0]) (by simp [results, Tryd.results31, go_sem, e]) rfl ⟨?_, ?_⟩
    · rw [hP.out]
      exact ret_tok rfl (take_ex _ _) rfl rfl
    · exact (((HB3.out.setCell (by simp) _).setCell (by simp) _).setCell (by simp) _).setCell (by simp) _

end Go.Proofs.YtmjbaimccbkmpaaDoor.tok

namespace Go.Proofs.YtmjbaimccbkmpaaDoor.tok
open Go.RowKit Go.Proofs.YtmjbaimccbkmpaaDoor.base
set_option linter.unusedVariables false

set_option maxRecDepth 100000 in
set_option maxHeartbeats 8000000 in
theorem one_93 (s : ByteArray) (hs : s.size < 4294967281) (h0 : 0 < s.size) (w : World) (hsp : spaceP s.data.toList = 0) (hn : Lib.hasPrefix s.data.toList [47, 42] = false) (hnp : (numberP s.data.toList).2 = 0) (hbg : beginsP s.data.toList = false) (hx : nv s[0] = 93) :
    Calls Tryd.prog 31 #[.string s] w fun e w' => e = .returned (.agg (firstP s.data.toList).cells) ∧ Below w.heap.size w w' := by
  have hsl := space_len s.data.toList
  rw [← Lib.size_eq] at hsl
  have cT := fun w => trimL_ct s [32, 9, 10, 12, 13] (by decide) (by decide) w
  have hP : firstP s.data.toList = if 0 < spaceP s.data.toList then ⟨8, s.data.toList.take (spaceP s.data.toList), [], 0⟩ else
    if Lib.hasPrefix s.data.toList [47, 42] then noteP s.data.toList else
    if quoteP s.data.toList then textP s.data.toList else
    if hashP s.data.toList then namedP 4 s.data.toList 1 else
    if atP s.data.toList then namedP 3 s.data.toList 1 else
    if 0 < (numberP s.data.toList).2 then numTkP s.data.toList (numberP s.data.toList).1 (numberP s.data.toList).2 else
    if beginsP s.data.toList then wordP s.data.toList else ⟨oneK s.data.toList, s.data.toList.take 1, [], 0⟩ := rfl
  generalize hNP : firstP s.data.toList = NP at *
  clear hNP
  generalize hTT : Lib.trimLeftS s.data.toList [32, 9, 10, 12, 13] = T at *
  clear hTT
  replace cT := Lib.hid cT

  rw [if_neg (by omega : ¬ 0 < spaceP s.data.toList)] at hP
  have hsl1 : (s.size : Int) ≤ (T.length : Int) := by omega
  have hsl3 : (T.length : Int) ≤ (s.size : Int) := by omega
  clear hsl

  have cC : ∀ w, Calls Tryd.prog 45 #[.string s, .string ⟨#[47, 42]⟩] w fun e w' => e = .returned (.tuple #[.string ⟨(Lib.trimPrefix s.data.toList [47, 42]).toArray⟩, .bool false]) ∧ w = w' := fun w => by
    have := Tryd.strings_CutPrefix s (bs [47, 42]) w
    rw [show (bs [47, 42]).data.toList = [47, 42] from rfl, hn] at this
    exact this.mono fun e w' ⟨h1, h2⟩ => ⟨h1, h2.symm⟩

  rw [hn, if_neg (by simp)] at hP
  generalize Lib.trimPrefix s.data.toList [47, 42] = R at *
  replace cC := Lib.hid cC
  replace hn := Lib.hid hn

  have hh : hashP s.data.toList = false := by
    rcases Nat.lt_or_ge 1 s.size with h1 | h1
    · rw [hash_long h1, decide_eq_false (by omega : ¬ nv s[0] = 35)]
      rfl
    · exact hash_short h1
  have ha : atP s.data.toList = false := by rw [at_of h0, decide_eq_false (by omega : ¬ nv s[0] = 64)]; rfl

  have ho : oneK s.data.toList = 11 := by rw [one_of h0]; split <;> (try split) <;> (try split) <;> first | rfl | omega
  rw [quote_of h0, decide_eq_false (by omega : ¬ (nv s[0] = 39 ∨ nv s[0] = 34)), if_neg (by simp), hh, if_neg (by simp), ha, if_neg (by simp), if_neg (by omega), hbg, if_neg (by simp), ho] at hP

  have cN := fun w => number_ct s (by omega) w
  have hnn : (((numberP s.data.toList).2 : Nat) : Int) ≤ 0 := by omega
  generalize numberP s.data.toList = V at *
  obtain ⟨nm, nn⟩ := V
  simp only at hnn cN
  replace cN := Lib.hid cN

  have cB := fun w => begins_ct s (by unfold maxLen; omega) w
  simp only [hbg] at cB
  replace cB := Lib.hid cB
  clear hbg hh ha ho
  have q39 : ((s[0].toNat : Int) == 39) = false := by have h := hx; simp only [nv] at h; rw [beq_eq_false_iff_ne]; omega
  have q34 : ((s[0].toNat : Int) == 34) = false := by have h := hx; simp only [nv] at h; rw [beq_eq_false_iff_ne]; omega
  have q35 : ((s[0].toNat : Int) == 35) = false := by have h := hx; simp only [nv] at h; rw [beq_eq_false_iff_ne]; omega
  have q64 : ((s[0].toNat : Int) == 64) = false := by have h := hx; simp only [nv] at h; rw [beq_eq_false_iff_ne]; omega
  have q40 : ((s[0].toNat : Int) == 40) = false := by have h := hx; simp only [nv] at h; rw [beq_eq_false_iff_ne]; omega
  have q91 : ((s[0].toNat : Int) == 91) = false := by have h := hx; simp only [nv] at h; rw [beq_eq_false_iff_ne]; omega
  have q123 : ((s[0].toNat : Int) == 123) = false := by have h := hx; simp only [nv] at h; rw [beq_eq_false_iff_ne]; omega
  have q41 : ((s[0].toNat : Int) == 41) = false := by have h := hx; simp only [nv] at h; rw [beq_eq_false_iff_ne]; omega
  have q93 : ((s[0].toNat : Int) == 93) = true := by have h := hx; simp only [nv] at h; rw [h]; rfl
  have q125 : ((s[0].toNat : Int) == 125) = false := by have h := hx; simp only [nv] at h; rw [beq_eq_false_iff_ne]; omega
  have q92 : ((s[0].toNat : Int) == 92) = false := by have h := hx; simp only [nv] at h; rw [beq_eq_false_iff_ne]; omega

  replace hx := Lib.hid hx
  replace hP := Lib.hid hP

  go_enter Tryd.func31, Tryd.ntmps31
  go_wp2_with fail
  generalize hW0 : (w.alloc (.cells #[.string s] 9)).alloc (.cells #[.int .i64 0, .string ⟨#[]⟩, .string ⟨#[]⟩, .int .i64 0] 43) = W0
  have HB0 := Lib.hid (show Below w.heap.size w W0 by subst hW0; exact ((Below.refl _ _).alloc (Nat.le_refl _) _).alloc (by simp) _)
  have HZ : w.heap.size + 2 ≤ W0.heap.size := by subst hW0; simp
  have sB0 := Lib.hid (show Blk W0 w.heap.size 9 #[.string s] by subst hW0; exact (Blk.new rfl).alloc _)
  have rB0 := Lib.hid (show Blk W0 (w.heap.size + 1) 43 #[.int .i64 0, .string ⟨#[]⟩, .string ⟨#[]⟩, .int .i64 0] by subst hW0; exact Blk.new (by simp))
  have c0 : W0.cell? ⟨w.heap.size, 0, none⟩ = some (.string s) := sB0.out.cell 0
  clear hW0
  go_region_held3 (fun w' => (∀ b o, b < w.heap.size + 2 → w'.cell? ⟨b, o, none⟩ = W0.cell? ⟨b, o, none⟩) ∧ Below (w.heap.size + 2) W0 w')
    (first | exact As.beg | assumption | exact As.on hb3 (by assumption) HZ | exact As.alloc (by assumption) HZ)
    ((go_at_call 44; (with_reducible refine (cT.out _).mono ?_); rintro e W1 ⟨rfl, hb3⟩; have hS := Lib.hid (As.on (B := w.heap.size + 2) (W0 := W0) hb3 As.beg HZ)))
  all_goals
    rename_i hHeld
    clear hHeld
    have HB1 := Lib.hid (HB0.out.trans (hS.out.2.mono (by omega)))
    have sB := Lib.hid (sB0.out.below hS.out.2 (by omega))
    have rB := Lib.hid (rB0.out.below hS.out.2 (by omega))
    have rC := rB.out.cell
    have rF := rB.out.frozen
    have sF := sB.out.frozen
    have sz1 := rB.out.lt
    clear sB0 rB0 HB0 hS c0 hb3
    have sC := sB.out.cell
    go_wp2_with (first | (go_at_call 45; (with_reducible refine (cC.out _).mono ?_); rintro e w2 ⟨rfl, rfl⟩) | (go_at_call 51; (with_reducible refine (cB.out _).mono ?_); rintro e w2 ⟨rfl, rfl⟩) | (go_at_call 52; (with_reducible refine (cN.out _).mono ?_); rintro e W2 ⟨rfl, hb2⟩; have rB2 := Lib.hid (rB.out.below hb2 rB.out.lt); have HB2 := Lib.hid (HB1.out.trans (hb2.mono HB1.out.size)); have sB2 := Lib.hid (sB.out.below hb2 sB.out.lt); clear rC rF sC sF hb2; have rC := rB2.out.cell; have rF := rB2.out.frozen; have sC := sB2.out.cell; have sF := sB2.out.frozen; have sz2 := rB2.out.lt; have szs := sB2.out.lt) | (go_at_call 43; (with_reducible refine (one_ct 11 s w.heap.size _ hs h0 sB2.out).mono ?_); rintro e W3 ⟨rfl, hb2⟩; have rB3 := Lib.hid (rB2.out.below hb2 rB2.out.lt); have HB3 := Lib.hid (HB2.out.trans (hb2.mono HB2.out.size)); clear rC rF sC sF hb2; have rC := rB3.out.cell; have rF := rB3.out.frozen; have sz3 := rB3.out.lt))

    have e := Blk.cell (Blk.four (rB3.out) (.int .i64 11) (.string (s.extract 0 1)) (.string ⟨#[]⟩) (.int .i64 0))
    refine bodyPost_ret (v := .agg #[.int .i64 11, .string (s.extract 0 1), .string ⟨#[]⟩, .int .i64 0]) (by simp [results, Tryd.results31, go_sem, e]) rfl ⟨?_, ?_⟩
    · rw [hP.out]
      exact ret_tok rfl (take_ex _ _) rfl rfl
    · exact (((HB3.out.setCell (by simp) _).setCell (by simp) _).setCell (by simp) _).setCell (by simp) _

set_option maxRecDepth 100000 in
set_option maxHeartbeats 8000000 in
theorem one_125 (s : ByteArray) (hs : s.size < 4294967281) (h0 : 0 < s.size) (w : World) (hsp : spaceP s.data.toList = 0) (hn : Lib.hasPrefix s.data.toList [47, 42] = false) (hnp : (numberP s.data.toList).2 = 0) (hbg : beginsP s.data.toList = false) (hx : nv s[0] = 125) :
    Calls Tryd.prog 31 #[.string s] w fun e w' => e = .returned (.agg (firstP s.data.toList).cells) ∧ Below w.heap.size w w' := by
  have hsl := space_len s.data.toList
  rw [← Lib.size_eq] at hsl
  have cT := fun w => trimL_ct s [32, 9, 10, 12, 13] (by decide) (by decide) w
  have hP : firstP s.data.toList = if 0 < spaceP s.data.toList then ⟨8, s.data.toList.take (spaceP s.data.toList), [], 0⟩ else
    if Lib.hasPrefix s.data.toList [47, 42] then noteP s.data.toList else
    if quoteP s.data.toList then textP s.data.toList else
    if hashP s.data.toList then namedP 4 s.data.toList 1 else
    if atP s.data.toList then namedP 3 s.data.toList 1 else
    if 0 < (numberP s.data.toList).2 then numTkP s.data.toList (numberP s.data.toList).1 (numberP s.data.toList).2 else
    if beginsP s.data.toList then wordP s.data.toList else ⟨oneK s.data.toList, s.data.toList.take 1, [], 0⟩ := rfl
  generalize hNP : firstP s.data.toList = NP at *
  clear hNP
  generalize hTT : Lib.trimLeftS s.data.toList [32, 9, 10, 12, 13] = T at *
  clear hTT
  replace cT := Lib.hid cT

  rw [if_neg (by omega : ¬ 0 < spaceP s.data.toList)] at hP
  have hsl1 : (s.size : Int) ≤ (T.length : Int) := by omega
  have hsl3 : (T.length : Int) ≤ (s.size : Int) := by omega
  clear hsl

  have cC : ∀ w, Calls Tryd.prog 45 #[.string s, .string ⟨#[47, 42]⟩] w fun e w' => e = .returned (.tuple #[.string ⟨(Lib.trimPrefix s.data.toList [47, 42]).toArray⟩, .bool false]) ∧ w = w' := fun w => by
    have := Tryd.strings_CutPrefix s (bs [47, 42]) w
    rw [show (bs [47, 42]).data.toList = [47, 42] from rfl, hn] at this
    exact this.mono fun e w' ⟨h1, h2⟩ => ⟨h1, h2.symm⟩

  rw [hn, if_neg (by simp)] at hP
  generalize Lib.trimPrefix s.data.toList [47, 42] = R at *
  replace cC := Lib.hid cC
  replace hn := Lib.hid hn

  have hh : hashP s.data.toList = false := by
    rcases Nat.lt_or_ge 1 s.size with h1 | h1
    · rw [hash_long h1, decide_eq_false (by omega : ¬ nv s[0] = 35)]
      rfl
    · exact hash_short h1
  have ha : atP s.data.toList = false := by rw [at_of h0, decide_eq_false (by omega : ¬ nv s[0] = 64)]; rfl

  have ho : oneK s.data.toList = 11 := by rw [one_of h0]; split <;> (try split) <;> (try split) <;> first | rfl | omega
  rw [quote_of h0, decide_eq_false (by omega : ¬ (nv s[0] = 39 ∨ nv s[0] = 34)), if_neg (by simp), hh, if_neg (by simp), ha, if_neg (by simp), if_neg (by omega), hbg, if_neg (by simp), ho] at hP

  have cN := fun w => number_ct s (by omega) w
  have hnn : (((numberP s.data.toList).2 : Nat) : Int) ≤ 0 := by omega
  generalize numberP s.data.toList = V at *
  obtain ⟨nm, nn⟩ := V
  simp only at hnn cN
  replace cN := Lib.hid cN

  have cB := fun w => begins_ct s (by unfold maxLen; omega) w
  simp only [hbg] at cB
  replace cB := Lib.hid cB
  clear hbg hh ha ho
  have q39 : ((s[0].toNat : Int) == 39) = false := by have h := hx; simp only [nv] at h; rw [beq_eq_false_iff_ne]; omega
  have q34 : ((s[0].toNat : Int) == 34) = false := by have h := hx; simp only [nv] at h; rw [beq_eq_false_iff_ne]; omega
  have q35 : ((s[0].toNat : Int) == 35) = false := by have h := hx; simp only [nv] at h; rw [beq_eq_false_iff_ne]; omega
  have q64 : ((s[0].toNat : Int) == 64) = false := by have h := hx; simp only [nv] at h; rw [beq_eq_false_iff_ne]; omega
  have q40 : ((s[0].toNat : Int) == 40) = false := by have h := hx; simp only [nv] at h; rw [beq_eq_false_iff_ne]; omega
  have q91 : ((s[0].toNat : Int) == 91) = false := by have h := hx; simp only [nv] at h; rw [beq_eq_false_iff_ne]; omega
  have q123 : ((s[0].toNat : Int) == 123) = false := by have h := hx; simp only [nv] at h; rw [beq_eq_false_iff_ne]; omega
  have q41 : ((s[0].toNat : Int) == 41) = false := by have h := hx; simp only [nv] at h; rw [beq_eq_false_iff_ne]; omega
  have q93 : ((s[0].toNat : Int) == 93) = false := by have h := hx; simp only [nv] at h; rw [beq_eq_false_iff_ne]; omega
  have q125 : ((s[0].toNat : Int) == 125) = true := by have h := hx; simp only [nv] at h; rw [h]; rfl
  have q92 : ((s[0].toNat : Int) == 92) = false := by have h := hx; simp only [nv] at h; rw [beq_eq_false_iff_ne]; omega

  replace hx := Lib.hid hx
  replace hP := Lib.hid hP

  go_enter Tryd.func31, Tryd.ntmps31
  go_wp2_with fail
  generalize hW0 : (w.alloc (.cells #[.string s] 9)).alloc (.cells #[.int .i64 0, .string ⟨#[]⟩, .string ⟨#[]⟩, .int .i64 0] 43) = W0
  have HB0 := Lib.hid (show Below w.heap.size w W0 by subst hW0; exact ((Below.refl _ _).alloc (Nat.le_refl _) _).alloc (by simp) _)
  have HZ : w.heap.size + 2 ≤ W0.heap.size := by subst hW0; simp
  have sB0 := Lib.hid (show Blk W0 w.heap.size 9 #[.string s] by subst hW0; exact (Blk.new rfl).alloc _)
  have rB0 := Lib.hid (show Blk W0 (w.heap.size + 1) 43 #[.int .i64 0, .string ⟨#[]⟩, .string ⟨#[]⟩, .int .i64 0] by subst hW0; exact Blk.new (by simp))
  have c0 : W0.cell? ⟨w.heap.size, 0, none⟩ = some (.string s) := sB0.out.cell 0
  clear hW0
  go_region_held3 (fun w' => (∀ b o, b < w.heap.size + 2 → w'.cell? ⟨b, o, none⟩ = W0.cell? ⟨b, o, none⟩) ∧ Below (w.heap.size + 2) W0 w')
    (first | exact As.beg | assumption | exact As.on hb3 (by assumption) HZ | exact As.alloc (by assumption) HZ)
    ((go_at_call 44; (with_reducible refine (cT.out _).mono ?_); rintro e W1 ⟨rfl, hb3⟩; have hS := Lib.hid (As.on (B := w.heap.size + 2) (W0 := W0) hb3 As.beg HZ)))
  all_goals
    rename_i hHeld
    clear hHeld
    have HB1 := Lib.hid (HB0.out.trans (hS.out.2.mono (by omega)))
    have sB := Lib.hid (sB0.out.below hS.out.2 (by omega))
    have rB := Lib.hid (rB0.out.below hS.out.2 (by omega))
    have rC := rB.out.cell
    have rF := rB.out.frozen
    have sF := sB.out.frozen
    have sz1 := rB.out.lt
    clear sB0 rB0 HB0 hS c0 hb3
    have sC := sB.out.cell
    go_wp2_with (first | (go_at_call 45; (with_reducible refine (cC.out _).mono ?_); rintro e w2 ⟨rfl, rfl⟩) | (go_at_call 51; (with_reducible refine (cB.out _).mono ?_); rintro e w2 ⟨rfl, rfl⟩) | (go_at_call 52; (with_reducible refine (cN.out _).mono ?_); rintro e W2 ⟨rfl, hb2⟩; have rB2 := Lib.hid (rB.out.below hb2 rB.out.lt); have HB2 := Lib.hid (HB1.out.trans (hb2.mono HB1.out.size)); have sB2 := Lib.hid (sB.out.below hb2 sB.out.lt); clear rC rF sC sF hb2; have rC := rB2.out.cell; have rF := rB2.out.frozen; have sC := sB2.out.cell; have sF := sB2.out.frozen; have sz2 := rB2.out.lt; have szs := sB2.out.lt) | (go_at_call 43; (with_reducible refine (one_ct 11 s w.heap.size _ hs h0 sB2.out).mono ?_); rintro e W3 ⟨rfl, hb2⟩; have rB3 := Lib.hid (rB2.out.below hb2 rB2.out.lt); have HB3 := Lib.hid (HB2.out.trans (hb2.mono HB2.out.size)); clear rC rF sC sF hb2; have rC := rB3.out.cell; have rF := rB3.out.frozen; have sz3 := rB3.out.lt))

    have e := Blk.cell (Blk.four (rB3.out) (.int .i64 11) (.string (s.extract 0 1)) (.string ⟨#[]⟩) (.int .i64 0))
    refine bodyPost_ret (v := .agg #[.int .i64 11, .string (s.extract 0 1), .string ⟨#[]⟩, .int .i64 0]) (by simp [results, Tryd.results31, go_sem, e]) rfl ⟨?_, ?_⟩
    · rw [hP.out]
      exact ret_tok rfl (take_ex _ _) rfl rfl
    · exact (((HB3.out.setCell (by simp) _).setCell (by simp) _).setCell (by simp) _).setCell (by simp) _

set_option maxRecDepth 100000 in
set_option maxHeartbeats 8000000 in
theorem one_92 (s : ByteArray) (hs : s.size < 4294967281) (h0 : 0 < s.size) (w : World) (hsp : spaceP s.data.toList = 0) (hn : Lib.hasPrefix s.data.toList [47, 42] = false) (hnp : (numberP s.data.toList).2 = 0) (hbg : beginsP s.data.toList = false) (hx : nv s[0] = 92) :
    Calls Tryd.prog 31 #[.string s] w fun e w' => e = .returned (.agg (firstP s.data.toList).cells) ∧ Below w.heap.size w w' := by
  have hsl := space_len s.data.toList
  rw [← Lib.size_eq] at hsl
  have cT := fun w => trimL_ct s [32, 9, 10, 12, 13] (by decide) (by decide) w
  have hP : firstP s.data.toList = if 0 < spaceP s.data.toList then ⟨8, s.data.toList.take (spaceP s.data.toList), [], 0⟩ else
    if Lib.hasPrefix s.data.toList [47, 42] then noteP s.data.toList else
    if quoteP s.data.toList then textP s.data.toList else
    if hashP s.data.toList then namedP 4 s.data.toList 1 else
    if atP s.data.toList then namedP 3 s.data.toList 1 else
    if 0 < (numberP s.data.toList).2 then numTkP s.data.toList (numberP s.data.toList).1 (numberP s.data.toList).2 else
    if beginsP s.data.toList then wordP s.data.toList else ⟨oneK s.data.toList, s.data.toList.take 1, [], 0⟩ := rfl
  generalize hNP : firstP s.data.toList = NP at *
  clear hNP
  generalize hTT : Lib.trimLeftS s.data.toList [32, 9, 10, 12, 13] = T at *
  clear hTT
  replace cT := Lib.hid cT

  rw [if_neg (by omega : ¬ 0 < spaceP s.data.toList)] at hP
  have hsl1 : (s.size : Int) ≤ (T.length : Int) := by omega
  have hsl3 : (T.length : Int) ≤ (s.size : Int) := by omega
  clear hsl

  have cC : ∀ w, Calls Tryd.prog 45 #[.string s, .string ⟨#[47, 42]⟩] w fun e w' => e = .returned (.tuple #[.string ⟨(Lib.trimPrefix s.data.toList [47, 42]).toArray⟩, .bool false]) ∧ w = w' := fun w => by
    have := Tryd.strings_CutPrefix s (bs [47, 42]) w
    rw [show (bs [47, 42]).data.toList = [47, 42] from rfl, hn] at this
    exact this.mono fun e w' ⟨h1, h2⟩ => ⟨h1, h2.symm⟩

  rw [hn, if_neg (by simp)] at hP
  generalize Lib.trimPrefix s.data.toList [47, 42] = R at *
  replace cC := Lib.hid cC
  replace hn := Lib.hid hn

  have hh : hashP s.data.toList = false := by
    rcases Nat.lt_or_ge 1 s.size with h1 | h1
    · rw [hash_long h1, decide_eq_false (by omega : ¬ nv s[0] = 35)]
      rfl
    · exact hash_short h1
  have ha : atP s.data.toList = false := by rw [at_of h0, decide_eq_false (by omega : ¬ nv s[0] = 64)]; rfl

  have ho : oneK s.data.toList = 6 := by rw [one_of h0]; split <;> (try split) <;> (try split) <;> first | rfl | omega
  rw [quote_of h0, decide_eq_false (by omega : ¬ (nv s[0] = 39 ∨ nv s[0] = 34)), if_neg (by simp), hh, if_neg (by simp), ha, if_neg (by simp), if_neg (by omega), hbg, if_neg (by simp), ho] at hP

  have cN := fun w => number_ct s (by omega) w
  have hnn : (((numberP s.data.toList).2 : Nat) : Int) ≤ 0 := by omega
  generalize numberP s.data.toList = V at *
  obtain ⟨nm, nn⟩ := V
  simp only at hnn cN
  replace cN := Lib.hid cN

  have cB := fun w => begins_ct s (by unfold maxLen; omega) w
  simp only [hbg] at cB
  replace cB := Lib.hid cB
  clear hbg hh ha ho
  have q39 : ((s[0].toNat : Int) == 39) = false := by have h := hx; simp only [nv] at h; rw [beq_eq_false_iff_ne]; omega
  have q34 : ((s[0].toNat : Int) == 34) = false := by have h := hx; simp only [nv] at h; rw [beq_eq_false_iff_ne]; omega
  have q35 : ((s[0].toNat : Int) == 35) = false := by have h := hx; simp only [nv] at h; rw [beq_eq_false_iff_ne]; omega
  have q64 : ((s[0].toNat : Int) == 64) = false := by have h := hx; simp only [nv] at h; rw [beq_eq_false_iff_ne]; omega
  have q40 : ((s[0].toNat : Int) == 40) = false := by have h := hx; simp only [nv] at h; rw [beq_eq_false_iff_ne]; omega
  have q91 : ((s[0].toNat : Int) == 91) = false := by have h := hx; simp only [nv] at h; rw [beq_eq_false_iff_ne]; omega
  have q123 : ((s[0].toNat : Int) == 123) = false := by have h := hx; simp only [nv] at h; rw [beq_eq_false_iff_ne]; omega
  have q41 : ((s[0].toNat : Int) == 41) = false := by have h := hx; simp only [nv] at h; rw [beq_eq_false_iff_ne]; omega
  have q93 : ((s[0].toNat : Int) == 93) = false := by have h := hx; simp only [nv] at h; rw [beq_eq_false_iff_ne]; omega
  have q125 : ((s[0].toNat : Int) == 125) = false := by have h := hx; simp only [nv] at h; rw [beq_eq_false_iff_ne]; omega
  have q92 : ((s[0].toNat : Int) == 92) = true := by have h := hx; simp only [nv] at h; rw [h]; rfl

  replace hx := Lib.hid hx
  replace hP := Lib.hid hP

  go_enter Tryd.func31, Tryd.ntmps31
  go_wp2_with fail
  generalize hW0 : (w.alloc (.cells #[.string s] 9)).alloc (.cells #[.int .i64 0, .string ⟨#[]⟩, .string ⟨#[]⟩, .int .i64 0] 43) = W0
  have HB0 := Lib.hid (show Below w.heap.size w W0 by subst hW0; exact ((Below.refl _ _).alloc (Nat.le_refl _) _).alloc (by simp) _)
  have HZ : w.heap.size + 2 ≤ W0.heap.size := by subst hW0; simp
  have sB0 := Lib.hid (show Blk W0 w.heap.size 9 #[.string s] by subst hW0; exact (Blk.new rfl).alloc _)
  have rB0 := Lib.hid (show Blk W0 (w.heap.size + 1) 43 #[.int .i64 0, .string ⟨#[]⟩, .string ⟨#[]⟩, .int .i64 0] by subst hW0; exact Blk.new (by simp))
  have c0 : W0.cell? ⟨w.heap.size, 0, none⟩ = some (.string s) := sB0.out.cell 0
  clear hW0
  go_region_held3 (fun w' => (∀ b o, b < w.heap.size + 2 → w'.cell? ⟨b, o, none⟩ = W0.cell? ⟨b, o, none⟩) ∧ Below (w.heap.size + 2) W0 w')
    (first | exact As.beg | assumption | exact As.on hb3 (by assumption) HZ | exact As.alloc (by assumption) HZ)
    ((go_at_call 44; (with_reducible refine (cT.out _).mono ?_); rintro e W1 ⟨rfl, hb3⟩; have hS := Lib.hid (As.on (B := w.heap.size + 2) (W0 := W0) hb3 As.beg HZ)))
  all_goals
    rename_i hHeld
    clear hHeld
    have HB1 := Lib.hid (HB0.out.trans (hS.out.2.mono (by omega)))
    have sB := Lib.hid (sB0.out.below hS.out.2 (by omega))
    have rB := Lib.hid (rB0.out.below hS.out.2 (by omega))
    have rC := rB.out.cell
    have rF := rB.out.frozen
    have sF := sB.out.frozen
    have sz1 := rB.out.lt
    clear sB0 rB0 HB0 hS c0 hb3
    have sC := sB.out.cell
    go_wp2_with (first | (go_at_call 45; (with_reducible refine (cC.out _).mono ?_); rintro e w2 ⟨rfl, rfl⟩) | (go_at_call 51; (with_reducible refine (cB.out _).mono ?_); rintro e w2 ⟨rfl, rfl⟩) | (go_at_call 52; (with_reducible refine (cN.out _).mono ?_); rintro e W2 ⟨rfl, hb2⟩; have rB2 := Lib.hid (rB.out.below hb2 rB.out.lt); have HB2 := Lib.hid (HB1.out.trans (hb2.mono HB1.out.size)); have sB2 := Lib.hid (sB.out.below hb2 sB.out.lt); clear rC rF sC sF hb2; have rC := rB2.out.cell; have rF := rB2.out.frozen; have sC := sB2.out.cell; have sF := sB2.out.frozen; have sz2 := rB2.out.lt; have szs := sB2.out.lt) | (go_at_call 43; (with_reducible refine (one_ct 6 s w.heap.size _ hs h0 sB2.out).mono ?_); rintro e W3 ⟨rfl, hb2⟩; have rB3 := Lib.hid (rB2.out.below hb2 rB2.out.lt); have HB3 := Lib.hid (HB2.out.trans (hb2.mono HB2.out.size)); clear rC rF sC sF hb2; have rC := rB3.out.cell; have rF := rB3.out.frozen; have sz3 := rB3.out.lt))

    have e := Blk.cell (Blk.four (rB3.out) (.int .i64 6) (.string (s.extract 0 1)) (.string ⟨#[]⟩) (.int .i64 0))
    refine bodyPost_ret (v := .agg #[.int .i64 6, .string (s.extract 0 1), .string ⟨#[]⟩, .int .i64 0]) (by simp [results, Tryd.results31, go_sem, e]) rfl ⟨?_, ?_⟩
    · rw [hP.out]
      exact ret_tok rfl (take_ex _ _) rfl rfl
    · exact (((HB3.out.setCell (by simp) _).setCell (by simp) _).setCell (by simp) _).setCell (by simp) _

set_option maxRecDepth 100000 in
set_option maxHeartbeats 8000000 in
theorem one_other (s : ByteArray) (hs : s.size < 4294967281) (h0 : 0 < s.size) (w : World) (hsp : spaceP s.data.toList = 0) (hn : Lib.hasPrefix s.data.toList [47, 42] = false) (hnp : (numberP s.data.toList).2 = 0) (hbg : beginsP s.data.toList = false) (hx : ¬ nv s[0] = 39 ∧ ¬ nv s[0] = 34 ∧ ¬ nv s[0] = 35 ∧ ¬ nv s[0] = 64 ∧ ¬ nv s[0] = 40 ∧ ¬ nv s[0] = 91 ∧ ¬ nv s[0] = 123 ∧ ¬ nv s[0] = 41 ∧ ¬ nv s[0] = 93 ∧ ¬ nv s[0] = 125 ∧ ¬ nv s[0] = 92) :
    Calls Tryd.prog 31 #[.string s] w fun e w' => e = .returned (.agg (firstP s.data.toList).cells) ∧ Below w.heap.size w w' := by
  have hsl := space_len s.data.toList
  rw [← Lib.size_eq] at hsl
  have cT := fun w => trimL_ct s [32, 9, 10, 12, 13] (by decide) (by decide) w
  have hP : firstP s.data.toList = if 0 < spaceP s.data.toList then ⟨8, s.data.toList.take (spaceP s.data.toList), [], 0⟩ else
    if Lib.hasPrefix s.data.toList [47, 42] then noteP s.data.toList else
    if quoteP s.data.toList then textP s.data.toList else
    if hashP s.data.toList then namedP 4 s.data.toList 1 else
    if atP s.data.toList then namedP 3 s.data.toList 1 else
    if 0 < (numberP s.data.toList).2 then numTkP s.data.toList (numberP s.data.toList).1 (numberP s.data.toList).2 else
    if beginsP s.data.toList then wordP s.data.toList else ⟨oneK s.data.toList, s.data.toList.take 1, [], 0⟩ := rfl
  generalize hNP : firstP s.data.toList = NP at *
  clear hNP
  generalize hTT : Lib.trimLeftS s.data.toList [32, 9, 10, 12, 13] = T at *
  clear hTT
  replace cT := Lib.hid cT

  rw [if_neg (by omega : ¬ 0 < spaceP s.data.toList)] at hP
  have hsl1 : (s.size : Int) ≤ (T.length : Int) := by omega
  have hsl3 : (T.length : Int) ≤ (s.size : Int) := by omega
  clear hsl

  have cC : ∀ w, Calls Tryd.prog 45 #[.string s, .string ⟨#[47, 42]⟩] w fun e w' => e = .returned (.tuple #[.string ⟨(Lib.trimPrefix s.data.toList [47, 42]).toArray⟩, .bool false]) ∧ w = w' := fun w => by
    have := Tryd.strings_CutPrefix s (bs [47, 42]) w
    rw [show (bs [47, 42]).data.toList = [47, 42] from rfl, hn] at this
    exact this.mono fun e w' ⟨h1, h2⟩ => ⟨h1, h2.symm⟩

  rw [hn, if_neg (by simp)] at hP
  generalize Lib.trimPrefix s.data.toList [47, 42] = R at *
  replace cC := Lib.hid cC
  replace hn := Lib.hid hn

  have hh : hashP s.data.toList = false := by
    rcases Nat.lt_or_ge 1 s.size with h1 | h1
    · rw [hash_long h1, decide_eq_false (by omega : ¬ nv s[0] = 35)]
      rfl
    · exact hash_short h1
  have ha : atP s.data.toList = false := by rw [at_of h0, decide_eq_false (by omega : ¬ nv s[0] = 64)]; rfl

  have ho : oneK s.data.toList = 12 := by rw [one_of h0]; split <;> (try split) <;> (try split) <;> first | rfl | omega
  rw [quote_of h0, decide_eq_false (by omega : ¬ (nv s[0] = 39 ∨ nv s[0] = 34)), if_neg (by simp), hh, if_neg (by simp), ha, if_neg (by simp), if_neg (by omega), hbg, if_neg (by simp), ho] at hP

  have cN := fun w => number_ct s (by omega) w
  have hnn : (((numberP s.data.toList).2 : Nat) : Int) ≤ 0 := by omega
  generalize numberP s.data.toList = V at *
  obtain ⟨nm, nn⟩ := V
  simp only at hnn cN
  replace cN := Lib.hid cN

  have cB := fun w => begins_ct s (by unfold maxLen; omega) w
  simp only [hbg] at cB
  replace cB := Lib.hid cB
  clear hbg hh ha ho
  have q39 : ((s[0].toNat : Int) == 39) = false := by have h := hx; simp only [nv] at h; rw [beq_eq_false_iff_ne]; omega
  have q34 : ((s[0].toNat : Int) == 34) = false := by have h := hx; simp only [nv] at h; rw [beq_eq_false_iff_ne]; omega
  have q35 : ((s[0].toNat : Int) == 35) = false := by have h := hx; simp only [nv] at h; rw [beq_eq_false_iff_ne]; omega
  have q64 : ((s[0].toNat : Int) == 64) = false := by have h := hx; simp only [nv] at h; rw [beq_eq_false_iff_ne]; omega
  have q40 : ((s[0].toNat : Int) == 40) = false := by have h := hx; simp only [nv] at h; rw [beq_eq_false_iff_ne]; omega
  have q91 : ((s[0].toNat : Int) == 91) = false := by have h := hx; simp only [nv] at h; rw [beq_eq_false_iff_ne]; omega
  have q123 : ((s[0].toNat : Int) == 123) = false := by have h := hx; simp only [nv] at h; rw [beq_eq_false_iff_ne]; omega
  have q41 : ((s[0].toNat : Int) == 41) = false := by have h := hx; simp only [nv] at h; rw [beq_eq_false_iff_ne]; omega
  have q93 : ((s[0].toNat : Int) == 93) = false := by have h := hx; simp only [nv] at h; rw [beq_eq_false_iff_ne]; omega
  have q125 : ((s[0].toNat : Int) == 125) = false := by have h := hx; simp only [nv] at h; rw [beq_eq_false_iff_ne]; omega
  have q92 : ((s[0].toNat : Int) == 92) = false := by have h := hx; simp only [nv] at h; rw [beq_eq_false_iff_ne]; omega

  replace hx := Lib.hid hx
  replace hP := Lib.hid hP

  go_enter Tryd.func31, Tryd.ntmps31
  go_wp2_with fail
  generalize hW0 : (w.alloc (.cells #[.string s] 9)).alloc (.cells #[.int .i64 0, .string ⟨#[]⟩, .string ⟨#[]⟩, .int .i64 0] 43) = W0
  have HB0 := Lib.hid (show Below w.heap.size w W0 by subst hW0; exact ((Below.refl _ _).alloc (Nat.le_refl _) _).alloc (by simp) _)
  have HZ : w.heap.size + 2 ≤ W0.heap.size := by subst hW0; simp
  have sB0 := Lib.hid (show Blk W0 w.heap.size 9 #[.string s] by subst hW0; exact (Blk.new rfl).alloc _)
  have rB0 := Lib.hid (show Blk W0 (w.heap.size + 1) 43 #[.int .i64 0, .string ⟨#[]⟩, .string ⟨#[]⟩, .int .i64 0] by subst hW0; exact Blk.new (by simp))
  have c0 : W0.cell? ⟨w.heap.size, 0, none⟩ = some (.string s) := sB0.out.cell 0
  clear hW0
  go_region_held3 (fun w' => (∀ b o, b < w.heap.size + 2 → w'.cell? ⟨b, o, none⟩ = W0.cell? ⟨b, o, none⟩) ∧ Below (w.heap.size + 2) W0 w')
    (first | exact As.beg | assumption | exact As.on hb3 (by assumption) HZ | exact As.alloc (by assumption) HZ)
    ((go_at_call 44; (with_reducible refine (cT.out _).mono ?_); rintro e W1 ⟨rfl, hb3⟩; have hS := Lib.hid (As.on (B := w.heap.size + 2) (W0 := W0) hb3 As.beg HZ)))
  all_goals
    rename_i hHeld
    clear hHeld
    have HB1 := Lib.hid (HB0.out.trans (hS.out.2.mono (by omega)))
    have sB := Lib.hid (sB0.out.below hS.out.2 (by omega))
    have rB := Lib.hid (rB0.out.below hS.out.2 (by omega))
    have rC := rB.out.cell
    have rF := rB.out.frozen
    have sF := sB.out.frozen
    have sz1 := rB.out.lt
    clear sB0 rB0 HB0 hS c0 hb3
    have sC := sB.out.cell
    go_wp2_with (first | (go_at_call 45; (with_reducible refine (cC.out _).mono ?_); rintro e w2 ⟨rfl, rfl⟩) | (go_at_call 51; (with_reducible refine (cB.out _).mono ?_); rintro e w2 ⟨rfl, rfl⟩) | (go_at_call 52; (with_reducible refine (cN.out _).mono ?_); rintro e W2 ⟨rfl, hb2⟩; have rB2 := Lib.hid (rB.out.below hb2 rB.out.lt); have HB2 := Lib.hid (HB1.out.trans (hb2.mono HB1.out.size)); have sB2 := Lib.hid (sB.out.below hb2 sB.out.lt); clear rC rF sC sF hb2; have rC := rB2.out.cell; have rF := rB2.out.frozen; have sC := sB2.out.cell; have sF := sB2.out.frozen; have sz2 := rB2.out.lt; have szs := sB2.out.lt) | (go_at_call 43; (with_reducible refine (one_ct 12 s w.heap.size _ hs h0 sB2.out).mono ?_); rintro e W3 ⟨rfl, hb2⟩; have rB3 := Lib.hid (rB2.out.below hb2 rB2.out.lt); have HB3 := Lib.hid (HB2.out.trans (hb2.mono HB2.out.size)); clear rC rF sC sF hb2; have rC := rB3.out.cell; have rF := rB3.out.frozen; have sz3 := rB3.out.lt))

    have e := Blk.cell (Blk.four (rB3.out) (.int .i64 12) (.string (s.extract 0 1)) (.string ⟨#[]⟩) (.int .i64 0))
    refine bodyPost_ret (v := .agg #[.int .i64 12, .string (s.extract 0 1), .string ⟨#[]⟩, .int .i64 0]) (by simp [results, Tryd.results31, go_sem, e]) rfl ⟨?_, ?_⟩
    · rw [hP.out]
      exact ret_tok rfl (take_ex _ _) rfl rfl
    · exact (((HB3.out.setCell (by simp) _).setCell (by simp) _).setCell (by simp) _).setCell (by simp) _

end Go.Proofs.YtmjbaimccbkmpaaDoor.tok

namespace Go.Proofs.YtmjbaimccbkmpaaDoor.tok
open Go.RowKit Go.Proofs.YtmjbaimccbkmpaaDoor.base
set_option linter.unusedVariables false

theorem first_ct (s : ByteArray) (hs : s.size < 4294967281) (h0 : 0 < s.size) (w : World) (hm : MaxL w) :
    Calls Tryd.prog 31 #[.string s] w fun e w' => e = .returned (.agg (firstP s.data.toList).cells) ∧ Below w.heap.size w w' := by
  rcases Nat.eq_zero_or_pos (spaceP s.data.toList) with hsp | hsp
  · cases hn : Lib.hasPrefix s.data.toList [47, 42]
    · by_cases hq : nv s[0] = 39 ∨ nv s[0] = 34
      · exact first_quote s hs h0 w hsp hn hq
      · by_cases h35 : nv s[0] = 35
        · rcases Nat.lt_or_ge 1 s.size with h1 | h1
          · cases hsb : signI (nv s[1])
            · cases heb : escP (s.extract 1 s.size).data.toList
              · have hnp : (numberP s.data.toList).2 = 0 := by
                  rcases Nat.eq_zero_or_pos (numberP s.data.toList).2 with h | h
                  · exact h
                  · exact absurd h35 (number_no' (head_of h0) h).1
                have hbg : beginsP s.data.toList = false := by
                  cases h : beginsP s.data.toList
                  · rfl
                  · exact absurd h35 (begins_no' (head_of h0) h).1
                exact one_hash s hs h0 w hsp hn hnp hbg h35 h1 false false hsb heb rfl rfl
              · exact first_hash s hs h0 w hsp hn h35 h1 false true hsb heb rfl
            · exact first_hash s hs h0 w hsp hn h35 h1 true (escP (s.extract 1 s.size).data.toList) hsb rfl rfl
          · have hnp : (numberP s.data.toList).2 = 0 := by
              rcases Nat.eq_zero_or_pos (numberP s.data.toList).2 with h | h
              · exact h
              · exact absurd h35 (number_no' (head_of h0) h).1
            have hbg : beginsP s.data.toList = false := by
              cases h : beginsP s.data.toList
              · rfl
              · exact absurd h35 (begins_no' (head_of h0) h).1
            exact one_hash_short s hs h0 w hsp hn hnp hbg h35 h1
        · rcases Nat.eq_zero_or_pos (numberP s.data.toList).2 with hnp | hnp
          · cases hbg : beginsP s.data.toList
            · by_cases h64 : nv s[0] = 64
              · cases hb1 : beginsP (s.extract 1 s.size).data.toList
                · exact one_at s hs h0 w hsp hn hnp hbg h64 hb1
                · exact first_at s hs h0 w hsp hn h64 hb1
              · by_cases a1 : nv s[0] = 40
                · exact one_40 s hs h0 w hsp hn hnp hbg a1
                by_cases a2 : nv s[0] = 91
                · exact one_91 s hs h0 w hsp hn hnp hbg a2
                by_cases a3 : nv s[0] = 123
                · exact one_123 s hs h0 w hsp hn hnp hbg a3
                by_cases a4 : nv s[0] = 41
                · exact one_41 s hs h0 w hsp hn hnp hbg a4
                by_cases a5 : nv s[0] = 93
                · exact one_93 s hs h0 w hsp hn hnp hbg a5
                by_cases a6 : nv s[0] = 125
                · exact one_125 s hs h0 w hsp hn hnp hbg a6
                by_cases a7 : nv s[0] = 92
                · exact one_92 s hs h0 w hsp hn hnp hbg a7
                exact one_other s hs h0 w hsp hn hnp hbg (by omega)
            · exact first_word s hs h0 w hsp hn hnp hbg _ rfl
          · exact first_number s hs h0 w hsp hn hnp
    · exact first_note s hs h0 w hm hsp hn
  · exact first_space s hs h0 w hsp

/-- each token's raw text is a beginning, and not empty -/
theorem name_pos {l : Bs} (h : beginsP l = true) : 0 < (nameP l).2 := by
  match l, h with
  | [c], h =>
    have hs : signI (nv c) = true := by simp only [beginsP] at h; simp [signI, h]
    rw [nameP, if_pos hs]
    simp
  | c :: d :: r, h =>
    rw [nameP]
    split
    · simp
    · rename_i he
      have hs : signI (nv c) = true := by
        simp only [beginsP] at h
        split at h
        · rename_i h45
          simp [signI, h45]
        · simp only [he, Bool.or_false] at h
          simp [signI, h]
      rw [if_pos hs]
      simp
theorem space_le (l : Bs) : spaceP l ≤ l.length := by have := space_len l; omega
theorem first_pre (l : Bs) (h0 : l ≠ []) : (∃ k, (firstP l).raw = l.take k) ∧ 0 < (firstP l).raw.length := by
  have hl : 0 < l.length := List.length_pos_iff.2 h0
  have key : ∀ k, 0 < k → (∃ m, l.take k = l.take m) ∧ 0 < (l.take k).length := fun k hk => ⟨⟨k, rfl⟩, by rw [List.length_take]; omega⟩
  unfold firstP
  split
  · rename_i h
    exact key _ h
  · split
    · simp only [noteP]
      split
      · exact key _ (by omega)
      · exact ⟨⟨l.length, by rw [List.take_length]⟩, hl⟩
    · split
      · match l, h0 with
        | q :: r, _ =>
          simp only [textP]
          exact key _ (by omega)
      · split
        · exact key _ (by omega)
        · split
          · exact key _ (by omega)
          · split
            · rename_i h
              simp only [numTkP]
              split
              · exact key _ (by omega)
              · split
                · exact key _ (by omega)
                · exact key _ h
            · split
              · rename_i hb
                have hn := name_pos hb
                simp only [wordP]
                split
                · exact key _ (by omega)
                · simp only [namedP, List.drop_zero]
                  exact key _ (by omega)
              · exact key 1 (by omega)
theorem first_raw (l : Bs) (h0 : l ≠ []) : (firstP l).raw = l.take (firstP l).raw.length := by
  obtain ⟨⟨k, hk⟩, _⟩ := first_pre l h0
  rw [hk, List.length_take, ← List.take_take]
  simp

/-- a text, cut -/
def cutP (l : Bs) : List Tk := if h : l = [] then [] else firstP l :: cutP (l.drop (firstP l).raw.length)
termination_by l.length
decreasing_by
  have h1 := (first_pre l h).2
  have h2 : 0 < l.length := List.length_pos_iff.2 h
  rw [List.length_drop]
  omega
theorem cutP_nil : cutP [] = [] := by rw [cutP]; rfl
theorem cutP_cons {l : Bs} (h : l ≠ []) : cutP l = firstP l :: cutP (l.drop (firstP l).raw.length) := by rw [cutP, dif_neg h]

end Go.Proofs.YtmjbaimccbkmpaaDoor.tok
