/- Contracts and plain law, a bundle. -/
import Derived.Lib.Hide
import Derived.Test.YthgffoanecknoaaGreatDoorBB
set_option linter.unusedVariables false
set_option maxRecDepth 100000
set_option maxHeartbeats 16000000
open Go.Lib (hid)
namespace Go.Proofs.YthgffoanecknoaaGreatDoor
namespace tok
open Go.RowKit base
theorem first_quote (s : ByteArray) (hs : s.size < 4294967281) (h0 : 0 < s.size) (w : World) (hsp : spaceP s.data.toList = 0) (hn : Lib.hasPrefix s.data.toList [47, 42] = false) (hq : nv s[0] = 39 ∨ nv s[0] = 34) :
  Calls Tryz.prog 64 #[.string s] w (rt w (.agg (firstP s.data.toList).cells)) := by
 have hsl := space_len s.data.toList
 rw [<- Lib.size_eq] at hsl
 have cT := fun w => trimL_ct s [32, 9, 10, 12, 13] (by decide) (by decide) w
 have hP : firstP s.data.toList = if 0 < spaceP s.data.toList then ⟨8, s.data.toList.take (spaceP s.data.toList), [], 0⟩ else
  if Lib.hasPrefix s.data.toList [47, 42] then noteP s.data.toList else
  if quoteP s.data.toList then textP s.data.toList else
  if hashP s.data.toList then namedP 4 s.data.toList 1 else
  if atP s.data.toList then namedP 3 s.data.toList 1 else
  if 0 < (numberP s.data.toList).2 then numTkP s.data.toList (numberP s.data.toList).1 (numberP s.data.toList).2 else
  if beginsP s.data.toList then wordP s.data.toList else ⟨oneK s.data.toList, s.data.toList.take 1, [], 0⟩ := rfl
 generalize hNP : firstP s.data.toList = NP at *
 clear hNP
 generalize hTT : Lib.trimLeftS s.data.toList [32, 9, 10, 12, 13] = T at *
 clear hTT
 replace cT := hid cT
 rw [if_neg (by omega : ¬ 0 < spaceP s.data.toList)] at hP
 have hsl1 : (s.size : Int) <= (T.length : Int) := by omega
 have hsl3 : (T.length : Int) <= (s.size : Int) := by omega
 clear hsl
 have cC : ∀ w, Calls Tryz.prog 93 #[.string s, .string ⟨#[47, 42]⟩] w fun e w' => e = .returned (.tuple #[.string ⟨(Lib.trimPrefix s.data.toList [47, 42]).toArray⟩, .bool false]) /\ w = w' := fun w => by
  have := Tryz.strings_CutPrefix s (bs [47, 42]) w
  rw [show (bs [47, 42]).data.toList = [47, 42] from rfl, hn] at this
  exact this.mono fun e w' ⟨h1, h2⟩ => ⟨h1, h2.symm⟩
 rw [hn, if_neg (by simp)] at hP
 generalize Lib.trimPrefix s.data.toList [47, 42] = R at *
 replace cC := hid cC
 replace hn := hid hn
 rw [quote_of h0, decide_eq_true hq, if_pos rfl] at hP
 have cK : ∀ w, Calls Tryz.prog 94 #[.string s] w (rt w (.agg (textP s.data.toList).cells)) := fun w => text_ct s (by omega) h0 w
 generalize hTK : textP s.data.toList = t at *
 clear hTK
 obtain ⟨tk, tr, tv, tn⟩ := t
 simp only [Tk.cells] at cK
 replace cK := hid cK
 replace hP := hid hP
 rcases hq with hx | hx
 ·skip
  have q39 : ((s[0].toNat : Int) == 39) = true := by have h := hx; simp only [nv] at h; rw [h]; rfl
  replace hx := hid hx
  go_enter Tryz.func64, Tryz.ntmps64
  go_wp2_with fail
  generalize hW0 : (w.alloc (.cells #[.string s] 9)).alloc (.cells #[.int .i64 0, .string ⟨#[]⟩, .string ⟨#[]⟩, .int .i64 0] 92) = W0
  have HB0 := hid (show Below w.heap.size w W0 by subst hW0; exact (ba _ _).alloc (by simp) _)
  have HZ : w.heap.size + 2 <= W0.heap.size := by subst hW0; simp
  have sB0 := hid (show Blk W0 w.heap.size 9 #[.string s] by subst hW0; exact (Blk.new rfl).alloc _)
  have rB0 := hid (show Blk W0 (w.heap.size + 1) 92 #[.int .i64 0, .string ⟨#[]⟩, .string ⟨#[]⟩, .int .i64 0] by subst hW0; exact Blk.new (by simp))
  have c0 : W0.cell? ⟨w.heap.size, 0, none⟩ = some (.string s) := sB0.out.cell 0
  clear hW0
  go_region_held3 (fun w' => (∀ b o, b < w.heap.size + 2 -> w'.cell? ⟨b, o, none⟩ = W0.cell? ⟨b, o, none⟩) /\ Below (w.heap.size + 2) W0 w')
   (first | exact As.beg | assumption | exact As.on hb3 (by assumption) HZ | exact As.alloc (by assumption) HZ)
   ((go_at_call 92; (with_reducible refine (cT.out _).mono ?_); rintro e W1 ⟨rfl, hb3⟩; have hS := hid (As.on (B := w.heap.size + 2) (W0 := W0) hb3 As.beg HZ)))
  all_goals
   rename_i hHeld
   clear hHeld
   have HB1 := hid (HB0.out.trans (hS.out.2.mono (by omega)))
   have sB := hid (sB0.out.below hS.out.2 (by omega))
   have rB := hid (rB0.out.below hS.out.2 (by omega))
   have rC := rB.out.cell
   have rF := rB.out.frozen
   have sF := sB.out.frozen
   have sz1 := rB.out.lt
   clear sB0 rB0 HB0 hS c0 hb3
   have sC := sB.out.cell
   go_wp2_with (first | (go_at_call 93; (with_reducible refine (cC.out _).mono ?_); rintro e w2 ⟨rfl, rfl⟩) | (go_at_call 94; (with_reducible refine (cK.out _).mono ?_); rintro e W2 ⟨rfl, hb2⟩; have rB2 := hid (rB.out.below hb2 rB.out.lt); have HB2 := hid (tb HB1 hb2); have sB2 := hid (sB.out.below hb2 sB.out.lt); clear rC rF sC sF hb2; have rC := rB2.out.cell; have rF := rB2.out.frozen; have sC := sB2.out.cell; have sF := sB2.out.frozen; have sz2 := rB2.out.lt; have szs := sB2.out.lt))
   have e := Blk.cell (Blk.four (rB2.out) (.int .i64 tk) (.string (bs tr)) (.string (bs tv)) (.int .i64 tn))
   refine bodyPost_ret (v := .agg #[.int .i64 tk, .string (bs tr), .string (bs tv), .int .i64 tn]) (by simp [results, Tryz.results64, go_sem, e]) rfl ⟨?_, ?_⟩
   ·rw [hP.out]
    skip
   ·exact (((HB2.out.setCell (by simp) _).setCell (by simp) _).setCell (by simp) _).setCell (by simp) _
 ·skip
  have q39 : ((s[0].toNat : Int) == 39) = false := by have h := hx; simp only [nv] at h; rw [beq_eq_false_iff_ne]; omega
  have q34 : ((s[0].toNat : Int) == 34) = true := by have h := hx; simp only [nv] at h; rw [h]; rfl
  replace hx := hid hx
  go_enter Tryz.func64, Tryz.ntmps64
  go_wp2_with fail
  generalize hW0 : (w.alloc (.cells #[.string s] 9)).alloc (.cells #[.int .i64 0, .string ⟨#[]⟩, .string ⟨#[]⟩, .int .i64 0] 92) = W0
  have HB0 := hid (show Below w.heap.size w W0 by subst hW0; exact (ba _ _).alloc (by simp) _)
  have HZ : w.heap.size + 2 <= W0.heap.size := by subst hW0; simp
  have sB0 := hid (show Blk W0 w.heap.size 9 #[.string s] by subst hW0; exact (Blk.new rfl).alloc _)
  have rB0 := hid (show Blk W0 (w.heap.size + 1) 92 #[.int .i64 0, .string ⟨#[]⟩, .string ⟨#[]⟩, .int .i64 0] by subst hW0; exact Blk.new (by simp))
  have c0 : W0.cell? ⟨w.heap.size, 0, none⟩ = some (.string s) := sB0.out.cell 0
  clear hW0
  go_region_held3 (fun w' => (∀ b o, b < w.heap.size + 2 -> w'.cell? ⟨b, o, none⟩ = W0.cell? ⟨b, o, none⟩) /\ Below (w.heap.size + 2) W0 w')
   (first | exact As.beg | assumption | exact As.on hb3 (by assumption) HZ | exact As.alloc (by assumption) HZ)
   ((go_at_call 92; (with_reducible refine (cT.out _).mono ?_); rintro e W1 ⟨rfl, hb3⟩; have hS := hid (As.on (B := w.heap.size + 2) (W0 := W0) hb3 As.beg HZ)))
  all_goals
   rename_i hHeld
   clear hHeld
   have HB1 := hid (HB0.out.trans (hS.out.2.mono (by omega)))
   have sB := hid (sB0.out.below hS.out.2 (by omega))
   have rB := hid (rB0.out.below hS.out.2 (by omega))
   have rC := rB.out.cell
   have rF := rB.out.frozen
   have sF := sB.out.frozen
   have sz1 := rB.out.lt
   clear sB0 rB0 HB0 hS c0 hb3
   have sC := sB.out.cell
   go_wp2_with (first | (go_at_call 93; (with_reducible refine (cC.out _).mono ?_); rintro e w2 ⟨rfl, rfl⟩) | (go_at_call 94; (with_reducible refine (cK.out _).mono ?_); rintro e W2 ⟨rfl, hb2⟩; have rB2 := hid (rB.out.below hb2 rB.out.lt); have HB2 := hid (tb HB1 hb2); have sB2 := hid (sB.out.below hb2 sB.out.lt); clear rC rF sC sF hb2; have rC := rB2.out.cell; have rF := rB2.out.frozen; have sC := sB2.out.cell; have sF := sB2.out.frozen; have sz2 := rB2.out.lt; have szs := sB2.out.lt))
   have e := Blk.cell (Blk.four (rB2.out) (.int .i64 tk) (.string (bs tr)) (.string (bs tv)) (.int .i64 tn))
   refine bodyPost_ret (v := .agg #[.int .i64 tk, .string (bs tr), .string (bs tv), .int .i64 tn]) (by simp [results, Tryz.results64, go_sem, e]) rfl ⟨?_, ?_⟩
   ·rw [hP.out]
    skip
   ·exact (((HB2.out.setCell (by simp) _).setCell (by simp) _).setCell (by simp) _).setCell (by simp) _
end tok
namespace tok
open Go.RowKit base
theorem first_hash (s : ByteArray) (hs : s.size < 4294967281) (h0 : 0 < s.size) (w : World) (hsp : spaceP s.data.toList = 0) (hn : Lib.hasPrefix s.data.toList [47, 42] = false) (hx : nv s[0] = 35) (h1 : 1 < s.size) (sb eb : Bool) (hsb : signI (nv s[1]) = sb) (heb : escP (s.extract 1 s.size).data.toList = eb) (hor : (sb || eb) = true) :
  Calls Tryz.prog 64 #[.string s] w (rt w (.agg (firstP s.data.toList).cells)) := by
 have hsl := space_len s.data.toList
 rw [<- Lib.size_eq] at hsl
 have cT := fun w => trimL_ct s [32, 9, 10, 12, 13] (by decide) (by decide) w
 have hP : firstP s.data.toList = if 0 < spaceP s.data.toList then ⟨8, s.data.toList.take (spaceP s.data.toList), [], 0⟩ else
  if Lib.hasPrefix s.data.toList [47, 42] then noteP s.data.toList else
  if quoteP s.data.toList then textP s.data.toList else
  if hashP s.data.toList then namedP 4 s.data.toList 1 else
  if atP s.data.toList then namedP 3 s.data.toList 1 else
  if 0 < (numberP s.data.toList).2 then numTkP s.data.toList (numberP s.data.toList).1 (numberP s.data.toList).2 else
  if beginsP s.data.toList then wordP s.data.toList else ⟨oneK s.data.toList, s.data.toList.take 1, [], 0⟩ := rfl
 generalize hNP : firstP s.data.toList = NP at *
 clear hNP
 generalize hTT : Lib.trimLeftS s.data.toList [32, 9, 10, 12, 13] = T at *
 clear hTT
 replace cT := hid cT
 rw [if_neg (by omega : ¬ 0 < spaceP s.data.toList)] at hP
 have hsl1 : (s.size : Int) <= (T.length : Int) := by omega
 have hsl3 : (T.length : Int) <= (s.size : Int) := by omega
 clear hsl
 have cC : ∀ w, Calls Tryz.prog 93 #[.string s, .string ⟨#[47, 42]⟩] w fun e w' => e = .returned (.tuple #[.string ⟨(Lib.trimPrefix s.data.toList [47, 42]).toArray⟩, .bool false]) /\ w = w' := fun w => by
  have := Tryz.strings_CutPrefix s (bs [47, 42]) w
  rw [show (bs [47, 42]).data.toList = [47, 42] from rfl, hn] at this
  exact this.mono fun e w' ⟨h1, h2⟩ => ⟨h1, h2.symm⟩
 rw [hn, if_neg (by simp)] at hP
 generalize Lib.trimPrefix s.data.toList [47, 42] = R at *
 replace cC := hid cC
 replace hn := hid hn
 rw [quote_of h0, decide_eq_false (by omega : ¬ (nv s[0] = 39 ∨ nv s[0] = 34)), if_neg (by simp)] at hP
 rw [hash_long h1, decide_eq_true hx, hsb, heb, hor, if_pos (by rfl)] at hP
 have cK : ∀ w, Calls Tryz.prog 97 #[.int .i64 4, .string s, .int .i64 1] w (rt w (.agg (namedP 4 s.data.toList 1).cells)) := fun w => named_ct 4 s 1 (by omega) (by omega) w
 generalize hTK : namedP 4 s.data.toList 1 = t at *
 clear hTK
 obtain ⟨tk, tr, tv, tn⟩ := t
 simp only [Tk.cells] at cK
 replace cK := hid cK
 have cS := fun w => sign_ct (nv s[1]) (nv_nn _) (nv_lt _) w
 simp only [hsb] at cS
 have cE := fun w => escape_ct (s.extract 1 s.size) (sub_len _ _ (by unfold maxLen; omega)) w
 simp only [heb] at cE
 replace cS := hid cS
 replace cE := hid cE
 have h1' : (1 : Int) < (s.size : Int) := by omega
 clear hsb heb
 replace hP := hid hP
 have q39 : ((s[0].toNat : Int) == 39) = false := by have h := hx; simp only [nv] at h; rw [beq_eq_false_iff_ne]; omega
 have q34 : ((s[0].toNat : Int) == 34) = false := by have h := hx; simp only [nv] at h; rw [beq_eq_false_iff_ne]; omega
 have q35 : ((s[0].toNat : Int) == 35) = true := by have h := hx; simp only [nv] at h; rw [h]; rfl
 replace hx := hid hx
 cases sb
 ·cases eb
  ·cases hor
  ·clear hor
   go_enter Tryz.func64, Tryz.ntmps64
   go_wp2_with fail
   generalize hW0 : (w.alloc (.cells #[.string s] 9)).alloc (.cells #[.int .i64 0, .string ⟨#[]⟩, .string ⟨#[]⟩, .int .i64 0] 92) = W0
   have HB0 := hid (show Below w.heap.size w W0 by subst hW0; exact (ba _ _).alloc (by simp) _)
   have HZ : w.heap.size + 2 <= W0.heap.size := by subst hW0; simp
   have sB0 := hid (show Blk W0 w.heap.size 9 #[.string s] by subst hW0; exact (Blk.new rfl).alloc _)
   have rB0 := hid (show Blk W0 (w.heap.size + 1) 92 #[.int .i64 0, .string ⟨#[]⟩, .string ⟨#[]⟩, .int .i64 0] by subst hW0; exact Blk.new (by simp))
   have c0 : W0.cell? ⟨w.heap.size, 0, none⟩ = some (.string s) := sB0.out.cell 0
   clear hW0
   go_region_held3 (fun w' => (∀ b o, b < w.heap.size + 2 -> w'.cell? ⟨b, o, none⟩ = W0.cell? ⟨b, o, none⟩) /\ Below (w.heap.size + 2) W0 w')
    (first | exact As.beg | assumption | exact As.on hb3 (by assumption) HZ | exact As.alloc (by assumption) HZ)
    ((go_at_call 92; (with_reducible refine (cT.out _).mono ?_); rintro e W1 ⟨rfl, hb3⟩; have hS := hid (As.on (B := w.heap.size + 2) (W0 := W0) hb3 As.beg HZ)))
   all_goals
    rename_i hHeld
    clear hHeld
    have HB1 := hid (HB0.out.trans (hS.out.2.mono (by omega)))
    have sB := hid (sB0.out.below hS.out.2 (by omega))
    have rB := hid (rB0.out.below hS.out.2 (by omega))
    have rC := rB.out.cell
    have rF := rB.out.frozen
    have sF := sB.out.frozen
    have sz1 := rB.out.lt
    clear sB0 rB0 HB0 hS c0 hb3
    have sC := sB.out.cell
    go_wp2_with (first | (go_at_call 93; (with_reducible refine (cC.out _).mono ?_); rintro e w2 ⟨rfl, rfl⟩) | (go_at_call 95; (with_reducible refine (cS.out _).mono ?_); rintro e w2 ⟨rfl, rfl⟩) | (go_at_call 96; (with_reducible refine (cE.out _).mono ?_); rintro e w2 ⟨rfl, rfl⟩) | (go_at_call 97; (with_reducible refine (cK.out _).mono ?_); rintro e W2 ⟨rfl, hb2⟩; have rB2 := hid (rB.out.below hb2 rB.out.lt); have HB2 := hid (tb HB1 hb2); have sB2 := hid (sB.out.below hb2 sB.out.lt); clear rC rF sC sF hb2; have rC := rB2.out.cell; have rF := rB2.out.frozen; have sC := sB2.out.cell; have sF := sB2.out.frozen; have sz2 := rB2.out.lt; have szs := sB2.out.lt))
    have e := Blk.cell (Blk.four (rB2.out) (.int .i64 tk) (.string (bs tr)) (.string (bs tv)) (.int .i64 tn))
    refine bodyPost_ret (v := .agg #[.int .i64 tk, .string (bs tr), .string (bs tv), .int .i64 tn]) (by simp [results, Tryz.results64, go_sem, e]) rfl ⟨?_, ?_⟩
    ·rw [hP.out]
     skip
    ·exact (((HB2.out.setCell (by simp) _).setCell (by simp) _).setCell (by simp) _).setCell (by simp) _
 ·clear hor
  go_enter Tryz.func64, Tryz.ntmps64
  go_wp2_with fail
  generalize hW0 : (w.alloc (.cells #[.string s] 9)).alloc (.cells #[.int .i64 0, .string ⟨#[]⟩, .string ⟨#[]⟩, .int .i64 0] 92) = W0
  have HB0 := hid (show Below w.heap.size w W0 by subst hW0; exact (ba _ _).alloc (by simp) _)
  have HZ : w.heap.size + 2 <= W0.heap.size := by subst hW0; simp
  have sB0 := hid (show Blk W0 w.heap.size 9 #[.string s] by subst hW0; exact (Blk.new rfl).alloc _)
  have rB0 := hid (show Blk W0 (w.heap.size + 1) 92 #[.int .i64 0, .string ⟨#[]⟩, .string ⟨#[]⟩, .int .i64 0] by subst hW0; exact Blk.new (by simp))
  have c0 : W0.cell? ⟨w.heap.size, 0, none⟩ = some (.string s) := sB0.out.cell 0
  clear hW0
  go_region_held3 (fun w' => (∀ b o, b < w.heap.size + 2 -> w'.cell? ⟨b, o, none⟩ = W0.cell? ⟨b, o, none⟩) /\ Below (w.heap.size + 2) W0 w')
   (first | exact As.beg | assumption | exact As.on hb3 (by assumption) HZ | exact As.alloc (by assumption) HZ)
   ((go_at_call 92; (with_reducible refine (cT.out _).mono ?_); rintro e W1 ⟨rfl, hb3⟩; have hS := hid (As.on (B := w.heap.size + 2) (W0 := W0) hb3 As.beg HZ)))
  all_goals
   rename_i hHeld
   clear hHeld
   have HB1 := hid (HB0.out.trans (hS.out.2.mono (by omega)))
   have sB := hid (sB0.out.below hS.out.2 (by omega))
   have rB := hid (rB0.out.below hS.out.2 (by omega))
   have rC := rB.out.cell
   have rF := rB.out.frozen
   have sF := sB.out.frozen
   have sz1 := rB.out.lt
   clear sB0 rB0 HB0 hS c0 hb3
   have sC := sB.out.cell
   go_wp2_with (first | (go_at_call 93; (with_reducible refine (cC.out _).mono ?_); rintro e w2 ⟨rfl, rfl⟩) | (go_at_call 95; (with_reducible refine (cS.out _).mono ?_); rintro e w2 ⟨rfl, rfl⟩) | (go_at_call 96; (with_reducible refine (cE.out _).mono ?_); rintro e w2 ⟨rfl, rfl⟩) | (go_at_call 97; (with_reducible refine (cK.out _).mono ?_); rintro e W2 ⟨rfl, hb2⟩; have rB2 := hid (rB.out.below hb2 rB.out.lt); have HB2 := hid (tb HB1 hb2); have sB2 := hid (sB.out.below hb2 sB.out.lt); clear rC rF sC sF hb2; have rC := rB2.out.cell; have rF := rB2.out.frozen; have sC := sB2.out.cell; have sF := sB2.out.frozen; have sz2 := rB2.out.lt; have szs := sB2.out.lt))
   have e := Blk.cell (Blk.four (rB2.out) (.int .i64 tk) (.string (bs tr)) (.string (bs tv)) (.int .i64 tn))
   refine bodyPost_ret (v := .agg #[.int .i64 tk, .string (bs tr), .string (bs tv), .int .i64 tn]) (by simp [results, Tryz.results64, go_sem, e]) rfl ⟨?_, ?_⟩
   ·rw [hP.out]
    skip
   ·exact (((HB2.out.setCell (by simp) _).setCell (by simp) _).setCell (by simp) _).setCell (by simp) _
end tok
namespace tok
open Go.RowKit base
theorem first_at (s : ByteArray) (hs : s.size < 4294967281) (h0 : 0 < s.size) (w : World) (hsp : spaceP s.data.toList = 0) (hn : Lib.hasPrefix s.data.toList [47, 42] = false) (hx : nv s[0] = 64) (hb : beginsP (s.extract 1 s.size).data.toList = true) :
  Calls Tryz.prog 64 #[.string s] w (rt w (.agg (firstP s.data.toList).cells)) := by
 have hsl := space_len s.data.toList
 rw [<- Lib.size_eq] at hsl
 have cT := fun w => trimL_ct s [32, 9, 10, 12, 13] (by decide) (by decide) w
 have hP : firstP s.data.toList = if 0 < spaceP s.data.toList then ⟨8, s.data.toList.take (spaceP s.data.toList), [], 0⟩ else
  if Lib.hasPrefix s.data.toList [47, 42] then noteP s.data.toList else
  if quoteP s.data.toList then textP s.data.toList else
  if hashP s.data.toList then namedP 4 s.data.toList 1 else
  if atP s.data.toList then namedP 3 s.data.toList 1 else
  if 0 < (numberP s.data.toList).2 then numTkP s.data.toList (numberP s.data.toList).1 (numberP s.data.toList).2 else
  if beginsP s.data.toList then wordP s.data.toList else ⟨oneK s.data.toList, s.data.toList.take 1, [], 0⟩ := rfl
 generalize hNP : firstP s.data.toList = NP at *
 clear hNP
 generalize hTT : Lib.trimLeftS s.data.toList [32, 9, 10, 12, 13] = T at *
 clear hTT
 replace cT := hid cT
 rw [if_neg (by omega : ¬ 0 < spaceP s.data.toList)] at hP
 have hsl1 : (s.size : Int) <= (T.length : Int) := by omega
 have hsl3 : (T.length : Int) <= (s.size : Int) := by omega
 clear hsl
 have cC : ∀ w, Calls Tryz.prog 93 #[.string s, .string ⟨#[47, 42]⟩] w fun e w' => e = .returned (.tuple #[.string ⟨(Lib.trimPrefix s.data.toList [47, 42]).toArray⟩, .bool false]) /\ w = w' := fun w => by
  have := Tryz.strings_CutPrefix s (bs [47, 42]) w
  rw [show (bs [47, 42]).data.toList = [47, 42] from rfl, hn] at this
  exact this.mono fun e w' ⟨h1, h2⟩ => ⟨h1, h2.symm⟩
 rw [hn, if_neg (by simp)] at hP
 generalize Lib.trimPrefix s.data.toList [47, 42] = R at *
 replace cC := hid cC
 replace hn := hid hn
 rw [quote_of h0, decide_eq_false (by omega : ¬ (nv s[0] = 39 ∨ nv s[0] = 34)), if_neg (by simp)] at hP
 have hh : hashP s.data.toList = false := by
  rcases Nat.lt_or_ge 1 s.size with h1 | h1
  ·rw [hash_long h1, decide_eq_false (by omega : ¬ nv s[0] = 35)]
   rfl
  ·exact hash_short h1
 rw [hh, if_neg (by simp), at_of h0, decide_eq_true hx, hb, if_pos (by rfl)] at hP
 have cK : ∀ w, Calls Tryz.prog 97 #[.int .i64 3, .string s, .int .i64 1] w (rt w (.agg (namedP 3 s.data.toList 1).cells)) := fun w => named_ct 3 s 1 (by omega) (by omega) w
 generalize hTK : namedP 3 s.data.toList 1 = t at *
 clear hTK
 obtain ⟨tk, tr, tv, tn⟩ := t
 simp only [Tk.cells] at cK
 replace cK := hid cK
 have cB := fun w => begins_ct (s.extract 1 s.size) (sub_len _ _ (by unfold maxLen; omega)) w
 simp only [hb] at cB
 replace cB := hid cB
 replace hP := hid hP
 clear hb hh
 have q39 : ((s[0].toNat : Int) == 39) = false := by have h := hx; simp only [nv] at h; rw [beq_eq_false_iff_ne]; omega
 have q34 : ((s[0].toNat : Int) == 34) = false := by have h := hx; simp only [nv] at h; rw [beq_eq_false_iff_ne]; omega
 have q35 : ((s[0].toNat : Int) == 35) = false := by have h := hx; simp only [nv] at h; rw [beq_eq_false_iff_ne]; omega
 have q64 : ((s[0].toNat : Int) == 64) = true := by have h := hx; simp only [nv] at h; rw [h]; rfl
 replace hx := hid hx
 have h1' : (1 : Int) <= (s.size : Int) := by omega
 go_enter Tryz.func64, Tryz.ntmps64
 go_wp2_with fail
 generalize hW0 : (w.alloc (.cells #[.string s] 9)).alloc (.cells #[.int .i64 0, .string ⟨#[]⟩, .string ⟨#[]⟩, .int .i64 0] 92) = W0
 have HB0 := hid (show Below w.heap.size w W0 by subst hW0; exact (ba _ _).alloc (by simp) _)
 have HZ : w.heap.size + 2 <= W0.heap.size := by subst hW0; simp
 have sB0 := hid (show Blk W0 w.heap.size 9 #[.string s] by subst hW0; exact (Blk.new rfl).alloc _)
 have rB0 := hid (show Blk W0 (w.heap.size + 1) 92 #[.int .i64 0, .string ⟨#[]⟩, .string ⟨#[]⟩, .int .i64 0] by subst hW0; exact Blk.new (by simp))
 have c0 : W0.cell? ⟨w.heap.size, 0, none⟩ = some (.string s) := sB0.out.cell 0
 clear hW0
 go_region_held3 (fun w' => (∀ b o, b < w.heap.size + 2 -> w'.cell? ⟨b, o, none⟩ = W0.cell? ⟨b, o, none⟩) /\ Below (w.heap.size + 2) W0 w')
  (first | exact As.beg | assumption | exact As.on hb3 (by assumption) HZ | exact As.alloc (by assumption) HZ)
  ((go_at_call 92; (with_reducible refine (cT.out _).mono ?_); rintro e W1 ⟨rfl, hb3⟩; have hS := hid (As.on (B := w.heap.size + 2) (W0 := W0) hb3 As.beg HZ)))
 all_goals
  rename_i hHeld
  clear hHeld
  have HB1 := hid (HB0.out.trans (hS.out.2.mono (by omega)))
  have sB := hid (sB0.out.below hS.out.2 (by omega))
  have rB := hid (rB0.out.below hS.out.2 (by omega))
  have rC := rB.out.cell
  have rF := rB.out.frozen
  have sF := sB.out.frozen
  have sz1 := rB.out.lt
  clear sB0 rB0 HB0 hS c0 hb3
  have sC := sB.out.cell
  go_wp2_with (first | (go_at_call 93; (with_reducible refine (cC.out _).mono ?_); rintro e w2 ⟨rfl, rfl⟩) | (go_at_call 98; (with_reducible refine (cB.out _).mono ?_); rintro e w2 ⟨rfl, rfl⟩) | (go_at_call 97; (with_reducible refine (cK.out _).mono ?_); rintro e W2 ⟨rfl, hb2⟩; have rB2 := hid (rB.out.below hb2 rB.out.lt); have HB2 := hid (tb HB1 hb2); have sB2 := hid (sB.out.below hb2 sB.out.lt); clear rC rF sC sF hb2; have rC := rB2.out.cell; have rF := rB2.out.frozen; have sC := sB2.out.cell; have sF := sB2.out.frozen; have sz2 := rB2.out.lt; have szs := sB2.out.lt))
  have e := Blk.cell (Blk.four (rB2.out) (.int .i64 tk) (.string (bs tr)) (.string (bs tv)) (.int .i64 tn))
  refine bodyPost_ret (v := .agg #[.int .i64 tk, .string (bs tr), .string (bs tv), .int .i64 tn]) (by simp [results, Tryz.results64, go_sem, e]) rfl ⟨?_, ?_⟩
  ·rw [hP.out]
   skip
  ·exact (((HB2.out.setCell (by simp) _).setCell (by simp) _).setCell (by simp) _).setCell (by simp) _
end tok
end Go.Proofs.YthgffoanecknoaaGreatDoor
