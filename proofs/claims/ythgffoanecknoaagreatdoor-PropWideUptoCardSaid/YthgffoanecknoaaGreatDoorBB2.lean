/- Contracts and plain law, a bundle. -/
import Derived.Lib.Hide
import Derived.Test.YthgffoanecknoaaGreatDoorBB
set_option linter.unusedVariables false
set_option maxRecDepth 100000
set_option maxHeartbeats 16000000
open Go.Lib (hid)
namespace Go.Proofs.YthgffoanecknoaaGreatDoor
namespace tok
open Go.RowKit base
theorem first_note (s : ByteArray) (hs : s.size < 4294967281) (h0 : 0 < s.size) (w : World) (hm : MaxL w) (hsp : spaceP s.data.toList = 0) (hn : Lib.hasPrefix s.data.toList [47, 42] = true) :
  Calls Tryz.prog 64 #[.string s] w (rt w (.agg (firstP s.data.toList).cells)) := by
 have hsl := space_len s.data.toList
 rw [<- Lib.size_eq] at hsl
 have cT := fun w => trimL_ct s [32, 9, 10, 12, 13] (by decide) (by decide) w
 have hP : firstP s.data.toList = if 0 < spaceP s.data.toList then ⟨8, s.data.toList.take (spaceP s.data.toList), [], 0⟩ else
  if Lib.hasPrefix s.data.toList [47, 42] then noteP s.data.toList else
  if quoteP s.data.toList then textP s.data.toList else
  if hashP s.data.toList then namedP 4 s.data.toList 1 else
  if atP s.data.toList then namedP 3 s.data.toList 1 else
  if 0 < (numberP s.data.toList).2 then numTkP s.data.toList (numberP s.data.toList).1 (numberP s.data.toList).2 else
  if beginsP s.data.toList then wordP s.data.toList else ⟨oneK s.data.toList, s.data.toList.take 1, [], 0⟩ := rfl
 generalize hNP : firstP s.data.toList = NP at *
 clear hNP
 generalize hTT : Lib.trimLeftS s.data.toList [32, 9, 10, 12, 13] = T at *
 clear hTT
 replace cT := hid cT
 rw [if_neg (by omega : ¬ 0 < spaceP s.data.toList)] at hP
 have hsl1 : (s.size : Int) <= (T.length : Int) := by omega
 have hsl3 : (T.length : Int) <= (s.size : Int) := by omega
 clear hsl
 have cC : ∀ w, Calls Tryz.prog 93 #[.string s, .string ⟨#[47, 42]⟩] w fun e w' => e = .returned (.tuple #[.string ⟨(Lib.trimPrefix s.data.toList [47, 42]).toArray⟩, .bool true]) /\ w = w' := fun w => by
  have := Tryz.strings_CutPrefix s (bs [47, 42]) w
  rw [show (bs [47, 42]).data.toList = [47, 42] from rfl, hn] at this
  exact this.mono fun e w' ⟨h1, h2⟩ => ⟨h1, h2.symm⟩
 rw [hn, if_pos rfl, noteP] at hP
 have h2 : 2 <= s.size := by
  rw [Lib.size_eq]
  generalize s.data.toList = l at *
  match l, hn with
  | [], hn => simp [Lib.hasPrefix, List.isPrefixOf] at hn
  | [a], hn => simp [Lib.hasPrefix, List.isPrefixOf] at hn
  | a :: b :: r, _ => simp
 have hR : Lib.trimPrefix s.data.toList [47, 42] = s.data.toList.drop 2 := by unfold Lib.trimPrefix; rw [if_pos hn]; rfl
 rw [hR] at cC
 have hrl : (s.data.toList.drop 2).length + 2 = s.size := by rw [List.length_drop, <- Lib.size_eq]; omega
 have hix := Lib.index_room (s.data.toList.drop 2) [42, 47]
 have hig := Lib.index_ge (s.data.toList.drop 2) [42, 47]
 have cI : ∀ (w : World) (m : Int), w.cell? ⟨1, 0, none⟩ = some (.int .i64 m) -> Calls Tryz.prog 62 #[.string ⟨(s.data.toList.drop 2).toArray⟩, .string ⟨#[42, 47]⟩] w fun e w' => e = .returned (.int .i64 (Lib.index (s.data.toList.drop 2) [42, 47])) /\ w = w' := fun w m h =>
  (Tryz.strings_Index ⟨(s.data.toList.drop 2).toArray⟩ (bs [42, 47]) m w (by show (s.data.toList.drop 2).length < _; omega) h).mono fun e w' ⟨h1, h2⟩ => ⟨h1, h2.symm⟩
 generalize Lib.index (s.data.toList.drop 2) [42, 47] = ix at *
 generalize hRR : s.data.toList.drop 2 = R at *
 clear hRR hR hn
 replace cC := hid cC
 replace cI := hid cI
 by_cases hi : 0 <= ix
 ·obtain ⟨m, rfl⟩ := Int.eq_ofNat_of_zero_le hi
  have hr := hix hi
  simp only [List.length_cons, List.length_nil] at hr
  have hm4 : m + 4 <= s.size := by omega
  have hP2 := hid (show NP = ⟨9, s.data.toList.take (m + 4), [], 0⟩ by rw [hP, if_pos hi]; rfl)
  clear hix hr hrl hP
  go_enter Tryz.func64, Tryz.ntmps64
  go_wp2_with fail
  generalize hW0 : (w.alloc (.cells #[.string s] 9)).alloc (.cells #[.int .i64 0, .string ⟨#[]⟩, .string ⟨#[]⟩, .int .i64 0] 92) = W0
  have HB0 := hid (show Below w.heap.size w W0 by subst hW0; exact (ba _ _).alloc (by simp) _)
  have HZ : w.heap.size + 2 <= W0.heap.size := by subst hW0; simp
  have sB0 := hid (show Blk W0 w.heap.size 9 #[.string s] by subst hW0; exact (Blk.new rfl).alloc _)
  have rB0 := hid (show Blk W0 (w.heap.size + 1) 92 #[.int .i64 0, .string ⟨#[]⟩, .string ⟨#[]⟩, .int .i64 0] by subst hW0; exact Blk.new (by simp))
  have c0 : W0.cell? ⟨w.heap.size, 0, none⟩ = some (.string s) := sB0.out.cell 0
  clear hW0
  go_region_held3 (fun w' => (∀ b o, b < w.heap.size + 2 -> w'.cell? ⟨b, o, none⟩ = W0.cell? ⟨b, o, none⟩) /\ Below (w.heap.size + 2) W0 w')
   (first | exact As.beg | assumption | exact As.on hb3 (by assumption) HZ | exact As.alloc (by assumption) HZ)
   ((go_at_call 92; (with_reducible refine (cT.out _).mono ?_); rintro e W1 ⟨rfl, hb3⟩; have hS := hid (As.on (B := w.heap.size + 2) (W0 := W0) hb3 As.beg HZ)))
  all_goals
   rename_i hHeld
   clear hHeld
   have HB1 := hid (HB0.out.trans (hS.out.2.mono (by omega)))
   have sB := hid (sB0.out.below hS.out.2 (by omega))
   have rB := hid (rB0.out.below hS.out.2 (by omega))
   have rC := rB.out.cell
   have rF := rB.out.frozen
   have sF := sB.out.frozen
   have sz1 := rB.out.lt
   clear sB0 rB0 HB0 hS c0 hb3
   have sC := sB.out.cell
   obtain ⟨mm, hmm⟩ := hm.on HB1.out hm.lt
   replace hmm := hid hmm
   go_wp2_with (first | (go_at_call 93; (with_reducible refine (cC.out _).mono ?_); rintro e w2 ⟨rfl, rfl⟩) | (go_at_call 62; (with_reducible refine (cI.out _ mm hmm.out).mono ?_); rintro e w2 ⟨rfl, rfl⟩))
   have e := Blk.cell (Blk.four (rB.out.far (p := ⟨w.heap.size, 0, none⟩) (by simp) (.string (s.extract 0 (m + 4)))) (.int .i64 9) (.string (s.extract 0 (m + 4))) (.string ⟨#[]⟩) (.int .i64 0))
   refine bodyPost_ret (v := .agg #[.int .i64 9, .string (s.extract 0 (m + 4)), .string ⟨#[]⟩, .int .i64 0]) (by simp [results, Tryz.results64, go_sem, e]) rfl ⟨?_, ?_⟩
   ·rw [hP2.out]
    exact ret_tok rfl (take_ex _ _) rfl rfl
   ·exact ((((HB1.out.setCell (p := ⟨w.heap.size, 0, none⟩) (by simp) _).setCell (by simp) _).setCell (by simp) _).setCell (by simp) _).setCell (by simp) _
 ·have hi2 : ix < 0 := by omega
  have hP2 := hid (show NP = ⟨9, s.data.toList, [], 0⟩ by rw [hP, if_neg hi])
  clear hix hrl hP hi
  go_enter Tryz.func64, Tryz.ntmps64
  go_wp2_with fail
  generalize hW0 : (w.alloc (.cells #[.string s] 9)).alloc (.cells #[.int .i64 0, .string ⟨#[]⟩, .string ⟨#[]⟩, .int .i64 0] 92) = W0
  have HB0 := hid (show Below w.heap.size w W0 by subst hW0; exact (ba _ _).alloc (by simp) _)
  have HZ : w.heap.size + 2 <= W0.heap.size := by subst hW0; simp
  have sB0 := hid (show Blk W0 w.heap.size 9 #[.string s] by subst hW0; exact (Blk.new rfl).alloc _)
  have rB0 := hid (show Blk W0 (w.heap.size + 1) 92 #[.int .i64 0, .string ⟨#[]⟩, .string ⟨#[]⟩, .int .i64 0] by subst hW0; exact Blk.new (by simp))
  have c0 : W0.cell? ⟨w.heap.size, 0, none⟩ = some (.string s) := sB0.out.cell 0
  clear hW0
  go_region_held3 (fun w' => (∀ b o, b < w.heap.size + 2 -> w'.cell? ⟨b, o, none⟩ = W0.cell? ⟨b, o, none⟩) /\ Below (w.heap.size + 2) W0 w')
   (first | exact As.beg | assumption | exact As.on hb3 (by assumption) HZ | exact As.alloc (by assumption) HZ)
   ((go_at_call 92; (with_reducible refine (cT.out _).mono ?_); rintro e W1 ⟨rfl, hb3⟩; have hS := hid (As.on (B := w.heap.size + 2) (W0 := W0) hb3 As.beg HZ)))
  all_goals
   rename_i hHeld
   clear hHeld
   have HB1 := hid (HB0.out.trans (hS.out.2.mono (by omega)))
   have sB := hid (sB0.out.below hS.out.2 (by omega))
   have rB := hid (rB0.out.below hS.out.2 (by omega))
   have rC := rB.out.cell
   have rF := rB.out.frozen
   have sF := sB.out.frozen
   have sz1 := rB.out.lt
   clear sB0 rB0 HB0 hS c0 hb3
   have sC := sB.out.cell
   obtain ⟨mm, hmm⟩ := hm.on HB1.out hm.lt
   replace hmm := hid hmm
   go_wp2_with (first | (go_at_call 93; (with_reducible refine (cC.out _).mono ?_); rintro e w2 ⟨rfl, rfl⟩) | (go_at_call 62; (with_reducible refine (cI.out _ mm hmm.out).mono ?_); rintro e w2 ⟨rfl, rfl⟩))
   have e := Blk.cell (Blk.four (rB.out) (.int .i64 9) (.string s) (.string ⟨#[]⟩) (.int .i64 0))
   refine bodyPost_ret (v := .agg #[.int .i64 9, .string s, .string ⟨#[]⟩, .int .i64 0]) (by simp [results, Tryz.results64, go_sem, e]) rfl ⟨?_, ?_⟩
   ·rw [hP2.out]
    exact ret_tok rfl (Lib.mk_data s).symm rfl rfl
   ·exact (((HB1.out.setCell (by simp) _).setCell (by simp) _).setCell (by simp) _).setCell (by simp) _
end tok
namespace tok
open Go.RowKit base
theorem signAt_le (l : Bs) : signAt l <= 1 /\ signAt l <= l.length := by
 match l with
 | [] => simp [signAt]
 | c :: r =>
  simp only [signAt]
  split <;> simp
theorem behind_le (r : Bs) : behindP r = 0 ∨ behindP r + 1 <= r.length := by
 match r with
 | [] => left; rfl
 | c :: t =>
  simp only [behindP]
  split
  ·right
   have := digits_le t
   simp
   omega
  ·left; rfl
theorem numberP_le (l : Bs) : (numberP l).2 <= l.length := by
 unfold numberP numAt
 obtain ⟨_, h1⟩ := signAt_le l
 have h2 := digits_le (l.drop (signAt l))
 have h3 := behind_le (l.drop (signAt l + digitsP (l.drop (signAt l))))
 rw [List.length_drop] at h2 h3
 split
 ·simp
 ·simp only
  split
  ·omega
  ·omega
theorem first_number (s : ByteArray) (hs : s.size < 4294967281) (h0 : 0 < s.size) (w : World) (hsp : spaceP s.data.toList = 0) (hn : Lib.hasPrefix s.data.toList [47, 42] = false) (hnp : 0 < (numberP s.data.toList).2) :
  Calls Tryz.prog 64 #[.string s] w (rt w (.agg (firstP s.data.toList).cells)) := by
 have hsl := space_len s.data.toList
 rw [<- Lib.size_eq] at hsl
 have cT := fun w => trimL_ct s [32, 9, 10, 12, 13] (by decide) (by decide) w
 have hP : firstP s.data.toList = if 0 < spaceP s.data.toList then ⟨8, s.data.toList.take (spaceP s.data.toList), [], 0⟩ else
  if Lib.hasPrefix s.data.toList [47, 42] then noteP s.data.toList else
  if quoteP s.data.toList then textP s.data.toList else
  if hashP s.data.toList then namedP 4 s.data.toList 1 else
  if atP s.data.toList then namedP 3 s.data.toList 1 else
  if 0 < (numberP s.data.toList).2 then numTkP s.data.toList (numberP s.data.toList).1 (numberP s.data.toList).2 else
  if beginsP s.data.toList then wordP s.data.toList else ⟨oneK s.data.toList, s.data.toList.take 1, [], 0⟩ := rfl
 generalize hNP : firstP s.data.toList = NP at *
 clear hNP
 generalize hTT : Lib.trimLeftS s.data.toList [32, 9, 10, 12, 13] = T at *
 clear hTT
 replace cT := hid cT
 rw [if_neg (by omega : ¬ 0 < spaceP s.data.toList)] at hP
 have hsl1 : (s.size : Int) <= (T.length : Int) := by omega
 have hsl3 : (T.length : Int) <= (s.size : Int) := by omega
 clear hsl
 have cC : ∀ w, Calls Tryz.prog 93 #[.string s, .string ⟨#[47, 42]⟩] w fun e w' => e = .returned (.tuple #[.string ⟨(Lib.trimPrefix s.data.toList [47, 42]).toArray⟩, .bool false]) /\ w = w' := fun w => by
  have := Tryz.strings_CutPrefix s (bs [47, 42]) w
  rw [show (bs [47, 42]).data.toList = [47, 42] from rfl, hn] at this
  exact this.mono fun e w' ⟨h1, h2⟩ => ⟨h1, h2.symm⟩
 rw [hn, if_neg (by simp)] at hP
 generalize Lib.trimPrefix s.data.toList [47, 42] = R at *
 replace cC := hid cC
 replace hn := hid hn
 obtain ⟨x1, x2, x3, x4⟩ := number_no' (head_of h0) hnp
 have hh : hashP s.data.toList = false := by
  rcases Nat.lt_or_ge 1 s.size with h1 | h1
  ·rw [hash_long h1, decide_eq_false x1]
   rfl
  ·exact hash_short h1
 have ha : atP s.data.toList = false := by rw [at_of h0, decide_eq_false x2]; rfl
 rw [quote_of h0, decide_eq_false (by omega : ¬ (nv s[0] = 39 ∨ nv s[0] = 34)), if_neg (by simp), hh, if_neg (by simp), ha, if_neg (by simp), if_pos hnp] at hP
 have hnl := numberP_le s.data.toList
 rw [<- Lib.size_eq] at hnl
 have cN := fun w => number_ct s (by omega) w
 generalize numberP s.data.toList = V at *
 obtain ⟨nm, nn⟩ := V
 simp only at hnp hP hnl cN
 have cK : ∀ w, Calls Tryz.prog 100 #[.string s, .int .i64 nm, .int .i64 (nn : Int)] w (rt w (.agg (numTkP s.data.toList nm nn).cells)) := fun w => number_tk s nm nn (by omega) hnl w
 generalize hTK : numTkP s.data.toList nm nn = t at *
 clear hTK
 obtain ⟨tk, tr, tv, tn⟩ := t
 simp only [Tk.cells] at cK
 replace cK := hid cK
 have q35 : ((s[0].toNat : Int) == 35) = false := by have h := x1; simp only [nv] at h; rw [beq_eq_false_iff_ne]; omega
 have q64 : ((s[0].toNat : Int) == 64) = false := by have h := x2; simp only [nv] at h; rw [beq_eq_false_iff_ne]; omega
 have q39 : ((s[0].toNat : Int) == 39) = false := by have h := x3; simp only [nv] at h; rw [beq_eq_false_iff_ne]; omega
 have q34 : ((s[0].toNat : Int) == 34) = false := by have h := x4; simp only [nv] at h; rw [beq_eq_false_iff_ne]; omega
 replace cN := hid cN
 replace hP := hid hP
 have hnn : (0 : Int) < (nn : Int) := by omega
 clear x1 x2 x3 x4 hh ha
 go_enter Tryz.func64, Tryz.ntmps64
 go_wp2_with fail
 generalize hW0 : (w.alloc (.cells #[.string s] 9)).alloc (.cells #[.int .i64 0, .string ⟨#[]⟩, .string ⟨#[]⟩, .int .i64 0] 92) = W0
 have HB0 := hid (show Below w.heap.size w W0 by subst hW0; exact (ba _ _).alloc (by simp) _)
 have HZ : w.heap.size + 2 <= W0.heap.size := by subst hW0; simp
 have sB0 := hid (show Blk W0 w.heap.size 9 #[.string s] by subst hW0; exact (Blk.new rfl).alloc _)
 have rB0 := hid (show Blk W0 (w.heap.size + 1) 92 #[.int .i64 0, .string ⟨#[]⟩, .string ⟨#[]⟩, .int .i64 0] by subst hW0; exact Blk.new (by simp))
 have c0 : W0.cell? ⟨w.heap.size, 0, none⟩ = some (.string s) := sB0.out.cell 0
 clear hW0
 go_region_held3 (fun w' => (∀ b o, b < w.heap.size + 2 -> w'.cell? ⟨b, o, none⟩ = W0.cell? ⟨b, o, none⟩) /\ Below (w.heap.size + 2) W0 w')
  (first | exact As.beg | assumption | exact As.on hb3 (by assumption) HZ | exact As.alloc (by assumption) HZ)
  ((go_at_call 92; (with_reducible refine (cT.out _).mono ?_); rintro e W1 ⟨rfl, hb3⟩; have hS := hid (As.on (B := w.heap.size + 2) (W0 := W0) hb3 As.beg HZ)))
 all_goals
  rename_i hHeld
  clear hHeld
  have HB1 := hid (HB0.out.trans (hS.out.2.mono (by omega)))
  have sB := hid (sB0.out.below hS.out.2 (by omega))
  have rB := hid (rB0.out.below hS.out.2 (by omega))
  have rC := rB.out.cell
  have rF := rB.out.frozen
  have sF := sB.out.frozen
  have sz1 := rB.out.lt
  clear sB0 rB0 HB0 hS c0 hb3
  have sC := sB.out.cell
  go_wp2_with (first | (go_at_call 93; (with_reducible refine (cC.out _).mono ?_); rintro e w2 ⟨rfl, rfl⟩) | (go_at_call 99; (with_reducible refine (cN.out _).mono ?_); rintro e W2 ⟨rfl, hb2⟩; have rB2 := hid (rB.out.below hb2 rB.out.lt); have HB2 := hid (tb HB1 hb2); have sB2 := hid (sB.out.below hb2 sB.out.lt); clear rC rF sC sF hb2; have rC := rB2.out.cell; have rF := rB2.out.frozen; have sC := sB2.out.cell; have sF := sB2.out.frozen; have sz2 := rB2.out.lt; have szs := sB2.out.lt) | (go_at_call 100; (with_reducible refine (cK.out _).mono ?_); rintro e W3 ⟨rfl, hb2⟩; have rB3 := hid (rB2.out.below hb2 rB2.out.lt); have HB3 := hid (tb HB2 hb2); have sB3 := hid (sB2.out.below hb2 sB2.out.lt); clear rC rF sC sF hb2; have rC := rB3.out.cell; have rF := rB3.out.frozen; have sC := sB3.out.cell; have sF := sB3.out.frozen; have sz3 := rB3.out.lt; have szt := sB3.out.lt))
  have e := Blk.cell (Blk.four (rB3.out) (.int .i64 tk) (.string (bs tr)) (.string (bs tv)) (.int .i64 tn))
  refine bodyPost_ret (v := .agg #[.int .i64 tk, .string (bs tr), .string (bs tv), .int .i64 tn]) (by simp [results, Tryz.results64, go_sem, e]) rfl ⟨?_, ?_⟩
  ·rw [hP.out]
   skip
  ·exact (((HB3.out.setCell (by simp) _).setCell (by simp) _).setCell (by simp) _).setCell (by simp) _
end tok
end Go.Proofs.YthgffoanecknoaaGreatDoor
