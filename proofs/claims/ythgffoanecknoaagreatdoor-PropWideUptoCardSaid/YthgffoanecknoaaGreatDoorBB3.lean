/- Contracts and plain law, a bundle. -/
import Derived.Lib.Hide
import Derived.Test.YthgffoanecknoaaGreatDoorBB
set_option linter.unusedVariables false
set_option maxRecDepth 100000
set_option maxHeartbeats 16000000
open Go.Lib (hid)
namespace Go.Proofs.YthgffoanecknoaaGreatDoor
namespace tok
open Go.RowKit base
theorem one_ct (k : Int) (s : ByteArray) (b : Nat) (w : World) (hs : s.size < 4294967281) (h0 : 0 < s.size) (h : Blk w b 9 #[.string s]) :
  Calls Tryz.prog 91 #[.int .i64 k, (pn b)] w (rt w (.agg #[.int .i64 k, .string (s.extract 0 1), .string ⟨#[]⟩, .int .i64 0])) := by
 have c0 := h.cell
 have hlt := h.lt
 replace h := hid h
 have h1 : (1 : Int) <= (s.size : Int) := by omega
 go_enter Tryz.func91, Tryz.ntmps91
 go_wp2
 refine bodyPost_ret (v := .agg #[.int .i64 k, .string (s.extract 0 1), .string ⟨#[]⟩, .int .i64 0]) (by simp [results, Tryz.results91, go_sem]) rfl ⟨rfl, ba _ _⟩
theorem first_word (s : ByteArray) (hs : s.size < 4294967281) (h0 : 0 < s.size) (w : World) (hsp : spaceP s.data.toList = 0) (hn : Lib.hasPrefix s.data.toList [47, 42] = false) (hnp : (numberP s.data.toList).2 = 0) (hbg : beginsP s.data.toList = true) (pp : Bool) (hpp : Lib.hasPrefix (s.data.toList.drop (namedP 1 s.data.toList 0).raw.length) [40] = pp) :
  Calls Tryz.prog 64 #[.string s] w (rt w (.agg (firstP s.data.toList).cells)) := by
 have hsl := space_len s.data.toList
 rw [<- Lib.size_eq] at hsl
 have cT := fun w => trimL_ct s [32, 9, 10, 12, 13] (by decide) (by decide) w
 have hP : firstP s.data.toList = if 0 < spaceP s.data.toList then ⟨8, s.data.toList.take (spaceP s.data.toList), [], 0⟩ else
  if Lib.hasPrefix s.data.toList [47, 42] then noteP s.data.toList else
  if quoteP s.data.toList then textP s.data.toList else
  if hashP s.data.toList then namedP 4 s.data.toList 1 else
  if atP s.data.toList then namedP 3 s.data.toList 1 else
  if 0 < (numberP s.data.toList).2 then numTkP s.data.toList (numberP s.data.toList).1 (numberP s.data.toList).2 else
  if beginsP s.data.toList then wordP s.data.toList else ⟨oneK s.data.toList, s.data.toList.take 1, [], 0⟩ := rfl
 generalize hNP : firstP s.data.toList = NP at *
 clear hNP
 generalize hTT : Lib.trimLeftS s.data.toList [32, 9, 10, 12, 13] = T at *
 clear hTT
 replace cT := hid cT
 rw [if_neg (by omega : ¬ 0 < spaceP s.data.toList)] at hP
 have hsl1 : (s.size : Int) <= (T.length : Int) := by omega
 have hsl3 : (T.length : Int) <= (s.size : Int) := by omega
 clear hsl
 have cC : ∀ w, Calls Tryz.prog 93 #[.string s, .string ⟨#[47, 42]⟩] w fun e w' => e = .returned (.tuple #[.string ⟨(Lib.trimPrefix s.data.toList [47, 42]).toArray⟩, .bool false]) /\ w = w' := fun w => by
  have := Tryz.strings_CutPrefix s (bs [47, 42]) w
  rw [show (bs [47, 42]).data.toList = [47, 42] from rfl, hn] at this
  exact this.mono fun e w' ⟨h1, h2⟩ => ⟨h1, h2.symm⟩
 rw [hn, if_neg (by simp)] at hP
 generalize Lib.trimPrefix s.data.toList [47, 42] = R at *
 replace cC := hid cC
 replace hn := hid hn
 obtain ⟨x1, x2, x3, x4⟩ := begins_no' (head_of h0) hbg
 have hh : hashP s.data.toList = false := by
  rcases Nat.lt_or_ge 1 s.size with h1 | h1
  ·rw [hash_long h1, decide_eq_false x1]
   rfl
  ·exact hash_short h1
 have ha : atP s.data.toList = false := by rw [at_of h0, decide_eq_false x2]; rfl
 rw [quote_of h0, decide_eq_false (by omega : ¬ (nv s[0] = 39 ∨ nv s[0] = 34)), if_neg (by simp), hh, if_neg (by simp), ha, if_neg (by simp), if_neg (by omega), hbg, if_pos rfl, wordP, hpp] at hP
 have cN := fun w => number_ct s (by omega) w
 have hnn : (((numberP s.data.toList).2 : Nat) : Int) <= 0 := by omega
 generalize numberP s.data.toList = V at *
 obtain ⟨nm, nn⟩ := V
 simp only at hnn cN
 replace cN := hid cN
 have cB := fun w => begins_ct s (by unfold maxLen; omega) w
 simp only [hbg] at cB
 replace cB := hid cB
 have hrl : (namedP 1 s.data.toList 0).raw.length <= s.size := by
  show (s.data.toList.take _).length <= _
  rw [List.length_take, <- Lib.size_eq]
  omega
 have hro : pp = true -> (namedP 1 s.data.toList 0).raw.length + 1 <= s.size := fun h => by
  rw [h] at hpp
  have := hp_roomc hpp
  rw [<- Lib.size_eq] at this
  exact this
 have cX : ∀ w, Calls Tryz.prog 101 #[.string (s.extract (namedP 1 s.data.toList 0).raw.length s.size), .string ⟨#[40]⟩] w fun e w' => e = .returned (.bool pp) /\ w = w' := fun w => by
  have := Tryz.strings_HasPrefix (s.extract (namedP 1 s.data.toList 0).raw.length s.size) (bs [40]) w
  rw [Lib.extract_to_end, show (bs [40]).data.toList = [40] from rfl, hpp] at this
  exact this.mono fun e w' ⟨h1, h2⟩ => ⟨h1, h2.symm⟩
 clear hpp hbg
 have cK : ∀ w, Calls Tryz.prog 97 #[.int .i64 1, .string s, .int .i64 0] w (rt w (.agg (namedP 1 s.data.toList 0).cells)) := fun w => named_ct 1 s 0 (by omega) (by omega) w
 generalize hTK : namedP 1 s.data.toList 0 = t at *
 clear hTK
 obtain ⟨tk, tr, tv, tn⟩ := t
 simp only [Tk.cells] at cK
 simp only at hP hrl hro cX
 replace cK := hid cK
 have q35 : ((s[0].toNat : Int) == 35) = false := by have h := x1; simp only [nv] at h; rw [beq_eq_false_iff_ne]; omega
 have q64 : ((s[0].toNat : Int) == 64) = false := by have h := x2; simp only [nv] at h; rw [beq_eq_false_iff_ne]; omega
 have q39 : ((s[0].toNat : Int) == 39) = false := by have h := x3; simp only [nv] at h; rw [beq_eq_false_iff_ne]; omega
 have q34 : ((s[0].toNat : Int) == 34) = false := by have h := x4; simp only [nv] at h; rw [beq_eq_false_iff_ne]; omega
 replace cX := hid cX
 have hsz : (bs tr).size = tr.length := rfl
 replace hsz := hid hsz
 clear x1 x2 x3 x4 hh ha
 have cX2 : ∀ w, Calls Tryz.prog 101 #[.string (s.extract (bs tr).size s.size), .string ⟨#[40]⟩] w fun e w' => e = .returned (.bool pp) /\ w = w' := cX.out
 replace cX2 := hid cX2
 have hr1 : (bs tr).size <= s.size := hrl
 cases pp
 ·rw [if_neg (by simp)] at hP
  replace hP := hid hP
  clear hro
  go_enter Tryz.func64, Tryz.ntmps64
  go_wp2_with fail
  generalize hW0 : (w.alloc (.cells #[.string s] 9)).alloc (.cells #[.int .i64 0, .string ⟨#[]⟩, .string ⟨#[]⟩, .int .i64 0] 92) = W0
  have HB0 := hid (show Below w.heap.size w W0 by subst hW0; exact (ba _ _).alloc (by simp) _)
  have HZ : w.heap.size + 2 <= W0.heap.size := by subst hW0; simp
  have sB0 := hid (show Blk W0 w.heap.size 9 #[.string s] by subst hW0; exact (Blk.new rfl).alloc _)
  have rB0 := hid (show Blk W0 (w.heap.size + 1) 92 #[.int .i64 0, .string ⟨#[]⟩, .string ⟨#[]⟩, .int .i64 0] by subst hW0; exact Blk.new (by simp))
  have c0 : W0.cell? ⟨w.heap.size, 0, none⟩ = some (.string s) := sB0.out.cell 0
  clear hW0
  go_region_held3 (fun w' => (∀ b o, b < w.heap.size + 2 -> w'.cell? ⟨b, o, none⟩ = W0.cell? ⟨b, o, none⟩) /\ Below (w.heap.size + 2) W0 w')
   (first | exact As.beg | assumption | exact As.on hb3 (by assumption) HZ | exact As.alloc (by assumption) HZ)
   ((go_at_call 92; (with_reducible refine (cT.out _).mono ?_); rintro e W1 ⟨rfl, hb3⟩; have hS := hid (As.on (B := w.heap.size + 2) (W0 := W0) hb3 As.beg HZ)))
  all_goals
   rename_i hHeld
   clear hHeld
   have HB1 := hid (HB0.out.trans (hS.out.2.mono (by omega)))
   have sB := hid (sB0.out.below hS.out.2 (by omega))
   have rB := hid (rB0.out.below hS.out.2 (by omega))
   have rC := rB.out.cell
   have rF := rB.out.frozen
   have sF := sB.out.frozen
   have sz1 := rB.out.lt
   clear sB0 rB0 HB0 hS c0 hb3
   have sC := sB.out.cell
   go_wp2_with (first | (go_at_call 93; (with_reducible refine (cC.out _).mono ?_); rintro e w2 ⟨rfl, rfl⟩) | (go_at_call 98; (with_reducible refine (cB.out _).mono ?_); rintro e w2 ⟨rfl, rfl⟩) | (go_at_call 99; (with_reducible refine (cN.out _).mono ?_); rintro e W2 ⟨rfl, hb2⟩; have rB2 := hid (rB.out.below hb2 rB.out.lt); have HB2 := hid (tb HB1 hb2); have sB2 := hid (sB.out.below hb2 sB.out.lt); clear rC rF sC sF hb2; have rC := rB2.out.cell; have rF := rB2.out.frozen; have sC := sB2.out.cell; have sF := sB2.out.frozen; have sz2 := rB2.out.lt; have szs := sB2.out.lt) | (go_at_call 97; (with_reducible refine (cK.out _).mono ?_); rintro e W3 ⟨rfl, hb2⟩; have rB3 := hid (rB2.out.below hb2 rB2.out.lt); have HB3 := hid (tb HB2 hb2); have sB3 := hid (sB2.out.below hb2 sB2.out.lt); clear rC rF sC sF hb2; have rC := rB3.out.cell; have rF := rB3.out.frozen; have sC := sB3.out.cell; have sF := sB3.out.frozen; have sz3 := rB3.out.lt; have szt := sB3.out.lt) | (go_at_call 101; (with_reducible refine (cX2.out _).mono ?_); rintro e w2 ⟨rfl, rfl⟩))
   have e := Blk.cell (Blk.alloc (Blk.four rB3.out (.int .i64 tk) (.string (bs tr)) (.string (bs tv)) (.int .i64 tn)) (.cells #[.int .i64 tk, .string (bs tr), .string (bs tv), .int .i64 tn] 92))
   refine bodyPost_ret (v := .agg #[.int .i64 tk, .string (bs tr), .string (bs tv), .int .i64 tn]) (by simp [results, Tryz.results64, go_sem, e]) rfl ⟨?_, ?_⟩
   ·rw [hP.out]
   ·exact ((((HB3.out.setCell (by simp) _).setCell (by simp) _).setCell (by simp) _).setCell (by simp) _).alloc (by simp only [size_setCell]; omega) _
 ·rw [if_pos rfl] at hP
  replace hP := hid hP
  have hr2 : (bs tr).size + 1 <= s.size := hro rfl
  have hr3 : ((bs tr).size : Int) + 1 <= (s.size : Int) := by omega
  have hr4 : (0 : Int) <= ((bs tr).size : Int) + 1 := by omega
  have hr5 := IntWalk.i64_in (((bs tr).size : Int) + 1) (by omega)
  have hr6 : (((bs tr).size : Int) + 1).toNat = (bs tr).size + 1 := by omega
  clear hro
  go_enter Tryz.func64, Tryz.ntmps64
  go_wp2_with fail
  generalize hW0 : (w.alloc (.cells #[.string s] 9)).alloc (.cells #[.int .i64 0, .string ⟨#[]⟩, .string ⟨#[]⟩, .int .i64 0] 92) = W0
  have HB0 := hid (show Below w.heap.size w W0 by subst hW0; exact (ba _ _).alloc (by simp) _)
  have HZ : w.heap.size + 2 <= W0.heap.size := by subst hW0; simp
  have sB0 := hid (show Blk W0 w.heap.size 9 #[.string s] by subst hW0; exact (Blk.new rfl).alloc _)
  have rB0 := hid (show Blk W0 (w.heap.size + 1) 92 #[.int .i64 0, .string ⟨#[]⟩, .string ⟨#[]⟩, .int .i64 0] by subst hW0; exact Blk.new (by simp))
  have c0 : W0.cell? ⟨w.heap.size, 0, none⟩ = some (.string s) := sB0.out.cell 0
  clear hW0
  go_region_held3 (fun w' => (∀ b o, b < w.heap.size + 2 -> w'.cell? ⟨b, o, none⟩ = W0.cell? ⟨b, o, none⟩) /\ Below (w.heap.size + 2) W0 w')
   (first | exact As.beg | assumption | exact As.on hb3 (by assumption) HZ | exact As.alloc (by assumption) HZ)
   ((go_at_call 92; (with_reducible refine (cT.out _).mono ?_); rintro e W1 ⟨rfl, hb3⟩; have hS := hid (As.on (B := w.heap.size + 2) (W0 := W0) hb3 As.beg HZ)))
  all_goals
   rename_i hHeld
   clear hHeld
   have HB1 := hid (HB0.out.trans (hS.out.2.mono (by omega)))
   have sB := hid (sB0.out.below hS.out.2 (by omega))
   have rB := hid (rB0.out.below hS.out.2 (by omega))
   have rC := rB.out.cell
   have rF := rB.out.frozen
   have sF := sB.out.frozen
   have sz1 := rB.out.lt
   clear sB0 rB0 HB0 hS c0 hb3
   have sC := sB.out.cell
   go_wp2_with (first | (go_at_call 93; (with_reducible refine (cC.out _).mono ?_); rintro e w2 ⟨rfl, rfl⟩) | (go_at_call 98; (with_reducible refine (cB.out _).mono ?_); rintro e w2 ⟨rfl, rfl⟩) | (go_at_call 99; (with_reducible refine (cN.out _).mono ?_); rintro e W2 ⟨rfl, hb2⟩; have rB2 := hid (rB.out.below hb2 rB.out.lt); have HB2 := hid (tb HB1 hb2); have sB2 := hid (sB.out.below hb2 sB.out.lt); clear rC rF sC sF hb2; have rC := rB2.out.cell; have rF := rB2.out.frozen; have sC := sB2.out.cell; have sF := sB2.out.frozen; have sz2 := rB2.out.lt; have szs := sB2.out.lt) | (go_at_call 97; (with_reducible refine (cK.out _).mono ?_); rintro e W3 ⟨rfl, hb2⟩; have rB3 := hid (rB2.out.below hb2 rB2.out.lt); have HB3 := hid (tb HB2 hb2); have sB3 := hid (sB2.out.below hb2 sB2.out.lt); clear rC rF sC sF hb2; have rC := rB3.out.cell; have rF := rB3.out.frozen; have sC := sB3.out.cell; have sF := sB3.out.frozen; have sz3 := rB3.out.lt; have szt := sB3.out.lt) | (go_at_call 101; (with_reducible refine (cX2.out _).mono ?_); rintro e w2 ⟨rfl, rfl⟩))
   generalize hV : W3.alloc (.cells #[.int .i64 tk, .string (bs tr), .string (bs tv), .int .i64 tn] 92) = V
   have tBv := hid (show Blk V W3.heap.size 92 #[.int .i64 tk, .string (bs tr), .string (bs tv), .int .i64 tn] by subst hV; exact Blk.new rfl)
   have sBv := hid (show Blk V w.heap.size 9 #[.string s] by subst hV; exact sB3.out.alloc _)
   have rBv := hid (show Blk V (w.heap.size + 1) 92 #[.int .i64 0, .string ⟨#[]⟩, .string ⟨#[]⟩, .int .i64 0] by subst hV; exact rB3.out.alloc _)
   have HBv := hid (show Below w.heap.size w V by subst hV; exact HB3.out.alloc HB3.out.size _)
   have hzv := tBv.out.lt
   clear hV rC rF sC sF
   have vC := sBv.out.cell
   have vC2 := rBv.out.cell
   have vC3 := tBv.out.cell
   have vF2 := rBv.out.frozen
   have vF3 := tBv.out.frozen
   go_region_held3 (fun w' => (∀ b o, b < W3.heap.size -> w'.cell? ⟨b, o, none⟩ = V.cell? ⟨b, o, none⟩) /\ Below W3.heap.size V w')
    (first | exact As.beg | assumption | exact As.drew (As.store As.beg0 (Nat.le_refl _)) | exact As.drew (As.store (As.store As.beg0 (Nat.le_refl _)) (Nat.le_refl _)) | exact As.store As.beg0 (Nat.le_refl _) | exact As.store (As.store As.beg0 (Nat.le_refl _)) (Nat.le_refl _))
    (fail)
   all_goals
    rename_i hHeld
    clear hHeld
    generalize hX : ((V.setCell ⟨W3.heap.size, 0, none⟩ (.int .i64 2)).setCell ⟨W3.heap.size, 1, none⟩ (.string (s.extract 0 ((bs tr).size + 1)))).drew = X
    have tX := hid (show Blk X W3.heap.size 92 #[.int .i64 2, .string (s.extract 0 ((bs tr).size + 1)), .string (bs tv), .int .i64 tn] by subst hX; exact ((tBv.out.put 0 (.int .i64 2)).put 1 (.string (s.extract 0 ((bs tr).size + 1)))).drew)
    have rX := hid (show Blk X (w.heap.size + 1) 92 #[.int .i64 0, .string ⟨#[]⟩, .string ⟨#[]⟩, .int .i64 0] by subst hX; exact ((rBv.out.far (by dsimp only; omega) _).far (by dsimp only; omega) _).drew)
    have HX := hid (show Below w.heap.size w X by subst hX; exact ((HBv.out.setCell (by dsimp only; omega) _).setCell (by dsimp only; omega) _).drew)
    clear hX vC vC2 vC3 vF2 vF3
    have xC := tX.out.cell
    have xC2 := rX.out.cell
    have xF2 := rX.out.frozen
    go_wp2
    have e := Blk.cell (Blk.four rX.out (.int .i64 2) (.string (s.extract 0 ((bs tr).size + 1))) (.string (bs tv)) (.int .i64 tn))
    refine bodyPost_ret (v := .agg #[.int .i64 2, .string (s.extract 0 ((bs tr).size + 1)), .string (bs tv), .int .i64 tn]) (by simp [results, Tryz.results64, go_sem, e]) rfl ⟨?_, ?_⟩
    ·rw [hP.out]
     exact ret_tok rfl (take_ex _ _) rfl rfl
    ·exact (((HX.out.setCell (by simp) _).setCell (by simp) _).setCell (by simp) _).setCell (by simp) _
end tok
end Go.Proofs.YthgffoanecknoaaGreatDoor
