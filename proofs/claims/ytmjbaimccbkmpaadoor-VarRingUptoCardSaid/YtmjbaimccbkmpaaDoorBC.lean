/- Contracts and plain law, a bundle: Tok7 Tok8 Tok9 Tok10 Tok11 Tok12 Tok13 Tok14 Tok15. -/
import Derived.Test.YtmjbaimccbkmpaaDoorBB

namespace Go.Proofs.YtmjbaimccbkmpaaDoor.tok
open Go.RowKit Go.Proofs.YtmjbaimccbkmpaaDoor.base
set_option linter.unusedVariables false

/-- behind the opening quote: the token's kind, how many bytes of it, what it says -/
def textR (q : UInt8) : Bs → Int × Nat × Bs
  | [] => (6, 0, [])
  | [c] => if nv c = nv q then (5, 1, []) else if nv c = 10 then (6, 0, []) else (6, 1, [c])
  | c :: d :: r => if nv c = nv q then (5, 1, []) else if nv c = 10 then (6, 0, []) else
      if nv c = 92 then ((textR q r).1, (textR q r).2.1 + 2, d :: (textR q r).2.2) else ((textR q (d :: r)).1, (textR q (d :: r)).2.1 + 1, c :: (textR q (d :: r)).2.2)
termination_by l => l.length

def textP : Bs → Tk
  | [] => ⟨6, [], [], 0⟩
  | q :: r => ⟨(textR q r).1, (q :: r).take (1 + (textR q r).2.1), if (textR q r).1 = 5 then (textR q r).2.2 else [], 0⟩

theorem tx_end (q : UInt8) {s : ByteArray} {k : Nat} (h : s.size ≤ k) : textR q (s.data.toList.drop k) = (6, 0, []) := by rw [drop_nil h, textR]
theorem tx_close (q : UInt8) {s : ByteArray} {k : Nat} (h : k < s.size) (hq : nv s[k] = nv q) : textR q (s.data.toList.drop k) = (5, 1, []) := by
  rw [drop_cons h]
  rcases s.data.toList.drop (k + 1) with _ | ⟨d, r⟩ <;> rw [textR, if_pos hq]
theorem tx_nl (q : UInt8) {s : ByteArray} {k : Nat} (h : k < s.size) (hq : ¬ nv s[k] = nv q) (hn : nv s[k] = 10) : textR q (s.data.toList.drop k) = (6, 0, []) := by
  rw [drop_cons h]
  rcases s.data.toList.drop (k + 1) with _ | ⟨d, r⟩ <;> rw [textR, if_neg hq, if_pos hn]
theorem tx_esc (q : UInt8) {s : ByteArray} {k : Nat} (h : k + 1 < s.size) (hq : ¬ nv s[k] = nv q) (hn : ¬ nv s[k] = 10) (hb : nv s[k] = 92) : textR q (s.data.toList.drop k) = ((textR q (s.data.toList.drop (k + 2))).1, (textR q (s.data.toList.drop (k + 2))).2.1 + 2, s[k + 1] :: (textR q (s.data.toList.drop (k + 2))).2.2) := by
  rw [drop_cons (k := k) (by omega), drop_cons (k := k + 1) h, textR, if_neg hq, if_neg hn, if_pos hb]
theorem tx_other (q : UInt8) {s : ByteArray} {k : Nat} (h : k < s.size) (hq : ¬ nv s[k] = nv q) (hn : ¬ nv s[k] = 10) (hb : ¬ nv s[k] = 92 ∨ s.size ≤ k + 1) : textR q (s.data.toList.drop k) = ((textR q (s.data.toList.drop (k + 1))).1, (textR q (s.data.toList.drop (k + 1))).2.1 + 1, s[k] :: (textR q (s.data.toList.drop (k + 1))).2.2) := by
  rcases Nat.lt_or_ge (k + 1) s.size with h1 | h1
  · have hb' : ¬ nv s[k] = 92 := hb.resolve_right (by omega)
    rw [drop_cons (k := k) h, drop_cons (k := k + 1) h1, textR, if_neg hq, if_neg hn, if_neg hb']
  · rw [drop_cons h, drop_nil h1]
    simp [textR, hq, hn]

theorem textP_of {s : ByteArray} (h : 0 < s.size) : textP s.data.toList = ⟨(textR s[0] (s.data.toList.drop 1)).1, s.data.toList.take (1 + (textR s[0] (s.data.toList.drop 1)).2.1), if (textR s[0] (s.data.toList.drop 1)).1 = 5 then (textR s[0] (s.data.toList.drop 1)).2.2 else [], 0⟩ := by
  obtain ⟨⟨l⟩⟩ := s
  match l, h with
  | a :: r, _ => rfl

/-- what is known of a text that is read up to byte k -/
def TextRel (s : ByteArray) (q : UInt8) (w : World) (i : Value) (wr : World) : Prop :=
  ∃ (k : Nat) (acc : Bs), 1 ≤ k ∧ k ≤ s.size ∧ i = .int .i64 k ∧ acc.length ≤ k ∧
    textR q (s.data.toList.drop 1) = ((textR q (s.data.toList.drop k)).1, k - 1 + (textR q (s.data.toList.drop k)).2.1, acc ++ (textR q (s.data.toList.drop k)).2.2) ∧
    IsB (w.heap.size + 1) (w.heap.size + 1) acc wr ∧ Blk wr w.heap.size 43 #[.int .i64 0, .string ⟨#[]⟩, .string ⟨#[]⟩, .int .i64 0] ∧ Below w.heap.size w wr ∧ w.heap.size + 1 ≤ wr.heap.size

set_option maxRecDepth 100000 in
set_option maxHeartbeats 4000000 in
theorem text_ct (s : ByteArray) (hs : s.size ≤ 140737488355328) (h0 : 0 < s.size) (w : World) : Calls Tryd.prog 47 #[.string s] w fun e w' => e = .returned (.agg (textP s.data.toList).cells) ∧ Below w.heap.size w w' := by
  have hP := textP_of h0
  generalize hNP : textP s.data.toList = NP at *
  obtain ⟨q, hq⟩ : ∃ q, q = s[0] := ⟨_, rfl⟩
  rw [← hq] at hP
  replace hq := Lib.hid hq
  replace hP := Lib.hid hP
  clear hNP
  go_enter Tryd.func47, Tryd.ntmps47
  go_wp2_with fail
  go_loopw [4] (fun i wr => TextRel s q w i wr) (fun i _ => s.size - (intOf i).toNat)
  case atStart =>
    refine ⟨1, [], by omega, by omega, rfl, by simp, by simp, ?_, (Blk.new rfl).alloc _, ((Below.refl _ _).alloc (Nat.le_refl _) _).alloc (by simp) _, by simp⟩
    have := IsB.new (w.alloc (.cells #[.int .i64 0, .string ⟨#[]⟩, .string ⟨#[]⟩, .int .i64 0] 43)) (w.heap.size + 1) (by simp)
    simpa using this
  case round =>
    obtain ⟨k, acc, hk1, hk, rfl, hal, hinv, hB, hrb, hbel, hz⟩ := hrel
    have HBl := Lib.hid hbel
    replace hB := Lib.hid hB
    replace hrb := Lib.hid hrb
    replace hinv := Lib.hid hinv
    clear hbel
    by_cases hlt : k < s.size
    · have hlt' : (k : Int) < (s.size : Int) := by omega
      by_cases hq1 : nv s[k] = nv q
      · have ht1 : ((s[k].toNat : Int) == (s[0].toNat : Int)) = true := by rw [hq.out] at hq1; simpa using hq1
        have hst := Lib.hid (tx_close q hlt hq1)
        replace hq1 := Lib.hid hq1
        have hwr := IntWalk.i64_in ((k : Int) + 1) (by omega)
        have htn : ((k : Int) + 1).toNat = k + 1 := by omega
        have hk2 : (k : Int) + 1 ≤ (s.size : Int) := by omega
        have hk3 : (0 : Int) ≤ (k : Int) + 1 := by omega
        have hBd := Lib.hid (show IsB (w.heap.size + 1) (w.heap.size + 1) acc wr.drew from hB.out)
        have hzd : w.heap.size + 1 ≤ wr.drew.heap.size := hz
        go_wp2_with fail
        go_region_held3 (fun w' => True) (trivial)
          ((go_at_call 18; (with_reducible refine (builderString_ct _ _ acc _ hBd.out hzd).mono ?_); rintro e W2 ⟨rfl, hb2⟩; have rb2 := Lib.hid (Blk.below hrb.out.drew hb2 (by omega)); have hB2 := Lib.hid (HBl.out.drew.trans (hb2.mono (by omega))); have rc := rb2.out.cell; have rf := rb2.out.frozen; clear hb2))
        go_wp2
        have e := (Blk.four rb2.out (.int .i64 5) (.string (s.extract 0 (k + 1))) (.string ⟨acc.toArray⟩) (.int .i64 0)).cell
        refine bodyPost_ret (v := .agg #[.int .i64 5, .string (s.extract 0 (k + 1)), .string ⟨acc.toArray⟩, .int .i64 0]) (by simp [results, Tryd.results47, go_sem, e]) rfl ⟨?_, ?_⟩
        · rw [hP.out, hinv.out, hst.out]
          refine ret_tok rfl ((take_ex _ _).trans ?_) (by simp [bs]) rfl
          rw [show 1 + (k - 1 + 1) = k + 1 by omega]
        · exact (((hB2.out.setCell (by simp) _).setCell (by simp) _).setCell (by simp) _).setCell (by simp) _
      · have ht1 : ((s[k].toNat : Int) == (s[0].toNat : Int)) = false := by rw [hq.out] at hq1; simpa using hq1
        by_cases hn1 : nv s[k] = 10
        · have ht2 : ((s[k].toNat : Int) == 10) = true := by simpa using hn1
          have hst := Lib.hid (tx_nl q hlt hq1 hn1)
          replace hq1 := Lib.hid hq1
          replace hn1 := Lib.hid hn1
          have rc := hrb.out.cell
          have rf := hrb.out.frozen
          go_wp2
          have e := (Blk.four hrb.out (.int .i64 6) (.string (s.extract 0 k)) (.string ⟨#[]⟩) (.int .i64 0)).cell
          refine bodyPost_ret (v := .agg #[.int .i64 6, .string (s.extract 0 k), .string ⟨#[]⟩, .int .i64 0]) (by simp [results, Tryd.results47, go_sem, e]) rfl ⟨?_, ?_⟩
          · rw [hP.out, hinv.out, hst.out]
            refine ret_tok rfl ((take_ex _ _).trans ?_) (by simp [bs]) rfl
            rw [show 1 + (k - 1 + 0) = k by omega]
          · exact (((HBl.out.setCell (by simp) _).setCell (by simp) _).setCell (by simp) _).setCell (by simp) _
        · have ht2 : ((s[k].toNat : Int) == 10) = false := by simpa using hn1
          by_cases hb1 : nv s[k] = 92 ∧ k + 1 < s.size
          · obtain ⟨hb1, hb2⟩ := hb1
            have ht3 : ((s[k].toNat : Int) == 92) = true := by simpa using hb1
            have hst := Lib.hid (tx_esc q hb2 hq1 hn1 hb1)
            have hb3 : (k : Int) + 1 < (s.size : Int) := by omega
            replace hq1 := Lib.hid hq1
            replace hn1 := Lib.hid hn1
            replace hb1 := Lib.hid hb1
            go_wp2_with ((go_at_call 58; (with_reducible refine (writeByte_ct _ _ acc s[k + 1] _ hB.out (by omega) hz).mono ?_); rintro e w1 ⟨rfl, hb0, hbw⟩; replace hb0 := Lib.hid hb0; replace hbw := Lib.hid hbw))
            go_roundw
            case rel =>
              refine ⟨k + 2, acc ++ [s[k + 1]], by omega, by omega, by go_num, by simp; omega, ?_, hb0.out, hrb.out.below hbw.out (by omega), HBl.out.trans (hbw.out.mono (by omega)), Nat.le_trans hz hbw.out.size⟩
              rw [hinv.out, hst.out]
              simp
              omega
            case measure => simp [intOf]; omega
          · have hst := Lib.hid (tx_other q hlt hq1 hn1 (by omega))
            replace hq1 := Lib.hid hq1
            replace hn1 := Lib.hid hn1
            by_cases hb2 : nv s[k] = 92
            · have hb4 : ¬ (k + 1 < s.size) := fun h => hb1 ⟨hb2, h⟩
              have hb3 : ¬ ((k : Int) + 1 < (s.size : Int)) := by omega
              have ht3 : ((s[k].toNat : Int) == 92) = true := by simpa using hb2
              replace hb2 := Lib.hid hb2
              clear hb1
              go_wp2_with ((go_at_call 58; (with_reducible refine (writeByte_ct _ _ acc s[k] _ hB.out (by omega) hz).mono ?_); rintro e w1 ⟨rfl, hb0, hbw⟩; replace hb0 := Lib.hid hb0; replace hbw := Lib.hid hbw))
              go_roundw
              case rel =>
                refine ⟨k + 1, acc ++ [s[k]], by omega, by omega, by go_num, by simp; omega, ?_, hb0.out, hrb.out.below hbw.out (by omega), HBl.out.trans (hbw.out.mono (by omega)), Nat.le_trans hz hbw.out.size⟩
                rw [hinv.out, hst.out]
                simp
                omega
              case measure => simp [intOf]; omega
            · have ht3 : ((s[k].toNat : Int) == 92) = false := by simpa using hb2
              replace hb2 := Lib.hid hb2
              clear hb1
              go_wp2_with ((go_at_call 58; (with_reducible refine (writeByte_ct _ _ acc s[k] _ hB.out (by omega) hz).mono ?_); rintro e w1 ⟨rfl, hb0, hbw⟩; replace hb0 := Lib.hid hb0; replace hbw := Lib.hid hbw))
              go_roundw
              case rel =>
                refine ⟨k + 1, acc ++ [s[k]], by omega, by omega, by go_num, by simp; omega, ?_, hb0.out, hrb.out.below hbw.out (by omega), HBl.out.trans (hbw.out.mono (by omega)), Nat.le_trans hz hbw.out.size⟩
                rw [hinv.out, hst.out]
                simp
                omega
              case measure => simp [intOf]; omega
    · obtain rfl : k = s.size := by omega
      have hst := Lib.hid (tx_end q (Nat.le_refl s.size))
      have rc := hrb.out.cell
      have rf := hrb.out.frozen
      go_wp2
      have e := (Blk.four hrb.out (.int .i64 6) (.string s) (.string ⟨#[]⟩) (.int .i64 0)).cell
      refine bodyPost_ret (v := .agg #[.int .i64 6, .string s, .string ⟨#[]⟩, .int .i64 0]) (by simp [results, Tryd.results47, go_sem, e]) rfl ⟨?_, ?_⟩
      · rw [hP.out, hinv.out, hst.out]
        refine ret_tok rfl ?_ (by simp [bs]) rfl
        rw [show 1 + (s.size - 1 + 0) = s.size by omega, List.take_of_length_le (by rw [← Lib.size_eq]; omega)]
        exact (Lib.mk_data s).symm
      · exact (((HBl.out.setCell (by simp) _).setCell (by simp) _).setCell (by simp) _).setCell (by simp) _

end Go.Proofs.YtmjbaimccbkmpaaDoor.tok

namespace Go.Proofs.YtmjbaimccbkmpaaDoor.tok
open Go.RowKit Go.Proofs.YtmjbaimccbkmpaaDoor.base
set_option linter.unusedVariables false

def blankB (c : UInt8) : Bool := ([32, 9, 10, 12, 13] : List UInt8).contains c
def spaceP (l : Bs) : Nat := (l.takeWhile blankB).length
def noteP (l : Bs) : Tk := ⟨9, if 0 ≤ Lib.index (l.drop 2) [42, 47] then l.take ((Lib.index (l.drop 2) [42, 47]).toNat + 4) else l, [], 0⟩
def quoteP : Bs → Bool
  | c :: _ => decide (nv c = 39 ∨ nv c = 34)
  | [] => false
def hashP : Bs → Bool
  | c :: d :: r => decide (nv c = 35) && (signI (nv d) || escP (d :: r))
  | _ => false
def atP : Bs → Bool
  | c :: r => decide (nv c = 64) && beginsP r
  | [] => false
def oneK : Bs → Int
  | c :: _ => if nv c = 40 ∨ nv c = 91 ∨ nv c = 123 then 10 else if nv c = 41 ∨ nv c = 93 ∨ nv c = 125 then 11 else if nv c = 92 then 6 else 12
  | [] => 12
def wordP (l : Bs) : Tk :=
  if Lib.hasPrefix (l.drop (namedP 1 l 0).raw.length) [40] then ⟨2, l.take ((namedP 1 l 0).raw.length + 1), (namedP 1 l 0).val, (namedP 1 l 0).num⟩ else namedP 1 l 0
/-- the first token -/
def firstP (l : Bs) : Tk :=
  if 0 < spaceP l then ⟨8, l.take (spaceP l), [], 0⟩ else
  if Lib.hasPrefix l [47, 42] then noteP l else
  if quoteP l then textP l else
  if hashP l then namedP 4 l 1 else
  if atP l then namedP 3 l 1 else
  if 0 < (numberP l).2 then numTkP l (numberP l).1 (numberP l).2 else
  if beginsP l then wordP l else ⟨oneK l, l.take 1, [], 0⟩

theorem space_len (l : Bs) : (Lib.trimLeftS l [32, 9, 10, 12, 13]).length + spaceP l = l.length := by
  have h := cut_len blankB l
  have e : Lib.trimLeftS l [32, 9, 10, 12, 13] = l.dropWhile blankB := by
    unfold Lib.trimLeftS blankB
    rfl
  rw [e]
  unfold spaceP
  omega

theorem digitsP_zero {c : UInt8} {r : Bs} (h : digI (nv c) = false) : digitsP (c :: r) = 0 := by
  unfold digitsP
  rw [List.takeWhile_cons_of_neg (by simpa using h)]
  rfl
/-- what begins with another sign is no number -/
theorem number_no {c : UInt8} {r : Bs} (h1 : ¬ nv c = 43) (h2 : ¬ nv c = 45) (h3 : ¬ nv c = 46) (h4 : digI (nv c) = false) : (numberP (c :: r)).2 = 0 := by
  have hs : signAt (c :: r) = 0 := by simp [signAt, h1, h2]
  unfold numberP
  rw [hs, List.drop_zero, digitsP_zero h4]
  have hb : behindP ((c :: r).drop (0 + 0)) = 0 := by simp [behindP, h3]
  rw [hb]
  rfl
theorem number_no' {l : Bs} {c : UInt8} (h : l.head? = some c) (hn : 0 < (numberP l).2) : ¬ nv c = 35 ∧ ¬ nv c = 64 ∧ ¬ nv c = 39 ∧ ¬ nv c = 34 := by
  match l, h with
  | a :: r, h =>
    obtain rfl : a = c := by simpa using h
    refine ⟨fun e => ?_, fun e => ?_, fun e => ?_, fun e => ?_⟩ <;>
    · have := number_no (c := a) (r := r) (by omega) (by omega) (by omega) (by simp [digI]; omega)
      omega
theorem begins_no' {l : Bs} {c : UInt8} (h : l.head? = some c) (hn : beginsP l = true) : ¬ nv c = 35 ∧ ¬ nv c = 64 ∧ ¬ nv c = 39 ∧ ¬ nv c = 34 := by
  have key : ∀ x : Int, x = nv c → (x = 35 ∨ x = 64 ∨ x = 39 ∨ x = 34) → False := by
    intro x hx hv
    match l, h with
    | [a], h =>
      obtain rfl : a = c := by simpa using h
      simp only [beginsP, startsI, decide_eq_true_eq] at hn
      omega
    | a :: d :: r, h =>
      obtain rfl : a = c := by simpa using h
      have h45 : ¬ nv a = 45 := by omega
      simp only [beginsP, if_neg h45, startsI, escP, Bool.or_eq_true, Bool.and_eq_true, decide_eq_true_eq] at hn
      omega
  exact ⟨fun e => key _ rfl (Or.inl e), fun e => key _ rfl (Or.inr (Or.inl e)), fun e => key _ rfl (Or.inr (Or.inr (Or.inl e))), fun e => key _ rfl (Or.inr (Or.inr (Or.inr e)))⟩

theorem head_of {s : ByteArray} (h : 0 < s.size) : s.data.toList.head? = some s[0] := by
  obtain ⟨⟨l⟩⟩ := s
  match l, h with
  | a :: r, _ => rfl
theorem quote_of {s : ByteArray} (h : 0 < s.size) : quoteP s.data.toList = decide (nv s[0] = 39 ∨ nv s[0] = 34) := by
  obtain ⟨⟨l⟩⟩ := s
  match l, h with
  | a :: r, _ => rfl
theorem hash_long {s : ByteArray} (h : 1 < s.size) : hashP s.data.toList = (decide (nv (s[0]'(by omega)) = 35) && (signI (nv s[1]) || escP (s.extract 1 s.size).data.toList)) := by
  rw [Lib.extract_to_end]
  obtain ⟨⟨l⟩⟩ := s
  match l, h with
  | a :: b :: r, _ => rfl
theorem hash_short {s : ByteArray} (h : s.size ≤ 1) : hashP s.data.toList = false := by
  obtain ⟨⟨l⟩⟩ := s
  match l, h with
  | [], _ => rfl
  | [a], _ => rfl
theorem at_of {s : ByteArray} (h : 0 < s.size) : atP s.data.toList = (decide (nv s[0] = 64) && beginsP (s.extract 1 s.size).data.toList) := by
  rw [Lib.extract_to_end]
  obtain ⟨⟨l⟩⟩ := s
  match l, h with
  | a :: r, _ => rfl
theorem one_of {s : ByteArray} (h : 0 < s.size) : oneK s.data.toList = if nv s[0] = 40 ∨ nv s[0] = 91 ∨ nv s[0] = 123 then 10 else if nv s[0] = 41 ∨ nv s[0] = 93 ∨ nv s[0] = 125 then 11 else if nv s[0] = 92 then 6 else 12 := by
  obtain ⟨⟨l⟩⟩ := s
  match l, h with
  | a :: r, _ => rfl

/-- the number of the library's table is there -/
def MaxL (w : World) : Prop := ∃ m, w.cell? ⟨3, 0, none⟩ = some (.int .i64 m)
theorem MaxL.lt {w : World} (h : MaxL w) : 3 < w.heap.size := by
  obtain ⟨m, hm⟩ := h
  exact World.block_lt_of_cell? w _ hm
theorem MaxL.on {w w' : World} {B : Nat} (h : MaxL w) (hb : Below B w w') (hB : 3 < B) : MaxL w' := by
  obtain ⟨m, hm⟩ := h
  exact ⟨m, (hb.cell (p := ⟨3, 0, none⟩) hB).trans hm⟩

end Go.Proofs.YtmjbaimccbkmpaaDoor.tok

namespace Go.Proofs.YtmjbaimccbkmpaaDoor.tok
open Go.RowKit Go.Proofs.YtmjbaimccbkmpaaDoor.base
set_option linter.unusedVariables false

set_option maxRecDepth 100000 in
set_option maxHeartbeats 8000000 in
theorem first_space (s : ByteArray) (hs : s.size < 4294967281) (h0 : 0 < s.size) (w : World) (hsp : 0 < spaceP s.data.toList) :
    Calls Tryd.prog 31 #[.string s] w fun e w' => e = .returned (.agg (firstP s.data.toList).cells) ∧ Below w.heap.size w w' := by
  have hsl := space_len s.data.toList
  rw [← Lib.size_eq] at hsl
  have cT := fun w => trimL_ct s [32, 9, 10, 12, 13] (by decide) (by decide) w
  have hP : firstP s.data.toList = if 0 < spaceP s.data.toList then ⟨8, s.data.toList.take (spaceP s.data.toList), [], 0⟩ else
    if Lib.hasPrefix s.data.toList [47, 42] then noteP s.data.toList else
    if quoteP s.data.toList then textP s.data.toList else
    if hashP s.data.toList then namedP 4 s.data.toList 1 else
    if atP s.data.toList then namedP 3 s.data.toList 1 else
    if 0 < (numberP s.data.toList).2 then numTkP s.data.toList (numberP s.data.toList).1 (numberP s.data.toList).2 else
    if beginsP s.data.toList then wordP s.data.toList else ⟨oneK s.data.toList, s.data.toList.take 1, [], 0⟩ := rfl
  generalize hNP : firstP s.data.toList = NP at *
  clear hNP
  generalize hTT : Lib.trimLeftS s.data.toList [32, 9, 10, 12, 13] = T at *
  clear hTT
  replace cT := Lib.hid cT

  rw [if_pos hsp] at hP
  have hsl1 : (T.length : Int) < (s.size : Int) := by omega
  have hsl2 : spaceP s.data.toList = s.size - T.length := by omega
  rw [hsl2] at hP
  replace hP := Lib.hid hP
  clear hsp hsl hsl2

  go_enter Tryd.func31, Tryd.ntmps31
  go_wp2_with fail
  generalize hW0 : (w.alloc (.cells #[.string s] 9)).alloc (.cells #[.int .i64 0, .string ⟨#[]⟩, .string ⟨#[]⟩, .int .i64 0] 43) = W0
  have HB0 := Lib.hid (show Below w.heap.size w W0 by subst hW0; exact ((Below.refl _ _).alloc (Nat.le_refl _) _).alloc (by simp) _)
  have HZ : w.heap.size + 2 ≤ W0.heap.size := by subst hW0; simp
  have sB0 := Lib.hid (show Blk W0 w.heap.size 9 #[.string s] by subst hW0; exact (Blk.new rfl).alloc _)
  have rB0 := Lib.hid (show Blk W0 (w.heap.size + 1) 43 #[.int .i64 0, .string ⟨#[]⟩, .string ⟨#[]⟩, .int .i64 0] by subst hW0; exact Blk.new (by simp))
  have c0 : W0.cell? ⟨w.heap.size, 0, none⟩ = some (.string s) := sB0.out.cell 0
  clear hW0
  go_region_held3 (fun w' => (∀ b o, b < w.heap.size + 2 → w'.cell? ⟨b, o, none⟩ = W0.cell? ⟨b, o, none⟩) ∧ Below (w.heap.size + 2) W0 w')
    (first | exact As.beg | assumption | exact As.on hb3 (by assumption) HZ | exact As.alloc (by assumption) HZ)
    ((go_at_call 44; (with_reducible refine (cT.out _).mono ?_); rintro e W1 ⟨rfl, hb3⟩; have hS := Lib.hid (As.on (B := w.heap.size + 2) (W0 := W0) hb3 As.beg HZ)))
  all_goals
    rename_i hHeld
    clear hHeld
    have HB1 := Lib.hid (HB0.out.trans (hS.out.2.mono (by omega)))
    have sB := Lib.hid (sB0.out.below hS.out.2 (by omega))
    have rB := Lib.hid (rB0.out.below hS.out.2 (by omega))
    have rC := rB.out.cell
    have rF := rB.out.frozen
    have sF := sB.out.frozen
    have sz1 := rB.out.lt
    clear sB0 rB0 HB0 hS c0 hb3
    have sC := sB.out.cell

    go_wp2

    have e := Blk.cell (Blk.four (rB.out) (.int .i64 8) (.string (s.extract 0 (s.size - T.length))) (.string ⟨#[]⟩) (.int .i64 0))
    refine bodyPost_ret (v := .agg #[.int .i64 8, .string (s.extract 0 (s.size - T.length)), .string ⟨#[]⟩, .int .i64 0]) (by simp [results, Tryd.results31, go_sem, e]) rfl ⟨?_, ?_⟩
    · rw [hP.out]
      exact ret_tok rfl (take_ex _ _) rfl rfl
    · exact (((HB1.out.setCell (by simp) _).setCell (by simp) _).setCell (by simp) _).setCell (by simp) _

end Go.Proofs.YtmjbaimccbkmpaaDoor.tok

namespace Go.Proofs.YtmjbaimccbkmpaaDoor.tok
open Go.RowKit Go.Proofs.YtmjbaimccbkmpaaDoor.base
set_option linter.unusedVariables false

set_option maxRecDepth 100000 in
set_option maxHeartbeats 8000000 in
theorem first_quote (s : ByteArray) (hs : s.size < 4294967281) (h0 : 0 < s.size) (w : World) (hsp : spaceP s.data.toList = 0) (hn : Lib.hasPrefix s.data.toList [47, 42] = false) (hq : nv s[0] = 39 ∨ nv s[0] = 34) :
    Calls Tryd.prog 31 #[.string s] w fun e w' => e = .returned (.agg (firstP s.data.toList).cells) ∧ Below w.heap.size w w' := by
  have hsl := space_len s.data.toList
  rw [← Lib.size_eq] at hsl
  have cT := fun w => trimL_ct s [32, 9, 10, 12, 13] (by decide) (by decide) w
  have hP : firstP s.data.toList = if 0 < spaceP s.data.toList then ⟨8, s.data.toList.take (spaceP s.data.toList), [], 0⟩ else
    if Lib.hasPrefix s.data.toList [47, 42] then noteP s.data.toList else
    if quoteP s.data.toList then textP s.data.toList else
    if hashP s.data.toList then namedP 4 s.data.toList 1 else
    if atP s.data.toList then namedP 3 s.data.toList 1 else
    if 0 < (numberP s.data.toList).2 then numTkP s.data.toList (numberP s.data.toList).1 (numberP s.data.toList).2 else
    if beginsP s.data.toList then wordP s.data.toList else ⟨oneK s.data.toList, s.data.toList.take 1, [], 0⟩ := rfl
  generalize hNP : firstP s.data.toList = NP at *
  clear hNP
  generalize hTT : Lib.trimLeftS s.data.toList [32, 9, 10, 12, 13] = T at *
  clear hTT
  replace cT := Lib.hid cT

  rw [if_neg (by omega : ¬ 0 < spaceP s.data.toList)] at hP
  have hsl1 : (s.size : Int) ≤ (T.length : Int) := by omega
  have hsl3 : (T.length : Int) ≤ (s.size : Int) := by omega
  clear hsl

  have cC : ∀ w, Calls Tryd.prog 45 #[.string s, .string ⟨#[47, 42]⟩] w fun e w' => e = .returned (.tuple #[.string ⟨(Lib.trimPrefix s.data.toList [47, 42]).toArray⟩, .bool false]) ∧ w = w' := fun w => by
    have := Tryd.strings_CutPrefix s (bs [47, 42]) w
    rw [show (bs [47, 42]).data.toList = [47, 42] from rfl, hn] at this
    exact this.mono fun e w' ⟨h1, h2⟩ => ⟨h1, h2.symm⟩

  rw [hn, if_neg (by simp)] at hP
  generalize Lib.trimPrefix s.data.toList [47, 42] = R at *
  replace cC := Lib.hid cC
  replace hn := Lib.hid hn

  rw [quote_of h0, decide_eq_true hq, if_pos rfl] at hP

  have cK : ∀ w, Calls Tryd.prog 47 #[.string s] w fun e w' => e = .returned (.agg (textP s.data.toList).cells) ∧ Below w.heap.size w w' := fun w => text_ct s (by omega) h0 w
  generalize hTK : textP s.data.toList = t at *
  clear hTK
  obtain ⟨tk, tr, tv, tn⟩ := t
  simp only [Tk.cells] at cK
  replace cK := Lib.hid cK

  replace hP := Lib.hid hP
  rcases hq with hx | hx
  · skip
    have q39 : ((s[0].toNat : Int) == 39) = true := by have h := hx; simp only [nv] at h; rw [h]; rfl
    replace hx := Lib.hid hx

    go_enter Tryd.func31, Tryd.ntmps31
    go_wp2_with fail
    generalize hW0 : (w.alloc (.cells #[.string s] 9)).alloc (.cells #[.int .i64 0, .string ⟨#[]⟩, .string ⟨#[]⟩, .int .i64 0] 43) = W0
    have HB0 := Lib.hid (show Below w.heap.size w W0 by subst hW0; exact ((Below.refl _ _).alloc (Nat.le_refl _) _).alloc (by simp) _)
    have HZ : w.heap.size + 2 ≤ W0.heap.size := by subst hW0; simp
    have sB0 := Lib.hid (show Blk W0 w.heap.size 9 #[.string s] by subst hW0; exact (Blk.new rfl).alloc _)
    have rB0 := Lib.hid (show Blk W0 (w.heap.size + 1) 43 #[.int .i64 0, .string ⟨#[]⟩, .string ⟨#[]⟩, .int .i64 0] by subst hW0; exact Blk.new (by simp))
    have c0 : W0.cell? ⟨w.heap.size, 0, none⟩ = some (.string s) := sB0.out.cell 0
    clear hW0
    go_region_held3 (fun w' => (∀ b o, b < w.heap.size + 2 → w'.cell? ⟨b, o, none⟩ = W0.cell? ⟨b, o, none⟩) ∧ Below (w.heap.size + 2) W0 w')
      (first | exact As.beg | assumption | exact As.on hb3 (by assumption) HZ | exact As.alloc (by assumption) HZ)
      ((go_at_call 44; (with_reducible refine (cT.out _).mono ?_); rintro e W1 ⟨rfl, hb3⟩; have hS := Lib.hid (As.on (B := w.heap.size + 2) (W0 := W0) hb3 As.beg HZ)))
    all_goals
      rename_i hHeld
      clear hHeld
      have HB1 := Lib.hid (HB0.out.trans (hS.out.2.mono (by omega)))
      have sB := Lib.hid (sB0.out.below hS.out.2 (by omega))
      have rB := Lib.hid (rB0.out.below hS.out.2 (by omega))
      have rC := rB.out.cell
      have rF := rB.out.frozen
      have sF := sB.out.frozen
      have sz1 := rB.out.lt
      clear sB0 rB0 HB0 hS c0 hb3
      have sC := sB.out.cell
      go_wp2_with (first | (go_at_call 45; (with_reducible refine (cC.out _).mono ?_); rintro e w2 ⟨rfl, rfl⟩) | (go_at_call 47; (with_reducible refine (cK.out _).mono ?_); rintro e W2 ⟨rfl, hb2⟩; have rB2 := Lib.hid (rB.out.below hb2 rB.out.lt); have HB2 := Lib.hid (HB1.out.trans (hb2.mono HB1.out.size)); have sB2 := Lib.hid (sB.out.below hb2 sB.out.lt); clear rC rF sC sF hb2; have rC := rB2.out.cell; have rF := rB2.out.frozen; have sC := sB2.out.cell; have sF := sB2.out.frozen; have sz2 := rB2.out.lt; have szs := sB2.out.lt))

      have e := Blk.cell (Blk.four (rB2.out) (.int .i64 tk) (.string (bs tr)) (.string (bs tv)) (.int .i64 tn))
      refine bodyPost_ret (v := .agg #[.int .i64 tk, .string (bs tr), .string (bs tv), .int .i64 tn]) (by simp [results, Tryd.results31, go_sem, e]) rfl ⟨?_, ?_⟩
      · rw [hP.out]
        skip
      · exact (((HB2.out.setCell (by simp) _).setCell (by simp) _).setCell (by simp) _).setCell (by simp) _

  · skip
    have q39 : ((s[0].toNat : Int) == 39) = false := by have h := hx; simp only [nv] at h; rw [beq_eq_false_iff_ne]; omega
    have q34 : ((s[0].toNat : Int) == 34) = true := by have h := hx; simp only [nv] at h; rw [h]; rfl
    replace hx := Lib.hid hx

    go_enter Tryd.func31, Tryd.ntmps31
    go_wp2_with fail
    generalize hW0 : (w.alloc (.cells #[.string s] 9)).alloc (.cells #[.int .i64 0, .string ⟨#[]⟩, .string ⟨#[]⟩, .int .i64 0] 43) = W0
    have HB0 := Lib.hid (show Below w.heap.size w W0 by subst hW0; exact ((Below.refl _ _).alloc (Nat.le_refl _) _).alloc (by simp) _)
    have HZ : w.heap.size + 2 ≤ W0.heap.size := by subst hW0; simp
    have sB0 := Lib.hid (show Blk W0 w.heap.size 9 #[.string s] by subst hW0; exact (Blk.new rfl).alloc _)
    have rB0 := Lib.hid (show Blk W0 (w.heap.size + 1) 43 #[.int .i64 0, .string ⟨#[]⟩, .string ⟨#[]⟩, .int .i64 0] by subst hW0; exact Blk.new (by simp))
    have c0 : W0.cell? ⟨w.heap.size, 0, none⟩ = some (.string s) := sB0.out.cell 0
    clear hW0
    go_region_held3 (fun w' => (∀ b o, b < w.heap.size + 2 → w'.cell? ⟨b, o, none⟩ = W0.cell? ⟨b, o, none⟩) ∧ Below (w.heap.size + 2) W0 w')
      (first | exact As.beg | assumption | exact As.on hb3 (by assumption) HZ | exact As.alloc (by assumption) HZ)
      ((go_at_call 44; (with_reducible refine (cT.out _).mono ?_); rintro e W1 ⟨rfl, hb3⟩; have hS := Lib.hid (As.on (B := w.heap.size + 2) (W0 := W0) hb3 As.beg HZ)))
    all_goals
      rename_i hHeld
      clear hHeld
      have HB1 := Lib.hid (HB0.out.trans (hS.out.2.mono (by omega)))
      have sB := Lib.hid (sB0.out.below hS.out.2 (by omega))
      have rB := Lib.hid (rB0.out.below hS.out.2 (by omega))
      have rC := rB.out.cell
      have rF := rB.out.frozen
      have sF := sB.out.frozen
      have sz1 := rB.out.lt
      clear sB0 rB0 HB0 hS c0 hb3
      have sC := sB.out.cell
      go_wp2_with (first | (go_at_call 45; (with_reducible refine (cC.out _).mono ?_); rintro e w2 ⟨rfl, rfl⟩) | (go_at_call 47; (with_reducible refine (cK.out _).mono ?_); rintro e W2 ⟨rfl, hb2⟩; have rB2 := Lib.hid (rB.out.below hb2 rB.out.lt); have HB2 := Lib.hid (HB1.out.trans (hb2.mono HB1.out.size)); have sB2 := Lib.hid (sB.out.below hb2 sB.out.lt); clear rC rF sC sF hb2; have rC := rB2.out.cell; have rF := rB2.out.frozen; have sC := sB2.out.cell; have sF := sB2.out.frozen; have sz2 := rB2.out.lt; have szs := sB2.out.lt))

      have e := Blk.cell (Blk.four (rB2.out) (.int .i64 tk) (.string (bs tr)) (.string (bs tv)) (.int .i64 tn))
      refine bodyPost_ret (v := .agg #[.int .i64 tk, .string (bs tr), .string (bs tv), .int .i64 tn]) (by simp [results, Tryd.results31, go_sem, e]) rfl ⟨?_, ?_⟩
      · rw [hP.out]
        skip
      · exact (((HB2.out.setCell (by simp) _).setCell (by simp) _).setCell (by simp) _).setCell (by simp) _


end Go.Proofs.YtmjbaimccbkmpaaDoor.tok

namespace Go.Proofs.YtmjbaimccbkmpaaDoor.tok
open Go.RowKit Go.Proofs.YtmjbaimccbkmpaaDoor.base
set_option linter.unusedVariables false

set_option maxRecDepth 100000 in
set_option maxHeartbeats 8000000 in
theorem first_hash (s : ByteArray) (hs : s.size < 4294967281) (h0 : 0 < s.size) (w : World) (hsp : spaceP s.data.toList = 0) (hn : Lib.hasPrefix s.data.toList [47, 42] = false) (hx : nv s[0] = 35) (h1 : 1 < s.size) (sb eb : Bool) (hsb : signI (nv s[1]) = sb) (heb : escP (s.extract 1 s.size).data.toList = eb) (hor : (sb || eb) = true) :
    Calls Tryd.prog 31 #[.string s] w fun e w' => e = .returned (.agg (firstP s.data.toList).cells) ∧ Below w.heap.size w w' := by
  have hsl := space_len s.data.toList
  rw [← Lib.size_eq] at hsl
  have cT := fun w => trimL_ct s [32, 9, 10, 12, 13] (by decide) (by decide) w
  have hP : firstP s.data.toList = if 0 < spaceP s.data.toList then ⟨8, s.data.toList.take (spaceP s.data.toList), [], 0⟩ else
    if Lib.hasPrefix s.data.toList [47, 42] then noteP s.data.toList else
    if quoteP s.data.toList then textP s.data.toList else
    if hashP s.data.toList then namedP 4 s.data.toList 1 else
    if atP s.data.toList then namedP 3 s.data.toList 1 else
    if 0 < (numberP s.data.toList).2 then numTkP s.data.toList (numberP s.data.toList).1 (numberP s.data.toList).2 else
    if beginsP s.data.toList then wordP s.data.toList else ⟨oneK s.data.toList, s.data.toList.take 1, [], 0⟩ := rfl
  generalize hNP : firstP s.data.toList = NP at *
  clear hNP
  generalize hTT : Lib.trimLeftS s.data.toList [32, 9, 10, 12, 13] = T at *
  clear hTT
  replace cT := Lib.hid cT

  rw [if_neg (by omega : ¬ 0 < spaceP s.data.toList)] at hP
  have hsl1 : (s.size : Int) ≤ (T.length : Int) := by omega
  have hsl3 : (T.length : Int) ≤ (s.size : Int) := by omega
  clear hsl

  have cC : ∀ w, Calls Tryd.prog 45 #[.string s, .string ⟨#[47, 42]⟩] w fun e w' => e = .returned (.tuple #[.string ⟨(Lib.trimPrefix s.data.toList [47, 42]).toArray⟩, .bool false]) ∧ w = w' := fun w => by
    have := Tryd.strings_CutPrefix s (bs [47, 42]) w
    rw [show (bs [47, 42]).data.toList = [47, 42] from rfl, hn] at this
    exact this.mono fun e w' ⟨h1, h2⟩ => ⟨h1, h2.symm⟩

  rw [hn, if_neg (by simp)] at hP
  generalize Lib.trimPrefix s.data.toList [47, 42] = R at *
  replace cC := Lib.hid cC
  replace hn := Lib.hid hn

  rw [quote_of h0, decide_eq_false (by omega : ¬ (nv s[0] = 39 ∨ nv s[0] = 34)), if_neg (by simp)] at hP

  rw [hash_long h1, decide_eq_true hx, hsb, heb, hor, if_pos (by rfl)] at hP

  have cK : ∀ w, Calls Tryd.prog 50 #[.int .i64 4, .string s, .int .i64 1] w fun e w' => e = .returned (.agg (namedP 4 s.data.toList 1).cells) ∧ Below w.heap.size w w' := fun w => named_ct 4 s 1 (by omega) (by omega) w
  generalize hTK : namedP 4 s.data.toList 1 = t at *
  clear hTK
  obtain ⟨tk, tr, tv, tn⟩ := t
  simp only [Tk.cells] at cK
  replace cK := Lib.hid cK

  have cS := fun w => sign_ct (nv s[1]) (nv_nn _) (nv_lt _) w
  simp only [hsb] at cS
  have cE := fun w => escape_ct (s.extract 1 s.size) (sub_len _ _ (by unfold maxLen; omega)) w
  simp only [heb] at cE
  replace cS := Lib.hid cS
  replace cE := Lib.hid cE
  have h1' : (1 : Int) < (s.size : Int) := by omega
  clear hsb heb

  replace hP := Lib.hid hP
  have q39 : ((s[0].toNat : Int) == 39) = false := by have h := hx; simp only [nv] at h; rw [beq_eq_false_iff_ne]; omega
  have q34 : ((s[0].toNat : Int) == 34) = false := by have h := hx; simp only [nv] at h; rw [beq_eq_false_iff_ne]; omega
  have q35 : ((s[0].toNat : Int) == 35) = true := by have h := hx; simp only [nv] at h; rw [h]; rfl

  replace hx := Lib.hid hx
  cases sb
  · cases eb
    · cases hor
    · clear hor

      go_enter Tryd.func31, Tryd.ntmps31
      go_wp2_with fail
      generalize hW0 : (w.alloc (.cells #[.string s] 9)).alloc (.cells #[.int .i64 0, .string ⟨#[]⟩, .string ⟨#[]⟩, .int .i64 0] 43) = W0
      have HB0 := Lib.hid (show Below w.heap.size w W0 by subst hW0; exact ((Below.refl _ _).alloc (Nat.le_refl _) _).alloc (by simp) _)
      have HZ : w.heap.size + 2 ≤ W0.heap.size := by subst hW0; simp
      have sB0 := Lib.hid (show Blk W0 w.heap.size 9 #[.string s] by subst hW0; exact (Blk.new rfl).alloc _)
      have rB0 := Lib.hid (show Blk W0 (w.heap.size + 1) 43 #[.int .i64 0, .string ⟨#[]⟩, .string ⟨#[]⟩, .int .i64 0] by subst hW0; exact Blk.new (by simp))
      have c0 : W0.cell? ⟨w.heap.size, 0, none⟩ = some (.string s) := sB0.out.cell 0
      clear hW0
      go_region_held3 (fun w' => (∀ b o, b < w.heap.size + 2 → w'.cell? ⟨b, o, none⟩ = W0.cell? ⟨b, o, none⟩) ∧ Below (w.heap.size + 2) W0 w')
        (first | exact As.beg | assumption | exact As.on hb3 (by assumption) HZ | exact As.alloc (by assumption) HZ)
        ((go_at_call 44; (with_reducible refine (cT.out _).mono ?_); rintro e W1 ⟨rfl, hb3⟩; have hS := Lib.hid (As.on (B := w.heap.size + 2) (W0 := W0) hb3 As.beg HZ)))
      all_goals
        rename_i hHeld
        clear hHeld
        have HB1 := Lib.hid (HB0.out.trans (hS.out.2.mono (by omega)))
        have sB := Lib.hid (sB0.out.below hS.out.2 (by omega))
        have rB := Lib.hid (rB0.out.below hS.out.2 (by omega))
        have rC := rB.out.cell
        have rF := rB.out.frozen
        have sF := sB.out.frozen
        have sz1 := rB.out.lt
        clear sB0 rB0 HB0 hS c0 hb3
        have sC := sB.out.cell
        go_wp2_with (first | (go_at_call 45; (with_reducible refine (cC.out _).mono ?_); rintro e w2 ⟨rfl, rfl⟩) | (go_at_call 48; (with_reducible refine (cS.out _).mono ?_); rintro e w2 ⟨rfl, rfl⟩) | (go_at_call 49; (with_reducible refine (cE.out _).mono ?_); rintro e w2 ⟨rfl, rfl⟩) | (go_at_call 50; (with_reducible refine (cK.out _).mono ?_); rintro e W2 ⟨rfl, hb2⟩; have rB2 := Lib.hid (rB.out.below hb2 rB.out.lt); have HB2 := Lib.hid (HB1.out.trans (hb2.mono HB1.out.size)); have sB2 := Lib.hid (sB.out.below hb2 sB.out.lt); clear rC rF sC sF hb2; have rC := rB2.out.cell; have rF := rB2.out.frozen; have sC := sB2.out.cell; have sF := sB2.out.frozen; have sz2 := rB2.out.lt; have szs := sB2.out.lt))

        have e := Blk.cell (Blk.four (rB2.out) (.int .i64 tk) (.string (bs tr)) (.string (bs tv)) (.int .i64 tn))
        refine bodyPost_ret (v := .agg #[.int .i64 tk, .string (bs tr), .string (bs tv), .int .i64 tn]) (by simp [results, Tryd.results31, go_sem, e]) rfl ⟨?_, ?_⟩
        · rw [hP.out]
          skip
        · exact (((HB2.out.setCell (by simp) _).setCell (by simp) _).setCell (by simp) _).setCell (by simp) _

  · clear hor

    go_enter Tryd.func31, Tryd.ntmps31
    go_wp2_with fail
    generalize hW0 : (w.alloc (.cells #[.string s] 9)).alloc (.cells #[.int .i64 0, .string ⟨#[]⟩, .string ⟨#[]⟩, .int .i64 0] 43) = W0
    have HB0 := Lib.hid (show Below w.heap.size w W0 by subst hW0; exact ((Below.refl _ _).alloc (Nat.le_refl _) _).alloc (by simp) _)
    have HZ : w.heap.size + 2 ≤ W0.heap.size := by subst hW0; simp
    have sB0 := Lib.hid (show Blk W0 w.heap.size 9 #[.string s] by subst hW0; exact (Blk.new rfl).alloc _)
    have rB0 := Lib.hid (show Blk W0 (w.heap.size + 1) 43 #[.int .i64 0, .string ⟨#[]⟩, .string ⟨#[]⟩, .int .i64 0] by subst hW0; exact Blk.new (by simp))
    have c0 : W0.cell? ⟨w.heap.size, 0, none⟩ = some (.string s) := sB0.out.cell 0
    clear hW0
    go_region_held3 (fun w' => (∀ b o, b < w.heap.size + 2 → w'.cell? ⟨b, o, none⟩ = W0.cell? ⟨b, o, none⟩) ∧ Below (w.heap.size + 2) W0 w')
      (first | exact As.beg | assumption | exact As.on hb3 (by assumption) HZ | exact As.alloc (by assumption) HZ)
      ((go_at_call 44; (with_reducible refine (cT.out _).mono ?_); rintro e W1 ⟨rfl, hb3⟩; have hS := Lib.hid (As.on (B := w.heap.size + 2) (W0 := W0) hb3 As.beg HZ)))
    all_goals
      rename_i hHeld
      clear hHeld
      have HB1 := Lib.hid (HB0.out.trans (hS.out.2.mono (by omega)))
      have sB := Lib.hid (sB0.out.below hS.out.2 (by omega))
      have rB := Lib.hid (rB0.out.below hS.out.2 (by omega))
      have rC := rB.out.cell
      have rF := rB.out.frozen
      have sF := sB.out.frozen
      have sz1 := rB.out.lt
      clear sB0 rB0 HB0 hS c0 hb3
      have sC := sB.out.cell
      go_wp2_with (first | (go_at_call 45; (with_reducible refine (cC.out _).mono ?_); rintro e w2 ⟨rfl, rfl⟩) | (go_at_call 48; (with_reducible refine (cS.out _).mono ?_); rintro e w2 ⟨rfl, rfl⟩) | (go_at_call 49; (with_reducible refine (cE.out _).mono ?_); rintro e w2 ⟨rfl, rfl⟩) | (go_at_call 50; (with_reducible refine (cK.out _).mono ?_); rintro e W2 ⟨rfl, hb2⟩; have rB2 := Lib.hid (rB.out.below hb2 rB.out.lt); have HB2 := Lib.hid (HB1.out.trans (hb2.mono HB1.out.size)); have sB2 := Lib.hid (sB.out.below hb2 sB.out.lt); clear rC rF sC sF hb2; have rC := rB2.out.cell; have rF := rB2.out.frozen; have sC := sB2.out.cell; have sF := sB2.out.frozen; have sz2 := rB2.out.lt; have szs := sB2.out.lt))

      have e := Blk.cell (Blk.four (rB2.out) (.int .i64 tk) (.string (bs tr)) (.string (bs tv)) (.int .i64 tn))
      refine bodyPost_ret (v := .agg #[.int .i64 tk, .string (bs tr), .string (bs tv), .int .i64 tn]) (by simp [results, Tryd.results31, go_sem, e]) rfl ⟨?_, ?_⟩
      · rw [hP.out]
        skip
      · exact (((HB2.out.setCell (by simp) _).setCell (by simp) _).setCell (by simp) _).setCell (by simp) _


end Go.Proofs.YtmjbaimccbkmpaaDoor.tok

namespace Go.Proofs.YtmjbaimccbkmpaaDoor.tok
open Go.RowKit Go.Proofs.YtmjbaimccbkmpaaDoor.base
set_option linter.unusedVariables false

set_option maxRecDepth 100000 in
set_option maxHeartbeats 8000000 in
theorem first_at (s : ByteArray) (hs : s.size < 4294967281) (h0 : 0 < s.size) (w : World) (hsp : spaceP s.data.toList = 0) (hn : Lib.hasPrefix s.data.toList [47, 42] = false) (hx : nv s[0] = 64) (hb : beginsP (s.extract 1 s.size).data.toList = true) :
    Calls Tryd.prog 31 #[.string s] w fun e w' => e = .returned (.agg (firstP s.data.toList).cells) ∧ Below w.heap.size w w' := by
  have hsl := space_len s.data.toList
  rw [← Lib.size_eq] at hsl
  have cT := fun w => trimL_ct s [32, 9, 10, 12, 13] (by decide) (by decide) w
  have hP : firstP s.data.toList = if 0 < spaceP s.data.toList then ⟨8, s.data.toList.take (spaceP s.data.toList), [], 0⟩ else
    if Lib.hasPrefix s.data.toList [47, 42] then noteP s.data.toList else
    if quoteP s.data.toList then textP s.data.toList else
    if hashP s.data.toList then namedP 4 s.data.toList 1 else
    if atP s.data.toList then namedP 3 s.data.toList 1 else
    if 0 < (numberP s.data.toList).2 then numTkP s.data.toList (numberP s.data.toList).1 (numberP s.data.toList).2 else
    if beginsP s.data.toList then wordP s.data.toList else ⟨oneK s.data.toList, s.data.toList.take 1, [], 0⟩ := rfl
  generalize hNP : firstP s.data.toList = NP at *
  clear hNP
  generalize hTT : Lib.trimLeftS s.data.toList [32, 9, 10, 12, 13] = T at *
  clear hTT
  replace cT := Lib.hid cT

  rw [if_neg (by omega : ¬ 0 < spaceP s.data.toList)] at hP
  have hsl1 : (s.size : Int) ≤ (T.length : Int) := by omega
  have hsl3 : (T.length : Int) ≤ (s.size : Int) := by omega
  clear hsl

  have cC : ∀ w, Calls Tryd.prog 45 #[.string s, .string ⟨#[47, 42]⟩] w fun e w' => e = .returned (.tuple #[.string ⟨(Lib.trimPrefix s.data.toList [47, 42]).toArray⟩, .bool false]) ∧ w = w' := fun w => by
    have := Tryd.strings_CutPrefix s (bs [47, 42]) w
    rw [show (bs [47, 42]).data.toList = [47, 42] from rfl, hn] at this
    exact this.mono fun e w' ⟨h1, h2⟩ => ⟨h1, h2.symm⟩

  rw [hn, if_neg (by simp)] at hP
  generalize Lib.trimPrefix s.data.toList [47, 42] = R at *
  replace cC := Lib.hid cC
  replace hn := Lib.hid hn

  rw [quote_of h0, decide_eq_false (by omega : ¬ (nv s[0] = 39 ∨ nv s[0] = 34)), if_neg (by simp)] at hP

  have hh : hashP s.data.toList = false := by
    rcases Nat.lt_or_ge 1 s.size with h1 | h1
    · rw [hash_long h1, decide_eq_false (by omega : ¬ nv s[0] = 35)]
      rfl
    · exact hash_short h1
  rw [hh, if_neg (by simp), at_of h0, decide_eq_true hx, hb, if_pos (by rfl)] at hP

  have cK : ∀ w, Calls Tryd.prog 50 #[.int .i64 3, .string s, .int .i64 1] w fun e w' => e = .returned (.agg (namedP 3 s.data.toList 1).cells) ∧ Below w.heap.size w w' := fun w => named_ct 3 s 1 (by omega) (by omega) w
  generalize hTK : namedP 3 s.data.toList 1 = t at *
  clear hTK
  obtain ⟨tk, tr, tv, tn⟩ := t
  simp only [Tk.cells] at cK
  replace cK := Lib.hid cK

  have cB := fun w => begins_ct (s.extract 1 s.size) (sub_len _ _ (by unfold maxLen; omega)) w
  simp only [hb] at cB
  replace cB := Lib.hid cB
  replace hP := Lib.hid hP
  clear hb hh
  have q39 : ((s[0].toNat : Int) == 39) = false := by have h := hx; simp only [nv] at h; rw [beq_eq_false_iff_ne]; omega
  have q34 : ((s[0].toNat : Int) == 34) = false := by have h := hx; simp only [nv] at h; rw [beq_eq_false_iff_ne]; omega
  have q35 : ((s[0].toNat : Int) == 35) = false := by have h := hx; simp only [nv] at h; rw [beq_eq_false_iff_ne]; omega
  have q64 : ((s[0].toNat : Int) == 64) = true := by have h := hx; simp only [nv] at h; rw [h]; rfl

  replace hx := Lib.hid hx
  have h1' : (1 : Int) ≤ (s.size : Int) := by omega

  go_enter Tryd.func31, Tryd.ntmps31
  go_wp2_with fail
  generalize hW0 : (w.alloc (.cells #[.string s] 9)).alloc (.cells #[.int .i64 0, .string ⟨#[]⟩, .string ⟨#[]⟩, .int .i64 0] 43) = W0
  have HB0 := Lib.hid (show Below w.heap.size w W0 by subst hW0; exact ((Below.refl _ _).alloc (Nat.le_refl _) _).alloc (by simp) _)
  have HZ : w.heap.size + 2 ≤ W0.heap.size := by subst hW0; simp
  have sB0 := Lib.hid (show Blk W0 w.heap.size 9 #[.string s] by subst hW0; exact (Blk.new rfl).alloc _)
  have rB0 := Lib.hid (show Blk W0 (w.heap.size + 1) 43 #[.int .i64 0, .string ⟨#[]⟩, .string ⟨#[]⟩, .int .i64 0] by subst hW0; exact Blk.new (by simp))
  have c0 : W0.cell? ⟨w.heap.size, 0, none⟩ = some (.string s) := sB0.out.cell 0
  clear hW0
  go_region_held3 (fun w' => (∀ b o, b < w.heap.size + 2 → w'.cell? ⟨b, o, none⟩ = W0.cell? ⟨b, o, none⟩) ∧ Below (w.heap.size + 2) W0 w')
    (first | exact As.beg | assumption | exact As.on hb3 (by assumption) HZ | exact As.alloc (by assumption) HZ)
    ((go_at_call 44; (with_reducible refine (cT.out _).mono ?_); rintro e W1 ⟨rfl, hb3⟩; have hS := Lib.hid (As.on (B := w.heap.size + 2) (W0 := W0) hb3 As.beg HZ)))
  all_goals
    rename_i hHeld
    clear hHeld
    have HB1 := Lib.hid (HB0.out.trans (hS.out.2.mono (by omega)))
    have sB := Lib.hid (sB0.out.below hS.out.2 (by omega))
    have rB := Lib.hid (rB0.out.below hS.out.2 (by omega))
    have rC := rB.out.cell
    have rF := rB.out.frozen
    have sF := sB.out.frozen
    have sz1 := rB.out.lt
    clear sB0 rB0 HB0 hS c0 hb3
    have sC := sB.out.cell
    go_wp2_with (first | (go_at_call 45; (with_reducible refine (cC.out _).mono ?_); rintro e w2 ⟨rfl, rfl⟩) | (go_at_call 51; (with_reducible refine (cB.out _).mono ?_); rintro e w2 ⟨rfl, rfl⟩) | (go_at_call 50; (with_reducible refine (cK.out _).mono ?_); rintro e W2 ⟨rfl, hb2⟩; have rB2 := Lib.hid (rB.out.below hb2 rB.out.lt); have HB2 := Lib.hid (HB1.out.trans (hb2.mono HB1.out.size)); have sB2 := Lib.hid (sB.out.below hb2 sB.out.lt); clear rC rF sC sF hb2; have rC := rB2.out.cell; have rF := rB2.out.frozen; have sC := sB2.out.cell; have sF := sB2.out.frozen; have sz2 := rB2.out.lt; have szs := sB2.out.lt))

    have e := Blk.cell (Blk.four (rB2.out) (.int .i64 tk) (.string (bs tr)) (.string (bs tv)) (.int .i64 tn))
    refine bodyPost_ret (v := .agg #[.int .i64 tk, .string (bs tr), .string (bs tv), .int .i64 tn]) (by simp [results, Tryd.results31, go_sem, e]) rfl ⟨?_, ?_⟩
    · rw [hP.out]
      skip
    · exact (((HB2.out.setCell (by simp) _).setCell (by simp) _).setCell (by simp) _).setCell (by simp) _

end Go.Proofs.YtmjbaimccbkmpaaDoor.tok

namespace Go.Proofs.YtmjbaimccbkmpaaDoor.tok
open Go.RowKit Go.Proofs.YtmjbaimccbkmpaaDoor.base
set_option linter.unusedVariables false

set_option maxRecDepth 100000 in
set_option maxHeartbeats 8000000 in
theorem first_note (s : ByteArray) (hs : s.size < 4294967281) (h0 : 0 < s.size) (w : World) (hm : MaxL w) (hsp : spaceP s.data.toList = 0) (hn : Lib.hasPrefix s.data.toList [47, 42] = true) :
    Calls Tryd.prog 31 #[.string s] w fun e w' => e = .returned (.agg (firstP s.data.toList).cells) ∧ Below w.heap.size w w' := by
  have hsl := space_len s.data.toList
  rw [← Lib.size_eq] at hsl
  have cT := fun w => trimL_ct s [32, 9, 10, 12, 13] (by decide) (by decide) w
  have hP : firstP s.data.toList = if 0 < spaceP s.data.toList then ⟨8, s.data.toList.take (spaceP s.data.toList), [], 0⟩ else
    if Lib.hasPrefix s.data.toList [47, 42] then noteP s.data.toList else
    if quoteP s.data.toList then textP s.data.toList else
    if hashP s.data.toList then namedP 4 s.data.toList 1 else
    if atP s.data.toList then namedP 3 s.data.toList 1 else
    if 0 < (numberP s.data.toList).2 then numTkP s.data.toList (numberP s.data.toList).1 (numberP s.data.toList).2 else
    if beginsP s.data.toList then wordP s.data.toList else ⟨oneK s.data.toList, s.data.toList.take 1, [], 0⟩ := rfl
  generalize hNP : firstP s.data.toList = NP at *
  clear hNP
  generalize hTT : Lib.trimLeftS s.data.toList [32, 9, 10, 12, 13] = T at *
  clear hTT
  replace cT := Lib.hid cT

  rw [if_neg (by omega : ¬ 0 < spaceP s.data.toList)] at hP
  have hsl1 : (s.size : Int) ≤ (T.length : Int) := by omega
  have hsl3 : (T.length : Int) ≤ (s.size : Int) := by omega
  clear hsl

  have cC : ∀ w, Calls Tryd.prog 45 #[.string s, .string ⟨#[47, 42]⟩] w fun e w' => e = .returned (.tuple #[.string ⟨(Lib.trimPrefix s.data.toList [47, 42]).toArray⟩, .bool true]) ∧ w = w' := fun w => by
    have := Tryd.strings_CutPrefix s (bs [47, 42]) w
    rw [show (bs [47, 42]).data.toList = [47, 42] from rfl, hn] at this
    exact this.mono fun e w' ⟨h1, h2⟩ => ⟨h1, h2.symm⟩

  rw [hn, if_pos rfl, noteP] at hP
  have h2 : 2 ≤ s.size := by
    rw [Lib.size_eq]
    generalize s.data.toList = l at *
    match l, hn with
    | [], hn => simp [Lib.hasPrefix, List.isPrefixOf] at hn
    | [a], hn => simp [Lib.hasPrefix, List.isPrefixOf] at hn
    | a :: b :: r, _ => simp
  have hR : Lib.trimPrefix s.data.toList [47, 42] = s.data.toList.drop 2 := by unfold Lib.trimPrefix; rw [if_pos hn]; rfl
  rw [hR] at cC
  have hrl : (s.data.toList.drop 2).length + 2 = s.size := by rw [List.length_drop, ← Lib.size_eq]; omega
  have hix := Lib.index_room (s.data.toList.drop 2) [42, 47]
  have hig := Lib.index_ge (s.data.toList.drop 2) [42, 47]
  have cI : ∀ (w : World) (m : Int), w.cell? ⟨3, 0, none⟩ = some (.int .i64 m) → Calls Tryd.prog 46 #[.string ⟨(s.data.toList.drop 2).toArray⟩, .string ⟨#[42, 47]⟩] w fun e w' => e = .returned (.int .i64 (Lib.index (s.data.toList.drop 2) [42, 47])) ∧ w = w' := fun w m h =>
    (Tryd.strings_Index ⟨(s.data.toList.drop 2).toArray⟩ (bs [42, 47]) m w (by show (s.data.toList.drop 2).length < _; omega) h).mono fun e w' ⟨h1, h2⟩ => ⟨h1, h2.symm⟩
  generalize Lib.index (s.data.toList.drop 2) [42, 47] = ix at *
  generalize hRR : s.data.toList.drop 2 = R at *
  clear hRR hR hn
  replace cC := Lib.hid cC
  replace cI := Lib.hid cI
  by_cases hi : 0 ≤ ix
  · obtain ⟨m, rfl⟩ := Int.eq_ofNat_of_zero_le hi
    have hr := hix hi
    simp only [List.length_cons, List.length_nil] at hr
    have hm4 : m + 4 ≤ s.size := by omega
    have hP2 := Lib.hid (show NP = ⟨9, s.data.toList.take (m + 4), [], 0⟩ by rw [hP, if_pos hi]; rfl)
    clear hix hr hrl hP

    go_enter Tryd.func31, Tryd.ntmps31
    go_wp2_with fail
    generalize hW0 : (w.alloc (.cells #[.string s] 9)).alloc (.cells #[.int .i64 0, .string ⟨#[]⟩, .string ⟨#[]⟩, .int .i64 0] 43) = W0
    have HB0 := Lib.hid (show Below w.heap.size w W0 by subst hW0; exact ((Below.refl _ _).alloc (Nat.le_refl _) _).alloc (by simp) _)
    have HZ : w.heap.size + 2 ≤ W0.heap.size := by subst hW0; simp
    have sB0 := Lib.hid (show Blk W0 w.heap.size 9 #[.string s] by subst hW0; exact (Blk.new rfl).alloc _)
    have rB0 := Lib.hid (show Blk W0 (w.heap.size + 1) 43 #[.int .i64 0, .string ⟨#[]⟩, .string ⟨#[]⟩, .int .i64 0] by subst hW0; exact Blk.new (by simp))
    have c0 : W0.cell? ⟨w.heap.size, 0, none⟩ = some (.string s) := sB0.out.cell 0
    clear hW0
    go_region_held3 (fun w' => (∀ b o, b < w.heap.size + 2 → w'.cell? ⟨b, o, none⟩ = W0.cell? ⟨b, o, none⟩) ∧ Below (w.heap.size + 2) W0 w')
      (first | exact As.beg | assumption | exact As.on hb3 (by assumption) HZ | exact As.alloc (by assumption) HZ)
      ((go_at_call 44; (with_reducible refine (cT.out _).mono ?_); rintro e W1 ⟨rfl, hb3⟩; have hS := Lib.hid (As.on (B := w.heap.size + 2) (W0 := W0) hb3 As.beg HZ)))
    all_goals
      rename_i hHeld
      clear hHeld
      have HB1 := Lib.hid (HB0.out.trans (hS.out.2.mono (by omega)))
      have sB := Lib.hid (sB0.out.below hS.out.2 (by omega))
      have rB := Lib.hid (rB0.out.below hS.out.2 (by omega))
      have rC := rB.out.cell
      have rF := rB.out.frozen
      have sF := sB.out.frozen
      have sz1 := rB.out.lt
      clear sB0 rB0 HB0 hS c0 hb3
      have sC := sB.out.cell
      obtain ⟨mm, hmm⟩ := hm.on HB1.out hm.lt
      replace hmm := Lib.hid hmm
      go_wp2_with (first | (go_at_call 45; (with_reducible refine (cC.out _).mono ?_); rintro e w2 ⟨rfl, rfl⟩) | (go_at_call 46; (with_reducible refine (cI.out _ mm hmm.out).mono ?_); rintro e w2 ⟨rfl, rfl⟩))

      have e := Blk.cell (Blk.four (rB.out.far (p := ⟨w.heap.size, 0, none⟩) (by simp) (.string (s.extract 0 (m + 4)))) (.int .i64 9) (.string (s.extract 0 (m + 4))) (.string ⟨#[]⟩) (.int .i64 0))
      refine bodyPost_ret (v := .agg #[.int .i64 9, .string (s.extract 0 (m + 4)), .string ⟨#[]⟩, .int .i64 0]) (by simp [results, Tryd.results31, go_sem, e]) rfl ⟨?_, ?_⟩
      · rw [hP2.out]
        exact ret_tok rfl (take_ex _ _) rfl rfl
      · exact ((((HB1.out.setCell (p := ⟨w.heap.size, 0, none⟩) (by simp) _).setCell (by simp) _).setCell (by simp) _).setCell (by simp) _).setCell (by simp) _

  · have hi2 : ix < 0 := by omega
    have hP2 := Lib.hid (show NP = ⟨9, s.data.toList, [], 0⟩ by rw [hP, if_neg hi])
    clear hix hrl hP hi

    go_enter Tryd.func31, Tryd.ntmps31
    go_wp2_with fail
    generalize hW0 : (w.alloc (.cells #[.string s] 9)).alloc (.cells #[.int .i64 0, .string ⟨#[]⟩, .string ⟨#[]⟩, .int .i64 0] 43) = W0
    have HB0 := Lib.hid (show Below w.heap.size w W0 by subst hW0; exact ((Below.refl _ _).alloc (Nat.le_refl _) _).alloc (by simp) _)
    have HZ : w.heap.size + 2 ≤ W0.heap.size := by subst hW0; simp
    have sB0 := Lib.hid (show Blk W0 w.heap.size 9 #[.string s] by subst hW0; exact (Blk.new rfl).alloc _)
    have rB0 := Lib.hid (show Blk W0 (w.heap.size + 1) 43 #[.int .i64 0, .string ⟨#[]⟩, .string ⟨#[]⟩, .int .i64 0] by subst hW0; exact Blk.new (by simp))
    have c0 : W0.cell? ⟨w.heap.size, 0, none⟩ = some (.string s) := sB0.out.cell 0
    clear hW0
    go_region_held3 (fun w' => (∀ b o, b < w.heap.size + 2 → w'.cell? ⟨b, o, none⟩ = W0.cell? ⟨b, o, none⟩) ∧ Below (w.heap.size + 2) W0 w')
      (first | exact As.beg | assumption | exact As.on hb3 (by assumption) HZ | exact As.alloc (by assumption) HZ)
      ((go_at_call 44; (with_reducible refine (cT.out _).mono ?_); rintro e W1 ⟨rfl, hb3⟩; have hS := Lib.hid (As.on (B := w.heap.size + 2) (W0 := W0) hb3 As.beg HZ)))
    all_goals
      rename_i hHeld
      clear hHeld
      have HB1 := Lib.hid (HB0.out.trans (hS.out.2.mono (by omega)))
      have sB := Lib.hid (sB0.out.below hS.out.2 (by omega))
      have rB := Lib.hid (rB0.out.below hS.out.2 (by omega))
      have rC := rB.out.cell
      have rF := rB.out.frozen
      have sF := sB.out.frozen
      have sz1 := rB.out.lt
      clear sB0 rB0 HB0 hS c0 hb3
      have sC := sB.out.cell
      obtain ⟨mm, hmm⟩ := hm.on HB1.out hm.lt
      replace hmm := Lib.hid hmm
      go_wp2_with (first | (go_at_call 45; (with_reducible refine (cC.out _).mono ?_); rintro e w2 ⟨rfl, rfl⟩) | (go_at_call 46; (with_reducible refine (cI.out _ mm hmm.out).mono ?_); rintro e w2 ⟨rfl, rfl⟩))

      have e := Blk.cell (Blk.four (rB.out) (.int .i64 9) (.string s) (.string ⟨#[]⟩) (.int .i64 0))
      refine bodyPost_ret (v := .agg #[.int .i64 9, .string s, .string ⟨#[]⟩, .int .i64 0]) (by simp [results, Tryd.results31, go_sem, e]) rfl ⟨?_, ?_⟩
      · rw [hP2.out]
        exact ret_tok rfl (Lib.mk_data s).symm rfl rfl
      · exact (((HB1.out.setCell (by simp) _).setCell (by simp) _).setCell (by simp) _).setCell (by simp) _


end Go.Proofs.YtmjbaimccbkmpaaDoor.tok

namespace Go.Proofs.YtmjbaimccbkmpaaDoor.tok
open Go.RowKit Go.Proofs.YtmjbaimccbkmpaaDoor.base
set_option linter.unusedVariables false

theorem signAt_le (l : Bs) : signAt l ≤ 1 ∧ signAt l ≤ l.length := by
  match l with
  | [] => simp [signAt]
  | c :: r =>
    simp only [signAt]
    split <;> simp
theorem behind_le (r : Bs) : behindP r = 0 ∨ behindP r + 1 ≤ r.length := by
  match r with
  | [] => left; rfl
  | c :: t =>
    simp only [behindP]
    split
    · right
      have := digits_le t
      simp
      omega
    · left; rfl
theorem numberP_le (l : Bs) : (numberP l).2 ≤ l.length := by
  unfold numberP numAt
  obtain ⟨_, h1⟩ := signAt_le l
  have h2 := digits_le (l.drop (signAt l))
  have h3 := behind_le (l.drop (signAt l + digitsP (l.drop (signAt l))))
  rw [List.length_drop] at h2 h3
  split
  · simp
  · simp only
    split
    · omega
    · omega

set_option maxRecDepth 100000 in
set_option maxHeartbeats 8000000 in
theorem first_number (s : ByteArray) (hs : s.size < 4294967281) (h0 : 0 < s.size) (w : World) (hsp : spaceP s.data.toList = 0) (hn : Lib.hasPrefix s.data.toList [47, 42] = false) (hnp : 0 < (numberP s.data.toList).2) :
    Calls Tryd.prog 31 #[.string s] w fun e w' => e = .returned (.agg (firstP s.data.toList).cells) ∧ Below w.heap.size w w' := by
  have hsl := space_len s.data.toList
  rw [← Lib.size_eq] at hsl
  have cT := fun w => trimL_ct s [32, 9, 10, 12, 13] (by decide) (by decide) w
  have hP : firstP s.data.toList = if 0 < spaceP s.data.toList then ⟨8, s.data.toList.take (spaceP s.data.toList), [], 0⟩ else
    if Lib.hasPrefix s.data.toList [47, 42] then noteP s.data.toList else
    if quoteP s.data.toList then textP s.data.toList else
    if hashP s.data.toList then namedP 4 s.data.toList 1 else
    if atP s.data.toList then namedP 3 s.data.toList 1 else
    if 0 < (numberP s.data.toList).2 then numTkP s.data.toList (numberP s.data.toList).1 (numberP s.data.toList).2 else
    if beginsP s.data.toList then wordP s.data.toList else ⟨oneK s.data.toList, s.data.toList.take 1, [], 0⟩ := rfl
  generalize hNP : firstP s.data.toList = NP at *
  clear hNP
  generalize hTT : Lib.trimLeftS s.data.toList [32, 9, 10, 12, 13] = T at *
  clear hTT
  replace cT := Lib.hid cT

  rw [if_neg (by omega : ¬ 0 < spaceP s.data.toList)] at hP
  have hsl1 : (s.size : Int) ≤ (T.length : Int) := by omega
  have hsl3 : (T.length : Int) ≤ (s.size : Int) := by omega
  clear hsl

  have cC : ∀ w, Calls Tryd.prog 45 #[.string s, .string ⟨#[47, 42]⟩] w fun e w' => e = .returned (.tuple #[.string ⟨(Lib.trimPrefix s.data.toList [47, 42]).toArray⟩, .bool false]) ∧ w = w' := fun w => by
    have := Tryd.strings_CutPrefix s (bs [47, 42]) w
    rw [show (bs [47, 42]).data.toList = [47, 42] from rfl, hn] at this
    exact this.mono fun e w' ⟨h1, h2⟩ => ⟨h1, h2.symm⟩

  rw [hn, if_neg (by simp)] at hP
  generalize Lib.trimPrefix s.data.toList [47, 42] = R at *
  replace cC := Lib.hid cC
  replace hn := Lib.hid hn

  obtain ⟨x1, x2, x3, x4⟩ := number_no' (head_of h0) hnp
  have hh : hashP s.data.toList = false := by
    rcases Nat.lt_or_ge 1 s.size with h1 | h1
    · rw [hash_long h1, decide_eq_false x1]
      rfl
    · exact hash_short h1
  have ha : atP s.data.toList = false := by rw [at_of h0, decide_eq_false x2]; rfl
  rw [quote_of h0, decide_eq_false (by omega : ¬ (nv s[0] = 39 ∨ nv s[0] = 34)), if_neg (by simp), hh, if_neg (by simp), ha, if_neg (by simp), if_pos hnp] at hP
  have hnl := numberP_le s.data.toList
  rw [← Lib.size_eq] at hnl
  have cN := fun w => number_ct s (by omega) w
  generalize numberP s.data.toList = V at *
  obtain ⟨nm, nn⟩ := V
  simp only at hnp hP hnl cN

  have cK : ∀ w, Calls Tryd.prog 53 #[.string s, .int .i64 nm, .int .i64 (nn : Int)] w fun e w' => e = .returned (.agg (numTkP s.data.toList nm nn).cells) ∧ Below w.heap.size w w' := fun w => number_tk s nm nn (by omega) hnl w
  generalize hTK : numTkP s.data.toList nm nn = t at *
  clear hTK
  obtain ⟨tk, tr, tv, tn⟩ := t
  simp only [Tk.cells] at cK
  replace cK := Lib.hid cK
  have q35 : ((s[0].toNat : Int) == 35) = false := by have h := x1; simp only [nv] at h; rw [beq_eq_false_iff_ne]; omega
  have q64 : ((s[0].toNat : Int) == 64) = false := by have h := x2; simp only [nv] at h; rw [beq_eq_false_iff_ne]; omega
  have q39 : ((s[0].toNat : Int) == 39) = false := by have h := x3; simp only [nv] at h; rw [beq_eq_false_iff_ne]; omega
  have q34 : ((s[0].toNat : Int) == 34) = false := by have h := x4; simp only [nv] at h; rw [beq_eq_false_iff_ne]; omega

  replace cN := Lib.hid cN
  replace hP := Lib.hid hP
  have hnn : (0 : Int) < (nn : Int) := by omega
  clear x1 x2 x3 x4 hh ha

  go_enter Tryd.func31, Tryd.ntmps31
  go_wp2_with fail
  generalize hW0 : (w.alloc (.cells #[.string s] 9)).alloc (.cells #[.int .i64 0, .string ⟨#[]⟩, .string ⟨#[]⟩, .int .i64 0] 43) = W0
  have HB0 := Lib.hid (show Below w.heap.size w W0 by subst hW0; exact ((Below.refl _ _).alloc (Nat.le_refl _) _).alloc (by simp) _)
  have HZ : w.heap.size + 2 ≤ W0.heap.size := by subst hW0; simp
  have sB0 := Lib.hid (show Blk W0 w.heap.size 9 #[.string s] by subst hW0; exact (Blk.new rfl).alloc _)
  have rB0 := Lib.hid (show Blk W0 (w.heap.size + 1) 43 #[.int .i64 0, .string ⟨#[]⟩, .string ⟨#[]⟩, .int .i64 0] by subst hW0; exact Blk.new (by simp))
  have c0 : W0.cell? ⟨w.heap.size, 0, none⟩ = some (.string s) := sB0.out.cell 0
  clear hW0
  go_region_held3 (fun w' => (∀ b o, b < w.heap.size + 2 → w'.cell? ⟨b, o, none⟩ = W0.cell? ⟨b, o, none⟩) ∧ Below (w.heap.size + 2) W0 w')
    (first | exact As.beg | assumption | exact As.on hb3 (by assumption) HZ | exact As.alloc (by assumption) HZ)
    ((go_at_call 44; (with_reducible refine (cT.out _).mono ?_); rintro e W1 ⟨rfl, hb3⟩; have hS := Lib.hid (As.on (B := w.heap.size + 2) (W0 := W0) hb3 As.beg HZ)))
  all_goals
    rename_i hHeld
    clear hHeld
    have HB1 := Lib.hid (HB0.out.trans (hS.out.2.mono (by omega)))
    have sB := Lib.hid (sB0.out.below hS.out.2 (by omega))
    have rB := Lib.hid (rB0.out.below hS.out.2 (by omega))
    have rC := rB.out.cell
    have rF := rB.out.frozen
    have sF := sB.out.frozen
    have sz1 := rB.out.lt
    clear sB0 rB0 HB0 hS c0 hb3
    have sC := sB.out.cell
    go_wp2_with (first | (go_at_call 45; (with_reducible refine (cC.out _).mono ?_); rintro e w2 ⟨rfl, rfl⟩) | (go_at_call 52; (with_reducible refine (cN.out _).mono ?_); rintro e W2 ⟨rfl, hb2⟩; have rB2 := Lib.hid (rB.out.below hb2 rB.out.lt); have HB2 := Lib.hid (HB1.out.trans (hb2.mono HB1.out.size)); have sB2 := Lib.hid (sB.out.below hb2 sB.out.lt); clear rC rF sC sF hb2; have rC := rB2.out.cell; have rF := rB2.out.frozen; have sC := sB2.out.cell; have sF := sB2.out.frozen; have sz2 := rB2.out.lt; have szs := sB2.out.lt) | (go_at_call 53; (with_reducible refine (cK.out _).mono ?_); rintro e W3 ⟨rfl, hb2⟩; have rB3 := Lib.hid (rB2.out.below hb2 rB2.out.lt); have HB3 := Lib.hid (HB2.out.trans (hb2.mono HB2.out.size)); have sB3 := Lib.hid (sB2.out.below hb2 sB2.out.lt); clear rC rF sC sF hb2; have rC := rB3.out.cell; have rF := rB3.out.frozen; have sC := sB3.out.cell; have sF := sB3.out.frozen; have sz3 := rB3.out.lt; have szt := sB3.out.lt))

    have e := Blk.cell (Blk.four (rB3.out) (.int .i64 tk) (.string (bs tr)) (.string (bs tv)) (.int .i64 tn))
    refine bodyPost_ret (v := .agg #[.int .i64 tk, .string (bs tr), .string (bs tv), .int .i64 tn]) (by simp [results, Tryd.results31, go_sem, e]) rfl ⟨?_, ?_⟩
    · rw [hP.out]
      skip
    · exact (((HB3.out.setCell (by simp) _).setCell (by simp) _).setCell (by simp) _).setCell (by simp) _

end Go.Proofs.YtmjbaimccbkmpaaDoor.tok

namespace Go.Proofs.YtmjbaimccbkmpaaDoor.tok
open Go.RowKit Go.Proofs.YtmjbaimccbkmpaaDoor.base
set_option linter.unusedVariables false

set_option maxRecDepth 100000 in
set_option maxHeartbeats 1000000 in
theorem one_ct (k : Int) (s : ByteArray) (b : Nat) (w : World) (hs : s.size < 4294967281) (h0 : 0 < s.size) (h : Blk w b 9 #[.string s]) :
    Calls Tryd.prog 43 #[.int .i64 k, .pointer (some ⟨b, 0, none⟩)] w fun e w' => e = .returned (.agg #[.int .i64 k, .string (s.extract 0 1), .string ⟨#[]⟩, .int .i64 0]) ∧ Below w.heap.size w w' := by
  have c0 := h.cell
  have hlt := h.lt
  replace h := Lib.hid h
  have h1 : (1 : Int) ≤ (s.size : Int) := by omega
  go_enter Tryd.func43, Tryd.ntmps43
  go_wp2
  refine bodyPost_ret (v := .agg #[.int .i64 k, .string (s.extract 0 1), .string ⟨#[]⟩, .int .i64 0]) (by simp [results, Tryd.results43, go_sem]) rfl ⟨rfl, (Below.refl _ _).alloc (Nat.le_refl _) _⟩

set_option maxRecDepth 100000 in
set_option maxHeartbeats 8000000 in
theorem first_word (s : ByteArray) (hs : s.size < 4294967281) (h0 : 0 < s.size) (w : World) (hsp : spaceP s.data.toList = 0) (hn : Lib.hasPrefix s.data.toList [47, 42] = false) (hnp : (numberP s.data.toList).2 = 0) (hbg : beginsP s.data.toList = true) (pp : Bool) (hpp : Lib.hasPrefix (s.data.toList.drop (namedP 1 s.data.toList 0).raw.length) [40] = pp) :
    Calls Tryd.prog 31 #[.string s] w fun e w' => e = .returned (.agg (firstP s.data.toList).cells) ∧ Below w.heap.size w w' := by
  have hsl := space_len s.data.toList
  rw [← Lib.size_eq] at hsl
  have cT := fun w => trimL_ct s [32, 9, 10, 12, 13] (by decide) (by decide) w
  have hP : firstP s.data.toList = if 0 < spaceP s.data.toList then ⟨8, s.data.toList.take (spaceP s.data.toList), [], 0⟩ else
    if Lib.hasPrefix s.data.toList [47, 42] then noteP s.data.toList else
    if quoteP s.data.toList then textP s.data.toList else
    if hashP s.data.toList then namedP 4 s.data.toList 1 else
    if atP s.data.toList then namedP 3 s.data.toList 1 else
    if 0 < (numberP s.data.toList).2 then numTkP s.data.toList (numberP s.data.toList).1 (numberP s.data.toList).2 else
    if beginsP s.data.toList then wordP s.data.toList else ⟨oneK s.data.toList, s.data.toList.take 1, [], 0⟩ := rfl
  generalize hNP : firstP s.data.toList = NP at *
  clear hNP
  generalize hTT : Lib.trimLeftS s.data.toList [32, 9, 10, 12, 13] = T at *
  clear hTT
  replace cT := Lib.hid cT

  rw [if_neg (by omega : ¬ 0 < spaceP s.data.toList)] at hP
  have hsl1 : (s.size : Int) ≤ (T.length : Int) := by omega
  have hsl3 : (T.length : Int) ≤ (s.size : Int) := by omega
  clear hsl

  have cC : ∀ w, Calls Tryd.prog 45 #[.string s, .string ⟨#[47, 42]⟩] w fun e w' => e = .returned (.tuple #[.string ⟨(Lib.trimPrefix s.data.toList [47, 42]).toArray⟩, .bool false]) ∧ w = w' := fun w => by
    have := Tryd.strings_CutPrefix s (bs [47, 42]) w
    rw [show (bs [47, 42]).data.toList = [47, 42] from rfl, hn] at this
    exact this.mono fun e w' ⟨h1, h2⟩ => ⟨h1, h2.symm⟩

  rw [hn, if_neg (by simp)] at hP
  generalize Lib.trimPrefix s.data.toList [47, 42] = R at *
  replace cC := Lib.hid cC
  replace hn := Lib.hid hn

  obtain ⟨x1, x2, x3, x4⟩ := begins_no' (head_of h0) hbg
  have hh : hashP s.data.toList = false := by
    rcases Nat.lt_or_ge 1 s.size with h1 | h1
    · rw [hash_long h1, decide_eq_false x1]
      rfl
    · exact hash_short h1
  have ha : atP s.data.toList = false := by rw [at_of h0, decide_eq_false x2]; rfl
  rw [quote_of h0, decide_eq_false (by omega : ¬ (nv s[0] = 39 ∨ nv s[0] = 34)), if_neg (by simp), hh, if_neg (by simp), ha, if_neg (by simp), if_neg (by omega), hbg, if_pos rfl, wordP, hpp] at hP

  have cN := fun w => number_ct s (by omega) w
  have hnn : (((numberP s.data.toList).2 : Nat) : Int) ≤ 0 := by omega
  generalize numberP s.data.toList = V at *
  obtain ⟨nm, nn⟩ := V
  simp only at hnn cN
  replace cN := Lib.hid cN

  have cB := fun w => begins_ct s (by unfold maxLen; omega) w
  simp only [hbg] at cB
  replace cB := Lib.hid cB
  have hrl : (namedP 1 s.data.toList 0).raw.length ≤ s.size := by
    show (s.data.toList.take _).length ≤ _
    rw [List.length_take, ← Lib.size_eq]
    omega
  have hro : pp = true → (namedP 1 s.data.toList 0).raw.length + 1 ≤ s.size := fun h => by
    rw [h] at hpp
    have := hp_roomc hpp
    rw [← Lib.size_eq] at this
    exact this
  have cX : ∀ w, Calls Tryd.prog 39 #[.string (s.extract (namedP 1 s.data.toList 0).raw.length s.size), .string ⟨#[40]⟩] w fun e w' => e = .returned (.bool pp) ∧ w = w' := fun w => by
    have := Tryd.strings_HasPrefix (s.extract (namedP 1 s.data.toList 0).raw.length s.size) (bs [40]) w
    rw [Lib.extract_to_end, show (bs [40]).data.toList = [40] from rfl, hpp] at this
    exact this.mono fun e w' ⟨h1, h2⟩ => ⟨h1, h2.symm⟩
  clear hpp hbg

  have cK : ∀ w, Calls Tryd.prog 50 #[.int .i64 1, .string s, .int .i64 0] w fun e w' => e = .returned (.agg (namedP 1 s.data.toList 0).cells) ∧ Below w.heap.size w w' := fun w => named_ct 1 s 0 (by omega) (by omega) w
  generalize hTK : namedP 1 s.data.toList 0 = t at *
  clear hTK
  obtain ⟨tk, tr, tv, tn⟩ := t
  simp only [Tk.cells] at cK
  simp only at hP hrl hro cX
  replace cK := Lib.hid cK
  have q35 : ((s[0].toNat : Int) == 35) = false := by have h := x1; simp only [nv] at h; rw [beq_eq_false_iff_ne]; omega
  have q64 : ((s[0].toNat : Int) == 64) = false := by have h := x2; simp only [nv] at h; rw [beq_eq_false_iff_ne]; omega
  have q39 : ((s[0].toNat : Int) == 39) = false := by have h := x3; simp only [nv] at h; rw [beq_eq_false_iff_ne]; omega
  have q34 : ((s[0].toNat : Int) == 34) = false := by have h := x4; simp only [nv] at h; rw [beq_eq_false_iff_ne]; omega

  replace cX := Lib.hid cX
  have hsz : (bs tr).size = tr.length := rfl
  replace hsz := Lib.hid hsz
  clear x1 x2 x3 x4 hh ha
  have cX2 : ∀ w, Calls Tryd.prog 39 #[.string (s.extract (bs tr).size s.size), .string ⟨#[40]⟩] w fun e w' => e = .returned (.bool pp) ∧ w = w' := cX.out
  replace cX2 := Lib.hid cX2
  have hr1 : (bs tr).size ≤ s.size := hrl
  cases pp
  · rw [if_neg (by simp)] at hP
    replace hP := Lib.hid hP
    clear hro

    go_enter Tryd.func31, Tryd.ntmps31
    go_wp2_with fail
    generalize hW0 : (w.alloc (.cells #[.string s] 9)).alloc (.cells #[.int .i64 0, .string ⟨#[]⟩, .string ⟨#[]⟩, .int .i64 0] 43) = W0
    have HB0 := Lib.hid (show Below w.heap.size w W0 by subst hW0; exact ((Below.refl _ _).alloc (Nat.le_refl _) _).alloc (by simp) _)
    have HZ : w.heap.size + 2 ≤ W0.heap.size := by subst hW0; simp
    have sB0 := Lib.hid (show Blk W0 w.heap.size 9 #[.string s] by subst hW0; exact (Blk.new rfl).alloc _)
    have rB0 := Lib.hid (show Blk W0 (w.heap.size + 1) 43 #[.int .i64 0, .string ⟨#[]⟩, .string ⟨#[]⟩, .int .i64 0] by subst hW0; exact Blk.new (by simp))
    have c0 : W0.cell? ⟨w.heap.size, 0, none⟩ = some (.string s) := sB0.out.cell 0
    clear hW0
    go_region_held3 (fun w' => (∀ b o, b < w.heap.size + 2 → w'.cell? ⟨b, o, none⟩ = W0.cell? ⟨b, o, none⟩) ∧ Below (w.heap.size + 2) W0 w')
      (first | exact As.beg | assumption | exact As.on hb3 (by assumption) HZ | exact As.alloc (by assumption) HZ)
      ((go_at_call 44; (with_reducible refine (cT.out _).mono ?_); rintro e W1 ⟨rfl, hb3⟩; have hS := Lib.hid (As.on (B := w.heap.size + 2) (W0 := W0) hb3 As.beg HZ)))
    all_goals
      rename_i hHeld
      clear hHeld
      have HB1 := Lib.hid (HB0.out.trans (hS.out.2.mono (by omega)))
      have sB := Lib.hid (sB0.out.below hS.out.2 (by omega))
      have rB := Lib.hid (rB0.out.below hS.out.2 (by omega))
      have rC := rB.out.cell
      have rF := rB.out.frozen
      have sF := sB.out.frozen
      have sz1 := rB.out.lt
      clear sB0 rB0 HB0 hS c0 hb3
      have sC := sB.out.cell
      go_wp2_with (first | (go_at_call 45; (with_reducible refine (cC.out _).mono ?_); rintro e w2 ⟨rfl, rfl⟩) | (go_at_call 51; (with_reducible refine (cB.out _).mono ?_); rintro e w2 ⟨rfl, rfl⟩) | (go_at_call 52; (with_reducible refine (cN.out _).mono ?_); rintro e W2 ⟨rfl, hb2⟩; have rB2 := Lib.hid (rB.out.below hb2 rB.out.lt); have HB2 := Lib.hid (HB1.out.trans (hb2.mono HB1.out.size)); have sB2 := Lib.hid (sB.out.below hb2 sB.out.lt); clear rC rF sC sF hb2; have rC := rB2.out.cell; have rF := rB2.out.frozen; have sC := sB2.out.cell; have sF := sB2.out.frozen; have sz2 := rB2.out.lt; have szs := sB2.out.lt) | (go_at_call 50; (with_reducible refine (cK.out _).mono ?_); rintro e W3 ⟨rfl, hb2⟩; have rB3 := Lib.hid (rB2.out.below hb2 rB2.out.lt); have HB3 := Lib.hid (HB2.out.trans (hb2.mono HB2.out.size)); have sB3 := Lib.hid (sB2.out.below hb2 sB2.out.lt); clear rC rF sC sF hb2; have rC := rB3.out.cell; have rF := rB3.out.frozen; have sC := sB3.out.cell; have sF := sB3.out.frozen; have sz3 := rB3.out.lt; have szt := sB3.out.lt) | (go_at_call 39; (with_reducible refine (cX2.out _).mono ?_); rintro e w2 ⟨rfl, rfl⟩))

      have e := Blk.cell (Blk.alloc (Blk.four rB3.out (.int .i64 tk) (.string (bs tr)) (.string (bs tv)) (.int .i64 tn)) (.cells #[.int .i64 tk, .string (bs tr), .string (bs tv), .int .i64 tn] 43))
      refine bodyPost_ret (v := .agg #[.int .i64 tk, .string (bs tr), .string (bs tv), .int .i64 tn]) (by simp [results, Tryd.results31, go_sem, e]) rfl ⟨?_, ?_⟩
      · rw [hP.out]
      · exact ((((HB3.out.setCell (by simp) _).setCell (by simp) _).setCell (by simp) _).setCell (by simp) _).alloc (by simp only [size_setCell]; omega) _

  · rw [if_pos rfl] at hP
    replace hP := Lib.hid hP
    have hr2 : (bs tr).size + 1 ≤ s.size := hro rfl
    have hr3 : ((bs tr).size : Int) + 1 ≤ (s.size : Int) := by omega
    have hr4 : (0 : Int) ≤ ((bs tr).size : Int) + 1 := by omega
    have hr5 := IntWalk.i64_in (((bs tr).size : Int) + 1) (by omega)
    have hr6 : (((bs tr).size : Int) + 1).toNat = (bs tr).size + 1 := by omega
    clear hro

    go_enter Tryd.func31, Tryd.ntmps31
    go_wp2_with fail
    generalize hW0 : (w.alloc (.cells #[.string s] 9)).alloc (.cells #[.int .i64 0, .string ⟨#[]⟩, .string ⟨#[]⟩, .int .i64 0] 43) = W0
    have HB0 := Lib.hid (show Below w.heap.size w W0 by subst hW0; exact ((Below.refl _ _).alloc (Nat.le_refl _) _).alloc (by simp) _)
    have HZ : w.heap.size + 2 ≤ W0.heap.size := by subst hW0; simp
    have sB0 := Lib.hid (show Blk W0 w.heap.size 9 #[.string s] by subst hW0; exact (Blk.new rfl).alloc _)
    have rB0 := Lib.hid (show Blk W0 (w.heap.size + 1) 43 #[.int .i64 0, .string ⟨#[]⟩, .string ⟨#[]⟩, .int .i64 0] by subst hW0; exact Blk.new (by simp))
    have c0 : W0.cell? ⟨w.heap.size, 0, none⟩ = some (.string s) := sB0.out.cell 0
    clear hW0
    go_region_held3 (fun w' => (∀ b o, b < w.heap.size + 2 → w'.cell? ⟨b, o, none⟩ = W0.cell? ⟨b, o, none⟩) ∧ Below (w.heap.size + 2) W0 w')
      (first | exact As.beg | assumption | exact As.on hb3 (by assumption) HZ | exact As.alloc (by assumption) HZ)
      ((go_at_call 44; (with_reducible refine (cT.out _).mono ?_); rintro e W1 ⟨rfl, hb3⟩; have hS := Lib.hid (As.on (B := w.heap.size + 2) (W0 := W0) hb3 As.beg HZ)))
    all_goals
      rename_i hHeld
      clear hHeld
      have HB1 := Lib.hid (HB0.out.trans (hS.out.2.mono (by omega)))
      have sB := Lib.hid (sB0.out.below hS.out.2 (by omega))
      have rB := Lib.hid (rB0.out.below hS.out.2 (by omega))
      have rC := rB.out.cell
      have rF := rB.out.frozen
      have sF := sB.out.frozen
      have sz1 := rB.out.lt
      clear sB0 rB0 HB0 hS c0 hb3
      have sC := sB.out.cell
      go_wp2_with (first | (go_at_call 45; (with_reducible refine (cC.out _).mono ?_); rintro e w2 ⟨rfl, rfl⟩) | (go_at_call 51; (with_reducible refine (cB.out _).mono ?_); rintro e w2 ⟨rfl, rfl⟩) | (go_at_call 52; (with_reducible refine (cN.out _).mono ?_); rintro e W2 ⟨rfl, hb2⟩; have rB2 := Lib.hid (rB.out.below hb2 rB.out.lt); have HB2 := Lib.hid (HB1.out.trans (hb2.mono HB1.out.size)); have sB2 := Lib.hid (sB.out.below hb2 sB.out.lt); clear rC rF sC sF hb2; have rC := rB2.out.cell; have rF := rB2.out.frozen; have sC := sB2.out.cell; have sF := sB2.out.frozen; have sz2 := rB2.out.lt; have szs := sB2.out.lt) | (go_at_call 50; (with_reducible refine (cK.out _).mono ?_); rintro e W3 ⟨rfl, hb2⟩; have rB3 := Lib.hid (rB2.out.below hb2 rB2.out.lt); have HB3 := Lib.hid (HB2.out.trans (hb2.mono HB2.out.size)); have sB3 := Lib.hid (sB2.out.below hb2 sB2.out.lt); clear rC rF sC sF hb2; have rC := rB3.out.cell; have rF := rB3.out.frozen; have sC := sB3.out.cell; have sF := sB3.out.frozen; have sz3 := rB3.out.lt; have szt := sB3.out.lt) | (go_at_call 39; (with_reducible refine (cX2.out _).mono ?_); rintro e w2 ⟨rfl, rfl⟩))

      generalize hV : W3.alloc (.cells #[.int .i64 tk, .string (bs tr), .string (bs tv), .int .i64 tn] 43) = V
      have tBv := Lib.hid (show Blk V W3.heap.size 43 #[.int .i64 tk, .string (bs tr), .string (bs tv), .int .i64 tn] by subst hV; exact Blk.new rfl)
      have sBv := Lib.hid (show Blk V w.heap.size 9 #[.string s] by subst hV; exact sB3.out.alloc _)
      have rBv := Lib.hid (show Blk V (w.heap.size + 1) 43 #[.int .i64 0, .string ⟨#[]⟩, .string ⟨#[]⟩, .int .i64 0] by subst hV; exact rB3.out.alloc _)
      have HBv := Lib.hid (show Below w.heap.size w V by subst hV; exact HB3.out.alloc HB3.out.size _)
      have hzv := tBv.out.lt
      clear hV rC rF sC sF
      have vC := sBv.out.cell
      have vC2 := rBv.out.cell
      have vC3 := tBv.out.cell
      have vF2 := rBv.out.frozen
      have vF3 := tBv.out.frozen
      go_region_held3 (fun w' => (∀ b o, b < W3.heap.size → w'.cell? ⟨b, o, none⟩ = V.cell? ⟨b, o, none⟩) ∧ Below W3.heap.size V w')
        (first | exact As.beg | assumption | exact As.drew (As.store As.beg0 (Nat.le_refl _)) | exact As.drew (As.store (As.store As.beg0 (Nat.le_refl _)) (Nat.le_refl _)) | exact As.store As.beg0 (Nat.le_refl _) | exact As.store (As.store As.beg0 (Nat.le_refl _)) (Nat.le_refl _))
        (fail)
      all_goals
        rename_i hHeld
        clear hHeld
        generalize hX : ((V.setCell ⟨W3.heap.size, 0, none⟩ (.int .i64 2)).setCell ⟨W3.heap.size, 1, none⟩ (.string (s.extract 0 ((bs tr).size + 1)))).drew = X
        have tX := Lib.hid (show Blk X W3.heap.size 43 #[.int .i64 2, .string (s.extract 0 ((bs tr).size + 1)), .string (bs tv), .int .i64 tn] by subst hX; exact ((tBv.out.put 0 (.int .i64 2)).put 1 (.string (s.extract 0 ((bs tr).size + 1)))).drew)
        have rX := Lib.hid (show Blk X (w.heap.size + 1) 43 #[.int .i64 0, .string ⟨#[]⟩, .string ⟨#[]⟩, .int .i64 0] by subst hX; exact ((rBv.out.far (by dsimp only; omega) _).far (by dsimp only; omega) _).drew)
        have HX := Lib.hid (show Below w.heap.size w X by subst hX; exact ((HBv.out.setCell (by dsimp only; omega) _).setCell (by dsimp only; omega) _).drew)
        clear hX vC vC2 vC3 vF2 vF3
        have xC := tX.out.cell
        have xC2 := rX.out.cell
        have xF2 := rX.out.frozen
        go_wp2
        have e := Blk.cell (Blk.four rX.out (.int .i64 2) (.string (s.extract 0 ((bs tr).size + 1))) (.string (bs tv)) (.int .i64 tn))
        refine bodyPost_ret (v := .agg #[.int .i64 2, .string (s.extract 0 ((bs tr).size + 1)), .string (bs tv), .int .i64 tn]) (by simp [results, Tryd.results31, go_sem, e]) rfl ⟨?_, ?_⟩
        · rw [hP.out]
          exact ret_tok rfl (take_ex _ _) rfl rfl
        · exact (((HX.out.setCell (by simp) _).setCell (by simp) _).setCell (by simp) _).setCell (by simp) _


end Go.Proofs.YtmjbaimccbkmpaaDoor.tok
