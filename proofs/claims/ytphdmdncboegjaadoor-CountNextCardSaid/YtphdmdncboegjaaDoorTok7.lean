/- Contracts: text (between quotes). -/
import Derived.Test.YtphdmdncboegjaaDoorTok6
namespace Go.Proofs.YtphdmdncboegjaaDoor.tok
open Go.RowKit Go.Proofs.YtphdmdncboegjaaDoor.base
set_option linter.unusedVariables false

/-- behind the opening quote: the token's kind, how many bytes of it, what it says -/
def textR (q : UInt8) : Bs → Int × Nat × Bs
  | [] => (6, 0, [])
  | [c] => if nv c = nv q then (5, 1, []) else if nv c = 10 then (6, 0, []) else (6, 1, [c])
  | c :: d :: r => if nv c = nv q then (5, 1, []) else if nv c = 10 then (6, 0, []) else
      if nv c = 92 then ((textR q r).1, (textR q r).2.1 + 2, d :: (textR q r).2.2) else ((textR q (d :: r)).1, (textR q (d :: r)).2.1 + 1, c :: (textR q (d :: r)).2.2)
termination_by l => l.length

def textP : Bs → Tk
  | [] => ⟨6, [], [], 0⟩
  | q :: r => ⟨(textR q r).1, (q :: r).take (1 + (textR q r).2.1), if (textR q r).1 = 5 then (textR q r).2.2 else [], 0⟩

theorem tx_end (q : UInt8) {s : ByteArray} {k : Nat} (h : s.size ≤ k) : textR q (s.data.toList.drop k) = (6, 0, []) := by rw [drop_nil h, textR]
theorem tx_close (q : UInt8) {s : ByteArray} {k : Nat} (h : k < s.size) (hq : nv s[k] = nv q) : textR q (s.data.toList.drop k) = (5, 1, []) := by
  rw [drop_cons h]
  rcases s.data.toList.drop (k + 1) with _ | ⟨d, r⟩ <;> rw [textR, if_pos hq]
theorem tx_nl (q : UInt8) {s : ByteArray} {k : Nat} (h : k < s.size) (hq : ¬ nv s[k] = nv q) (hn : nv s[k] = 10) : textR q (s.data.toList.drop k) = (6, 0, []) := by
  rw [drop_cons h]
  rcases s.data.toList.drop (k + 1) with _ | ⟨d, r⟩ <;> rw [textR, if_neg hq, if_pos hn]
theorem tx_esc (q : UInt8) {s : ByteArray} {k : Nat} (h : k + 1 < s.size) (hq : ¬ nv s[k] = nv q) (hn : ¬ nv s[k] = 10) (hb : nv s[k] = 92) : textR q (s.data.toList.drop k) = ((textR q (s.data.toList.drop (k + 2))).1, (textR q (s.data.toList.drop (k + 2))).2.1 + 2, s[k + 1] :: (textR q (s.data.toList.drop (k + 2))).2.2) := by
  rw [drop_cons (k := k) (by omega), drop_cons (k := k + 1) h, textR, if_neg hq, if_neg hn, if_pos hb]
theorem tx_other (q : UInt8) {s : ByteArray} {k : Nat} (h : k < s.size) (hq : ¬ nv s[k] = nv q) (hn : ¬ nv s[k] = 10) (hb : ¬ nv s[k] = 92 ∨ s.size ≤ k + 1) : textR q (s.data.toList.drop k) = ((textR q (s.data.toList.drop (k + 1))).1, (textR q (s.data.toList.drop (k + 1))).2.1 + 1, s[k] :: (textR q (s.data.toList.drop (k + 1))).2.2) := by
  rcases Nat.lt_or_ge (k + 1) s.size with h1 | h1
  · have hb' : ¬ nv s[k] = 92 := hb.resolve_right (by omega)
    rw [drop_cons (k := k) h, drop_cons (k := k + 1) h1, textR, if_neg hq, if_neg hn, if_neg hb']
  · rw [drop_cons h, drop_nil h1]
    simp [textR, hq, hn]

theorem textP_of {s : ByteArray} (h : 0 < s.size) : textP s.data.toList = ⟨(textR s[0] (s.data.toList.drop 1)).1, s.data.toList.take (1 + (textR s[0] (s.data.toList.drop 1)).2.1), if (textR s[0] (s.data.toList.drop 1)).1 = 5 then (textR s[0] (s.data.toList.drop 1)).2.2 else [], 0⟩ := by
  obtain ⟨⟨l⟩⟩ := s
  match l, h with
  | a :: r, _ => rfl

/-- what is known of a text that is read up to byte k -/
def TextRel (s : ByteArray) (q : UInt8) (w : World) (i : Value) (wr : World) : Prop :=
  ∃ (k : Nat) (acc : Bs), 1 ≤ k ∧ k ≤ s.size ∧ i = .int .i64 k ∧ acc.length ≤ k ∧
    textR q (s.data.toList.drop 1) = ((textR q (s.data.toList.drop k)).1, k - 1 + (textR q (s.data.toList.drop k)).2.1, acc ++ (textR q (s.data.toList.drop k)).2.2) ∧
    IsB (w.heap.size + 1) (w.heap.size + 1) acc wr ∧ Blk wr w.heap.size 28 #[.int .i64 0, .string ⟨#[]⟩, .string ⟨#[]⟩, .int .i64 0] ∧ Below w.heap.size w wr ∧ w.heap.size + 1 ≤ wr.heap.size

set_option maxRecDepth 100000 in
set_option maxHeartbeats 4000000 in
theorem text_ct (s : ByteArray) (hs : s.size ≤ 140737488355328) (h0 : 0 < s.size) (w : World) : Calls Tryd.prog 57 #[.string s] w fun e w' => e = .returned (.agg (textP s.data.toList).cells) ∧ Below w.heap.size w w' := by
  have hP := textP_of h0
  generalize hNP : textP s.data.toList = NP at *
  obtain ⟨q, hq⟩ : ∃ q, q = s[0] := ⟨_, rfl⟩
  rw [← hq] at hP
  replace hq := Lib.hid hq
  replace hP := Lib.hid hP
  clear hNP
  go_enter Tryd.func57, Tryd.ntmps57
  go_wp2_with fail
  go_loopw [4] (fun i wr => TextRel s q w i wr) (fun i _ => s.size - (intOf i).toNat)
  case atStart =>
    refine ⟨1, [], by omega, by omega, rfl, by simp, by simp, ?_, (Blk.new rfl).alloc _, ((Below.refl _ _).alloc (Nat.le_refl _) _).alloc (by simp) _, by simp⟩
    have := IsB.new (w.alloc (.cells #[.int .i64 0, .string ⟨#[]⟩, .string ⟨#[]⟩, .int .i64 0] 28)) (w.heap.size + 1) (by simp)
    simpa using this
  case round =>
    obtain ⟨k, acc, hk1, hk, rfl, hal, hinv, hB, hrb, hbel, hz⟩ := hrel
    have HBl := Lib.hid hbel
    replace hB := Lib.hid hB
    replace hrb := Lib.hid hrb
    replace hinv := Lib.hid hinv
    clear hbel
    by_cases hlt : k < s.size
    · have hlt' : (k : Int) < (s.size : Int) := by omega
      by_cases hq1 : nv s[k] = nv q
      · have ht1 : ((s[k].toNat : Int) == (s[0].toNat : Int)) = true := by rw [hq.out] at hq1; simpa using hq1
        have hst := Lib.hid (tx_close q hlt hq1)
        replace hq1 := Lib.hid hq1
        have hwr := IntWalk.i64_in ((k : Int) + 1) (by omega)
        have htn : ((k : Int) + 1).toNat = k + 1 := by omega
        have hk2 : (k : Int) + 1 ≤ (s.size : Int) := by omega
        have hk3 : (0 : Int) ≤ (k : Int) + 1 := by omega
        have hBd := Lib.hid (show IsB (w.heap.size + 1) (w.heap.size + 1) acc wr.drew from hB.out)
        have hzd : w.heap.size + 1 ≤ wr.drew.heap.size := hz
        go_wp2_with fail
        go_region_held3 (fun w' => True) (trivial)
          ((go_at_call 36; (with_reducible refine (builderString_ct _ _ acc _ hBd.out hzd).mono ?_); rintro e W2 ⟨rfl, hb2⟩; have rb2 := Lib.hid (Blk.below hrb.out.drew hb2 (by omega)); have hB2 := Lib.hid (HBl.out.drew.trans (hb2.mono (by omega))); have rc := rb2.out.cell; have rf := rb2.out.frozen; clear hb2))
        go_wp2
        have e := (Blk.four rb2.out (.int .i64 5) (.string (s.extract 0 (k + 1))) (.string ⟨acc.toArray⟩) (.int .i64 0)).cell
        refine bodyPost_ret (v := .agg #[.int .i64 5, .string (s.extract 0 (k + 1)), .string ⟨acc.toArray⟩, .int .i64 0]) (by simp [results, Tryd.results57, go_sem, e]) rfl ⟨?_, ?_⟩
        · rw [hP.out, hinv.out, hst.out]
          refine ret_tok rfl ((take_ex _ _).trans ?_) (by simp [bs]) rfl
          rw [show 1 + (k - 1 + 1) = k + 1 by omega]
        · exact (((hB2.out.setCell (by simp) _).setCell (by simp) _).setCell (by simp) _).setCell (by simp) _
      · have ht1 : ((s[k].toNat : Int) == (s[0].toNat : Int)) = false := by rw [hq.out] at hq1; simpa using hq1
        by_cases hn1 : nv s[k] = 10
        · have ht2 : ((s[k].toNat : Int) == 10) = true := by simpa using hn1
          have hst := Lib.hid (tx_nl q hlt hq1 hn1)
          replace hq1 := Lib.hid hq1
          replace hn1 := Lib.hid hn1
          have rc := hrb.out.cell
          have rf := hrb.out.frozen
          go_wp2
          have e := (Blk.four hrb.out (.int .i64 6) (.string (s.extract 0 k)) (.string ⟨#[]⟩) (.int .i64 0)).cell
          refine bodyPost_ret (v := .agg #[.int .i64 6, .string (s.extract 0 k), .string ⟨#[]⟩, .int .i64 0]) (by simp [results, Tryd.results57, go_sem, e]) rfl ⟨?_, ?_⟩
          · rw [hP.out, hinv.out, hst.out]
            refine ret_tok rfl ((take_ex _ _).trans ?_) (by simp [bs]) rfl
            rw [show 1 + (k - 1 + 0) = k by omega]
          · exact (((HBl.out.setCell (by simp) _).setCell (by simp) _).setCell (by simp) _).setCell (by simp) _
        · have ht2 : ((s[k].toNat : Int) == 10) = false := by simpa using hn1
          by_cases hb1 : nv s[k] = 92 ∧ k + 1 < s.size
          · obtain ⟨hb1, hb2⟩ := hb1
            have ht3 : ((s[k].toNat : Int) == 92) = true := by simpa using hb1
            have hst := Lib.hid (tx_esc q hb2 hq1 hn1 hb1)
            have hb3 : (k : Int) + 1 < (s.size : Int) := by omega
            replace hq1 := Lib.hid hq1
            replace hn1 := Lib.hid hn1
            replace hb1 := Lib.hid hb1
            go_wp2_with ((go_at_call 93; (with_reducible refine (writeByte_ct _ _ acc s[k + 1] _ hB.out (by omega) hz).mono ?_); rintro e w1 ⟨rfl, hb0, hbw⟩; replace hb0 := Lib.hid hb0; replace hbw := Lib.hid hbw))
            go_roundw
            case rel =>
              refine ⟨k + 2, acc ++ [s[k + 1]], by omega, by omega, by go_num, by simp; omega, ?_, hb0.out, hrb.out.below hbw.out (by omega), HBl.out.trans (hbw.out.mono (by omega)), Nat.le_trans hz hbw.out.size⟩
              rw [hinv.out, hst.out]
              simp
              omega
            case measure => simp [intOf]; omega
          · have hst := Lib.hid (tx_other q hlt hq1 hn1 (by omega))
            replace hq1 := Lib.hid hq1
            replace hn1 := Lib.hid hn1
            by_cases hb2 : nv s[k] = 92
            · have hb4 : ¬ (k + 1 < s.size) := fun h => hb1 ⟨hb2, h⟩
              have hb3 : ¬ ((k : Int) + 1 < (s.size : Int)) := by omega
              have ht3 : ((s[k].toNat : Int) == 92) = true := by simpa using hb2
              replace hb2 := Lib.hid hb2
              clear hb1
              go_wp2_with ((go_at_call 93; (with_reducible refine (writeByte_ct _ _ acc s[k] _ hB.out (by omega) hz).mono ?_); rintro e w1 ⟨rfl, hb0, hbw⟩; replace hb0 := Lib.hid hb0; replace hbw := Lib.hid hbw))
              go_roundw
              case rel =>
                refine ⟨k + 1, acc ++ [s[k]], by omega, by omega, by go_num, by simp; omega, ?_, hb0.out, hrb.out.below hbw.out (by omega), HBl.out.trans (hbw.out.mono (by omega)), Nat.le_trans hz hbw.out.size⟩
                rw [hinv.out, hst.out]
                simp
                omega
              case measure => simp [intOf]; omega
            · have ht3 : ((s[k].toNat : Int) == 92) = false := by simpa using hb2
              replace hb2 := Lib.hid hb2
              clear hb1
              go_wp2_with ((go_at_call 93; (with_reducible refine (writeByte_ct _ _ acc s[k] _ hB.out (by omega) hz).mono ?_); rintro e w1 ⟨rfl, hb0, hbw⟩; replace hb0 := Lib.hid hb0; replace hbw := Lib.hid hbw))
              go_roundw
              case rel =>
                refine ⟨k + 1, acc ++ [s[k]], by omega, by omega, by go_num, by simp; omega, ?_, hb0.out, hrb.out.below hbw.out (by omega), HBl.out.trans (hbw.out.mono (by omega)), Nat.le_trans hz hbw.out.size⟩
                rw [hinv.out, hst.out]
                simp
                omega
              case measure => simp [intOf]; omega
    · obtain rfl : k = s.size := by omega
      have hst := Lib.hid (tx_end q (Nat.le_refl s.size))
      have rc := hrb.out.cell
      have rf := hrb.out.frozen
      go_wp2
      have e := (Blk.four hrb.out (.int .i64 6) (.string s) (.string ⟨#[]⟩) (.int .i64 0)).cell
      refine bodyPost_ret (v := .agg #[.int .i64 6, .string s, .string ⟨#[]⟩, .int .i64 0]) (by simp [results, Tryd.results57, go_sem, e]) rfl ⟨?_, ?_⟩
      · rw [hP.out, hinv.out, hst.out]
        refine ret_tok rfl ?_ (by simp [bs]) rfl
        rw [show 1 + (s.size - 1 + 0) = s.size by omega, List.take_of_length_le (by rw [← Lib.size_eq]; omega)]
        exact (Lib.mk_data s).symm
      · exact (((HBl.out.setCell (by simp) _).setCell (by simp) _).setCell (by simp) _).setCell (by simp) _

end Go.Proofs.YtphdmdncboegjaaDoor.tok
