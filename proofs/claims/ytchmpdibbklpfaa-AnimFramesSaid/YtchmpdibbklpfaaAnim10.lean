/- Contracts: At. -/
import Derived.Test.YtchmpdibbklpfaaAnim9
namespace Go.Proofs.Ytchmpdibbklpfaa.anim
open Go.RowKit Go.Proofs.Ytchmpdibbklpfaa.base
set_option linter.unusedVariables false

theorem right_ok {L : List AnimD} {now : Int} (h : rightE L now = 0) : L.length ≤ 10 ∧ (∀ (i : Nat) (e : AnimD), L[i]? = some e → checkE e = 0) ∧ 0 ≤ now ∧ now ≤ 200000000000 := by
  unfold rightE at h
  by_cases h1 : 10 < L.length
  · rw [if_pos h1] at h; cases h
  · rw [if_neg h1] at h
    cases hf : L.find? fun d => checkE d != 0 with
    | some d =>
      rw [hf] at h
      have := List.find?_some hf
      simp at this h
      exact absurd h this
    | none =>
      rw [hf] at h
      rw [List.find?_eq_none] at hf
      have h2 : inB now 0 200000000000 = true := by
        cases hb : inB now 0 200000000000 with
        | true => rfl
        | false => rw [hb] at h; cases h
      obtain ⟨h3, h4⟩ := (inB_iff _ _ _).1 h2
      exact ⟨by omega, fun i e he => by have := hf e (List.mem_of_getElem? he); simpa using this, h3, h4⟩

theorem fold_step {L : List AnimD} {k : Nat} {d : AnimD} (hd : L[k]? = some d) (now : Int) (base : Int × Int) : (L.take (k + 1)).foldl (stepP now) base = stepP now ((L.take k).foldl (stepP now) base) d := by
  obtain ⟨hl, he⟩ := List.getElem?_eq_some_iff.1 hd
  rw [List.take_succ_eq_append_getElem hl, List.foldl_append, he]
  rfl

set_option maxRecDepth 100000 in
set_option maxHeartbeats 4000000 in
theorem at_ct (A : Option Addr) (n cap : Nat) (L : List AnimD) (bk bn now : Int) (w : World) (hn : n ≤ maxLen) (hL : LRd w w.heap.size A n L) :
    Calls Try.prog 18 #[.slice A n cap, .agg #[.int .i64 bk, .int .i64 bn], .int .i64 now] w fun e w' => e = .returned (.tuple #[.agg #[.int .i64 (atV L (bk, bn) now).1, .int .i64 (atV L (bk, bn) now).2], .int .i64 (rightE L now)]) ∧ Below w.heap.size w w' := by
  obtain ⟨KV, hKV⟩ : ∃ KV, KV = atV L (bk, bn) now := ⟨_, rfl⟩
  rw [← hKV]
  have HL := Lib.hid hL
  have hlen := Lib.hid hL.1
  have HN := Lib.hid hn
  replace hKV := Lib.hid hKV
  clear hL
  unfold maxLen at hn
  go_enter Try.func18, Try.ntmps18
  go_wp2_with fail
  generalize hW0 : (w.alloc (.cells #[.int .i64 bk, .int .i64 bn] 39)).alloc (.cells #[.int .i64 0, .int .i64 0] 39) = W0
  have HB := Lib.hid (show Below w.heap.size w W0 by subst hW0; exact ((Below.refl _ _).alloc (Nat.le_refl _) _).alloc (by simp) _)
  have HZ : w.heap.size + 2 ≤ W0.heap.size := by subst hW0; simp
  have bb := Lib.hid (show Blk W0 w.heap.size 39 #[.int .i64 bk, .int .i64 bn] by subst hW0; exact (Blk.new rfl).alloc _)
  have rb := Lib.hid (show Blk W0 (w.heap.size + 1) 39 #[.int .i64 0, .int .i64 0] by subst hW0; exact Blk.new (by simp))
  clear hW0
  refine (right_ct A n cap L now _ HN.out (HL.out.keep HB.out HB.out.size)).mono ?_
  rintro e W1 ⟨rfl, hb⟩
  have HB1 := Lib.hid (HB.out.trans (hb.mono HB.out.size))
  have bb1 := Lib.hid (bb.out.below hb (by omega))
  have rb1 := Lib.hid (rb.out.below hb (by omega))
  clear hb bb rb HB HZ
  by_cases hr : rightE L now = 0
  · have hKV2 := Lib.hid (show KV = L.foldl (stepP now) (bk, bn) by rw [hKV.out, atV, if_pos hr])
    obtain ⟨r1, r2, r3, r4⟩ := right_ok hr
    have R2 := Lib.hid r2
    have hr' : (rightE L now != 0) = false := by simp [hr]
    have HR := Lib.hid hr
    clear r2 hr hKV
    go_wp2_with fail
    go_loopw [22] (fun i wr => ∃ (k : Nat) (kv : Int × Int), k ≤ n ∧ i = .int .i64 k ∧ kv = (L.take k).foldl (stepP now) (bk, bn) ∧ Below w.heap.size w wr ∧ Blk wr w.heap.size 39 #[.int .i64 kv.1, .int .i64 kv.2] ∧ Blk wr (w.heap.size + 1) 39 #[.int .i64 0, .int .i64 0]) (fun i _ => n - (intOf i).toNat)
    case atStart => exact ⟨0, (bk, bn), by omega, rfl, rfl, HB1.out, bb1.out, rb1.out⟩
    case round =>
      obtain ⟨k, kv, hk, rfl, hkv, hbel, hbb, hrb⟩ := hrel
      replace hkv := Lib.hid hkv
      have HBB := Lib.hid hbb
      have HRB := Lib.hid hrb
      clear hrb hbb
      by_cases hlt : k < n
      · obtain ⟨b, off, d, rfl, hb, hd, hrd, e0, e1, e2, e3, e4, e5, e6, e7, e8, e9, e10, e11⟩ := (HL.out.keep hbel hbel.size).at_ hlt
        have hst := Lib.hid (fold_step hd now (bk, bn))
        have hok := Lib.hid (okA (R2.out k d hd))
        replace hd := Lib.hid hd
        replace hrd := Lib.hid hrd
        have HBel := Lib.hid hbel
        clear hbel
        have i1 : (k : Int) < (n : Int) := by omega
        go_wp2_with fail
        refine (tells_ct d now _ (hrd.out.keepAlloc _) hok.out).mono ?_
        rintro e W2 ⟨rfl, hb1⟩
        have hB2 := Lib.hid ((HBel.out.alloc HBel.out.size _).trans (hb1.mono (by simp; have := HBel.out.size; omega)))
        have bb2 := Lib.hid ((HBB.out.alloc _).below hb1 (by simp; have := HBB.out.lt; omega))
        have rb2 := Lib.hid ((HRB.out.alloc _).below hb1 (by simp; have := HRB.out.lt; omega))
        have hs2 := hB2.out.size
        have hs3 := rb2.out.lt
        clear hb1 e0 e1 e2 e3 e4 e5 e6 e7 e8 e9 e10 e11
        generalize hT : tellsP d now = T at *
        replace hT := Lib.hid hT
        obtain ⟨⟨tk, tn⟩, is⟩ := T
        cases is
        · go_wp2
          go_roundw
          case rel =>
            refine ⟨k + 1, kv, by omega, by go_num, ?_, hB2.out.alloc hs2 _, bb2.out.alloc _, rb2.out.alloc _⟩
            rw [hst.out, ← hkv.out, stepP, hT.out]
            rfl
          case measure => simp [intOf]; omega
        · have c0 := bb2.out.cell
          have f0 := bb2.out.frozen
          have c1 := fun v o => ((bb2.out.put 0 v).alloc o).cell
          have f1 := fun v o => ((bb2.out.put 0 v).alloc o).frozen
          have z1 := bb2.out.lt
          go_wp2
          go_roundw
          case rel =>
            refine ⟨k + 1, (tk, tn), by omega, by go_num, ?_, ?_, ?_, ?_⟩
            · rw [hst.out, ← hkv.out, stepP, hT.out]
              rfl
            · exact ((hB2.out.setCell (by simp) _).setCell (by simp) _).alloc (by simp [hs2]) _
            · exact (((bb2.out.put 0 _).put 1 _).alloc _)
            · exact (((rb2.out.far (by simp) _).far (by simp) _).alloc _)
          case measure => simp [intOf]; omega
      · obtain rfl : k = n := by omega
        have c0 := HBB.out.cell
        have r0 := HRB.out.cell
        have rf := HRB.out.frozen
        have HBel := Lib.hid hbel
        clear hbel
        have hq := Lib.hid (show KV = kv by rw [hKV2.out, hkv.out, List.take_of_length_le (by rw [hlen.out]; omega)])
        go_wp2
        have e := ((HRB.out.put 0 (.int .i64 kv.1)).put 1 (.int .i64 kv.2)).cell
        refine bodyPost_ret (v := .tuple #[.agg #[.int .i64 kv.1, .int .i64 kv.2], .int .i64 0]) (by simp [results, Try.results18, go_sem, e]) rfl ⟨by rw [hq.out, HR.out], ?_⟩
        exact (HBel.out.setCell (by simp) _).setCell (by simp) _
  · have hr' : (rightE L now != 0) = true := by simp [hr]
    have hKV2 : KV = (0, 0) := by rw [hKV.out, atV, if_neg hr]
    clear hr hKV
    subst hKV2
    have r0 := rb1.out.cell
    have rf := rb1.out.frozen
    go_wp2
    have e := ((rb1.out.put 0 (.int .i64 0)).put 1 (.int .i64 0)).cell
    refine bodyPost_ret (v := .tuple #[.agg #[.int .i64 0, .int .i64 0], .int .i64 (rightE L now)]) (by simp [results, Try.results18, go_sem, e]) rfl ⟨rfl, ?_⟩
    exact (HB1.out.setCell (by simp) _).setCell (by simp) _

end Go.Proofs.Ytchmpdibbklpfaa.anim
