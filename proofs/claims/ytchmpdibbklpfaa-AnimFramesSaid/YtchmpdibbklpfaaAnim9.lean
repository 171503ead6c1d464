/- Contracts: right. -/
import Derived.Test.YtchmpdibbklpfaaAnim8
namespace Go.Proofs.Ytchmpdibbklpfaa.anim
open Go.RowKit Go.Proofs.Ytchmpdibbklpfaa.base
set_option linter.unusedVariables false

/-- the changes lie where the slice says, below block B -/
def LRd (w : World) (B : Nat) (A : Option Addr) (n : Nat) (L : List AnimD) : Prop :=
  L.length = n ∧ (0 < n → ∃ b off, A = some ⟨b, off, none⟩ ∧ b < B ∧ ∀ (i : Nat) (d : AnimD), L[i]? = some d →
    (∀ j, j < 12 → w.cell? ⟨b, off + i * 12 + j, none⟩ = d.cells[j]?) ∧ AnRd w B d)

theorem LRd.keep {w w' : World} {B B' : Nat} {A : Option Addr} {n : Nat} {L : List AnimD} (h : LRd w B A n L) (hb : Below B w w') (hB : B ≤ B') : LRd w' B' A n L := by
  refine ⟨h.1, fun h0 => ?_⟩
  obtain ⟨b, off, hA, hlt, hc⟩ := h.2 h0
  refine ⟨b, off, hA, by omega, fun i d hd => ?_⟩
  obtain ⟨h1, h2⟩ := hc i d hd
  exact ⟨fun j hj => (hb.cell (p := ⟨b, _, none⟩) hlt).trans (h1 j hj), h2.keep hb hB⟩

/-- one of them, cell by cell -/
theorem LRd.at_ {w : World} {B : Nat} {A : Option Addr} {n k : Nat} {L : List AnimD} (h : LRd w B A n L) (hk : k < n) : ∃ b off d, A = some ⟨b, off, none⟩ ∧ b < B ∧ L[k]? = some d ∧ AnRd w B d ∧
    w.cell? ⟨b, off + k * 12, none⟩ = some (.int .i64 d.from_) ∧ w.cell? ⟨b, off + k * 12 + 1, none⟩ = some (.int .i64 d.len) ∧ w.cell? ⟨b, off + k * 12 + 2, none⟩ = some (.int .i64 d.times) ∧
    w.cell? ⟨b, off + k * 12 + 3, none⟩ = some (.bool d.turn) ∧ w.cell? ⟨b, off + k * 12 + 4, none⟩ = some (.bool d.stays) ∧ w.cell? ⟨b, off + k * 12 + 5, none⟩ = some (.int .i64 d.kind) ∧
    w.cell? ⟨b, off + k * 12 + 6, none⟩ = some (.int .i64 d.c0) ∧ w.cell? ⟨b, off + k * 12 + 7, none⟩ = some (.int .i64 d.c1) ∧ w.cell? ⟨b, off + k * 12 + 8, none⟩ = some (.int .i64 d.c2) ∧
    w.cell? ⟨b, off + k * 12 + 9, none⟩ = some (.int .i64 d.c3) ∧ w.cell? ⟨b, off + k * 12 + 10, none⟩ = some (.int .i64 d.n) ∧ w.cell? ⟨b, off + k * 12 + 11, none⟩ = some (.slice d.fA d.fl d.fc) := by
  obtain ⟨b, off, hA, hlt, hc⟩ := h.2 (by omega)
  have hkl : k < L.length := by have := h.1; omega
  obtain ⟨h1, h2⟩ := hc k L[k] (List.getElem?_eq_getElem hkl)
  exact ⟨b, off, L[k], hA, hlt, List.getElem?_eq_getElem hkl, h2, h1 0 (by decide), h1 1 (by decide), h1 2 (by decide), h1 3 (by decide), h1 4 (by decide), h1 5 (by decide), h1 6 (by decide), h1 7 (by decide), h1 8 (by decide), h1 9 (by decide), h1 10 (by decide), h1 11 (by decide)⟩

theorem find_take {L : List AnimD} {k : Nat} {d : AnimD} (hk : L[k]? = some d) (h : ∀ (i : Nat) (e : AnimD), i < k → L[i]? = some e → checkE e = 0) (hd : checkE d ≠ 0) : (L.find? fun d => checkE d != 0) = some d := by
  rw [List.find?_eq_some_iff_getElem]
  obtain ⟨hl, he⟩ := List.getElem?_eq_some_iff.1 hk
  refine ⟨by simpa using hd, k, hl, he, fun j hj => ?_⟩
  have := h j L[j] hj (List.getElem?_eq_getElem (by omega))
  simp [this]
theorem find_none {L : List AnimD} (h : ∀ (i : Nat) (e : AnimD), L[i]? = some e → checkE e = 0) : (L.find? fun d => checkE d != 0) = none := by
  rw [List.find?_eq_none]
  intro d hd
  obtain ⟨i, hi, he⟩ := List.mem_iff_getElem.1 hd
  have := h i d (by rw [← he]; exact List.getElem?_eq_getElem hi)
  simp [this]

set_option maxRecDepth 100000 in
set_option maxHeartbeats 4000000 in
theorem right_ct (A : Option Addr) (n cap : Nat) (L : List AnimD) (now : Int) (w : World) (hn : n ≤ maxLen) (hL : LRd w w.heap.size A n L) :
    Calls Try.prog 28 #[.slice A n cap, .int .i64 now] w fun e w' => e = .returned (.int .i64 (rightE L now)) ∧ Below w.heap.size w w' := by
  have hlen := hL.1
  obtain ⟨E, hE⟩ : ∃ E, E = rightE L now := ⟨_, rfl⟩
  rw [← hE]
  replace hE := Lib.hid hE
  have HL := Lib.hid hL
  have Hlen := Lib.hid hlen
  clear hL hlen
  unfold maxLen at hn
  by_cases h10 : 10 < n
  · go_enter Try.func28, Try.ntmps28
    go_wp2
    go_ret
    exact ⟨by rw [hE.out, rightE, if_pos (by rw [Hlen.out]; exact h10)]; rfl, Below.refl _ _⟩
  · go_enter Try.func28, Try.ntmps28
    go_wp2_with fail
    go_loopw [13] (fun i wr => ∃ k : Nat, k ≤ n ∧ i = .int .i64 k ∧ (∀ (i : Nat) (e : AnimD), i < k → L[i]? = some e → checkE e = 0) ∧ Below w.heap.size w wr) (fun i _ => n - (intOf i).toNat)
    case atStart => exact ⟨0, by omega, rfl, fun i e hi => by omega, Below.refl _ _⟩
    case round =>
      obtain ⟨k, hk, rfl, hgood, hbel⟩ := hrel
      replace hgood := Lib.hid hgood
      by_cases hlt : k < n
      · obtain ⟨b, off, d, rfl, hb, hd, hrd, e0, e1, e2, e3, e4, e5, e6, e7, e8, e9, e10, e11⟩ := (HL.out.keep hbel hbel.size).at_ hlt
        replace hd := Lib.hid hd
        replace hrd := Lib.hid hrd
        have HBel := Lib.hid hbel
        clear hbel
        have i1 : (k : Int) < (n : Int) := by omega
        go_wp2_with fail
        refine (check_ct d _ (hrd.out.keepAlloc _)).mono ?_
        rintro e W1 ⟨rfl, hb1⟩
        have hB2 := Lib.hid ((HBel.out.alloc HBel.out.size _).trans (hb1.mono (by simp; have := HBel.out.size; omega)))
        clear hb1 e0 e1 e2 e3 e4 e5 e6 e7 e8 e9 e10 e11
        by_cases hc : checkE d = 0
        · have hc' : (checkE d != 0) = false := by simp [hc]
          have HC := Lib.hid hc
          clear hc
          go_wp2
          go_roundw
          case rel =>
            refine ⟨k + 1, by omega, by go_num, fun i e hi he => ?_, hB2.out⟩
            by_cases hik : i < k
            · exact hgood.out i e hik he
            · obtain rfl : i = k := by omega
              rw [hd.out] at he
              cases he
              exact HC.out
          case measure => simp [intOf]; omega
        · have hc' : (checkE d != 0) = true := by simp [hc]
          have hf := Lib.hid (find_take hd.out hgood.out hc)
          have hEe := Lib.hid (show E = checkE d by rw [hE.out, rightE, if_neg (by rw [Hlen.out]; omega), hf.out]; rfl)
          clear hc
          go_wp2
          go_ret
          exact ⟨by rw [hEe.out]; rfl, hB2.out⟩
      · obtain rfl : k = n := by omega
        have hf := Lib.hid (find_none (L := L) fun i e he => hgood.out i e (by have := (List.getElem?_eq_some_iff.1 he).1; have := Hlen.out; omega) he)
        have hEe := Lib.hid (show E = if inB now 0 200000000000 then 0 else 1 by rw [hE.out, rightE, if_neg (by rw [Hlen.out]; omega), hf.out]; rfl)
        have HBel := Lib.hid hbel
        clear hbel
        go_wp2_with fail
        refine (in_ct _ _ _ _).mono ?_
        rintro e W1 ⟨rfl, rfl⟩
        generalize inB now 0 200000000000 = b at *
        cases b
        · go_wp2
          go_ret
          exact ⟨by rw [hEe.out]; rfl, HBel.out⟩
        · go_wp2
          go_ret
          exact ⟨by rw [hEe.out]; rfl, HBel.out⟩

end Go.Proofs.Ytchmpdibbklpfaa.anim
