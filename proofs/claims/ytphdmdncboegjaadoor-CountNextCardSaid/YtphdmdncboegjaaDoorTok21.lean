/- Contracts: Text, short, cutFact; that the tokens are the text. -/
import Derived.Test.YtphdmdncboegjaaDoorTok20
import Derived.Laws.StructEq
namespace Go.Proofs.YtphdmdncboegjaaDoor.tok
open Go.RowKit Go.Proofs.YtphdmdncboegjaaDoor.base
set_option linter.unusedVariables false

def textOf (L : List Tk) : Bs := L.flatMap (·.raw)

theorem cut_raw : ∀ (n : Nat) (l : Bs), l.length ≤ n → textOf (cutP l) = l ∧ ∀ t ∈ cutP l, t.raw ≠ []
  | 0, l, h => by
    obtain rfl := List.eq_nil_of_length_eq_zero (Nat.le_zero.1 h)
    rw [cutP_nil]
    exact ⟨rfl, fun t ht => by cases ht⟩
  | n + 1, l, h => by
    by_cases h0 : l = []
    · subst h0
      rw [cutP_nil]
      exact ⟨rfl, fun t ht => by cases ht⟩
    · rw [cutP_cons h0]
      have hp := (first_pre l h0).2
      obtain ⟨h1, h2⟩ := cut_raw n (l.drop (firstP l).raw.length) (by rw [List.length_drop]; omega)
      refine ⟨?_, fun t ht => ?_⟩
      · show (firstP l).raw ++ textOf _ = l
        rw [h1]
        conv => rhs; rw [← List.take_append_drop (firstP l).raw.length l]
        rw [← first_raw l h0]
      · rcases List.mem_cons.1 ht with rfl | ht
        · exact fun e => by rw [e] at hp; simp at hp
        · exact h2 t ht
theorem cut_text (l : Bs) : textOf (cutP l) = l := (cut_raw _ l (Nat.le_refl _)).1
theorem cut_full (l : Bs) : ∀ t ∈ cutP l, t.raw ≠ [] := (cut_raw _ l (Nat.le_refl _)).2
theorem cut_few (l : Bs) : (cutP l).length ≤ l.length := by
  have key : ∀ L : List Tk, (∀ t ∈ L, t.raw ≠ []) → L.length ≤ (textOf L).length := by
    intro L
    induction L with
    | nil => intro _; simp
    | cons t L ih =>
      intro h
      have h1 := ih (fun x hx => h x (by simp [hx]))
      have h2 : 0 < t.raw.length := List.length_pos_iff.2 (h t (by simp))
      simp only [textOf, List.flatMap_cons, List.length_append, List.length_cons] at h1 ⊢
      omega
  have := key _ (cut_full l)
  rwa [cut_text] at this

theorem text_step {L : List Tk} {k : Nat} {t : Tk} (h : L[k]? = some t) : textOf (L.take (k + 1)) = textOf (L.take k) ++ t.raw := by
  obtain ⟨hl, he⟩ := List.getElem?_eq_some_iff.1 h
  rw [List.take_succ_eq_append_getElem hl, textOf, List.flatMap_append, he]
  simp [textOf]
theorem text_part {L : List Tk} (k : Nat) : (textOf (L.take k)).length ≤ (textOf L).length := by
  conv => rhs; rw [← List.take_append_drop k L]
  simp only [textOf, List.flatMap_append, List.length_append]
  omega

/-- a token of a slice, cell by cell -/
theorem TRd.tok {w : World} {B : Nat} {A : Option Addr} {n k : Nat} {L : List Tk} (h : TRd w B A n L) (hk : k < n) : ∃ b off t, A = some ⟨b, off, none⟩ ∧ b < B ∧ L[k]? = some t ∧
    w.cell? ⟨b, off + k * 4, none⟩ = some (.int .i64 t.k) ∧ w.cell? ⟨b, off + k * 4 + 1, none⟩ = some (.string (bs t.raw)) ∧ w.cell? ⟨b, off + k * 4 + 2, none⟩ = some (.string (bs t.val)) ∧ w.cell? ⟨b, off + k * 4 + 3, none⟩ = some (.int .i64 t.num) := by
  obtain ⟨b, off, t, hA, hlt, hd, hc⟩ := h.at_ hk
  exact ⟨b, off, t, hA, hlt, hd, hc 0 (by decide), hc 1 (by decide), hc 2 (by decide), hc 3 (by decide)⟩

set_option maxRecDepth 100000 in
set_option maxHeartbeats 4000000 in
theorem text_of_ct (A : Option Addr) (n cap : Nat) (L : List Tk) (w : World) (hn : n ≤ maxLen) (hL : TRd w w.heap.size A n L) (hT : (textOf L).length ≤ 140737488355328) :
    Calls Tryd.prog 19 #[.slice A n cap] w fun e w' => e = .returned (.string (bs (textOf L))) ∧ Below w.heap.size w w' := by
  have HL := Lib.hid hL
  have hlen := Lib.hid hL.1
  unfold maxLen at hn
  clear hL
  go_enter Tryd.func19, Tryd.ntmps19
  go_wp2_with fail
  go_loopw [8] (fun i wr => ∃ k : Nat, k ≤ n ∧ i = .int .i64 k ∧ IsB w.heap.size w.heap.size (textOf (L.take k)) wr ∧ Below w.heap.size w wr) (fun i _ => n - (intOf i).toNat)
  case atStart => exact ⟨0, by omega, rfl, by simpa [textOf] using IsB.new w _ (Nat.le_refl _), (Below.refl _ _).alloc (Nat.le_refl _) _⟩
  case round =>
    obtain ⟨k, hk, rfl, hB, hbel⟩ := hrel
    have hz := hbel.size
    replace hB := Lib.hid hB
    by_cases hlt : k < n
    · have hlt' : (k : Int) < (n : Int) := by omega
      obtain ⟨b, off, t, rfl, hb, hd, e0, e1, e2, e3⟩ := TRd.tok (HL.out.keep hbel hbel.size) hlt
      have HBl := Lib.hid hbel
      have hst := Lib.hid (text_step hd)
      have hpt := Lib.hid (text_part (L := L) (k + 1))
      have hwr : (textOf (L.take k)).length + (bs t.raw).size ≤ 140737488355328 := by
        have h1 := hpt.out
        rw [hst.out, List.length_append] at h1
        show _ + t.raw.length ≤ _
        omega
      replace hwr := Lib.hid hwr
      clear hbel hd
      go_wp2_with ((go_at_call 35; (with_reducible refine (writeString_ct _ _ _ _ _ (hB.out.on ((Below.refl _ _).alloc (Nat.le_refl _) _)) hwr.out (by simp; omega)).mono ?_); rintro e w1 ⟨rfl, hb0, hbw⟩; replace hb0 := Lib.hid hb0; have hbx := Lib.hid ((HBl.out.alloc hz _).trans hbw); clear hbw))
      go_roundw
      case rel => exact ⟨k + 1, by omega, by go_num, by rw [hst.out]; exact hb0.out, hbx.out⟩
      case measure => simp [intOf]; omega
    · obtain rfl : k = n := by omega
      have HBl := Lib.hid hbel
      have hfull : L.take k = L := List.take_of_length_le (by rw [hlen.out]; omega)
      rw [hfull] at hB
      clear hbel hfull
      go_wp2_with ((go_at_call 36; (with_reducible refine (builderString_ct _ _ _ _ hB.out hz).mono ?_); rintro e w1 ⟨rfl, hb1⟩))
      go_ret
      exact ⟨rfl, HBl.out.trans hb1⟩

set_option maxHeartbeats 1000000 in
theorem short_ct (s : ByteArray) (n : Nat) (hs : s.size ≤ maxLen) (hn : n ≤ 4000) (w : World) :
    Calls Tryd.prog 17 #[.string s, .int .i64 (n : Int)] w fun e w' => e = .returned (.string (bs (s.data.toList.take n))) ∧ w = w' := by
  unfold maxLen at hs
  have hz := Lib.hid (Lib.size_eq s)
  have hf : bs (s.data.toList.take n) = s.extract 0 (min (s.size : Int) (n : Int)).toNat := by
    rw [take_ex]
    rcases Nat.lt_or_ge n s.size with h | h
    · rw [show (min (s.size : Int) (n : Int)).toNat = n by omega]
    · rw [show (min (s.size : Int) (n : Int)).toNat = s.size by omega, List.take_of_length_le (by rw [← hz.out]; exact h), List.take_of_length_le (by rw [← hz.out]; exact Nat.le_refl _)]
  replace hf := Lib.hid hf
  go_enter Tryd.func17, Tryd.ntmps17
  go_wp2
  go_ret
  exact ⟨by rw [hf.out]; rfl, rfl⟩

theorem bs_toList (a : Bs) : (bs a).toList = a := ByteArray.toList_mk a
/-- == on two tokens -/
theorem run_eq_tok (a b : Tk) (w : World) : (binOp .eql 28 (.agg #[.int .i64 a.k, .string (bs a.raw), .string (bs a.val), .int .i64 a.num]) (.agg #[.int .i64 b.k, .string (bs b.raw), .string (bs b.val), .int .i64 b.num])).run Tryd.prog w = .ok (.bool (decide (a = b))) w := by
  rw [run_eql_struct, run_equalIn_agg w _ _ _ _ (by kernel_rfl) (by kernel_rfl)]
  simp only [Program.fieldsOf, Tryd.underlying28]
  obtain ⟨k1, r1, v1, n1⟩ := a
  obtain ⟨k2, r2, v2, n2⟩ := b
  simp [Op.eqFields, go_sem, Tryd.underlying9, Tryd.underlying3, bs_toList]
  (repeat' split) <;> simp_all
theorem run_ne_tok (a b : Tk) (w : World) : (binOp .neq 28 (.agg #[.int .i64 a.k, .string (bs a.raw), .string (bs a.val), .int .i64 a.num]) (.agg #[.int .i64 b.k, .string (bs b.raw), .string (bs b.val), .int .i64 b.num])).run Tryd.prog w = .ok (.bool (decide (a ≠ b))) w := by
  rw [run_neq_struct, run_equalIn_agg w _ _ _ _ (by kernel_rfl) (by kernel_rfl)]
  simp only [Program.fieldsOf, Tryd.underlying28]
  obtain ⟨k1, r1, v1, n1⟩ := a
  obtain ⟨k2, r2, v2, n2⟩ := b
  simp [Op.eqFields, go_sem, Tryd.underlying9, Tryd.underlying3, bs_toList]
  (repeat' split) <;> simp_all

theorem nv_lit (n : Nat) (h : n < 256) : nv (UInt8.ofNat n) = n := by simp [nv, UInt8.toNat_ofNat']; omega

theorem cut_fact : cutP [97, 58, 49, 112, 120] = [⟨1, [97], [97], 0⟩, ⟨12, [58], [], 0⟩, ⟨7, [49, 112, 120], [112, 120], 1000⟩] := by
  have f1 : firstP [97, 58, 49, 112, 120] = ⟨1, [97], [97], 0⟩ := by
    have hn : nameP [97, 58, 49, 112, 120] = ([97], 1) := by
      rw [nameP, if_neg (by decide), if_pos (by decide), nameP, if_neg (by decide), if_neg (by decide)]
    have hw : wordP [97, 58, 49, 112, 120] = ⟨1, [97], [97], 0⟩ := by
      have h1 : namedP 1 [97, 58, 49, 112, 120] 0 = ⟨1, [97], [97], 0⟩ := by
        simp only [namedP, List.drop_zero, hn]
        rfl
      simp only [wordP, h1]
      decide
    rw [firstP, if_neg (by decide), if_neg (by decide), if_neg (by decide), if_neg (by decide), if_neg (by decide), if_neg (by decide), if_pos (by decide), hw]
  have f2 : firstP [58, 49, 112, 120] = ⟨12, [58], [], 0⟩ := by
    rw [firstP, if_neg (by decide), if_neg (by decide), if_neg (by decide), if_neg (by decide), if_neg (by decide), if_neg (by decide), if_neg (by decide)]
    rfl
  have f3 : firstP [49, 112, 120] = ⟨7, [49, 112, 120], [112, 120], 1000⟩ := by
    have hn : nameP [112, 120] = ([112, 120], 2) := by
      rw [nameP, if_neg (by decide), if_pos (by decide), nameP, if_pos (by decide)]
    have hnum : numberP [49, 112, 120] = (1000, 1) := by decide
    rw [firstP, if_neg (by decide), if_neg (by decide), if_neg (by decide), if_neg (by decide), if_neg (by decide), hnum, if_pos (by decide)]
    simp only [numTkP]
    rw [if_neg (by decide), if_pos (by decide)]
    simp only [List.drop_succ_cons, List.drop_zero, hn]
    decide
  rw [cutP_cons (by decide), f1, cutP_cons (by decide)]
  simp only [List.length_cons, List.length_nil, List.drop_succ_cons, List.drop_zero, Nat.zero_add]
  rw [f2, cutP_cons (by decide)]
  simp only [List.length_cons, List.length_nil, List.drop_succ_cons, List.drop_zero, Nat.zero_add]
  rw [f3]
  simp [cutP_nil]

set_option maxRecDepth 100000 in
set_option maxHeartbeats 1000000 in
theorem cutFact_ct (w : World) (hm : MaxL w) :
    Calls Tryd.prog 15 #[] w fun e w' => e = .returned (.bool true) ∧ Below w.heap.size w w' := by
  have cC : ∀ w, MaxL w → Calls Tryd.prog 16 #[.string ⟨#[97, 58, 49, 112, 120]⟩] w fun e w' => (∃ b off cap, e = .returned (.slice (some ⟨b, off, none⟩) 3 cap) ∧ b < w'.heap.size ∧ w'.cell? ⟨b, off + 8, none⟩ = some (.int .i64 7) ∧ w'.cell? ⟨b, off + 8 + 1, none⟩ = some (.string ⟨#[49, 112, 120]⟩) ∧ w'.cell? ⟨b, off + 8 + 2, none⟩ = some (.string ⟨#[112, 120]⟩) ∧ w'.cell? ⟨b, off + 8 + 3, none⟩ = some (.int .i64 1000)) ∧ Below w.heap.size w w' := fun w hm =>
    (cut_ct ⟨#[97, 58, 49, 112, 120]⟩ (by decide) w hm).mono fun e w' ⟨⟨A, cap, he, _, hr⟩, hb⟩ => by
      rw [show (⟨#[97, 58, 49, 112, 120]⟩ : ByteArray).data.toList = [97, 58, 49, 112, 120] from rfl, cut_fact] at he hr
      obtain ⟨b, off, t, rfl, hlt, hd, e0, e1, e2, e3⟩ := TRd.tok hr (k := 2) (by decide)
      obtain rfl : t = ⟨7, [49, 112, 120], [112, 120], 1000⟩ := by simpa using hd.symm
      exact ⟨⟨b, off, cap, he, hlt, e0, e1, e2, e3⟩, hb⟩
  replace cC := Lib.hid cC
  have keq : ∀ W : World, (binOp .eql 28 (.agg #[.int .i64 7, .string ⟨#[49, 112, 120]⟩, .string ⟨#[112, 120]⟩, .int .i64 1000]) (.agg #[.int .i64 7, .string ⟨#[49, 112, 120]⟩, .string ⟨#[112, 120]⟩, .int .i64 1000])).run Tryd.prog W = .ok (.bool true) W := fun W => run_eq_tok ⟨7, [49, 112, 120], [112, 120], 1000⟩ ⟨7, [49, 112, 120], [112, 120], 1000⟩ W
  go_enter Tryd.func15, Tryd.ntmps15
  go_wp2_with ((go_at_call 16; (with_reducible refine (cC.out _ hm).mono ?_); rintro e w1 ⟨⟨b, off, cap, rfl, hlt, e0, e1, e2, e3⟩, hb1⟩))
  go_ret
  exact ⟨rfl, hb1⟩

end Go.Proofs.YtphdmdncboegjaaDoor.tok
