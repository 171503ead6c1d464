/- Contracts and plain law, a bundle: Med2 Med5 LaidM. -/
import Derived.Lib.SmallJoins
import Derived.Shelf.Strings.SlTrimAscii
import Derived.Stop.LaidErr
import Derived.Test.YtmjbaimccbkmpaaGreatDoorBF
import Derived.Test.YtmjbaimccbkmpaaGreatDoorBE

namespace Go.Proofs.YtmjbaimccbkmpaaGreatDoor.med
open Go.RowKit Go.Proofs.YtmjbaimccbkmpaaGreatDoor.base Go.Proofs.YtmjbaimccbkmpaaGreatDoor.tok Go.Proofs.YtmjbaimccbkmpaaGreatDoor.rul Go.Proofs.YtmjbaimccbkmpaaGreatDoor.tc
set_option linter.unusedVariables false

theorem kindF_range (w : Bs) : ∀ (L : List Bs) (i : Nat), kindF L i w = 12 ∨ ((i : Int) ≤ kindF L i w ∧ kindF L i w < (i : Int) + L.length ∧ 0 < kindF L i w)
  | [], i => .inl rfl
  | x :: L, i => by
    rw [kindF]
    split
    · rename_i h
      exact .inr ⟨by omega, by simp only [List.length_cons]; omega, by omega⟩
    · rcases kindF_range w L (i + 1) with h | ⟨h1, h2, h3⟩
      · exact .inl h
      · exact .inr ⟨by omega, by simp only [List.length_cons]; omega, h3⟩
theorem kind_range (w : Bs) : 1 ≤ kindP w ∧ kindP w ≤ 12 := by
  have h := kindF_range w wordsL 0
  have hl : wordsL.length = 12 := rfl
  rw [hl] at h
  unfold kindP
  omega
theorem num_bd {l : Bs} {n : Int} (h : numF l = some n) : 0 ≤ n ∧ n ≤ 1000000 := by
  unfold numF at h
  split at h
  · rename_i hd
    split at h
    · rename_i v hv
      split at h
      · rename_i hle
        injection h with h
        subst h
        refine ⟨?_, hle⟩
        cases l with
        | nil => simp [Lib.atoiAll] at hv
        | cons c r =>
          have hc : digI (nv c) = true := by
            unfold digs at hd
            rw [List.all_eq_true] at hd
            exact hd c (by simp)
          simp only [digI, decide_eq_true_eq, nv] at hc
          rw [Lib.atoiAll_plain c r (by omega) (by omega)] at hv
          revert hv
          rcases Lib.parseMag (c :: r) with u | _ | _
          · simp only [Lib.signless]
            split
            · intro h; cases h
            · intro h; injection h with h; omega
          · intro h; cases h
          · intro h; cases h
      · cases h
    · cases h
  · cases h
theorem feat_good (L : List Tk) : GoodF (featP L) := by
  unfold featP
  split
  · rename_i a b c
    split
    · split
      · rename_i h
        split
        · split
          · rename_i n hn
            have := num_bd hn
            exact .inr (.inl ⟨h.1, h.2, this.1, this.2⟩)
          · exact .inr (.inr (.inr rfl))
        · exact .inr (.inr (.inr rfl))
      · split
        · rename_i h
          have hr := kind_range (wordT a ++ [58] ++ wordT c)
          by_cases h11 : kindP (wordT a ++ [58] ++ wordT c) ≤ 11
          · exact .inr (.inr (.inl ⟨h, h11, rfl⟩))
          · have : kindP (wordT a ++ [58] ++ wordT c) = 12 := by omega
            rw [this]
            exact .inr (.inr (.inr rfl))
        · exact .inr (.inr (.inr rfl))
    · exact .inr (.inr (.inr rfl))
  · exact .inr (.inr (.inr rfl))
theorem behind_good {L : List Tk} {f : Fe} {fs : List Fe} (hf : GoodF f) (hg : ∀ R, R.length < L.length → ∀ gs, featsP R = some gs → gs ≠ [] ∧ (∀ x ∈ gs, GoodF x) ∧ gs.length ≤ R.length) (h : behindT L f featsP = some fs) : fs ≠ [] ∧ (∀ x ∈ fs, GoodF x) ∧ fs.length ≤ L.length + 1 := by
  unfold behindT at h
  split at h
  · injection h with h
    subst h
    exact ⟨by simp, by simpa using hf, by simp⟩
  · rename_i a R
    split at h
    · obtain ⟨gs, hgs, rfl⟩ := Option.map_eq_some_iff.1 h
      obtain ⟨h1, h2, h3⟩ := hg R (by simp) gs hgs
      refine ⟨by simp, fun x hx => ?_, by simp only [List.length_cons]; omega⟩
      rcases List.mem_cons.1 hx with rfl | hx
      · exact hf
      · exact h2 x hx
    · cases h
theorem feats_good : ∀ (n : Nat) (L : List Tk), L.length ≤ n → ∀ fs, featsP L = some fs → fs ≠ [] ∧ (∀ x ∈ fs, GoodF x) ∧ fs.length ≤ L.length
  | _, [], _, fs, h => by rw [feats_nil] at h; cases h
  | 0, t :: M, hn, _, _ => by simp at hn
  | n + 1, t :: M, hn, fs, h => by
    simp only [List.length_cons] at hn ⊢
    by_cases hr : t.raw = [40]
    · cases ho : blkOk t M
      · rw [feats_open hr ho] at h
        cases h
      · rw [feats_blk hr ho] at h
        have hb := blkLen_bd t M
        have hl : ((t :: M).drop (blkLen t M)).length = M.length + 1 - blkLen t M := by rw [List.length_drop, List.length_cons]
        obtain ⟨h1, h2, h3⟩ := behind_good (feat_good _) (fun R hR gs hgs => feats_good n R (by omega) gs hgs) h
        exact ⟨h1, h2, by omega⟩
    · by_cases hk : 3 < kindP (wordT t)
      · rw [feats_bad hr hk] at h
        cases h
      · rw [feats_word hr hk] at h
        have hkr := kind_range (wordT t)
        exact behind_good (.inl ⟨hkr.1, by simpa using hk, rfl⟩) (fun R hR gs hgs => feats_good n R (by omega) gs hgs) h
theorem que_good (L : List Tk) : GoodQ ((queP L).getD badQ) ∧ ((queP L).getD badQ).fs.length ≤ L.length + 1 := by
  unfold queP
  cases h : featsP (if notP L = true then L.drop 1 else L) with
  | none => exact ⟨⟨by simp [badQ], fun f hf => by simp [badQ] at hf; subst hf; exact .inr (.inr (.inr rfl))⟩, by simp [badQ]⟩
  | some fs =>
    obtain ⟨h1, h2, h3⟩ := feats_good _ _ (Nat.le_refl _) fs h
    refine ⟨⟨h1, h2⟩, ?_⟩
    simp only [Option.map_some, Option.getD_some]
    split at h3
    · rw [List.length_drop] at h3; omega
    · omega
def cnt (Q : List Qu) : Nat := (Q.map fun q => q.fs.length + 2).sum
def wt (P : List (List Tk)) : Nat := (P.map fun p => p.length + 1).sum
theorem pieces_wt : ∀ (n : Nat) (L cur : List Tk), L.length ≤ n → wt (piecesF L cur) ≤ L.length + cur.length + 1 ∧ piecesF L cur ≠ []
  | _, [], cur, _ => by rw [pieces_nil]; exact ⟨by simp [wt], by simp⟩
  | 0, t :: M, cur, hn => by simp at hn
  | n + 1, t :: M, cur, hn => by
    simp only [List.length_cons] at hn
    cases ho : opensP t
    · by_cases hc : t.k = 12 ∧ t.raw = [44]
      · rw [pieces_comma ho hc]
        have := (pieces_wt n M [] (by omega)).1
        refine ⟨?_, by simp⟩
        simp only [wt, List.map_cons, List.sum_cons, List.length_cons, List.length_nil] at this ⊢
        omega
      · rw [pieces_other ho hc]
        have := pieces_wt n M (cur ++ [t]) (by omega)
        refine ⟨?_, this.2⟩
        have h1 := this.1
        simp only [List.length_append, List.length_cons, List.length_nil] at h1 ⊢
        omega
    · rw [pieces_open ho]
      have hb := blkLen_bd t M
      have := pieces_wt n ((t :: M).drop (blkLen t M)) (cur ++ (t :: M).take (blkLen t M)) (by rw [List.length_drop, List.length_cons]; omega)
      refine ⟨?_, this.2⟩
      have h1 := this.1
      simp only [List.length_append, List.length_drop, List.length_take, List.length_cons] at h1 ⊢
      omega
theorem cnt_le : ∀ (P : List (List Tk)), cnt (P.map fun p => (queP p).getD badQ) ≤ 3 * wt P
  | [] => by simp [cnt, wt]
  | p :: P => by
    have ih := cnt_le P
    have := (que_good p).2
    simp only [cnt, wt, List.map_cons, List.sum_cons] at ih ⊢
    omega
theorem read_good {s : Bs} {Q : List Qu} (h : readP s = some Q) : Q ≠ [] ∧ (∀ q ∈ Q, GoodQ q) ∧ cnt Q ≤ 1203 := by
  unfold readP at h
  split at h
  · cases h
  · rename_i hs
    injection h with h
    subst h
    have hl : (solP (cutP s)).length ≤ 400 := by
      have h1 : (solP (cutP s)).length ≤ (cutP s).length := List.length_filter_le _ _
      have h2 := cut_few s
      omega
    unfold tokQ
    split
    · exact ⟨by simp, fun q hq => by
        obtain rfl : q = ⟨false, [⟨1, 0⟩]⟩ := by simpa using hq
        exact ⟨by simp, fun f hf => by
          obtain rfl : f = ⟨1, 0⟩ := by simpa using hf
          exact .inl ⟨by decide, by decide, rfl⟩⟩, by simp [cnt]⟩
    · obtain ⟨h1, h2⟩ := pieces_wt _ (solP (cutP s)) [] (Nat.le_refl _)
      refine ⟨by simpa using h2, fun q hq => ?_, ?_⟩
      · obtain ⟨p, _, rfl⟩ := List.mem_map.1 hq
        exact (que_good p).1
      · have := cnt_le (piecesF (solP (cutP s)) [])
        simp only [List.length_nil] at h1
        omega

/-! ### how long -/
theorem wordK_len (k : Int) : (wordK k).length ≤ 30 := by
  unfold wordK
  cases h : wordsL[k.toNat]? with
  | none => simp
  | some w =>
    have hm := List.mem_of_getElem? h
    have : ∀ w ∈ wordsL, w.length ≤ 30 := by decide
    exact this w hm
theorem shownK_len (k : Int) : (shownK k).length ≤ 30 := by
  unfold shownK
  cases h : shownL[k.toNat - 8]? with
  | none => simp
  | some w =>
    have hm := List.mem_of_getElem? h
    have : ∀ w ∈ shownL, w.length ≤ 30 := by decide
    exact this w hm
theorem feat_len {f : Fe} (hf : GoodF f) : (featT f).length ≤ 45 := by
  obtain ⟨k, n⟩ := f
  have h1 := wordK_len k
  have h2 := shownK_len k
  unfold featT
  simp only
  split
  · omega
  · split
    · rcases hf with ⟨a, b, c⟩ | ⟨a, b, c, d⟩ | ⟨a, b, c⟩ | h
      · simp only at a b; omega
      · simp only at c d
        have := itoa_short c d
        simp only [List.length_append, List.length_cons, List.length_nil]
        omega
      · simp only at a b; omega
      · injection h with a b; omega
    · split
      · simp only [List.length_append, List.length_cons, List.length_nil]
        omega
      · simp
theorem lens_cons (x : Bs) (L : List Bs) : Lib.lens (x :: L) = x.length + Lib.lens L := by simp [Lib.lens]
theorem feats_lens : ∀ (fs : List Fe), (∀ f ∈ fs, GoodF f) → Lib.lens (fs.map featT) ≤ 45 * fs.length
  | [], _ => by simp [Lib.lens]
  | f :: L, h => by
    have ih := feats_lens L (fun x hx => h x (List.mem_cons_of_mem _ hx))
    have := feat_len (h f (List.mem_cons_self ..))
    rw [List.map_cons, lens_cons, List.length_cons]
    omega
theorem join_le (L : List Bs) (sep : Bs) : (Lib.join L sep).length ≤ sep.length * L.length + Lib.lens L := by
  cases L with
  | nil => simp [Lib.join_nil]
  | cons x r =>
    rw [Lib.join_length, List.length_cons, Nat.mul_add]
    omega
theorem que_len {q : Qu} (hq : GoodQ q) : (queT q).length ≤ 50 * q.fs.length + 4 := by
  unfold queT
  have h1 := join_le (q.fs.map featT) andT
  have h2 := feats_lens q.fs hq.2
  have h3 : andT.length = 5 := rfl
  rw [List.length_map, h3] at h1
  rw [List.length_append]
  have h4 : (if q.no = true then notT else []).length ≤ 4 := by split <;> simp [notT]
  omega
theorem ques_lens : ∀ (Q : List Qu), (∀ q ∈ Q, GoodQ q) → Lib.lens (Q.map queT) ≤ 50 * cnt Q
  | [], _ => by simp [Lib.lens, cnt]
  | q :: Q, h => by
    have ih := ques_lens Q (fun x hx => h x (List.mem_cons_of_mem _ hx))
    have := que_len (h q (List.mem_cons_self ..))
    rw [List.map_cons, lens_cons]
    simp only [cnt, List.map_cons, List.sum_cons] at ih ⊢
    omega
theorem cnt_len : ∀ (Q : List Qu), Q.length ≤ cnt Q ∧ ∀ q ∈ Q, q.fs.length ≤ cnt Q
  | [] => ⟨by simp [cnt], fun q h => by cases h⟩
  | q :: Q => by
    obtain ⟨h1, h2⟩ := cnt_len Q
    simp only [cnt, List.map_cons, List.sum_cons, List.length_cons] at h1 h2 ⊢
    refine ⟨by omega, fun p hp => ?_⟩
    rcases List.mem_cons.1 hp with rfl | hp
    · omega
    · have := h2 p hp; omega
theorem text_len {Q : List Qu} (h : ∀ q ∈ Q, GoodQ q) (hc : cnt Q ≤ 1203) : (textP Q).length ≤ 70000 := by
  unfold textP
  have h1 := join_le (Q.map queT) [44, 32]
  have h2 := ques_lens Q h
  have h3 := (cnt_len Q).1
  rw [List.length_map] at h1
  simp only [List.length_cons, List.length_nil] at h1
  omega

/-! ### the laws -/
theorem so_cases (f : Fe) (e : En) : soP f e = 1 ∨ soP f e = 0 ∨ soP f e = -1 := by
  unfold soP
  split
  · exact .inr (.inl rfl)
  · exact .inl rfl
  · exact .inr (.inr rfl)
theorem min_bd (e : En) : ∀ (L : List Fe) (n : Int), -1 ≤ n → n ≤ 1 → -1 ≤ minF e L n ∧ minF e L n ≤ 1
  | [], n, h0, h1 => ⟨h0, h1⟩
  | f :: L, n, h0, h1 => by
    have := so_cases f e
    exact min_bd e L _ (by omega) (by omega)
theorem so_known {f : Fe} (h : GoodF f) (hk : f.k ≠ 12) (e : En) : soP f e ≠ 0 := by
  obtain ⟨k, n⟩ := f
  have hr : k = 1 ∨ k = 2 ∨ k = 3 ∨ k = 4 ∨ k = 5 ∨ k = 6 ∨ k = 7 ∨ k = 8 ∨ k = 9 ∨ k = 10 ∨ k = 11 := by
    rcases h with ⟨a, b, _⟩ | ⟨a, b, _⟩ | ⟨a, b, _⟩ | h
    · simp only at a b; omega
    · simp only at a b; omega
    · simp only at a b; omega
    · exact absurd (congrArg Fe.k h) hk
  have hs : ∃ b, isP ⟨k, n⟩ e = some b := by
    rcases hr with rfl | rfl | rfl | rfl | rfl | rfl | rfl | rfl | rfl | rfl | rfl <;> exact ⟨_, rfl⟩
  obtain ⟨b, hb⟩ := hs
  unfold soP
  rw [hb]
  cases b <;> simp
theorem min_known (e : En) : ∀ (L : List Fe), (∀ f ∈ L, GoodF f) → (∀ f ∈ L, f.k ≠ 12) → ∀ n : Int, (n = 1 ∨ n = -1) → minF e L n = 1 ∨ minF e L n = -1
  | [], _, _, n, h => h
  | f :: L, hg, hk, n, h => by
    have h1 := so_cases f e
    have h2 := so_known (hg f (List.mem_cons_self ..)) (hk f (List.mem_cons_self ..)) e
    exact min_known e L (fun x hx => hg x (List.mem_cons_of_mem _ hx)) (fun x hx => hk x (List.mem_cons_of_mem _ hx)) _ (by omega)
/-- never both; if all is known, one of them -/
theorem not_both (fs : List Fe) (e : En) : (anyQ [⟨false, fs⟩] e && anyQ [⟨true, fs⟩] e) = false := by
  unfold anyQ allP
  simp only [List.any_cons, List.any_nil, Bool.or_false, Bool.false_eq_true, if_false, if_true]
  by_cases h : minF e fs 1 = 1
  · have : ¬ - minF e fs 1 = 1 := by omega
    simp [this]
  · simp [h]
theorem not_one {fs : List Fe} (hg : ∀ f ∈ fs, GoodF f) (hk : ∀ f ∈ fs, f.k ≠ 12) (e : En) : anyQ [⟨false, fs⟩] e = !(anyQ [⟨true, fs⟩] e) := by
  unfold anyQ allP
  simp only [List.any_cons, List.any_nil, Bool.or_false, Bool.false_eq_true, if_false, if_true]
  rcases min_known e fs hg hk 1 (.inl rfl) with h | h <;> rw [h] <;> rfl
theorem any_app (Q P : List Qu) (e : En) : anyQ (Q ++ P) e = (anyQ Q e || anyQ P e) := by simp [anyQ]

end Go.Proofs.YtmjbaimccbkmpaaGreatDoor.med

namespace Go.Proofs.YtmjbaimccbkmpaaGreatDoor.med
open Go.RowKit Go.Proofs.YtmjbaimccbkmpaaGreatDoor.base Go.Proofs.YtmjbaimccbkmpaaGreatDoor.tok Go.Proofs.YtmjbaimccbkmpaaGreatDoor.rul
set_option linter.unusedVariables false

/-- what is wanted of the variables -/
def MEnv (w : World) : Prop := MaxL w ∧ WordsAt w ∧ dim.PowAt w ∧ (∃ tp p, w.cell? ⟨5, 0, none⟩ = some (.iface tp p)) ∧ (∃ tp p, w.cell? ⟨6, 0, none⟩ = some (.iface tp p))
theorem MEnv.on {w w' : World} (h : MEnv w) (hb : Below w.heap.size w w') : MEnv w' := by
  obtain ⟨h1, h2, h3, ⟨t1, p1, h4⟩, ⟨t2, p2, h5⟩⟩ := h
  exact ⟨h1.on hb h1.lt, h2.on hb, h3.on hb, ⟨t1, p1, (hb.cell (World.block_lt_of_cell? w _ h4)).trans h4⟩, ⟨t2, p2, (hb.cell (World.block_lt_of_cell? w _ h5)).trans h5⟩⟩
theorem bytes_low (w : World) (e : TypeId) (s : ByteArray) : Below w.heap.size w (Lib.bytesWorld w e s) := Go.Joins.below_bytesWorld _ w e s (Nat.le_refl _)
theorem atoi_two (s : Bs) (hs : s.length ≤ 1048576) :
    (∃ v, Lib.atoiAll s = .ok v ∧ ∀ w, MEnv w → Calls Tryz.prog 74 #[.string (bs s)] w fun e w' => e = .returned (.tuple #[.int .i64 v, .nilIface]) ∧ Below w.heap.size w w') ∨
    ((∀ v, Lib.atoiAll s ≠ .ok v) ∧ ∃ d, ∀ w, MEnv w → Calls Tryz.prog 74 #[.string (bs s)] w fun e w' => (∃ N, e = .returned (.tuple #[.int .i64 d, .iface 162 (.pointer (some ⟨N, 0, none⟩))])) ∧ Below w.heap.size w w') := by
  have hz : (bs s).size ≤ 1048576 := by rw [bs_size]; exact hs
  rcases h : Lib.atoiAll s with v | _ | _
  · exact .inl ⟨v, rfl, fun w hw => (Tryz.strconv_Atoi_ok (bs s) (by omega) v h w).mono fun e w' ⟨he, hb⟩ => ⟨he, by
      rcases hb with rfl | ⟨t, rfl⟩
      · exact Below.refl _ _
      · exact bytes_low _ _ _⟩⟩
  · refine .inr ⟨fun v e => (by cases e), 0, fun w hw => ?_⟩
    obtain ⟨_, _, _, ⟨tp, p, h2⟩, _⟩ := hw
    exact (Any.strconv_Atoi_syntax Tryz.laysC172 (bs s) (by omega) h (.iface tp p) w h2 (.inr ⟨tp, p, rfl⟩)).mono fun e w' ⟨N, he, _, _, hb⟩ => ⟨⟨N, he⟩, hb⟩
  · refine .inr ⟨fun v e => (by cases e), Lib.atoiSat s, fun w hw => ?_⟩
    obtain ⟨_, _, _, _, ⟨tp, p, h2⟩⟩ := hw
    exact (Tryz.strconv_Atoi_range (bs s) (by omega) h (.iface tp p) w h2 (.inr ⟨tp, p, rfl⟩)).mono fun e w' ⟨N, he, _, _, hb⟩ => ⟨⟨N, he⟩, hb⟩
def digsL : Bs := [48, 49, 50, 51, 52, 53, 54, 55, 56, 57]
theorem trim_ct (s : Bs) (hs : s.length ≤ 1048576) (w : World) :
    Calls Tryz.prog 73 #[.string (bs s), .string ⟨#[48, 49, 50, 51, 52, 53, 54, 55, 56, 57]⟩] w fun e w' => e = .returned (.string (bs (Lib.trimS s digsL))) ∧ Below w.heap.size w w' :=
  Any.strings_Trim_laid Tryz.lays160 (by kernel_rfl) (bs s) ⟨#[48, 49, 50, 51, 52, 53, 54, 55, 56, 57]⟩ w (by rw [bs_size]; omega) (by decide) (ascii_of_all (l := [48, 49, 50, 51, 52, 53, 54, 55, 56, 57]) (by decide))
theorem drop_keeps {p : UInt8 → Bool} {c : UInt8} (hc : p c = false) : ∀ (l : Bs), c ∈ l → c ∈ l.dropWhile p
  | [], h => by cases h
  | d :: l, h => by
    rw [List.dropWhile_cons]
    split
    · rename_i hp
      rcases List.mem_cons.1 h with rfl | h
      · rw [hc] at hp; cases hp
      · exact drop_keeps hc l h
    · exact h
theorem drop_all {p : UInt8 → Bool} : ∀ (l : Bs), (∀ c ∈ l, p c = true) → l.dropWhile p = []
  | [], _ => rfl
  | d :: l, h => by
    rw [List.dropWhile_cons, if_pos (h d (List.mem_cons_self ..))]
    exact drop_all l fun c hc => h c (List.mem_cons_of_mem _ hc)
theorem trim_digs (s : Bs) : (Lib.trimS s digsL).isEmpty = digs s := by
  have hset : ∀ b : UInt8, digsL.contains b = digI (nv b) := digits_set
  cases h : digs s
  · obtain ⟨c, hc, hd⟩ : ∃ c ∈ s, digI (nv c) = false := by
      unfold digs at h
      simpa using h
    have h1 : c ∈ Lib.trimRightS s digsL := by
      unfold Lib.trimRightS
      rw [List.mem_reverse]
      exact drop_keeps (by rw [hset]; exact hd) _ (by simpa using hc)
    have h2 : c ∈ Lib.trimS s digsL := drop_keeps (by rw [hset]; exact hd) _ h1
    cases hx : Lib.trimS s digsL with
    | nil => rw [hx] at h2; cases h2
    | cons => rfl
  · have h1 : Lib.trimRightS s digsL = [] := by
      unfold Lib.trimRightS
      rw [drop_all]
      · rfl
      · intro c hc
        rw [hset]
        unfold digs at h
        exact List.all_eq_true.1 h c (by simpa using hc)
    unfold Lib.trimS
    rw [h1]
    rfl

theorem bs_app (a b : Bs) : bs (a ++ b) = bs a ++ bs b := by
  apply ByteArray.ext
  simp [bs]
/-! ### the walk's worlds -/
abbrev FSt (w W : World) : Prop := Below w.heap.size w W ∧ Blk W w.heap.size 55 #[.int .i64 0, .int .i64 0] ∧ Blk W (w.heap.size + 1) 55 #[.int .i64 12, .int .i64 0]
theorem FSt.beg (w : World) : FSt w ((w.alloc (.cells #[.int .i64 0, .int .i64 0] 55)).alloc (.cells #[.int .i64 12, .int .i64 0] 55)) :=
  ⟨((Below.refl w.heap.size w).alloc (Nat.le_refl _) _).alloc (by simp) _, (Blk.new rfl).alloc _, Blk.new (by simp)⟩
theorem FSt.on {w W W' : World} (h : FSt w W) (hb : Below W.heap.size W W') : FSt w W' :=
  ⟨h.1.trans (hb.mono h.1.size), h.2.1.below hb h.2.1.lt, h.2.2.below hb h.2.2.lt⟩
theorem FSt.alloc {w W : World} (h : FSt w W) (o : Obj) : FSt w (W.alloc o) := h.on ((Below.refl _ _).alloc (Nat.le_refl _) _)
theorem FSt.fin {w W : World} (h : FSt w W) (k n : Int) : (∀ i, ((W.setCell ⟨w.heap.size, 0, none⟩ (.int .i64 k)).setCell ⟨w.heap.size, 1, none⟩ (.int .i64 n)).cell? ⟨w.heap.size, i, none⟩ = (#[.int .i64 k, .int .i64 n] : Array Value)[i]?) ∧ Below w.heap.size w ((W.setCell ⟨w.heap.size, 0, none⟩ (.int .i64 k)).setCell ⟨w.heap.size, 1, none⟩ (.int .i64 n)) :=
  ⟨((h.2.1.put 0 (.int .i64 k)).put 1 (.int .i64 n)).cell, (h.1.setCell (Nat.le_refl _) _).setCell (Nat.le_refl _) _⟩
theorem word_len {t : Tk} (h : t.val.length ≤ 1000000) : (bs (wordT t)).size ≤ 1000000 := by
  rw [bs_size]
  unfold wordT
  split
  · rw [List.length_map]; exact h
  · simp
abbrev FRet (f : Fe) (e : Ending) : Prop := e = .returned (.agg #[.int .i64 f.k, .int .i64 f.n])

set_option maxRecDepth 100000 in
set_option maxHeartbeats 4000000 in
theorem mfeature_no3 (A : Option Addr) (n cap : Nat) (hn : n ≤ 1000000) (h3 : n ≠ 3) (w : World) :
    Calls Tryz.prog 45 #[.slice A n cap] w fun e w' => FRet unk e ∧ Below w.heap.size w w' := by
  have b3 : ((n : Int) == 3) = false := by simp; omega
  have n3 : ((n : Int) != 3) = true := by simp; omega
  go_enter Tryz.func45, Tryz.ntmps45
  go_wp2_with fail
  refine bodyPost_ret (v := .agg #[.int .i64 12, .int .i64 0]) (by simp [results, Tryz.results45, go_sem]) rfl ⟨rfl, ?_⟩
  exact ((Below.refl _ _).alloc (Nat.le_refl _) _).alloc (by simp) _

set_option maxRecDepth 100000 in
set_option maxHeartbeats 8000000 in
theorem mfeature_3 (A : Option Addr) (cap : Nat) (a b c : Tk) (w : World) (hrd : TRd w w.heap.size A 3 [a, b, c]) (ha : a.val.length ≤ 1000000) (hc : c.val.length ≤ 1000000) (hcr : c.raw.length ≤ 1000000) (hpx : c.k = 7 → c.val = [112, 120] → 2 ≤ c.raw.length) (hE : MEnv w) :
    Calls Tryz.prog 45 #[.slice A 3 cap] w fun e w' => FRet (featP [a, b, c]) e ∧ Below w.heap.size w w' := by
  obtain ⟨bl, off, t0, rfl, hbb, hd0, e0, e1, e2, e3⟩ := TRd.tok hrd (k := 0) (by omega)
  obtain rfl : a = t0 := by simpa using hd0
  obtain ⟨bl', off', t1, hA1, _, hd1, _, d1, _, _⟩ := TRd.tok hrd (k := 1) (by omega)
  obtain rfl : b = t1 := by simpa using hd1
  obtain ⟨rfl, rfl⟩ : bl = bl' ∧ off = off' := by injection hA1 with hA1; injection hA1 with q1 q2; exact ⟨q1, q2⟩
  obtain ⟨bl', off', t2, hA2, _, hd2, g0, g1, g2, g3⟩ := TRd.tok hrd (k := 2) (by omega)
  obtain rfl : c = t2 := by simpa using hd2
  obtain ⟨rfl, rfl⟩ : bl = bl' ∧ off = off' := by injection hA2 with hA2; injection hA2 with q1 q2; exact ⟨q1, q2⟩
  simp only [Nat.zero_mul, Nat.add_zero, Nat.one_mul, show 2 * 4 = 8 from rfl] at e0 e1 e2 e3 d1 g0 g1 g2 g3
  have HG := Lib.hid (And.intro g0 (And.intro g1 (And.intro g2 g3)))
  have cA := Lib.hid (fun w => mword_ct a ha w)
  have cC := Lib.hid (fun w => mword_ct c hc w)
  have cK := Lib.hid (fun w (h : MEnv w) => mkind_ct (wordT a) w h.2.1)
  have HE := Lib.hid hE
  have k0 := (kind_range (wordT a)).1
  have s1 : (bs (wordT a)).size ≤ 1000000 := word_len ha
  have s2 : (bs (wordT c)).size ≤ 1000000 := word_len hc
  clear hrd hd0 hd1 hd2 hA1 hA2 g0 g1 g2 g3 ha hc hE
  by_cases hb : b.raw = [58]
  · have b1 : ((bs b.raw).toList == [58]) = true := by rw [bs_toList]; simpa using hb
    have b2 : ((bs b.raw).toList != [58]) = false := by rw [bs_toList]; simpa using hb
    by_cases hk : 4 ≤ kindP (wordT a) ∧ kindP (wordT a) ≤ 7
    · by_cases hc7 : c.k = 7 ∧ c.val = [112, 120]
      · obtain ⟨m, hm⟩ : ∃ m, c.raw.length = m + 2 := ⟨c.raw.length - 2, by have := hpx hc7.1 hc7.2; omega⟩
        have hnum := fun x => feat_num (a := a) (n := x) hb hk hc7
        have hnon := feat_nonum (a := a) hb hk hc7
        have hsz : (bs c.raw).size = m + 2 := hm
        have hml : (m : Int) ≤ 1000000 := by omega
        have q1 : IntKind.i64.wrap ((m : Int) + 2 - 2) = m := by rw [Int.add_sub_cancel]; exact IntWalk.i64_in _ (by omega)
        have hex : (bs c.raw).extract 0 m = bs (c.raw.take m) := take_ex _ _
        have htl : (c.raw.take m).length ≤ 1048576 := by rw [List.length_take]; omega
        have e22 : c.raw.length - 2 = m := by omega
        rw [e22] at hnum hnon
        obtain ⟨hc71, hc72⟩ := hc7
        obtain ⟨ck, cr, cv, cn⟩ := c
        simp only at hc71 hc72 hm hsz hex htl hnum hnon HG hml
        subst hc71 hc72
        have bp1 : ((bs [112, 120]).toList == [112, 120]) = true := by rw [bs_toList]; rfl
        have bp2 : ((bs [112, 120]).toList != [112, 120]) = false := by rw [bs_toList]; rfl
        have cT := trim_ct (cr.take m) htl
        rw [← hex] at cT
        replace cT := Lib.hid cT
        have hte := trim_digs (cr.take m)
        have hke : kindP (wordT a) ≤ 7 := hk.2
        have hkf : 4 ≤ kindP (wordT a) := hk.1
        generalize hTr : Lib.trimS (cr.take m) digsL = Tr at *
        cases hdg : digs (cr.take m)
        · have HRes := Lib.hid (show featP [a, b, ⟨7, cr, [112, 120], cn⟩] = ⟨12, 0⟩ from hnon (by unfold numF; rw [hdg]; rfl))
          have bT : (bs Tr).toList.isEmpty = false := by rw [bs_toList, hte, hdg]
          clear hnum hnon hex hte hdg hTr htl hm e22 hb hpx hcr hk
          go_enter Tryz.func45, Tryz.ntmps45
          go_wp2_with (first
            | (go_at_call 43; (with_reducible refine (cA.out _).mono ?_); rintro e W1 ⟨rfl, hb1⟩; have HK1 := Lib.hid ((FSt.beg w).on hb1); have cR1 := HK1.out.2.2.cell; have fR1 := HK1.out.2.1.frozen; have zR1 := HK1.out.2.1.lt; have zR2 := HK1.out.2.2.lt; have dR1 := HK1.out.2.1.cell; obtain ⟨g0, g1, g2, g3⟩ := tok_on (w := w) HK1.out.1 hbb HG.out.1 HG.out.2.1 HG.out.2.2.1 HG.out.2.2.2; clear hb1 e0 e1 e2 e3 d1)
            | (go_at_call 44; (with_reducible refine (cK.out _ (HE.out.on HK1.out.1)).mono ?_); rintro e W2 ⟨rfl, rfl⟩)
            | (go_at_call 73; (with_reducible refine (cT.out _).mono ?_); rintro e W3 ⟨rfl, hb3⟩; have HK3 := Lib.hid ((HK1.out.alloc _).on hb3); have cV3 := ((Blk.new (w := W1) (t := 81) (cs := #[.int .i64 7, .string (bs cr), .string (bs [112, 120]), .int .i64 cn]) rfl).below hb3 (by simp)).cell; have cR3 := HK3.out.2.2.cell; have fR3 := HK3.out.2.1.frozen; have dR3 := HK3.out.2.1.cell; clear hb3 g0 g1 g2 g3 cR1 fR1 dR1))
          have hfin := HK3.out.fin (12) (0)
          have hfc := hfin.1
          refine bodyPost_ret (v := .agg #[.int .i64 (12), .int .i64 (0)]) (by simp [results, Tryz.results45, go_sem, hfc]) rfl ⟨?_, hfin.2⟩
          rw [HRes.out]
        · have bT : (bs Tr).toList.isEmpty = true := by rw [bs_toList, hte, hdg]
          have hAt := atoi_two (cr.take m) htl
          rw [← hex] at hAt
          rcases hAt with ⟨v, hv, cI⟩ | ⟨hv, d, cI⟩
          · replace cI := Lib.hid cI
            by_cases hle : v ≤ 1000000
            · have HRes := Lib.hid (show featP [a, b, ⟨7, cr, [112, 120], cn⟩] = ⟨kindP (wordT a), v⟩ from hnum v (by unfold numF; rw [hdg, if_pos rfl, hv]; simp only; rw [if_pos hle]))
              have hgt : ¬ (1000000 : Int) < v := by omega
              clear hnum hnon hex hte hdg hTr htl hm e22 hb hpx hcr hv hle hk
              go_enter Tryz.func45, Tryz.ntmps45
              go_wp2_with (first
                | (go_at_call 43; (with_reducible refine (cA.out _).mono ?_); rintro e W1 ⟨rfl, hb1⟩; have HK1 := Lib.hid ((FSt.beg w).on hb1); have cR1 := HK1.out.2.2.cell; have fR1 := HK1.out.2.1.frozen; have zR1 := HK1.out.2.1.lt; have zR2 := HK1.out.2.2.lt; have dR1 := HK1.out.2.1.cell; obtain ⟨g0, g1, g2, g3⟩ := tok_on (w := w) HK1.out.1 hbb HG.out.1 HG.out.2.1 HG.out.2.2.1 HG.out.2.2.2; clear hb1 e0 e1 e2 e3 d1)
                | (go_at_call 44; (with_reducible refine (cK.out _ (HE.out.on HK1.out.1)).mono ?_); rintro e W2 ⟨rfl, rfl⟩)
                | (go_at_call 73; (with_reducible refine (cT.out _).mono ?_); rintro e W3 ⟨rfl, hb3⟩; have HK3 := Lib.hid ((HK1.out.alloc _).on hb3); have cV3 := ((Blk.new (w := W1) (t := 81) (cs := #[.int .i64 7, .string (bs cr), .string (bs [112, 120]), .int .i64 cn]) rfl).below hb3 (by simp)).cell; have cR3 := HK3.out.2.2.cell; have fR3 := HK3.out.2.1.frozen; have dR3 := HK3.out.2.1.cell; clear hb3 g0 g1 g2 g3 cR1 fR1 dR1)
                | (go_at_call 74; (with_reducible refine (cI.out _ (HE.out.on HK3.out.1)).mono ?_); rintro e W5 ⟨rfl, hb5⟩; have HK5 := Lib.hid (HK3.out.on hb5); have cR5 := HK5.out.2.2.cell; have fR5 := HK5.out.2.1.frozen; have dR5 := HK5.out.2.1.cell; clear hb5 cV3 cR3 fR3 dR3))
              have hfin := HK5.out.fin (kindP (wordT a)) (v)
              have hfc := hfin.1
              refine bodyPost_ret (v := .agg #[.int .i64 (kindP (wordT a)), .int .i64 (v)]) (by simp [results, Tryz.results45, go_sem, hfc]) rfl ⟨?_, hfin.2⟩
              rw [HRes.out]
            · have HRes := Lib.hid (show featP [a, b, ⟨7, cr, [112, 120], cn⟩] = ⟨12, 0⟩ from hnon (by unfold numF; rw [hdg, if_pos rfl, hv]; simp only; rw [if_neg hle]))
              have hgt : (1000000 : Int) < v := by omega
              clear hnum hnon hex hte hdg hTr htl hm e22 hb hpx hcr hv hle hk
              go_enter Tryz.func45, Tryz.ntmps45
              go_wp2_with (first
                | (go_at_call 43; (with_reducible refine (cA.out _).mono ?_); rintro e W1 ⟨rfl, hb1⟩; have HK1 := Lib.hid ((FSt.beg w).on hb1); have cR1 := HK1.out.2.2.cell; have fR1 := HK1.out.2.1.frozen; have zR1 := HK1.out.2.1.lt; have zR2 := HK1.out.2.2.lt; have dR1 := HK1.out.2.1.cell; obtain ⟨g0, g1, g2, g3⟩ := tok_on (w := w) HK1.out.1 hbb HG.out.1 HG.out.2.1 HG.out.2.2.1 HG.out.2.2.2; clear hb1 e0 e1 e2 e3 d1)
                | (go_at_call 44; (with_reducible refine (cK.out _ (HE.out.on HK1.out.1)).mono ?_); rintro e W2 ⟨rfl, rfl⟩)
                | (go_at_call 73; (with_reducible refine (cT.out _).mono ?_); rintro e W3 ⟨rfl, hb3⟩; have HK3 := Lib.hid ((HK1.out.alloc _).on hb3); have cV3 := ((Blk.new (w := W1) (t := 81) (cs := #[.int .i64 7, .string (bs cr), .string (bs [112, 120]), .int .i64 cn]) rfl).below hb3 (by simp)).cell; have cR3 := HK3.out.2.2.cell; have fR3 := HK3.out.2.1.frozen; have dR3 := HK3.out.2.1.cell; clear hb3 g0 g1 g2 g3 cR1 fR1 dR1)
                | (go_at_call 74; (with_reducible refine (cI.out _ (HE.out.on HK3.out.1)).mono ?_); rintro e W5 ⟨rfl, hb5⟩; have HK5 := Lib.hid (HK3.out.on hb5); have cR5 := HK5.out.2.2.cell; have fR5 := HK5.out.2.1.frozen; have dR5 := HK5.out.2.1.cell; clear hb5 cV3 cR3 fR3 dR3))
              have hfin := HK5.out.fin (12) (0)
              have hfc := hfin.1
              refine bodyPost_ret (v := .agg #[.int .i64 (12), .int .i64 (0)]) (by simp [results, Tryz.results45, go_sem, hfc]) rfl ⟨?_, hfin.2⟩
              rw [HRes.out]
          · replace cI := Lib.hid cI
            have HRes := Lib.hid (show featP [a, b, ⟨7, cr, [112, 120], cn⟩] = ⟨12, 0⟩ from hnon (by
              unfold numF
              rw [hdg, if_pos rfl]
              rcases h : Lib.atoiAll (cr.take m) with x | _ | _
              · exact absurd h (hv x)
              · rfl
              · rfl))
            clear hnum hnon hex hte hdg hTr htl hm e22 hb hpx hcr hv hk
            go_enter Tryz.func45, Tryz.ntmps45
            go_wp2_with (first
              | (go_at_call 43; (with_reducible refine (cA.out _).mono ?_); rintro e W1 ⟨rfl, hb1⟩; have HK1 := Lib.hid ((FSt.beg w).on hb1); have cR1 := HK1.out.2.2.cell; have fR1 := HK1.out.2.1.frozen; have zR1 := HK1.out.2.1.lt; have zR2 := HK1.out.2.2.lt; have dR1 := HK1.out.2.1.cell; obtain ⟨g0, g1, g2, g3⟩ := tok_on (w := w) HK1.out.1 hbb HG.out.1 HG.out.2.1 HG.out.2.2.1 HG.out.2.2.2; clear hb1 e0 e1 e2 e3 d1)
              | (go_at_call 44; (with_reducible refine (cK.out _ (HE.out.on HK1.out.1)).mono ?_); rintro e W2 ⟨rfl, rfl⟩)
              | (go_at_call 73; (with_reducible refine (cT.out _).mono ?_); rintro e W3 ⟨rfl, hb3⟩; have HK3 := Lib.hid ((HK1.out.alloc _).on hb3); have cV3 := ((Blk.new (w := W1) (t := 81) (cs := #[.int .i64 7, .string (bs cr), .string (bs [112, 120]), .int .i64 cn]) rfl).below hb3 (by simp)).cell; have cR3 := HK3.out.2.2.cell; have fR3 := HK3.out.2.1.frozen; have dR3 := HK3.out.2.1.cell; clear hb3 g0 g1 g2 g3 cR1 fR1 dR1)
              | (go_at_call 74; (with_reducible refine (cI.out _ (HE.out.on HK3.out.1)).mono ?_); rintro e W5 ⟨⟨N5, rfl⟩, hb5⟩; have HK5 := Lib.hid (HK3.out.on hb5); have cR5 := HK5.out.2.2.cell; have fR5 := HK5.out.2.1.frozen; have dR5 := HK5.out.2.1.cell; clear hb5 cV3 cR3 fR3 dR3))
            have hfin := HK5.out.fin (12) (0)
            have hfc := hfin.1
            refine bodyPost_ret (v := .agg #[.int .i64 (12), .int .i64 (0)]) (by simp [results, Tryz.results45, go_sem, hfc]) rfl ⟨?_, hfin.2⟩
            rw [HRes.out]
      · have HRes := Lib.hid (show featP [a, b, c] = ⟨12, 0⟩ from feat_nopx hb hk hc7)
        have hke : kindP (wordT a) ≤ 7 := hk.2
        have hkf : 4 ≤ kindP (wordT a) := hk.1
        have hor : (c.k == 7) = false ∨ ((c.k == 7) = true ∧ ((bs c.val).toList == [112, 120]) = false) := by
          by_cases h7 : c.k = 7
          · exact .inr ⟨by simpa using h7, by rw [bs_toList]; simpa using fun e => hc7 ⟨h7, e⟩⟩
          · exact .inl (by simpa using h7)
        obtain ⟨ck, cr, cv, cn⟩ := c
        simp only at hor HG
        have hor2 : ((ck == 7) = false ∧ (ck != 7) = true) ∨ ((ck == 7) = true ∧ (ck != 7) = false ∧ ((bs cv).toList == [112, 120]) = false ∧ ((bs cv).toList != [112, 120]) = true) := by
          rcases hor with h | ⟨h, h2⟩
          · exact .inl ⟨h, by rw [bne, h]; rfl⟩
          · exact .inr ⟨h, by rw [bne, h]; rfl, h2, by rw [bne, h2]; rfl⟩
        clear hb hpx hcr hk hc7 hor
        rcases hor2 with ⟨x1, x2⟩ | ⟨x1, x2, x3, x4⟩
        all_goals
          go_enter Tryz.func45, Tryz.ntmps45
          go_wp2_with (first
            | (go_at_call 43; (with_reducible refine (cA.out _).mono ?_); rintro e W1 ⟨rfl, hb1⟩; have HK1 := Lib.hid ((FSt.beg w).on hb1); have cR1 := HK1.out.2.2.cell; have fR1 := HK1.out.2.1.frozen; have zR1 := HK1.out.2.1.lt; have zR2 := HK1.out.2.2.lt; have dR1 := HK1.out.2.1.cell; obtain ⟨g0, g1, g2, g3⟩ := tok_on (w := w) HK1.out.1 hbb HG.out.1 HG.out.2.1 HG.out.2.2.1 HG.out.2.2.2; clear hb1 e0 e1 e2 e3 d1)
            | (go_at_call 44; (with_reducible refine (cK.out _ (HE.out.on HK1.out.1)).mono ?_); rintro e W2 ⟨rfl, rfl⟩))
          have hfin := HK1.out.fin 12 0
          have hfc := (((HK1.out.2.1.put 0 (.int .i64 12)).put 1 (.int .i64 0)).alloc (.cells #[.int .i64 ck, .string (bs cr), .string (bs cv), .int .i64 cn] 81)).cell
          refine bodyPost_ret (v := .agg #[.int .i64 (12), .int .i64 (0)]) (by simp [results, Tryz.results45, go_sem, hfc]) rfl ⟨?_, hfin.2.alloc (by have := HK1.out.1.size; simpa [World.setCell] using this) _⟩
          rw [HRes.out]
    · have hke : ¬ (4 ≤ kindP (wordT a)) ∨ (4 ≤ kindP (wordT a) ∧ ¬ kindP (wordT a) ≤ 7) := by omega
      have cJ0 := fun w (h : MEnv w) => mkind_ct (wordT a ++ [58] ++ wordT c) w h.2.1
      have hsum : bs (wordT a ++ [58] ++ wordT c) = bs (wordT a) ++ ⟨#[58]⟩ ++ bs (wordT c) := by rw [bs_app, bs_app]; rfl
      rw [hsum] at cJ0
      have cJ := Lib.hid cJ0
      have kr := kind_range (wordT a ++ [58] ++ wordT c)
      have ht2 := fun h8 => feat_two (c := c) hb hk h8
      have hn2 := fun h8 => feat_no2 (c := c) hb hk h8
      generalize kindP (wordT a ++ [58] ++ wordT c) = J at *
      clear cJ0 hsum hb hpx hcr hk
      by_cases h8 : 8 ≤ J
      · have HRes := Lib.hid (ht2 h8)
        clear ht2 hn2
        rcases hke with x1 | ⟨x1, x2⟩
        all_goals
          go_enter Tryz.func45, Tryz.ntmps45
          go_wp2_with (first
            | (go_at_call 43; (with_reducible refine (cA.out _).mono ?_); rintro e W1 ⟨rfl, hb1⟩; have HK1 := Lib.hid ((FSt.beg w).on hb1); have cR1 := HK1.out.2.2.cell; have fR1 := HK1.out.2.1.frozen; have zR1 := HK1.out.2.1.lt; have zR2 := HK1.out.2.2.lt; have dR1 := HK1.out.2.1.cell; obtain ⟨g0, g1, g2, g3⟩ := tok_on (w := w) HK1.out.1 hbb HG.out.1 HG.out.2.1 HG.out.2.2.1 HG.out.2.2.2; clear hb1 e0 e1 e2 e3 d1)
            | (go_at_call 44; (with_reducible refine (cK.out _ (HE.out.on HK1.out.1)).mono ?_); rintro e W2 ⟨rfl, rfl⟩)
            | (go_at_call 43; (with_reducible refine (cC.out _).mono ?_); rintro e W3 ⟨rfl, hb3⟩; have HK3 := Lib.hid (HK1.out.on hb3); have cR3 := HK3.out.2.2.cell; have fR3 := HK3.out.2.1.frozen; have dR3 := HK3.out.2.1.cell; clear hb3 g0 g1 g2 g3 cR1 fR1 dR1)
            | (go_at_call 44; (with_reducible refine (cJ.out _ (HE.out.on HK3.out.1)).mono ?_); rintro e W4 ⟨rfl, rfl⟩))
          have hfin := HK3.out.fin (J) (0)
          have hfc := hfin.1
          refine bodyPost_ret (v := .agg #[.int .i64 (J), .int .i64 (0)]) (by simp [results, Tryz.results45, go_sem, hfc]) rfl ⟨?_, hfin.2⟩
          rw [HRes.out]
      · have HRes := Lib.hid (show featP [a, b, c] = ⟨12, 0⟩ from hn2 h8)
        clear ht2 hn2
        rcases hke with x1 | ⟨x1, x2⟩
        all_goals
          go_enter Tryz.func45, Tryz.ntmps45
          go_wp2_with (first
            | (go_at_call 43; (with_reducible refine (cA.out _).mono ?_); rintro e W1 ⟨rfl, hb1⟩; have HK1 := Lib.hid ((FSt.beg w).on hb1); have cR1 := HK1.out.2.2.cell; have fR1 := HK1.out.2.1.frozen; have zR1 := HK1.out.2.1.lt; have zR2 := HK1.out.2.2.lt; have dR1 := HK1.out.2.1.cell; obtain ⟨g0, g1, g2, g3⟩ := tok_on (w := w) HK1.out.1 hbb HG.out.1 HG.out.2.1 HG.out.2.2.1 HG.out.2.2.2; clear hb1 e0 e1 e2 e3 d1)
            | (go_at_call 44; (with_reducible refine (cK.out _ (HE.out.on HK1.out.1)).mono ?_); rintro e W2 ⟨rfl, rfl⟩)
            | (go_at_call 43; (with_reducible refine (cC.out _).mono ?_); rintro e W3 ⟨rfl, hb3⟩; have HK3 := Lib.hid (HK1.out.on hb3); have cR3 := HK3.out.2.2.cell; have fR3 := HK3.out.2.1.frozen; have dR3 := HK3.out.2.1.cell; clear hb3 g0 g1 g2 g3 cR1 fR1 dR1)
            | (go_at_call 44; (with_reducible refine (cJ.out _ (HE.out.on HK3.out.1)).mono ?_); rintro e W4 ⟨rfl, rfl⟩))
          have hfin := HK3.out.fin (12) (0)
          have hfc := hfin.1
          refine bodyPost_ret (v := .agg #[.int .i64 (12), .int .i64 (0)]) (by simp [results, Tryz.results45, go_sem, hfc]) rfl ⟨?_, hfin.2⟩
          rw [HRes.out]
  · have b1 : ((bs b.raw).toList == [58]) = false := by rw [bs_toList]; simpa using hb
    have b2 : ((bs b.raw).toList != [58]) = true := by rw [bs_toList]; simpa using hb
    have HRes := Lib.hid (show featP [a, b, c] = ⟨12, 0⟩ from feat_nocolon hb)
    have HK := Lib.hid (FSt.beg w)
    clear hb hpx hcr
    go_enter Tryz.func45, Tryz.ntmps45
    go_wp2_with fail
    refine bodyPost_ret (v := .agg #[.int .i64 12, .int .i64 0]) (by simp [results, Tryz.results45, go_sem]) rfl ⟨?_, ?_⟩
    · rw [HRes.out]
    · exact ((Below.refl _ _).alloc (Nat.le_refl _) _).alloc (by simp) _

end Go.Proofs.YtmjbaimccbkmpaaGreatDoor.med

namespace Go.Proofs.YtmjbaimccbkmpaaGreatDoor.med
open Go.RowKit Go.Proofs.YtmjbaimccbkmpaaGreatDoor.base Go.Proofs.YtmjbaimccbkmpaaGreatDoor.tok Go.ChangeShapes Go.WideShapes Go.ChangeAt
set_option linter.unusedVariables false

theorem star_err : "*" ++ "errors.errorString" = "*errors.errorString" := by decide
theorem row_err (u : TypeId) (h : Tryz.prog.typeName? 3 u = some "*errors.errorString") : u = 183 :=
  typeName_ptr_named (nm := "errors.errorString") (by rw [star_err]; kernel_rfl) (by kernel_rfl) (by decide) u (by rw [star_err]; exact h)
set_option maxRecDepth 100000 in
theorem err_of {n : String} {text : List UInt8} {g : Nat} {r : List (String × DataW Unit)} {w : World} (hg : Tryz.prog.globalNamed n = some g) (ht : (Tryz.prog.globals[g]?).map (·.type) = some 106)
    (h : laidMet Tryz.prog ((n, .iface "*errors.errorString" (.ptr (.agg [.lit (.string text)]))) :: r) w) : ∃ tp p, w.cell? ⟨g, 0, none⟩ = some (.iface tp p) := by
  obtain ⟨a0, s0, hv0, -, -, -⟩ := laid_sentinel h hg ht Tryz.underlying106 row_err Tryz.underlying183 Tryz.underlying185 rfl rfl Tryz.underlying9 (by kernel_rfl) (by kernel_rfl)
  exact ⟨_, _, by have h0 := World.var?_cell hg hv0 0; simpa using h0⟩

/-- an array of strings that is laid -/
theorem strs_laid {P : Program} {w : World} {name : String} {g n : Nat} {t e : TypeId} {L : List Bs} (hn : P.globalNamed name = some g) (hy : (P.globals[g]?).map (·.type) = some t)
    (ht : P.underlying t = some (.array n e)) (he : P.underlying e = some .string) (hc : P.cellsOf e = 1) (hl : L.length = n) (h : Lib.VarReads P w name (.agg (L.map fun s => .lit (.string s)))) :
    ∀ (i : Nat) (s : Bs), L[i]? = some s → w.cell? ⟨g, i, none⟩ = some (.string (bs s)) := by
  obtain ⟨g', t', cs, fuel, p, hg, hty, hvar, hd⟩ := h
  obtain rfl := Option.some.inj (hn.symm.trans hg)
  obtain rfl := Option.some.inj (hy.symm.trans hty)
  obtain ⟨xs, m, _, hx, _, hxl, hcell⟩ := DataW.trod_array ht hd
  intro i s hi
  have hil := (List.getElem?_eq_some_iff.1 hi).1
  have h1 := hcell i (by omega)
  rw [hc, Nat.mul_one] at h1
  obtain ⟨b, hb⟩ : ∃ b, xs[i]? = some b := ⟨xs[i]'(by omega), List.getElem?_eq_getElem (by omega)⟩
  rw [hb] at h1
  obtain ⟨z, hz, hbz, _⟩ := DataW.trod_string he h1
  have hb1 : b.1 = .lit (.string s) := by
    have h2 := congrArg Prod.fst hx
    injection h2 with h2
    have := congrArg (·[i]?) h2
    simp [hb, hi] at this
    exact this.symm
  rw [hbz] at hb1
  simp only [DataW.lit.injEq, Lit.string.injEq] at hb1
  have h3 : cs[i]? = some (.string z) := by
    have := congrArg (·[0]?) hz
    simpa [List.getElem?_take, List.getElem?_drop] using this
  rw [World.var?_cell hg hvar i, h3, ← hb1]
  cases z
  simp [bs]
set_option maxRecDepth 100000 in
theorem words_laid {w : World} {l : List (String × DataW Unit)} (h : laidMet Tryz.prog l w) (hm : ("clerestory/media.words", Rows.laid_clerestory_media_words) ∈ l) : WordsAt w :=
  strs_laid (P := Tryz.prog) (g := 0) (n := 12) (t := 99) (e := 9) (by kernel_rfl) (by kernel_rfl) Tryz.underlying99 Tryz.underlying9 (by kernel_rfl) rfl (Lib.laidMet.reads h hm)

end Go.Proofs.YtmjbaimccbkmpaaGreatDoor.med
