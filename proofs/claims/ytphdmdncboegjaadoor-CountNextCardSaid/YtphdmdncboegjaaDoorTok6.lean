/- Tokens as cells; contracts: named, number. -/
import Derived.Test.YtphdmdncboegjaaDoorTok5
namespace Go.Proofs.YtphdmdncboegjaaDoor.tok
open Go.RowKit Go.Proofs.YtphdmdncboegjaaDoor.base
set_option linter.unusedVariables false

/-- a token -/
structure Tk where
  k : Int
  raw : Bs
  val : Bs
  num : Int
deriving DecidableEq

abbrev Tk.cells (t : Tk) : Array Value := #[.int .i64 t.k, .string (bs t.raw), .string (bs t.val), .int .i64 t.num]

/-- a name, behind so many bytes -/
def namedP (k : Int) (l : Bs) (a : Nat) : Tk := ⟨k, l.take (a + (nameP (l.drop a)).2), (nameP (l.drop a)).1, 0⟩

theorem nameP_le : ∀ (n : Nat) (l : Bs), l.length ≤ n → (nameP l).2 ≤ l.length
  | 0, l, h => by
    obtain rfl := List.eq_nil_of_length_eq_zero (Nat.le_zero.1 h)
    simp [nameP]
  | n + 1, [], h => by simp [nameP]
  | n + 1, [c], h => by
    rw [nameP]
    split <;> simp
  | n + 1, c :: d :: r, h => by
    rw [nameP]
    split
    · have := nameP_le n r (by simp at h; omega)
      simp; omega
    · split
      · have := nameP_le n (d :: r) (by simp at h ⊢; omega)
        simp at this ⊢; omega
      · simp

theorem nameP_val (l : Bs) : (nameP l).1.length ≤ l.length := by
  have h : ∀ (n : Nat) (l : Bs), l.length ≤ n → (nameP l).1.length ≤ l.length := by
    intro n
    induction n with
    | zero =>
      intro l h
      obtain rfl := List.eq_nil_of_length_eq_zero (Nat.le_zero.1 h)
      simp [nameP]
    | succ n ih =>
      intro l h
      match l, h with
      | [], _ => simp [nameP]
      | [c], _ =>
        rw [nameP]
        split <;> simp
      | c :: d :: r, h =>
        rw [nameP]
        split
        · have := ih r (by simp at h; omega)
          simp; omega
        · split
          · have := ih (d :: r) (by simp at h ⊢; omega)
            simp at this ⊢; omega
          · simp
  exact h _ l (Nat.le_refl _)

theorem Blk.four {w : World} {k : Nat} {t : TypeId} {a b c d : Value} (h : Blk w k t #[a, b, c, d]) (a' b' c' d' : Value) : Blk ((((w.setCell ⟨k, 0, none⟩ a').setCell ⟨k, 1, none⟩ b').setCell ⟨k, 2, none⟩ c').setCell ⟨k, 3, none⟩ d') k t #[a', b', c', d'] := (((h.put 0 a').put 1 b').put 2 c').put 3 d'

theorem hp_roomc {l : Bs} {k : Nat} {c : UInt8} (h : Lib.hasPrefix (l.drop k) [c] = true) : k + 1 ≤ l.length := by
  rcases Nat.lt_or_ge k l.length with h1 | h1
  · omega
  · rw [List.drop_eq_nil_of_le h1] at h
    simp [Lib.hasPrefix] at h

theorem take_ex (s : ByteArray) (n : Nat) : s.extract 0 n = bs (s.data.toList.take n) := by
  rw [Lib.extract_eq]
  simp [bs]

theorem ret_tok {k k' : Int} {r r' v v' : ByteArray} {n n' : Int} (h1 : k = k') (h2 : r = r') (h3 : v = v') (h4 : n = n') : Ending.returned (.agg #[.int .i64 k, .string r, .string v, .int .i64 n]) = Ending.returned (.agg #[.int .i64 k', .string r', .string v', .int .i64 n']) := by rw [h1, h2, h3, h4]

set_option maxRecDepth 100000 in
set_option maxHeartbeats 2000000 in
theorem named_ct (k : Int) (s : ByteArray) (a : Nat) (hs : s.size ≤ 140737488355328) (ha : a ≤ s.size) (w : World) : Calls Tryd.prog 60 #[.int .i64 k, .string s, .int .i64 (a : Int)] w fun e w' => e = .returned (.agg (namedP k s.data.toList a).cells) ∧ Below w.heap.size w w' := by
  have hsub : (s.extract a s.size).size ≤ 140737488355328 := by simp only [ByteArray.size_extract]; omega
  have c1 := fun w => name_ct (s.extract a s.size) hsub w
  rw [Lib.extract_to_end] at c1
  have hle := nameP_le _ (s.data.toList.drop a) (Nat.le_refl _)
  rw [List.length_drop, ← Lib.size_eq] at hle
  have hP : namedP k s.data.toList a = ⟨k, s.data.toList.take (a + (nameP (s.data.toList.drop a)).2), (nameP (s.data.toList.drop a)).1, 0⟩ := rfl
  generalize hNP : namedP k s.data.toList a = NP at *
  generalize nameP (s.data.toList.drop a) = V at *
  replace c1 := Lib.hid c1
  replace hP := Lib.hid hP
  clear hNP
  obtain ⟨V1, V2⟩ := V
  simp only at hle
  go_enter Tryd.func60, Tryd.ntmps60
  go_wp2_with ((go_at_call 96; (with_reducible refine (c1.out _).mono ?_); rintro e w1 ⟨rfl, hb1⟩; have rb := Lib.hid (Blk.below (show Blk (w.alloc (.cells #[.int .i64 0, .string ⟨#[]⟩, .string ⟨#[]⟩, .int .i64 0] 28)) w.heap.size 28 #[.int .i64 0, .string ⟨#[]⟩, .string ⟨#[]⟩, .int .i64 0] from Blk.new rfl) hb1 (by simp)); have rc := rb.out.cell; have rf := rb.out.frozen; have hB := Lib.hid (((Below.refl w.heap.size w).alloc (Nat.le_refl _) _).trans (hb1.mono (by simp))); clear hb1))
  have e := (Blk.four rb.out (.int .i64 k) (.string (s.extract 0 (a + V2))) (.string (bs V1)) (.int .i64 0)).cell
  refine bodyPost_ret (v := .agg #[.int .i64 k, .string (s.extract 0 (a + V2)), .string (bs V1), .int .i64 0]) (by simp [results, Tryd.results60, go_sem, e]) rfl ⟨?_, ?_⟩
  · rw [hP.out]
    exact ret_tok rfl (take_ex _ _) rfl rfl
  · exact (((hB.out.setCell (by simp) _).setCell (by simp) _).setCell (by simp) _).setCell (by simp) _

/-- a number's token, with its unit -/
def numTkP (l : Bs) (num : Int) (n : Nat) : Tk :=
  if Lib.hasPrefix (l.drop n) [37] then ⟨7, l.take (n + 1), [37], num⟩
  else if beginsP (l.drop n) then ⟨7, l.take (n + (nameP (l.drop n)).2), (nameP (l.drop n)).1.map lowB, num⟩
  else ⟨7, l.take n, [], num⟩

set_option maxRecDepth 100000 in
set_option maxHeartbeats 4000000 in
theorem number_tk (s : ByteArray) (num : Int) (n : Nat) (hs : s.size ≤ 140737488355328) (hn : n ≤ s.size) (w : World) : Calls Tryd.prog 63 #[.string s, .int .i64 num, .int .i64 (n : Int)] w fun e w' => e = .returned (.agg (numTkP s.data.toList num n).cells) ∧ Below w.heap.size w w' := by
  have hsub : (s.extract n s.size).size ≤ 140737488355328 := by simp only [ByteArray.size_extract]; omega
  have c1 := fun w => name_ct (s.extract n s.size) hsub w
  rw [Lib.extract_to_end] at c1
  have c2 := fun w => begins_ct (s.extract n s.size) (by unfold maxLen; omega) w
  rw [Lib.extract_to_end] at c2
  have c3 : ∀ w, Calls Tryd.prog 64 #[.string (s.extract n s.size), .string ⟨#[37]⟩] w fun e w' => e = .returned (.bool (Lib.hasPrefix (s.data.toList.drop n) [37])) ∧ w = w' := fun w => by
    have := Tryd.strings_HasPrefix (s.extract n s.size) (bs [37]) w
    rw [Lib.extract_to_end] at this
    exact this.mono fun e w' ⟨h1, h2⟩ => ⟨h1, h2.symm⟩
  have hle := nameP_le _ (s.data.toList.drop n) (Nat.le_refl _)
  rw [List.length_drop, ← Lib.size_eq] at hle
  have hnl := Nat.le_refl (nameP (s.data.toList.drop n)).1.length
  have hP : numTkP s.data.toList num n = if Lib.hasPrefix (s.data.toList.drop n) [37] then ⟨7, s.data.toList.take (n + 1), [37], num⟩
  else if beginsP (s.data.toList.drop n) then ⟨7, s.data.toList.take (n + (nameP (s.data.toList.drop n)).2), (nameP (s.data.toList.drop n)).1.map lowB, num⟩
  else ⟨7, s.data.toList.take n, [], num⟩ := rfl
  generalize hNP : numTkP s.data.toList num n = NP at *
  generalize hpp : Lib.hasPrefix (s.data.toList.drop n) [37] = pp at *
  generalize beginsP (s.data.toList.drop n) = bb at *
  have hnv := nameP_val (s.data.toList.drop n)
  generalize nameP (s.data.toList.drop n) = V at *
  obtain ⟨V1, V2⟩ := V
  simp only at hle hP hnv
  have hVs : (bs V1).size ≤ 140737488355328 := by
    rw [List.length_drop, ← Lib.size_eq] at hnv
    show V1.length ≤ _
    omega
  have c4 : ∀ w, Calls Tryd.prog 99 #[.string (bs V1)] w fun e w' => e = .returned (.string (bs (V1.map lowB))) ∧ Below w.heap.size w w' := fun w => lower_ct (bs V1) hVs w
  replace c4 := Lib.hid c4
  replace c1 := Lib.hid c1
  replace c2 := Lib.hid c2
  replace c3 := Lib.hid c3
  clear hNP hnl hnv
  cases pp
  · replace hpp := Lib.hid hpp
    cases bb
    · replace hP := Lib.hid hP
      go_enter Tryd.func63, Tryd.ntmps63
      go_wp2_with (first | (go_at_call 64; (with_reducible refine (c3.out _).mono ?_); rintro e w1 ⟨rfl, rfl⟩) | (go_at_call 61; (with_reducible refine (c2.out _).mono ?_); rintro e w1 ⟨rfl, rfl⟩))
      refine bodyPost_ret (v := .agg #[.int .i64 7, .string (s.extract 0 n), .string ⟨#[]⟩, .int .i64 num]) (by simp [results, Tryd.results63, go_sem]) rfl ⟨?_, ((Below.refl _ _).alloc (Nat.le_refl _) _).alloc (by simp) _⟩
      rw [hP.out]
      exact ret_tok rfl (take_ex _ _) rfl rfl
    · replace hP := Lib.hid hP
      go_enter Tryd.func63, Tryd.ntmps63
      go_wp2_with (first | (go_at_call 64; (with_reducible refine (c3.out _).mono ?_); rintro e w1 ⟨rfl, rfl⟩) | (go_at_call 61; (with_reducible refine (c2.out _).mono ?_); rintro e w1 ⟨rfl, rfl⟩) | (go_at_call 96; (with_reducible refine (c1.out _).mono ?_); rintro e W1 ⟨rfl, hb1⟩))
      have rb0 := Lib.hid (Blk.below (show Blk ((w.alloc (.cells #[.int .i64 0, .string ⟨#[]⟩, .string ⟨#[]⟩, .int .i64 0] 28)).alloc (.cells #[.int .i64 7, .string (s.extract 0 n), .string ⟨#[]⟩, .int .i64 num] 28)) w.heap.size 28 #[.int .i64 0, .string ⟨#[]⟩, .string ⟨#[]⟩, .int .i64 0] from (Blk.new rfl).alloc _) hb1 (by simp; omega))
      have rb1 := Lib.hid (Blk.below (show Blk ((w.alloc (.cells #[.int .i64 0, .string ⟨#[]⟩, .string ⟨#[]⟩, .int .i64 0] 28)).alloc (.cells #[.int .i64 7, .string (s.extract 0 n), .string ⟨#[]⟩, .int .i64 num] 28)) (w.heap.size + 1) 28 #[.int .i64 7, .string (s.extract 0 n), .string ⟨#[]⟩, .int .i64 num] from Blk.new (by simp)) hb1 (by simp))
      have hB1 := Lib.hid ((((Below.refl w.heap.size w).alloc (Nat.le_refl _) _).alloc (by simp) _).trans (hb1.mono (by simp; omega)))
      have hz1 := hb1.size
      simp at hz1
      clear hb1
      have hnk : n + V2 ≤ s.size := by omega
      have hnk1 : (n : Int) + (V2 : Int) ≤ (s.size : Int) := by omega
      have hnk2 : (0 : Int) ≤ (n : Int) + (V2 : Int) := by omega
      have hwr := IntWalk.i64_in ((n : Int) + (V2 : Int)) (by omega)
      have htn : ((n : Int) + (V2 : Int)).toNat = n + V2 := by omega
      go_region_held3 (fun w' => True) (trivial)
        ((go_at_call 99; (with_reducible refine (c4.out _).mono ?_); rintro e W2 ⟨rfl, hb2⟩; have rb2 := Lib.hid (Blk.below rb0.out.drew hb2 (by simp; omega)); have rb3 := Lib.hid (Blk.below rb1.out.drew hb2 (by simp; omega)); have hB2 := Lib.hid (hB1.out.drew.trans (hb2.mono (by simp; omega))); have rc := rb3.out.cell; have rf := rb3.out.frozen; clear hb2))
      all_goals
        have rc0 := rb2.out.cell
        have rf0 := rb2.out.frozen
        have z2 := rb3.out.lt
        go_wp2
        have e := Blk.cell (Blk.four (Blk.far (Blk.far rb2.out (p := ⟨w.heap.size + 1, 1, none⟩) (by simp) (.string (s.extract 0 (n + V2)))) (p := ⟨w.heap.size + 1, 2, none⟩) (by simp) (.string (bs (V1.map lowB)))) (.int .i64 7) (.string (s.extract 0 (n + V2))) (.string (bs (V1.map lowB))) (.int .i64 num))
        refine bodyPost_ret (v := .agg #[.int .i64 7, .string (s.extract 0 (n + V2)), .string (bs (V1.map lowB)), .int .i64 num]) (by simp [results, Tryd.results63, go_sem, e]) rfl ⟨?_, ?_⟩
        · rw [hP.out]
          exact ret_tok rfl (take_ex _ _) rfl rfl
        · exact (((((hB2.out.setCell (by simp) _).setCell (by simp) _).setCell (by simp) _).setCell (by simp) _).setCell (by simp) _).setCell (by simp) _
  · have hr := hp_roomc hpp
    rw [← Lib.size_eq] at hr
    replace hP := Lib.hid hP
    replace hpp := Lib.hid hpp
    go_enter Tryd.func63, Tryd.ntmps63
    go_wp2_with ((go_at_call 64; (with_reducible refine (c3.out _).mono ?_); rintro e w1 ⟨rfl, rfl⟩))
    refine bodyPost_ret (v := .agg #[.int .i64 7, .string (s.extract 0 (n + 1)), .string ⟨#[37]⟩, .int .i64 num]) (by simp [results, Tryd.results63, go_sem]) rfl ⟨?_, ((Below.refl _ _).alloc (Nat.le_refl _) _).alloc (by simp) _⟩
    rw [hP.out]
    exact ret_tok rfl (take_ex _ _) rfl rfl

end Go.Proofs.YtphdmdncboegjaaDoor.tok
