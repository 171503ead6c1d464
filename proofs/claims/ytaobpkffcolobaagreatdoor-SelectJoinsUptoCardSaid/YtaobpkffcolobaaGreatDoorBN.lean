/- Contracts and plain law, a bundle. -/
import Derived.Lib.AtoiTie
import Derived.Lib.AtoiAllCases
import Derived.Lib.Hide
import Derived.Test.YtaobpkffcolobaaGreatDoorBD
import Derived.Test.YtaobpkffcolobaaGreatDoorBC1
import Derived.Test.YtaobpkffcolobaaGreatDoorBK2
import Derived.Test.YtaobpkffcolobaaGreatDoorBL
import Derived.Test.YtaobpkffcolobaaGreatDoorBH
import Derived.Test.YtaobpkffcolobaaGreatDoorBG3
set_option linter.unusedVariables false
set_option maxRecDepth 100000
set_option maxHeartbeats 16000000
open Go.Lib (hid)
namespace Go.Proofs.YtaobpkffcolobaaGreatDoor
namespace sel
open Go.RowKit base tok rul quo
abbrev Nm (n : Bs) : Prop := n ≠ [] /\ beginsP n = true /\ ∀ c ∈ n, signI (nv c) = true
abbrev EndN (m : Bs) : Prop := m = [] ∨ ∃ c r, m = c :: r /\ signI (nv c) = false /\ ¬ nv c = 92 /\ ¬ nv c = 40
theorem sign_n92 {c : UInt8} (h : signI (nv c) = true) : ¬ nv c = 92 := fun e => by rw [sign_92 e] at h; cases h
theorem esc_head {c : UInt8} (r : Bs) (h : ¬ nv c = 92) : escP (c :: r) = false := by
 cases r with
 | nil => rfl
 | cons d r => simp [escP, h]
theorem name_end {m : Bs} (h : m = [] ∨ ∃ c r, m = c :: r /\ signI (nv c) = false /\ ¬ nv c = 92) : nameP m = ([], 0) := by
 rcases h with rfl | ⟨c, r, rfl, h1, h2⟩
 ·exact name_nil
 ·cases r with
  | nil => rw [name_cons1, if_neg (by rw [h1]; simp)]
  | cons d r => rw [name_cons2, if_neg (by rw [esc_head _ h2]; simp), if_neg (by rw [h1]; simp)]
theorem name_sig {c : UInt8} {r : Bs} (h : signI (nv c) = true) : nameP (c :: r) = (c :: (nameP r).1, (nameP r).2 + 1) := by
 cases r with
 | nil => rw [name_cons1, if_pos h, name_nil]
 | cons d r => rw [name_cons2, if_neg (by rw [esc_head _ (sign_n92 h)]; simp), if_pos h]
theorem name_run {m : Bs} (hm : m = [] ∨ ∃ c r, m = c :: r /\ signI (nv c) = false /\ ¬ nv c = 92) : ∀ n : Bs, (∀ c ∈ n, signI (nv c) = true) -> nameP (n ++ m) = (n, n.length)
 | [], _ => name_end hm
 | c :: n, h => by
  rw [List.cons_append, name_sig (h c (by simp)), name_run hm n (fun x hx => h x (by simp [hx]))]
  rfl
theorem name_whole : ∀ l : Bs, (nameP l).1 = l -> ∀ c ∈ l, signI (nv c) = true
 | [], _ => fun c hc => absurd hc List.not_mem_nil
 | [c], h => by
  rw [name_cons1] at h
  by_cases hs : signI (nv c) = true
  ·intro x hx
   obtain rfl : x = c := by simpa using hx
   exact hs
  ·rw [if_neg hs] at h
   cases h
 | c :: d :: r, h => by
  rw [name_cons2] at h
  by_cases he : escP (c :: d :: r) = true
  ·rw [if_pos he] at h
   simp only [List.cons.injEq] at h
   have := nameP_val r
   rw [h.2] at this
   simp at this
   omega
  ·rw [if_neg he] at h
   by_cases hs : signI (nv c) = true
   ·rw [if_pos hs] at h
    simp only [List.cons.injEq, true_and] at h
    intro x hx
    rcases List.mem_cons.1 hx with rfl | hx
    ·exact hs
    ·exact name_whole (d :: r) h x hx
   ·rw [if_neg hs] at h
    cases h
theorem sign_head {c : UInt8} (h : signI (nv c) = true) : blankB c = false /\ ¬ nv c = 47 /\ ¬ nv c = 39 /\ ¬ nv c = 34 /\ ¬ nv c = 35 /\ ¬ nv c = 64 /\ ¬ nv c = 43 /\ ¬ nv c = 46 /\ ¬ nv c = 41 := by
 have : ∀ i : Fin 256, signI (nv (UInt8.ofNat i.val)) = true -> blankB (UInt8.ofNat i.val) = false /\ ¬ nv (UInt8.ofNat i.val) = 47 /\ ¬ nv (UInt8.ofNat i.val) = 39 /\ ¬ nv (UInt8.ofNat i.val) = 34 /\ ¬ nv (UInt8.ofNat i.val) = 35 /\ ¬ nv (UInt8.ofNat i.val) = 64 /\ ¬ nv (UInt8.ofNat i.val) = 43 /\ ¬ nv (UInt8.ofNat i.val) = 46 /\ ¬ nv (UInt8.ofNat i.val) = 41 := by decide +kernel
 have h1 := this ⟨c.toNat, c.toNat_lt⟩
 simp only [UInt8.ofNat_toNat] at h1
 exact h1 h
theorem starts_dig {c : UInt8} (h : startsI (nv c) = true) : digI (nv c) = false /\ ¬ nv c = 45 := by
 have : ∀ i : Fin 256, startsI (nv (UInt8.ofNat i.val)) = true -> digI (nv (UInt8.ofNat i.val)) = false /\ ¬ nv (UInt8.ofNat i.val) = 45 := by decide +kernel
 have h1 := this ⟨c.toNat, c.toNat_lt⟩
 simp only [UInt8.ofNat_toNat] at h1
 exact h1 h
theorem nm_open {n : Bs} (h : Nm n) : ∃ c r, n = c :: r /\ signI (nv c) = true /\ (startsI (nv c) = true ∨ (nv c = 45 /\ ∃ d q, r = d :: q /\ (nv d = 45 ∨ startsI (nv d) = true))) := by
 obtain ⟨h0, hb, hs⟩ := h
 match n, h0, hb, hs with
 | [c], _, hb, hs => exact ⟨c, [], rfl, hs c (by simp), .inl hb⟩
 | c :: d :: r, _, hb, hs =>
  refine ⟨c, d :: r, rfl, hs c (by simp), ?_⟩
  simp only [beginsP] at hb
  by_cases h45 : nv c = 45
  ·rw [if_pos h45, esc_head r (sign_n92 (hs d (by simp)))] at hb
   refine .inr ⟨h45, d, r, rfl, ?_⟩
   simpa using hb
  ·rw [if_neg h45, esc_head _ (sign_n92 (hs c (by simp)))] at hb
   exact .inl (by simpa using hb)
theorem nm_num {n : Bs} (h : Nm n) (m : Bs) : (numberP (n ++ m)).2 = 0 := by
 obtain ⟨c, r, rfl, hs, hc⟩ := nm_open h
 obtain ⟨-, -, -, -, -, -, h43, h46, -⟩ := sign_head hs
 rcases hc with hc | ⟨h45, d, q, rfl, hd⟩
 ·obtain ⟨h1, h2⟩ := starts_dig hc
  rw [List.cons_append]
  exact number_no h43 h2 h46 h1
 ·have hsd := h.2.2 d (by simp)
  obtain ⟨-, -, -, -, -, -, -, d46, -⟩ := sign_head hsd
  have hdd : digI (nv d) = false := by
   rcases hd with e | e
   ·rw [e]; rfl
   ·exact (starts_dig e).1
  simp only [List.cons_append]
  unfold numberP
  have e1 : signAt (c :: d :: (q ++ m)) = 1 := by simp [signAt, h45]
  rw [e1, List.drop_succ_cons, List.drop_zero, digitsP_zero hdd, Nat.add_zero, List.drop_succ_cons, List.drop_zero]
  have e2 : behindP (d :: (q ++ m)) = 0 := by simp [behindP, d46]
  rw [e2]
  rfl
theorem nm_begins {n : Bs} (h : Nm n) (m : Bs) : beginsP (n ++ m) = true := by
 obtain ⟨c, r, rfl, hs, hc⟩ := nm_open h
 rcases hc with hc | ⟨h45, d, q, rfl, hd⟩
 ·obtain ⟨-, h2⟩ := starts_dig hc
  rw [List.cons_append]
  cases hrm : r ++ m with
  | nil => exact hc
  | cons x y => simp [beginsP, h2, hc]
 ·simp only [List.cons_append, beginsP]
  rw [if_pos h45]
  rcases hd with e | e <;> simp [e]
theorem nm_front {n : Bs} (h : Nm n) (m : Bs) : ¬ 0 < spaceP (n ++ m) /\ ¬ Lib.hasPrefix (n ++ m) [47, 42] = true /\ ¬ tok.quoteP (n ++ m) = true /\ ¬ hashP (n ++ m) = true /\ ¬ atP (n ++ m) = true := by
 obtain ⟨c, r, rfl, hs, -⟩ := nm_open h
 obtain ⟨hb, h47, h39, h34, h35, h64, -⟩ := sign_head hs
 rw [List.cons_append]
 refine ⟨?_, ?_, ?_, ?_, ?_⟩
 ·unfold spaceP
  rw [List.takeWhile_cons_of_neg (by simp [hb])]
  simp
 ·have : ¬ 47 = c := fun e => h47 (by rw [<- e]; rfl)
  simp [Lib.hasPrefix, List.isPrefixOf, this]
 ·simp [tok.quoteP, h39, h34]
 ·cases r ++ m <;> simp [hashP, h35]
 ·simp [atP, h64]
theorem first_name {n m : Bs} (h : Nm n) (hm : EndN m) : firstP (n ++ m) = ⟨1, n, n, 0⟩ := by
 obtain ⟨a1, a2, a3, a4, a5⟩ := nm_front h m
 rw [firstP, if_neg a1, if_neg a2, if_neg a3, if_neg a4, if_neg a5, if_neg (by rw [nm_num h m]; simp), if_pos (nm_begins h m)]
 have hn : nameP (n ++ m) = (n, n.length) := name_run (by rcases hm with rfl | ⟨c, r, rfl, h1, h2, -⟩; exact .inl rfl; exact .inr ⟨c, r, rfl, h1, h2⟩) n h.2.2
 have hd : namedP 1 (n ++ m) 0 = ⟨1, n, n, 0⟩ := by
  unfold namedP
  rw [List.drop_zero, hn]
  simp
 unfold wordP
 rw [hd]
 simp only [List.drop_left]
 rw [if_neg]
 rcases hm with rfl | ⟨c, r, rfl, -, -, h3⟩
 ·simp [Lib.hasPrefix, List.isPrefixOf]
 ·have : ¬ 40 = c := fun e => h3 (by rw [<- e]; rfl)
  simp [Lib.hasPrefix, List.isPrefixOf, this]
theorem cut_name {n m : Bs} (h : Nm n) (hm : EndN m) : cutP (n ++ m) = ⟨1, n, n, 0⟩ :: cutP m := by
 rw [cutP_cons (by simp [h.1]), first_name h hm]
 simp
theorem first_func {n : Bs} (h : Nm n) (m : Bs) : firstP (n ++ 40 :: m) = ⟨2, n ++ [40], n, 0⟩ := by
 obtain ⟨a1, a2, a3, a4, a5⟩ := nm_front h (40 :: m)
 rw [firstP, if_neg a1, if_neg a2, if_neg a3, if_neg a4, if_neg a5, if_neg (by rw [nm_num h]; simp), if_pos (nm_begins h _)]
 have hn : nameP (n ++ 40 :: m) = (n, n.length) := name_run (.inr ⟨40, m, rfl, by decide, by decide⟩) n h.2.2
 have hd : namedP 1 (n ++ 40 :: m) 0 = ⟨1, n, n, 0⟩ := by
  unfold namedP
  rw [List.drop_zero, hn]
  simp
 unfold wordP
 rw [hd]
 simp only [List.drop_left]
 rw [if_pos (by simp [Lib.hasPrefix, List.isPrefixOf])]
 congr 1
 rw [show n ++ 40 :: m = (n ++ [40]) ++ m by simp, show n.length + 1 = (n ++ [40]).length by simp, List.take_left]
theorem cut_func {n : Bs} (h : Nm n) (m : Bs) : cutP (n ++ 40 :: m) = ⟨2, n ++ [40], n, 0⟩ :: cutP m := by
 rw [cutP_cons (by simp), first_func h m]
 simp
theorem cut_hash {n m : Bs} (h : Nm n) (hm : EndN m) : cutP (35 :: (n ++ m)) = ⟨4, 35 :: n, n, 0⟩ :: cutP m := by
 obtain ⟨c, r, rfl, hs, -⟩ := nm_open h
 have hn : nameP (c :: r ++ m) = (c :: r, (c :: r).length) := name_run (by rcases hm with rfl | ⟨c, r, rfl, h1, h2, -⟩; exact .inl rfl; exact .inr ⟨c, r, rfl, h1, h2⟩) (c :: r) h.2.2
 have hf : firstP (35 :: (c :: r ++ m)) = ⟨4, 35 :: (c :: r), c :: r, 0⟩ := by
  have a1 : ¬ 0 < spaceP (35 :: (c :: r ++ m)) := by
   unfold spaceP
   rw [List.takeWhile_cons_of_neg (by decide)]
   simp
  have a2 : ¬ Lib.hasPrefix (35 :: (c :: r ++ m)) [47, 42] = true := by simp [Lib.hasPrefix, List.isPrefixOf]
  have a3 : ¬ tok.quoteP (35 :: (c :: r ++ m)) = true := by show ¬ decide (nv 35 = 39 ∨ nv 35 = 34) = true; decide
  have a4 : hashP (35 :: (c :: r ++ m)) = true := by simp [hashP, hs, show nv 35 = 35 from rfl]
  rw [firstP, if_neg a1, if_neg a2, if_neg a3, if_pos a4]
  unfold namedP
  rw [List.drop_succ_cons, List.drop_zero, hn]
  simp [Nat.add_comm 1]
 rw [cutP_cons (by simp), hf]
 simp
theorem cut_dot {c : UInt8} {r : Bs} (h : digI (nv c) = false) : cutP (46 :: c :: r) = ⟨12, [46], [], 0⟩ :: cutP (c :: r) := by
 have hf : firstP (46 :: c :: r) = ⟨12, [46], [], 0⟩ := by
  have a1 : ¬ 0 < spaceP (46 :: c :: r) := by
   unfold spaceP
   rw [List.takeWhile_cons_of_neg (by decide)]
   simp
  have a2 : ¬ Lib.hasPrefix (46 :: c :: r) [47, 42] = true := by simp [Lib.hasPrefix, List.isPrefixOf]
  have a3 : ¬ tok.quoteP (46 :: c :: r) = true := by show ¬ decide (nv 46 = 39 ∨ nv 46 = 34) = true; decide
  have a4 : ¬ hashP (46 :: c :: r) = true := by simp [hashP, show ¬ nv 46 = 35 by decide]
  have a5 : ¬ atP (46 :: c :: r) = true := by simp [atP, show ¬ nv 46 = 64 by decide]
  have a6 : ¬ 0 < (numberP (46 :: c :: r)).2 := by
   unfold numberP
   have e1 : signAt (46 :: c :: r) = 0 := by simp [signAt, show ¬ nv 46 = 43 by decide, show ¬ nv 46 = 45 by decide]
   rw [e1, List.drop_zero, digitsP_zero (by decide), Nat.add_zero, List.drop_zero]
   have e2 : behindP (46 :: c :: r) = 0 := by
    show (if nv 46 = 46 then digitsP (c :: r) else 0) = 0
    rw [if_pos (by decide), digitsP_zero h]
   rw [e2]
   simp [numAt]
  have a7 : ¬ beginsP (46 :: c :: r) = true := by simp [beginsP, show ¬ nv 46 = 45 by decide, show startsI (nv 46) = false by decide, escP, show ¬ nv 46 = 92 by decide]
  rw [firstP, if_neg a1, if_neg a2, if_neg a3, if_neg a4, if_neg a5, if_neg a6, if_neg a7]
  rfl
 rw [cutP_cons (by simp), hf]
 rfl
theorem cut_plus {c : UInt8} {r : Bs} (h : digI (nv c) = false) (h46 : nv c = 46 -> ∀ d q, r = d :: q -> digI (nv d) = false) : cutP (43 :: c :: r) = ⟨12, [43], [], 0⟩ :: cutP (c :: r) := by
 have hf : firstP (43 :: c :: r) = ⟨12, [43], [], 0⟩ := by
  have a1 : ¬ 0 < spaceP (43 :: c :: r) := by
   unfold spaceP
   rw [List.takeWhile_cons_of_neg (by decide)]
   simp
  have a2 : ¬ Lib.hasPrefix (43 :: c :: r) [47, 42] = true := by simp [Lib.hasPrefix, List.isPrefixOf]
  have a3 : ¬ tok.quoteP (43 :: c :: r) = true := by show ¬ decide (nv 43 = 39 ∨ nv 43 = 34) = true; decide
  have a4 : ¬ hashP (43 :: c :: r) = true := by simp [hashP, show ¬ nv 43 = 35 by decide]
  have a5 : ¬ atP (43 :: c :: r) = true := by simp [atP, show ¬ nv 43 = 64 by decide]
  have a6 : ¬ 0 < (numberP (43 :: c :: r)).2 := by
   unfold numberP
   have e1 : signAt (43 :: c :: r) = 1 := by simp [signAt, show nv 43 = 43 from rfl]
   rw [e1, List.drop_succ_cons, List.drop_zero, digitsP_zero h, Nat.add_zero, List.drop_succ_cons, List.drop_zero]
   have e2 : behindP (c :: r) = 0 := by
    show (if nv c = 46 then digitsP r else 0) = 0
    by_cases e : nv c = 46
    ·rw [if_pos e]
     cases r with
     | nil => rfl
     | cons d q => exact digitsP_zero (h46 e d q rfl)
    ·rw [if_neg e]
   rw [e2]
   simp [numAt]
  have a7 : ¬ beginsP (43 :: c :: r) = true := by simp [beginsP, show ¬ nv 43 = 45 by decide, show startsI (nv 43) = false by decide, escP, show ¬ nv 43 = 92 by decide]
  rw [firstP, if_neg a1, if_neg a2, if_neg a3, if_neg a4, if_neg a5, if_neg a6, if_neg a7]
  rfl
 rw [cutP_cons (by simp), hf]
 rfl
theorem first_k1 {l : Bs} (hk : (firstP l).k = 1) : beginsP l = true /\ firstP l = namedP 1 l 0 := by
 rw [firstP] at hk ⊢
 by_cases h1 : 0 < spaceP l
 ·rw [if_pos h1] at hk; exact absurd hk (by simp)
 rw [if_neg h1] at hk ⊢
 by_cases h2 : Lib.hasPrefix l [47, 42] = true
 ·rw [if_pos h2] at hk; exact absurd hk (by simp [noteP])
 rw [if_neg h2] at hk ⊢
 by_cases h3 : tok.quoteP l = true
 ·rw [if_pos h3] at hk
  cases l with
  | nil => cases h3
  | cons q r =>
   simp only [textP] at hk
   rcases textR_kind q _ r (Nat.le_refl _) with e | e <;> rw [e] at hk <;> exact absurd hk (by decide)
 rw [if_neg h3] at hk ⊢
 by_cases h4 : hashP l = true
 ·rw [if_pos h4] at hk; exact absurd hk (by simp [namedP])
 rw [if_neg h4] at hk ⊢
 by_cases h5 : atP l = true
 ·rw [if_pos h5] at hk; exact absurd hk (by simp [namedP])
 rw [if_neg h5] at hk ⊢
 by_cases h6 : 0 < (numberP l).2
 ·rw [if_pos h6] at hk
  unfold numTkP at hk
  split at hk
  ·exact absurd hk (by simp)
  ·split at hk <;> exact absurd hk (by simp)
 rw [if_neg h6] at hk ⊢
 by_cases h7 : beginsP l = true
 ·rw [if_pos h7] at hk ⊢
  refine ⟨h7, ?_⟩
  unfold wordP at hk ⊢
  split at hk
  ·exact absurd hk (by simp)
  ·rename_i h; rw [if_neg h]
 ·rw [if_neg h7] at hk
  exfalso
  revert hk
  unfold oneK
  cases l with
  | nil => simp
  | cons c r =>
   simp only
   split
   ·decide
   ·split
    ·decide
    ·split <;> decide
theorem nm_of {n : Bs} (h : nameB n = true) : Nm n := by
 rw [nameB_eq] at h
 have h0 : n ≠ [] := fun e => by rw [e, cutP_nil] at h; cases h
 rw [cutP_cons h0] at h
 cases hr : cutP (n.drop (firstP n).raw.length) with
 | cons t L => rw [hr] at h; cases h
 | nil =>
  rw [hr] at h
  obtain ⟨hk, hraw, hval⟩ := of_decide_eq_true h
  obtain ⟨hb, hf⟩ := first_k1 hk
  rw [hf] at hval
  simp only [namedP, List.drop_zero] at hval
  exact ⟨h0, hb, name_whole n hval⟩
theorem nm_is {n : Bs} (h : Nm n) : nameB n = true := by
 have hc := cut_name h (m := []) (.inl rfl)
 rw [List.append_nil, cutP_nil] at hc
 rw [nameB_eq, hc]
 simp [selfB]
theorem text_run (m : Bs) : ∀ v : Bs, textR 34 (quo.quoteP v ++ 34 :: m) = (5, (quo.quoteP v).length + 1, v)
 | [] => by
  show textR 34 (34 :: m) = _
  cases m with
  | nil => rw [textR_one]; rfl
  | cons d r => rw [textR_two]; rfl
 | c :: v => by
  have ih := text_run m v
  rw [quote_cons, List.append_assoc]
  unfold qC
  by_cases hq : qB c = true
  ·rw [if_pos hq]
   show textR 34 (92 :: c :: (quo.quoteP v ++ 34 :: m)) = _
   rw [textR_two, ih, if_neg (by decide), if_neg (by decide), if_pos (by decide)]
   rfl
  ·rw [if_neg hq]
   have hn : ¬ nv c = 10 /\ ¬ nv c = 34 /\ ¬ nv c = 92 := by
    have : ∀ i : Fin 256, ¬ qB (UInt8.ofNat i.val) = true -> ¬ nv (UInt8.ofNat i.val) = 10 /\ ¬ nv (UInt8.ofNat i.val) = 34 /\ ¬ nv (UInt8.ofNat i.val) = 92 := by decide +kernel
    have h1 := this ⟨c.toNat, c.toNat_lt⟩
    simp only [UInt8.ofNat_toNat] at h1
    exact h1 hq
   have hne : quo.quoteP v ++ 34 :: m ≠ [] := by simp
   generalize hX : quo.quoteP v ++ 34 :: m = X at *
   cases X with
   | nil => exact absurd rfl hne
   | cons d r =>
    show textR 34 (c :: d :: r) = _
    rw [textR_two, if_neg (by exact hn.2.1), if_neg hn.1, if_neg hn.2.2, ih]
    simp
theorem cut_quote (v m : Bs) : cutP (34 :: (quo.quoteP v ++ 34 :: m)) = ⟨5, 34 :: (quo.quoteP v ++ [34]), v, 0⟩ :: cutP m := by
 have hf : firstP (34 :: (quo.quoteP v ++ 34 :: m)) = ⟨5, 34 :: (quo.quoteP v ++ [34]), v, 0⟩ := by
  have a1 : ¬ 0 < spaceP (34 :: (quo.quoteP v ++ 34 :: m)) := by
   unfold spaceP
   rw [List.takeWhile_cons_of_neg (by decide)]
   simp
  have a2 : ¬ Lib.hasPrefix (34 :: (quo.quoteP v ++ 34 :: m)) [47, 42] = true := by simp [Lib.hasPrefix, List.isPrefixOf]
  have a3 : tok.quoteP (34 :: (quo.quoteP v ++ 34 :: m)) = true := by show decide (nv 34 = 39 ∨ nv 34 = 34) = true; decide
  rw [firstP, if_neg a1, if_neg a2, if_pos a3]
  simp only [textP]
  rw [text_run]
  simp only [if_true]
  congr 1
  have e : 34 :: (quo.quoteP v ++ 34 :: m) = (34 :: (quo.quoteP v ++ [34])) ++ m := by simp
  have e2 : 1 + ((quo.quoteP v).length + 1) = (34 :: (quo.quoteP v ++ [34])).length := by simp; omega
  rw [e, e2, List.take_left]
 rw [cutP_cons (by simp), hf]
 congr 1
 have e : 34 :: (quo.quoteP v ++ 34 :: m) = (34 :: (quo.quoteP v ++ [34])) ++ m := by simp
 rw [e]
 simp
end sel
namespace sel
open Go.RowKit base tok rul quo
theorem dec_snoc {c : UInt8} {d : Nat} (hd : Lib.digitVal c = some d) : ∀ (l : Bs) (acc m : Nat), Lib.decFrom acc l = some m -> Lib.decFrom acc (l ++ [c]) = some (m * 10 + d)
 | [], acc, m, h => by
  simp only [Lib.decFrom, Option.some.injEq] at h
  subst h
  simp [Lib.decFrom, hd]
 | b :: l, acc, m, h => by
  simp only [Lib.decFrom, List.cons_append] at h ⊢
  cases hb : Lib.digitVal b with
  | none => rw [hb] at h; simp at h
  | some e =>
   rw [hb] at h
   exact dec_snoc hd l _ _ h
theorem dig_val' (d : Nat) (h : d < 10) : Lib.digitVal (UInt8.ofNat (48 + d)) = some d := by
 have : ∀ d : Fin 10, Lib.digitVal (UInt8.ofNat (48 + d.val)) = some d.val := by decide
 exact this ⟨d, h⟩
theorem dec_back : ∀ u : Nat, Lib.decFrom 0 (Lib.decDigits u) = some u := by
 intro u
 induction u using Nat.strongRecOn with
 | ind u ih =>
  rw [Lib.decDigits]
  by_cases h : u < 10
  ·rw [dif_pos h]
   simp only [Lib.decFrom, dig_val' u h, Nat.zero_mul, Nat.zero_add]
  ·rw [dif_neg h]
   have := dec_snoc (dig_val' (u % 10) (by omega)) _ _ _ (ih (u / 10) (by omega))
   rw [this]
   congr 1
   omega
theorem dec_head : ∀ u : Nat, ∃ c r, Lib.decDigits u = c :: r /\ 48 <= c.toNat /\ c.toNat <= 57 := by
 intro u
 induction u using Nat.strongRecOn with
 | ind u ih =>
  rw [Lib.decDigits]
  by_cases h : u < 10
  ·rw [dif_pos h]
   refine ⟨_, [], rfl, ?_, ?_⟩ <;> rw [UInt8.toNat_ofNat'] <;> omega
  ·rw [dif_neg h]
   obtain ⟨c, r, e, h1, h2⟩ := ih (u / 10) (by omega)
   exact ⟨c, r ++ [_], by rw [e]; rfl, h1, h2⟩
theorem decNat_back (u : Nat) : Lib.decNat (Lib.decDigits u) = some u := by
 obtain ⟨c, r, e, _, _⟩ := dec_head u
 unfold Lib.decNat
 rw [if_neg (by rw [e]; simp), dec_back]
theorem atoi_itoa (n : Int) : Lib.atoi (Lib.itoa n) = some n := by
 unfold Lib.itoa
 by_cases h : n < 0
 ·rw [if_pos h]
  simp only [Lib.atoi]
  rw [if_pos (by rfl), decNat_back]
  simp only [Option.map_some, Option.some.injEq]
  omega
 ·rw [if_neg h]
  obtain ⟨c, r, e, h1, h2⟩ := dec_head n.toNat
  have hd := decNat_back n.toNat
  rw [e] at hd ⊢
  simp only [Lib.atoi]
  have n1 : (c == 45) = false := by rw [beq_eq_false_iff_ne]; intro h; subst h; exact absurd h1 (by decide)
  have n2 : (c == 43) = false := by rw [beq_eq_false_iff_ne]; intro h; subst h; exact absurd h1 (by decide)
  rw [n1, n2]
  simp only [Bool.false_eq_true, if_false, hd, Option.map_some, Option.some.injEq]
  omega
theorem dec_short (u : Nat) (h : u <= 1000000) : (Lib.decDigits u).length <= 7 := by
 have key : ∀ (k u : Nat), u < 10 ^ (k + 1) -> (Lib.decDigits u).length <= k + 1 := by
  intro k
  induction k with
  | zero => intro u hu; rw [Lib.decDigits, dif_pos (by omega)]; simp
  | succ k ih =>
   intro u hu
   rw [Lib.decDigits]
   by_cases h : u < 10
   ·rw [dif_pos h]; simp
   ·rw [dif_neg h]
    have := ih (u / 10) (by rw [Nat.pow_succ] at hu; omega)
    simp only [List.length_append, List.length_singleton]
    omega
 exact key 6 u (by omega)
theorem itoa_low {n : Int} (h0 : -1000 <= n) (h1 : n <= 1000) : (Lib.itoa n).length <= 8 := by
 unfold Lib.itoa
 split
 ·have := dec_short n.natAbs (by omega)
  simp only [List.length_cons]
  omega
 ·have := dec_short n.toNat (by omega)
  omega
theorem whole_itoa {n : Int} (h0 : -1000 <= n) (h1 : n <= 1000) : wholeI (Lib.itoa n) = some n := by
 unfold wholeI
 rw [Lib.atoiAll_short _ (by have := itoa_low h0 h1; omega), atoi_itoa]
 rfl
theorem whole_plus {n : Int} (h0 : 0 <= n) (h1 : n <= 1000) : wholeI (43 :: Lib.itoa n) = some n := by
 have hd : Lib.itoa n = Lib.decDigits n.toNat := by unfold Lib.itoa; rw [if_neg (by omega)]
 have hs := dec_short n.toNat (by omega)
 unfold wholeI
 rw [hd, Lib.atoiAll_short _ (by simp only [List.length_cons]; omega)]
 simp only [Lib.atoi]
 rw [decNat_back]
 show some ((n.toNat : Nat) : Int) = some n
 congr 1
 omega
theorem itoa_sign (n : Int) : ∀ c ∈ Lib.itoa n, digI (nv c) = true ∨ c = 45 := by
 intro c hc
 unfold Lib.itoa at hc
 split at hc
 ·rcases List.mem_cons.1 hc with rfl | hc
  ·exact .inr rfl
  ·exact .inl (dim.dec_digs _ c hc)
 ·exact .inl (dim.dec_digs _ c hc)
theorem itoa_open (n : Int) : ∃ c r, Lib.itoa n = c :: r /\ (digI (nv c) = true ∨ (c = 45 /\ n < 0 /\ r ≠ [])) /\ (0 <= n -> digI (nv c) = true) := by
 unfold Lib.itoa
 split
 ·obtain ⟨d, q, e, -⟩ := dec_head n.natAbs
  exact ⟨45, _, rfl, .inr ⟨rfl, by assumption, by rw [e]; simp⟩, fun h => by omega⟩
 ·obtain ⟨c, r, e, h1, h2⟩ := dec_head n.toNat
  have : digI (nv c) = true := by simp only [digI, nv, decide_eq_true_eq]; omega
  exact ⟨c, r, e, .inl this, fun _ => this⟩
def nthC (c : UInt8) : Bool := digI (nv c) || c == 45 || c == 43 || c == 110
theorem nthC_facts {c : UInt8} (h : nthC c = true) : blankB c = false /\ ¬ nv c = 47 /\ ¬ nv c = 39 /\ ¬ nv c = 34 /\ ¬ nv c = 92 /\ c ≠ 41 /\ lowB c = c := by
 have : ∀ i : Fin 256, nthC (UInt8.ofNat i.val) = true -> blankB (UInt8.ofNat i.val) = false /\ ¬ nv (UInt8.ofNat i.val) = 47 /\ ¬ nv (UInt8.ofNat i.val) = 39 /\ ¬ nv (UInt8.ofNat i.val) = 34 /\ ¬ nv (UInt8.ofNat i.val) = 92 /\ UInt8.ofNat i.val ≠ 41 /\ lowB (UInt8.ofNat i.val) = UInt8.ofNat i.val := by decide +kernel
 have h1 := this ⟨c.toNat, c.toNat_lt⟩
 simp only [UInt8.ofNat_toNat] at h1
 exact h1 h
theorem itoa_nth (n : Int) : ∀ c ∈ Lib.itoa n, nthC c = true /\ c ≠ 110 := by
 intro c hc
 rcases itoa_sign n c hc with h | rfl
 ·refine ⟨by simp [nthC, h], fun e => ?_⟩
  subst e
  exact absurd h (by decide)
 ·exact ⟨by decide, by decide⟩
theorem nthTx_c (a b : Int) : ∀ c ∈ nthTx a b, nthC c = true := by
 intro c hc
 unfold nthTx at hc
 split at hc
 ·simp only [List.mem_append, List.mem_cons, List.not_mem_nil, or_false] at hc
  rcases hc with (hc | rfl) | hc
  ·exact (itoa_nth a c hc).1
  ·decide
  ·exact (itoa_nth b c hc).1
 ·simp only [List.mem_append, List.mem_cons, List.not_mem_nil, or_false] at hc
  rcases hc with (hc | rfl | rfl) | hc
  ·exact (itoa_nth a c hc).1
  ·decide
  ·decide
  ·exact (itoa_nth b c hc).1
theorem nthTx_form (a b : Int) : nthTx a b = Lib.itoa a ++ 110 :: (if b < 0 then Lib.itoa b else 43 :: Lib.itoa b) := by
 unfold nthTx
 split <;> simp
theorem nth_kind {c : UInt8} {r : Bs} (hb : blankB c = false) (h47 : ¬ nv c = 47) (h39 : ¬ nv c = 39) (h34 : ¬ nv c = 34) (h92 : ¬ nv c = 92) : ¬ (firstP (c :: r)).k = 6 /\ ¬ (firstP (c :: r)).k = 9 /\ ¬ (firstP (c :: r)).k = 8 := by
 have h1 : ¬ 0 < spaceP (c :: r) := by
  unfold spaceP
  rw [List.takeWhile_cons_of_neg (by simp [hb])]
  simp
 have h2 : ¬ Lib.hasPrefix (c :: r) [47, 42] = true := by
  have : ¬ 47 = c := fun e => h47 (by rw [<- e]; rfl)
  simp [Lib.hasPrefix, List.isPrefixOf, this]
 have h3 : ¬ tok.quoteP (c :: r) = true := by simp [tok.quoteP, h39, h34]
 rw [firstP, if_neg h1, if_neg h2, if_neg h3]
 by_cases h4 : hashP (c :: r) = true
 ·rw [if_pos h4]; simp [namedP]
 rw [if_neg h4]
 by_cases h5 : atP (c :: r) = true
 ·rw [if_pos h5]; simp [namedP]
 rw [if_neg h5]
 by_cases h6 : 0 < (numberP (c :: r)).2
 ·rw [if_pos h6]
  unfold numTkP
  split
  ·simp
  ·split <;> simp
 rw [if_neg h6]
 by_cases h7 : beginsP (c :: r) = true
 ·rw [if_pos h7]
  unfold wordP
  split
  ·simp
  ·simp [namedP]
 ·rw [if_neg h7]
  simp only [oneK, h92, if_false]
  split
  ·simp
  ·split <;> simp
theorem nth_toks {l : Bs} (h : ∀ c ∈ l, nthC c = true) : ∀ t ∈ cutP l, (¬ t.k = 6 /\ ¬ t.k = 9 /\ ¬ t.k = 8) /\ t.raw ≠ [41] := by
 intro t ht
 have hc := cut_alone _ l (Nat.le_refl _) t ht
 have hne := (cut_raw _ l (Nat.le_refl _)).2 t ht
 have hin : ∀ c ∈ t.raw, c ∈ l := fun c hc => by
  rw [<- cut_text l, textOf]
  exact List.mem_flatMap.2 ⟨t, ht, hc⟩
 cases hr : t.raw with
 | nil => exact absurd hr hne
 | cons c r =>
  rw [hr] at hc hin
  rw [cutP_cons (by simp)] at hc
  simp only [List.cons.injEq] at hc
  obtain ⟨a1, a2, a3, a4, a5, a6, -⟩ := nthC_facts (h c (hin c (by simp)))
  refine ⟨?_, fun e => ?_⟩
  ·rw [<- hc.1]
   exact nth_kind a1 a2 a3 a4 a5
  ·simp only [List.cons.injEq] at e
   exact a6 e.1
abbrev tkClose : Tk := ⟨11, [41], [], 0⟩
theorem solo_close : tc.Solo 41 := by decide
theorem cut_close (m : Bs) : cutP (41 :: m) = tkClose :: cutP m := tc.cut_solo m solo_close
theorem nthTx_ne (a b : Int) : nthTx a b ≠ [] := by rw [nthTx_form]; simp
theorem nth_cut (a b : Int) (m : Bs) : cutP (nthTx a b ++ 41 :: m) = cutP (nthTx a b) ++ tkClose :: cutP m := by
 rw [tc.apart (nthTx_ne a b) (fun t ht => (nth_toks (nthTx_c a b) t (List.mem_of_getLast? ht)).1) (tc.Stops.cons (by unfold st.Stop; decide)), cut_close]
theorem count_run (L : List Tk) : ∀ (K : List Tk) (acc : Bs), (∀ t ∈ K, t.raw ≠ [41]) -> countG acc (K ++ tkClose :: L) = some (acc ++ textOf K, L)
 | [], acc, _ => by
  rw [List.nil_append, countG, if_pos rfl]
  simp [textOf]
 | t :: K, acc, h => by
  rw [List.cons_append, countG, if_neg (h t (by simp)), count_run L K _ (fun x hx => h x (by simp [hx]))]
  simp [textOf]
theorem count_nth (a b : Int) (L : List Tk) : countG [] (cutP (nthTx a b) ++ tkClose :: L) = some (nthTx a b, L) := by
 rw [count_run L _ [] (fun t ht => (nth_toks (nthTx_c a b) t ht).2), cut_text, List.nil_append]
theorem index_n (y : Bs) : ∀ x : Bs, (∀ c ∈ x, c ≠ 110) -> Lib.indexByte (x ++ 110 :: y) 110 = (x.length : Int)
 | [], _ => rfl
 | c :: x, h => by
  rw [List.cons_append, Lib.indexByte, index_n y x (fun d hd => h d (by simp [hd]))]
  have h1 : (c == 110) = false := by rw [beq_eq_false_iff_ne]; exact h c (by simp)
  have h2 : ((x.length : Int) == -1) = false := bq (by omega)
  rw [h1, h2]
  simp
theorem cut_n (x y : Bs) (h : ∀ c ∈ x, c ≠ 110) : Lib.cut (x ++ 110 :: y) [110] = (x, y, true) := by
 have hi : Lib.index (x ++ 110 :: y) [110] = (x.length : Int) := by rw [Lib.index_one, index_n y x h]
 unfold Lib.cut
 rw [hi, if_pos (by omega)]
 simp
theorem low_same : ∀ l : Bs, (∀ c ∈ l, nthC c = true) -> lowP l = l
 | [], _ => rfl
 | c :: l, h => by
  show lowB c :: lowP l = c :: l
  rw [(nthC_facts (h c (by simp))).2.2.2.2.2.2, low_same l (fun d hd => h d (by simp [hd]))]
theorem nth_read {a b : Int} (ha0 : -1000 <= a) (ha1 : a <= 1000) (hb0 : -1000 <= b) (hb1 : b <= 1000) : nthI (nthTx a b) = some (a, b) := by
 obtain ⟨c, r, e, hc, -⟩ := itoa_open a
 have hx : ∀ x y : UInt8, x = c -> (x = 111 ∨ x = 101) -> False := fun x y e1 e2 => by
  rcases hc with h | ⟨rfl, -⟩
  ·rcases e2 with rfl | rfl <;> (rw [<- e1] at h; exact absurd h (by decide))
  ·rcases e2 with rfl | rfl <;> exact absurd e1 (by decide)
 unfold nthI
 rw [low_same _ (nthTx_c a b)]
 have n1 : nthTx a b ≠ oddT := fun h => by
  rw [nthTx_form, e] at h
  simp only [oddT, List.cons_append, List.cons.injEq] at h
  exact hx 111 0 h.1.symm (.inl rfl)
 have n2 : nthTx a b ≠ evenT := fun h => by
  rw [nthTx_form, e] at h
  simp only [evenT, List.cons_append, List.cons.injEq] at h
  exact hx 101 0 h.1.symm (.inr rfl)
 rw [if_neg n1, if_neg n2, nthTx_form, cut_n _ _ (fun d hd => (itoa_nth a d hd).2)]
 have hh : headI (Lib.itoa a) = some a := by
  unfold headI
  rw [if_neg (by rw [e]; simp), if_neg, whole_itoa ha0 ha1]
  intro h
  rw [e] at h
  simp only [List.cons.injEq] at h
  rcases hc with hc | ⟨-, -, hr⟩
  ·rw [h.1] at hc; exact absurd hc (by decide)
  ·exact hr h.2
 have ht : tailI (if b < 0 then Lib.itoa b else 43 :: Lib.itoa b) = some b := by
  by_cases hb : b < 0
  ·rw [if_pos hb]
   have hw := whole_itoa hb0 hb1
   have e2 : Lib.itoa b = 45 :: Lib.decDigits b.natAbs := by unfold Lib.itoa; rw [if_pos hb]
   rw [e2] at hw ⊢
   simp only [tailI]
   rw [if_pos (.inr trivial), hw]
  ·rw [if_neg hb]
   simp only [tailI]
   rw [if_pos (.inl trivial), whole_plus (by omega) hb1]
 simp only [if_true, hh, ht, Option.bind_some, Option.map_some]
end sel
namespace sel
open Go.RowKit base tok rul quo
abbrev tkG (c : UInt8) : Tk := ⟨12, [c], [], 0⟩
abbrev HeadX (X : Bs) : Prop := ∃ c r, X = c :: r /\ blankB c = false /\ digI (nv c) = false /\ (nv c = 46 -> ∃ d q, r = d :: q /\ digI (nv d) = false)
abbrev HeadT (u : Tk) : Prop := silP u = false /\ u.raw ≠ [44] /\ u.raw ≠ [41] /\ joinP u = false
abbrev EndTk (u : Tk) : Prop := u.k ≠ 1 /\ u.k ≠ 4 /\ u.raw ≠ [42] /\ u.raw ≠ [46] /\ u.raw ≠ [91] /\ u.raw ≠ [58]
abbrev StopL (L : List Tk) : Prop := L = [] ∨ ∃ u M, L = u :: M /\ EndTk u
def ToldT (i : Nat) (t : Ts) : Prop := HeadX (tsTx t) /\ (0 < i -> ∀ m, EndN (tsTx t ++ m)) /\ ∃ (u : Tk) (K : List Tk), HeadT u /\ (∀ m, EndN m -> cutP (tsTx t ++ m) = u :: (K ++ cutP m)) /\ ∃ d0 : Nat, ∀ d, d0 <= d -> ∀ L, oneF d (u :: (K ++ L)) = some (some t, L)
def EndE (shut : Bool) (E R : List Tk) : Prop := (shut = false /\ (∀ t ∈ E, silP t = true /\ EndTk t) /\ R = []) ∨ (shut = true /\ E = tkClose :: R)
def ToldL (l : List Pa) : Prop := HeadX (listTx l) /\ ∃ (u : Tk) (K : List Tk), HeadT u /\ (∀ m, EndN m -> cutP (listTx l ++ m) = u :: (K ++ cutP m)) /\
 ∃ d0 : Nat, ∀ d, d0 <= d -> ∀ (shut : Bool) (G E R : List Tk) (acc : List Pa), (∀ t ∈ G, silP t = true) -> EndE shut E R -> listF d shut acc (G ++ u :: (K ++ E)) = some (acc ++ l, R)
theorem HeadX.app {X : Bs} (h : HeadX X) (m : Bs) : HeadX (X ++ m) := by
 obtain ⟨c, r, rfl, h1, h2, h3⟩ := h
 refine ⟨c, r ++ m, rfl, h1, h2, fun e => ?_⟩
 obtain ⟨d, q, rfl, h4⟩ := h3 e
 exact ⟨d, q ++ m, rfl, h4⟩
theorem nm_headX {n : Bs} (h : Nm n) : HeadX n := by
 obtain ⟨c, r, rfl, hs, hc⟩ := nm_open h
 obtain ⟨hb, -, -, -, -, -, -, h46, -⟩ := sign_head hs
 refine ⟨c, r, rfl, hb, ?_, fun e => absurd e h46⟩
 rcases hc with e | ⟨e, -⟩
 ·exact (starts_dig e).1
 ·rw [e]; rfl
theorem nm_ne {n : Bs} (h : Nm n) {c : UInt8} (hc : signI (nv c) = false) : n ≠ [c] := fun e => by
 subst e
 have := h.2.2 c (by simp)
 rw [hc] at this
 cases this
theorem word_eq {t : Tk} {k : Int} {pre : Bs} (h1 : t.k = k) (h2 : t.raw = pre ++ t.val) (h3 : nameB t.val = true) : wordF t k pre = some t.val := by
 unfold wordF
 rw [if_pos ⟨h1, h2, h3⟩]
theorem nm_word {n : Bs} (h : Nm n) : wordF ⟨1, n, n, 0⟩ 1 [] = some n := word_eq (t := ⟨1, n, n, 0⟩) rfl rfl (nm_is h)
theorem nm_head {n : Bs} (h : Nm n) : HeadT ⟨1, n, n, 0⟩ := by
 refine ⟨rfl, nm_ne h (by decide), nm_ne h (by decide), ?_⟩
 simp [joinP, nm_ne h (c := 62) (by decide), nm_ne h (c := 43) (by decide), nm_ne h (c := 126) (by decide)]
theorem endN_cons {c : UInt8} {r : Bs} (h : signI (nv c) = false /\ ¬ nv c = 92 /\ ¬ nv c = 40) : EndN (c :: r) := .inr ⟨c, r, rfl, h⟩
theorem told_1 : ToldT 0 (.mk 1 [] 0 [] 0 0 []) := by
 have e : tsTx (.mk 1 [] 0 [] 0 0 []) = [42] := by rw [tsTx]; rfl
 refine ⟨by rw [e]; exact ⟨42, [], rfl, by decide, by decide, fun e => absurd e (by decide)⟩, fun h => absurd h (by decide), tkG 42, [], by decide, fun m hm => ?_, 1, fun d hd L => ?_⟩
 ·rw [e]
  exact tc.cut_solo m (by decide)
 ·obtain ⟨d, rfl⟩ : ∃ e, d = e + 1 := ⟨d - 1, by omega⟩
  show oneF (d + 1) (tkG 42 :: L) = _
  rw [oneF.eq_def]
  simp only
  rw [if_pos trivial]
  rfl
theorem told_2 {n : Bs} (h : Nm n) (hl : n = lowP n) : ToldT 0 (.mk 2 n 0 [] 0 0 []) := by
 have e : tsTx (.mk 2 n 0 [] 0 0 []) = n := by rw [tsTx]; rfl
 refine ⟨by rw [e]; exact nm_headX h, fun h => absurd h (by decide), ⟨1, n, n, 0⟩, [], nm_head h, fun m hm => ?_, 1, fun d hd L => ?_⟩
 ·rw [e]
  exact cut_name h hm
 ·obtain ⟨d, rfl⟩ : ∃ e, d = e + 1 := ⟨d - 1, by omega⟩
  show oneF (d + 1) (⟨1, n, n, 0⟩ :: L) = _
  rw [oneF.eq_def]
  simp only
  rw [if_neg (nm_ne h (by decide)), if_pos trivial, nm_word h]
  simp only [Option.map_some, ts]
  rw [<- hl]
theorem told_3 {n : Bs} (i : Nat) (h : Nm n) : ToldT i (.mk 3 n 0 [] 0 0 []) := by
 have e : tsTx (.mk 3 n 0 [] 0 0 []) = 35 :: n := by rw [tsTx]; rfl
 have hj : joinP ⟨4, 35 :: n, n, 0⟩ = false := by simp [joinP]
 refine ⟨by rw [e]; exact ⟨35, n, rfl, by decide, by decide, fun e => absurd e (by decide)⟩, fun _ m => by rw [e]; exact endN_cons (by decide), ⟨4, 35 :: n, n, 0⟩, [], ⟨rfl, by simp, by simp, hj⟩, fun m hm => ?_, 1, fun d hd L => ?_⟩
 ·rw [e]
  exact cut_hash h hm
 ·obtain ⟨d, rfl⟩ : ∃ e, d = e + 1 := ⟨d - 1, by omega⟩
  show oneF (d + 1) (⟨4, 35 :: n, n, 0⟩ :: L) = _
  rw [oneF.eq_def]
  simp only
  rw [if_neg (by simp), if_neg (by decide), if_pos trivial, word_eq (t := ⟨4, 35 :: n, n, 0⟩) rfl rfl (nm_is h)]
  rfl
theorem told_4 {n : Bs} (i : Nat) (h : Nm n) : ToldT i (.mk 4 n 0 [] 0 0 []) := by
 have e : tsTx (.mk 4 n 0 [] 0 0 []) = 46 :: n := by rw [tsTx]; rfl
 obtain ⟨c, r, hn, hb, hd, -⟩ := nm_headX h
 refine ⟨by rw [e]; exact ⟨46, n, rfl, by decide, by decide, fun _ => ⟨c, r, hn, hd⟩⟩, fun _ m => by rw [e]; exact endN_cons (by decide), tkG 46, [⟨1, n, n, 0⟩], by decide, fun m hm => ?_, 1, fun d hd L => ?_⟩
 ·rw [e]
  have h1 : cutP (46 :: (n ++ m)) = tkG 46 :: cutP (n ++ m) := by
   rw [hn, List.cons_append]
   exact cut_dot hd
  show cutP (46 :: (n ++ m)) = _
  rw [h1, cut_name h hm]
  rfl
 ·obtain ⟨d, rfl⟩ : ∃ e, d = e + 1 := ⟨d - 1, by omega⟩
  show oneF (d + 1) (tkG 46 :: ⟨1, n, n, 0⟩ :: L) = _
  rw [oneF, if_neg (by decide), if_neg (by decide), if_neg (by decide), if_pos rfl]
  simp only [nm_word h]
  rfl
theorem told_6 (i : Nat) : ToldT i (.mk 6 [] 0 [] 0 0 []) := by
 have e : tsTx (.mk 6 [] 0 [] 0 0 []) = 58 :: rootT := by rw [tsTx]; rfl
 have h : Nm rootT := by decide
 refine ⟨by rw [e]; exact ⟨58, rootT, rfl, by decide, by decide, fun e => absurd e (by decide)⟩, fun _ m => by rw [e]; exact endN_cons (by decide), tkG 58, [⟨1, rootT, rootT, 0⟩], by decide, fun m hm => ?_, 2, fun d hd L => ?_⟩
 ·rw [e]
  show cutP (58 :: (rootT ++ m)) = _
  rw [tc.cut_solo _ (by decide), cut_name h hm]
  rfl
 ·obtain ⟨d, rfl⟩ : ∃ e, d = e + 2 := ⟨d - 2, by omega⟩
  show oneF (d + 2) (tkG 58 :: ⟨1, rootT, rootT, 0⟩ :: L) = _
  rw [oneF, if_neg (by decide), if_neg (by decide), if_neg (by decide), if_neg (by decide), if_neg (by decide), if_pos rfl, pseudoF, if_pos ⟨rfl, rfl⟩]
  rfl
theorem told_7 (i : Nat) : ToldT i (.mk 7 [] 0 [] 0 0 []) := by
 have e : tsTx (.mk 7 [] 0 [] 0 0 []) = 58 :: emptyT := by rw [tsTx]; rfl
 have h : Nm emptyT := by decide
 refine ⟨by rw [e]; exact ⟨58, emptyT, rfl, by decide, by decide, fun e => absurd e (by decide)⟩, fun _ m => by rw [e]; exact endN_cons (by decide), tkG 58, [⟨1, emptyT, emptyT, 0⟩], by decide, fun m hm => ?_, 2, fun d hd L => ?_⟩
 ·rw [e]
  show cutP (58 :: (emptyT ++ m)) = _
  rw [tc.cut_solo _ (by decide), cut_name h hm]
  rfl
 ·obtain ⟨d, rfl⟩ : ∃ e, d = e + 2 := ⟨d - 2, by omega⟩
  show oneF (d + 2) (tkG 58 :: ⟨1, emptyT, emptyT, 0⟩ :: L) = _
  rw [oneF, if_neg (by decide), if_neg (by decide), if_neg (by decide), if_neg (by decide), if_neg (by decide), if_pos rfl, pseudoF, if_pos ⟨rfl, rfl⟩]
  rfl
abbrev AB (a b : Int) : Prop := -1000 <= a /\ a <= 1000 /\ -1000 <= b /\ b <= 1000
theorem told_8 {a b : Int} (i : Nat) (h : AB a b) : ToldT i (.mk 8 [] 0 [] a b []) := by
 have e : tsTx (.mk 8 [] 0 [] a b []) = 58 :: (nthT ++ 40 :: (nthTx a b ++ [41])) := by rw [tsTx]; unfold testTx; simp [nthT]
 have hn : Nm nthT := by decide
 refine ⟨by rw [e]; exact ⟨58, _, rfl, by decide, by decide, fun e => absurd e (by decide)⟩, fun _ m => by rw [e]; exact endN_cons (by decide), tkG 58, ⟨2, nthT ++ [40], nthT, 0⟩ :: (cutP (nthTx a b) ++ [tkClose]), by decide, fun m hm => ?_, 2, fun d hd L => ?_⟩
 ·rw [e]
  have e2 : 58 :: (nthT ++ 40 :: (nthTx a b ++ [41])) ++ m = 58 :: (nthT ++ 40 :: (nthTx a b ++ 41 :: m)) := by simp
  rw [e2, tc.cut_solo _ (by decide), cut_func hn, nth_cut]
  simp
  rfl
 ·obtain ⟨d, rfl⟩ : ∃ e, d = e + 2 := ⟨d - 2, by omega⟩
  have e3 : tkG 58 :: (⟨2, nthT ++ [40], nthT, 0⟩ :: (cutP (nthTx a b) ++ [tkClose]) ++ L) = tkG 58 :: ⟨2, nthT ++ [40], nthT, 0⟩ :: (cutP (nthTx a b) ++ tkClose :: L) := by simp
  rw [e3, oneF, if_neg (by decide), if_neg (by decide), if_neg (by decide), if_neg (by decide), if_neg (by decide), if_pos rfl, pseudoF, if_neg (by decide), if_pos ⟨rfl, rfl⟩, if_pos (by decide)]
  unfold countedF
  rw [count_nth]
  simp only [Option.bind_some, nth_read h.1 h.2.1 h.2.2.1 h.2.2.2, Option.map_some]
theorem told_9 {a b : Int} (i : Nat) (h : AB a b) : ToldT i (.mk 9 [] 0 [] a b []) := by
 have e : tsTx (.mk 9 [] 0 [] a b []) = 58 :: (nthLastT ++ 40 :: (nthTx a b ++ [41])) := by rw [tsTx]; unfold testTx; simp [nthLastT]
 have hn : Nm nthLastT := by decide
 refine ⟨by rw [e]; exact ⟨58, _, rfl, by decide, by decide, fun e => absurd e (by decide)⟩, fun _ m => by rw [e]; exact endN_cons (by decide), tkG 58, ⟨2, nthLastT ++ [40], nthLastT, 0⟩ :: (cutP (nthTx a b) ++ [tkClose]), by decide, fun m hm => ?_, 2, fun d hd L => ?_⟩
 ·rw [e]
  have e2 : 58 :: (nthLastT ++ 40 :: (nthTx a b ++ [41])) ++ m = 58 :: (nthLastT ++ 40 :: (nthTx a b ++ 41 :: m)) := by simp
  rw [e2, tc.cut_solo _ (by decide), cut_func hn, nth_cut]
  simp
  rfl
 ·obtain ⟨d, rfl⟩ : ∃ e, d = e + 2 := ⟨d - 2, by omega⟩
  have e3 : tkG 58 :: (⟨2, nthLastT ++ [40], nthLastT, 0⟩ :: (cutP (nthTx a b) ++ [tkClose]) ++ L) = tkG 58 :: ⟨2, nthLastT ++ [40], nthLastT, 0⟩ :: (cutP (nthTx a b) ++ tkClose :: L) := by simp
  rw [e3, oneF, if_neg (by decide), if_neg (by decide), if_neg (by decide), if_neg (by decide), if_neg (by decide), if_pos rfl, pseudoF, if_neg (by decide), if_pos ⟨rfl, rfl⟩, if_neg (by decide), if_pos (by decide)]
  unfold countedF
  rw [count_nth]
  simp only [Option.bind_some, nth_read h.1 h.2.1 h.2.2.1 h.2.2.2, Option.map_some]
theorem told_10 {subs : List Pa} (i : Nat) (h : ToldL subs) : ToldT i (.mk 10 [] 0 [] 0 0 subs) := by
 have e : tsTx (.mk 10 [] 0 [] 0 0 subs) = 58 :: (notT ++ 40 :: (listTx subs ++ [41])) := by rw [tsTx]; unfold testTx listTx; simp [notT]
 have hn : Nm notT := by decide
 obtain ⟨-, u, K, hu, hcut, d0, hread⟩ := h
 refine ⟨by rw [e]; exact ⟨58, _, rfl, by decide, by decide, fun e => absurd e (by decide)⟩, fun _ m => by rw [e]; exact endN_cons (by decide), tkG 58, ⟨2, notT ++ [40], notT, 0⟩ :: u :: (K ++ [tkClose]), by decide, fun m hm => ?_, d0 + 2, fun d hd L => ?_⟩
 ·rw [e]
  have e2 : 58 :: (notT ++ 40 :: (listTx subs ++ [41])) ++ m = 58 :: (notT ++ 40 :: (listTx subs ++ 41 :: m)) := by simp
  rw [e2, tc.cut_solo _ (by decide), cut_func hn, hcut _ (endN_cons (by decide)), cut_close]
  simp
  rfl
 ·obtain ⟨d, rfl⟩ : ∃ e, d = e + 2 := ⟨d - 2, by omega⟩
  have e3 : tkG 58 :: (⟨2, notT ++ [40], notT, 0⟩ :: u :: (K ++ [tkClose]) ++ L) = tkG 58 :: ⟨2, notT ++ [40], notT, 0⟩ :: ([] ++ u :: (K ++ tkClose :: L)) := by simp
  rw [e3, oneF, if_neg (by decide), if_neg (by decide), if_neg (by decide), if_neg (by decide), if_neg (by decide), if_pos rfl, pseudoF, if_neg (by decide), if_pos ⟨rfl, rfl⟩, if_neg (by decide), if_neg (by decide), if_pos (by decide),
   hread d (by omega) true [] (tkClose :: L) L [] (fun t ht => absurd ht List.not_mem_nil) (.inr ⟨rfl, rfl⟩)]
  rfl
theorem told_11 {subs : List Pa} (i : Nat) (h : ToldL subs) : ToldT i (.mk 11 [] 0 [] 0 0 subs) := by
 have e : tsTx (.mk 11 [] 0 [] 0 0 subs) = 58 :: (isT ++ 40 :: (listTx subs ++ [41])) := by rw [tsTx]; unfold testTx listTx; simp [isT]
 have hn : Nm isT := by decide
 obtain ⟨-, u, K, hu, hcut, d0, hread⟩ := h
 refine ⟨by rw [e]; exact ⟨58, _, rfl, by decide, by decide, fun e => absurd e (by decide)⟩, fun _ m => by rw [e]; exact endN_cons (by decide), tkG 58, ⟨2, isT ++ [40], isT, 0⟩ :: u :: (K ++ [tkClose]), by decide, fun m hm => ?_, d0 + 2, fun d hd L => ?_⟩
 ·rw [e]
  have e2 : 58 :: (isT ++ 40 :: (listTx subs ++ [41])) ++ m = 58 :: (isT ++ 40 :: (listTx subs ++ 41 :: m)) := by simp
  rw [e2, tc.cut_solo _ (by decide), cut_func hn, hcut _ (endN_cons (by decide)), cut_close]
  simp
  rfl
 ·obtain ⟨d, rfl⟩ : ∃ e, d = e + 2 := ⟨d - 2, by omega⟩
  have e3 : tkG 58 :: (⟨2, isT ++ [40], isT, 0⟩ :: u :: (K ++ [tkClose]) ++ L) = tkG 58 :: ⟨2, isT ++ [40], isT, 0⟩ :: ([] ++ u :: (K ++ tkClose :: L)) := by simp
  rw [e3, oneF, if_neg (by decide), if_neg (by decide), if_neg (by decide), if_neg (by decide), if_neg (by decide), if_pos rfl, pseudoF, if_neg (by decide), if_pos ⟨rfl, rfl⟩, if_neg (by decide), if_neg (by decide), if_neg (by decide), if_pos (by decide),
   hread d (by omega) true [] (tkClose :: L) L [] (fun t ht => absurd ht List.not_mem_nil) (.inr ⟨rfl, rfl⟩)]
  rfl
abbrev tkN (n : Bs) : Tk := ⟨1, n, n, 0⟩
abbrev tkQ (v : Bs) : Tk := ⟨5, 34 :: (quo.quoteP v ++ [34]), v, 0⟩
abbrev tkO : Tk := ⟨10, [91], [], 0⟩
abbrev tkC : Tk := ⟨11, [93], [], 0⟩
def opK (op : UInt8) : List Tk := if op = 61 then [] else [tkG op]
theorem op_cases {op : UInt8} (h : opOk op = true) : op = 61 ∨ op = 126 ∨ op = 124 ∨ op = 94 ∨ op = 36 ∨ op = 42 := by simpa [opOk, or_assoc] using h
theorem told_5 {n : Bs} (i : Nat) (h : Nm n) (hl : n = lowP n) : ToldT i (.mk 5 n 0 [] 0 0 []) := by
 have e : tsTx (.mk 5 n 0 [] 0 0 []) = 91 :: (n ++ [93]) := by rw [tsTx]; unfold testTx; simp
 refine ⟨by rw [e]; exact ⟨91, _, rfl, by decide, by decide, fun e => absurd e (by decide)⟩, fun _ m => by rw [e]; exact endN_cons (by decide), tkO, [tkN n, tkC], by decide, fun m hm => ?_, 1, fun d hd L => ?_⟩
 ·rw [e]
  have e2 : 91 :: (n ++ [93]) ++ m = 91 :: (n ++ 93 :: m) := by simp
  rw [e2, tc.cut_solo _ (by decide), cut_name h (endN_cons (by decide)), tc.cut_solo _ (by decide)]
  rfl
 ·obtain ⟨d, rfl⟩ : ∃ e, d = e + 1 := ⟨d - 1, by omega⟩
  show oneF (d + 1) (tkO :: tkN n :: tkC :: L) = _
  rw [oneF, if_neg (by decide), if_neg (by decide), if_neg (by decide), if_neg (by decide), if_pos rfl, attrF, nm_word h]
  simp only [Option.bind_some, rawF, if_true, Option.map_some, ts]
  rw [<- hl]
theorem told_5o {n v : Bs} {op : UInt8} (i : Nat) (h : Nm n) (hl : n = lowP n) (ho : opOk op = true) : ToldT i (.mk 5 n op v 0 0 []) := by
 have hop0 : op ≠ 0 := by rcases op_cases ho with rfl | rfl | rfl | rfl | rfl | rfl <;> decide
 have e : tsTx (.mk 5 n op v 0 0 []) = 91 :: (n ++ (opTx op ++ 61 :: 34 :: (quo.quoteP v ++ [34, 93]))) := by
  rw [tsTx]
  unfold testTx
  simp [hop0]
 have hcut : ∀ m, cutP (opTx op ++ 61 :: m) = opK op ++ tkG 61 :: cutP m /\ EndN (opTx op ++ 61 :: m) := fun m => by
  have h61 : cutP (61 :: m) = tkG 61 :: cutP m := tc.cut_solo m (by decide)
  rcases op_cases ho with rfl | rfl | rfl | rfl | rfl | rfl
  ·exact ⟨h61, endN_cons (by decide)⟩
  all_goals exact ⟨(tc.cut_solo (61 :: m) (by decide)).trans (by rw [h61]; rfl), endN_cons (by decide)⟩
 refine ⟨by rw [e]; exact ⟨91, _, rfl, by decide, by decide, fun e => absurd e (by decide)⟩, fun _ m => by rw [e]; exact endN_cons (by decide), tkO, tkN n :: (opK op ++ [tkG 61, tkQ v, tkC]), by decide, fun m hm => ?_, 1, fun d hd L => ?_⟩
 ·rw [e]
  have e2 : 91 :: (n ++ (opTx op ++ 61 :: 34 :: (quo.quoteP v ++ [34, 93]))) ++ m = 91 :: (n ++ (opTx op ++ 61 :: 34 :: (quo.quoteP v ++ 34 :: 93 :: m))) := by simp
  rw [e2, tc.cut_solo _ (by decide), cut_name h (hcut _).2, (hcut _).1, cut_quote, tc.cut_solo _ (by decide)]
  simp
  decide
 ·obtain ⟨d, rfl⟩ : ∃ e, d = e + 1 := ⟨d - 1, by omega⟩
  have hv : attrV n op (tkQ v :: tkC :: L) = some (.mk 5 n op v 0 0 [], L) := by
   rw [attrV, if_pos rfl]
   simp only [Option.bind_some, rawF, if_true, Option.map_some]
  have e3 : tkO :: (tkN n :: (opK op ++ [tkG 61, tkQ v, tkC]) ++ L) = tkO :: tkN n :: (opK op ++ tkG 61 :: tkQ v :: tkC :: L) := by simp
  rw [e3, oneF, if_neg (by decide), if_neg (by decide), if_neg (by decide), if_neg (by decide), if_pos rfl, attrF, nm_word h]
  simp only [Option.bind_some]
  rw [<- hl]
  rcases op_cases ho with rfl | rfl | rfl | rfl | rfl | rfl
  all_goals
   simp only [opK, rawF]
   simp [hv]
theorem told_one {i : Nat} {k : Int} {n : Bs} {op : UInt8} {v : Bs} {a b : Int} {subs : List Pa} (hok : okT i (.mk k n op v a b subs) = true) (hS : subs ≠ [] -> okL subs = true -> ToldL subs) : ToldT i (.mk k n op v a b subs) := by
 rw [okT.eq_def] at hok
 simp only at hok
 obtain ⟨h1, h2⟩ := and_t hok
 unfold testB at h1
 obtain ⟨h1, hab⟩ := and_t h1
 obtain ⟨h1, hop⟩ := and_t h1
 obtain ⟨h1, hlow⟩ := and_t h1
 obtain ⟨h1, hname⟩ := and_t h1
 obtain ⟨h1, hnamed⟩ := and_t h1
 obtain ⟨h1, hat⟩ := and_t h1
 have hk9 := of_decide_eq_true h1
 have hsub : (k = 10 ∨ k = 11) -> subs ≠ [] /\ okL subs = true := fun hk => by
  rw [if_pos hk] at h2
  cases subs with
  | nil => cases h2
  | cons p l => exact ⟨by simp, by rw [okL]; exact h2⟩
 have hsub0 : ¬ (k = 10 ∨ k = 11) -> subs = [] := fun hk => by
  rw [if_neg hk] at h2
  cases subs with
  | nil => rfl
  | cons p l => cases h2
 have hname' : 2 <= k /\ k <= 5 -> Nm n := fun hk => by
  rw [decide_eq_true hk] at hname
  exact nm_of (by simpa using hname)
 have hname0 : ¬ (2 <= k /\ k <= 5) -> n = [] := fun hk => by
  rw [decide_eq_false hk] at hnamed
  simpa using hnamed
 have hlow' : (k = 2 ∨ k = 5) -> n = lowP n := fun hk => by
  rcases hk with rfl | rfl <;> simpa using hlow
 have hop0 : k ≠ 5 -> op = 0 /\ v = [] := fun hk => by
  by_cases ho : op = 0
  ·rw [if_pos ho] at hop
   exact ⟨ho, of_decide_eq_true hop⟩
  ·rw [if_neg ho, decide_eq_false hk] at hop
   cases hop
 have hab0 : ¬ (k = 8 ∨ k = 9) -> a = 0 /\ b = 0 := fun hk => by
  rw [if_neg hk] at hab
  exact of_decide_eq_true hab
 have hab1 : (k = 8 ∨ k = 9) -> AB a b := fun hk => by
  rw [if_pos hk] at hab
  have := of_decide_eq_true hab
  exact ⟨by omega, by omega, by omega, by omega⟩
 have hat0 : k <= 2 -> i = 0 := fun hk => by
  have h3 := not_t hat
  rw [decide_eq_true hk, Bool.true_and] at h3
  have := of_decide_eq_false h3
  omega
 have hk : k = 1 ∨ k = 2 ∨ k = 3 ∨ k = 4 ∨ k = 5 ∨ k = 6 ∨ k = 7 ∨ k = 8 ∨ k = 9 ∨ k = 10 ∨ k = 11 := by omega
 rcases hk with rfl | rfl | rfl | rfl | rfl | rfl | rfl | rfl | rfl | rfl | rfl
 ·obtain rfl := hname0 (by omega)
  obtain ⟨rfl, rfl⟩ := hop0 (by omega)
  obtain ⟨rfl, rfl⟩ := hab0 (by omega)
  obtain rfl := hsub0 (by omega)
  obtain rfl := hat0 (by omega)
  exact told_1
 ·obtain ⟨rfl, rfl⟩ := hop0 (by omega)
  obtain ⟨rfl, rfl⟩ := hab0 (by omega)
  obtain rfl := hsub0 (by omega)
  obtain rfl := hat0 (by omega)
  exact told_2 (hname' (by omega)) (hlow' (by omega))
 ·obtain ⟨rfl, rfl⟩ := hop0 (by omega)
  obtain ⟨rfl, rfl⟩ := hab0 (by omega)
  obtain rfl := hsub0 (by omega)
  exact told_3 i (hname' (by omega))
 ·obtain ⟨rfl, rfl⟩ := hop0 (by omega)
  obtain ⟨rfl, rfl⟩ := hab0 (by omega)
  obtain rfl := hsub0 (by omega)
  exact told_4 i (hname' (by omega))
 ·obtain ⟨rfl, rfl⟩ := hab0 (by omega)
  obtain rfl := hsub0 (by omega)
  by_cases ho : op = 0
  ·subst ho
   rw [if_pos rfl] at hop
   obtain rfl := of_decide_eq_true hop
   exact told_5 i (hname' (by omega)) (hlow' (by omega))
  ·rw [if_neg ho] at hop
   exact told_5o i (hname' (by omega)) (hlow' (by omega)) (and_t hop).2
 ·obtain rfl := hname0 (by omega)
  obtain ⟨rfl, rfl⟩ := hop0 (by omega)
  obtain ⟨rfl, rfl⟩ := hab0 (by omega)
  obtain rfl := hsub0 (by omega)
  exact told_6 i
 ·obtain rfl := hname0 (by omega)
  obtain ⟨rfl, rfl⟩ := hop0 (by omega)
  obtain ⟨rfl, rfl⟩ := hab0 (by omega)
  obtain rfl := hsub0 (by omega)
  exact told_7 i
 ·obtain rfl := hname0 (by omega)
  obtain ⟨rfl, rfl⟩ := hop0 (by omega)
  obtain rfl := hsub0 (by omega)
  exact told_8 i (hab1 (by omega))
 ·obtain rfl := hname0 (by omega)
  obtain ⟨rfl, rfl⟩ := hop0 (by omega)
  obtain rfl := hsub0 (by omega)
  exact told_9 i (hab1 (by omega))
 ·obtain rfl := hname0 (by omega)
  obtain ⟨rfl, rfl⟩ := hop0 (by omega)
  obtain ⟨rfl, rfl⟩ := hab0 (by omega)
  obtain ⟨h3, h4⟩ := hsub (by omega)
  exact told_10 i (hS h3 h4)
 ·obtain rfl := hname0 (by omega)
  obtain ⟨rfl, rfl⟩ := hop0 (by omega)
  obtain ⟨rfl, rfl⟩ := hab0 (by omega)
  obtain ⟨h3, h4⟩ := hsub (by omega)
  exact told_11 i (hS h3 h4)
end sel
namespace sel
open Go.RowKit base tok rul quo
abbrev EndL (L : List Tk) : Prop := StopL L /\ (gapP L = [] ∨ ∃ u M, gapP L = u :: M /\ joinP u = false /\ (u.raw = [44] ∨ u.raw = [41]))
theorem endTk_blank : EndTk tkB := by decide
theorem gap_sil {t : Tk} {L : List Tk} (h : silP t = true) : gapP (t :: L) = gapP L := by
 unfold gapP
 rw [List.dropWhile_cons_of_pos h]
theorem gap_not {t : Tk} {L : List Tk} (h : silP t = false) : gapP (t :: L) = t :: L := by
 unfold gapP
 rw [List.dropWhile_cons_of_neg (by rw [h]; simp)]
theorem gap_all : ∀ {G : List Tk} {L : List Tk}, (∀ t ∈ G, silP t = true) -> gapP (G ++ L) = gapP L
 | [], L, _ => rfl
 | t :: G, L, h => by
  rw [List.cons_append, gap_sil (h t (by simp)), gap_all (fun x hx => h x (by simp [hx]))]
theorem gap_gap (L : List Tk) : gapP (gapP L) = gapP L := by
 cases h : gapP L with
 | nil => rfl
 | cons u M =>
  have hu : silP u = false := by
   have := List.head?_dropWhile_not silP L
   unfold gapP at h
   rw [h] at this
   simpa using this
  exact gap_not hu
theorem one_stop {d : Nat} {L : List Tk} (h : StopL L) : oneF (d + 1) L = some (none, L) := by
 rcases h with rfl | ⟨u, M, rfl, h1, h2, h3, h4, h5, h6⟩
 ·rw [oneF]
 ·rw [oneF.eq_def]
  simp only
  rw [if_neg h3, if_neg h1, if_neg h2, if_neg h4, if_neg h5, if_neg h6]
def ToldS (i : Nat) (l : List Ts) : Prop := (l ≠ [] -> HeadX (ssTx l)) /\ (0 < i -> ∀ m, EndN m -> EndN (ssTx l ++ m)) /\ ∃ K : List Tk, (l ≠ [] -> ∃ u K', K = u :: K' /\ HeadT u) /\ (∀ m, EndN m -> cutP (ssTx l ++ m) = K ++ cutP m) /\
 ∃ d0 : Nat, ∀ d, d0 <= d -> ∀ acc L, StopL L -> stepF d acc (K ++ L) = if acc ++ l = [] then none else some (acc ++ l, L)
theorem told_s0 (i : Nat) : ToldS i [] := by
 refine ⟨fun h => absurd rfl h, fun _ m h => by rw [ssTx]; exact h, [], fun h => absurd rfl h, fun m _ => by rw [ssTx]; rfl, 2, fun d hd acc L hL => ?_⟩
 obtain ⟨d, rfl⟩ : ∃ e, d = e + 2 := ⟨d - 2, by omega⟩
 rw [List.nil_append, stepF_go, one_stop hL, List.append_nil]
 rfl
theorem told_s1 {i : Nat} {t : Ts} {l : List Ts} (ht : ToldT i t) (hl : ToldS (i + 1) l) : ToldS i (t :: l) := by
 obtain ⟨h1, h2, u, K, hu, hcut, d0, hread⟩ := ht
 obtain ⟨-, g2, K2, -, hcut2, d2, hread2⟩ := hl
 have e : ssTx (t :: l) = tsTx t ++ ssTx l := by rw [ssTx]
 refine ⟨fun _ => by rw [e]; exact h1.app _, fun hi m hm => by rw [e, List.append_assoc]; exact h2 hi _, u :: (K ++ K2), fun _ => ⟨u, _, rfl, hu⟩, fun m hm => ?_, max d0 d2 + 1, fun d hd acc L hL => ?_⟩
 ·rw [e, List.append_assoc, hcut _ (g2 (by omega) m hm), hcut2 m hm]
  simp
 ·obtain ⟨d, rfl⟩ : ∃ e, d = e + 1 := ⟨d - 1, by omega⟩
  have e3 : u :: (K ++ K2) ++ L = u :: (K ++ (K2 ++ L)) := by simp
  rw [e3, stepF_go, hread d (by omega), Option.bind_some]
  show stepF d (acc ++ [t]) (K2 ++ L) = _
  rw [hread2 d (by omega) _ L hL, List.append_assoc]
  rfl
def sepK (j : UInt8) : List Tk := tkB :: (if j = 32 then [] else [tkG j, tkB])
theorem join_cases {j : UInt8} (h : joinOk j = true) : j = 32 ∨ j = 62 ∨ j = 43 ∨ j = 126 := by simpa [joinOk, or_assoc] using h
theorem headX_blank {X : Bs} (h : HeadX X) : cutP (32 :: X) = tkB :: cutP X := by
 obtain ⟨c, r, e, hb, -⟩ := h
 exact tc.cut_sp e hb
theorem cut_sep {j : UInt8} (hj : joinOk j = true) {X : Bs} (hX : HeadX X) : cutP (sepTx j ++ X) = sepK j ++ cutP X := by
 have hb := headX_blank hX
 have hn : ∀ c : UInt8, HeadX (c :: 32 :: X) -> cutP (c :: 32 :: X) = tkG c :: cutP (32 :: X) -> cutP (32 :: c :: 32 :: X) = tkB :: tkG c :: tkB :: cutP X := fun c hc h => by
  rw [headX_blank hc, h, hb]
 rcases join_cases hj with rfl | rfl | rfl | rfl
 ·exact hb
 ·exact hn 62 ⟨62, _, rfl, by decide, by decide, fun e => absurd e (by decide)⟩ (tc.cut_solo _ (by decide))
 ·exact hn 43 ⟨43, _, rfl, by decide, by decide, fun e => absurd e (by decide)⟩ (cut_plus (by decide) (fun e => absurd e (by decide)))
 ·exact hn 126 ⟨126, _, rfl, by decide, by decide, fun e => absurd e (by decide)⟩ (tc.cut_solo _ (by decide))
theorem sep_end (j : UInt8) (X : Bs) : EndN (sepTx j ++ X) := endN_cons (by decide)
def ToldSS (l : List (List Ts)) (js : Bs) : Prop := (∀ m, EndN m -> EndN (sssTx l js ++ m)) /\ ∃ K : List Tk, (K = [] ∨ ∃ K', K = tkB :: K') /\ (∀ m, EndN m -> cutP (sssTx l js ++ m) = K ++ cutP m) /\
 ∃ d0 : Nat, ∀ d, d0 <= d -> ∀ steps joins L, EndL L -> pathF d steps joins (K ++ L) = some (.mk (steps ++ l) (joins ++ js), gapP L)
theorem told_ss0 : ToldSS [] [] := by
 refine ⟨fun m h => by rw [sssTx]; exact h, [], .inl rfl, fun m _ => by rw [sssTx]; rfl, 1, fun d hd steps joins L hL => ?_⟩
 obtain ⟨d, rfl⟩ : ∃ e, d = e + 1 := ⟨d - 1, by omega⟩
 rw [List.nil_append, pathF, List.append_nil, List.append_nil]
 rcases hL.2 with h | ⟨u, M, h, hj, hr⟩
 ·rw [h]
 ·rw [h]
  simp only
  rw [if_neg (by rw [hj]; simp), if_neg]
  rcases hr with e | e <;> simp [e]
theorem told_ss1 {s : List Ts} {l : List (List Ts)} {j : UInt8} {js : Bs} (hs0 : s ≠ []) (hj : joinOk j = true) (hs : ToldS 0 s) (hl : ToldSS l js) : ToldSS (s :: l) (j :: js) := by
 obtain ⟨h1, -, K, hK, hcut, d0, hread⟩ := hs
 obtain ⟨g1, K2, hK2, hcut2, d2, hread2⟩ := hl
 obtain ⟨u, K', rfl, hu⟩ := hK hs0
 have e : sssTx (s :: l) (j :: js) = sepTx j ++ (ssTx s ++ sssTx l js) := by rw [sssTx, List.append_assoc]
 refine ⟨fun m hm => by rw [e, List.append_assoc]; exact sep_end j _, sepK j ++ (u :: K' ++ K2), .inr ⟨_, rfl⟩, fun m hm => ?_, max d0 d2 + 1, fun d hd steps joins L hL => ?_⟩
 ·rw [e, List.append_assoc, cut_sep hj (by rw [List.append_assoc]; exact (h1 hs0).app _), List.append_assoc, hcut _ (g1 m hm), hcut2 m hm]
  simp
 ·obtain ⟨d, rfl⟩ : ∃ e, d = e + 1 := ⟨d - 1, by omega⟩
  have hst : StopL (K2 ++ L) := by
   rcases hK2 with rfl | ⟨K3, rfl⟩
   ·exact hL.1
   ·exact .inr ⟨tkB, _, rfl, endTk_blank⟩
  have hs1 := hread d (by omega) [] (K2 ++ L) hst
  rw [List.nil_append, if_neg hs0] at hs1
  have hp := fun st jo => hread2 d (by omega) st jo L hL
  have hg : gapP (u :: K' ++ (K2 ++ L)) = u :: K' ++ (K2 ++ L) := gap_not hu.1
  have e3 : sepK j ++ (u :: K' ++ K2) ++ L = sepK j ++ (u :: K' ++ (K2 ++ L)) := by simp
  rw [e3, pathF]
  by_cases h32 : j = 32
  ·subst h32
   have e4 : sepK 32 ++ (u :: K' ++ (K2 ++ L)) = tkB :: (u :: K' ++ (K2 ++ L)) := rfl
   have hb : gapB (tkB :: (u :: K' ++ (K2 ++ L))) = true := by
    unfold gapB
    rw [gap_sil rfl, hg]
    simp
   rw [e4, gap_sil rfl, hg]
   have e5 : u :: K' ++ (K2 ++ L) = u :: (K' ++ (K2 ++ L)) := rfl
   rw [e5] at hs1 hb ⊢
   simp only
   rw [if_neg (by rw [hu.2.2.2]; simp), if_pos (by rw [hb]; simp [hu.2.1, hu.2.2.1]), hs1, Option.bind_some]
   show pathF d (steps ++ [s]) (joins ++ [32]) (K2 ++ L) = _
   rw [hp, List.append_assoc, List.append_assoc]
   rfl
  ·have e4 : sepK j ++ (u :: K' ++ (K2 ++ L)) = tkB :: tkG j :: tkB :: (u :: K' ++ (K2 ++ L)) := by simp [sepK, h32]
   have hjn : joinP (tkG j) = true /\ silP (tkG j) = false := by rcases join_cases hj with rfl | rfl | rfl | rfl <;> first | exact absurd rfl h32 | decide
   rw [e4, gap_sil rfl, gap_not hjn.2]
   simp only
   rw [if_pos hjn.1, gap_sil rfl, hg, hs1, Option.bind_some]
   show pathF d (steps ++ [s]) (joins ++ [j]) (K2 ++ L) = _
   rw [hp, List.append_assoc, List.append_assoc]
   rfl
def ToldP (p : Pa) : Prop := HeadX (paTx p) /\ ∃ (u : Tk) (K : List Tk), HeadT u /\ (∀ m, EndN m -> cutP (paTx p ++ m) = u :: (K ++ cutP m)) /\ ∃ d0 : Nat, ∀ d, d0 <= d -> ∀ L, EndL L -> pathP d (u :: (K ++ L)) = some (p, gapP L)
theorem told_p {s : List Ts} {l : List (List Ts)} {joins : Bs} (hs0 : s ≠ []) (hs : ToldS 0 s) (hl : ToldSS l joins) : ToldP (.mk (s :: l) joins) := by
 obtain ⟨h1, -, K, hK, hcut, d0, hread⟩ := hs
 obtain ⟨g1, K2, hK2, hcut2, d2, hread2⟩ := hl
 obtain ⟨u, K', rfl, hu⟩ := hK hs0
 have e : paTx (.mk (s :: l) joins) = ssTx s ++ sssTx l joins := by rw [paTx]
 refine ⟨by rw [e]; exact (h1 hs0).app _, u, K' ++ K2, hu, fun m hm => ?_, max d0 d2, fun d hd L hL => ?_⟩
 ·rw [e, List.append_assoc, hcut _ (g1 m hm), hcut2 m hm]
  simp
 ·have hst : StopL (K2 ++ L) := by
   rcases hK2 with rfl | ⟨K3, rfl⟩
   ·exact hL.1
   ·exact .inr ⟨tkB, _, rfl, endTk_blank⟩
  have hs1 := hread d (by omega) [] (K2 ++ L) hst
  rw [List.nil_append, if_neg hs0] at hs1
  have e3 : u :: (K' ++ K2 ++ L) = u :: K' ++ (K2 ++ L) := by simp
  unfold pathP
  rw [e3, hs1, Option.bind_some]
  show pathF d [s] [] (K2 ++ L) = _
  rw [hread2 d (by omega) _ _ L hL]
  rfl
theorem endE_L {shut : Bool} {E R : List Tk} (h : EndE shut E R) : EndL E := by
 rcases h with ⟨rfl, h, rfl⟩ | ⟨rfl, rfl⟩
 ·refine ⟨?_, .inl ?_⟩
  ·cases E with
   | nil => exact .inl rfl
   | cons u M => exact .inr ⟨u, M, rfl, (h u (by simp)).2⟩
  ·have := gap_all (G := E) (L := []) (fun t ht => (h t ht).1)
   rw [List.append_nil] at this
   exact this
 ·exact ⟨.inr ⟨_, _, rfl, by decide⟩, .inr ⟨tkClose, R, gap_not rfl, by decide, .inr rfl⟩⟩
theorem list_one (p : Pa) : listTx [p] = paTx p := by unfold listTx; rw [pasTx, pasTx, Lib.join_one]
theorem list_cons (p q : Pa) (l : List Pa) : listTx (p :: q :: l) = paTx p ++ (44 :: 32 :: listTx (q :: l)) := by
 unfold listTx
 rw [pasTx, Lib.join_cons, pasTx, Lib.join_cons]
 simp [Lib.joinTail]
theorem told_l1 {p : Pa} (h : ToldP p) : ToldL [p] := by
 obtain ⟨h1, u, K, hu, hcut, d0, hread⟩ := h
 unfold ToldL
 rw [list_one]
 refine ⟨h1, u, K, hu, hcut, d0 + 1, fun d hd shut G E R acc hG hE => ?_⟩
 obtain ⟨d, rfl⟩ : ∃ e, d = e + 1 := ⟨d - 1, by omega⟩
 rw [listF_go, gap_all hG, gap_not hu.1, hread d (by omega) E (endE_L hE), Option.bind_some]
 unfold listG
 simp only [gap_gap]
 rcases hE with ⟨rfl, h, rfl⟩ | ⟨rfl, rfl⟩
 ·have hge : gapP E = [] := by
   have := gap_all (G := E) (L := []) (fun t ht => (h t ht).1)
   rw [List.append_nil] at this
   exact this
  rw [hge]
  rfl
 ·rw [gap_not rfl]
  simp only
  rw [if_neg (by decide), if_pos trivial, if_pos trivial]
theorem told_l2 {p q : Pa} {l : List Pa} (h : ToldP p) (hl : ToldL (q :: l)) : ToldL (p :: q :: l) := by
 obtain ⟨h1, u, K, hu, hcut, d0, hread⟩ := h
 obtain ⟨g1, u2, K2, hu2, hcut2, d2, hread2⟩ := hl
 unfold ToldL
 rw [list_cons]
 refine ⟨h1.app _, u, K ++ tkG 44 :: tkB :: u2 :: K2, hu, fun m hm => ?_, max d0 d2 + 1, fun d hd shut G E R acc hG hE => ?_⟩
 ·have e : paTx p ++ 44 :: 32 :: listTx (q :: l) ++ m = paTx p ++ 44 :: 32 :: (listTx (q :: l) ++ m) := by simp
  rw [e, hcut _ (endN_cons (by decide)), tc.cut_solo _ (by decide), headX_blank (g1.app m), hcut2 m hm]
  simp
  rfl
 ·obtain ⟨d, rfl⟩ : ∃ e, d = e + 1 := ⟨d - 1, by omega⟩
  have e3 : G ++ u :: (K ++ tkG 44 :: tkB :: u2 :: K2 ++ E) = G ++ u :: (K ++ (tkG 44 :: tkB :: u2 :: (K2 ++ E))) := by simp
  have hL : EndL (tkG 44 :: tkB :: u2 :: (K2 ++ E)) := ⟨.inr ⟨_, _, rfl, by decide⟩, .inr ⟨_, _, gap_not rfl, by decide, .inl rfl⟩⟩
  rw [e3, listF_go, gap_all hG, gap_not hu.1, hread d (by omega) _ hL, Option.bind_some]
  unfold listG
  simp only [gap_gap]
  rw [gap_not rfl]
  simp only
  rw [if_pos trivial]
  have := hread2 d (by omega) shut [tkB] E R (acc ++ [p]) (by decide) hE
  rw [List.append_assoc] at this
  exact this
mutual
theorem told_T : ∀ (t : Ts) (i : Nat), okT i t = true -> ToldT i t
 | .mk k n op v a b subs, i => fun h => told_one h (told_L subs)
theorem told_S : ∀ (l : List Ts) (i : Nat), okS i l = true -> ToldS i l
 | [], i => fun _ => told_s0 i
 | t :: l, i => fun h => by
  rw [okS] at h
  exact told_s1 (told_T t i (and_t h).1) (told_S l (i + 1) (and_t h).2)
theorem told_SS : ∀ (l : List (List Ts)) (js : Bs), js.length = l.length -> okSS l = true -> js.all joinOk = true -> ToldSS l js
 | [], [] => fun _ _ _ => told_ss0
 | [], _ :: _ => fun h => by cases h
 | _ :: _, [] => fun h => by cases h
 | s :: l, j :: js => fun h1 h2 h3 => by
  rw [okSS] at h2
  obtain ⟨h4, h5⟩ := and_t h2
  obtain ⟨h6, h7⟩ := and_t h4
  rw [List.all_cons] at h3
  exact told_ss1 (fun e => by rw [e] at h7; cases h7) (and_t h3).1 (told_S s 0 h6) (told_SS l js (by simpa using h1) h5 (and_t h3).2)
theorem told_P : ∀ p : Pa, okP p = true -> ToldP p
 | .mk [] joins => fun h => by rw [okP] at h; cases h
 | .mk (s :: l) joins => fun h => by
  rw [okP] at h
  obtain ⟨h1, h2⟩ := and_t h
  obtain ⟨h3, h4⟩ := and_t h1
  obtain ⟨-, h5⟩ := and_t h3
  rw [okSS] at h4
  obtain ⟨h6, h7⟩ := and_t h4
  obtain ⟨h8, h9⟩ := and_t h6
  have h10 := of_decide_eq_true h5
  exact told_p (fun e => by rw [e] at h9; cases h9) (told_S s 0 h8) (told_SS l joins (by simpa using h10) h7 h2)
theorem told_L : ∀ l : List Pa, l ≠ [] -> okL l = true -> ToldL l
 | [] => fun h => absurd rfl h
 | [p] => fun _ h => by
  rw [okL] at h
  exact told_l1 (told_P p (and_t h).1)
 | p :: q :: l => fun _ h => by
  rw [okL] at h
  exact told_l2 (told_P p (and_t h).1) (told_L (q :: l) (by simp) (and_t h).2)
end
theorem told_gaps {l : List Pa} (h0 : l ≠ []) (h : okL l = true) (g e : Bs) (G E : List Tk) (hg : ∀ X, HeadX X -> cutP (g ++ X) = G ++ cutP X) (he : cutP e = E) (hG : ∀ t ∈ G, silP t = true) (hE : ∀ t ∈ E, silP t = true /\ EndTk t) (hen : EndN e) :
  ∃ d0 : Nat, ∀ d, d0 <= d -> listF d false [] (cutP (g ++ (listTx l ++ e))) = some (l, []) := by
 obtain ⟨h1, u, K, hu, hcut, d0, hread⟩ := told_L l h0 h
 refine ⟨d0, fun d hd => ?_⟩
 rw [hg _ (h1.app e), hcut e hen, he]
 have := hread d hd false G E [] [] hG (.inl ⟨rfl, hE, rfl⟩)
 rw [List.nil_append] at this
 exact this
theorem told_read {l : List Pa} (h0 : l ≠ []) (h : okL l = true) : ∃ d0 : Nat, ∀ d, d0 <= d -> listF d false [] (cutP (listTx l)) = some (l, []) := by
 have := told_gaps h0 h [] [] [] [] (fun X _ => rfl) cutP_nil (fun t ht => absurd ht List.not_mem_nil) (fun t ht => absurd ht List.not_mem_nil) (.inl rfl)
 simp only [List.nil_append, List.append_nil] at this
 exact this
end sel
end Go.Proofs.YtaobpkffcolobaaGreatDoor
