/- Contracts and plain law, a bundle. -/
import Derived.Lib.Hide
import Derived.Test.YthgffoanecknoaaGreatDoorBA1
import Derived.Test.YthgffoanecknoaaGreatDoorBA2
import Derived.Test.YthgffoanecknoaaGreatDoorBA3
set_option linter.unusedVariables false
set_option maxRecDepth 100000
set_option maxHeartbeats 16000000
open Go.Lib (hid)
namespace Go.Proofs.YthgffoanecknoaaGreatDoor
namespace tok
open Go.RowKit base
theorem number_empty (s : ByteArray) (h0 : s.size = 0) (w : World) :
  Calls Tryz.prog 99 #[.string s] w fun e w' => e = .returned (.tuple #[.int .i64 0, .int .i64 0]) /\ Below w.heap.size w w' := by
 obtain ⟨⟨l⟩⟩ := s
 have hl : l = [] := List.eq_nil_of_length_eq_zero h0
 subst hl
 have c1 : ∀ w, Calls Tryz.prog 141 #[.string ⟨#[]⟩] w fun e w' => e = .returned (.int .i64 0) /\ Below w.heap.size w w' := fun w => digits_ct (⟨#[]⟩ : ByteArray) (show 0 <= maxLen from Nat.zero_le _) w
 have c2 : ∀ w, Calls Tryz.prog 101 #[.string ⟨#[]⟩, .string ⟨#[46]⟩] w fun e w' => e = .returned (.bool false) /\ w = w' := fun w => (Tryz.strings_HasPrefix (⟨#[]⟩ : ByteArray) (bs [46]) w).mono fun e w' ⟨h1, h2⟩ => ⟨h1, h2.symm⟩
 replace c1 := hid c1
 replace c2 := hid c2
 clear h0
 go_enter Tryz.func99, Tryz.ntmps99
 go_wp2_with (first | (go_at_call 141; refine (c1.out _).mono ?_; rintro e w1 ⟨rfl, hb1⟩) | (go_at_call 101; refine (c2.out _).mono ?_; rintro e w2 ⟨rfl, rfl⟩))
 go_ret2
 exact ⟨rfl, hb1⟩
theorem sign_of {s : ByteArray} (h0 : 0 < s.size) : signAt s.data.toList = (if nv s[0] = 43 ∨ nv s[0] = 45 then 1 else 0) /\ negP s.data.toList = decide (nv s[0] = 45) := by
 obtain ⟨⟨l⟩⟩ := s
 match l, h0 with
 | a :: r, _ => exact ⟨rfl, rfl⟩
theorem behind_of (l : Bs) (k : Nat) : behindP (l.drop k) = if Lib.hasPrefix (l.drop k) [46] then digitsP (l.drop (k + 1)) else 0 := by
 rw [Nat.add_comm, <- List.drop_drop, List.drop_drop]
 rcases h : l.drop k with _ | ⟨c, t⟩
 ·rfl
 ·have ht : l.drop (k + 1) = t := by
   have := congrArg (List.drop 1) h
   rw [List.drop_drop] at this
   simpa using this
  rw [Nat.add_comm, ht]
  by_cases hc : nv c = 46
  ·have : c = 46 := by
    apply UInt8.toNat_inj.1
    simp only [nv] at hc
    have : (46 : UInt8).toNat = 46 := rfl
    omega
   subst this
   rfl
  ·have : ¬ c = 46 := fun e => hc (by rw [e]; rfl)
   simp [behindP, Lib.hasPrefix, hc, List.isPrefixOf, Ne.symm this]
theorem number_ct (s : ByteArray) (hs : s.size <= 140737488355328) (w : World) :
  Calls Tryz.prog 99 #[.string s] w fun e w' => e = .returned (.tuple #[.int .i64 (numberP s.data.toList).1, .int .i64 ((numberP s.data.toList).2 : Int)]) /\ Below w.heap.size w w' := by
 rcases Nat.eq_zero_or_pos s.size with h0 | h0
 ·have hn : numberP s.data.toList = (0, 0) := by
   obtain ⟨⟨l⟩⟩ := s
   have hl : l = [] := List.eq_nil_of_length_eq_zero h0
   subst hl
   rfl
  rw [hn]
  exact number_empty s h0 w
 ·obtain ⟨h1, h2⟩ := sign_of h0
  unfold numberP
  rw [h1, h2]
  by_cases a : nv s[0] = 43
  ·rw [if_pos (Or.inl a), decide_eq_false (by omega : ¬ nv s[0] = 45)]
   exact number_plus s hs h0 (by simpa using a) (by simp only [nv] at a; simp; omega) _ _ _ rfl rfl (behind_of _ _) w
  ·by_cases b : nv s[0] = 45
   ·rw [if_pos (Or.inr b), decide_eq_true b]
    exact number_minus s hs h0 (by simpa using a) (by simpa using b) _ _ _ rfl rfl (behind_of _ _) w
   ·rw [if_neg (by omega), decide_eq_false b]
    refine (number_none s hs h0 (by simpa using a) (by simpa using b) _ _ _ rfl rfl ?_ w)
    have := behind_of s.data.toList (0 + digitsP (s.data.toList.drop 0))
    rw [Nat.zero_add] at this
    rw [Nat.zero_add]
    exact this
end tok
namespace tok
open Go.RowKit base
def lowB (c : UInt8) : UInt8 := if 65 <= nv c /\ nv c <= 90 then UInt8.ofNat (c.toNat + 32) else c
theorem lowB_great {c : UInt8} (h : 65 <= nv c /\ nv c <= 90) : nv (lowB c) = nv c + 32 := by
 unfold lowB
 rw [if_pos h]
 simp only [nv] at h ⊢
 rw [UInt8.toNat_ofNat']
 omega
theorem lowB_other {c : UInt8} (h : ¬ (65 <= nv c /\ nv c <= 90)) : lowB c = c := by unfold lowB; rw [if_neg h]
def lowAt (l : Bs) (k : Nat) : Bs := (l.take k).map lowB ++ l.drop k
theorem lowAt_len (l : Bs) (k : Nat) : (lowAt l k).length = l.length := by simp [lowAt]; omega
theorem lowAt_end (l : Bs) : lowAt l l.length = l.map lowB := by simp [lowAt]
theorem lowAt_get {l : Bs} {k : Nat} {c : UInt8} (h : l[k]? = some c) : (lowAt l k)[k]? = some c := by
 obtain ⟨h1, h2⟩ := List.getElem?_eq_some_iff.1 h
 unfold lowAt
 rw [List.getElem?_append_right (by simp; omega)]
 simp
 rw [Nat.min_eq_left (by omega)]
 simpa using h
theorem lowAt_step {l : Bs} {k : Nat} {c : UInt8} (h : l[k]? = some c) : lowAt l (k + 1) = (lowAt l k).set k (lowB c) := by
 obtain ⟨h1, h2⟩ := List.getElem?_eq_some_iff.1 h
 unfold lowAt
 rw [List.take_succ_eq_append_getElem h1, List.map_append, h2, List.drop_eq_getElem_cons h1, h2]
 rw [List.set_append_right _ _ (by simp; omega)]
 simp
 rw [Nat.min_eq_left (by omega)]
 simp
theorem set_same {l : Bs} {k : Nat} {c : UInt8} (h : l[k]? = some c) : l.set k c = l := by
 apply List.ext_getElem?
 intro j
 rw [List.getElem?_set]
 by_cases hj : k = j
 ·subst hj
  have := (List.getElem?_eq_some_iff.1 h).1
  rw [if_pos rfl, if_pos this, h]
 ·rw [if_neg hj]
def BytesAt (w : World) (b : Nat) (l : Bs) : Prop := (∀ (j : Nat) (u : UInt8), l[j]? = some u -> w.cell? ⟨b, j, none⟩ = some (.int .u8 (nv u))) /\ ∀ j, j < l.length -> w.frozen? ⟨b, j, none⟩ = false
theorem BytesAt.put {w : World} {b k : Nat} {l : Bs} {u : UInt8} {x : Int} (h : BytesAt w b l) (hk : k < l.length) (hx : x = nv u) : BytesAt (w.setCell ⟨b, k, none⟩ (.int .u8 x)) b (l.set k u) := by
 subst hx
 refine ⟨fun j v hv => ?_, fun j hj => ?_⟩
 ·rw [List.getElem?_set] at hv
  by_cases hj : k = j
  ·subst hj
   rw [if_pos rfl, if_pos hk] at hv
   obtain rfl := Option.some.inj hv
   have hc := h.1 k l[k] (List.getElem?_eq_getElem hk)
   exact World.cell?_setCell_same' w ⟨b, k, none⟩ _ (by rw [hc]; rfl)
  ·rw [if_neg hj] at hv
   rw [World.cell?_setCell_other w ⟨b, k, none⟩ ⟨b, j, none⟩ _ (by intro e; injection e with _ e2 _; exact hj e2)]
   exact h.1 j v hv
 ·have := h.2 j (by simpa using hj)
  simpa using this
theorem lower_ct (s : ByteArray) (hs : s.size <= 140737488355328) (w : World) : Calls Tryz.prog 143 #[.string s] w fun e w' => e = .returned (.string (bs (s.data.toList.map lowB))) /\ Below w.heap.size w w' := by
 have hz := hid (Lib.size_eq s)
 go_enter Tryz.func143, Tryz.ntmps143
 go_wp2_with fail
 obtain ⟨cp, W1, hcv, hb1, hz1, hby, hfy⟩ := bytes_of s w
 rw [hcv]
 simp only [Result.andThen]
 rw [Oper.upon_value]
 have hB0 := hid (show BytesAt W1 w.heap.size s.data.toList from ⟨hby, fun j hj => hfy j (by rw [hz.out]; exact hj)⟩)
 replace hb1 := hid hb1
 clear hcv hby hfy
 go_wp2_with fail
 go_loopw [10] (fun i wr => ∃ k : Nat, k <= s.size /\ i = .int .i64 k /\ BytesAt wr w.heap.size (lowAt s.data.toList k) /\ W1.grownBy wr (some w.heap.size)) (fun i _ => s.size - (intOf i).toNat)
 case atStart => exact ⟨0, by omega, rfl, by simpa [lowAt] using hB0.out, World.grownBy.refl _ _⟩
 case round =>
  obtain ⟨k, hk, rfl, hby, hgr⟩ := hrel
  replace hgr := hid hgr
  by_cases hlt : k < s.size
  ·have hlt' : (k : Int) < (s.size : Int) := by omega
   obtain ⟨c, hc⟩ : ∃ c, s.data.toList[k]? = some c := ⟨s.data.toList[k]'(by rw [<- Lib.size_eq]; exact hlt), List.getElem?_eq_getElem _⟩
   have hkl : k < (lowAt s.data.toList k).length := by rw [lowAt_len, <- Lib.size_eq]; exact hlt
   have hcell := hby.1 k c (lowAt_get hc)
   have hfr := hby.2 k hkl
   have hst := hid (lowAt_step hc)
   have hsm := hid (set_same (lowAt_get hc))
   have hby' := hid hby
   have c0 := nv_nn c
   have c1 := nv_lt c
   clear hc hby
   by_cases h1 : 65 <= nv c
   ·by_cases h2 : nv c <= 90
    ·have hlo := hid (lowB_great ⟨h1, h2⟩)
     generalize hx : nv c = x at *
     replace hx := hid hx
     go_wp2_with fail
     go_roundw
     case rel =>
      refine ⟨k + 1, by omega, by go_num, ?_, hgr.out.trans (grown_set _ _ _ _)⟩
      rw [hst.out]
      exact hby'.out.put hkl hlo.out.symm
     case measure => simp [intOf]; omega
    ·have hlo := hid (lowB_other (c := c) (fun h => h2 h.2))
     generalize hx : nv c = x at *
     replace hx := hid hx
     go_wp2_with fail
     go_roundw
     case rel => exact ⟨k + 1, by omega, by go_num, by rw [hst.out, hlo.out, hsm.out]; exact hby'.out, hgr.out⟩
     case measure => simp [intOf]; omega
   ·have hlo := hid (lowB_other (c := c) (fun h => h1 h.1))
    generalize hx : nv c = x at *
    replace hx := hid hx
    go_wp2_with fail
    go_roundw
    case rel => exact ⟨k + 1, by omega, by go_num, by rw [hst.out, hlo.out, hsm.out]; exact hby'.out, hgr.out⟩
    case measure => simp [intOf]; omega
  ·obtain rfl : k = s.size := by omega
   have hfin : lowAt s.data.toList s.size = s.data.toList.map lowB := by rw [Lib.size_eq]; exact lowAt_end _
   have hln : (s.data.toList.map lowB).length = s.size := by rw [List.length_map, Lib.size_eq]
   have hcv : ∀ cap, (convert 114 9 (.slice (some ⟨w.heap.size, 0, none⟩) s.size cap)).run Tryz.prog wr = .ok (.string (bs (s.data.toList.map lowB))) wr := fun cap => by
    have := run_convert_bytes_back wr 114 9 5 ⟨w.heap.size, 0, none⟩ cap (s.data.toList.map lowB) Tryz.underlying114 Tryz.underlying5 Tryz.underlying9 (fun j hj => by
     rw [add_zero_block]
     have hb2 := hby.1
     rw [hfin] at hb2
     exact hb2 j _ (List.getElem?_eq_getElem hj))
    rw [hln] at this
    exact this
   have hB := hid (below_grow hb1.out hgr.out (Nat.le_refl _) (by have := hb1.out.size; omega))
   clear hby hfin hln
   go_wp2
   go_ret
   exact ⟨rfl, hB.out⟩
end tok
namespace tok
open Go.RowKit base
structure Tk where
 k : Int
 raw : Bs
 val : Bs
 num : Int
deriving DecidableEq
abbrev Tk.cells (t : Tk) : Array Value := #[.int .i64 t.k, .string (bs t.raw), .string (bs t.val), .int .i64 t.num]
def namedP (k : Int) (l : Bs) (a : Nat) : Tk := ⟨k, l.take (a + (nameP (l.drop a)).2), (nameP (l.drop a)).1, 0⟩
theorem nameP_le : ∀ (n : Nat) (l : Bs), l.length <= n -> (nameP l).2 <= l.length
 | 0, l, h => by
  obtain rfl := List.eq_nil_of_length_eq_zero (Nat.le_zero.1 h)
  simp [nameP]
 | n + 1, [], h => by simp [nameP]
 | n + 1, [c], h => by
  rw [nameP]
  split <;> simp
 | n + 1, c :: d :: r, h => by
  rw [nameP]
  split
  ·have := nameP_le n r (by simp at h; omega)
   simp; omega
  ·split
   ·have := nameP_le n (d :: r) (by simp at h ⊢; omega)
    simp at this ⊢; omega
   ·simp
theorem nameP_val (l : Bs) : (nameP l).1.length <= l.length := by
 have h : ∀ (n : Nat) (l : Bs), l.length <= n -> (nameP l).1.length <= l.length := by
  intro n
  induction n with
  | zero =>
   intro l h
   obtain rfl := List.eq_nil_of_length_eq_zero (Nat.le_zero.1 h)
   simp [nameP]
  | succ n ih =>
   intro l h
   match l, h with
   | [], _ => simp [nameP]
   | [c], _ =>
    rw [nameP]
    split <;> simp
   | c :: d :: r, h =>
    rw [nameP]
    split
    ·have := ih r (by simp at h; omega)
     simp; omega
    ·split
     ·have := ih (d :: r) (by simp at h ⊢; omega)
      simp at this ⊢; omega
     ·simp
 exact h _ l (Nat.le_refl _)
theorem Blk.four {w : World} {k : Nat} {t : TypeId} {a b c d : Value} (h : Blk w k t #[a, b, c, d]) (a' b' c' d' : Value) : Blk ((((w.setCell ⟨k, 0, none⟩ a').setCell ⟨k, 1, none⟩ b').setCell ⟨k, 2, none⟩ c').setCell ⟨k, 3, none⟩ d') k t #[a', b', c', d'] := (((h.put 0 a').put 1 b').put 2 c').put 3 d'
theorem hp_roomc {l : Bs} {k : Nat} {c : UInt8} (h : Lib.hasPrefix (l.drop k) [c] = true) : k + 1 <= l.length := by
 rcases Nat.lt_or_ge k l.length with h1 | h1
 ·omega
 ·rw [List.drop_eq_nil_of_le h1] at h
  simp [Lib.hasPrefix] at h
theorem take_ex (s : ByteArray) (n : Nat) : s.extract 0 n = bs (s.data.toList.take n) := by
 rw [Lib.extract_eq]
 simp [bs]
theorem ret_tok {k k' : Int} {r r' v v' : ByteArray} {n n' : Int} (h1 : k = k') (h2 : r = r') (h3 : v = v') (h4 : n = n') : Ending.returned (.agg #[.int .i64 k, .string r, .string v, .int .i64 n]) = Ending.returned (.agg #[.int .i64 k', .string r', .string v', .int .i64 n']) := by rw [h1, h2, h3, h4]
theorem named_ct (k : Int) (s : ByteArray) (a : Nat) (hs : s.size <= 140737488355328) (ha : a <= s.size) (w : World) : Calls Tryz.prog 97 #[.int .i64 k, .string s, .int .i64 (a : Int)] w fun e w' => e = .returned (.agg (namedP k s.data.toList a).cells) /\ Below w.heap.size w w' := by
 have hsub : (s.extract a s.size).size <= 140737488355328 := by simp only [ByteArray.size_extract]; omega
 have c1 := fun w => name_ct (s.extract a s.size) hsub w
 rw [Lib.extract_to_end] at c1
 have hle := nameP_le _ (s.data.toList.drop a) (Nat.le_refl _)
 rw [List.length_drop, <- Lib.size_eq] at hle
 have hP : namedP k s.data.toList a = ⟨k, s.data.toList.take (a + (nameP (s.data.toList.drop a)).2), (nameP (s.data.toList.drop a)).1, 0⟩ := rfl
 generalize hNP : namedP k s.data.toList a = NP at *
 generalize nameP (s.data.toList.drop a) = V at *
 replace c1 := hid c1
 replace hP := hid hP
 clear hNP
 obtain ⟨V1, V2⟩ := V
 simp only at hle
 go_enter Tryz.func97, Tryz.ntmps97
 go_wp2_with ((go_at_call 140; (with_reducible refine (c1.out _).mono ?_); rintro e w1 ⟨rfl, hb1⟩; have rb := hid (Blk.below (show Blk (w.alloc (.cells #[.int .i64 0, .string ⟨#[]⟩, .string ⟨#[]⟩, .int .i64 0] 92)) w.heap.size 92 #[.int .i64 0, .string ⟨#[]⟩, .string ⟨#[]⟩, .int .i64 0] from Blk.new rfl) hb1 (by simp)); have rc := rb.out.cell; have rf := rb.out.frozen; have hB := hid ((ba w _).trans (hb1.mono (by simp))); clear hb1))
 have e := (Blk.four rb.out (.int .i64 k) (.string (s.extract 0 (a + V2))) (.string (bs V1)) (.int .i64 0)).cell
 refine bodyPost_ret (v := .agg #[.int .i64 k, .string (s.extract 0 (a + V2)), .string (bs V1), .int .i64 0]) (by simp [results, Tryz.results97, go_sem, e]) rfl ⟨?_, ?_⟩
 ·rw [hP.out]
  exact ret_tok rfl (take_ex _ _) rfl rfl
 ·exact (((hB.out.setCell (by simp) _).setCell (by simp) _).setCell (by simp) _).setCell (by simp) _
def numTkP (l : Bs) (num : Int) (n : Nat) : Tk :=
 if Lib.hasPrefix (l.drop n) [37] then ⟨7, l.take (n + 1), [37], num⟩
 else if beginsP (l.drop n) then ⟨7, l.take (n + (nameP (l.drop n)).2), (nameP (l.drop n)).1.map lowB, num⟩
 else ⟨7, l.take n, [], num⟩
theorem number_tk (s : ByteArray) (num : Int) (n : Nat) (hs : s.size <= 140737488355328) (hn : n <= s.size) (w : World) : Calls Tryz.prog 100 #[.string s, .int .i64 num, .int .i64 (n : Int)] w fun e w' => e = .returned (.agg (numTkP s.data.toList num n).cells) /\ Below w.heap.size w w' := by
 have hsub : (s.extract n s.size).size <= 140737488355328 := by simp only [ByteArray.size_extract]; omega
 have c1 := fun w => name_ct (s.extract n s.size) hsub w
 rw [Lib.extract_to_end] at c1
 have c2 := fun w => begins_ct (s.extract n s.size) (by unfold maxLen; omega) w
 rw [Lib.extract_to_end] at c2
 have c3 : ∀ w, Calls Tryz.prog 101 #[.string (s.extract n s.size), .string ⟨#[37]⟩] w fun e w' => e = .returned (.bool (Lib.hasPrefix (s.data.toList.drop n) [37])) /\ w = w' := fun w => by
  have := Tryz.strings_HasPrefix (s.extract n s.size) (bs [37]) w
  rw [Lib.extract_to_end] at this
  exact this.mono fun e w' ⟨h1, h2⟩ => ⟨h1, h2.symm⟩
 have hle := nameP_le _ (s.data.toList.drop n) (Nat.le_refl _)
 rw [List.length_drop, <- Lib.size_eq] at hle
 have hnl := Nat.le_refl (nameP (s.data.toList.drop n)).1.length
 have hP : numTkP s.data.toList num n = if Lib.hasPrefix (s.data.toList.drop n) [37] then ⟨7, s.data.toList.take (n + 1), [37], num⟩
 else if beginsP (s.data.toList.drop n) then ⟨7, s.data.toList.take (n + (nameP (s.data.toList.drop n)).2), (nameP (s.data.toList.drop n)).1.map lowB, num⟩
 else ⟨7, s.data.toList.take n, [], num⟩ := rfl
 generalize hNP : numTkP s.data.toList num n = NP at *
 generalize hpp : Lib.hasPrefix (s.data.toList.drop n) [37] = pp at *
 generalize beginsP (s.data.toList.drop n) = bb at *
 have hnv := nameP_val (s.data.toList.drop n)
 generalize nameP (s.data.toList.drop n) = V at *
 obtain ⟨V1, V2⟩ := V
 simp only at hle hP hnv
 have hVs : (bs V1).size <= 140737488355328 := by
  rw [List.length_drop, <- Lib.size_eq] at hnv
  show V1.length <= _
  omega
 have c4 : ∀ w, Calls Tryz.prog 143 #[.string (bs V1)] w fun e w' => e = .returned (.string (bs (V1.map lowB))) /\ Below w.heap.size w w' := fun w => lower_ct (bs V1) hVs w
 replace c4 := hid c4
 replace c1 := hid c1
 replace c2 := hid c2
 replace c3 := hid c3
 clear hNP hnl hnv
 cases pp
 ·replace hpp := hid hpp
  cases bb
  ·replace hP := hid hP
   go_enter Tryz.func100, Tryz.ntmps100
   go_wp2_with (first | (go_at_call 101; (with_reducible refine (c3.out _).mono ?_); rintro e w1 ⟨rfl, rfl⟩) | (go_at_call 98; (with_reducible refine (c2.out _).mono ?_); rintro e w1 ⟨rfl, rfl⟩))
   refine bodyPost_ret (v := .agg #[.int .i64 7, .string (s.extract 0 n), .string ⟨#[]⟩, .int .i64 num]) (by simp [results, Tryz.results100, go_sem]) rfl ⟨?_, (ba _ _).alloc (by simp) _⟩
   rw [hP.out]
   exact ret_tok rfl (take_ex _ _) rfl rfl
  ·replace hP := hid hP
   go_enter Tryz.func100, Tryz.ntmps100
   go_wp2_with (first | (go_at_call 101; (with_reducible refine (c3.out _).mono ?_); rintro e w1 ⟨rfl, rfl⟩) | (go_at_call 98; (with_reducible refine (c2.out _).mono ?_); rintro e w1 ⟨rfl, rfl⟩) | (go_at_call 140; (with_reducible refine (c1.out _).mono ?_); rintro e W1 ⟨rfl, hb1⟩))
   have rb0 := hid (Blk.below (show Blk ((w.alloc (.cells #[.int .i64 0, .string ⟨#[]⟩, .string ⟨#[]⟩, .int .i64 0] 92)).alloc (.cells #[.int .i64 7, .string (s.extract 0 n), .string ⟨#[]⟩, .int .i64 num] 92)) w.heap.size 92 #[.int .i64 0, .string ⟨#[]⟩, .string ⟨#[]⟩, .int .i64 0] from (Blk.new rfl).alloc _) hb1 (by simp; omega))
   have rb1 := hid (Blk.below (show Blk ((w.alloc (.cells #[.int .i64 0, .string ⟨#[]⟩, .string ⟨#[]⟩, .int .i64 0] 92)).alloc (.cells #[.int .i64 7, .string (s.extract 0 n), .string ⟨#[]⟩, .int .i64 num] 92)) (w.heap.size + 1) 92 #[.int .i64 7, .string (s.extract 0 n), .string ⟨#[]⟩, .int .i64 num] from Blk.new (by simp)) hb1 (by simp))
   have hB1 := hid (((ba w _).alloc (by simp) _).trans (hb1.mono (by simp; omega)))
   have hz1 := hb1.size
   simp at hz1
   clear hb1
   have hnk : n + V2 <= s.size := by omega
   have hnk1 : (n : Int) + (V2 : Int) <= (s.size : Int) := by omega
   have hnk2 : (0 : Int) <= (n : Int) + (V2 : Int) := by omega
   have hwr := IntWalk.i64_in ((n : Int) + (V2 : Int)) (by omega)
   have htn : ((n : Int) + (V2 : Int)).toNat = n + V2 := by omega
   go_region_held3 (fun w' => True) (trivial)
    ((go_at_call 143; (with_reducible refine (c4.out _).mono ?_); rintro e W2 ⟨rfl, hb2⟩; have rb2 := hid (Blk.below rb0.out.drew hb2 (by simp; omega)); have rb3 := hid (Blk.below rb1.out.drew hb2 (by simp; omega)); have hB2 := hid (hB1.out.drew.trans (hb2.mono (by simp; omega))); have rc := rb3.out.cell; have rf := rb3.out.frozen; clear hb2))
   all_goals
    have rc0 := rb2.out.cell
    have rf0 := rb2.out.frozen
    have z2 := rb3.out.lt
    go_wp2
    have e := Blk.cell (Blk.four (Blk.far (Blk.far rb2.out (p := ⟨w.heap.size + 1, 1, none⟩) (by simp) (.string (s.extract 0 (n + V2)))) (p := ⟨w.heap.size + 1, 2, none⟩) (by simp) (.string (bs (V1.map lowB)))) (.int .i64 7) (.string (s.extract 0 (n + V2))) (.string (bs (V1.map lowB))) (.int .i64 num))
    refine bodyPost_ret (v := .agg #[.int .i64 7, .string (s.extract 0 (n + V2)), .string (bs (V1.map lowB)), .int .i64 num]) (by simp [results, Tryz.results100, go_sem, e]) rfl ⟨?_, ?_⟩
    ·rw [hP.out]
     exact ret_tok rfl (take_ex _ _) rfl rfl
    ·exact (((((hB2.out.setCell (by simp) _).setCell (by simp) _).setCell (by simp) _).setCell (by simp) _).setCell (by simp) _).setCell (by simp) _
 ·have hr := hp_roomc hpp
  rw [<- Lib.size_eq] at hr
  replace hP := hid hP
  replace hpp := hid hpp
  go_enter Tryz.func100, Tryz.ntmps100
  go_wp2_with ((go_at_call 101; (with_reducible refine (c3.out _).mono ?_); rintro e w1 ⟨rfl, rfl⟩))
  refine bodyPost_ret (v := .agg #[.int .i64 7, .string (s.extract 0 (n + 1)), .string ⟨#[37]⟩, .int .i64 num]) (by simp [results, Tryz.results100, go_sem]) rfl ⟨?_, (ba _ _).alloc (by simp) _⟩
  rw [hP.out]
  exact ret_tok rfl (take_ex _ _) rfl rfl
end tok
namespace tok
open Go.RowKit
abbrev rTk (t : Tk) : Array Value := #[.int .i64 t.k, .string (bs t.raw), .string (bs t.val), .int .i64 t.num]
abbrev oTk (t : Tk) : Obj := .cells #[.int .i64 t.k, .string (bs t.raw), .string (bs t.val), .int .i64 t.num] 92
abbrev aTk (t : Tk) : Value := .agg #[.int .i64 t.k, .string (bs t.raw), .string (bs t.val), .int .i64 t.num]
abbrev rTs (k : Int) (n : ByteArray) (o : Int) (v : ByteArray) (a b : Int) (A : Option Addr) (m c : Nat) : Array Value := #[.int .i64 k, .string n, .int .u8 o, .string v, .int .i64 a, .int .i64 b, .slice A m c]
abbrev oTs (k : Int) (n : ByteArray) (o : Int) (v : ByteArray) (a b : Int) (A : Option Addr) (m c : Nat) : Obj := .cells #[.int .i64 k, .string n, .int .u8 o, .string v, .int .i64 a, .int .i64 b, .slice A m c] 0
abbrev aTs (k : Int) (n : ByteArray) (o : Int) (v : ByteArray) (a b : Int) (A : Option Addr) (m c : Nat) : Value := .agg #[.int .i64 k, .string n, .int .u8 o, .string v, .int .i64 a, .int .i64 b, .slice A m c]
abbrev oZ : Obj := oTs 0 ⟨#[]⟩ 0 ⟨#[]⟩ 0 0 none 0 0
abbrev rZ : Array Value := rTs 0 ⟨#[]⟩ 0 ⟨#[]⟩ 0 0 none 0 0
abbrev oN (n : ByteArray) : Obj := oTs 5 n 0 ⟨#[]⟩ 0 0 none 0 0
abbrev rN (n : ByteArray) : Array Value := rTs 5 n 0 ⟨#[]⟩ 0 0 none 0 0
abbrev rt (w : World) (v : Value) : Ending → World → Prop := fun e w' => e = .returned v ∧ Below w.heap.size w w'
end tok

namespace tok
open Go.RowKit base
def textR (q : UInt8) : Bs -> Int × Nat × Bs
 | [] => (6, 0, [])
 | [c] => if nv c = nv q then (5, 1, []) else if nv c = 10 then (6, 0, []) else (6, 1, [c])
 | c :: d :: r => if nv c = nv q then (5, 1, []) else if nv c = 10 then (6, 0, []) else
   if nv c = 92 then ((textR q r).1, (textR q r).2.1 + 2, d :: (textR q r).2.2) else ((textR q (d :: r)).1, (textR q (d :: r)).2.1 + 1, c :: (textR q (d :: r)).2.2)
termination_by l => l.length
def textP : Bs -> Tk
 | [] => ⟨6, [], [], 0⟩
 | q :: r => ⟨(textR q r).1, (q :: r).take (1 + (textR q r).2.1), if (textR q r).1 = 5 then (textR q r).2.2 else [], 0⟩
theorem tx_end (q : UInt8) {s : ByteArray} {k : Nat} (h : s.size <= k) : textR q (s.data.toList.drop k) = (6, 0, []) := by rw [drop_nil h, textR]
theorem tx_close (q : UInt8) {s : ByteArray} {k : Nat} (h : k < s.size) (hq : nv s[k] = nv q) : textR q (s.data.toList.drop k) = (5, 1, []) := by
 rw [drop_cons h]
 rcases s.data.toList.drop (k + 1) with _ | ⟨d, r⟩ <;> rw [textR, if_pos hq]
theorem tx_nl (q : UInt8) {s : ByteArray} {k : Nat} (h : k < s.size) (hq : ¬ nv s[k] = nv q) (hn : nv s[k] = 10) : textR q (s.data.toList.drop k) = (6, 0, []) := by
 rw [drop_cons h]
 rcases s.data.toList.drop (k + 1) with _ | ⟨d, r⟩ <;> rw [textR, if_neg hq, if_pos hn]
theorem tx_esc (q : UInt8) {s : ByteArray} {k : Nat} (h : k + 1 < s.size) (hq : ¬ nv s[k] = nv q) (hn : ¬ nv s[k] = 10) (hb : nv s[k] = 92) : textR q (s.data.toList.drop k) = ((textR q (s.data.toList.drop (k + 2))).1, (textR q (s.data.toList.drop (k + 2))).2.1 + 2, s[k + 1] :: (textR q (s.data.toList.drop (k + 2))).2.2) := by
 rw [drop_cons (k := k) (by omega), drop_cons (k := k + 1) h, textR, if_neg hq, if_neg hn, if_pos hb]
theorem tx_other (q : UInt8) {s : ByteArray} {k : Nat} (h : k < s.size) (hq : ¬ nv s[k] = nv q) (hn : ¬ nv s[k] = 10) (hb : ¬ nv s[k] = 92 ∨ s.size <= k + 1) : textR q (s.data.toList.drop k) = ((textR q (s.data.toList.drop (k + 1))).1, (textR q (s.data.toList.drop (k + 1))).2.1 + 1, s[k] :: (textR q (s.data.toList.drop (k + 1))).2.2) := by
 rcases Nat.lt_or_ge (k + 1) s.size with h1 | h1
 ·have hb' : ¬ nv s[k] = 92 := hb.resolve_right (by omega)
  rw [drop_cons (k := k) h, drop_cons (k := k + 1) h1, textR, if_neg hq, if_neg hn, if_neg hb']
 ·rw [drop_cons h, drop_nil h1]
  simp [textR, hq, hn]
theorem textP_of {s : ByteArray} (h : 0 < s.size) : textP s.data.toList = ⟨(textR s[0] (s.data.toList.drop 1)).1, s.data.toList.take (1 + (textR s[0] (s.data.toList.drop 1)).2.1), if (textR s[0] (s.data.toList.drop 1)).1 = 5 then (textR s[0] (s.data.toList.drop 1)).2.2 else [], 0⟩ := by
 obtain ⟨⟨l⟩⟩ := s
 match l, h with
 | a :: r, _ => rfl
def TextRel (s : ByteArray) (q : UInt8) (w : World) (i : Value) (wr : World) : Prop :=
 ∃ (k : Nat) (acc : Bs), 1 <= k /\ k <= s.size /\ i = .int .i64 k /\ acc.length <= k /\
  textR q (s.data.toList.drop 1) = ((textR q (s.data.toList.drop k)).1, k - 1 + (textR q (s.data.toList.drop k)).2.1, acc ++ (textR q (s.data.toList.drop k)).2.2) /\
  IsB (w.heap.size + 1) (w.heap.size + 1) acc wr /\ Blk wr w.heap.size 92 #[.int .i64 0, .string ⟨#[]⟩, .string ⟨#[]⟩, .int .i64 0] /\ Below w.heap.size w wr /\ w.heap.size + 1 <= wr.heap.size
theorem text_ct (s : ByteArray) (hs : s.size <= 140737488355328) (h0 : 0 < s.size) (w : World) : Calls Tryz.prog 94 #[.string s] w (rt w (.agg (textP s.data.toList).cells)) := by
 have hP := textP_of h0
 generalize hNP : textP s.data.toList = NP at *
 obtain ⟨q, hq⟩ : ∃ q, q = s[0] := ⟨_, rfl⟩
 rw [<- hq] at hP
 replace hq := hid hq
 replace hP := hid hP
 clear hNP
 go_enter Tryz.func94, Tryz.ntmps94
 go_wp2_with fail
 go_loopw [4] (fun i wr => TextRel s q w i wr) (fun i _ => s.size - (intOf i).toNat)
 case atStart =>
  refine ⟨1, [], by omega, by omega, rfl, by simp, by simp, ?_, (Blk.new rfl).alloc _, (ba _ _).alloc (by simp) _, by simp⟩
  have := IsB.new (w.alloc (.cells #[.int .i64 0, .string ⟨#[]⟩, .string ⟨#[]⟩, .int .i64 0] 92)) (w.heap.size + 1) (by simp)
  simpa using this
 case round =>
  obtain ⟨k, acc, hk1, hk, rfl, hal, hinv, hB, hrb, hbel, hz⟩ := hrel
  have HBl := hid hbel
  replace hB := hid hB
  replace hrb := hid hrb
  replace hinv := hid hinv
  clear hbel
  by_cases hlt : k < s.size
  ·have hlt' : (k : Int) < (s.size : Int) := by omega
   by_cases hq1 : nv s[k] = nv q
   ·have ht1 : ((s[k].toNat : Int) == (s[0].toNat : Int)) = true := by rw [hq.out] at hq1; simpa using hq1
    have hst := hid (tx_close q hlt hq1)
    replace hq1 := hid hq1
    have hwr := IntWalk.i64_in ((k : Int) + 1) (by omega)
    have htn : ((k : Int) + 1).toNat = k + 1 := by omega
    have hk2 : (k : Int) + 1 <= (s.size : Int) := by omega
    have hk3 : (0 : Int) <= (k : Int) + 1 := by omega
    have hBd := hid (show IsB (w.heap.size + 1) (w.heap.size + 1) acc wr.drew from hB.out)
    have hzd : w.heap.size + 1 <= wr.drew.heap.size := hz
    go_wp2_with fail
    go_region_held3 (fun w' => True) (trivial)
     ((go_at_call 81; (with_reducible refine (builderString_ct _ _ acc _ hBd.out hzd).mono ?_); rintro e W2 ⟨rfl, hb2⟩; have rb2 := hid (Blk.below hrb.out.drew hb2 (by omega)); have hB2 := hid (HBl.out.drew.trans (hb2.mono (by omega))); have rc := rb2.out.cell; have rf := rb2.out.frozen; clear hb2))
    go_wp2
    have e := (Blk.four rb2.out (.int .i64 5) (.string (s.extract 0 (k + 1))) (.string ⟨acc.toArray⟩) (.int .i64 0)).cell
    refine bodyPost_ret (v := .agg #[.int .i64 5, .string (s.extract 0 (k + 1)), .string ⟨acc.toArray⟩, .int .i64 0]) (by simp [results, Tryz.results94, go_sem, e]) rfl ⟨?_, ?_⟩
    ·rw [hP.out, hinv.out, hst.out]
     refine ret_tok rfl ((take_ex _ _).trans ?_) (by simp [bs]) rfl
     rw [show 1 + (k - 1 + 1) = k + 1 by omega]
    ·exact (((hB2.out.setCell (by simp) _).setCell (by simp) _).setCell (by simp) _).setCell (by simp) _
   ·have ht1 : ((s[k].toNat : Int) == (s[0].toNat : Int)) = false := by rw [hq.out] at hq1; simpa using hq1
    by_cases hn1 : nv s[k] = 10
    ·have ht2 : ((s[k].toNat : Int) == 10) = true := by simpa using hn1
     have hst := hid (tx_nl q hlt hq1 hn1)
     replace hq1 := hid hq1
     replace hn1 := hid hn1
     have rc := hrb.out.cell
     have rf := hrb.out.frozen
     go_wp2
     have e := (Blk.four hrb.out (.int .i64 6) (.string (s.extract 0 k)) (.string ⟨#[]⟩) (.int .i64 0)).cell
     refine bodyPost_ret (v := .agg #[.int .i64 6, .string (s.extract 0 k), .string ⟨#[]⟩, .int .i64 0]) (by simp [results, Tryz.results94, go_sem, e]) rfl ⟨?_, ?_⟩
     ·rw [hP.out, hinv.out, hst.out]
      refine ret_tok rfl ((take_ex _ _).trans ?_) (by simp [bs]) rfl
      rw [show 1 + (k - 1 + 0) = k by omega]
     ·exact (((HBl.out.setCell (by simp) _).setCell (by simp) _).setCell (by simp) _).setCell (by simp) _
    ·have ht2 : ((s[k].toNat : Int) == 10) = false := by simpa using hn1
     by_cases hb1 : nv s[k] = 92 /\ k + 1 < s.size
     ·obtain ⟨hb1, hb2⟩ := hb1
      have ht3 : ((s[k].toNat : Int) == 92) = true := by simpa using hb1
      have hst := hid (tx_esc q hb2 hq1 hn1 hb1)
      have hb3 : (k : Int) + 1 < (s.size : Int) := by omega
      replace hq1 := hid hq1
      replace hn1 := hid hn1
      replace hb1 := hid hb1
      go_wp2_with ((go_at_call 80; (with_reducible refine (writeByte_ct _ _ acc s[k + 1] _ hB.out (by omega) hz).mono ?_); rintro e w1 ⟨rfl, hb0, hbw⟩; replace hb0 := hid hb0; replace hbw := hid hbw))
      go_roundw
      case rel =>
       refine ⟨k + 2, acc ++ [s[k + 1]], by omega, by omega, by go_num, by simp; omega, ?_, hb0.out, hrb.out.below hbw.out (by omega), HBl.out.trans (hbw.out.mono (by omega)), Nat.le_trans hz hbw.out.size⟩
       rw [hinv.out, hst.out]
       simp
       omega
      case measure => simp [intOf]; omega
     ·have hst := hid (tx_other q hlt hq1 hn1 (by omega))
      replace hq1 := hid hq1
      replace hn1 := hid hn1
      by_cases hb2 : nv s[k] = 92
      ·have hb4 : ¬ (k + 1 < s.size) := fun h => hb1 ⟨hb2, h⟩
       have hb3 : ¬ ((k : Int) + 1 < (s.size : Int)) := by omega
       have ht3 : ((s[k].toNat : Int) == 92) = true := by simpa using hb2
       replace hb2 := hid hb2
       clear hb1
       go_wp2_with ((go_at_call 80; (with_reducible refine (writeByte_ct _ _ acc s[k] _ hB.out (by omega) hz).mono ?_); rintro e w1 ⟨rfl, hb0, hbw⟩; replace hb0 := hid hb0; replace hbw := hid hbw))
       go_roundw
       case rel =>
        refine ⟨k + 1, acc ++ [s[k]], by omega, by omega, by go_num, by simp; omega, ?_, hb0.out, hrb.out.below hbw.out (by omega), HBl.out.trans (hbw.out.mono (by omega)), Nat.le_trans hz hbw.out.size⟩
        rw [hinv.out, hst.out]
        simp
        omega
       case measure => simp [intOf]; omega
      ·have ht3 : ((s[k].toNat : Int) == 92) = false := by simpa using hb2
       replace hb2 := hid hb2
       clear hb1
       go_wp2_with ((go_at_call 80; (with_reducible refine (writeByte_ct _ _ acc s[k] _ hB.out (by omega) hz).mono ?_); rintro e w1 ⟨rfl, hb0, hbw⟩; replace hb0 := hid hb0; replace hbw := hid hbw))
       go_roundw
       case rel =>
        refine ⟨k + 1, acc ++ [s[k]], by omega, by omega, by go_num, by simp; omega, ?_, hb0.out, hrb.out.below hbw.out (by omega), HBl.out.trans (hbw.out.mono (by omega)), Nat.le_trans hz hbw.out.size⟩
        rw [hinv.out, hst.out]
        simp
        omega
       case measure => simp [intOf]; omega
  ·obtain rfl : k = s.size := by omega
   have hst := hid (tx_end q (Nat.le_refl s.size))
   have rc := hrb.out.cell
   have rf := hrb.out.frozen
   go_wp2
   have e := (Blk.four hrb.out (.int .i64 6) (.string s) (.string ⟨#[]⟩) (.int .i64 0)).cell
   refine bodyPost_ret (v := .agg #[.int .i64 6, .string s, .string ⟨#[]⟩, .int .i64 0]) (by simp [results, Tryz.results94, go_sem, e]) rfl ⟨?_, ?_⟩
   ·rw [hP.out, hinv.out, hst.out]
    refine ret_tok rfl ?_ (by simp [bs]) rfl
    rw [show 1 + (s.size - 1 + 0) = s.size by omega, List.take_of_length_le (by rw [<- Lib.size_eq]; omega)]
    exact (Lib.mk_data s).symm
   ·exact (((HBl.out.setCell (by simp) _).setCell (by simp) _).setCell (by simp) _).setCell (by simp) _
end tok
namespace tok
open Go.RowKit base
def blankB (c : UInt8) : Bool := ([32, 9, 10, 12, 13] : List UInt8).contains c
def spaceP (l : Bs) : Nat := (l.takeWhile blankB).length
def noteP (l : Bs) : Tk := ⟨9, if 0 <= Lib.index (l.drop 2) [42, 47] then l.take ((Lib.index (l.drop 2) [42, 47]).toNat + 4) else l, [], 0⟩
def quoteP : Bs -> Bool
 | c :: _ => decide (nv c = 39 ∨ nv c = 34)
 | [] => false
def hashP : Bs -> Bool
 | c :: d :: r => decide (nv c = 35) && (signI (nv d) || escP (d :: r))
 | _ => false
def atP : Bs -> Bool
 | c :: r => decide (nv c = 64) && beginsP r
 | [] => false
def oneK : Bs -> Int
 | c :: _ => if nv c = 40 ∨ nv c = 91 ∨ nv c = 123 then 10 else if nv c = 41 ∨ nv c = 93 ∨ nv c = 125 then 11 else if nv c = 92 then 6 else 12
 | [] => 12
def wordP (l : Bs) : Tk :=
 if Lib.hasPrefix (l.drop (namedP 1 l 0).raw.length) [40] then ⟨2, l.take ((namedP 1 l 0).raw.length + 1), (namedP 1 l 0).val, (namedP 1 l 0).num⟩ else namedP 1 l 0
def firstP (l : Bs) : Tk :=
 if 0 < spaceP l then ⟨8, l.take (spaceP l), [], 0⟩ else
 if Lib.hasPrefix l [47, 42] then noteP l else
 if quoteP l then textP l else
 if hashP l then namedP 4 l 1 else
 if atP l then namedP 3 l 1 else
 if 0 < (numberP l).2 then numTkP l (numberP l).1 (numberP l).2 else
 if beginsP l then wordP l else ⟨oneK l, l.take 1, [], 0⟩
theorem space_len (l : Bs) : (Lib.trimLeftS l [32, 9, 10, 12, 13]).length + spaceP l = l.length := by
 have h := cut_len blankB l
 have e : Lib.trimLeftS l [32, 9, 10, 12, 13] = l.dropWhile blankB := by
  unfold Lib.trimLeftS blankB
  rfl
 rw [e]
 unfold spaceP
 omega
theorem digitsP_zero {c : UInt8} {r : Bs} (h : digI (nv c) = false) : digitsP (c :: r) = 0 := by
 unfold digitsP
 rw [List.takeWhile_cons_of_neg (by simpa using h)]
 rfl
theorem number_no {c : UInt8} {r : Bs} (h1 : ¬ nv c = 43) (h2 : ¬ nv c = 45) (h3 : ¬ nv c = 46) (h4 : digI (nv c) = false) : (numberP (c :: r)).2 = 0 := by
 have hs : signAt (c :: r) = 0 := by simp [signAt, h1, h2]
 unfold numberP
 rw [hs, List.drop_zero, digitsP_zero h4]
 have hb : behindP ((c :: r).drop (0 + 0)) = 0 := by simp [behindP, h3]
 rw [hb]
 rfl
theorem number_no' {l : Bs} {c : UInt8} (h : l.head? = some c) (hn : 0 < (numberP l).2) : ¬ nv c = 35 /\ ¬ nv c = 64 /\ ¬ nv c = 39 /\ ¬ nv c = 34 := by
 match l, h with
 | a :: r, h =>
  obtain rfl : a = c := by simpa using h
  refine ⟨fun e => ?_, fun e => ?_, fun e => ?_, fun e => ?_⟩ <;>
  ·have := number_no (c := a) (r := r) (by omega) (by omega) (by omega) (by simp [digI]; omega)
   omega
theorem begins_no' {l : Bs} {c : UInt8} (h : l.head? = some c) (hn : beginsP l = true) : ¬ nv c = 35 /\ ¬ nv c = 64 /\ ¬ nv c = 39 /\ ¬ nv c = 34 := by
 have key : ∀ x : Int, x = nv c -> (x = 35 ∨ x = 64 ∨ x = 39 ∨ x = 34) -> False := by
  intro x hx hv
  match l, h with
  | [a], h =>
   obtain rfl : a = c := by simpa using h
   simp only [beginsP, startsI, decide_eq_true_eq] at hn
   omega
  | a :: d :: r, h =>
   obtain rfl : a = c := by simpa using h
   have h45 : ¬ nv a = 45 := by omega
   simp only [beginsP, if_neg h45, startsI, escP, Bool.or_eq_true, Bool.and_eq_true, decide_eq_true_eq] at hn
   omega
 exact ⟨fun e => key _ rfl (Or.inl e), fun e => key _ rfl (Or.inr (Or.inl e)), fun e => key _ rfl (Or.inr (Or.inr (Or.inl e))), fun e => key _ rfl (Or.inr (Or.inr (Or.inr e)))⟩
theorem head_of {s : ByteArray} (h : 0 < s.size) : s.data.toList.head? = some s[0] := by
 obtain ⟨⟨l⟩⟩ := s
 match l, h with
 | a :: r, _ => rfl
theorem quote_of {s : ByteArray} (h : 0 < s.size) : quoteP s.data.toList = decide (nv s[0] = 39 ∨ nv s[0] = 34) := by
 obtain ⟨⟨l⟩⟩ := s
 match l, h with
 | a :: r, _ => rfl
theorem hash_long {s : ByteArray} (h : 1 < s.size) : hashP s.data.toList = (decide (nv (s[0]'(by omega)) = 35) && (signI (nv s[1]) || escP (s.extract 1 s.size).data.toList)) := by
 rw [Lib.extract_to_end]
 obtain ⟨⟨l⟩⟩ := s
 match l, h with
 | a :: b :: r, _ => rfl
theorem hash_short {s : ByteArray} (h : s.size <= 1) : hashP s.data.toList = false := by
 obtain ⟨⟨l⟩⟩ := s
 match l, h with
 | [], _ => rfl
 | [a], _ => rfl
theorem at_of {s : ByteArray} (h : 0 < s.size) : atP s.data.toList = (decide (nv s[0] = 64) && beginsP (s.extract 1 s.size).data.toList) := by
 rw [Lib.extract_to_end]
 obtain ⟨⟨l⟩⟩ := s
 match l, h with
 | a :: r, _ => rfl
theorem one_of {s : ByteArray} (h : 0 < s.size) : oneK s.data.toList = if nv s[0] = 40 ∨ nv s[0] = 91 ∨ nv s[0] = 123 then 10 else if nv s[0] = 41 ∨ nv s[0] = 93 ∨ nv s[0] = 125 then 11 else if nv s[0] = 92 then 6 else 12 := by
 obtain ⟨⟨l⟩⟩ := s
 match l, h with
 | a :: r, _ => rfl
def MaxL (w : World) : Prop := ∃ m, w.cell? ⟨1, 0, none⟩ = some (.int .i64 m)
theorem MaxL.lt {w : World} (h : MaxL w) : 1 < w.heap.size := by
 obtain ⟨m, hm⟩ := h
 exact World.block_lt_of_cell? w _ hm
theorem MaxL.on {w w' : World} {B : Nat} (h : MaxL w) (hb : Below B w w') (hB : 1 < B) : MaxL w' := by
 obtain ⟨m, hm⟩ := h
 exact ⟨m, (hb.cell (p := ⟨1, 0, none⟩) hB).trans hm⟩
end tok
namespace tok
open Go.RowKit base
theorem first_space (s : ByteArray) (hs : s.size < 4294967281) (h0 : 0 < s.size) (w : World) (hsp : 0 < spaceP s.data.toList) :
  Calls Tryz.prog 64 #[.string s] w (rt w (.agg (firstP s.data.toList).cells)) := by
 have hsl := space_len s.data.toList
 rw [<- Lib.size_eq] at hsl
 have cT := fun w => trimL_ct s [32, 9, 10, 12, 13] (by decide) (by decide) w
 have hP : firstP s.data.toList = if 0 < spaceP s.data.toList then ⟨8, s.data.toList.take (spaceP s.data.toList), [], 0⟩ else
  if Lib.hasPrefix s.data.toList [47, 42] then noteP s.data.toList else
  if quoteP s.data.toList then textP s.data.toList else
  if hashP s.data.toList then namedP 4 s.data.toList 1 else
  if atP s.data.toList then namedP 3 s.data.toList 1 else
  if 0 < (numberP s.data.toList).2 then numTkP s.data.toList (numberP s.data.toList).1 (numberP s.data.toList).2 else
  if beginsP s.data.toList then wordP s.data.toList else ⟨oneK s.data.toList, s.data.toList.take 1, [], 0⟩ := rfl
 generalize hNP : firstP s.data.toList = NP at *
 clear hNP
 generalize hTT : Lib.trimLeftS s.data.toList [32, 9, 10, 12, 13] = T at *
 clear hTT
 replace cT := hid cT
 rw [if_pos hsp] at hP
 have hsl1 : (T.length : Int) < (s.size : Int) := by omega
 have hsl2 : spaceP s.data.toList = s.size - T.length := by omega
 rw [hsl2] at hP
 replace hP := hid hP
 clear hsp hsl hsl2
 go_enter Tryz.func64, Tryz.ntmps64
 go_wp2_with fail
 generalize hW0 : (w.alloc (.cells #[.string s] 9)).alloc (.cells #[.int .i64 0, .string ⟨#[]⟩, .string ⟨#[]⟩, .int .i64 0] 92) = W0
 have HB0 := hid (show Below w.heap.size w W0 by subst hW0; exact (ba _ _).alloc (by simp) _)
 have HZ : w.heap.size + 2 <= W0.heap.size := by subst hW0; simp
 have sB0 := hid (show Blk W0 w.heap.size 9 #[.string s] by subst hW0; exact (Blk.new rfl).alloc _)
 have rB0 := hid (show Blk W0 (w.heap.size + 1) 92 #[.int .i64 0, .string ⟨#[]⟩, .string ⟨#[]⟩, .int .i64 0] by subst hW0; exact Blk.new (by simp))
 have c0 : W0.cell? ⟨w.heap.size, 0, none⟩ = some (.string s) := sB0.out.cell 0
 clear hW0
 go_region_held3 (fun w' => (∀ b o, b < w.heap.size + 2 -> w'.cell? ⟨b, o, none⟩ = W0.cell? ⟨b, o, none⟩) /\ Below (w.heap.size + 2) W0 w')
  (first | exact As.beg | assumption | exact As.on hb3 (by assumption) HZ | exact As.alloc (by assumption) HZ)
  ((go_at_call 92; (with_reducible refine (cT.out _).mono ?_); rintro e W1 ⟨rfl, hb3⟩; have hS := hid (As.on (B := w.heap.size + 2) (W0 := W0) hb3 As.beg HZ)))
 all_goals
  rename_i hHeld
  clear hHeld
  have HB1 := hid (HB0.out.trans (hS.out.2.mono (by omega)))
  have sB := hid (sB0.out.below hS.out.2 (by omega))
  have rB := hid (rB0.out.below hS.out.2 (by omega))
  have rC := rB.out.cell
  have rF := rB.out.frozen
  have sF := sB.out.frozen
  have sz1 := rB.out.lt
  clear sB0 rB0 HB0 hS c0 hb3
  have sC := sB.out.cell
  go_wp2
  have e := Blk.cell (Blk.four (rB.out) (.int .i64 8) (.string (s.extract 0 (s.size - T.length))) (.string ⟨#[]⟩) (.int .i64 0))
  refine bodyPost_ret (v := .agg #[.int .i64 8, .string (s.extract 0 (s.size - T.length)), .string ⟨#[]⟩, .int .i64 0]) (by simp [results, Tryz.results64, go_sem, e]) rfl ⟨?_, ?_⟩
  ·rw [hP.out]
   exact ret_tok rfl (take_ex _ _) rfl rfl
  ·exact (((HB1.out.setCell (by simp) _).setCell (by simp) _).setCell (by simp) _).setCell (by simp) _
end tok
end Go.Proofs.YthgffoanecknoaaGreatDoor
