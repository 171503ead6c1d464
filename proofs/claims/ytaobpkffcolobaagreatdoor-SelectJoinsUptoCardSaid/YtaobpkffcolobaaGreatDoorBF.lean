/- Contracts and plain law, a bundle. -/
import Derived.Lib.Hide
import Derived.Test.YtaobpkffcolobaaGreatDoorBE3
import Derived.Test.YtaobpkffcolobaaGreatDoorBD1
set_option linter.unusedVariables false
set_option maxRecDepth 100000
set_option maxHeartbeats 16000000
open Go.Lib (hid)
namespace Go.Proofs.YtaobpkffcolobaaGreatDoor
namespace sel
open Go.RowKit base tok rul
theorem pas_at {X : Nat -> Prop} {w : World} {c : Nat} : ∀ {l : List Pa} {o i : Nat} {p : Pa}, PasAt X w c o l -> l[i]? = some p -> ∃ x0 x1, w.cell? ⟨c, o + i * 2, none⟩ = some x0 /\ w.cell? ⟨c, o + i * 2 + 1, none⟩ = some x1 /\ PaAt X w p [x0, x1]
 | [], o, i, p, h, hi => by cases hi
 | a :: l, o, 0, p, h, hi => by
  rw [PasAt] at h
  obtain ⟨⟨x0, x1, c0, c1, hp⟩, -⟩ := h
  obtain rfl := Option.some.inj hi
  exact ⟨x0, x1, by simpa using c0, by simpa using c1, hp⟩
 | a :: l, o, i + 1, p, h, hi => by
  rw [PasAt] at h
  obtain ⟨x0, x1, c0, c1, hp⟩ := pas_at h.2 (i := i) hi
  have e : o + 2 + i * 2 = o + (i + 1) * 2 := by omega
  rw [e] at c0 c1
  exact ⟨x0, x1, c0, c1, hp⟩
theorem sss_at {X : Nat -> Prop} {w : World} {c : Nat} : ∀ {l : List (List Ts)} {o i : Nat} {s : List Ts}, SssAt X w c o l -> l[i]? = some s -> ∃ A cap, w.cell? ⟨c, o + i, none⟩ = some (.slice A s.length cap) /\ SsV X w s A cap
 | [], o, i, s, h, hi => by cases hi
 | a :: l, o, 0, s, h, hi => by
  rw [SssAt] at h
  obtain ⟨⟨A, cap, c0, hc, hp⟩, -⟩ := h
  obtain rfl := Option.some.inj hi
  exact ⟨A, cap, by simpa using c0, hc, hp⟩
 | a :: l, o, i + 1, s, h, hi => by
  rw [SssAt] at h
  obtain ⟨A, cap, c0, hp⟩ := sss_at h.2 (i := i) hi
  rw [show o + 1 + i = o + (i + 1) by omega] at c0
  exact ⟨A, cap, c0, hp⟩
theorem ss_at {X : Nat -> Prop} {w : World} {c : Nat} : ∀ {l : List Ts} {o i : Nat} {t : Ts}, SsAt X w c o l -> l[i]? = some t -> ∃ xs : List Value, xs.length = 7 /\ (∀ j, j < 7 -> w.cell? ⟨c, o + i * 7 + j, none⟩ = xs[j]?) /\ TsAt X w t xs
 | [], o, i, s, h, hi => by cases hi
 | a :: l, o, 0, t, h, hi => by
  rw [SsAt] at h
  obtain ⟨⟨xs, hn, hx, ht⟩, -⟩ := h
  obtain rfl := Option.some.inj hi
  exact ⟨xs, hn, fun j hj => (by rw [Nat.zero_mul, Nat.add_zero]; exact hx j hj), ht⟩
 | a :: l, o, i + 1, t, h, hi => by
  rw [SsAt] at h
  obtain ⟨xs, hn, hx, ht⟩ := ss_at h.2 (i := i) hi
  refine ⟨xs, hn, fun j hj => ?_, ht⟩
  rw [show o + (i + 1) * 7 + j = o + 7 + i * 7 + j by omega]
  exact hx j hj
theorem pa_open {X : Nat -> Prop} {w : World} {steps : List (List Ts)} {joins : Bs} {x0 x1 : Value} (h : PaAt X w (.mk steps joins) [x0, x1]) : ∃ A cap J jc, x0 = .slice A steps.length cap /\ x1 = .slice J joins.length jc /\ steps.length <= cap /\ joins.length <= jc /\
  (0 < steps.length -> ∃ c o, A = some ⟨c, o, none⟩ /\ c < w.heap.size /\ SssAt X w c o steps) /\ (0 < joins.length -> ∃ c o, J = some ⟨c, o, none⟩ /\ c < w.heap.size /\ ∀ (i : Nat) (x : UInt8), joins[i]? = some x -> w.cell? ⟨c, o + i, none⟩ = some (.int .u8 (nv x))) := by
 rw [PaAt] at h
 obtain ⟨A, cap, v, e, hc, hj, hs⟩ := h
 obtain ⟨B, d, rfl, hd, hb⟩ := hj
 simp only [List.cons.injEq, and_true] at e
 refine ⟨A, cap, B, d, e.1, e.2, hc, hd, fun h0 => ?_, fun h0 => ?_⟩
 ·obtain ⟨c, o, h1, -, h2, h3⟩ := hs h0
  exact ⟨c, o, h1, h2, h3⟩
 ·obtain ⟨c, o, h1, -, h2, h3⟩ := hb h0
  exact ⟨c, o, h1, h2, h3⟩
theorem PasV.on {X : Nat -> Prop} {w w' : World} {l : List Pa} {A : Option Addr} {cap : Nat} (h : PasV X w l A cap) (hb : Below w.heap.size w w') : PasV X w' l A cap := h.keep hb.size (fun c hc hl => ⟨hc, hb.block c hl⟩)
def subS : List Ts -> Nat
 | [] => 0
 | .mk _ _ _ _ _ _ subs :: l => cntL subs + subS l
theorem cntS_sub : ∀ l : List Ts, cntS l = l.length + subS l
 | [] => by rw [cntS, subS]; rfl
 | .mk k n op v a b subs :: l => by
  rw [cntS, cntT, subS, cntS_sub l, List.length_cons]
  omega
theorem subS_take {l : List Ts} {i : Nat} {k : Int} {n : Bs} {op : UInt8} {v : Bs} {a b : Int} {subs : List Pa} (h : l[i]? = some (.mk k n op v a b subs)) : subS (l.take (i + 1)) = subS (l.take i) + cntL subs /\ subS (l.take (i + 1)) <= subS l := by
 induction l generalizing i with
 | nil => cases h
 | cons x l ih =>
  obtain ⟨k', n', op', v', a', b', subs'⟩ := x
  cases i with
  | zero =>
   obtain ⟨rfl, rfl, rfl, rfl, rfl, rfl, rfl⟩ := Ts.mk.inj (Option.some.inj h)
   simp only [List.take_succ_cons, List.take_zero, subS]
   omega
  | succ i =>
   have := ih (i := i) h
   simp only [List.take_succ_cons, subS]
   omega
theorem cntSS_take {l : List (List Ts)} {i : Nat} {s : List Ts} (h : l[i]? = some s) : cntSS (l.take (i + 1)) = cntSS (l.take i) + cntS s /\ cntSS (l.take (i + 1)) <= cntSS l := by
 induction l generalizing i with
 | nil => cases h
 | cons x l ih =>
  cases i with
  | zero =>
   obtain rfl := Option.some.inj h
   simp only [List.take_succ_cons, List.take_zero, cntSS]
   omega
  | succ i =>
   have := ih (i := i) h
   simp only [List.take_succ_cons, cntSS]
   omega
theorem cntL_take {l : List Pa} {i : Nat} {steps : List (List Ts)} {joins : Bs} (h : l[i]? = some (.mk steps joins)) : cntL (l.take (i + 1)) = cntL (l.take i) + cntSS steps /\ cntL (l.take (i + 1)) <= cntL l := by
 induction l generalizing i with
 | nil => cases h
 | cons x l ih =>
  cases i with
  | zero =>
   obtain rfl := Option.some.inj h
   simp only [List.take_succ_cons, List.take_zero, cntL, cntP]
   omega
  | succ i =>
   have := ih (i := i) h
   simp only [List.take_succ_cons, cntL]
   omega
theorem smL_mem {l : List Pa} (h : SmL l) {i : Nat} {steps : List (List Ts)} {joins : Bs} (hi : l[i]? = some (.mk steps joins)) : steps ≠ [] /\ joins.length + 1 = steps.length /\ SmSS steps := by
 induction l generalizing i with
 | nil => cases hi
 | cons x l ih =>
  rw [SmL] at h
  cases i with
  | zero =>
   obtain rfl := Option.some.inj hi
   have := h.1
   rw [SmP] at this
   exact this
  | succ i => exact ih h.2 hi
theorem smSS_mem {l : List (List Ts)} (h : SmSS l) {i : Nat} {s : List Ts} (hi : l[i]? = some s) : s ≠ [] /\ SmS s := by
 induction l generalizing i with
 | nil => cases hi
 | cons x l ih =>
  rw [SmSS] at h
  cases i with
  | zero =>
   obtain rfl := Option.some.inj hi
   exact ⟨h.1, h.2.1⟩
  | succ i => exact ih h.2.2 hi
theorem smS_mem {l : List Ts} (h : SmS l) {i : Nat} {t : Ts} (hi : l[i]? = some t) : SmT t := by
 induction l generalizing i with
 | nil => cases hi
 | cons x l ih =>
  rw [SmS] at h
  cases i with
  | zero =>
   obtain rfl := Option.some.inj hi
   exact h.1
  | succ i => exact ih h.2 hi
end sel
namespace sel
open Go.RowKit base tok rul
mutual
def szT : Ts -> Nat
 | .mk _ n _ v _ _ subs => 1 + n.length + v.length + szL subs
def szS : List Ts -> Nat
 | [] => 0
 | t :: l => szT t + szS l
def szSS : List (List Ts) -> Nat
 | [] => 0
 | s :: l => 1 + szS s + szSS l
def szP : Pa -> Nat
 | .mk steps joins => 1 + joins.length + szSS steps
def szL : List Pa -> Nat
 | [] => 0
 | p :: l => szP p + szL l
end
mutual
def FiT : Ts -> Prop
 | .mk k _ _ _ a b subs => I64 k /\ I64 a /\ I64 b /\ FiL subs
def FiS : List Ts -> Prop
 | [] => True
 | t :: l => FiT t /\ FiS l
def FiSS : List (List Ts) -> Prop
 | [] => True
 | s :: l => FiS s /\ FiSS l
def FiP : Pa -> Prop
 | .mk steps _ => FiSS steps
def FiL : List Pa -> Prop
 | [] => True
 | p :: l => FiP p /\ FiL l
end
theorem fiL_mem {l : List Pa} (h : FiL l) {i : Nat} {steps : List (List Ts)} {joins : Bs} (hi : l[i]? = some (.mk steps joins)) : FiSS steps := by
 induction l generalizing i with
 | nil => cases hi
 | cons x l ih =>
  rw [FiL] at h
  cases i with
  | zero =>
   obtain rfl := Option.some.inj hi
   have := h.1
   rw [FiP] at this
   exact this
  | succ i => exact ih h.2 hi
theorem fiSS_mem {l : List (List Ts)} (h : FiSS l) {i : Nat} {s : List Ts} (hi : l[i]? = some s) : FiS s := by
 induction l generalizing i with
 | nil => cases hi
 | cons x l ih =>
  rw [FiSS] at h
  cases i with
  | zero =>
   obtain rfl := Option.some.inj hi
   exact h.1
  | succ i => exact ih h.2 hi
theorem fiS_mem {l : List Ts} (h : FiS l) {i : Nat} {t : Ts} (hi : l[i]? = some t) : FiT t := by
 induction l generalizing i with
 | nil => cases hi
 | cons x l ih =>
  rw [FiS] at h
  cases i with
  | zero =>
   obtain rfl := Option.some.inj hi
   exact h.1
  | succ i => exact ih h.2 hi
theorem szL_mem {l : List Pa} {i : Nat} {steps : List (List Ts)} {joins : Bs} (hi : l[i]? = some (.mk steps joins)) : 1 + joins.length + szSS steps <= szL l := by
 induction l generalizing i with
 | nil => cases hi
 | cons x l ih =>
  rw [szL]
  cases i with
  | zero =>
   obtain rfl := Option.some.inj hi
   rw [szP]
   omega
  | succ i =>
   have := ih (i := i) hi
   omega
theorem szSS_mem {l : List (List Ts)} {i : Nat} {s : List Ts} (hi : l[i]? = some s) : 1 + szS s <= szSS l := by
 induction l generalizing i with
 | nil => cases hi
 | cons x l ih =>
  rw [szSS]
  cases i with
  | zero =>
   obtain rfl := Option.some.inj hi
   omega
  | succ i =>
   have := ih (i := i) hi
   omega
theorem szS_mem {l : List Ts} {i : Nat} {t : Ts} (hi : l[i]? = some t) : szT t <= szS l := by
 induction l generalizing i with
 | nil => cases hi
 | cons x l ih =>
  rw [szS]
  cases i with
  | zero =>
   obtain rfl := Option.some.inj hi
   omega
  | succ i =>
   have := ih (i := i) hi
   omega
theorem szL_len : ∀ l : List Pa, l.length <= szL l
 | [] => Nat.zero_le _
 | .mk steps joins :: l => by
  have := szL_len l
  rw [szL, szP, List.length_cons]
  omega
theorem szSS_len : ∀ l : List (List Ts), l.length <= szSS l
 | [] => Nat.zero_le _
 | s :: l => by
  have := szSS_len l
  rw [szSS, List.length_cons]
  omega
theorem szS_len : ∀ l : List Ts, l.length <= szS l
 | [] => Nat.zero_le _
 | .mk k n op v a b subs :: l => by
  have := szS_len l
  rw [szS, szT, List.length_cons]
  omega
mutual
theorem cnt_szT : ∀ t : Ts, cntT t <= szT t
 | .mk k n op v a b subs => by
  have := cnt_szL subs
  rw [cntT, szT]
  omega
theorem cnt_szS : ∀ l : List Ts, cntS l <= szS l
 | [] => by rw [cntS]; exact Nat.zero_le _
 | t :: l => by
  have h1 := cnt_szT t
  have h2 := cnt_szS l
  rw [cntS, szS]
  omega
theorem cnt_szSS : ∀ l : List (List Ts), cntSS l <= szSS l
 | [] => by rw [cntSS]; exact Nat.zero_le _
 | s :: l => by
  have h1 := cnt_szS s
  have h2 := cnt_szSS l
  rw [cntSS, szSS]
  omega
theorem cnt_szP : ∀ p : Pa, cntP p <= szP p
 | .mk steps joins => by
  have h1 := cnt_szSS steps
  rw [cntP, szP]
  omega
theorem cnt_szL : ∀ l : List Pa, cntL l <= szL l
 | [] => by rw [cntL]; exact Nat.zero_le _
 | p :: l => by
  have h1 := cnt_szP p
  have h2 := cnt_szL l
  rw [cntL, szL]
  omega
end
mutual
theorem sm_szT : ∀ t : Ts, SmT t -> szT t + 2 <= 805 * cntT t
 | .mk k n op v a b subs, h => by
  rw [SmT] at h
  have := sm_szL subs h.2.2.2.2.2.2
  rw [cntT, szT]
  omega
theorem sm_szS : ∀ l : List Ts, SmS l -> szS l + 2 * l.length <= 805 * cntS l
 | [], _ => by rw [cntS, szS]; exact Nat.le_refl _
 | t :: l, h => by
  rw [SmS] at h
  have h1 := sm_szT t h.1
  have h2 := sm_szS l h.2
  rw [cntS, szS, List.length_cons]
  omega
theorem sm_szSS : ∀ l : List (List Ts), SmSS l -> szSS l + l.length <= 805 * cntSS l
 | [], _ => by rw [cntSS, szSS]; exact Nat.le_refl _
 | s :: l, h => by
  rw [SmSS] at h
  have h1 := sm_szS s h.2.1
  have h2 := sm_szSS l h.2.2
  have h3 := List.length_pos_iff.2 h.1
  rw [cntSS, szSS, List.length_cons]
  omega
theorem sm_szP : ∀ p : Pa, SmP p -> szP p <= 805 * cntP p
 | .mk steps joins, h => by
  rw [SmP] at h
  have h1 := sm_szSS steps h.2.2
  have h2 := h.2.1
  rw [cntP, szP]
  omega
theorem sm_szL : ∀ l : List Pa, SmL l -> szL l <= 805 * cntL l
 | [], _ => by rw [cntL, szL]; exact Nat.le_refl _
 | p :: l, h => by
  rw [SmL] at h
  have h1 := sm_szP p h.1
  have h2 := sm_szL l h.2
  rw [cntL, szL]
  omega
end
theorem deepT_leaf (d : Nat) (k : Int) (n : Bs) (op : UInt8) (v : Bs) (a b : Int) : deepT d (.mk k n op v a b []) = true := by cases d <;> rfl
theorem deepT_zero {k : Int} {n : Bs} {op : UInt8} {v : Bs} {a b : Int} {subs : List Pa} (h : subs ≠ []) : deepT 0 (.mk k n op v a b subs) = false := by
 cases subs with
 | nil => exact absurd rfl h
 | cons p l => rw [deepT.eq_def]
theorem deepT_succ (d : Nat) {k : Int} {n : Bs} {op : UInt8} {v : Bs} {a b : Int} {subs : List Pa} (h : subs ≠ []) : deepT (d + 1) (.mk k n op v a b subs) = deepL d subs := by
 cases subs with
 | nil => exact absurd rfl h
 | cons p l =>
  rw [deepT.eq_def, deepL]
theorem deepS_take {d : Nat} {l : List Ts} {i : Nat} {t : Ts} (h : l[i]? = some t) : deepS d (l.take (i + 1)) = (deepS d (l.take i) && deepT d t) := by
 induction l generalizing i with
 | nil => cases h
 | cons x l ih =>
  cases i with
  | zero =>
   obtain rfl := Option.some.inj h
   simp only [List.take_succ_cons, List.take_zero, deepS, Bool.and_true, Bool.true_and]
  | succ i => simp only [List.take_succ_cons, deepS, ih (i := i) h, Bool.and_assoc]
theorem deepSS_take {d : Nat} {l : List (List Ts)} {i : Nat} {t : List Ts} (h : l[i]? = some t) : deepSS d (l.take (i + 1)) = (deepSS d (l.take i) && deepS d t) := by
 induction l generalizing i with
 | nil => cases h
 | cons x l ih =>
  cases i with
  | zero =>
   obtain rfl := Option.some.inj h
   simp only [List.take_succ_cons, List.take_zero, deepSS, Bool.and_true, Bool.true_and]
  | succ i => simp only [List.take_succ_cons, deepSS, ih (i := i) h, Bool.and_assoc]
theorem deepL_take {d : Nat} {l : List Pa} {i : Nat} {steps : List (List Ts)} {joins : Bs} (h : l[i]? = some (.mk steps joins)) : deepL d (l.take (i + 1)) = (deepL d (l.take i) && deepSS d steps) := by
 induction l generalizing i with
 | nil => cases h
 | cons x l ih =>
  cases i with
  | zero =>
   obtain rfl := Option.some.inj h
   simp only [List.take_succ_cons, List.take_zero, deepL, deepP, Bool.and_true, Bool.true_and]
  | succ i => simp only [List.take_succ_cons, deepL, ih (i := i) h, Bool.and_assoc]
theorem deepS_any {d : Nat} {l : List Ts} {i : Nat} {t : Ts} (h : l[i]? = some t) (ht : deepT d t = false) : deepS d l = false := by
 induction l generalizing i with
 | nil => cases h
 | cons x l ih =>
  rw [deepS]
  cases i with
  | zero =>
   obtain rfl := Option.some.inj h
   rw [ht, Bool.false_and]
  | succ i => rw [ih (i := i) h, Bool.and_false]
theorem deepSS_any {d : Nat} {l : List (List Ts)} {i : Nat} {t : List Ts} (h : l[i]? = some t) (ht : deepS d t = false) : deepSS d l = false := by
 induction l generalizing i with
 | nil => cases h
 | cons x l ih =>
  rw [deepSS]
  cases i with
  | zero =>
   obtain rfl := Option.some.inj h
   rw [ht, Bool.false_and]
  | succ i => rw [ih (i := i) h, Bool.and_false]
theorem deepL_any {d : Nat} {l : List Pa} {i : Nat} {steps : List (List Ts)} {joins : Bs} (h : l[i]? = some (.mk steps joins)) (ht : deepSS d steps = false) : deepL d l = false := by
 induction l generalizing i with
 | nil => cases h
 | cons x l ih =>
  rw [deepL]
  cases i with
  | zero =>
   obtain rfl := Option.some.inj h
   rw [deepP, ht, Bool.false_and]
  | succ i => rw [ih (i := i) h, Bool.and_false]
def okB (D : Nat) (l : List Pa) : Bool := deepL (3 - D) l && decide (cntL l <= 40)
theorem okB_few {D : Nat} {l : List Pa} (h : 40 < cntL l) : okB D l = false := by
 rw [okB, decide_eq_false (by omega), Bool.and_false]
theorem okB_deep {D : Nat} {l : List Pa} {j q r : Nat} {steps : List (List Ts)} {joins : Bs} {s : List Ts} {t : Ts} (h1 : l[j]? = some (.mk steps joins)) (h2 : steps[q]? = some s) (h3 : s[r]? = some t) (ht : deepT (3 - D) t = false) : okB D l = false := by
 rw [okB, deepL_any h1 (deepSS_any h2 (deepS_any h3 ht)), Bool.false_and]
theorem cntL_sub {l : List Pa} {j q r : Nat} {steps : List (List Ts)} {joins : Bs} {s : List Ts} {k : Int} {n : Bs} {op : UInt8} {v : Bs} {a b : Int} {subs : List Pa} (h1 : l[j]? = some (.mk steps joins)) (h2 : steps[q]? = some s) (h3 : s[r]? = some (.mk k n op v a b subs)) : cntL subs <= cntL l := by
 have h4 := subS_take h3
 have h5 := cntS_sub s
 have h6 := cntSS_take h2
 have h7 := cntL_take h1
 omega
theorem okB_sub {D : Nat} {l : List Pa} {j q r : Nat} {steps : List (List Ts)} {joins : Bs} {s : List Ts} {k : Int} {n : Bs} {op : UInt8} {v : Bs} {a b : Int} {subs : List Pa} (h1 : l[j]? = some (.mk steps joins)) (h2 : steps[q]? = some s) (h3 : s[r]? = some (.mk k n op v a b subs)) (hne : subs ≠ []) (ht : okB (D + 1) subs = false) : okB D l = false := by
 rw [okB, Bool.and_eq_false_iff] at ht
 rcases ht with ht | ht
 ·refine okB_deep h1 h2 h3 ?_
  rcases Nat.lt_or_ge D 3 with hD | hD
  ·rw [show 3 - D = (3 - (D + 1)) + 1 by omega, deepT_succ _ hne, ht]
  ·rw [show 3 - D = 0 by omega, deepT_zero hne]
 ·have := cntL_sub h1 h2 h3
  exact okB_few (by have := of_decide_eq_false ht; omega)
theorem szL_sub {l : List Pa} {j q r : Nat} {steps : List (List Ts)} {joins : Bs} {s : List Ts} {k : Int} {n : Bs} {op : UInt8} {v : Bs} {a b : Int} {subs : List Pa} (h1 : l[j]? = some (.mk steps joins)) (h2 : steps[q]? = some s) (h3 : s[r]? = some (.mk k n op v a b subs)) : szL subs < szL l := by
 have h4 := szL_mem h1
 have h5 := szSS_mem h2
 have h6 := szS_mem h3
 rw [szT] at h6
 omega
end sel
end Go.Proofs.YtaobpkffcolobaaGreatDoor
