/- Contracts and plain law, a bundle. -/
import Derived.Lib.Hide
import Derived.Test.YtlfkkaofgcongaaGreatDoorBC1
import Derived.Test.YtlfkkaofgcongaaGreatDoorBD
import Derived.Test.YtlfkkaofgcongaaGreatDoorBH
set_option linter.unusedVariables false
set_option maxRecDepth 100000
set_option maxHeartbeats 16000000
open Go.Lib (hid)
namespace Go.Proofs.YtlfkkaofgcongaaGreatDoor
namespace rul
open Go.RowKit base tok
abbrev tkB : Tk := ⟨8, [32], [], 0⟩
theorem stop_32 : st.Stop 32 := by unfold st.Stop; decide
end rul
namespace clb
open Go.RowKit base tok dim rul
inductive Te where
 | num (n : Int) (u : Bs)
 | op (k : Int) (l : List Te)
mutual
def Te.size : Te -> Nat
 | .num _ _ => 1
 | .op _ l => 1 + sizes l
def sizes : List Te -> Nat
 | [] => 0
 | t :: l => t.size + sizes l
end
theorem size_num (n : Int) (u : Bs) : (Te.num n u).size = 1 := by rw [Te.size]
theorem size_op (k : Int) (l : List Te) : (Te.op k l).size = 1 + sizes l := by rw [Te.size]
theorem sizes_nil : sizes [] = 0 := by rw [sizes]
theorem sizes_cons (t : Te) (l : List Te) : sizes (t :: l) = t.size + sizes l := by rw [sizes]
theorem sizes_app (l : List Te) (t : Te) : sizes (l ++ [t]) = sizes l + t.size := by
 induction l with
 | nil => rw [List.nil_append, sizes_cons, sizes_nil]; omega
 | cons a l ih => rw [List.cons_append, sizes_cons, sizes_cons, ih]; omega
def shapedP (k : Int) (m : Nat) : Bool := if k = 1 then decide (m = 0) else if 2 <= k /\ k <= 5 then decide (m = 2) else if k = 6 ∨ k = 7 then decide (0 < m) else if k = 8 then decide (m = 3) else false
def calcT : Bs := [99, 97, 108, 99]
def minT : Bs := [109, 105, 110]
def maxT : Bs := [109, 97, 120]
def midT : Bs := [99, 108, 97, 109, 112]
def kindI (s : Bs) : Int := if s = minT then 6 else if s = maxT then 7 else if s = midT then 8 else 0
def gapP (L : List Tk) : List Tk := L.dropWhile silP
def gapB (L : List Tk) : Bool := decide ((gapP L).length < L.length)
def madeP (n : Nat) (t : Te) (L : List Tk) : Option (Te × List Tk × Nat) := if n + 1 <= 30 then some (t, L, n + 1) else none
def closeF : Te × List Tk × Nat × Bool -> Option (Te × List Tk × Nat)
 | (t, c :: L, n, _) => if c.raw = [41] then some (t, L, n) else none
 | (_, [], _, _) => none
mutual
def valF : Nat -> Bool -> List Tk -> Nat -> Option (Te × List Tk × Nat)
 | 0, _, _, _ => none
 | _ + 1, _, [], _ => none
 | d + 1, inb, t :: L, n =>
  if t.k = 7 then (if t.val ∈ unitsL then madeP n (.num t.num t.val) L else none)
  else if inb = true /\ t.raw = [40] then (sumF d L n).bind closeF
  else if t.k = 2 then
   (if t.val.map lowB = calcT then (sumF d L n).bind closeF
   else if kindI (t.val.map lowB) = 0 then none
   else listF d (kindI (t.val.map lowB)) [] L n)
  else none
def prodF : Nat -> List Tk -> Nat -> Option (Te × List Tk × Nat × Bool)
 | 0, _, _ => none
 | d + 1, L, n => (valF d true (gapP L) n).bind fun r => prodG d r.1 r.2.1 r.2.2
def prodG : Nat -> Te -> List Tk -> Nat -> Option (Te × List Tk × Nat × Bool)
 | 0, _, _, _ => none
 | d + 1, t, L, n =>
  match gapP L with
  | [] => some (t, [], n, gapB L)
  | c :: M =>
   if c.raw = [42] then (valF d true (gapP M) n).bind fun r => (madeP r.2.2 (.op 4 [t, r.1]) r.2.1).bind fun q => prodG d q.1 q.2.1 q.2.2
   else if c.raw = [47] then (valF d true (gapP M) n).bind fun r => (madeP r.2.2 (.op 5 [t, r.1]) r.2.1).bind fun q => prodG d q.1 q.2.1 q.2.2
   else some (t, c :: M, n, gapB L)
def sumF : Nat -> List Tk -> Nat -> Option (Te × List Tk × Nat × Bool)
 | 0, _, _ => none
 | d + 1, L, n => (prodF d L n).bind fun r => sumG d r.1 r.2.1 r.2.2.1 r.2.2.2
def sumG : Nat -> Te -> List Tk -> Nat -> Bool -> Option (Te × List Tk × Nat × Bool)
 | 0, _, _, _, _ => none
 | d + 1, t, L, n, g =>
  match L with
  | [] => some (t, [], n, g)
  | c :: M =>
   if c.raw = [43] then (if g && gapB M then (prodF d (gapP M) n).bind fun r => (madeP r.2.2.1 (.op 2 [t, r.1]) r.2.1).bind fun q => sumG d q.1 q.2.1 q.2.2 r.2.2.2 else none)
   else if c.raw = [45] then (if g && gapB M then (prodF d (gapP M) n).bind fun r => (madeP r.2.2.1 (.op 3 [t, r.1]) r.2.1).bind fun q => sumG d q.1 q.2.1 q.2.2 r.2.2.2 else none)
   else some (t, c :: M, n, g)
def listF : Nat -> Int -> List Te -> List Tk -> Nat -> Option (Te × List Tk × Nat)
 | 0, _, _, _, _ => none
 | d + 1, k, l, L, n => (sumF d L n).bind fun r =>
  match r.2.1 with
  | [] => none
  | c :: M =>
   if c.raw = [44] then listF d k (l ++ [r.1]) M r.2.2.1
   else if c.raw = [41] /\ shapedP k (l.length + 1) = true then madeP r.2.2.1 (.op k (l ++ [r.1])) M
   else none
end
def readT (d : Nat) (s : Bs) : Option Te :=
 if 400 < s.length then none else
 match valF d false (gapP (cutP s)) 0 with
 | some (t, L, _) => if gapP L = [] then some t else none
 | none => none
def signP (k : Int) : Bs := if k = 2 then [32, 43, 32] else if k = 3 then [32, 45, 32] else if k = 4 then [32, 42, 32] else if k = 5 then [32, 47, 32] else [44, 32]
def wordT (k : Int) : Bs := if k = 6 then minT else if k = 7 then maxT else if k = 8 then midT else []
def numT (n : Int) (u : Bs) : Bs := (if n < 0 then [45] else []) ++ (plainP n.natAbs ++ u)
mutual
def textT : Te -> Bs
 | .num n u => numT n u
 | .op k l => if shapedP k l.length && !decide (k = 1) then wordT k ++ 40 :: (joinT (signP k) l ++ [41]) else []
def joinT (s : Bs) : List Te -> Bs
 | [] => []
 | [t] => textT t
 | t :: u :: l => textT t ++ s ++ joinT s (u :: l)
end
mutual
def Wf : Te -> Prop
 | .num n u => -1000000000 <= n /\ n <= 1000000000 /\ u ∈ unitsL
 | .op k l => ((2 <= k /\ k <= 5 /\ l.length = 2) ∨ (6 <= k /\ k <= 7 /\ 0 < l.length) ∨ (k = 8 /\ l.length = 3)) /\ Wfs l
def Wfs : List Te -> Prop
 | [] => True
 | t :: l => Wf t /\ Wfs l
end
theorem wfs_app {l : List Te} {t : Te} (h : Wfs l) (ht : Wf t) : Wfs (l ++ [t]) := by
 induction l with
 | nil => rw [List.nil_append, Wfs, Wfs]; exact ⟨ht, trivial⟩
 | cons a l ih =>
  rw [Wfs] at h
  rw [List.cons_append, Wfs]
  exact ⟨h.1, ih h.2⟩
end clb
namespace clb
open Go.RowKit base tok dim rul
def GoodL (L : List Tk) : Prop := ∀ t ∈ L, t.k = 7 -> -1000000000 <= t.num /\ t.num <= 1000000000
theorem GoodL.suf {L M : List Tk} (h : GoodL L) (hs : M <:+ L) : GoodL M := fun t ht => h t (hs.subset ht)
theorem gap_suf (L : List Tk) : gapP L <:+ L := List.dropWhile_suffix _
theorem gap_le (L : List Tk) : (gapP L).length <= L.length := (gap_suf L).length_le
theorem made_some {n : Nat} {t u : Te} {L M : List Tk} {m : Nat} (h : madeP n t L = some (u, M, m)) : u = t /\ M = L /\ m = n + 1 /\ n + 1 <= 30 := by
 unfold madeP at h
 split at h
 ·injection h with h
  injection h with h1 h2
  injection h2 with h2 h3
  exact ⟨h1.symm, h2.symm, h3.symm, by assumption⟩
 ·cases h
theorem close_some {r : Te × List Tk × Nat × Bool} {t : Te} {M : List Tk} {m : Nat} (h : closeF r = some (t, M, m)) : ∃ c g, r = (t, c :: M, m, g) /\ c.raw = [41] := by
 obtain ⟨t0, L, n, g⟩ := r
 cases L with
 | nil => cases h
 | cons c L =>
  simp only [closeF] at h
  split at h
  ·injection h with h
   injection h with h1 h2
   injection h2 with h2 h3
   subst h1 h2 h3
   exact ⟨c, g, rfl, by assumption⟩
  ·cases h
theorem wf_op2 {k : Int} {a b : Te} (h1 : 2 <= k) (h2 : k <= 5) (ha : Wf a) (hb : Wf b) : Wf (.op k [a, b]) := by
 rw [Wf, Wfs, Wfs, Wfs]
 exact ⟨.inl ⟨h1, h2, rfl⟩, ha, hb, trivial⟩
theorem size_two (k : Int) (a b : Te) : (Te.op k [a, b]).size = 1 + a.size + b.size := by
 rw [size_op, sizes_cons, sizes_cons, sizes_nil]
 omega
theorem kind_of {s : Bs} (h : ¬ kindI s = 0) : 6 <= kindI s /\ kindI s <= 8 := by
 unfold kindI at h ⊢
 split
 ·omega
 ·split
  ·omega
  ·split
   ·omega
   ·rename_i h1 h2 h3
    rw [if_neg h1, if_neg h2, if_neg h3] at h
    exact absurd rfl h
theorem tail_suf {c : Tk} {M L : List Tk} (h : c :: M <:+ L) : M <:+ L := (List.suffix_cons c M).trans h
theorem tail_lt {c : Tk} {M L : List Tk} (h : c :: M <:+ L) : M.length < L.length := by
 have := h.length_le
 simp at this
 omega
abbrev InvV (d : Nat) : Prop := ∀ (inb : Bool) (L : List Tk) (n : Nat) (t : Te) (M : List Tk) (m : Nat), GoodL L -> valF d inb L n = some (t, M, m) -> Wf t /\ m = n + t.size /\ m <= 30 /\ M <:+ L /\ M.length < L.length
abbrev InvP (d : Nat) : Prop := ∀ (L : List Tk) (n : Nat) (t : Te) (M : List Tk) (m : Nat) (g : Bool), GoodL L -> prodF d L n = some (t, M, m, g) -> Wf t /\ m = n + t.size /\ m <= 30 /\ M <:+ L /\ M.length < L.length
abbrev InvPG (d : Nat) : Prop := ∀ (t0 : Te) (L : List Tk) (n : Nat) (t : Te) (M : List Tk) (m : Nat) (g : Bool), GoodL L -> Wf t0 -> n <= 30 -> prodG d t0 L n = some (t, M, m, g) -> Wf t /\ m + t0.size = n + t.size /\ m <= 30 /\ M <:+ L
abbrev InvS (d : Nat) : Prop := ∀ (L : List Tk) (n : Nat) (t : Te) (M : List Tk) (m : Nat) (g : Bool), GoodL L -> sumF d L n = some (t, M, m, g) -> Wf t /\ m = n + t.size /\ m <= 30 /\ M <:+ L /\ M.length < L.length
abbrev InvSG (d : Nat) : Prop := ∀ (t0 : Te) (L : List Tk) (n : Nat) (g0 : Bool) (t : Te) (M : List Tk) (m : Nat) (g : Bool), GoodL L -> Wf t0 -> n <= 30 -> sumG d t0 L n g0 = some (t, M, m, g) -> Wf t /\ m + t0.size = n + t.size /\ m <= 30 /\ M <:+ L
abbrev InvL (d : Nat) : Prop := ∀ (k : Int) (l : List Te) (L : List Tk) (n : Nat) (t : Te) (M : List Tk) (m : Nat), GoodL L -> Wfs l -> 6 <= k -> k <= 8 -> listF d k l L n = some (t, M, m) -> Wf t /\ m + sizes l = n + t.size /\ m <= 30 /\ M <:+ L /\ M.length < L.length
theorem inv_close {d : Nat} {L T : List Tk} {c : Tk} {n : Nat} {t : Te} {M : List Tk} {m : Nat} (hS : InvS d) (hL : GoodL (c :: L)) (h : (sumF d L n).bind closeF = some (t, M, m)) : Wf t /\ m = n + t.size /\ m <= 30 /\ M <:+ c :: L /\ M.length < (c :: L).length := by
 obtain ⟨r, hr, hc⟩ := Option.bind_eq_some_iff.1 h
 obtain ⟨x, g, rfl, -⟩ := close_some hc
 obtain ⟨h1, h2, h3, h4, h5⟩ := hS _ _ _ _ _ _ (hL.suf (List.suffix_cons _ _)) hr
 have h6 := (tail_suf h4).trans (List.suffix_cons c L)
 have h7 := tail_lt h4
 exact ⟨h1, h2, h3, h6, by simp; omega⟩
theorem inv_two {k : Int} {d : Nat} {t0 : Te} {L M0 : List Tk} {n : Nat} {t : Te} {M : List Tk} {m : Nat} {g : Bool} (h2 : 2 <= k) (h5 : k <= 5) (hV : InvV d) (hG : InvPG d) (hL : GoodL L) (ht : Wf t0) (hM : M0 <:+ L)
  (h : ((valF d true (gapP M0) n).bind fun r => (madeP r.2.2 (.op k [t0, r.1]) r.2.1).bind fun q => prodG d q.1 q.2.1 q.2.2) = some (t, M, m, g)) : Wf t /\ m + t0.size = n + t.size /\ m <= 30 /\ M <:+ L := by
 obtain ⟨⟨a, La, na⟩, ha, h⟩ := Option.bind_eq_some_iff.1 h
 obtain ⟨⟨b, Lb, nb⟩, hb, h⟩ := Option.bind_eq_some_iff.1 h
 dsimp only at hb h
 obtain ⟨rfl, rfl, rfl, hn⟩ := made_some hb
 have hg := (gap_suf M0).trans hM
 obtain ⟨a1, a2, a3, a4, a5⟩ := hV _ _ _ _ _ _ (hL.suf hg) ha
 obtain ⟨b1, b2, b3, b4⟩ := hG _ _ _ _ _ _ _ (hL.suf (a4.trans hg)) (wf_op2 h2 h5 ht a1) hn h
 rw [size_two] at b2
 exact ⟨b1, by omega, b3, b4.trans (a4.trans hg)⟩
theorem inv_sum {k : Int} {d : Nat} {t0 : Te} {L M0 : List Tk} {n : Nat} {t : Te} {M : List Tk} {m : Nat} {g : Bool} (h2 : 2 <= k) (h5 : k <= 5) (hV : InvP d) (hG : InvSG d) (hL : GoodL L) (ht : Wf t0) (hM : M0 <:+ L)
  (h : ((prodF d (gapP M0) n).bind fun r => (madeP r.2.2.1 (.op k [t0, r.1]) r.2.1).bind fun q => sumG d q.1 q.2.1 q.2.2 r.2.2.2) = some (t, M, m, g)) : Wf t /\ m + t0.size = n + t.size /\ m <= 30 /\ M <:+ L := by
 obtain ⟨⟨a, La, na, ga⟩, ha, h⟩ := Option.bind_eq_some_iff.1 h
 obtain ⟨⟨b, Lb, nb⟩, hb, h⟩ := Option.bind_eq_some_iff.1 h
 dsimp only at hb h
 obtain ⟨rfl, rfl, rfl, hn⟩ := made_some hb
 have hg := (gap_suf M0).trans hM
 obtain ⟨a1, a2, a3, a4, a5⟩ := hV _ _ _ _ _ _ (hL.suf hg) ha
 obtain ⟨b1, b2, b3, b4⟩ := hG _ _ _ _ _ _ _ _ (hL.suf (a4.trans hg)) (wf_op2 h2 h5 ht a1) hn h
 rw [size_two] at b2
 exact ⟨b1, by omega, b3, b4.trans (a4.trans hg)⟩
theorem inv_all : ∀ d, InvV d /\ InvP d /\ InvPG d /\ InvS d /\ InvSG d /\ InvL d
 | 0 => by
  refine ⟨?_, ?_, ?_, ?_, ?_, ?_⟩
  ·intro inb L n t M m _ h; rw [valF] at h; cases h
  ·intro L n t M m g _ h; rw [prodF] at h; cases h
  ·intro t0 L n t M m g _ _ _ h; rw [prodG] at h; cases h
  ·intro L n t M m g _ h; rw [sumF] at h; cases h
  ·intro t0 L n g0 t M m g _ _ _ h; rw [sumG] at h; cases h
  ·intro k l L n t M m _ _ _ _ h; rw [listF] at h; cases h
 | d + 1 => by
  obtain ⟨hV, hP, hPG, hS, hSG, hLi⟩ := inv_all d
  refine ⟨?_, ?_, ?_, ?_, ?_, ?_⟩
  ·intro inb L n t M m hL h
   cases L with
   | nil => rw [valF] at h; cases h
   | cons c L =>
    rw [valF] at h
    split at h
    ·rename_i h7
     split at h
     ·rename_i hu
      obtain ⟨rfl, rfl, rfl, hn⟩ := made_some h
      have hb := hL c (List.mem_cons_self ..) h7
      refine ⟨by rw [Wf]; exact ⟨hb.1, hb.2, hu⟩, by rw [size_num], hn, List.suffix_cons _ _, by simp⟩
     ·cases h
    ·split at h
     ·exact inv_close (T := L) hS hL h
     ·split at h
      ·split at h
       ·exact inv_close (T := L) hS hL h
       ·split at h
        ·cases h
        ·rename_i hk
         obtain ⟨k1, k2⟩ := kind_of hk
         obtain ⟨a1, a2, a3, a4, a5⟩ := hLi _ _ _ _ _ _ _ (hL.suf (List.suffix_cons _ _)) (by rw [Wfs]; trivial) k1 k2 h
         rw [sizes_nil] at a2
         exact ⟨a1, by omega, a3, a4.trans (List.suffix_cons _ _), by simp; omega⟩
      ·cases h
  ·intro L n t M m g hL h
   rw [prodF] at h
   obtain ⟨⟨a, La, na⟩, ha, h⟩ := Option.bind_eq_some_iff.1 h
   obtain ⟨a1, a2, a3, a4, a5⟩ := hV _ _ _ _ _ _ (hL.suf (gap_suf L)) ha
   obtain ⟨b1, b2, b3, b4⟩ := hPG _ _ _ _ _ _ _ (hL.suf (a4.trans (gap_suf L))) a1 a3 h
   have h6 := b4.length_le
   have h7 := gap_le L
   exact ⟨b1, by omega, b3, b4.trans (a4.trans (gap_suf L)), by omega⟩
  ·intro t0 L n t M m g hL ht hn h
   rw [prodG] at h
   split at h
   ·injection h with h; injection h with h1 h2; injection h2 with h2 h3; injection h3 with h3 h4
    subst h1 h2 h3
    exact ⟨ht, by omega, hn, List.nil_suffix⟩
   ·rename_i c M0 e
    have hs : c :: M0 <:+ L := e ▸ gap_suf L
    split at h
    ·exact inv_two (by decide) (by decide) hV hPG hL ht (tail_suf hs) h
    ·split at h
     ·exact inv_two (by decide) (by decide) hV hPG hL ht (tail_suf hs) h
     ·injection h with h; injection h with h1 h2; injection h2 with h2 h3; injection h3 with h3 h4
      subst h1 h2 h3
      exact ⟨ht, by omega, hn, hs⟩
  ·intro L n t M m g hL h
   rw [sumF] at h
   obtain ⟨⟨a, La, na, ga⟩, ha, h⟩ := Option.bind_eq_some_iff.1 h
   obtain ⟨a1, a2, a3, a4, a5⟩ := hP _ _ _ _ _ _ hL ha
   obtain ⟨b1, b2, b3, b4⟩ := hSG _ _ _ _ _ _ _ _ (hL.suf a4) a1 a3 h
   have h6 := b4.length_le
   exact ⟨b1, by omega, b3, b4.trans a4, by omega⟩
  ·intro t0 L n g0 t M m g hL ht hn h
   cases L with
   | nil =>
    rw [sumG] at h
    injection h with h; injection h with h1 h2; injection h2 with h2 h3; injection h3 with h3 h4
    subst h1 h2 h3
    exact ⟨ht, by omega, hn, List.nil_suffix⟩
   | cons c M0 =>
    rw [sumG] at h
    split at h
    ·split at h
     ·exact inv_sum (by decide) (by decide) hP hSG hL ht (List.suffix_cons _ _) h
     ·cases h
    ·split at h
     ·split at h
      ·exact inv_sum (by decide) (by decide) hP hSG hL ht (List.suffix_cons _ _) h
      ·cases h
     ·injection h with h; injection h with h1 h2; injection h2 with h2 h3; injection h3 with h3 h4
      subst h1 h2 h3
      exact ⟨ht, by omega, hn, List.suffix_refl _⟩
  ·intro k l L n t M m hL hl k1 k2 h
   rw [listF] at h
   obtain ⟨⟨a, La, na, ga⟩, ha, h⟩ := Option.bind_eq_some_iff.1 h
   obtain ⟨a1, a2, a3, a4, a5⟩ := hS _ _ _ _ _ _ hL ha
   simp only at h
   split at h
   ·cases h
   ·rename_i c M0
    have hs := tail_suf a4
    split at h
    ·obtain ⟨b1, b2, b3, b4, b5⟩ := hLi _ _ _ _ _ _ _ (hL.suf hs) (wfs_app hl a1) k1 k2 h
     rw [sizes_app] at b2
     have := hs.length_le
     exact ⟨b1, by omega, b3, b4.trans hs, by omega⟩
    ·split at h
     ·rename_i hc
      obtain ⟨rfl, rfl, rfl, hn⟩ := made_some h
      have hsh := hc.2
      refine ⟨?_, by rw [size_op, sizes_app]; omega, hn, hs, tail_lt a4⟩
      rw [Wf]
      refine ⟨?_, wfs_app hl a1⟩
      rw [List.length_append, List.length_singleton]
      unfold shapedP at hsh
      rw [if_neg (by omega), if_neg (by omega)] at hsh
      split at hsh
      ·rename_i h67
       exact .inr (.inl ⟨by omega, by omega, by omega⟩)
      ·split at hsh
       ·exact .inr (.inr ⟨by assumption, of_decide_eq_true hsh⟩)
       ·cases hsh
     ·cases h
end clb
namespace clb
open Go.RowKit base tok dim rul tc
def Small (W : Bs) : Prop := ∀ c ∈ W, 97 <= nv c /\ nv c <= 122
theorem name_word (X : Bs) : ∀ W : Bs, Small W -> nameP (W ++ 40 :: X) = (W, W.length)
 | [], _ => by
  rw [List.nil_append]
  cases X with
  | nil => rw [nameP, if_neg (by decide)]; rfl
  | cons d r => rw [name_cons2, if_neg (by simp [escP, nv]), if_neg (by decide)]; rfl
 | c :: W, h => by
  have hc := h c (List.mem_cons_self ..)
  have ih := name_word X W (fun x hx => h x (List.mem_cons_of_mem _ hx))
  obtain ⟨d, r, e⟩ : ∃ d r, W ++ 40 :: X = d :: r := by
   cases W with
   | nil => exact ⟨40, X, rfl⟩
   | cons d W => exact ⟨d, W ++ 40 :: X, rfl⟩
  have h92 : ¬ nv c = 92 := by omega
  have hsg : signI (nv c) = true := by
   have : startsI (nv c) = true := by unfold startsI; simp; omega
   simp [signI, this]
  rw [List.cons_append, e, name_cons2, if_neg (by simp [escP, h92]), if_pos hsg, <- e, ih]
  rfl
theorem first_word {c : UInt8} {W X : Bs} (h : Small (c :: W)) : firstP (c :: W ++ 40 :: X) = ⟨2, c :: W ++ [40], c :: W, 0⟩ := by
 have hc := h c (List.mem_cons_self ..)
 have hn := name_word X _ h
 have hbl : blankB c = false := by
  have n1 : ¬ c = 32 := fun e => by rw [e] at hc; exact absurd hc.1 (by decide)
  have n2 : ¬ c = 9 := fun e => by rw [e] at hc; exact absurd hc.1 (by decide)
  have n3 : ¬ c = 10 := fun e => by rw [e] at hc; exact absurd hc.1 (by decide)
  have n4 : ¬ c = 12 := fun e => by rw [e] at hc; exact absurd hc.1 (by decide)
  have n5 : ¬ c = 13 := fun e => by rw [e] at hc; exact absurd hc.1 (by decide)
  simp [blankB, n1, n2, n3, n4, n5]
 have h1 : namedP 1 (c :: W ++ 40 :: X) 0 = ⟨1, c :: W, c :: W, 0⟩ := by
  simp only [namedP, List.drop_zero, hn, Nat.zero_add]
  rw [List.take_left]
 have hw : wordP (c :: W ++ 40 :: X) = ⟨2, c :: W ++ [40], c :: W, 0⟩ := by
  simp only [wordP, h1]
  rw [List.drop_left, if_pos (by rfl)]
  congr 1
  rw [show c :: W ++ 40 :: X = (c :: W ++ [40]) ++ X by simp, show (c :: W).length + 1 = (c :: W ++ [40]).length by simp, List.take_left]
 obtain ⟨d, r, e⟩ : ∃ d r, W ++ 40 :: X = d :: r := by
  cases W with
  | nil => exact ⟨40, X, rfl⟩
  | cons d W => exact ⟨d, W ++ 40 :: X, rfl⟩
 rw [List.cons_append, e] at hw ⊢
 have hsp : ¬ 0 < spaceP (c :: d :: r) := by
  unfold spaceP
  rw [List.takeWhile_cons_of_neg (by simp [hbl])]
  simp
 have hnt : ¬ Lib.hasPrefix (c :: d :: r) [47, 42] = true := by
  have : ¬ 47 = c := fun e => by rw [<- e] at hc; exact absurd hc.1 (by decide)
  simp [Lib.hasPrefix, List.isPrefixOf, this]
 have hnum : ¬ 0 < (numberP (c :: d :: r)).2 := by rw [number_no (by omega) (by omega) (by omega) (by simp [digI]; omega)]; simp
 have hq : ¬ quoteP (c :: d :: r) = true := by
  have a1 : ¬ nv c = 39 := by omega
  have a2 : ¬ nv c = 34 := by omega
  simp [quoteP, a1, a2]
 have hh : ¬ hashP (c :: d :: r) = true := by
  have a1 : ¬ nv c = 35 := by omega
  simp [hashP, a1]
 have ha : ¬ atP (c :: d :: r) = true := by
  have a1 : ¬ nv c = 64 := by omega
  simp [atP, a1]
 have hb : beginsP (c :: d :: r) = true := by
  rw [beginsP, if_neg (by omega), Bool.or_eq_true]
  exact .inl (by simp [startsI]; omega)
 rw [firstP, if_neg hsp, if_neg hnt, if_neg hq, if_neg hh, if_neg ha, if_neg hnum, if_pos hb, hw]
theorem cut_word {W X : Bs} (h0 : W ≠ []) (h : Small W) : cutP (W ++ 40 :: X) = ⟨2, W ++ [40], W, 0⟩ :: cutP X := by
 cases W with
 | nil => exact absurd rfl h0
 | cons c W =>
  rw [cutP_cons (by simp), first_word h]
  congr 2
  rw [show c :: W ++ 40 :: X = (c :: W ++ [40]) ++ X by simp, List.drop_left]
def tkS (c : UInt8) : Tk := ⟨12, [c], [], 0⟩
def tkOpen : Tk := ⟨10, [40], [], 0⟩
def tkShut : Tk := ⟨11, [41], [], 0⟩
def sepT (k : Int) : List Tk := if k = 2 then [tkB, tkS 43, tkB] else if k = 3 then [tkB, tkS 45, tkB] else if k = 4 then [tkB, tkS 42, tkB] else if k = 5 then [tkB, tkS 47, tkB] else [tkS 44, tkB]
mutual
def toksT : Te -> List Tk
 | .num n u => [⟨7, numT n u, u, n⟩]
 | .op k l => (if wordT k = [] then tkOpen else ⟨2, wordT k ++ [40], wordT k, 0⟩) :: (toksJ (sepT k) l ++ [tkShut])
def toksJ (s : List Tk) : List Te -> List Tk
 | [] => []
 | [t] => toksT t
 | t :: u :: l => toksT t ++ s ++ toksJ s (u :: l)
end
theorem num_cut {n : Int} {u : Bs} (h0 : -1000000000 <= n) (h1 : n <= 1000000000) (hu : u ∈ unitsL) : cutP (numT n u) = [⟨7, numT n u, u, n⟩] := by
 unfold numT
 by_cases h : n < 0
 ·rw [if_pos h]
  have := text_cut [45] u n.natAbs (by omega) true hu (.inr ⟨rfl, rfl⟩)
  rw [this]
  congr 2
  rw [if_pos rfl]
  omega
 ·rw [if_neg h]
  have := text_cut [] u n.natAbs (by omega) false hu (.inl ⟨rfl, rfl⟩)
  rw [this]
  congr 2
  rw [if_neg (by decide)]
  omega
theorem num_head (n : Int) (u : Bs) : ∃ c r, numT n u = c :: r /\ blankB c = false := by
 unfold numT
 by_cases h : n < 0
 ·rw [if_pos h]
  exact ⟨45, _, rfl, by decide⟩
 ·rw [if_neg h]
  obtain ⟨c, W, hW⟩ := List.exists_cons_of_ne_nil (dec_ne (n.natAbs / 1000))
  have hcd := dec_digs (n.natAbs / 1000) c (by rw [hW]; simp)
  simp [digI] at hcd
  refine ⟨c, W ++ pointP (fracP (n.natAbs % 1000)) ++ u, by unfold plainP; rw [hW]; simp, ?_⟩
  have n1 : ¬ c = 32 := fun e => by rw [e] at hcd; exact absurd hcd.1 (by decide)
  have n2 : ¬ c = 9 := fun e => by rw [e] at hcd; exact absurd hcd.1 (by decide)
  have n3 : ¬ c = 10 := fun e => by rw [e] at hcd; exact absurd hcd.1 (by decide)
  have n4 : ¬ c = 12 := fun e => by rw [e] at hcd; exact absurd hcd.1 (by decide)
  have n5 : ¬ c = 13 := fun e => by rw [e] at hcd; exact absurd hcd.1 (by decide)
  simp [blankB, n1, n2, n3, n4, n5]
theorem wf_kind {k : Int} {l : List Te} (h : Wf (.op k l)) : (k = 2 ∨ k = 3 ∨ k = 4 ∨ k = 5 ∨ k = 6 ∨ k = 7 ∨ k = 8) /\ l ≠ [] /\ Wfs l /\ (shapedP k l.length && !decide (k = 1)) = true := by
 rw [Wf] at h
 obtain ⟨h1, h2⟩ := h
 refine ⟨by omega, fun e => by rw [e] at h1; simp at h1, h2, ?_⟩
 rw [decide_eq_false (by omega), Bool.not_false, Bool.and_true]
 unfold shapedP
 rw [if_neg (by omega)]
 rcases h1 with ⟨a, b, c⟩ | ⟨a, b, c⟩ | ⟨rfl, c⟩
 ·rw [if_pos ⟨a, b⟩, decide_eq_true c]
 ·rw [if_neg (by omega), if_pos (by omega), decide_eq_true c]
 ·rw [if_neg (by omega), if_neg (by omega), if_pos rfl, decide_eq_true c]
theorem text_op {k : Int} {l : List Te} (h : Wf (.op k l)) : textT (.op k l) = wordT k ++ 40 :: (joinT (signP k) l ++ [41]) := by
 rw [textT, if_pos (wf_kind h).2.2.2]
theorem word_head {k : Int} (hk : k = 2 ∨ k = 3 ∨ k = 4 ∨ k = 5 ∨ k = 6 ∨ k = 7 ∨ k = 8) : (wordT k = [] ∨ (∃ c r, wordT k = c :: r /\ blankB c = false)) /\ Small (wordT k) := by
 rcases hk with rfl | rfl | rfl | rfl | rfl | rfl | rfl
 all_goals first
  | exact ⟨.inl rfl, fun c h => absurd (show c ∈ [] from h) List.not_mem_nil⟩
  | exact ⟨.inr ⟨_, _, rfl, by decide⟩, by unfold Small; decide⟩
theorem text_head {t : Te} (h : Wf t) : ∃ c r, textT t = c :: r /\ blankB c = false := by
 cases t with
 | num n u => rw [textT]; exact num_head n u
 | op k l =>
  rw [text_op h]
  rcases (word_head (wf_kind h).1).1 with e | ⟨c, r, e, hc⟩
  ·rw [e]; exact ⟨40, _, rfl, by decide⟩
  ·rw [e]; exact ⟨c, _, rfl, hc⟩
theorem join_head {s : Bs} {l : List Te} (h : Wfs l) (h0 : l ≠ []) : ∃ c r, joinT s l = c :: r /\ blankB c = false := by
 match l, h, h0 with
 | [], _, h0 => exact absurd rfl h0
 | [t], h, _ =>
  rw [Wfs] at h
  rw [joinT]; exact text_head h.1
 | t :: u :: l, h, _ =>
  rw [Wfs] at h
  obtain ⟨c, r, e, hc⟩ := text_head h.1
  rw [joinT, e]; exact ⟨c, _, rfl, hc⟩
theorem cut_sign {k : Int} (hk : k = 2 ∨ k = 3 ∨ k = 4 ∨ k = 5 ∨ k = 6 ∨ k = 7 ∨ k = 8) {c : UInt8} {r : Bs} (hc : blankB c = false) : (∃ s m, signP k ++ c :: r = s :: m /\ (s = 32 ∨ s = 41 ∨ s = 44)) /\ cutP (signP k ++ c :: r) = sepT k ++ cutP (c :: r) := by
 have h32 : Stops (32 :: c :: r) := Stops.cons stop_32
 have e4 : ∀ x : UInt8, cutP [x] = [tkS x] -> cutP ([x] ++ 32 :: c :: r) = tkS x :: tkB :: cutP (c :: r) := fun x hx => by
  rw [one_app hx ⟨by show ¬ (12 : Int) = 6; decide, by show ¬ (12 : Int) = 9; decide, by show ¬ (12 : Int) = 8; decide⟩ h32, cut_sp rfl hc]
 have e5 : ∀ x : UInt8, cutP [x] = [tkS x] -> blankB x = false -> cutP (32 :: ([x] ++ 32 :: c :: r)) = tkB :: tkS x :: tkB :: cutP (c :: r) := fun x hx hb => by
  have h1 := cut_sp (m := [x] ++ 32 :: c :: r) (c := x) rfl hb
  rw [h1, e4 x hx]
 rcases hk with rfl | rfl | rfl | rfl | rfl | rfl | rfl
 ·exact ⟨⟨32, _, rfl, .inl rfl⟩, e5 43 (cut_eval (by decide +kernel)) (by decide)⟩
 ·exact ⟨⟨32, _, rfl, .inl rfl⟩, e5 45 (cut_eval (by decide +kernel)) (by decide)⟩
 ·exact ⟨⟨32, _, rfl, .inl rfl⟩, e5 42 (cut_eval (by decide +kernel)) (by decide)⟩
 ·exact ⟨⟨32, _, rfl, .inl rfl⟩, e5 47 (cut_eval (by decide +kernel)) (by decide)⟩
 ·exact ⟨⟨44, _, rfl, .inr (.inr rfl)⟩, e4 44 (cut_eval (by decide +kernel))⟩
 ·exact ⟨⟨44, _, rfl, .inr (.inr rfl)⟩, e4 44 (cut_eval (by decide +kernel))⟩
 ·exact ⟨⟨44, _, rfl, .inr (.inr rfl)⟩, e4 44 (cut_eval (by decide +kernel))⟩
theorem stops_of {s : UInt8} (h : s = 32 ∨ s = 41 ∨ s = 44) (m : Bs) : Stops (s :: m) := by
 rcases h with rfl | rfl | rfl <;> exact Stops.cons (by unfold st.Stop; decide)
abbrev CutsT (t : Te) : Prop := Wf t -> ∀ (s : UInt8) (m : Bs), (s = 32 ∨ s = 41 ∨ s = 44) -> cutP (textT t ++ s :: m) = toksT t ++ cutP (s :: m)
theorem cut_join {k : Int} (hk : k = 2 ∨ k = 3 ∨ k = 4 ∨ k = 5 ∨ k = 6 ∨ k = 7 ∨ k = 8) (m : Bs) : ∀ l : List Te, (∀ t ∈ l, CutsT t) -> Wfs l -> cutP (joinT (signP k) l ++ 41 :: m) = toksJ (sepT k) l ++ cutP (41 :: m)
 | [], _, _ => by rw [joinT, toksJ]; rfl
 | [t], h, hw => by
  rw [Wfs] at hw
  rw [joinT, toksJ]
  exact h t (List.mem_cons_self ..) hw.1 41 m (.inr (.inl rfl))
 | t :: u :: l, h, hw => by
  rw [Wfs] at hw
  obtain ⟨c, r, e, hc⟩ := join_head (s := signP k) hw.2 (by simp)
  have ih := cut_join hk m (u :: l) (fun x hx => h x (List.mem_cons_of_mem _ hx)) hw.2
  obtain ⟨⟨s, m2, es, hs⟩, h2⟩ := cut_sign hk (c := c) (r := r ++ 41 :: m) hc
  rw [e, List.cons_append] at ih
  rw [joinT, toksJ, e, List.append_assoc, List.append_assoc, List.cons_append, es, h t (List.mem_cons_self ..) hw.1 s m2 hs, <- es, h2, ih]
  simp
mutual
theorem cut_text : ∀ t : Te, CutsT t
 | .num n u => fun hw s m hs => by
  rw [Wf] at hw
  rw [textT, toksT]
  exact one_app (num_cut hw.1 hw.2.1 hw.2.2) ⟨by show ¬ (7 : Int) = 6; decide, by show ¬ (7 : Int) = 9; decide, by show ¬ (7 : Int) = 8; decide⟩ (stops_of hs m)
 | .op k l => fun hw s m hs => by
  obtain ⟨hk, h0, hl, -⟩ := wf_kind hw
  have hj := cut_join hk (s :: m) l (cut_texts l) hl
  have h41 : cutP (41 :: s :: m) = tkShut :: cutP (s :: m) := cut_solo _ (by decide)
  rw [h41] at hj
  obtain ⟨h1, h2⟩ := word_head hk
  rw [text_op hw, toksT]
  by_cases e : wordT k = []
  ·rw [e, if_pos rfl, List.nil_append, List.cons_append, List.append_assoc, cut_solo _ (by decide)]
   rw [show ([41] : Bs) ++ s :: m = 41 :: s :: m from rfl, hj]
   simp [tkOpen, oneK, nv]
  ·rw [if_neg e, List.append_assoc, List.cons_append, List.append_assoc, cut_word e h2]
   rw [show ([41] : Bs) ++ s :: m = 41 :: s :: m from rfl, hj]
   simp
theorem cut_texts : ∀ l : List Te, ∀ t ∈ l, CutsT t
 | [], t, h => absurd h List.not_mem_nil
 | a :: l, t, h => by
  rcases List.mem_cons.1 h with e | e
  ·rw [e]; exact cut_text a
  ·exact cut_texts l t e
end
end clb
end Go.Proofs.YtlfkkaofgcongaaGreatDoor
