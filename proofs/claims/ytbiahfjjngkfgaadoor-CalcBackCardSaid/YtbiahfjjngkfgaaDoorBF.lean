/- Contracts and plain law, a bundle: Clb0 Clb1 Clb4 Clb5. -/
import Derived.Deep.QuietTactic
import Derived.BigQuiet
import Derived.Test.YtbiahfjjngkfgaaDoorBC2
import Derived.Test.YtbiahfjjngkfgaaDoorBC
import Derived.Test.YtbiahfjjngkfgaaDoorBE

namespace Go.Proofs.YtbiahfjjngkfgaaDoor.clb
open Go.RowKit Go.Proofs.YtbiahfjjngkfgaaDoor.base Go.Proofs.YtbiahfjjngkfgaaDoor.tok Go.Proofs.YtbiahfjjngkfgaaDoor.dim Go.Proofs.YtbiahfjjngkfgaaDoor.rul
set_option linter.unusedVariables false

inductive Te where
  | num (n : Int) (u : Bs)
  | op (k : Int) (l : List Te)

mutual
def Te.size : Te → Nat
  | .num _ _ => 1
  | .op _ l => 1 + sizes l
def sizes : List Te → Nat
  | [] => 0
  | t :: l => t.size + sizes l
end
theorem size_num (n : Int) (u : Bs) : (Te.num n u).size = 1 := by rw [Te.size]
theorem size_op (k : Int) (l : List Te) : (Te.op k l).size = 1 + sizes l := by rw [Te.size]
theorem sizes_nil : sizes [] = 0 := by rw [sizes]
theorem sizes_cons (t : Te) (l : List Te) : sizes (t :: l) = t.size + sizes l := by rw [sizes]
theorem sizes_app (l : List Te) (t : Te) : sizes (l ++ [t]) = sizes l + t.size := by
  induction l with
  | nil => rw [List.nil_append, sizes_cons, sizes_nil]; omega
  | cons a l ih => rw [List.cons_append, sizes_cons, sizes_cons, ih]; omega

/-- shaped, as to how many subs there are -/
def shapedP (k : Int) (m : Nat) : Bool := if k = 1 then decide (m = 0) else if 2 ≤ k ∧ k ≤ 5 then decide (m = 2) else if k = 6 ∨ k = 7 then decide (0 < m) else if k = 8 then decide (m = 3) else false

def calcT : Bs := [99, 97, 108, 99]
def minT : Bs := [109, 105, 110]
def maxT : Bs := [109, 97, 120]
def midT : Bs := [99, 108, 97, 109, 112]
def kindI (s : Bs) : Int := if s = minT then 6 else if s = maxT then 7 else if s = midT then 8 else 0

def gapP (L : List Tk) : List Tk := L.dropWhile silP
def gapB (L : List Tk) : Bool := decide ((gapP L).length < L.length)
def madeP (n : Nat) (t : Te) (L : List Tk) : Option (Te × List Tk × Nat) := if n + 1 ≤ 30 then some (t, L, n + 1) else none
def closeF : Te × List Tk × Nat × Bool → Option (Te × List Tk × Nat)
  | (t, c :: L, n, _) => if c.raw = [41] then some (t, L, n) else none
  | (_, [], _, _) => none

mutual
def valF : Nat → Bool → List Tk → Nat → Option (Te × List Tk × Nat)
  | 0, _, _, _ => none
  | _ + 1, _, [], _ => none
  | d + 1, inb, t :: L, n =>
    if t.k = 7 then (if t.val ∈ unitsL then madeP n (.num t.num t.val) L else none)
    else if inb = true ∧ t.raw = [40] then (sumF d L n).bind closeF
    else if t.k = 2 then
      (if t.val.map lowB = calcT then (sumF d L n).bind closeF
      else if kindI (t.val.map lowB) = 0 then none
      else listF d (kindI (t.val.map lowB)) [] L n)
    else none
def prodF : Nat → List Tk → Nat → Option (Te × List Tk × Nat × Bool)
  | 0, _, _ => none
  | d + 1, L, n => (valF d true (gapP L) n).bind fun r => prodG d r.1 r.2.1 r.2.2
def prodG : Nat → Te → List Tk → Nat → Option (Te × List Tk × Nat × Bool)
  | 0, _, _, _ => none
  | d + 1, t, L, n =>
    match gapP L with
    | [] => some (t, [], n, gapB L)
    | c :: M =>
      if c.raw = [42] then (valF d true (gapP M) n).bind fun r => (madeP r.2.2 (.op 4 [t, r.1]) r.2.1).bind fun q => prodG d q.1 q.2.1 q.2.2
      else if c.raw = [47] then (valF d true (gapP M) n).bind fun r => (madeP r.2.2 (.op 5 [t, r.1]) r.2.1).bind fun q => prodG d q.1 q.2.1 q.2.2
      else some (t, c :: M, n, gapB L)
def sumF : Nat → List Tk → Nat → Option (Te × List Tk × Nat × Bool)
  | 0, _, _ => none
  | d + 1, L, n => (prodF d L n).bind fun r => sumG d r.1 r.2.1 r.2.2.1 r.2.2.2
def sumG : Nat → Te → List Tk → Nat → Bool → Option (Te × List Tk × Nat × Bool)
  | 0, _, _, _, _ => none
  | d + 1, t, L, n, g =>
    match L with
    | [] => some (t, [], n, g)
    | c :: M =>
      if c.raw = [43] then (if g && gapB M then (prodF d (gapP M) n).bind fun r => (madeP r.2.2.1 (.op 2 [t, r.1]) r.2.1).bind fun q => sumG d q.1 q.2.1 q.2.2 r.2.2.2 else none)
      else if c.raw = [45] then (if g && gapB M then (prodF d (gapP M) n).bind fun r => (madeP r.2.2.1 (.op 3 [t, r.1]) r.2.1).bind fun q => sumG d q.1 q.2.1 q.2.2 r.2.2.2 else none)
      else some (t, c :: M, n, g)
def listF : Nat → Int → List Te → List Tk → Nat → Option (Te × List Tk × Nat)
  | 0, _, _, _, _ => none
  | d + 1, k, l, L, n => (sumF d L n).bind fun r =>
    match r.2.1 with
    | [] => none
    | c :: M =>
      if c.raw = [44] then listF d k (l ++ [r.1]) M r.2.2.1
      else if c.raw = [41] ∧ shapedP k (l.length + 1) = true then madeP r.2.2.1 (.op k (l ++ [r.1])) M
      else none
end

/-- what a text is read as -/
def readT (d : Nat) (s : Bs) : Option Te :=
  if 400 < s.length then none else
  match valF d false (gapP (cutP s)) 0 with
  | some (t, L, _) => if gapP L = [] then some t else none
  | none => none

/-! ### the text of a term -/
def signP (k : Int) : Bs := if k = 2 then [32, 43, 32] else if k = 3 then [32, 45, 32] else if k = 4 then [32, 42, 32] else if k = 5 then [32, 47, 32] else [44, 32]
def wordT (k : Int) : Bs := if k = 6 then minT else if k = 7 then maxT else if k = 8 then midT else []
def numT (n : Int) (u : Bs) : Bs := (if n < 0 then [45] else []) ++ (plainP n.natAbs ++ u)
mutual
def textT : Te → Bs
  | .num n u => numT n u
  | .op k l => if shapedP k l.length && !decide (k = 1) then wordT k ++ 40 :: (joinT (signP k) l ++ [41]) else []
def joinT (s : Bs) : List Te → Bs
  | [] => []
  | [t] => textT t
  | t :: u :: l => textT t ++ s ++ joinT s (u :: l)
end
/-! ### what is read -/
mutual
def Wf : Te → Prop
  | .num n u => -1000000000 ≤ n ∧ n ≤ 1000000000 ∧ u ∈ unitsL
  | .op k l => ((2 ≤ k ∧ k ≤ 5 ∧ l.length = 2) ∨ (6 ≤ k ∧ k ≤ 7 ∧ 0 < l.length) ∨ (k = 8 ∧ l.length = 3)) ∧ Wfs l
def Wfs : List Te → Prop
  | [] => True
  | t :: l => Wf t ∧ Wfs l
end
theorem wfs_app {l : List Te} {t : Te} (h : Wfs l) (ht : Wf t) : Wfs (l ++ [t]) := by
  induction l with
  | nil => rw [List.nil_append, Wfs, Wfs]; exact ⟨ht, trivial⟩
  | cons a l ih =>
    rw [Wfs] at h
    rw [List.cons_append, Wfs]
    exact ⟨h.1, ih h.2⟩

end Go.Proofs.YtbiahfjjngkfgaaDoor.clb

namespace Go.Proofs.YtbiahfjjngkfgaaDoor.clb
open Go.RowKit Go.Proofs.YtbiahfjjngkfgaaDoor.base Go.Proofs.YtbiahfjjngkfgaaDoor.tok Go.Proofs.YtbiahfjjngkfgaaDoor.dim Go.Proofs.YtbiahfjjngkfgaaDoor.rul
set_option linter.unusedVariables false

def GoodL (L : List Tk) : Prop := ∀ t ∈ L, t.k = 7 → -1000000000 ≤ t.num ∧ t.num ≤ 1000000000
theorem GoodL.suf {L M : List Tk} (h : GoodL L) (hs : M <:+ L) : GoodL M := fun t ht => h t (hs.subset ht)
theorem gap_suf (L : List Tk) : gapP L <:+ L := List.dropWhile_suffix _
theorem gap_le (L : List Tk) : (gapP L).length ≤ L.length := (gap_suf L).length_le
theorem made_some {n : Nat} {t u : Te} {L M : List Tk} {m : Nat} (h : madeP n t L = some (u, M, m)) : u = t ∧ M = L ∧ m = n + 1 ∧ n + 1 ≤ 30 := by
  unfold madeP at h
  split at h
  · injection h with h
    injection h with h1 h2
    injection h2 with h2 h3
    exact ⟨h1.symm, h2.symm, h3.symm, by assumption⟩
  · cases h
theorem close_some {r : Te × List Tk × Nat × Bool} {t : Te} {M : List Tk} {m : Nat} (h : closeF r = some (t, M, m)) : ∃ c g, r = (t, c :: M, m, g) ∧ c.raw = [41] := by
  obtain ⟨t0, L, n, g⟩ := r
  cases L with
  | nil => cases h
  | cons c L =>
    simp only [closeF] at h
    split at h
    · injection h with h
      injection h with h1 h2
      injection h2 with h2 h3
      subst h1 h2 h3
      exact ⟨c, g, rfl, by assumption⟩
    · cases h
theorem wf_op2 {k : Int} {a b : Te} (h1 : 2 ≤ k) (h2 : k ≤ 5) (ha : Wf a) (hb : Wf b) : Wf (.op k [a, b]) := by
  rw [Wf, Wfs, Wfs, Wfs]
  exact ⟨.inl ⟨h1, h2, rfl⟩, ha, hb, trivial⟩
theorem size_two (k : Int) (a b : Te) : (Te.op k [a, b]).size = 1 + a.size + b.size := by
  rw [size_op, sizes_cons, sizes_cons, sizes_nil]
  omega
theorem kind_of {s : Bs} (h : ¬ kindI s = 0) : 6 ≤ kindI s ∧ kindI s ≤ 8 := by
  unfold kindI at h ⊢
  split
  · omega
  · split
    · omega
    · split
      · omega
      · rename_i h1 h2 h3
        rw [if_neg h1, if_neg h2, if_neg h3] at h
        exact absurd rfl h
theorem tail_suf {c : Tk} {M L : List Tk} (h : c :: M <:+ L) : M <:+ L := (List.suffix_cons c M).trans h
theorem tail_lt {c : Tk} {M L : List Tk} (h : c :: M <:+ L) : M.length < L.length := by
  have := h.length_le
  simp at this
  omega

abbrev InvV (d : Nat) : Prop := ∀ (inb : Bool) (L : List Tk) (n : Nat) (t : Te) (M : List Tk) (m : Nat), GoodL L → valF d inb L n = some (t, M, m) → Wf t ∧ m = n + t.size ∧ m ≤ 30 ∧ M <:+ L ∧ M.length < L.length
abbrev InvP (d : Nat) : Prop := ∀ (L : List Tk) (n : Nat) (t : Te) (M : List Tk) (m : Nat) (g : Bool), GoodL L → prodF d L n = some (t, M, m, g) → Wf t ∧ m = n + t.size ∧ m ≤ 30 ∧ M <:+ L ∧ M.length < L.length
abbrev InvPG (d : Nat) : Prop := ∀ (t0 : Te) (L : List Tk) (n : Nat) (t : Te) (M : List Tk) (m : Nat) (g : Bool), GoodL L → Wf t0 → n ≤ 30 → prodG d t0 L n = some (t, M, m, g) → Wf t ∧ m + t0.size = n + t.size ∧ m ≤ 30 ∧ M <:+ L
abbrev InvS (d : Nat) : Prop := ∀ (L : List Tk) (n : Nat) (t : Te) (M : List Tk) (m : Nat) (g : Bool), GoodL L → sumF d L n = some (t, M, m, g) → Wf t ∧ m = n + t.size ∧ m ≤ 30 ∧ M <:+ L ∧ M.length < L.length
abbrev InvSG (d : Nat) : Prop := ∀ (t0 : Te) (L : List Tk) (n : Nat) (g0 : Bool) (t : Te) (M : List Tk) (m : Nat) (g : Bool), GoodL L → Wf t0 → n ≤ 30 → sumG d t0 L n g0 = some (t, M, m, g) → Wf t ∧ m + t0.size = n + t.size ∧ m ≤ 30 ∧ M <:+ L
abbrev InvL (d : Nat) : Prop := ∀ (k : Int) (l : List Te) (L : List Tk) (n : Nat) (t : Te) (M : List Tk) (m : Nat), GoodL L → Wfs l → 6 ≤ k → k ≤ 8 → listF d k l L n = some (t, M, m) → Wf t ∧ m + sizes l = n + t.size ∧ m ≤ 30 ∧ M <:+ L ∧ M.length < L.length

theorem inv_close {d : Nat} {L T : List Tk} {c : Tk} {n : Nat} {t : Te} {M : List Tk} {m : Nat} (hS : InvS d) (hL : GoodL (c :: L)) (h : (sumF d L n).bind closeF = some (t, M, m)) : Wf t ∧ m = n + t.size ∧ m ≤ 30 ∧ M <:+ c :: L ∧ M.length < (c :: L).length := by
  obtain ⟨r, hr, hc⟩ := Option.bind_eq_some_iff.1 h
  obtain ⟨x, g, rfl, -⟩ := close_some hc
  obtain ⟨h1, h2, h3, h4, h5⟩ := hS _ _ _ _ _ _ (hL.suf (List.suffix_cons _ _)) hr
  have h6 := (tail_suf h4).trans (List.suffix_cons c L)
  have h7 := tail_lt h4
  exact ⟨h1, h2, h3, h6, by simp; omega⟩
theorem inv_two {k : Int} {d : Nat} {t0 : Te} {L M0 : List Tk} {n : Nat} {t : Te} {M : List Tk} {m : Nat} {g : Bool} (h2 : 2 ≤ k) (h5 : k ≤ 5) (hV : InvV d) (hG : InvPG d) (hL : GoodL L) (ht : Wf t0) (hM : M0 <:+ L)
    (h : ((valF d true (gapP M0) n).bind fun r => (madeP r.2.2 (.op k [t0, r.1]) r.2.1).bind fun q => prodG d q.1 q.2.1 q.2.2) = some (t, M, m, g)) : Wf t ∧ m + t0.size = n + t.size ∧ m ≤ 30 ∧ M <:+ L := by
  obtain ⟨⟨a, La, na⟩, ha, h⟩ := Option.bind_eq_some_iff.1 h
  obtain ⟨⟨b, Lb, nb⟩, hb, h⟩ := Option.bind_eq_some_iff.1 h
  dsimp only at hb h
  obtain ⟨rfl, rfl, rfl, hn⟩ := made_some hb
  have hg := (gap_suf M0).trans hM
  obtain ⟨a1, a2, a3, a4, a5⟩ := hV _ _ _ _ _ _ (hL.suf hg) ha
  obtain ⟨b1, b2, b3, b4⟩ := hG _ _ _ _ _ _ _ (hL.suf (a4.trans hg)) (wf_op2 h2 h5 ht a1) hn h
  rw [size_two] at b2
  exact ⟨b1, by omega, b3, b4.trans (a4.trans hg)⟩
theorem inv_sum {k : Int} {d : Nat} {t0 : Te} {L M0 : List Tk} {n : Nat} {t : Te} {M : List Tk} {m : Nat} {g : Bool} (h2 : 2 ≤ k) (h5 : k ≤ 5) (hV : InvP d) (hG : InvSG d) (hL : GoodL L) (ht : Wf t0) (hM : M0 <:+ L)
    (h : ((prodF d (gapP M0) n).bind fun r => (madeP r.2.2.1 (.op k [t0, r.1]) r.2.1).bind fun q => sumG d q.1 q.2.1 q.2.2 r.2.2.2) = some (t, M, m, g)) : Wf t ∧ m + t0.size = n + t.size ∧ m ≤ 30 ∧ M <:+ L := by
  obtain ⟨⟨a, La, na, ga⟩, ha, h⟩ := Option.bind_eq_some_iff.1 h
  obtain ⟨⟨b, Lb, nb⟩, hb, h⟩ := Option.bind_eq_some_iff.1 h
  dsimp only at hb h
  obtain ⟨rfl, rfl, rfl, hn⟩ := made_some hb
  have hg := (gap_suf M0).trans hM
  obtain ⟨a1, a2, a3, a4, a5⟩ := hV _ _ _ _ _ _ (hL.suf hg) ha
  obtain ⟨b1, b2, b3, b4⟩ := hG _ _ _ _ _ _ _ _ (hL.suf (a4.trans hg)) (wf_op2 h2 h5 ht a1) hn h
  rw [size_two] at b2
  exact ⟨b1, by omega, b3, b4.trans (a4.trans hg)⟩

theorem inv_all : ∀ d, InvV d ∧ InvP d ∧ InvPG d ∧ InvS d ∧ InvSG d ∧ InvL d
  | 0 => by
    refine ⟨?_, ?_, ?_, ?_, ?_, ?_⟩
    · intro inb L n t M m _ h; rw [valF] at h; cases h
    · intro L n t M m g _ h; rw [prodF] at h; cases h
    · intro t0 L n t M m g _ _ _ h; rw [prodG] at h; cases h
    · intro L n t M m g _ h; rw [sumF] at h; cases h
    · intro t0 L n g0 t M m g _ _ _ h; rw [sumG] at h; cases h
    · intro k l L n t M m _ _ _ _ h; rw [listF] at h; cases h
  | d + 1 => by
    obtain ⟨hV, hP, hPG, hS, hSG, hLi⟩ := inv_all d
    refine ⟨?_, ?_, ?_, ?_, ?_, ?_⟩
    · intro inb L n t M m hL h
      cases L with
      | nil => rw [valF] at h; cases h
      | cons c L =>
        rw [valF] at h
        split at h
        · rename_i h7
          split at h
          · rename_i hu
            obtain ⟨rfl, rfl, rfl, hn⟩ := made_some h
            have hb := hL c (List.mem_cons_self ..) h7
            refine ⟨by rw [Wf]; exact ⟨hb.1, hb.2, hu⟩, by rw [size_num], hn, List.suffix_cons _ _, by simp⟩
          · cases h
        · split at h
          · exact inv_close (T := L) hS hL h
          · split at h
            · split at h
              · exact inv_close (T := L) hS hL h
              · split at h
                · cases h
                · rename_i hk
                  obtain ⟨k1, k2⟩ := kind_of hk
                  obtain ⟨a1, a2, a3, a4, a5⟩ := hLi _ _ _ _ _ _ _ (hL.suf (List.suffix_cons _ _)) (by rw [Wfs]; trivial) k1 k2 h
                  rw [sizes_nil] at a2
                  exact ⟨a1, by omega, a3, a4.trans (List.suffix_cons _ _), by simp; omega⟩
            · cases h
    · intro L n t M m g hL h
      rw [prodF] at h
      obtain ⟨⟨a, La, na⟩, ha, h⟩ := Option.bind_eq_some_iff.1 h
      obtain ⟨a1, a2, a3, a4, a5⟩ := hV _ _ _ _ _ _ (hL.suf (gap_suf L)) ha
      obtain ⟨b1, b2, b3, b4⟩ := hPG _ _ _ _ _ _ _ (hL.suf (a4.trans (gap_suf L))) a1 a3 h
      have h6 := b4.length_le
      have h7 := gap_le L
      exact ⟨b1, by omega, b3, b4.trans (a4.trans (gap_suf L)), by omega⟩
    · intro t0 L n t M m g hL ht hn h
      rw [prodG] at h
      split at h
      · injection h with h; injection h with h1 h2; injection h2 with h2 h3; injection h3 with h3 h4
        subst h1 h2 h3
        exact ⟨ht, by omega, hn, List.nil_suffix⟩
      · rename_i c M0 e
        have hs : c :: M0 <:+ L := e ▸ gap_suf L
        split at h
        · exact inv_two (by decide) (by decide) hV hPG hL ht (tail_suf hs) h
        · split at h
          · exact inv_two (by decide) (by decide) hV hPG hL ht (tail_suf hs) h
          · injection h with h; injection h with h1 h2; injection h2 with h2 h3; injection h3 with h3 h4
            subst h1 h2 h3
            exact ⟨ht, by omega, hn, hs⟩
    · intro L n t M m g hL h
      rw [sumF] at h
      obtain ⟨⟨a, La, na, ga⟩, ha, h⟩ := Option.bind_eq_some_iff.1 h
      obtain ⟨a1, a2, a3, a4, a5⟩ := hP _ _ _ _ _ _ hL ha
      obtain ⟨b1, b2, b3, b4⟩ := hSG _ _ _ _ _ _ _ _ (hL.suf a4) a1 a3 h
      have h6 := b4.length_le
      exact ⟨b1, by omega, b3, b4.trans a4, by omega⟩
    · intro t0 L n g0 t M m g hL ht hn h
      cases L with
      | nil =>
        rw [sumG] at h
        injection h with h; injection h with h1 h2; injection h2 with h2 h3; injection h3 with h3 h4
        subst h1 h2 h3
        exact ⟨ht, by omega, hn, List.nil_suffix⟩
      | cons c M0 =>
        rw [sumG] at h
        split at h
        · split at h
          · exact inv_sum (by decide) (by decide) hP hSG hL ht (List.suffix_cons _ _) h
          · cases h
        · split at h
          · split at h
            · exact inv_sum (by decide) (by decide) hP hSG hL ht (List.suffix_cons _ _) h
            · cases h
          · injection h with h; injection h with h1 h2; injection h2 with h2 h3; injection h3 with h3 h4
            subst h1 h2 h3
            exact ⟨ht, by omega, hn, List.suffix_refl _⟩
    · intro k l L n t M m hL hl k1 k2 h
      rw [listF] at h
      obtain ⟨⟨a, La, na, ga⟩, ha, h⟩ := Option.bind_eq_some_iff.1 h
      obtain ⟨a1, a2, a3, a4, a5⟩ := hS _ _ _ _ _ _ hL ha
      simp only at h
      split at h
      · cases h
      · rename_i c M0
        have hs := tail_suf a4
        split at h
        · obtain ⟨b1, b2, b3, b4, b5⟩ := hLi _ _ _ _ _ _ _ (hL.suf hs) (wfs_app hl a1) k1 k2 h
          rw [sizes_app] at b2
          have := hs.length_le
          exact ⟨b1, by omega, b3, b4.trans hs, by omega⟩
        · split at h
          · rename_i hc
            obtain ⟨rfl, rfl, rfl, hn⟩ := made_some h
            have hsh := hc.2
            refine ⟨?_, by rw [size_op, sizes_app]; omega, hn, hs, tail_lt a4⟩
            rw [Wf]
            refine ⟨?_, wfs_app hl a1⟩
            rw [List.length_append, List.length_singleton]
            unfold shapedP at hsh
            rw [if_neg (by omega), if_neg (by omega)] at hsh
            split at hsh
            · rename_i h67
              exact .inr (.inl ⟨by omega, by omega, by omega⟩)
            · split at hsh
              · exact .inr (.inr ⟨by assumption, of_decide_eq_true hsh⟩)
              · cases hsh
          · cases h

end Go.Proofs.YtbiahfjjngkfgaaDoor.clb

namespace Go.Proofs.YtbiahfjjngkfgaaDoor.clb
open Go.RowKit Go.Proofs.YtbiahfjjngkfgaaDoor.base Go.Proofs.YtbiahfjjngkfgaaDoor.tok Go.Proofs.YtbiahfjjngkfgaaDoor.dim Go.Proofs.YtbiahfjjngkfgaaDoor.rul
set_option linter.unusedVariables false

mutual
/-- a value is this term, all of whose blocks are X -/
def TeAt (X : Nat → Prop) (w : World) : Te → Value → Prop
  | .num n u, v => v = .agg #[.int .i64 1, .int .i64 n, .string (bs u), .slice none 0 0]
  | .op k l, v => ∃ c o cap, v = .agg #[.int .i64 k, .int .i64 0, .string ⟨#[]⟩, .slice (some ⟨c, o, none⟩) l.length cap] ∧ l.length ≤ cap ∧ X c ∧ c < w.heap.size ∧ TesAt X w c o l
/-- these terms lie from cell o of block c on -/
def TesAt (X : Nat → Prop) (w : World) (c : Nat) : Nat → List Te → Prop
  | _, [] => True
  | o, t :: l => (∃ x0 x1 x2 x3, w.cell? ⟨c, o, none⟩ = some x0 ∧ w.cell? ⟨c, o + 1, none⟩ = some x1 ∧ w.cell? ⟨c, o + 2, none⟩ = some x2 ∧ w.cell? ⟨c, o + 3, none⟩ = some x3 ∧ TeAt X w t (.agg #[x0, x1, x2, x3])) ∧ TesAt X w c (o + 4) l
end
/-- these terms are these cells, four each -/
def VsAt (X : Nat → Prop) (w : World) : List Te → List Value → Prop
  | [], xs => xs = []
  | t :: l, xs => ∃ x0 x1 x2 x3 ys, xs = x0 :: x1 :: x2 :: x3 :: ys ∧ TeAt X w t (.agg #[x0, x1, x2, x3]) ∧ VsAt X w l ys

mutual
theorem TeAt.keep {X Y : Nat → Prop} {w w' : World} (hs : w.heap.size ≤ w'.heap.size) (hk : ∀ c, X c → c < w.heap.size → Y c ∧ w'.heap[c]? = w.heap[c]?) : ∀ (t : Te) (v : Value), TeAt X w t v → TeAt Y w' t v
  | .num n u, v => fun h => by rw [TeAt] at h ⊢; exact h
  | .op k l, v => fun h => by
    rw [TeAt] at h ⊢
    obtain ⟨c, o, cap, h1, h2, h3, h4, h5⟩ := h
    obtain ⟨k1, k2⟩ := hk c h3 h4
    exact ⟨c, o, cap, h1, h2, k1, Nat.lt_of_lt_of_le h4 hs, TesAt.keep hs hk c k2 l o h5⟩
theorem TesAt.keep {X Y : Nat → Prop} {w w' : World} (hs : w.heap.size ≤ w'.heap.size) (hk : ∀ c, X c → c < w.heap.size → Y c ∧ w'.heap[c]? = w.heap[c]?) (c : Nat) (hc : w'.heap[c]? = w.heap[c]?) : ∀ (l : List Te) (o : Nat), TesAt X w c o l → TesAt Y w' c o l
  | [], o => fun _ => by rw [TesAt]; trivial
  | t :: l, o => fun h => by
    rw [TesAt] at h ⊢
    obtain ⟨⟨x0, x1, x2, x3, c0, c1, c2, c3, ht⟩, hl⟩ := h
    have hcell : ∀ j, w'.cell? ⟨c, j, none⟩ = w.cell? ⟨c, j, none⟩ := fun j => World.cell?_of_block (w := w) hc
    exact ⟨⟨x0, x1, x2, x3, (hcell _).trans c0, (hcell _).trans c1, (hcell _).trans c2, (hcell _).trans c3, TeAt.keep hs hk t _ ht⟩, TesAt.keep hs hk c hc l _ hl⟩
end
theorem VsAt.keep {X Y : Nat → Prop} {w w' : World} (hs : w.heap.size ≤ w'.heap.size) (hk : ∀ c, X c → c < w.heap.size → Y c ∧ w'.heap[c]? = w.heap[c]?) : ∀ (l : List Te) (xs : List Value), VsAt X w l xs → VsAt Y w' l xs
  | [], xs => fun h => h
  | t :: l, xs => fun h => by
    obtain ⟨x0, x1, x2, x3, ys, e, h1, h2⟩ := h
    exact ⟨x0, x1, x2, x3, ys, e, TeAt.keep hs hk t _ h1, VsAt.keep hs hk l ys h2⟩
theorem TeAt.on {X : Nat → Prop} {w w' : World} {t : Te} {v : Value} (h : TeAt X w t v) (hb : Below w.heap.size w w') : TeAt X w' t v :=
  TeAt.keep hb.size (fun c hx hc => ⟨hx, hb.block c hc⟩) t v h
theorem TeAt.grown {X : Nat → Prop} {w w' : World} {b : Nat} {t : Te} {v : Value} (h : TeAt X w t v) (hg : w.grownBy w' (some b)) (hX : ∀ c, X c → c ≠ b) : TeAt X w' t v :=
  TeAt.keep hg.size (fun c hx hc => ⟨hx, hg.block c hc (fun e => hX c hx (Option.some.inj e))⟩) t v h
theorem TeAt.far {X : Nat → Prop} {w : World} {t : Te} {v : Value} (h : TeAt X w t v) {p : Addr} (hp : ∀ c, X c → c ≠ p.block) (u : Value) : TeAt X (w.setCell p u) t v :=
  TeAt.keep (by simp [World.setCell]) (fun c hx hc => ⟨hx, Below.heap_setCell w p u c (hp c hx)⟩) t v h
theorem TeAt.wide {X Y : Nat → Prop} {w : World} {t : Te} {v : Value} (h : TeAt X w t v) (hX : ∀ c, X c → c < w.heap.size → Y c) : TeAt Y w t v :=
  TeAt.keep (Nat.le_refl _) (fun c hx hc => ⟨hX c hx hc, rfl⟩) t v h
theorem VsAt.len {X : Nat → Prop} {w : World} : ∀ {l : List Te} {xs : List Value}, VsAt X w l xs → xs.length = l.length * 4
  | [], xs, h => by rw [show xs = [] from h]; rfl
  | t :: l, xs, h => by
    obtain ⟨x0, x1, x2, x3, ys, rfl, -, h2⟩ := h
    have := VsAt.len h2
    simp only [List.length_cons]
    omega
theorem VsAt.snoc {X : Nat → Prop} {w : World} {t : Te} {x0 x1 x2 x3 : Value} (ht : TeAt X w t (.agg #[x0, x1, x2, x3])) : ∀ {l : List Te} {xs : List Value}, VsAt X w l xs → VsAt X w (l ++ [t]) (xs ++ [x0, x1, x2, x3])
  | [], xs, h => by
    rw [show xs = [] from h]
    exact ⟨x0, x1, x2, x3, [], rfl, ht, rfl⟩
  | a :: l, xs, h => by
    obtain ⟨y0, y1, y2, y3, ys, rfl, h1, h2⟩ := h
    exact ⟨y0, y1, y2, y3, ys ++ [x0, x1, x2, x3], rfl, h1, VsAt.snoc ht h2⟩
/-- the cells of a row are its terms -/
theorem VsAt.at_ {X : Nat → Prop} {w : World} {c : Nat} : ∀ {l : List Te} {xs : List Value} {o : Nat}, VsAt X w l xs → (∀ j u, xs[j]? = some u → w.cell? ⟨c, o + j, none⟩ = some u) → TesAt X w c o l
  | [], xs, o, h, _ => by rw [TesAt]; trivial
  | t :: l, xs, o, h, hc => by
    obtain ⟨x0, x1, x2, x3, ys, rfl, h1, h2⟩ := h
    rw [TesAt]
    refine ⟨⟨x0, x1, x2, x3, hc 0 _ rfl, hc 1 _ rfl, hc 2 _ rfl, hc 3 _ rfl, h1⟩, VsAt.at_ h2 (fun j u hj => ?_)⟩
    have := hc (j + 4) u (by simpa using hj)
    rw [← this]
    congr 2
    omega
/-- a term's value has four parts -/
theorem TeAt.four {X : Nat → Prop} {w : World} {t : Te} {v : Value} (h : TeAt X w t v) : ∃ k n s a m cap, v = .agg #[.int .i64 k, .int .i64 n, .string s, .slice a m cap] := by
  cases t with
  | num n u => rw [TeAt] at h; exact ⟨_, _, _, _, _, _, h⟩
  | op k l => rw [TeAt] at h; obtain ⟨c, o, cap, e, -⟩ := h; exact ⟨_, _, _, _, _, _, e⟩
/-- one of these -/
theorem TesAt.get {X : Nat → Prop} {w : World} {c : Nat} : ∀ {l : List Te} {o i : Nat} {t : Te}, TesAt X w c o l → l[i]? = some t → ∃ x0 x1 x2 x3, w.cell? ⟨c, o + i * 4, none⟩ = some x0 ∧ w.cell? ⟨c, o + i * 4 + 1, none⟩ = some x1 ∧ w.cell? ⟨c, o + i * 4 + 2, none⟩ = some x2 ∧ w.cell? ⟨c, o + i * 4 + 3, none⟩ = some x3 ∧ TeAt X w t (.agg #[x0, x1, x2, x3])
  | [], o, i, t, _, h => by simp at h
  | a :: l, o, 0, t, h, hi => by
    rw [TesAt] at h
    obtain rfl : a = t := by simpa using hi
    simpa using h.1
  | a :: l, o, i + 1, t, h, hi => by
    rw [TesAt] at h
    have := TesAt.get (i := i) (t := t) h.2 (by simpa using hi)
    rw [show o + (i + 1) * 4 = o + 4 + i * 4 by omega]
    exact this

/-! ### alike -/
mutual
theorem wf_size : ∀ t : Te, 1 ≤ t.size
  | .num n u => by rw [size_num]; exact Nat.le_refl _
  | .op k l => by rw [size_op]; omega
end
theorem size_mem : ∀ {l : List Te} {t : Te}, t ∈ l → t.size ≤ sizes l
  | [], t, h => absurd h List.not_mem_nil
  | a :: l, t, h => by
    rw [sizes_cons]
    rcases List.mem_cons.1 h with e | e
    · rw [e]; omega
    · have := size_mem e
      omega

end Go.Proofs.YtbiahfjjngkfgaaDoor.clb

namespace Go.Proofs.YtbiahfjjngkfgaaDoor.clb
open Go.RowKit Go.Proofs.YtbiahfjjngkfgaaDoor.base Go.Proofs.YtbiahfjjngkfgaaDoor.tok Go.Proofs.YtbiahfjjngkfgaaDoor.dim Go.Proofs.YtbiahfjjngkfgaaDoor.rul Go.Proofs.YtbiahfjjngkfgaaDoor.cal
set_option linter.unusedVariables false

/-- the reader's own panic -/
def chainP (x : Int) : List PanicEntry := [{ v := .iface 35 (.agg #[.int .i64 x]), recovered := false }]
def IsErr (x : Int) : Prop := x = 2 ∨ x = 4

theorem need_no (b : Nat) (w : World) : Calls Tryd.prog 12 #[.pointer (some ⟨b, 0, none⟩), .bool false] w fun e w' => e = .panicked (chainP 4) ∧ w = w' := by
  go_enter Tryd.func12, Tryd.ntmps12
  go_wp2
  exact ⟨rfl, rfl, rfl⟩

set_option maxRecDepth 100000 in
set_option maxHeartbeats 4000000 in
theorem made_no (b : Nat) (L : List Tk) (k : Int) (g : Bool) (t : Tm) (hk : k = 30) (w : World) (h : RdrAt w b L k g) :
    Calls Tryd.prog 20 #[.pointer (some ⟨b, 0, none⟩), .agg #[.int .i64 t.k, .int .i64 t.n, .string t.u, .slice t.a t.l t.c]] w fun e w' => e = .panicked (chainP 2) ∧ w.grownBy w' (some b) := by
  obtain ⟨tk, tn, tu, ta, tl, tc⟩ := t
  dsimp only
  subst hk
  obtain ⟨A, cap, hc, hb, hr⟩ := h
  have hlt := hb.lt
  have c1 := hb.cell
  have c2 := hb.frozen
  have c3 := fun v => (hb.put 1 v).cell
  have hbb := Lib.hid hb
  clear hr hb
  go_enter Tryd.func20, Tryd.ntmps20
  go_wp2_with fail
  refine ⟨rfl, rfl, ?_⟩
  exact ((grown_set _ _ _ _).trans (grown_of_below ((Below.refl _ _).alloc (Nat.le_refl _) _) _)).trans (grown_of_below ((Below.refl _ _).alloc (Nat.le_refl _) _) _)

theorem contains_not (w : World) (R o cap : Nat) (L : List Bs) (s : Bs) (h : StrsAt w R o L) (hc : L.length ≤ maxLen) (hm : ¬ s ∈ L) :
    Calls Tryd.prog 42 #[.slice (some ⟨R, o, none⟩) L.length cap, .string (bs s)] w fun e w' => e = .returned (.bool false) ∧ w' = w := by
  have cI := Lib.hid ((index_ct w R o cap L s h hc).mono (R' := fun e w' => ∃ r : Int, e = .returned (.int .i64 r) ∧ decide (r ≥ 0) = false ∧ w' = w) fun e w' ⟨⟨r, he, hr⟩, hw⟩ => ⟨r, he, decide_eq_false (fun h => hm (hr.1 h)), hw⟩)
  generalize L.length = n at *
  go_enter Tryd.func42, Tryd.ntmps42
  go_wp2_with ((go_at_call 24; (with_reducible refine cI.out.mono ?_); rintro e w1 ⟨r, rfl, hr, rfl⟩))
  go_ret
  exact ⟨rfl, rfl⟩

set_option maxRecDepth 100000 in
set_option maxHeartbeats 4000000 in
theorem read_no (s : ByteArray) (hs : s.size < 4294967281) (raw u : Bs) (n : Int) (hcut : cutP s.data.toList = [⟨7, raw, u, n⟩]) (hu : ¬ u ∈ unitsL) (w : World) (hm : MaxL w) (hU : UnitsAt w) :
    Calls Tryd.prog 19 #[.string s] w fun e w' => e = .returned (.tuple #[.agg #[.int .i64 0, .string ⟨#[]⟩], .int .i64 4]) ∧ Below w.heap.size w w' := by
  have cC : ∀ w, MaxL w → Calls Tryd.prog 9 #[.string s] w fun e w' => (∃ b off cap, e = .returned (.slice (some ⟨b, off, none⟩) 1 cap) ∧ b < w'.heap.size ∧ w'.cell? ⟨b, off, none⟩ = some (.int .i64 7) ∧ w'.cell? ⟨b, off + 1, none⟩ = some (.string (bs raw)) ∧ w'.cell? ⟨b, off + 2, none⟩ = some (.string (bs u)) ∧ w'.cell? ⟨b, off + 3, none⟩ = some (.int .i64 n)) ∧ Below w.heap.size w w' := fun w hm =>
    (cut_ct s hs w hm).mono fun e w' ⟨⟨A, cap, he, _, hr⟩, hb⟩ => by
      rw [hcut] at he hr
      obtain ⟨b, off, rfl, hlt, e0, e1, e2, e3⟩ := one_tok hr
      exact ⟨⟨b, off, cap, he, hlt, e0, e1, e2, e3⟩, hb⟩
  replace cC := Lib.hid cC
  replace hcut := Lib.hid hcut
  replace hU := Lib.hid hU
  replace hu := Lib.hid hu
  go_enter Tryd.func19, Tryd.ntmps19
  go_wp2_with ((go_at_call 9; (with_reducible refine (cC.out _ (hm.on ((Below.refl w.heap.size w).alloc (Nat.le_refl _) _) hm.lt)).mono ?_); rintro e W1 ⟨⟨b, off, cap, rfl, hlt, e0, e1, e2, e3⟩, hb1⟩; have HB1 := Lib.hid (((Below.refl w.heap.size w).alloc (Nat.le_refl _) _).trans (hb1.mono (by simp))); have hblk := (Blk.new (w := w) (t := 24) (cs := #[.int .i64 0, .string .empty]) rfl).below hb1 (by simp)))
  obtain ⟨hg, R, o, ucap, hc, hst⟩ := hU.out.on HB1.out
  have cI : ∀ n, Calls Tryd.prog 42 #[.slice (some ⟨R, o, none⟩) 7 ucap, .string (bs u)] (W1.drewN n) fun e w' => e = .returned (.bool false) ∧ W1.drewN n = w' := fun n => (contains_not (W1.drewN n) R o ucap unitsL u hst (by decide) hu.out).mono fun e w' ⟨he, hw⟩ => ⟨he, hw.symm⟩
  replace cI := Lib.hid cI
  have hx : (0 : Int) < 1 := by decide
  go_quiet ((go_at_call 42; exact quiet_left (cI.out _)))
  have r1 := hblk.cell
  have r2 := hblk.frozen
  have r3 := fun v => (hblk.put 0 v).cell
  have r4 := fun v => (hblk.put 0 v).frozen
  go_wp2_with fail
  have e := (((hblk.drewN nq).put 0 (.int .i64 0)).put 1 (.string ⟨#[]⟩)).cell
  refine bodyPost_ret (v := .tuple #[.agg #[.int .i64 0, .string ⟨#[]⟩], .int .i64 4]) (by simp [results, Tryd.results19, go_sem, e]) rfl ⟨rfl, ?_⟩
  exact ((Go.Proofs.YtbiahfjjngkfgaaDoor.base.below_drewN HB1.out nq).setCell (Nat.le_refl _) _).setCell (Nat.le_refl _) _

set_option maxRecDepth 100000 in
set_option maxHeartbeats 2000000 in
/-- the place of the first one that is it -/
theorem index_first (w : World) (R o cap : Nat) (L : List Bs) (s : Bs) (h : StrsAt w R o L) (hc : L.length ≤ maxLen) :
    Calls Tryd.prog 24 #[.slice (some ⟨R, o, none⟩) L.length cap, .string (bs s)] w fun e w' => (∃ r : Int, e = .returned (.int .i64 r) ∧ ((∃ i : Nat, r = i ∧ L[i]? = some s ∧ ¬ s ∈ L.take i) ∨ (r = -1 ∧ ¬ s ∈ L))) ∧ w = w' := by
  have H := Lib.hid h
  unfold maxLen at hc
  obtain ⟨n, hn⟩ : ∃ n, L.length = n := ⟨_, rfl⟩
  rw [hn] at hc
  rw [hn]
  clear h
  go_enter Tryd.func24, Tryd.ntmps24
  go_wp2_with fail
  go_loopw [8] (fun i wr => ∃ k : Nat, k ≤ n ∧ i = .int .i64 k ∧ (¬ s ∈ L.take k) ∧ wr = w) (fun i _ => n - (intOf i).toNat)
  case atStart => exact ⟨0, by omega, rfl, by simp, rfl⟩
  case round =>
    obtain ⟨k, hk, rfl, hno, rfl⟩ := hrel
    replace hno := Lib.hid hno
    by_cases hlt : k < n
    · have hlt' : (k : Int) < (n : Int) := by omega
      have hkl : k < L.length := by omega
      have hx := List.getElem?_eq_getElem hkl
      generalize hxd : L[k] = x at hx
      have e0 := H.out.2 k x hx
      by_cases hxs : s = x
      · have hat := Lib.hid (show L[k]? = some s by rw [hxs]; exact hx)
        have heq : ((bs s).toList == (bs x).toList) = true := by rw [hxs]; simp
        replace hxs := Lib.hid hxs
        clear hx hxd
        go_wp2
        go_ret
        exact ⟨⟨_, rfl, .inl ⟨k, rfl, hat.out, hno.out⟩⟩, rfl⟩
      · have heq : ((bs s).toList == (bs x).toList) = false := by
          rw [bs_toList, bs_toList]
          simpa using hxs
        have hno2 := Lib.hid (show ¬ s ∈ L.take (k + 1) from by
          rw [List.take_succ_eq_append_getElem hkl]
          intro hy
          rcases List.mem_append.1 hy with hy | hy
          · exact hno.out hy
          · exact hxs ((List.mem_singleton.1 hy).trans hxd))
        replace hxs := Lib.hid hxs
        clear hx hxd
        go_wp2
        go_roundw
        case rel => exact ⟨k + 1, by omega, by go_num, hno2.out, trivial⟩
        case measure => simp [intOf]; omega
    · obtain rfl : k = n := by omega
      have hnm : ¬ s ∈ L := fun hm => hno.out (by rw [← hn, List.take_length]; exact hm)
      replace hnm := Lib.hid hnm
      go_wp2
      go_ret
      exact ⟨⟨_, rfl, .inr ⟨rfl, hnm.out⟩⟩, rfl⟩
/-- the words, at their kinds -/
def wordsL : List Bs := [[], [], [], [], [], [], minT, maxT, midT]
theorem words_kind {s : Bs} {r : Int} (h : (∃ i : Nat, r = i ∧ wordsL[i]? = some s ∧ ¬ s ∈ wordsL.take i) ∨ (r = -1 ∧ ¬ s ∈ wordsL)) : (kindI s = 0 ∧ r ≤ 0) ∨ (¬ kindI s = 0 ∧ r = kindI s) := by
  rcases h with ⟨i, rfl, hi, hn⟩ | ⟨rfl, hn⟩
  · have hl := (List.getElem?_eq_some_iff.1 hi).1
    have hl9 : i < 9 := hl
    have hc : i = 0 ∨ i = 1 ∨ i = 2 ∨ i = 3 ∨ i = 4 ∨ i = 5 ∨ i = 6 ∨ i = 7 ∨ i = 8 := by omega
    rcases hc with rfl | rfl | rfl | rfl | rfl | rfl | rfl | rfl | rfl
    · obtain rfl : [] = s := Option.some.inj hi
      exact .inl ⟨by decide, by decide⟩
    · obtain rfl : [] = s := Option.some.inj hi
      exact absurd (by decide) hn
    · obtain rfl : [] = s := Option.some.inj hi
      exact absurd (by decide) hn
    · obtain rfl : [] = s := Option.some.inj hi
      exact absurd (by decide) hn
    · obtain rfl : [] = s := Option.some.inj hi
      exact absurd (by decide) hn
    · obtain rfl : [] = s := Option.some.inj hi
      exact absurd (by decide) hn
    · obtain rfl : minT = s := Option.some.inj hi
      exact .inr ⟨by decide, by decide⟩
    · obtain rfl : maxT = s := Option.some.inj hi
      exact .inr ⟨by decide, by decide⟩
    · obtain rfl : midT = s := Option.some.inj hi
      exact .inr ⟨by decide, by decide⟩
  · refine .inl ⟨?_, by decide⟩
    unfold kindI
    rw [if_neg (fun e => hn (by rw [e]; decide)), if_neg (fun e => hn (by rw [e]; decide)), if_neg (fun e => hn (by rw [e]; decide))]

/-! ### what a call may come to -/
def RetV (b : Nat) (w : World) : Option (Te × List Tk × Nat) → Ending → World → Prop
  | some r, e, w' => w.grownBy w' (some b) ∧ ∃ v g, e = .returned v ∧ TeAt (fun c => w.heap.size ≤ c) w' r.1 v ∧ RdrAt w' b r.2.1 (r.2.2 : Int) g
  | none, e, w' => w.grownBy w' (some b) ∧ ∃ x, IsErr x ∧ e = .panicked (chainP x)
def RetP (b : Nat) (w : World) : Option (Te × List Tk × Nat × Bool) → Ending → World → Prop
  | some r, e, w' => w.grownBy w' (some b) ∧ ∃ v, e = .returned v ∧ TeAt (fun c => w.heap.size ≤ c) w' r.1 v ∧ RdrAt w' b r.2.1 (r.2.2.1 : Int) r.2.2.2
  | none, e, w' => w.grownBy w' (some b) ∧ ∃ x, IsErr x ∧ e = .panicked (chainP x)
/-- the tokens of a text -/
def GoodR (L : List Tk) : Prop := L.length ≤ 400 ∧ ∀ t ∈ L, cutP t.raw = [t] ∧ t.raw.length ≤ 400 ∧ t.val.length ≤ 400
theorem GoodR.suf {L M : List Tk} (h : GoodR L) (hs : M <:+ L) : GoodR M := ⟨Nat.le_trans hs.length_le h.1, fun t ht => h.2 t (hs.subset ht)⟩

end Go.Proofs.YtbiahfjjngkfgaaDoor.clb
