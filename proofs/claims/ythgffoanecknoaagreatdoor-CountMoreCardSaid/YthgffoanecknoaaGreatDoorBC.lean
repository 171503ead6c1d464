/- Contracts and plain law, a bundle. -/
import Derived.Maps.AppendAt
import Derived.Laws.OwnMore
import Derived.Laws.StructEq
import Derived.Lib.Hide
import Derived.Test.YthgffoanecknoaaGreatDoorBB1
import Derived.Test.YthgffoanecknoaaGreatDoorBB2
import Derived.Test.YthgffoanecknoaaGreatDoorBB4
import Derived.Test.YthgffoanecknoaaGreatDoorBB5
import Derived.Test.YthgffoanecknoaaGreatDoorBB6
import Derived.Test.YthgffoanecknoaaGreatDoorBA
set_option linter.unusedVariables false
set_option maxRecDepth 100000
set_option maxHeartbeats 16000000
open Go.Lib (hid)
namespace Go.Proofs.YthgffoanecknoaaGreatDoor
namespace tok
open Go.RowKit base
end tok
namespace base
open Go.RowKit
def flatR {α : Type} (f : α -> List Value) (L : List α) : List Value := L.flatMap f
section
variable {α : Type} {k : Nat} {f : α -> List Value}
theorem flatR_snoc (L : List α) (d : α) : flatR f (L ++ [d]) = flatR f L ++ f d := by simp [flatR]
theorem flatR_app (L M : List α) : flatR f (L ++ M) = flatR f L ++ flatR f M := by simp [flatR]
theorem flatR_len (hf : ∀ d, (f d).length = k) : ∀ (L : List α), (flatR f L).length = L.length * k
 | [] => by simp [flatR]
 | d :: L => by
  have := flatR_len hf L
  simp only [flatR, List.flatMap_cons, List.length_append, List.length_cons] at this ⊢
  rw [this, hf, Nat.add_mul]
  omega
theorem flatR_at (hf : ∀ d, (f d).length = k) : ∀ {L : List α} {i : Nat} {d : α}, L[i]? = some d -> ∀ j, j < k -> (flatR f L)[i * k + j]? = (f d)[j]?
 | [], i, d, h, _, _ => by simp at h
 | e :: L, 0, d, h, j, hj => by
  simp at h
  subst h
  simp only [flatR, List.flatMap_cons, Nat.zero_mul, Nat.zero_add]
  rw [List.getElem?_append_left (by rw [hf]; exact hj)]
 | e :: L, i + 1, d, h, j, hj => by
  have ih := flatR_at hf (L := L) (i := i) (d := d) (by simpa using h) j hj
  simp only [flatR, List.flatMap_cons] at ih ⊢
  rw [List.getElem?_append_right (by rw [hf, Nat.add_mul]; omega), hf, show (i + 1) * k + j - k = i * k + j by rw [Nat.add_mul]; omega]
  exact ih
def Rd (k : Nat) (f : α -> List Value) (w : World) (B : Nat) (A : Option Addr) (n : Nat) (L : List α) : Prop :=
 L.length = n /\ (0 < n -> ∃ b off, A = some ⟨b, off, none⟩ /\ b < B /\ ∀ (i : Nat) (d : α), L[i]? = some d -> ∀ j, j < k -> w.cell? ⟨b, off + i * k + j, none⟩ = (f d)[j]?)
theorem Rd.keep {w w' : World} {B B' : Nat} {A : Option Addr} {n : Nat} {L : List α} (h : Rd k f w B A n L) (hb : Below B w w') (hB : B <= B') : Rd k f w' B' A n L := by
 refine ⟨h.1, fun h0 => ?_⟩
 obtain ⟨b, off, hA, hlt, hc⟩ := h.2 h0
 exact ⟨b, off, hA, by omega, fun i d hd j hj => (hb.cell (p := ⟨b, _, none⟩) hlt).trans (hc i d hd j hj)⟩
theorem Rd.first {w : World} {B : Nat} {A : Option Addr} {n m : Nat} {L : List α} (h : Rd k f w B A n L) (hm : m <= n) : Rd k f w B A m (L.take m) := by
 refine ⟨by rw [List.length_take, h.1]; omega, fun h0 => ?_⟩
 obtain ⟨b, off, hA, hlt, hc⟩ := h.2 (by omega)
 refine ⟨b, off, hA, hlt, fun i d hd => hc i d ?_⟩
 have hi := (List.getElem?_eq_some_iff.1 hd).1
 rw [List.length_take] at hi
 rwa [List.getElem?_take_of_lt (by omega)] at hd
theorem Rd.at_ {w : World} {B : Nat} {A : Option Addr} {n i : Nat} {L : List α} (h : Rd k f w B A n L) (hi : i < n) : ∃ b off d, A = some ⟨b, off, none⟩ /\ b < B /\ L[i]? = some d /\ ∀ j, j < k -> w.cell? ⟨b, off + i * k + j, none⟩ = (f d)[j]? := by
 obtain ⟨b, off, hA, hlt, hc⟩ := h.2 (by omega)
 have hl : i < L.length := by have := h.1; omega
 exact ⟨b, off, L[i], hA, hlt, List.getElem?_eq_getElem hl, hc i L[i] (List.getElem?_eq_getElem hl)⟩
theorem Rd.nil {w : World} {B : Nat} {A : Option Addr} : Rd k f w B A 0 [] := ⟨rfl, fun h => absurd h (by omega)⟩
theorem row_rd {w : World} {base n : Nat} {e : TypeId} {v : Value} {L : List α} (hf : ∀ d, (f d).length = k) (hn : L.length = n) (h : w.ownsRow base e k v n (flatR f L)) : ∃ A cap, v = .slice A n cap /\ n <= cap /\ Rd k f w w.heap.size A n L := by
 subst hn
 rcases Nat.eq_zero_or_pos L.length with h0 | h0
 ·rcases h.2 with ⟨rfl, hz⟩ | ⟨g, cap, cur, rfl, _, _, hc, _⟩
  ·exact ⟨none, 0, by rw [hz], by omega, rfl, fun h1 => by omega⟩
  ·exact ⟨_, _, rfl, hc, rfl, fun h1 => by omega⟩
 ·rcases h.2 with ⟨rfl, hz⟩ | ⟨g, cap, cur, rfl, _, _, hc, _⟩
  ·omega
  ·have hg := h.lt g rfl
   refine ⟨_, _, rfl, hc, rfl, fun _ => ⟨g, 0, rfl, hg.2, fun i d hd j hj => ?_⟩⟩
   rw [Nat.zero_add]
   have hil := (List.getElem?_eq_some_iff.1 hd).1
   have hlt : i * k + j < L.length * k := by
    have : (i + 1) * k <= L.length * k := Nat.mul_le_mul_right k hil
    rw [Nat.add_mul] at this
    omega
   have := (h.cellAt (i * k + j) hlt).trans (flatR_at hf hd j hj)
   rw [this]
end
theorem grown_of_below {w w' : World} (h : Below w.heap.size w w') (row : Option Nat) : w.grownBy w' row := ⟨h.os, h.tape, h.output, h.size, fun k hk _ => h.block k hk⟩
theorem row_form {w : World} {base : Nat} {e : TypeId} {size : Nat} {v : Value} {n : Nat} {xs : List Value} (h : w.ownsRow base e size v n xs) : ∃ a cap, v = .slice a n cap := by
 rcases h.2 with ⟨rfl, rfl⟩ | ⟨g, cap, cur, rfl, _⟩
 ·exact ⟨none, 0, rfl⟩
 ·exact ⟨_, _, rfl⟩
theorem row_on {w w' : World} {base : Nat} {e : TypeId} {size : Nat} {v : Value} {n : Nat} {xs : List Value} (h : w.ownsRow base e size v n xs) (hb : Below w.heap.size w w') : w'.ownsRow base e size v n xs :=
 h.kept (grown_of_below hb none) (by cases hv : v.ownBlock with | none => exact .inl rfl | some g => exact .inr (by simp))
theorem below_app {B : Nat} {a w w' : World} {base : Nat} {e : TypeId} {size n : Nat} {v : Value} {xs : List Value} (h : Below B a w) (hg : w.grownBy w' v.ownBlock) (hown : w.ownsRow base e size v n xs) (hB : B <= base) (hz : B <= w.heap.size) : Below B a w' := below_grown h hg hown hB hz
end base
namespace tok
open Go.RowKit base
abbrev tcells (t : Tk) : List Value := t.cells.toList
abbrev TRd (w : World) (B : Nat) (A : Option Addr) (n : Nat) (L : List Tk) : Prop := Rd 4 tcells w B A n L
end tok
namespace tok
open Go.RowKit base
theorem TRd.tok {w : World} {B : Nat} {A : Option Addr} {n k : Nat} {L : List Tk} (h : TRd w B A n L) (hk : k < n) : ∃ b off t, A = some ⟨b, off, none⟩ /\ b < B /\ L[k]? = some t /\
  w.cell? ⟨b, off + k * 4, none⟩ = some (.int .i64 t.k) /\ w.cell? ⟨b, off + k * 4 + 1, none⟩ = some (.string (bs t.raw)) /\ w.cell? ⟨b, off + k * 4 + 2, none⟩ = some (.string (bs t.val)) /\ w.cell? ⟨b, off + k * 4 + 3, none⟩ = some (.int .i64 t.num) := by
 obtain ⟨b, off, t, hA, hlt, hd, hc⟩ := h.at_ hk
 exact ⟨b, off, t, hA, hlt, hd, hc 0 (by decide), hc 1 (by decide), hc 2 (by decide), hc 3 (by decide)⟩
theorem bs_toList (a : Bs) : (bs a).toList = a := ByteArray.toList_mk a
end tok
namespace base
open Go.RowKit Go.ChangeShapes Go.WideShapes Go.ChangeAt Go.Deep
theorem exists_list {α : Type} {p : Nat -> α -> Prop} : ∀ (n : Nat), (∀ i, i < n -> ∃ x, p i x) -> ∃ L : List α, L.length = n /\ ∀ (i : Nat) (x : α), L[i]? = some x -> p i x
 | 0, _ => ⟨[], rfl, fun i x h => by simp at h⟩
 | n + 1, h => by
  obtain ⟨L, hl, hp⟩ := exists_list n (fun i hi => h i (by omega))
  obtain ⟨x, hx⟩ := h n (by omega)
  refine ⟨L ++ [x], by simp [hl], fun i y hy => ?_⟩
  by_cases hi : i < n
  ·rw [List.getElem?_append_left (by omega)] at hy
   exact hp i y hy
  ·have hlt := (List.getElem?_eq_some_iff.1 hy).1
   simp [hl] at hlt
   obtain rfl : i = n := by omega
   rw [List.getElem?_append_right (by omega), hl] at hy
   simp at hy
   subst hy
   exact hx
theorem add_none (b off k : Nat) : ((⟨b, off, none⟩ : Addr).add k) = ⟨b, off + k, none⟩ := by
 unfold Addr.add
 by_cases h : k = 0 <;> simp [h]
section
variable {H : Type} {enc : TypeId × Value -> H} {P : Program} {w : World} {held : Bool}
theorem open_rows {t e k fuel : Nat} {cs : List Value} {x : DataW H × List MemPlace} (ht : P.underlying t = some (.slice e)) (hk : P.cellsOf e = k) (hk0 : 0 < k)
  (h : DataW.trod enc P w 0 (fun _ => true) held fuel t cs = some x) :
  ∃ A n c, cs = [.slice A n c] /\ n <= c /\ c <= maxLen /\ (0 < n -> ∃ b off, A = some ⟨b, off, none⟩ /\ b < w.heap.size /\
   ∀ i, i < n -> ∃ cs' m y, cs'.length = k /\ (∀ j, j < k -> w.cell? ⟨b, off + i * k + j, none⟩ = cs'[j]?) /\ DataW.trod enc P w 0 (fun _ => true) held m e cs' = some y) := by
 rcases open_slice ht h with ⟨rfl, _⟩ | ⟨a, len, cap, m, n, D, Pl, rfl, _, hl, hm, hmm, _, hi⟩
 ·exact ⟨none, 0, 0, rfl, by omega, by simp [maxLen], fun h0 => by omega⟩
 ·simp only [if_true] at hmm
  subst hmm
  refine ⟨some a, len, m, rfl, hl, hm, fun h0 => ?_⟩
  rw [hk] at hi
  obtain ⟨c0, hc0, _⟩ := hi 0 (by omega)
  obtain ⟨_, hcl0, hat0⟩ := World.cells?_some hc0
  have hz : w.cell? ((a.add (0 * k)).add 0) = some (c0[0]'(by omega)) := by
   rw [hat0 0 hk0]
   exact List.getElem?_eq_getElem (by omega)
  have hspot : a.spot = none := by
   have := World.cell?_spot hz
   unfold Addr.add at this
   simpa using this
  have hblk := World.block_lt_of_cell? w _ hz
  obtain ⟨b, off, sp⟩ := a
  simp only at hspot
  subst hspot
  refine ⟨b, off, rfl, by simpa [add_none] using hblk, fun i hin => ?_⟩
  obtain ⟨cs', hc, ht'⟩ := hi i (by omega)
  obtain ⟨_, hcl, hat⟩ := World.cells?_some hc
  refine ⟨cs', n, _, hcl, fun j hj => ?_, ht'⟩
  have := hat j hj
  rwa [add_none, add_none] at this
end
end base
end Go.Proofs.YthgffoanecknoaaGreatDoor
