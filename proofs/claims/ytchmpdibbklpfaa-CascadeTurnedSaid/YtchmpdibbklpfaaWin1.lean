/- Slices of declarations that are held against each other, as they lie in memory. -/
import Derived.Test.YtchmpdibbklpfaaWin0
import Derived.Test.YtchmpdibbklpfaaBase4
namespace Go.Proofs.Ytchmpdibbklpfaa.win
open Go.RowKit Go.Proofs.Ytchmpdibbklpfaa.base Go.Proofs.Ytchmpdibbklpfaa.cas
set_option linter.unusedVariables false

/-- they lie where the slice says, below block B -/
def GRd (w : World) (B : Nat) (A : Option Addr) (n : Nat) (L : List GD) : Prop :=
  L.length = n ∧ (0 < n → ∃ b off, A = some ⟨b, off, none⟩ ∧ b < B ∧ ∀ (i : Nat) (d : GD), L[i]? = some d → ∀ j, j < 6 → w.cell? ⟨b, off + i * 6 + j, none⟩ = d.cells[j]?)

theorem GRd.keep {w w' : World} {B B' : Nat} {A : Option Addr} {n : Nat} {L : List GD} (h : GRd w B A n L) (hb : Below B w w') (hB : B ≤ B') : GRd w' B' A n L := by
  refine ⟨h.1, fun h0 => ?_⟩
  obtain ⟨b, off, hA, hlt, hc⟩ := h.2 h0
  exact ⟨b, off, hA, by omega, fun i d hd j hj => (hb.cell (p := ⟨b, _, none⟩) hlt).trans (hc i d hd j hj)⟩

/-- the first m of them -/
theorem GRd.first {w : World} {B : Nat} {A : Option Addr} {n m : Nat} {L : List GD} (h : GRd w B A n L) (hm : m ≤ n) : GRd w B A m (L.take m) := by
  refine ⟨by rw [List.length_take, h.1]; omega, fun h0 => ?_⟩
  obtain ⟨b, off, hA, hlt, hc⟩ := h.2 (by omega)
  refine ⟨b, off, hA, hlt, fun i d hd => hc i d ?_⟩
  have hi := (List.getElem?_eq_some_iff.1 hd).1
  rw [List.length_take] at hi
  rwa [List.getElem?_take_of_lt (by omega)] at hd

/-- one of them, cell by cell -/
theorem GRd.at_ {w : World} {B : Nat} {A : Option Addr} {n k : Nat} {L : List GD} (h : GRd w B A n L) (hk : k < n) : ∃ b off d, A = some ⟨b, off, none⟩ ∧ b < B ∧ L[k]? = some d ∧
    w.cell? ⟨b, off + k * 6, none⟩ = some (.string d.nm) ∧ w.cell? ⟨b, off + k * 6 + 1, none⟩ = some (.string d.vl) ∧ w.cell? ⟨b, off + k * 6 + 2, none⟩ = some (.int .i64 d.o) ∧
    w.cell? ⟨b, off + k * 6 + 3, none⟩ = some (.bool d.i) ∧ w.cell? ⟨b, off + k * 6 + 4, none⟩ = some (.int .i64 d.w) ∧ w.cell? ⟨b, off + k * 6 + 5, none⟩ = some (.int .i64 d.p) := by
  obtain ⟨b, off, hA, hlt, hc⟩ := h.2 (by omega)
  have hkl : k < L.length := by have := h.1; omega
  have h1 := hc k L[k] (List.getElem?_eq_getElem hkl)
  exact ⟨b, off, L[k], hA, hlt, List.getElem?_eq_getElem hkl, h1 0 (by decide), h1 1 (by decide), h1 2 (by decide), h1 3 (by decide), h1 4 (by decide), h1 5 (by decide)⟩

end Go.Proofs.Ytchmpdibbklpfaa.win
