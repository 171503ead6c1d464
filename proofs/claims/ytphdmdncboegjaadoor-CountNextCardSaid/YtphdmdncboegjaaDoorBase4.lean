/- Two blocks of one's own and all that was there: kept by calls that only make memory, new blocks, stores elsewhere. -/
import Derived.Test.YtphdmdncboegjaaDoorBase2
namespace Go.Proofs.YtphdmdncboegjaaDoor.base
open Go.RowKit

section
variable {W w w' : World} {a b N B : Nat} {us vs : Array Value}
theorem own2_on (k : Below w.heap.size w w') (h : (∀ i, w.cell? ⟨a, i, none⟩ = us[i]?) ∧ (∀ i, w.cell? ⟨b, i, none⟩ = vs[i]?) ∧ N ≤ w.heap.size ∧ Below B W w) (ha : a < N) (hb : b < N) (hB : B ≤ N) :
    (∀ i, w'.cell? ⟨a, i, none⟩ = us[i]?) ∧ (∀ i, w'.cell? ⟨b, i, none⟩ = vs[i]?) ∧ N ≤ w'.heap.size ∧ Below B W w' :=
  have hN := h.2.2.1
  ⟨own_below k h.1 (by omega), own_below k h.2.1 (by omega), Nat.le_trans hN k.size, h.2.2.2.trans (k.mono (by omega))⟩
theorem own2_alloc {o : Obj} (h : (∀ i, w.cell? ⟨a, i, none⟩ = us[i]?) ∧ (∀ i, w.cell? ⟨b, i, none⟩ = vs[i]?) ∧ N ≤ w.heap.size ∧ Below B W w) (ha : a < N) (hb : b < N) (hB : B ≤ N) :
    (∀ i, (w.alloc o).cell? ⟨a, i, none⟩ = us[i]?) ∧ (∀ i, (w.alloc o).cell? ⟨b, i, none⟩ = vs[i]?) ∧ N ≤ (w.alloc o).heap.size ∧ Below B W (w.alloc o) :=
  own2_on ((Below.refl _ _).alloc (Nat.le_refl _) o) h ha hb hB
theorem own2_drew (h : (∀ i, w.cell? ⟨a, i, none⟩ = us[i]?) ∧ (∀ i, w.cell? ⟨b, i, none⟩ = vs[i]?) ∧ N ≤ w.heap.size ∧ Below B W w) :
    (∀ i, w.drew.cell? ⟨a, i, none⟩ = us[i]?) ∧ (∀ i, w.drew.cell? ⟨b, i, none⟩ = vs[i]?) ∧ N ≤ w.drew.heap.size ∧ Below B W w.drew := ⟨h.1, h.2.1, h.2.2.1, h.2.2.2.drew⟩
theorem own2_put {p : Addr} {v : Value} (h : (∀ i, w.cell? ⟨a, i, none⟩ = us[i]?) ∧ (∀ i, w.cell? ⟨b, i, none⟩ = vs[i]?) ∧ N ≤ w.heap.size ∧ Below B W w) (ha : a < N) (hb : b < N) (hB : B ≤ N) (hp : N ≤ p.block) :
    (∀ i, (w.setCell p v).cell? ⟨a, i, none⟩ = us[i]?) ∧ (∀ i, (w.setCell p v).cell? ⟨b, i, none⟩ = vs[i]?) ∧ N ≤ (w.setCell p v).heap.size ∧ Below B W (w.setCell p v) :=
  ⟨own_put h.1 (by omega), own_put h.2.1 (by omega), by rw [size_setCell]; exact h.2.2.1, h.2.2.2.setCell (by omega) v⟩
end
end Go.Proofs.YtphdmdncboegjaaDoor.base
