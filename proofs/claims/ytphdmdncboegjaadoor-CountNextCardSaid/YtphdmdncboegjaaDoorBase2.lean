/- More words on blocks of one's own, behind calls and stores. -/
import Derived.Test.YtphdmdncboegjaaDoorBase
namespace Go.Proofs.YtphdmdncboegjaaDoor.base
open Go.RowKit

theorem own_below {w w' : World} {k : Nat} {cs : Array Value} (hb : Below w.heap.size w w') (h : ∀ i, w.cell? ⟨k, i, none⟩ = cs[i]?) (hk : k < w.heap.size) : ∀ i, w'.cell? ⟨k, i, none⟩ = cs[i]? :=
  fun i => (hb.cell (p := ⟨k, i, none⟩) hk).trans (h i)
theorem own_put {w : World} {k : Nat} {cs : Array Value} {p : Addr} {v : Value} (h : ∀ i, w.cell? ⟨k, i, none⟩ = cs[i]?) (hk : p.block ≠ k) : ∀ i, (w.setCell p v).cell? ⟨k, i, none⟩ = cs[i]? :=
  fun i => (World.cell?_setCell_other w p ⟨k, i, none⟩ v (fun e => hk (by rw [e]))).trans (h i)
/-- three blocks of one's own, while calls only make memory -/
theorem own3_on {w w' : World} {a b c N : Nat} {us vs cs : Array Value} (hb : Below w.heap.size w w') (h : (∀ i, w.cell? ⟨a, i, none⟩ = us[i]?) ∧ (∀ i, w.cell? ⟨b, i, none⟩ = vs[i]?) ∧ (∀ i, w.cell? ⟨c, i, none⟩ = cs[i]?) ∧ N ≤ w.heap.size)
    (ha : a < N) (hb' : b < N) (hc : c < N) : (∀ i, w'.cell? ⟨a, i, none⟩ = us[i]?) ∧ (∀ i, w'.cell? ⟨b, i, none⟩ = vs[i]?) ∧ (∀ i, w'.cell? ⟨c, i, none⟩ = cs[i]?) ∧ N ≤ w'.heap.size :=
  ⟨own_below hb h.1 (by omega), own_below hb h.2.1 (by omega), own_below hb h.2.2.1 (by omega), Nat.le_trans h.2.2.2 hb.size⟩
theorem size_setCell (w : World) (p : Addr) (v : Value) : (w.setCell p v).heap.size = w.heap.size := by simp [World.setCell]
theorem own3_put {w : World} {a b c N : Nat} {us vs cs : Array Value} {p : Addr} {v : Value} (h : (∀ i, w.cell? ⟨a, i, none⟩ = us[i]?) ∧ (∀ i, w.cell? ⟨b, i, none⟩ = vs[i]?) ∧ (∀ i, w.cell? ⟨c, i, none⟩ = cs[i]?) ∧ N ≤ w.heap.size)
    (ha : p.block ≠ a) (hb' : p.block ≠ b) (hc : p.block ≠ c) : (∀ i, (w.setCell p v).cell? ⟨a, i, none⟩ = us[i]?) ∧ (∀ i, (w.setCell p v).cell? ⟨b, i, none⟩ = vs[i]?) ∧ (∀ i, (w.setCell p v).cell? ⟨c, i, none⟩ = cs[i]?) ∧ N ≤ (w.setCell p v).heap.size :=
  ⟨own_put h.1 ha, own_put h.2.1 hb', own_put h.2.2.1 hc, by rw [size_setCell]; exact h.2.2.2⟩

/-! ### Rows of the call's own that are appended to -/
theorem add_zero_block (k j : Nat) : ((⟨k, 0, none⟩ : Addr).add j) = ⟨k, j, none⟩ := by
  unfold Addr.add
  by_cases h : j = 0 <;> simp [h]
/-- what is appended: a block that is known whole -/
theorem Blk.news {w : World} {k : Nat} {t : TypeId} {cs : Array Value} (h : Blk w k t cs) : ∀ (j : Nat) (u : Value), cs.toList[j]? = some u → w.cell? ((⟨k, 0, none⟩ : Addr).add j) = some u := by
  intro j u hu
  rw [add_zero_block, h.cell j]
  simpa using hu
/-- behind an append onto a row of the call's own -/
theorem below_grown {B : Nat} {a w w' : World} {base : Nat} {e : TypeId} {size n : Nat} {v : Value} {xs : List Value} (h : Below B a w) (hg : w.grownBy w' v.ownBlock) (hown : w.ownsRow base e size v n xs) (hB : B ≤ base) (hz : B ≤ w.heap.size) : Below B a w' :=
  h.grown hg hz (fun k hk => Nat.le_trans hB (hown.lt k hk).1)

end Go.Proofs.YtphdmdncboegjaaDoor.base
