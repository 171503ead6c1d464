/- Contracts and plain law, a bundle. -/
import Derived.Lib.Hide
import Derived.Test.YthgffoanecknoaaGreatDoorBA1
import Derived.Test.YthgffoanecknoaaGreatDoorBA2
import Derived.Test.YthgffoanecknoaaGreatDoorBA3
set_option linter.unusedVariables false
set_option maxRecDepth 100000
set_option maxHeartbeats 16000000
open Go.Lib (hid)
namespace Go.Proofs.YthgffoanecknoaaGreatDoor
namespace tok
open Go.RowKit base
end tok
namespace tok
open Go.RowKit base
def BytesAt (w : World) (b : Nat) (l : Bs) : Prop := (∀ (j : Nat) (u : UInt8), l[j]? = some u -> w.cell? ⟨b, j, none⟩ = some (.int .u8 (nv u))) /\ ∀ j, j < l.length -> w.frozen? ⟨b, j, none⟩ = false
theorem BytesAt.put {w : World} {b k : Nat} {l : Bs} {u : UInt8} {x : Int} (h : BytesAt w b l) (hk : k < l.length) (hx : x = nv u) : BytesAt (w.setCell ⟨b, k, none⟩ (.int .u8 x)) b (l.set k u) := by
 subst hx
 refine ⟨fun j v hv => ?_, fun j hj => ?_⟩
 ·rw [List.getElem?_set] at hv
  by_cases hj : k = j
  ·subst hj
   rw [if_pos rfl, if_pos hk] at hv
   obtain rfl := Option.some.inj hv
   have hc := h.1 k l[k] (List.getElem?_eq_getElem hk)
   exact World.cell?_setCell_same' w ⟨b, k, none⟩ _ (by rw [hc]; rfl)
  ·rw [if_neg hj] at hv
   rw [World.cell?_setCell_other w ⟨b, k, none⟩ ⟨b, j, none⟩ _ (by intro e; injection e with _ e2 _; exact hj e2)]
   exact h.1 j v hv
 ·have := h.2 j (by simpa using hj)
  simpa using this
end tok
namespace tok
open Go.RowKit base
structure Tk where
 k : Int
 raw : Bs
 val : Bs
 num : Int
deriving DecidableEq
abbrev Tk.cells (t : Tk) : Array Value := #[.int .i64 t.k, .string (bs t.raw), .string (bs t.val), .int .i64 t.num]
def namedP (k : Int) (l : Bs) (a : Nat) : Tk := ⟨k, l.take (a + (nameP (l.drop a)).2), (nameP (l.drop a)).1, 0⟩
theorem nameP_le : ∀ (n : Nat) (l : Bs), l.length <= n -> (nameP l).2 <= l.length
 | 0, l, h => by
  obtain rfl := List.eq_nil_of_length_eq_zero (Nat.le_zero.1 h)
  simp [nameP]
 | n + 1, [], h => by simp [nameP]
 | n + 1, [c], h => by
  rw [nameP]
  split <;> simp
 | n + 1, c :: d :: r, h => by
  rw [nameP]
  split
  ·have := nameP_le n r (by simp at h; omega)
   simp; omega
  ·split
   ·have := nameP_le n (d :: r) (by simp at h ⊢; omega)
    simp at this ⊢; omega
   ·simp
theorem Blk.four {w : World} {k : Nat} {t : TypeId} {a b c d : Value} (h : Blk w k t #[a, b, c, d]) (a' b' c' d' : Value) : Blk ((((w.setCell ⟨k, 0, none⟩ a').setCell ⟨k, 1, none⟩ b').setCell ⟨k, 2, none⟩ c').setCell ⟨k, 3, none⟩ d') k t #[a', b', c', d'] := (((h.put 0 a').put 1 b').put 2 c').put 3 d'
theorem take_ex (s : ByteArray) (n : Nat) : s.extract 0 n = bs (s.data.toList.take n) := by
 rw [Lib.extract_eq]
 simp [bs]
theorem ret_tok {k k' : Int} {r r' v v' : ByteArray} {n n' : Int} (h1 : k = k') (h2 : r = r') (h3 : v = v') (h4 : n = n') : Ending.returned (.agg #[.int .i64 k, .string r, .string v, .int .i64 n]) = Ending.returned (.agg #[.int .i64 k', .string r', .string v', .int .i64 n']) := by rw [h1, h2, h3, h4]
theorem named_ct (k : Int) (s : ByteArray) (a : Nat) (hs : s.size <= 140737488355328) (ha : a <= s.size) (w : World) : Calls Tryz.prog 97 #[.int .i64 k, .string s, .int .i64 (a : Int)] w fun e w' => e = .returned (.agg (namedP k s.data.toList a).cells) /\ Below w.heap.size w w' := by
 have hsub : (s.extract a s.size).size <= 140737488355328 := by simp only [ByteArray.size_extract]; omega
 have c1 := fun w => name_ct (s.extract a s.size) hsub w
 rw [Lib.extract_to_end] at c1
 have hle := nameP_le _ (s.data.toList.drop a) (Nat.le_refl _)
 rw [List.length_drop, <- Lib.size_eq] at hle
 have hP : namedP k s.data.toList a = ⟨k, s.data.toList.take (a + (nameP (s.data.toList.drop a)).2), (nameP (s.data.toList.drop a)).1, 0⟩ := rfl
 generalize hNP : namedP k s.data.toList a = NP at *
 generalize nameP (s.data.toList.drop a) = V at *
 replace c1 := hid c1
 replace hP := hid hP
 clear hNP
 obtain ⟨V1, V2⟩ := V
 simp only at hle
 go_enter Tryz.func97, Tryz.ntmps97
 go_wp2_with ((go_at_call 140; (with_reducible refine (c1.out _).mono ?_); rintro e w1 ⟨rfl, hb1⟩; have rb := hid (Blk.below (show Blk (w.alloc (.cells #[.int .i64 0, .string ⟨#[]⟩, .string ⟨#[]⟩, .int .i64 0] 92)) w.heap.size 92 #[.int .i64 0, .string ⟨#[]⟩, .string ⟨#[]⟩, .int .i64 0] from Blk.new rfl) hb1 (by simp)); have rc := rb.out.cell; have rf := rb.out.frozen; have hB := hid ((ba w _).trans (hb1.mono (by simp))); clear hb1))
 have e := (Blk.four rb.out (.int .i64 k) (.string (s.extract 0 (a + V2))) (.string (bs V1)) (.int .i64 0)).cell
 refine bodyPost_ret (v := .agg #[.int .i64 k, .string (s.extract 0 (a + V2)), .string (bs V1), .int .i64 0]) (by simp [results, Tryz.results97, go_sem, e]) rfl ⟨?_, ?_⟩
 ·rw [hP.out]
  exact ret_tok rfl (take_ex _ _) rfl rfl
 ·exact (((hB.out.setCell (by simp) _).setCell (by simp) _).setCell (by simp) _).setCell (by simp) _
end tok
namespace tok
open Go.RowKit base
end tok
namespace tok
open Go.RowKit base
def MaxL (w : World) : Prop := ∃ m, w.cell? ⟨1, 0, none⟩ = some (.int .i64 m)
theorem MaxL.lt {w : World} (h : MaxL w) : 1 < w.heap.size := by
 obtain ⟨m, hm⟩ := h
 exact World.block_lt_of_cell? w _ hm
theorem MaxL.on {w w' : World} {B : Nat} (h : MaxL w) (hb : Below B w w') (hB : 1 < B) : MaxL w' := by
 obtain ⟨m, hm⟩ := h
 exact ⟨m, (hb.cell (p := ⟨1, 0, none⟩) hB).trans hm⟩
end tok
namespace tok
open Go.RowKit base
end tok
end Go.Proofs.YthgffoanecknoaaGreatDoor
