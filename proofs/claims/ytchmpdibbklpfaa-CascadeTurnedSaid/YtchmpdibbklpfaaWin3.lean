/- The map that Win keeps, tied to the winners so far: a ghost of the proof. -/
import Derived.Test.YtchmpdibbklpfaaWin2
import Derived.Maps.OwnSet
import Derived.Maps.AppendAt
namespace Go.Proofs.Ytchmpdibbklpfaa.win
open Go.RowKit Go.Maps Go.Proofs.Ytchmpdibbklpfaa.base Go.Proofs.Ytchmpdibbklpfaa.cas
set_option linter.unusedVariables false

abbrev klit (n : ByteArray) : Lit := .string n.data.toList

theorem klit_inj {m n : ByteArray} (h : klit m = klit n) : m = n := by
  simp only [klit, Lit.string.injEq] at h
  exact ByteArray.ext (Array.toList_inj.1 h)

/-- the map reads as the winners' places -/
def Tied (D : DataW Unit) (acc : List GD) : Prop := IsMap D ∧ ∀ n : ByteArray, Maps.has D (klit n) = (idxOf acc n).isSome ∧
  ∀ i : Nat, idxOf acc n = some i → D.atKey (klit n) (.lit (.int .i64 0)) = .lit (.int .i64 i)

theorem idx_append {acc : List GD} {d : GD} (n : ByteArray) (h : idxOf acc d.nm = none) : idxOf (acc ++ [d]) n = if n = d.nm then some acc.length else idxOf acc n := by
  unfold idxOf at *
  rw [List.findIdx?_append]
  by_cases hn : n = d.nm
  · subst hn
    rw [h, if_pos rfl]
    simp [List.findIdx?_cons]
  · rw [if_neg hn]
    have : ¬ d.nm = n := fun h => hn h.symm
    cases hx : List.findIdx? (fun e => decide (e.nm = n)) acc <;> simp [List.findIdx?_cons, this]

theorem Tied.add {D : DataW Unit} {acc : List GD} {d : GD} (h : Tied D acc) (hn : idxOf acc d.nm = none) : Tied (D.put (klit d.nm) (.lit (.int .i64 acc.length))) (acc ++ [d]) := by
  obtain ⟨hD, ht⟩ := h
  refine ⟨?_, fun n => ?_⟩
  · obtain ⟨es, rfl⟩ := hD
    exact ⟨_, rfl⟩
  · rw [idx_append n hn]
    by_cases hnd : n = d.nm
    · subst hnd
      rw [if_pos rfl, has_put_same hD (show WideAt.IsKeyLit (klit d.nm) from trivial)]
      refine ⟨rfl, fun i hi => ?_⟩
      rw [atKey_put_same hD (show WideAt.IsKeyLit (klit d.nm) from trivial)]
      simp at hi
      subst hi
      rfl
    · rw [if_neg hnd]
      have hne : klit n ≠ klit d.nm := fun h => hnd (klit_inj h)
      rw [has_put_other hne]
      refine ⟨(ht n).1, fun i hi => ?_⟩
      rw [atKey_put_other hne]
      exact (ht n).2 i hi

theorem idx_map (acc : List GD) (n : ByteArray) : idxOf acc n = (acc.map (·.nm)).findIdx? fun m => decide (m = n) := by
  unfold idxOf
  rw [List.findIdx?_map]
  rfl

theorem Tied.swap {D : DataW Unit} {acc : List GD} {d e : GD} {i : Nat} (h : Tied D acc) (he : acc[i]? = some e) (hn : e.nm = d.nm) : Tied D (acc.set i d) := by
  have hm : (acc.set i d).map (·.nm) = acc.map (·.nm) := by
    apply List.ext_getElem?
    intro j
    rw [List.getElem?_map, List.getElem?_map, List.getElem?_set]
    by_cases hij : i = j
    · subst hij
      have := (List.getElem?_eq_some_iff.1 he).1
      rw [if_pos rfl, if_pos this, he]
      simp [hn]
    · rw [if_neg hij]
  refine ⟨h.1, fun n => ?_⟩
  rw [idx_map, hm, ← idx_map]
  exact h.2 n

end Go.Proofs.Ytchmpdibbklpfaa.win
