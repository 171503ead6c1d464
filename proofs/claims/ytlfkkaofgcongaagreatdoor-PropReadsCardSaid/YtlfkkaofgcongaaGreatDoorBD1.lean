/- Contracts and plain law, a bundle. -/
import Derived.Lib.LaidTab
import Derived.Lib.Fold
import Derived.ScopeJumps
import Derived.WalkMore
import Derived.Laws.RangeAny
import Derived.Lib.OthersKept
import Derived.Deep.LoopGhost
import Derived.Lib.Hide
import Derived.Test.YtlfkkaofgcongaaGreatDoorBA
import Derived.Test.YtlfkkaofgcongaaGreatDoorBD
set_option linter.unusedVariables false
set_option maxRecDepth 100000
set_option maxHeartbeats 16000000
open Go.Lib (hid)
namespace Go.Proofs.YtlfkkaofgcongaaGreatDoor
namespace base
open Go.RowKit tok
end base
namespace base
open Go.RowKit tok
end base
namespace rul
open Go.RowKit base tok
def Fit (L : List Tk) : Prop := L.length <= 1000000 /\ (textOf L).length <= 1000000 /\ ∀ t ∈ L, t.raw ≠ [] /\ t.raw.length <= 1000000 /\ t.val.length <= 1000000
theorem text_sub {M L : List Tk} (h : M.Sublist L) : (textOf M).length <= (textOf L).length := by
 induction h with
 | slnil => exact Nat.le_refl _
 | cons a _ ih => simp only [textOf, List.flatMap_cons, List.length_append] at ih ⊢; omega
 | cons_cons a _ ih => simp only [textOf, List.flatMap_cons, List.length_append] at ih ⊢; omega
theorem Fit.sub {M L : List Tk} (h : Fit L) (hs : M.Sublist L) : Fit M :=
 ⟨Nat.le_trans hs.length_le h.1, Nat.le_trans (text_sub hs) h.2.1, fun t ht => h.2.2 t (hs.subset ht)⟩
end rul
namespace rul
open Go.RowKit base tok
theorem textR_val (q : UInt8) : ∀ (n : Nat) (l : Bs), l.length <= n -> (textR q l).2.2.length <= l.length
 | 0, l, h => by
  obtain rfl := List.eq_nil_of_length_eq_zero (Nat.le_zero.1 h)
  simp [textR]
 | n + 1, [], h => by simp [textR]
 | n + 1, [c], h => by
  rw [textR]
  (repeat' split) <;> simp
 | n + 1, c :: d :: r, h => by
  have h1 := textR_val q n (d :: r) (by simp at h ⊢; omega)
  have h2 := textR_val q n r (by simp at h; omega)
  rw [textR]
  simp only [List.length_cons] at h1 h2 ⊢
  (repeat' split) <;> simp <;> omega
theorem first_val (l : Bs) (h0 : l ≠ []) : (firstP l).val.length <= l.length := by
 have hl : 0 < l.length := List.length_pos_iff.2 h0
 have hn : ∀ a, (nameP (l.drop a)).1.length <= l.length := fun a => Nat.le_trans (nameP_val _) (by rw [List.length_drop]; omega)
 unfold firstP
 split
 ·simp
 ·split
  ·unfold noteP; simp
  ·split
   ·unfold textP
    cases l with
    | nil => simp
    | cons q r =>
     simp only
     split
     ·have := textR_val q _ r (Nat.le_refl _); simp; omega
     ·simp
   ·split
    ·exact hn 1
    ·split
     ·exact hn 1
     ·split
      ·unfold numTkP
       split
       ·simp; omega
       ·split
        ·simp only [List.length_map]; exact hn _
        ·simp
      ·split
       ·unfold wordP
        split
        ·exact hn 0
        ·exact hn 0
       ·simp
theorem cut_vals : ∀ (n : Nat) (l : Bs), l.length <= n -> ∀ t ∈ cutP l, t.raw ≠ [] /\ t.raw.length <= l.length /\ t.val.length <= l.length
 | 0, l, h, t, ht => by
  obtain rfl := List.eq_nil_of_length_eq_zero (Nat.le_zero.1 h)
  rw [cutP_nil] at ht
  cases ht
 | n + 1, l, h, t, ht => by
  by_cases h0 : l = []
  ·subst h0; rw [cutP_nil] at ht; cases ht
  ·rw [cutP_cons h0] at ht
   have hp := (first_pre l h0).2
   have hr := first_raw l h0
   have hv := first_val l h0
   rcases List.mem_cons.1 ht with rfl | ht
   ·refine ⟨fun e => by rw [e] at hp; simp at hp, ?_, hv⟩
    rw [hr, List.length_take]
    omega
   ·obtain ⟨h1, h2, h3⟩ := cut_vals n (l.drop (firstP l).raw.length) (by rw [List.length_drop]; omega) t ht
    rw [List.length_drop] at h2 h3
    exact ⟨h1, by omega, by omega⟩
end rul
end Go.Proofs.YtlfkkaofgcongaaGreatDoor
