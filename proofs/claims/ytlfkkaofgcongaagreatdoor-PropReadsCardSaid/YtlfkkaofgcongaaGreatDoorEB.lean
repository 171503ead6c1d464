/- Contracts and plain law, a bundle. -/
import Derived.Recover
import Derived.Laws.Pointers
import Derived.WalkLawsBesides
import Derived.Lib.Hide
import Derived.Test.YtlfkkaofgcongaaGreatDoorE6
set_option linter.unusedVariables false
set_option maxRecDepth 100000
set_option maxHeartbeats 16000000
open Go.Lib (hid)
namespace Go.Proofs.YtlfkkaofgcongaaGreatDoor
namespace cal
open Go.RowKit base tok dim rul
theorem first_calc : firstP [99, 97, 108, 99, 40, 49, 112, 120, 32, 42, 32, 50, 41] = ⟨2, [99, 97, 108, 99, 40], [99, 97, 108, 99], 0⟩ := by
 have hn : nameP [99, 97, 108, 99, 40, 49, 112, 120, 32, 42, 32, 50, 41] = ([99, 97, 108, 99], 4) := by
  rw [nameP, if_neg (by decide), if_pos (by decide), nameP, if_neg (by decide), if_pos (by decide), nameP, if_neg (by decide), if_pos (by decide), nameP, if_neg (by decide), if_pos (by decide), nameP, if_neg (by decide), if_neg (by decide)]
 have hw : wordP [99, 97, 108, 99, 40, 49, 112, 120, 32, 42, 32, 50, 41] = ⟨2, [99, 97, 108, 99, 40], [99, 97, 108, 99], 0⟩ := by
  have h1 : namedP 1 [99, 97, 108, 99, 40, 49, 112, 120, 32, 42, 32, 50, 41] 0 = ⟨1, [99, 97, 108, 99], [99, 97, 108, 99], 0⟩ := by
   simp only [namedP, List.drop_zero, hn]
   rfl
  simp only [wordP, h1]
  decide
 rw [firstP, if_neg (by decide), if_neg (by decide), if_neg (by decide), if_neg (by decide), if_neg (by decide), if_neg (by decide), if_pos (by decide), hw]
theorem num_px (r : Bs) (hr : r = [32, 42, 32, 50, 41] ∨ r = []) : firstP ([49, 112, 120] ++ r) = ⟨7, [49, 112, 120], [112, 120], 1000⟩ := by
 rcases hr with rfl | rfl
 ·have hn : nameP [112, 120, 32, 42, 32, 50, 41] = ([112, 120], 2) := by
   rw [nameP, if_neg (by decide), if_pos (by decide), nameP, if_neg (by decide), if_pos (by decide), nameP, if_neg (by decide), if_neg (by decide)]
  have hnum : numberP [49, 112, 120, 32, 42, 32, 50, 41] = (1000, 1) := by decide
  show firstP [49, 112, 120, 32, 42, 32, 50, 41] = _
  rw [firstP, if_neg (by decide), if_neg (by decide), if_neg (by decide), if_neg (by decide), if_neg (by decide), hnum, if_pos (by decide)]
  simp only [numTkP]
  rw [if_neg (by decide), if_pos (by decide)]
  simp only [List.drop_succ_cons, List.drop_zero, hn]
  decide
 ·have hn : nameP [112, 120] = ([112, 120], 2) := by
   rw [nameP, if_neg (by decide), if_pos (by decide), nameP, if_pos (by decide)]
  have hnum : numberP [49, 112, 120] = (1000, 1) := by decide
  show firstP [49, 112, 120] = _
  rw [firstP, if_neg (by decide), if_neg (by decide), if_neg (by decide), if_neg (by decide), if_neg (by decide), hnum, if_pos (by decide)]
  simp only [numTkP]
  rw [if_neg (by decide), if_pos (by decide)]
  simp only [List.drop_succ_cons, List.drop_zero, hn]
  decide
theorem first_2 (r : Bs) (hr : r = [41] ∨ r = []) : firstP (50 :: r) = ⟨7, [50], [], 2000⟩ := by
 rcases hr with rfl | rfl
 ·have hnum : numberP [50, 41] = (2000, 1) := by decide
  rw [firstP, if_neg (by decide), if_neg (by decide), if_neg (by decide), if_neg (by decide), if_neg (by decide), hnum, if_pos (by decide)]
  simp only [numTkP]
  rw [if_neg (by decide), if_neg (by decide)]
  decide
 ·have hnum : numberP [50] = (2000, 1) := by decide
  rw [firstP, if_neg (by decide), if_neg (by decide), if_neg (by decide), if_neg (by decide), if_neg (by decide), hnum, if_pos (by decide)]
  simp only [numTkP]
  rw [if_neg (by decide), if_neg (by decide)]
  decide
theorem first_sp (r : Bs) (hr : r = [42, 32, 50, 41] ∨ r = [50, 41]) : firstP (32 :: r) = ⟨8, [32], [], 0⟩ := by
 rcases hr with rfl | rfl
 ·rw [firstP, if_pos (by decide)]
  decide
 ·rw [firstP, if_pos (by decide)]
  decide
theorem first_star : firstP [42, 32, 50, 41] = ⟨12, [42], [], 0⟩ := by
 rw [firstP, if_neg (by decide), if_neg (by decide), if_neg (by decide), if_neg (by decide), if_neg (by decide), if_neg (by decide), if_neg (by decide)]
 rfl
theorem first_shut : firstP [41] = ⟨11, [41], [], 0⟩ := by
 rw [firstP, if_neg (by decide), if_neg (by decide), if_neg (by decide), if_neg (by decide), if_neg (by decide), if_neg (by decide), if_neg (by decide)]
 rfl
def twiceT : List Tk := [⟨2, [99, 97, 108, 99, 40], [99, 97, 108, 99], 0⟩, ⟨7, [49, 112, 120], [112, 120], 1000⟩, ⟨8, [32], [], 0⟩, ⟨12, [42], [], 0⟩, ⟨8, [32], [], 0⟩, ⟨7, [50], [], 2000⟩, ⟨11, [41], [], 0⟩]
theorem cut_twice : cutP [99, 97, 108, 99, 40, 49, 112, 120, 32, 42, 32, 50, 41] = twiceT := by
 rw [cutP_cons (by decide), first_calc]
 simp only [List.length_cons, List.length_nil, List.drop_succ_cons, List.drop_zero, Nat.zero_add]
 rw [cutP_cons (by decide), show firstP [49, 112, 120, 32, 42, 32, 50, 41] = _ from num_px [32, 42, 32, 50, 41] (.inl rfl)]
 simp only [List.length_cons, List.length_nil, List.drop_succ_cons, List.drop_zero, Nat.zero_add]
 rw [cutP_cons (by decide), first_sp _ (.inl rfl)]
 simp only [List.length_cons, List.length_nil, List.drop_succ_cons, List.drop_zero, Nat.zero_add]
 rw [cutP_cons (by decide), first_star]
 simp only [List.length_cons, List.length_nil, List.drop_succ_cons, List.drop_zero, Nat.zero_add]
 rw [cutP_cons (by decide), first_sp _ (.inr rfl)]
 simp only [List.length_cons, List.length_nil, List.drop_succ_cons, List.drop_zero, Nat.zero_add]
 rw [cutP_cons (by decide), first_2 _ (.inl rfl)]
 simp only [List.length_cons, List.length_nil, List.drop_succ_cons, List.drop_zero, Nat.zero_add]
 rw [cutP_cons (by decide), first_shut]
 simp only [List.length_cons, List.length_nil, List.drop_succ_cons, List.drop_zero, Nat.zero_add]
 rw [cutP_nil]
 rfl
end cal
namespace cal
open Go.RowKit base tok dim rul
theorem catch_idle (p q : Addr) (w : World) :
  CallsD Tryz.prog 60 #[.pointer (some p), .pointer (some q)] .returning w fun e u' w' => e = .returned (.tuple #[]) /\ u' = .returning /\ w' = w := by
 refine callsD_of_wpS Tryz.func60 rfl fun c₀ cs hu => ?_
 apply wpS_seq
 apply wpS_region
 simp [wpOpsS, go_sem, recoverD, hu, Tryz.ntmps60, Exit.thenS]
 refine wpS_of_wp ?_
 go_wp2
 cases c₀
 simp_all [bodyPostS, results, Tryz.results60]
end cal
namespace cal
open Go.RowKit base tok dim rul
theorem cut_text (w : World) (hm : MaxL w) :
  Calls Tryz.prog 40 #[.string ⟨#[99, 97, 108, 99, 40, 49, 112, 120, 32, 42, 32, 50, 41]⟩] w fun e w' => (∃ A cap, e = .returned (.slice A 7 cap) /\ 7 <= cap /\ TRd w' w'.heap.size A 7 twiceT) /\ Below w.heap.size w w' := by
 have h := tok.cut_ct ⟨#[99, 97, 108, 99, 40, 49, 112, 120, 32, 42, 32, 50, 41]⟩ (by decide) w hm
 rw [show (⟨#[99, 97, 108, 99, 40, 49, 112, 120, 32, 42, 32, 50, 41]⟩ : ByteArray).data.toList = [99, 97, 108, 99, 40, 49, 112, 120, 32, 42, 32, 50, 41] from rfl, cut_twice] at h
 exact h
end cal
end Go.Proofs.YtlfkkaofgcongaaGreatDoor
