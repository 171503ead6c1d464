/- Contracts and plain law, a bundle. -/
import Derived.Lib.Hide
import Derived.Test.YtaobpkffcolobaaGreatDoorBF1
set_option linter.unusedVariables false
set_option maxRecDepth 100000
set_option maxHeartbeats 16000000
open Go.Lib (hid)
namespace Go.Proofs.YtaobpkffcolobaaGreatDoor
namespace sel
open Go.RowKit base tok rul
theorem and_t {a b : Bool} (h : (a && b) = true) : a = true /\ b = true := Bool.and_eq_true_iff.1 h
theorem not_t {a : Bool} (h : (!a) = true) : a = false := by cases a; rfl; cases h
theorem okL_mem {l : List Pa} (h : okL l = true) {i : Nat} {steps : List (List Ts)} {joins : Bs} (hi : l[i]? = some (.mk steps joins)) : okSS steps = true /\ joins.all joinOk = true := by
 induction l generalizing i with
 | nil => cases hi
 | cons x l ih =>
  rw [okL] at h
  obtain ⟨h1, h2⟩ := and_t h
  cases i with
  | zero =>
   obtain rfl := Option.some.inj hi
   rw [okP] at h1
   obtain ⟨a1, a2⟩ := and_t h1
   obtain ⟨a3, a4⟩ := and_t a1
   exact ⟨a4, a2⟩
  | succ i => exact ih h2 hi
theorem okSS_mem {l : List (List Ts)} (h : okSS l = true) {i : Nat} {s : List Ts} (hi : l[i]? = some s) : okS 0 s = true /\ s ≠ [] := by
 induction l generalizing i with
 | nil => cases hi
 | cons x l ih =>
  rw [okSS] at h
  obtain ⟨h1, h2⟩ := and_t h
  obtain ⟨h3, h4⟩ := and_t h1
  cases i with
  | zero =>
   obtain rfl := Option.some.inj hi
   exact ⟨h3, fun e => by rw [e] at h4; cases h4⟩
  | succ i => exact ih h2 hi
theorem okS_mem {l : List Ts} {b : Nat} (h : okS b l = true) {i : Nat} {t : Ts} (hi : l[i]? = some t) : okT (b + i) t = true := by
 induction l generalizing b i with
 | nil => cases hi
 | cons x l ih =>
  rw [okS] at h
  obtain ⟨h1, h2⟩ := and_t h
  cases i with
  | zero =>
   obtain rfl := Option.some.inj hi
   exact h1
  | succ i =>
   have := ih h2 (i := i) hi
   rwa [show b + 1 + i = b + (i + 1) by omega] at this
theorem joinOk_ne {c : UInt8} (h : joinOk c = true) : ¬ (Lib.indexByte [32, 62, 43, 126] c : Int) < 0 := by
 have h1 : c = 32 ∨ c = 62 ∨ c = 43 ∨ c = 126 := by simpa [joinOk, or_assoc] using h
 rcases h1 with rfl | rfl | rfl | rfl <;> decide
theorem jdx_ct (op : UInt8) (w : World) : Calls Tryz.prog 43 #[.string ⟨#[32, 62, 43, 126]⟩, .int .u8 (nv op)] w fun e w' => e = .returned (.int .i64 (Lib.indexByte [32, 62, 43, 126] op)) /\ w = w' := by
 have h := Tryz.strings_IndexByte ⟨#[32, 62, 43, 126]⟩ (nv op) w
 rw [show (nv op).toNat.toUInt8 = op by unfold nv; simp] at h
 exact h.mono fun e w' ⟨h1, h2⟩ => ⟨h1, h2.symm⟩
end sel
end Go.Proofs.YtaobpkffcolobaaGreatDoor
