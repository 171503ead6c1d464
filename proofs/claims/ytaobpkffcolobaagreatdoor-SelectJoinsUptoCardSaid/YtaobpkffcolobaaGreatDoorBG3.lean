/- Contracts and plain law, a bundle. -/
import Derived.Lib.Hide
import Derived.Test.YtaobpkffcolobaaGreatDoorBF2
import Derived.Test.YtaobpkffcolobaaGreatDoorBG2
set_option linter.unusedVariables false
set_option maxRecDepth 100000
set_option maxHeartbeats 16000000
open Go.Lib (hid)
namespace Go.Proofs.YtaobpkffcolobaaGreatDoor
namespace sel
open Go.RowKit base tok rul
theorem bind_up {α β : Type} {o o' : Option α} {f f' : α -> Option β} {y : β} (h : o.bind f = some y) (ho : ∀ x, o = some x -> o' = some x) (hf : ∀ x, f x = some y -> f' x = some y) : o'.bind f' = some y := by
 obtain ⟨x, h1, h2⟩ := bind_some' h
 rw [ho x h1, Option.bind_some]
 exact hf x h2
theorem map_up {α β : Type} {o o' : Option α} {f : α -> β} {y : β} (h : o.map f = some y) (ho : ∀ x, o = some x -> o' = some x) : o'.map f = some y := by
 obtain ⟨x, h1, h2⟩ := map_some' h
 rw [ho x h1, Option.map_some, h2]
def UpO (d : Nat) : Prop := ∀ L r, oneF d L = some r -> oneF (d + 1) L = some r
def UpP (d : Nat) : Prop := ∀ L r, pseudoF d L = some r -> pseudoF (d + 1) L = some r
def UpS (d : Nat) : Prop := ∀ acc L r, stepF d acc L = some r -> stepF (d + 1) acc L = some r
def UpT (d : Nat) : Prop := ∀ s j L r, pathF d s j L = some r -> pathF (d + 1) s j L = some r
def UpL (d : Nat) : Prop := ∀ shut acc L r, listF d shut acc L = some r -> listF (d + 1) shut acc L = some r
theorem up_all : ∀ d, UpO d /\ UpP d /\ UpS d /\ UpT d /\ UpL d
 | 0 => ⟨fun L r h => (by rw [oneF] at h; cases h), fun L r h => (by rw [pseudoF] at h; cases h), fun acc L r h => (by rw [stepF] at h; cases h), fun s j L r h => (by rw [pathF] at h; cases h), fun s a L r h => (by rw [listF] at h; cases h)⟩
 | d + 1 => by
  obtain ⟨hO, hP, hS, hT, hL⟩ := up_all d
  refine ⟨fun L r h => ?_, fun L r h => ?_, fun acc L r h => ?_, fun s j L r h => ?_, fun shut acc L r h => ?_⟩
  ·cases L with
   | nil => rw [oneF] at h ⊢; exact h
   | cons t M =>
    rw [oneF.eq_def] at h ⊢
    simp only at h ⊢
    split
    ·rename_i e; rw [if_pos e] at h; exact h
    ·rename_i e; rw [if_neg e] at h
     split
     ·rename_i e; rw [if_pos e] at h; exact h
     ·rename_i e; rw [if_neg e] at h
      split
      ·rename_i e; rw [if_pos e] at h; exact h
      ·rename_i e; rw [if_neg e] at h
       split
       ·rename_i e; rw [if_pos e] at h; exact h
       ·rename_i e; rw [if_neg e] at h
        split
        ·rename_i e; rw [if_pos e] at h; exact h
        ·rename_i e; rw [if_neg e] at h
         split
         ·rename_i e; rw [if_pos e] at h
          exact map_up h (hP M)
         ·rename_i e; rw [if_neg e] at h; exact h
  ·cases L with
   | nil => rw [pseudoF] at h; cases h
   | cons t M =>
    rw [pseudoF] at h ⊢
    split
    ·rename_i e; rw [if_pos e] at h; exact h
    ·rename_i e; rw [if_neg e] at h
     split
     ·rename_i e; rw [if_pos e] at h
      split
      ·rename_i e; rw [if_pos e] at h; exact h
      ·rename_i e; rw [if_neg e] at h
       split
       ·rename_i e; rw [if_pos e] at h; exact h
       ·rename_i e; rw [if_neg e] at h
        split
        ·rename_i e; rw [if_pos e] at h; exact map_up h (hL true [] M)
        ·rename_i e; rw [if_neg e] at h
         split
         ·rename_i e; rw [if_pos e] at h; exact map_up h (hL true [] M)
         ·rename_i e; rw [if_neg e] at h; exact h
     ·rename_i e; rw [if_neg e] at h; cases h
  ·rw [stepF_go] at h ⊢
   refine bind_up h (hO L) (fun x hx => ?_)
   obtain ⟨o, M⟩ := x
   cases o with
   | none => exact hx
   | some t => exact hS _ _ _ hx
  ·rw [pathF] at h ⊢
   cases hg : gapP L with
   | nil => rw [hg] at h; exact h
   | cons t M =>
    rw [hg] at h
    simp only at h ⊢
    split
    ·rename_i e; rw [if_pos e] at h
     exact bind_up h (hS _ _) (fun x hx => hT _ _ _ _ hx)
    ·rename_i e; rw [if_neg e] at h
     split
     ·rename_i e; rw [if_pos e] at h
      exact bind_up h (hS _ _) (fun x hx => hT _ _ _ _ hx)
     ·rename_i e; rw [if_neg e] at h; exact h
  ·rw [listF_go] at h ⊢
   refine bind_up h (fun x hx => ?_) (fun x hx => ?_)
   ·unfold pathP at hx ⊢
    exact bind_up hx (hS _ _) (fun y hy => hT _ _ _ _ hy)
   ·unfold listG at hx ⊢
    cases hg : gapP x.2 with
    | nil => rw [hg] at hx; exact hx
    | cons t M =>
     rw [hg] at hx
     simp only at hx ⊢
     split
     ·rename_i e; rw [if_pos e] at hx
      exact hL _ _ _ _ hx
     ·rename_i e; rw [if_neg e] at hx; exact hx
theorem list_up {d e : Nat} (h : d <= e) {shut : Bool} {acc : List Pa} {L : List Tk} {r : List Pa × List Tk} (hr : listF d shut acc L = some r) : listF e shut acc L = some r := by
 induction h with
 | refl => exact hr
 | step h ih => exact (up_all _).2.2.2.2 _ _ _ _ ih
theorem read_open {d : Nat} {s : Bs} {l : List Pa} (h : readS d s = some l) : s.length <= 400 /\ checkB l = true /\ ∃ M, listF d false [] (cutP s) = some (l, M) := by
 unfold readS at h
 by_cases h4 : 400 < s.length
 ·rw [if_pos h4] at h; cases h
 ·rw [if_neg h4] at h
  cases hl : listF d false [] (cutP s) with
  | none => rw [hl] at h; cases h
  | some r =>
   obtain ⟨l2, M⟩ := r
   rw [hl] at h
   simp only at h
   by_cases hc : checkB l2 = true
   ·rw [if_pos hc] at h
    obtain rfl := Option.some.inj h
    exact ⟨by omega, hc, M, rfl⟩
   ·rw [if_neg hc] at h; cases h
theorem check_open {l : List Pa} (h : checkB l = true) : deepL 3 l = true /\ cntL l <= 40 /\ l ≠ [] /\ okL l = true := by
 unfold checkB at h
 obtain ⟨h1, h2⟩ := and_t h
 obtain ⟨h3, h4⟩ := and_t h1
 obtain ⟨h5, h6⟩ := and_t h3
 exact ⟨h5, of_decide_eq_true h6, fun e => (by rw [e] at h4; cases h4), h2⟩
end sel
end Go.Proofs.YtaobpkffcolobaaGreatDoor
