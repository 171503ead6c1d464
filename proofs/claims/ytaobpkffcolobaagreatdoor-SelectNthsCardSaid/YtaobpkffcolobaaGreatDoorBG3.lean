/- Contracts and plain law, a bundle: SelX SelY. -/
import Derived.Recover
import Derived.Laws.Pointers
import Derived.WalkLawsBesides
import Derived.Test.YtaobpkffcolobaaGreatDoorBF2
import Derived.Test.YtaobpkffcolobaaGreatDoorBG2

namespace Go.Proofs.YtaobpkffcolobaaGreatDoor.sel
open Go.RowKit Go.Proofs.YtaobpkffcolobaaGreatDoor.base Go.Proofs.YtaobpkffcolobaaGreatDoor.tok Go.Proofs.YtaobpkffcolobaaGreatDoor.rul
set_option linter.unusedVariables false

theorem bind_up {α β : Type} {o o' : Option α} {f f' : α → Option β} {y : β} (h : o.bind f = some y) (ho : ∀ x, o = some x → o' = some x) (hf : ∀ x, f x = some y → f' x = some y) : o'.bind f' = some y := by
  obtain ⟨x, h1, h2⟩ := bind_some' h
  rw [ho x h1, Option.bind_some]
  exact hf x h2
theorem map_up {α β : Type} {o o' : Option α} {f : α → β} {y : β} (h : o.map f = some y) (ho : ∀ x, o = some x → o' = some x) : o'.map f = some y := by
  obtain ⟨x, h1, h2⟩ := map_some' h
  rw [ho x h1, Option.map_some, h2]
def UpO (d : Nat) : Prop := ∀ L r, oneF d L = some r → oneF (d + 1) L = some r
def UpP (d : Nat) : Prop := ∀ L r, pseudoF d L = some r → pseudoF (d + 1) L = some r
def UpS (d : Nat) : Prop := ∀ acc L r, stepF d acc L = some r → stepF (d + 1) acc L = some r
def UpT (d : Nat) : Prop := ∀ s j L r, pathF d s j L = some r → pathF (d + 1) s j L = some r
def UpL (d : Nat) : Prop := ∀ shut acc L r, listF d shut acc L = some r → listF (d + 1) shut acc L = some r
theorem up_all : ∀ d, UpO d ∧ UpP d ∧ UpS d ∧ UpT d ∧ UpL d
  | 0 => ⟨fun L r h => (by rw [oneF] at h; cases h), fun L r h => (by rw [pseudoF] at h; cases h), fun acc L r h => (by rw [stepF] at h; cases h), fun s j L r h => (by rw [pathF] at h; cases h), fun s a L r h => (by rw [listF] at h; cases h)⟩
  | d + 1 => by
    obtain ⟨hO, hP, hS, hT, hL⟩ := up_all d
    refine ⟨fun L r h => ?_, fun L r h => ?_, fun acc L r h => ?_, fun s j L r h => ?_, fun shut acc L r h => ?_⟩
    · cases L with
      | nil => rw [oneF] at h ⊢; exact h
      | cons t M =>
        rw [oneF.eq_def] at h ⊢
        simp only at h ⊢
        split
        · rename_i e; rw [if_pos e] at h; exact h
        · rename_i e; rw [if_neg e] at h
          split
          · rename_i e; rw [if_pos e] at h; exact h
          · rename_i e; rw [if_neg e] at h
            split
            · rename_i e; rw [if_pos e] at h; exact h
            · rename_i e; rw [if_neg e] at h
              split
              · rename_i e; rw [if_pos e] at h; exact h
              · rename_i e; rw [if_neg e] at h
                split
                · rename_i e; rw [if_pos e] at h; exact h
                · rename_i e; rw [if_neg e] at h
                  split
                  · rename_i e; rw [if_pos e] at h
                    exact map_up h (hP M)
                  · rename_i e; rw [if_neg e] at h; exact h
    · cases L with
      | nil => rw [pseudoF] at h; cases h
      | cons t M =>
        rw [pseudoF] at h ⊢
        split
        · rename_i e; rw [if_pos e] at h; exact h
        · rename_i e; rw [if_neg e] at h
          split
          · rename_i e; rw [if_pos e] at h
            split
            · rename_i e; rw [if_pos e] at h; exact h
            · rename_i e; rw [if_neg e] at h
              split
              · rename_i e; rw [if_pos e] at h; exact h
              · rename_i e; rw [if_neg e] at h
                split
                · rename_i e; rw [if_pos e] at h; exact map_up h (hL true [] M)
                · rename_i e; rw [if_neg e] at h
                  split
                  · rename_i e; rw [if_pos e] at h; exact map_up h (hL true [] M)
                  · rename_i e; rw [if_neg e] at h; exact h
          · rename_i e; rw [if_neg e] at h; cases h
    · rw [stepF_go] at h ⊢
      refine bind_up h (hO L) (fun x hx => ?_)
      obtain ⟨o, M⟩ := x
      cases o with
      | none => exact hx
      | some t => exact hS _ _ _ hx
    · rw [pathF] at h ⊢
      cases hg : gapP L with
      | nil => rw [hg] at h; exact h
      | cons t M =>
        rw [hg] at h
        simp only at h ⊢
        split
        · rename_i e; rw [if_pos e] at h
          exact bind_up h (hS _ _) (fun x hx => hT _ _ _ _ hx)
        · rename_i e; rw [if_neg e] at h
          split
          · rename_i e; rw [if_pos e] at h
            exact bind_up h (hS _ _) (fun x hx => hT _ _ _ _ hx)
          · rename_i e; rw [if_neg e] at h; exact h
    · rw [listF_go] at h ⊢
      refine bind_up h (fun x hx => ?_) (fun x hx => ?_)
      · unfold pathP at hx ⊢
        exact bind_up hx (hS _ _) (fun y hy => hT _ _ _ _ hy)
      · unfold listG at hx ⊢
        cases hg : gapP x.2 with
        | nil => rw [hg] at hx; exact hx
        | cons t M =>
          rw [hg] at hx
          simp only at hx ⊢
          split
          · rename_i e; rw [if_pos e] at hx
            exact hL _ _ _ _ hx
          · rename_i e; rw [if_neg e] at hx; exact hx
theorem list_up {d e : Nat} (h : d ≤ e) {shut : Bool} {acc : List Pa} {L : List Tk} {r : List Pa × List Tk} (hr : listF d shut acc L = some r) : listF e shut acc L = some r := by
  induction h with
  | refl => exact hr
  | step h ih => exact (up_all _).2.2.2.2 _ _ _ _ ih
theorem read_open {d : Nat} {s : Bs} {l : List Pa} (h : readS d s = some l) : s.length ≤ 400 ∧ checkB l = true ∧ ∃ M, listF d false [] (cutP s) = some (l, M) := by
  unfold readS at h
  by_cases h4 : 400 < s.length
  · rw [if_pos h4] at h; cases h
  · rw [if_neg h4] at h
    cases hl : listF d false [] (cutP s) with
    | none => rw [hl] at h; cases h
    | some r =>
      obtain ⟨l2, M⟩ := r
      rw [hl] at h
      simp only at h
      by_cases hc : checkB l2 = true
      · rw [if_pos hc] at h
        obtain rfl := Option.some.inj h
        exact ⟨by omega, hc, M, rfl⟩
      · rw [if_neg hc] at h; cases h
theorem check_open {l : List Pa} (h : checkB l = true) : deepL 3 l = true ∧ cntL l ≤ 40 ∧ l ≠ [] ∧ okL l = true := by
  unfold checkB at h
  obtain ⟨h1, h2⟩ := and_t h
  obtain ⟨h3, h4⟩ := and_t h1
  obtain ⟨h5, h6⟩ := and_t h3
  exact ⟨h5, of_decide_eq_true h6, fun e => (by rw [e] at h4; cases h4), h2⟩

set_option maxRecDepth 100000 in
set_option maxHeartbeats 4000000 in
theorem check_true (l : List Pa) (hc : checkB l = true) (hsm : SmL l) (A : Option Addr) (cap : Nat) (X : Nat → Prop) (w : World) (hM : MaxL w) (hv : PasV X w l A cap) :
    Calls Tryz.prog 13 #[.slice A l.length cap] w fun e w' => e = .returned (.int .i64 0) ∧ Below w.heap.size w w' := by
  obtain ⟨h1, h2, h3, h4⟩ := check_open hc
  have cT := Lib.hid (tests_ct 3 l A cap X w 0 (by omega) (by omega) h1 h2 hsm hv)
  have cP := Lib.hid (fun W (hb : Below w.heap.size w W) => paths_all 40 (by omega) l h2 h4 h3 hsm A cap X W (hM.on hb hM.lt) (hv.on hb))
  clear hc h1 h2 h3 h4 hsm hM hv
  go_enter Tryz.func13, Tryz.ntmps13
  go_wp2_with (first
    | (go_at_call 23; (with_reducible refine cT.out.mono ?_); rintro e W1 ⟨rfl, hb1⟩; have HB1 := Lib.hid hb1; clear hb1)
    | (go_at_call 24; (with_reducible refine (cP.out _ HB1.out).mono ?_); rintro e W2 ⟨rfl, hb2⟩; have HB2 := Lib.hid (HB1.out.trans (hb2.mono HB1.out.size)); clear hb2))
  go_ret
  exact ⟨rfl, HB2.out⟩

end Go.Proofs.YtaobpkffcolobaaGreatDoor.sel

namespace Go.Proofs.YtaobpkffcolobaaGreatDoor.sel
open Go.RowKit Go.Proofs.YtaobpkffcolobaaGreatDoor.base Go.Proofs.YtaobpkffcolobaaGreatDoor.tok Go.Proofs.YtaobpkffcolobaaGreatDoor.rul
set_option linter.unusedVariables false

set_option maxRecDepth 100000 in
set_option maxHeartbeats 4000000 in
theorem scatch_idle (p q : Addr) (w : World) :
    CallsD Tryz.prog 16 #[.pointer (some p), .pointer (some q)] .returning w fun e u' w' => e = .returned (.tuple #[]) ∧ u' = .returning ∧ w' = w := by
  refine callsD_of_wpS Tryz.func16 rfl fun c₀ cs hu => ?_
  apply wpS_seq
  apply wpS_region
  simp [wpOpsS, go_sem, recoverD, hu, Tryz.ntmps16, Exit.thenS]
  refine wpS_of_wp ?_
  go_wp2
  cases c₀
  simp_all [bodyPostS, results, Tryz.results16]

set_option maxRecDepth 100000 in
set_option maxHeartbeats 8000000 in
theorem sread_ok (s : Bs) (d : Nat) (l : List Pa) (hr : readS d s = some l) (w : World) (hE : SEnv w) :
    Calls Tryz.prog 9 #[.string (bs s)] w fun e w' => (∃ A cap, e = .returned (.tuple #[.slice A l.length cap, .int .i64 0]) ∧ PasV (fun c => w.heap.size ≤ c) w' l A cap) ∧ Below w.heap.size w w' := by
  have hmf : ∀ (fn : Fn) (first cap : Array Value) (w : World), (Instr.makeFunc fn first cap).run Tryz.prog w = .ok (.func fn first cap) w := fun _ _ _ _ => rfl
  obtain ⟨hs, hck, M, hL⟩ := read_open hr
  have hgood := good_cut hs
  have hl := cut_few s
  have hL' := list_up (e := d + 2404) (by omega) hL
  have hsm := ((in_all d).2.2.2.2 false [] (cutP s) l M hgood (by rw [SmL]; trivial) hL).1
  have cC := fun w hm => Go.Proofs.YtaobpkffcolobaaGreatDoor.tok.cut_ct (bs s) (by rw [bs_size]; omega) w hm
  rw [show (bs s).data.toList = s from rfl] at cC
  replace cC := Lib.hid cC
  have cV := fun b w h hE => (reads_all 400).2 b false (cutP s) (d + 2404) w (by omega) hgood (by omega) h hE
  rw [hL', if_neg Bool.false_ne_true] at cV
  unfold RetLs at cV
  replace cV := Lib.hid cV
  have cK := Lib.hid (fun A cap X w hM hv => check_true l hck hsm A cap X w hM hv)
  have HE := Lib.hid hE
  have hq4 : decide ((400 : Int) < ((bs s).size : Int)) = false := decide_eq_false (by rw [bs_size]; omega)
  have hll := len_L l hsm
  have hl40 := (check_open hck).2.1
  clear hE hL hL' hr hsm hck hgood
  go_enter_defers Tryz.func9, Tryz.ntmps9
  have HB0 := Lib.hid (show Below w.heap.size w ((w.alloc (.cells #[.slice none 0 0] 24)).alloc (.cells #[.int .i64 0] 29)) from ((Below.refl _ _).alloc (Nat.le_refl _) _).alloc (by simp) _)
  have Q0 := Lib.hid (show Blk ((w.alloc (.cells #[.slice none 0 0] 24)).alloc (.cells #[.int .i64 0] 29)) w.heap.size 24 #[.slice none 0 0] from (Blk.new rfl).alloc _)
  have E0 := Lib.hid (show Blk ((w.alloc (.cells #[.slice none 0 0] 24)).alloc (.cells #[.int .i64 0] 29)) (w.heap.size + 1) 29 #[.int .i64 0] from Blk.new (by simp))
  go_wp2_with (first
    | (go_at_call 17; (with_reducible refine (cC.out _ (HE.out.max.on HB0.out HE.out.max.lt)).mono ?_); rintro e W1 ⟨⟨A, cap, rfl, hcap, hrd⟩, hb1⟩; have hz1 := hb1.size; simp only [World.size_alloc] at hz1; have HB1 := Lib.hid ((HB0.out.trans (hb1.mono (by simp <;> omega))).alloc (by omega) (.cells #[.slice A (cutP s).length cap] 60)); have Q1 := Lib.hid ((Q0.out.below hb1 (by simp <;> omega)).alloc (.cells #[.slice A (cutP s).length cap] 60)); have E1 := Lib.hid ((E0.out.below hb1 (by simp <;> omega)).alloc (.cells #[.slice A (cutP s).length cap] 60)); have HR1 := Lib.hid (show RdrS (W1.alloc (.cells #[.slice A (cutP s).length cap] 60)) W1.heap.size (cutP s) from ⟨A, cap, hcap, Blk.new rfl, Rd.keep hrd ((Below.refl _ _).alloc (Nat.le_refl _) _) (Nat.le_refl _)⟩); have HE1 := Lib.hid (show EnvS W1.heap.size (W1.alloc (.cells #[.slice A (cutP s).length cap] 60)) from fun v hv => HE.out.on (HB1.out.trans (hv.mono (by omega)))); clear hrd hb1)
    | (go_at_call 18; (with_reducible refine (cV.out _ _ HR1.out HE1.out).mono ?_); rintro e W2 ⟨hg2, ⟨A2, cap2, rfl, hv2⟩, hr2⟩; (try dsimp only at hv2); have hz2 := hg2.size; rw [World.size_alloc] at hz2; have q2 := Blk_grown Q1.out hg2 (by omega); have q2c := q2.cell; have q2f := q2.frozen; have q2l := q2.lt; have Q2 := Lib.hid (q2.put 0 (.slice A2 l.length cap2)); have E2 := Lib.hid ((Blk_grown E1.out hg2 (by omega)).far (p := ⟨w.heap.size, 0, none⟩) (by dsimp only; omega) (.slice A2 l.length cap2)); have V2 := Lib.hid (hv2.keep (Y := fun c => w.heap.size + 2 ≤ c) (w' := W2.setCell ⟨w.heap.size, 0, none⟩ (.slice A2 l.length cap2)) (by simp [World.setCell]) (fun c hc hl => ⟨(by rw [World.size_alloc] at hc; omega), Below.heap_setCell _ _ _ c (by rw [World.size_alloc] at hc; dsimp only; omega)⟩)); have HB2 := Lib.hid ((HB1.out.trans ((below_one hg2 (by rw [World.size_alloc]; omega)).mono (by omega))).setCell (p := ⟨w.heap.size, 0, none⟩) (Nat.le_refl _) (.slice A2 l.length cap2)); clear hg2 hv2 hr2 q2)
    | (go_at_call 13; (with_reducible refine (cK.out _ _ _ _ (HE.out.max.on HB2.out HE.out.max.lt) V2.out).mono ?_); rintro e W3 ⟨rfl, hb3⟩; have q3 := Q2.out.below hb3 Q2.out.lt; have q3c := q3.cell; have q3f := q3.frozen; have q3l := q3.lt; have Q3 := Lib.hid q3; have e3 := E2.out.below hb3 E2.out.lt; have e3c := e3.cell; have e3f := e3.frozen; have e3l := e3.lt; have E3 := Lib.hid e3; have V3 := Lib.hid (V2.out.on hb3); have HB3 := Lib.hid (HB2.out.trans (hb3.mono HB2.out.size)); clear hb3 q3 e3))
  refine leaves_cons (f := 16) (args := #[.pointer (some ⟨w.heap.size, 0, none⟩), .pointer (some ⟨w.heap.size + 1, 0, none⟩)]) (by simp) (by simp [go_sem]) ?_
  refine (scatch_idle ⟨w.heap.size, 0, none⟩ ⟨w.heap.size + 1, 0, none⟩ _).mono ?_
  rintro e u' w'' ⟨rfl, rfl, rfl⟩
  have ec := ((Q3.out.put 0 (.slice A2 l.length cap2)).far (p := ⟨w.heap.size + 1, 0, none⟩) (by dsimp only; omega) (.int .i64 0)).cell
  have fc := ((E3.out.far (p := ⟨w.heap.size, 0, none⟩) (by dsimp only; omega) (.slice A2 l.length cap2)).put 0 (.int .i64 0)).cell
  have VF := V3.out.keep (Y := fun c => w.heap.size ≤ c) (w' := (W3.setCell ⟨w.heap.size, 0, none⟩ (.slice A2 l.length cap2)).setCell ⟨w.heap.size + 1, 0, none⟩ (.int .i64 0)) (by simp [World.setCell]) (fun c (hc : w.heap.size + 2 ≤ c) hl => ⟨by omega, (Below.heap_setCell _ _ _ c (by dsimp only; omega)).trans (Below.heap_setCell _ _ _ c (by dsimp only; omega))⟩)
  have HF := (HB3.out.setCell (p := ⟨w.heap.size, 0, none⟩) (Nat.le_refl _) (.slice A2 l.length cap2)).setCell (p := ⟨w.heap.size + 1, 0, none⟩) (by dsimp only; omega) (.int .i64 0)
  generalize ((W3.setCell ⟨w.heap.size, 0, none⟩ (.slice A2 l.length cap2)).setCell ⟨w.heap.size + 1, 0, none⟩ (.int .i64 0)) = WF at *
  simp only [Leaves, settle]
  exact ⟨.tuple #[.slice A2 l.length cap2, .int .i64 0], by simp [results, Tryz.results9, go_sem, ec, fc], ⟨_, _, rfl, VF⟩, HF⟩

end Go.Proofs.YtaobpkffcolobaaGreatDoor.sel
