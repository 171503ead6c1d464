/- Contracts and plain law, a bundle. -/
import Derived.Tactics
import Derived.Tactics2
import Derived.Defers
import Derived.Laws.Pointers
import Derived.Laws.LoneSync
import Derived.RegionTactic
import Derived.RegionCalls
import Derived.ChangeAlike
import Derived.WalkLawsBesides
import Derived.Lib.Hide
import Derived.Test.YtaobpkffcolobaaGreatDoorBC
import Derived.Test.YtaobpkffcolobaaGreatDoorBC3
set_option linter.unusedVariables false
set_option maxRecDepth 100000
set_option maxHeartbeats 16000000
open Go.Lib (hid)
namespace Go.Proofs.YtaobpkffcolobaaGreatDoor
namespace quo
open Go.RowKit base
theorem q_disable (w : World) : (callFunc 143 #[]).run Tryz.prog w = .ok (.value (.tuple #[])) w := run_call_mark0 Tryz.func143 (by kernel_rfl) (by kernel_rfl) (by kernel_rfl) .disable (by kernel_rfl) w
theorem q_enable (w : World) : (callFunc 145 #[]).run Tryz.prog w = .ok (.value (.tuple #[])) w := run_call_mark0 Tryz.func145 (by kernel_rfl) (by kernel_rfl) (by kernel_rfl) .enable (by kernel_rfl) w
theorem q_acquire (a : Addr) (w : World) : (callFunc 146 #[.pointer (some a)]).run Tryz.prog w = .ok (.value (.tuple #[])) w := run_call_marked Tryz.func146 (by kernel_rfl) (by kernel_rfl) (by kernel_rfl) .acquire (by kernel_rfl) a w
theorem q_merge (a : Addr) (w : World) : (callFunc 148 #[.pointer (some a)]).run Tryz.prog w = .ok (.value (.tuple #[])) w := run_call_marked Tryz.func148 (by kernel_rfl) (by kernel_rfl) (by kernel_rfl) .releaseMerge (by kernel_rfl) a w
theorem q_store (a : Addr) (x : Value) (u : FrameMode) (w : World) (hc : w.cell? a = some x) (hz : w.frozen? a = false) :
  CallsD Tryz.prog 129 #[.pointer (some a), .bool true] u w fun e u' w' => u' = u /\ (e = .returned (.tuple #[]) /\ w' = w.drew.setCell a (.int .u32 1)) := by
 have hc' : w.drew.cell? a = some x := by go_simp
 have hz' : w.drew.frozen? a = false := by go_simp
 have hst := run_call_store (P := Tryz.prog) Tryz.func136 (by kernel_rfl) (by kernel_rfl) (by kernel_rfl) (by kernel_rfl) (k := .u32) (y := 1) hc' hz'
 go_enter_d Tryz.func129, Tryz.ntmps129
 go_wp2
 go_region_calls
 all_goals (go_end0; exact ⟨rfl, rfl⟩)
theorem q_unlock (a : Addr) (u : FrameMode) (w : World) (hc : w.cell? a = some (.int .i32 1)) (hz : w.frozen? a = false) :
  CallsD Tryz.prog 128 #[.pointer (some a)] u w fun e u' w' => u' = u /\ (e = .returned (.tuple #[]) /\ w' = w.setCell a (.int .i32 0)) := by
 have hd := q_disable
 have he := q_enable
 have hr := q_merge
 have hadd := run_call_add (P := Tryz.prog) Tryz.func149 (by kernel_rfl) (by kernel_rfl) (by kernel_rfl) .i32 (by kernel_rfl) (y := -1) (s := 0) hc hz (by simp [go_sem]; rfl)
 have hcv := run_convert_to_unsafe (P := Tryz.prog) (src := 201) (dst := 128) Tryz.underlying201 Tryz.underlying128 (by kernel_rfl) hc
 go_enter_d Tryz.func128, Tryz.ntmps128
 go_wp2
 go_end0
 go_wp2
 go_end0
 exact ⟨rfl, rfl⟩
theorem q_lock (a : Addr) (w : World) (hc : w.cell? a = some (.int .i32 0)) (hz : w.frozen? a = false) :
  Calls Tryz.prog 127 #[.pointer (some a)] w fun e w' => e = .returned (.tuple #[]) /\ w' = w.setCell a (.int .i32 1) := by
 have hd := q_disable
 have he := q_enable
 have ha := q_acquire
 have hcas := run_call_cas_hit (P := Tryz.prog) Tryz.func144 (by kernel_rfl) (by kernel_rfl) (by kernel_rfl) .i32 (by kernel_rfl) (y := 1) hc hz
 have hc' : (w.setCell a (.int .i32 1)).cell? a = some (.int .i32 1) := World.cell?_setCell_same w a _ hc
 have hcv := run_convert_to_unsafe (P := Tryz.prog) (src := 201) (dst := 128) Tryz.underlying201 Tryz.underlying128 (by kernel_rfl) hc'
 go_enter Tryz.func127, Tryz.ntmps127
 go_wp2
 first | go_end0 | (simp only [Exit.inBlock, Exit.then]; refine bodyPost_ret (results_none rfl _ _ _) rfl ?_) | refine bodyPost_ret (results_none rfl _ _ _) rfl ?_
 go_wp2
 go_end0
 exact ⟨rfl, rfl⟩
theorem q_load (a : Addr) (w : World) (hc : w.cell? a = some (.int .u32 0)) :
  Calls Tryz.prog 122 #[.pointer (some a)] w fun e w' => e = .returned (.bool false) /\ w = w' := by
 have hl := run_call_load (P := Tryz.prog) Tryz.func126 (by kernel_rfl) (by kernel_rfl) (by kernel_rfl) .u32 (by kernel_rfl) hc
 go_enter Tryz.func122, Tryz.ntmps122
 go_wp2
 go_ret
 exact ⟨rfl, rfl⟩
theorem q_slow (b : Nat) (w : World) (h0 : w.cell? ⟨b, 0, none⟩ = some (.int .u32 0)) (h1 : w.cell? ⟨b, 1, none⟩ = some (.int .i32 0))
  (f0 : w.frozen? ⟨b, 0, none⟩ = false) (f1 : w.frozen? ⟨b, 1, none⟩ = false) (Q : World -> Prop)
  (hf : Calls Tryz.prog 116 #[(pn b)] (w.setCell ⟨b, 1, none⟩ (.int .i32 1)) fun e w' => e = .returned (.tuple #[]) /\ Q w' /\ w'.cell? ⟨b, 0, none⟩ = some (.int .u32 0) /\ w'.cell? ⟨b, 1, none⟩ = some (.int .i32 1) /\ w'.frozen? ⟨b, 0, none⟩ = false /\ w'.frozen? ⟨b, 1, none⟩ = false) :
  Calls Tryz.prog 123 #[(pn b), .func (.func 116) #[(pn b)] #[]] w fun e w' => e = .returned (.tuple #[]) /\ ∃ w2, Q w2 /\ w' = (w2.drew.setCell ⟨b, 0, none⟩ (.int .u32 1)).setCell ⟨b, 1, none⟩ (.int .i32 0) := by
 have hl := fun w h => q_load ⟨b, 0, none⟩ w h
 have hnot : ∀ (x : Bool) (w : World), (Op.unary .not (.bool x)).run Tryz.prog w = .ok (.bool (!x)) w := fun _ _ => rfl
 have cF := hid hf
 have cL := hid hl
 have k0 := hid ((World.cell?_setCell_other w ⟨b, 1, none⟩ ⟨b, 0, none⟩ (.int .i32 1) (by simp)).trans h0)
 clear hf hl
 go_enter_defers Tryz.func123, Tryz.ntmps123
 go_wp2_with (first
  | (go_at_call 127; refine (q_lock ⟨b, 1, none⟩ _ (by go_simp) (by go_simp)).mono ?_; rintro e w' ⟨rfl, rfl⟩)
  | (go_at_call 122; refine (cL.out _ k0.out).mono ?_; rintro e w' ⟨rfl, rfl⟩)
  | (go_at_call 116; refine cF.out.mono ?_; rintro e W2 ⟨rfl, hQ, g0, g1, z0, z1⟩; replace hQ := hid hQ))
 refine leaves_cons (f := 129) (args := #[(pn b), .bool true]) (by simp) (by simp [go_sem]) ?_
 refine (q_store ⟨b, 0, none⟩ (.int .u32 0) .returning _ g0 z0).mono ?_
 rintro e u' w'' ⟨rfl, rfl, rfl⟩
 refine leaves_cons (f := 128) (args := #[.pointer (some ⟨b, 1, none⟩)]) (by simp [settle]) (by simp [go_sem]) ?_
 refine (q_unlock ⟨b, 1, none⟩ _ _ ?_ (by simp [z1])).mono ?_
 ·refine (World.cell?_setCell_other _ ⟨b, 0, none⟩ ⟨b, 1, none⟩ _ (by simp)).trans ?_
  rw [World.cell?_drew]
  exact g1
 rintro e u' w'' ⟨rfl, rfl, rfl⟩
 simp only [Leaves, settle]
 exact ⟨.tuple #[], by simp [results, Tryz.results123], rfl, _, hQ.out, rfl⟩
theorem q_do (b : Nat) (w : World) (h0 : w.cell? ⟨b, 0, none⟩ = some (.int .u32 0)) (h1 : w.cell? ⟨b, 1, none⟩ = some (.int .i32 0))
  (f0 : w.frozen? ⟨b, 0, none⟩ = false) (f1 : w.frozen? ⟨b, 1, none⟩ = false) (Q : World -> Prop)
  (hf : Calls Tryz.prog 116 #[(pn b)] (w.setCell ⟨b, 1, none⟩ (.int .i32 1)) fun e w' => e = .returned (.tuple #[]) /\ Q w' /\ w'.cell? ⟨b, 0, none⟩ = some (.int .u32 0) /\ w'.cell? ⟨b, 1, none⟩ = some (.int .i32 1) /\ w'.frozen? ⟨b, 0, none⟩ = false /\ w'.frozen? ⟨b, 1, none⟩ = false) :
  Calls Tryz.prog 115 #[(pn b), .func (.func 116) #[(pn b)] #[]] w fun e w' => e = .returned (.tuple #[]) /\ ∃ w2, Q w2 /\ w' = (w2.drew.setCell ⟨b, 0, none⟩ (.int .u32 1)).setCell ⟨b, 1, none⟩ (.int .i32 0) := by
 have hnot : ∀ (x : Bool) (w : World), (Op.unary .not (.bool x)).run Tryz.prog w = .ok (.bool (!x)) w := fun _ _ => rfl
 have cS := hid (q_slow b w h0 h1 f0 f1 Q hf)
 have cL := hid (q_load ⟨b, 0, none⟩ w h0)
 clear hf
 go_enter Tryz.func115, Tryz.ntmps115
 go_wp2_with (first
  | (go_at_call 122; refine cL.out.mono ?_; rintro e w' ⟨rfl, rfl⟩)
  | (go_at_call 123; refine cS.out.mono ?_; rintro e W2 ⟨rfl, w2, hQ, hw2⟩; replace hQ := hid hQ; replace hw2 := hid hw2))
 go_end0
 exact ⟨rfl, w2, hQ.out, hw2.out⟩
end quo
namespace quo
open Go.RowKit base tok rul
theorem infoStr : (Tryz.prog.info? 9).map (fun i => (i.zero, i.size, i.bytes)) = some (some (.string .empty), 1, 16) := by kernel_rfl
abbrev pairs : Array Value := #[.string ⟨#[92]⟩, .string ⟨#[92, 92]⟩, .string ⟨#[34]⟩, .string ⟨#[92, 34]⟩, .string ⟨#[10]⟩, .string ⟨#[92, 10]⟩]
theorem row_fresh {w w' : World} {base : Nat} {e : TypeId} {size n : Nat} {xs : List Value} {v' : Value} (ho : w'.ownsRow base e size v' n xs) (h0 : 0 < n) : ∃ g cap, v' = .slice (some ⟨g, 0, none⟩) n cap /\ base <= g /\ g < w'.heap.size /\ n <= cap /\ ∀ j u, xs[j]? = some u -> w'.cell? ⟨g, j, none⟩ = some u := by
 rcases ho.2 with ⟨h1, h2⟩ | ⟨g, cap', cur, rfl, hb, hg, hc, _⟩
 ·omega
 ·refine ⟨g, cap', rfl, hb, (ho.lt g rfl).2, hc, fun j u hj => ?_⟩
  have h4 := ho.cells (g := g) rfl j u hj
  rwa [show (⟨g, 0, none⟩ : Addr).add j = ⟨g, j, none⟩ by unfold Addr.add; split <;> simp_all] at h4
def NewPost (w : World) (e : Ending) (w' : World) : Prop := ∃ b g cap, e = .returned ((pn b)) /\ Below w.heap.size w w' /\ w.heap.size <= g /\ g < b /\ 6 <= cap /\
 Blk w' b 154 #[.int .u32 0, .int .i32 0, .int .u32 0, .nilIface, .slice (some ⟨g, 0, none⟩) 6 cap] /\ ∀ (j : Nat) (u : Value), pairs[j]? = some u -> w'.cell? ⟨g, j, none⟩ = some u
theorem new_ct (k : Nat) (w : World) (hk : Blk w k 9 pairs) :
  Calls Tryz.prog 97 #[.slice (some ⟨k, 0, none⟩) 6 6] w (NewPost w) := by
 obtain ⟨i0, hi, hz0, hz1, hz2⟩ := info_parts infoStr
 have Hz0 := hid hz0
 have Hi := hid hi
 have Hz1 := hid hz1
 have Hz2 := hid hz2
 have hk2 := hid hk
 clear hz0 hi hz1 hz2 hk
 go_enter Tryz.func97, Tryz.ntmps97
 go_wp2_with (at_builtin; refine wpList_append_own_at _ rfl _ _ 23 rfl w.heap.size 9 i0 (.string .empty) 1 16 Tryz.underlying23 Hi.out Hz0.out Hz1.out Hz2.out rfl (by decide) (.slice none 0 0) 0 [] rfl (World.ownsRow_nil _ _ _ _) ⟨k, 0, none⟩ 6 6 pairs.toList rfl rfl hk2.out.news (by simp [Value.oneCell']) (by unfold maxLen; omega) (by omega) (by simp <;> omega) ?_; intro v1 w1 hown1 hgrow1 _ hat1; obtain ⟨g, cap, rfl, hg1, hg2, hcap, hx⟩ := row_fresh (w := w) hown1 (by decide); have hb1 := below_app (Below.refl w.heap.size w) hgrow1 (World.ownsRow_nil w w.heap.size 9 1) (Nat.le_refl _) (Nat.le_refl _); have HB1 := hid hb1; have HX1 := hid hx; clear hown1 hgrow1 hat1 hb1 hx)
 go_ret
 refine show NewPost w _ _ from ⟨w1.heap.size, g, cap, rfl, HB1.out.alloc HB1.out.size _, hg1, hg2, hcap, Blk.new rfl, fun j u hj => ?_⟩
 have h1 := HX1.out j u (by simpa using hj)
 exact ((ba w1 _).cell (p := ⟨g, j, none⟩) hg2).trans h1
end quo
end Go.Proofs.YtaobpkffcolobaaGreatDoor
