/- Contracts and plain law, a bundle. -/
import Derived.Lib.QuietBelow
import Derived.Lib.Hide
import Derived.Test.YtlfkkaofgcongaaGreatDoorC7
import Derived.Test.YtlfkkaofgcongaaGreatDoorBH
import Derived.Test.YtlfkkaofgcongaaGreatDoorBC1
set_option linter.unusedVariables false
set_option maxRecDepth 100000
set_option maxHeartbeats 16000000
open Go.Lib (hid)
namespace Go.Proofs.YtlfkkaofgcongaaGreatDoor
namespace prp
open Go.RowKit Go.Sort base tok
set_option linter.unusedSimpArgs false
theorem td64 (n : Int) : (0 <= n /\ n.tdiv 64 = n / 64 /\ n.tmod 64 = n % 64) ∨ (n < 0 /\ n.tdiv 64 = -((-n) / 64) /\ n.tmod 64 = -((-n) % 64)) := by
 by_cases h : 0 <= n
 ·exact .inl ⟨h, Int.tdiv_eq_ediv_of_nonneg h, Int.tmod_eq_emod_of_nonneg h⟩
 ·refine .inr ⟨by omega, ?_, ?_⟩
  ·have e := Int.neg_tdiv (-n) 64
   rw [Int.neg_neg] at e
   rw [e, Int.tdiv_eq_ediv_of_nonneg (by omega)]
  ·have e := Int.neg_tmod (-n) 64
   rw [Int.neg_neg] at e
   rw [e, Int.tmod_eq_emod_of_nonneg (by omega)]
def partZ (n : Int) : Int := if n.tmod 64 < 0 then n.tdiv 64 - 1 else n.tdiv 64
theorem part_ct (n : Int) (h1 : -100000000000 <= n) (h2 : n <= 100000000000) (w : World) : Calls Tryz.prog 30 #[.int .i64 n, .int .i64 64] w (rt w (.int .i64 (partZ n))) := by
 have d1 : -100000000000 <= n.tdiv 64 /\ n.tdiv 64 <= 100000000000 := by rcases td64 n with ⟨a, b, c⟩ | ⟨a, b, c⟩ <;> rw [b] <;> omega
 have d2 : -64 <= n.tmod 64 /\ n.tmod 64 <= 64 := by rcases td64 n with ⟨a, b, c⟩ | ⟨a, b, c⟩ <;> rw [c] <;> omega
 have q1 : IntKind.i64.wrap (n.tdiv 64) = n.tdiv 64 := IntWalk.i64_in _ (by omega)
 have q2 : IntKind.i64.wrap (n.tmod 64) = n.tmod 64 := IntWalk.i64_in _ (by omega)
 have q3 : IntKind.i64.wrap (n.tdiv 64 - 1) = n.tdiv 64 - 1 := IntWalk.i64_in _ (by omega)
 unfold partZ
 by_cases hc : n.tmod 64 < 0
 ·rw [if_pos hc]
  go_enter Tryz.func30, Tryz.ntmps30
  go_wp2_with fail
  go_ret
  exact ⟨rfl, Below.refl _ _⟩
 ·rw [if_neg hc]
  go_enter Tryz.func30, Tryz.ntmps30
  go_wp2_with fail
  go_ret
  exact ⟨rfl, Below.refl _ _⟩
theorem row11 : rowV (rowP 11) = .agg #[.string (bs [109, 97, 114, 103, 105, 110, 45, 116, 111, 112]), .string (bs [108, 112, 97]), .string (bs []), .string (bs [97, 117, 116, 111]), .bool false] := rfl
theorem fits_11 (n : Int) (h1 : -16777216 <= n) (h2 : n <= 16777216) (w : World) : Calls Tryz.prog 15 #[.int .i64 11, .agg #[.int .i64 2, .int .i64 n]] w (rt w (.bool true)) := by
 have hfd := field_row1
 have cA : ∀ w, Calls Tryz.prog 25 #[.int .i64 11] w (rt w (.agg #[.string (bs [109, 97, 114, 103, 105, 110, 45, 116, 111, 112]), .string (bs [108, 112, 97]), .string (bs []), .string (bs [97, 117, 116, 111]), .bool false])) := fun w => by
  have h := at_ct 11 (by decide) w
  rw [row11] at h
  exact h
 have cI : ∀ w, Calls Tryz.prog 26 #[.int .i64 11] w (rt w (.bool true)) := fun w => in_yes 11 (by decide) w
 have cL : ∀ w, Calls Tryz.prog 39 #[.int .i64 2] w (rt w (.string (bs [108]))) := fun w => letter_ct 2 (by decide) (by decide) w
 have cC : ∀ w, Calls Tryz.prog 33 #[.string (bs [108, 112, 97]), .string (bs [108])] w (rt w (.bool true)) := fun w =>
  (Tryz.strings_Contains_one (bs [108, 112, 97]) 108 w).mono fun e w' ⟨h1, h2⟩ => ⟨by rw [h1]; rfl, by rw [h2]; exact Below.refl _ _⟩
 obtain ⟨W1, hW1⟩ : ∃ W1, w.alloc (.cells #[.int .i64 2, .int .i64 n] 38) = W1 := ⟨_, rfl⟩
 have Q1 := hid (show Blk W1 w.heap.size 38 #[.int .i64 2, .int .i64 n] by rw [<- hW1]; exact Blk.new rfl)
 have HB1 := hid (show Below w.heap.size w W1 by rw [<- hW1]; exact ba _ _)
 have hz1 := HB1.out.size
 have k0 := cell_regrown (show W1.cell? ⟨w.heap.size, 0, none⟩ = some (.int .i64 2) from Q1.out.cell 0)
 have k1 := cell_regrown (show W1.cell? ⟨w.heap.size, 1, none⟩ = some (.int .i64 n) from Q1.out.cell 1)
 have qA : ∀ d os, Calls Tryz.prog 25 #[.int .i64 11] (grow (redrawn W1 d) os) fun e w'' => e = .returned (.agg #[.string (bs [109, 97, 114, 103, 105, 110, 45, 116, 111, 112]), .string (bs [108, 112, 97]), .string (bs []), .string (bs [97, 117, 116, 111]), .bool false]) /\ ∃ p : Regrown, w'' = grow (redrawn W1 p.d) p.os := fun d os => Calls.regrown_of (cA _)
 have qI : ∀ d os, Calls Tryz.prog 26 #[.int .i64 11] (grow (redrawn W1 d) os) fun e w'' => e = .returned (.bool true) /\ ∃ p : Regrown, w'' = grow (redrawn W1 p.d) p.os := fun d os => Calls.regrown_of (cI _)
 have qL : ∀ d os, Calls Tryz.prog 39 #[.int .i64 2] (grow (redrawn W1 d) os) fun e w'' => e = .returned (.string (bs [108])) /\ ∃ p : Regrown, w'' = grow (redrawn W1 p.d) p.os := fun d os => Calls.regrown_of (cL _)
 have qC : ∀ d os, Calls Tryz.prog 33 #[.string (bs [108, 112, 97]), .string (bs [108])] (grow (redrawn W1 d) os) fun e w'' => e = .returned (.bool true) /\ ∃ p : Regrown, w'' = grow (redrawn W1 p.d) p.os := fun d os => Calls.regrown_of (cC _)
 replace cA := hid cA
 go_enter Tryz.func15, Tryz.ntmps15
 go_wp2_with fail
 refine wp_region_quiet_below (by kernel_rfl) (by kernel_rfl) ?_
 repeat (quiet_step (first | exact qI _ _ | exact qA _ _ | exact qL _ _ | exact qC _ _))
 refine wpQuiet_nil ?_
 intro _ hw'
 obtain ⟨⟨dq, osq⟩, hw''⟩ := hw'
 subst hw''
 have hb2 := below_regrown W1 dq osq
 have hq2 := Q1.out.below hb2 Q1.out.lt
 have Q2 := hid hq2
 have HB2 := hid (tb HB1 hb2)
 have q2c := hq2.cell
 clear hb2 hq2 k0 k1 qA qI qL qC
 generalize grow (redrawn W1 dq) osq = W2 at *
 go_wp2_with (first
  | (go_at_call 25; (with_reducible refine (cA.out _).mono ?_); rintro e W3 ⟨rfl, hb⟩; have Q3 := hid (Q2.out.below hb Q2.out.lt); have HB3 := hid (tb HB2 hb); have Q4 := hid (Q3.out.alloc (.cells #[.string (bs [109, 97, 114, 103, 105, 110, 45, 116, 111, 112]), .string (bs [108, 112, 97]), .string (bs []), .string (bs [97, 117, 116, 111]), .bool false] 66)); have q4c := Q4.out.cell; have l3 := Q3.out.lt; have HB4 := hid (HB3.out.alloc HB3.out.size (.cells #[.string (bs [109, 97, 114, 103, 105, 110, 45, 116, 111, 112]), .string (bs [108, 112, 97]), .string (bs []), .string (bs [97, 117, 116, 111]), .bool false] 66)); clear hb))
 exact bodyPost_ret (v := .bool true) (by simp [results, Tryz.results15, go_sem]) rfl ⟨rfl, HB4.out⟩
end prp
namespace prp
open Go.RowKit base tok dim tc
set_option linter.unusedSimpArgs false
def pxT (x : Int) : Bs := (if x < 0 then [45] else []) ++ (plainP x.natAbs ++ [112, 120])
theorem px_cut (x : Int) (h : x.natAbs <= 1000000000) : cutP (pxT x) = [⟨7, pxT x, [112, 120], x⟩] := by
 by_cases hx : x < 0
 ·have hc := text_cut [45] [112, 120] x.natAbs h true (by decide) (.inr ⟨rfl, rfl⟩)
  unfold pxT
  rw [if_pos hx, hc, if_pos rfl, show -(x.natAbs : Int) = x by omega]
 ·have hc := text_cut [] [112, 120] x.natAbs h false (by decide) (.inl ⟨rfl, rfl⟩)
  unfold pxT
  rw [if_neg hx, hc, if_neg (by decide), show (x.natAbs : Int) = x by omega]
theorem px_head (x : Int) (h : x.natAbs <= 1000000000) : ∃ c r, pxT x = c :: r /\ blankB c = false := by
 have hc := px_cut x h
 cases hp : pxT x with
 | nil => rw [hp, cutP_nil] at hc; cases hc
 | cons c r =>
  refine ⟨c, r, rfl, ?_⟩
  cases hb : blankB c
  ·rfl
  ·exfalso
   rw [hp, cutP_cons (by simp)] at hc
   have h1 := congrArg (fun t : Tk => t.k) (List.cons.inj hc).1
   have hs : 0 < spaceP (c :: r) := by
    unfold spaceP
    rw [List.takeWhile_cons_of_pos hb]
    simp
   rw [firstP, if_pos hs] at h1
   simp at h1
def lineT (l : List Int) : Bs := l.flatMap fun x => pxT x ++ [32]
def lineK (l : List Int) : List Tk := l.flatMap fun x => [⟨7, pxT x, [112, 120], x⟩, ⟨8, [32], [], 0⟩]
theorem cut_32 : cutP [32] = [⟨8, [32], [], 0⟩] := by
 have hf : firstP [32] = ⟨8, [32], [], 0⟩ := by rfl
 rw [cutP_cons (by simp), hf]
 show _ :: cutP [] = _
 rw [cutP_nil]
theorem cut_line : ∀ l : List Int, (∀ x ∈ l, x.natAbs <= 1000000000) -> cutP (lineT l) = lineK l
 | [], _ => cutP_nil
 | x :: l, h => by
  have ih := cut_line l (fun y hy => h y (by simp [hy]))
  have hx := px_cut x (h x (by simp))
  have e1 : lineT (x :: l) = pxT x ++ (32 :: lineT l) := by simp [lineT]
  have e2 : lineK (x :: l) = ⟨7, pxT x, [112, 120], x⟩ :: ⟨8, [32], [], 0⟩ :: lineK l := by simp [lineK]
  rw [e1, e2, one_app hx ⟨by simp, by simp, by simp⟩ (Stops.cons (by decide)), <- ih]
  congr 1
  cases l with
  | nil => exact cut_32.trans (by rw [show lineT [] = [] from rfl, cutP_nil])
  | cons y l =>
   obtain ⟨c, r, hr, hb⟩ := px_head y (h y (by simp))
   exact cut_sp (show lineT (y :: l) = c :: (r ++ (32 :: lineT l)) by simp [lineT, hr]) hb
theorem fold_line : ∀ (l : List Int) (out : List Bs), (lineK l).foldl stepP ⟨out, 0, false⟩ = ⟨out ++ l.map pxT, 0, false⟩
 | [], out => by simp [lineK]
 | x :: l, out => by
  have e2 : lineK (x :: l) = ⟨7, pxT x, [112, 120], x⟩ :: ⟨8, [32], [], 0⟩ :: lineK l := by simp [lineK]
  rw [e2, List.foldl_cons, List.foldl_cons]
  have s1 : stepP ⟨out, 0, false⟩ ⟨7, pxT x, [112, 120], x⟩ = ⟨out ++ [pxT x], 0, true⟩ := by simp [stepP, gapK, deepK]
  have s2 : stepP ⟨out ++ [pxT x], 0, true⟩ ⟨8, [32], [], 0⟩ = ⟨out ++ [pxT x], 0, false⟩ := by simp [stepP, gapK]
  rw [s1, s2, fold_line l]
  simp
theorem parts_line (l : List Int) (h : ∀ x ∈ l, x.natAbs <= 1000000000) : partsP (lineT l) = l.map pxT := by
 unfold partsP partsF
 rw [cut_line l h, fold_line]
 rfl
theorem line_ones (l : List Int) : lineT ([1000, 1000, 1000, 1000] ++ l) = [49, 112, 120, 32, 49, 112, 120, 32, 49, 112, 120, 32, 49, 112, 120, 32] ++ lineT l := by
 have h : pxT 1000 = [49, 112, 120] := by kernel_rfl
 simp [lineT, h]
end prp
namespace prp
open Go.RowKit Go.Sort base tok dim
set_option linter.unusedSimpArgs false
def toldZ (n : Int) : Int := -partZ (-n * 1000)
theorem told_small (n : Int) (h1 : -16000 <= n) (h2 : n <= 16000) : (toldZ n).natAbs <= 1000000 := by
 unfold toldZ partZ
 rcases td64 (-n * 1000) with ⟨a, b, c⟩ | ⟨a, b, c⟩ <;> rw [b, c] <;> split <;> omega
theorem px_text (x : Int) (h : x.natAbs <= 1000000000) (w : World) (hT : PowAt w) : Calls Tryz.prog 29 #[.agg #[.int .i64 x, .string ⟨#[112, 120]⟩]] w (rt w (.string (bs (pxT x)))) := by
 unfold pxT
 by_cases hn : x < 0
 ·rw [if_pos hn]
  have h := text_minus x.natAbs (by omega) (by omega) [112, 120] (by decide) w hT
  rwa [show -(x.natAbs : Int) = x by omega] at h
 ·rw [if_neg hn, List.nil_append]
  have h := text_plain x.natAbs (by omega) [112, 120] (by decide) w hT
  rwa [show (x.natAbs : Int) = x by omega] at h
theorem text_11 (n : Int) (h1 : -16000 <= n) (h2 : n <= 16000) (w : World) (hT : PowAt w) : Calls Tryz.prog 10 #[.int .i64 11, .agg #[.int .i64 2, .int .i64 n]] w (rt w (.tuple #[.string (bs (pxT (toldZ n))), .int .i64 0])) := by
 have cI0 : ∀ w, Calls Tryz.prog 26 #[.int .i64 11] w (rt w (.bool true)) := fun w => in_yes 11 (by decide) w
 have cI := hid cI0
 clear cI0
 have cF := hid (fun w => fits_11 n (by omega) (by omega) w)
 have q1 : IntKind.i64.wrap (-n) = -n := IntWalk.i64_in _ (by omega)
 have q2 : IntKind.i64.wrap (-n * 1000) = -n * 1000 := IntWalk.i64_in _ (by omega)
 have hs := told_small n h1 h2
 have cP := hid (fun w => part_ct (-n * 1000) (by omega) (by omega) w)
 have cD := hid (fun w hT => px_text (toldZ n) (by omega) w hT)
 have hd : toldZ n = -partZ (-n * 1000) := rfl
 generalize toldZ n = x at *
 generalize partZ (-n * 1000) = y at *
 have q3 : IntKind.i64.wrap (-y) = x := by rw [<- hd]; exact IntWalk.i64_in _ (by omega)
 have q4 : -y = x := hd.symm
 have HT := hid hT
 have Q0 := hid (show Blk (w.alloc (.cells #[.int .i64 2, .int .i64 n] 38)) w.heap.size 38 #[.int .i64 2, .int .i64 n] from Blk.new rfl)
 have HB0 := hid (ba w (.cells #[.int .i64 2, .int .i64 n] 38))
 clear hd hT
 go_enter Tryz.func10, Tryz.ntmps10
 go_wp2_with (first
  | (go_at_call 26; (with_reducible refine (cI.out _).mono ?_); rintro e W1 ⟨rfl, hb⟩; have Q1 := hid (Q0.out.below hb Q0.out.lt); have q1c := Q1.out.cell; have HB1 := hid (tb HB0 hb); clear hb)
  | (go_at_call 15; (with_reducible refine (cF.out _).mono ?_); rintro e W2 ⟨rfl, hb⟩; have Q2 := hid (Q1.out.below hb Q1.out.lt); have q2c := Q2.out.cell; have HB2 := hid (tb HB1 hb); clear hb)
  | (go_at_call 30; (with_reducible refine (cP.out _).mono ?_); rintro e W3 ⟨rfl, hb⟩; have HB3 := hid (tb HB2 hb); clear hb)
  | (go_at_call 29; (with_reducible refine (cD.out _ (HT.out.on HB3.out)).mono ?_); rintro e W4 ⟨rfl, hb⟩; have HB4 := hid (tb HB3 hb); clear hb))
 exact bodyPost_ret (v := .tuple #[.string (bs (pxT x)), .int .i64 0]) (by simp [results, Tryz.results10, go_sem]) rfl ⟨rfl, HB4.out⟩
end prp
end Go.Proofs.YtlfkkaofgcongaaGreatDoor
