/- Contracts and plain law, a bundle. -/
import Derived.Lib.QuietBelow
import Derived.Lib.Hide
import Derived.Test.YtlfkkaofgcongaaGreatDoorCC1
import Derived.Test.YtlfkkaofgcongaaGreatDoorD2
import Derived.Test.YtlfkkaofgcongaaGreatDoorE0
import Derived.Test.YtlfkkaofgcongaaGreatDoorBH
set_option linter.unusedVariables false
set_option maxRecDepth 100000
set_option maxHeartbeats 16000000
open Go.Lib (hid)
namespace Go.Proofs.YtlfkkaofgcongaaGreatDoor
namespace prp
open Go.RowKit Go.Sort base tok dim
set_option linter.unusedSimpArgs false
theorem num_told {n : Int} {u : Bs} (h0 : -1000000000 <= n) (h1 : n <= 1000000000) (hu : u ∈ unitsL) (w : World) (hT : PowAt w) : Calls Tryz.prog 29 #[.agg #[.int .i64 n, .string (bs u)]] w fun e w' => e = .returned (.string (bs (clb.numT n u))) /\ RowKit.Below w.heap.size w w' := by
 have h3 : u.length <= 3 := by
  have : ∀ u ∈ unitsL, u.length <= 3 := by decide
  exact this u hu
 unfold clb.numT
 by_cases hn : n < 0
 ·rw [if_pos hn]
  have h := text_minus n.natAbs (by omega) (by omega) u h3 w hT
  rwa [show -(n.natAbs : Int) = n by omega] at h
 ·rw [if_neg hn, List.nil_append]
  have h := text_plain n.natAbs (by omega) u h3 w hT
  rwa [show (n.natAbs : Int) = n by omega] at h
def numO (k n : Int) : Int := if k = 2 then -((-n * 1000) / 64) else if k = 3 then 10 * n else n
def unitO (k : Int) : Bs := if k = 2 then [112, 120] else if k = 3 then [37] else []
def textV (p : Nat) (k n : Int) : ByteArray :=
 if k = 1 then keyV (rowP p).keys n else if k = 6 then bs (rowP p).auto else if k = 5 then bs (col.textS (col.c32 n).toNat) else bs (clb.numT (numO k n) (unitO k))
theorem numO_bd {k n : Int} (h : -16777216 <= n /\ n <= 16777216) : -1000000000 <= numO k n /\ numO k n <= 1000000000 := by
 unfold numO
 split
 ·omega
 ·split <;> omega
theorem text_k6 (p : Nat) (hp : p < 59) (n : Int) (hn : -9223372036854775808 <= n /\ n <= 9223372036854775807) (hf : fitsP p 6 n = true) (w : World) (hm : MaxL w) : Calls Tryz.prog 10 #[.int .i64 p, .agg #[.int .i64 6, .int .i64 n]] w fun e w' => e = .returned (.tuple #[.string (bs (rowP p).auto), .int .i64 0]) /\ RowKit.Below w.heap.size w w' := by
 have hbd := fits_bd hp hf
 have cI := hid (fun w => in_yes p hp w)
 have cF0 : ∀ w, MaxL w -> Calls Tryz.prog 15 #[.int .i64 p, .agg #[.int .i64 6, .int .i64 n]] w fun e w' => e = .returned (.bool true) /\ RowKit.Below w.heap.size w w' := fun w hm => by
  have h := fits_ct p hp 6 n hn w hm
  rw [hf] at h
  exact h
 have cF := hid cF0
 have HM := hid hm
 have Q0 := hid (show Blk (w.alloc (.cells #[.int .i64 6, .int .i64 n] 38)) w.heap.size 38 #[.int .i64 6, .int .i64 n] from Blk.new rfl)
 have HB0 := hid ((RowKit.Below.refl w.heap.size w).alloc (Nat.le_refl _) (.cells #[.int .i64 6, .int .i64 n] 38))
 clear cF0 hm hf
 have hfd := field_row3
 have cA0 := at_ct p hp
 unfold rowV at cA0
 have cA := hid cA0
 clear cA0 hbd
 go_enter Tryz.func10, Tryz.ntmps10
 go_wp2_with (first
  | (go_at_call 26; (with_reducible refine (cI.out _).mono ?_); rintro e W1 ⟨rfl, hb⟩; have Q1 := hid (Q0.out.below hb Q0.out.lt); have q1c := Q1.out.cell; have HB1 := hid (tb HB0 hb); clear hb)
  | (go_at_call 15; (with_reducible refine (cF.out _ (HM.out.on HB1.out HM.out.lt)).mono ?_); rintro e W2 ⟨rfl, hb⟩; have Q2 := hid (Q1.out.below hb Q1.out.lt); have q2c := Q2.out.cell; have HB2 := hid (tb HB1 hb); clear hb)
  | (go_at_call 25; (with_reducible refine (cA.out _).mono ?_); rintro e W3 ⟨rfl, hb⟩; have HB3 := hid (tb HB2 hb); clear hb))
 exact bodyPost_ret (v := .tuple #[.string (bs (rowP p).auto), .int .i64 0]) (by simp [results, Tryz.results10, go_sem]) rfl ⟨rfl, HB3.out⟩
theorem text_k5 (p : Nat) (hp : p < 59) (n : Int) (hn : -9223372036854775808 <= n /\ n <= 9223372036854775807) (hf : fitsP p 5 n = true) (w : World) (hm : MaxL w) (hR : col.BruAt w) : Calls Tryz.prog 10 #[.int .i64 p, .agg #[.int .i64 5, .int .i64 n]] w fun e w' => e = .returned (.tuple #[.string (bs (col.textS (col.c32 n).toNat)), .int .i64 0]) /\ RowKit.Below w.heap.size w w' := by
 have hbd := fits_bd hp hf
 have cI := hid (fun w => in_yes p hp w)
 have cF0 : ∀ w, MaxL w -> Calls Tryz.prog 15 #[.int .i64 p, .agg #[.int .i64 5, .int .i64 n]] w fun e w' => e = .returned (.bool true) /\ RowKit.Below w.heap.size w w' := fun w hm => by
  have h := fits_ct p hp 5 n hn w hm
  rw [hf] at h
  exact h
 have cF := hid cF0
 have HM := hid hm
 have Q0 := hid (show Blk (w.alloc (.cells #[.int .i64 5, .int .i64 n] 38)) w.heap.size 38 #[.int .i64 5, .int .i64 n] from Blk.new rfl)
 have HB0 := hid ((RowKit.Below.refl w.heap.size w).alloc (Nat.le_refl _) (.cells #[.int .i64 5, .int .i64 n] 38))
 clear cF0 hm hf
 have cC := hid (fun w h => col.text_ct n w h)
 have HR := hid hR
 generalize col.textS (col.c32 n).toNat = T at *
 clear hbd hR
 go_enter Tryz.func10, Tryz.ntmps10
 go_wp2_with (first
  | (go_at_call 26; (with_reducible refine (cI.out _).mono ?_); rintro e W1 ⟨rfl, hb⟩; have Q1 := hid (Q0.out.below hb Q0.out.lt); have q1c := Q1.out.cell; have HB1 := hid (tb HB0 hb); clear hb)
  | (go_at_call 15; (with_reducible refine (cF.out _ (HM.out.on HB1.out HM.out.lt)).mono ?_); rintro e W2 ⟨rfl, hb⟩; have Q2 := hid (Q1.out.below hb Q1.out.lt); have q2c := Q2.out.cell; have HB2 := hid (tb HB1 hb); clear hb)
  | (go_at_call 28; (with_reducible refine (cC.out _ (HR.out.on HB2.out)).mono ?_); rintro e W3 ⟨rfl, hb⟩; have HB3 := hid (tb HB2 hb); clear hb))
 exact bodyPost_ret (v := .tuple #[.string (bs T), .int .i64 0]) (by simp [results, Tryz.results10, go_sem]) rfl ⟨rfl, HB3.out⟩
theorem text_k2 (p : Nat) (hp : p < 59) (n : Int) (hn : -9223372036854775808 <= n /\ n <= 9223372036854775807) (hf : fitsP p 2 n = true) (w : World) (hm : MaxL w) (hT : PowAt w) : Calls Tryz.prog 10 #[.int .i64 p, .agg #[.int .i64 2, .int .i64 n]] w fun e w' => e = .returned (.tuple #[.string (bs (clb.numT (numO 2 n) [112, 120])), .int .i64 0]) /\ RowKit.Below w.heap.size w w' := by
 have hbd := fits_bd hp hf
 have cI := hid (fun w => in_yes p hp w)
 have cF0 : ∀ w, MaxL w -> Calls Tryz.prog 15 #[.int .i64 p, .agg #[.int .i64 2, .int .i64 n]] w fun e w' => e = .returned (.bool true) /\ RowKit.Below w.heap.size w w' := fun w hm => by
  have h := fits_ct p hp 2 n hn w hm
  rw [hf] at h
  exact h
 have cF := hid cF0
 have HM := hid hm
 have Q0 := hid (show Blk (w.alloc (.cells #[.int .i64 2, .int .i64 n] 38)) w.heap.size 38 #[.int .i64 2, .int .i64 n] from Blk.new rfl)
 have HB0 := hid ((RowKit.Below.refl w.heap.size w).alloc (Nat.le_refl _) (.cells #[.int .i64 2, .int .i64 n] 38))
 clear cF0 hm hf
 have hb0 := hbd.2.2.1 (by omega)
 have hb1 := numO_bd (k := 2) hb0
 have cD0 : ∀ w, PowAt w -> Calls Tryz.prog 29 #[.agg #[.int .i64 (numO 2 n), .string ⟨#[112, 120]⟩]] w fun e w' => e = .returned (.string (bs (clb.numT (numO 2 n) [112, 120]))) /\ RowKit.Below w.heap.size w w' := fun w hT => num_told hb1.1 hb1.2 (by decide) w hT
 generalize bs (clb.numT (numO 2 n) [112, 120]) = T at *
 have hd : numO 2 n = -((-n * 1000) / 64) := rfl
 generalize numO 2 n = x at *
 have q1 : IntKind.i64.wrap (-n) = -n := IntWalk.i64_in _ (by omega)
 have q2 : IntKind.i64.wrap (-n * 1000) = -n * 1000 := IntWalk.i64_in _ (by omega)
 have cP0 := fun w => part_64 (-n * 1000) (by omega) (by omega) w
 generalize (-n * 1000) / 64 = y at *
 have q3 : IntKind.i64.wrap (-y) = x := by rw [<- hd]; exact IntWalk.i64_in _ (by omega)
 have q4 : -y = x := hd.symm
 have q5 : IntKind.i64.wrap x = x := IntWalk.i64_in _ (by omega)
 have cP := hid cP0
 clear hd cP0
 have cD := hid cD0
 have HT := hid hT
 clear hbd hb0 hb1 cD0 hT
 go_enter Tryz.func10, Tryz.ntmps10
 go_wp2_with (first
  | (go_at_call 26; (with_reducible refine (cI.out _).mono ?_); rintro e W1 ⟨rfl, hb⟩; have Q1 := hid (Q0.out.below hb Q0.out.lt); have q1c := Q1.out.cell; have HB1 := hid (tb HB0 hb); clear hb)
  | (go_at_call 15; (with_reducible refine (cF.out _ (HM.out.on HB1.out HM.out.lt)).mono ?_); rintro e W2 ⟨rfl, hb⟩; have Q2 := hid (Q1.out.below hb Q1.out.lt); have q2c := Q2.out.cell; have HB2 := hid (tb HB1 hb); clear hb)
  | (go_at_call 30; (with_reducible refine (cP.out _).mono ?_); rintro e W3 ⟨rfl, hb⟩; have HB3 := hid (tb HB2 hb); clear hb)
  | (go_at_call 29; (with_reducible refine (cD.out _ (HT.out.on HB3.out)).mono ?_); rintro e W4 ⟨rfl, hb⟩; have HB4 := hid (tb HB3 hb); clear hb))
 exact bodyPost_ret (v := .tuple #[.string (T), .int .i64 0]) (by simp [results, Tryz.results10, go_sem]) rfl ⟨rfl, HB4.out⟩
theorem text_k3 (p : Nat) (hp : p < 59) (n : Int) (hn : -9223372036854775808 <= n /\ n <= 9223372036854775807) (hf : fitsP p 3 n = true) (w : World) (hm : MaxL w) (hT : PowAt w) : Calls Tryz.prog 10 #[.int .i64 p, .agg #[.int .i64 3, .int .i64 n]] w fun e w' => e = .returned (.tuple #[.string (bs (clb.numT (numO 3 n) [37])), .int .i64 0]) /\ RowKit.Below w.heap.size w w' := by
 have hbd := fits_bd hp hf
 have cI := hid (fun w => in_yes p hp w)
 have cF0 : ∀ w, MaxL w -> Calls Tryz.prog 15 #[.int .i64 p, .agg #[.int .i64 3, .int .i64 n]] w fun e w' => e = .returned (.bool true) /\ RowKit.Below w.heap.size w w' := fun w hm => by
  have h := fits_ct p hp 3 n hn w hm
  rw [hf] at h
  exact h
 have cF := hid cF0
 have HM := hid hm
 have Q0 := hid (show Blk (w.alloc (.cells #[.int .i64 3, .int .i64 n] 38)) w.heap.size 38 #[.int .i64 3, .int .i64 n] from Blk.new rfl)
 have HB0 := hid ((RowKit.Below.refl w.heap.size w).alloc (Nat.le_refl _) (.cells #[.int .i64 3, .int .i64 n] 38))
 clear cF0 hm hf
 have hb0 := hbd.2.2.1 (by omega)
 have hb1 := numO_bd (k := 3) hb0
 have cD0 : ∀ w, PowAt w -> Calls Tryz.prog 29 #[.agg #[.int .i64 (numO 3 n), .string ⟨#[37]⟩]] w fun e w' => e = .returned (.string (bs (clb.numT (numO 3 n) [37]))) /\ RowKit.Below w.heap.size w w' := fun w hT => num_told hb1.1 hb1.2 (by decide) w hT
 generalize bs (clb.numT (numO 3 n) [37]) = T at *
 have hd : numO 3 n = 10 * n := rfl
 rw [hd] at cD0
 have q1 : IntKind.i64.wrap (10 * n) = 10 * n := IntWalk.i64_in _ (by omega)
 have cD := hid cD0
 have HT := hid hT
 clear hbd hb0 hb1 cD0 hT hd
 go_enter Tryz.func10, Tryz.ntmps10
 go_wp2_with (first
  | (go_at_call 26; (with_reducible refine (cI.out _).mono ?_); rintro e W1 ⟨rfl, hb⟩; have Q1 := hid (Q0.out.below hb Q0.out.lt); have q1c := Q1.out.cell; have HB1 := hid (tb HB0 hb); clear hb)
  | (go_at_call 15; (with_reducible refine (cF.out _ (HM.out.on HB1.out HM.out.lt)).mono ?_); rintro e W2 ⟨rfl, hb⟩; have Q2 := hid (Q1.out.below hb Q1.out.lt); have q2c := Q2.out.cell; have HB2 := hid (tb HB1 hb); clear hb)
  | (go_at_call 29; (with_reducible refine (cD.out _ (HT.out.on HB2.out)).mono ?_); rintro e W4 ⟨rfl, hb⟩; have HB4 := hid (tb HB2 hb); clear hb))
 exact bodyPost_ret (v := .tuple #[.string (T), .int .i64 0]) (by simp [results, Tryz.results10, go_sem]) rfl ⟨rfl, HB4.out⟩
theorem text_k4 (p : Nat) (hp : p < 59) (n : Int) (hn : -9223372036854775808 <= n /\ n <= 9223372036854775807) (hf : fitsP p 4 n = true) (w : World) (hm : MaxL w) (hT : PowAt w) : Calls Tryz.prog 10 #[.int .i64 p, .agg #[.int .i64 4, .int .i64 n]] w fun e w' => e = .returned (.tuple #[.string (bs (clb.numT (numO 4 n) [])), .int .i64 0]) /\ RowKit.Below w.heap.size w w' := by
 have hbd := fits_bd hp hf
 have cI := hid (fun w => in_yes p hp w)
 have cF0 : ∀ w, MaxL w -> Calls Tryz.prog 15 #[.int .i64 p, .agg #[.int .i64 4, .int .i64 n]] w fun e w' => e = .returned (.bool true) /\ RowKit.Below w.heap.size w w' := fun w hm => by
  have h := fits_ct p hp 4 n hn w hm
  rw [hf] at h
  exact h
 have cF := hid cF0
 have HM := hid hm
 have Q0 := hid (show Blk (w.alloc (.cells #[.int .i64 4, .int .i64 n] 38)) w.heap.size 38 #[.int .i64 4, .int .i64 n] from Blk.new rfl)
 have HB0 := hid ((RowKit.Below.refl w.heap.size w).alloc (Nat.le_refl _) (.cells #[.int .i64 4, .int .i64 n] 38))
 clear cF0 hm hf
 have hb0 := hbd.2.2.1 (by omega)
 have hb1 := numO_bd (k := 4) hb0
 have cD0 : ∀ w, PowAt w -> Calls Tryz.prog 29 #[.agg #[.int .i64 (numO 4 n), .string ⟨#[]⟩]] w fun e w' => e = .returned (.string (bs (clb.numT (numO 4 n) []))) /\ RowKit.Below w.heap.size w w' := fun w hT => num_told hb1.1 hb1.2 (by decide) w hT
 generalize bs (clb.numT (numO 4 n) []) = T at *
 have hd : numO 4 n = n := rfl
 rw [hd] at cD0
 have cD := hid cD0
 have HT := hid hT
 clear hbd hb0 hb1 cD0 hT hd
 go_enter Tryz.func10, Tryz.ntmps10
 go_wp2_with (first
  | (go_at_call 26; (with_reducible refine (cI.out _).mono ?_); rintro e W1 ⟨rfl, hb⟩; have Q1 := hid (Q0.out.below hb Q0.out.lt); have q1c := Q1.out.cell; have HB1 := hid (tb HB0 hb); clear hb)
  | (go_at_call 15; (with_reducible refine (cF.out _ (HM.out.on HB1.out HM.out.lt)).mono ?_); rintro e W2 ⟨rfl, hb⟩; have Q2 := hid (Q1.out.below hb Q1.out.lt); have q2c := Q2.out.cell; have HB2 := hid (tb HB1 hb); clear hb)
  | (go_at_call 29; (with_reducible refine (cD.out _ (HT.out.on HB2.out)).mono ?_); rintro e W4 ⟨rfl, hb⟩; have HB4 := hid (tb HB2 hb); clear hb))
 exact bodyPost_ret (v := .tuple #[.string (T), .int .i64 0]) (by simp [results, Tryz.results10, go_sem]) rfl ⟨rfl, HB4.out⟩
theorem text_k1 (p : Nat) (hp : p < 59) (n : Int) (hn : -9223372036854775808 <= n /\ n <= 9223372036854775807) (hf : fitsP p 1 n = true) (w : World) (hm : MaxL w) : Calls Tryz.prog 10 #[.int .i64 p, .agg #[.int .i64 1, .int .i64 n]] w fun e w' => e = .returned (.tuple #[.string (keyV (rowP p).keys n), .int .i64 0]) /\ RowKit.Below w.heap.size w w' := by
 have hbd := fits_bd hp hf
 have cI := hid (fun w => in_yes p hp w)
 have cF0 : ∀ w, MaxL w -> Calls Tryz.prog 15 #[.int .i64 p, .agg #[.int .i64 1, .int .i64 n]] w fun e w' => e = .returned (.bool true) /\ RowKit.Below w.heap.size w w' := fun w hm => by
  have h := fits_ct p hp 1 n hn w hm
  rw [hf] at h
  exact h
 have cF := hid cF0
 have HM := hid hm
 have Q0 := hid (show Blk (w.alloc (.cells #[.int .i64 1, .int .i64 n] 38)) w.heap.size 38 #[.int .i64 1, .int .i64 n] from Blk.new rfl)
 have HB0 := hid ((RowKit.Below.refl w.heap.size w).alloc (Nat.le_refl _) (.cells #[.int .i64 1, .int .i64 n] 38))
 clear cF0 hm hf
 have hkl : (rowP p).keys.length < 200 := keys_len ⟨p, hp⟩
 have cA0 := at_ct p hp
 unfold rowV at cA0
 have cK0 := fun w hm => key_ct (bs (rowP p).name) (bs (rowP p).kinds) (bs (rowP p).auto) (rowP p).keys (rowP p).above n (by omega) w hm
 generalize keyV (rowP p).keys n = T at *
 generalize rowP p = R at *
 obtain ⟨nm, kd, ks, au, ab⟩ := R
 dsimp only at cA0 cK0
 clear hbd hkl
 go_enter Tryz.func10, Tryz.ntmps10
 go_wp2_with (first
  | (go_at_call 26; (with_reducible refine (cI.out _).mono ?_); rintro e W1 ⟨rfl, hb⟩; have Q1 := hid (Q0.out.below hb Q0.out.lt); have q1c := Q1.out.cell; have HB1 := hid (tb HB0 hb); clear hb)
  | (go_at_call 15; (with_reducible refine (cF.out _ (HM.out.on HB1.out HM.out.lt)).mono ?_); rintro e W2 ⟨rfl, hb⟩; have Q2 := hid (Q1.out.below hb Q1.out.lt); have q2c := Q2.out.cell; have HB2 := hid (tb HB1 hb); clear hb))
 have k1 := cell_regrown (show W2.cell? ⟨w.heap.size, 1, none⟩ = some (.int .i64 n) from q2c 1)
 have qA : ∀ d os, Calls Tryz.prog 25 #[.int .i64 p] (grow (redrawn W2 d) os) fun e w'' => e = .returned (.agg #[.string (bs nm), .string (bs kd), .string (bs ks), .string (bs au), .bool ab]) /\ ∃ p : Regrown, w'' = grow (redrawn W2 p.d) p.os := fun d os => Calls.regrown_of (cA0 _)
 have qK : ∀ d os, Calls Tryz.prog 27 #[.agg #[.string (bs nm), .string (bs kd), .string (bs ks), .string (bs au), .bool ab], .int .i64 n] (grow (redrawn W2 d) os) fun e w'' => e = .returned (.string T) /\ ∃ p : Regrown, w'' = grow (redrawn W2 p.d) p.os := fun d os => Calls.regrown_of (cK0 _ ((HM.out.on HB2.out HM.out.lt).on (below_regrown W2 d os) (HM.out.on HB2.out HM.out.lt).lt))
 clear cA0 cK0 q1c q2c
 refine wp_region_quiet_below (by kernel_rfl) (by kernel_rfl) ?_
 repeat (quiet_step (first | exact qA _ _ | exact qK _ _))
 refine wpQuiet_nil ?_
 intro _ hw'
 obtain ⟨⟨dq, osq⟩, hw''⟩ := hw'
 subst hw''
 have hb2 := below_regrown W2 dq osq
 have HB3 := hid (tb HB2 hb2)
 clear hb2 k1 qA qK
 generalize grow (redrawn W2 dq) osq = W3 at *
 go_wp2_with fail
 exact bodyPost_ret (v := .tuple #[.string (T), .int .i64 0]) (by simp [results, Tryz.results10, go_sem]) rfl ⟨rfl, HB3.out⟩
theorem text_ok (p : Nat) (hp : p < 59) (k n : Int) (hn : -9223372036854775808 <= n /\ n <= 9223372036854775807) (hf : fitsP p k n = true) (w : World) (hm : MaxL w) (hT : PowAt w) (hR : col.BruAt w) : Calls Tryz.prog 10 #[.int .i64 p, .agg #[.int .i64 k, .int .i64 n]] w fun e w' => e = .returned (.tuple #[.string (textV p k n), .int .i64 0]) /\ RowKit.Below w.heap.size w w' := by
 rcases (fits_bd hp hf).1 with rfl | rfl | rfl | rfl | rfl | rfl
 ·exact text_k1 p hp n hn hf w hm
 ·exact text_k6 p hp n hn hf w hm
 ·exact text_k5 p hp n hn hf w hm hR
 ·exact text_k2 p hp n hn hf w hm hT
 ·exact text_k3 p hp n hn hf w hm hT
 ·exact text_k4 p hp n hn hf w hm hT
end prp
end Go.Proofs.YtlfkkaofgcongaaGreatDoor
