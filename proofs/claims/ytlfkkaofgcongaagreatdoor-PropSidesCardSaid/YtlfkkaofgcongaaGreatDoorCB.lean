/- Contracts and plain law, a bundle. -/
import Derived.Lib.Hide
import Derived.Test.YtlfkkaofgcongaaGreatDoorCA
set_option linter.unusedVariables false
set_option maxRecDepth 100000
set_option maxHeartbeats 16000000
open Go.Lib (hid)
namespace Go.Proofs.YtlfkkaofgcongaaGreatDoor
namespace prp
open Go.RowKit base tok dim
set_option linter.unusedSimpArgs false
theorem mod_small (a : Int) : -10000 < a.tmod 10000 /\ a.tmod 10000 < 10000 := by
 have h1 := Int.tmod_lt_of_pos a (show (0 : Int) < 10000 by decide)
 have h2 := Int.tmod_lt_of_pos (-a) (show (0 : Int) < 10000 by decide)
 rw [Int.neg_tmod] at h2
 omega
theorem drew_more {w wr : World} {m : Nat} (h : wr = w.drewN m) (n : Nat) : ∃ m, wr.drewN n = w.drewN m := by
 subst h
 exact ⟨_, by rw [World.drewN_drewN]⟩
theorem sides_0 (n a b c d : Int) (hr : (IntKind.u64.wrap n).tmod 4 = 0) (w : World) (hM : MaxL w) (hT : PowAt w) :
  Calls Tryz.prog 4 #[.int .i64 n, .int .i64 a, .int .i64 b, .int .i64 c, .int .i64 d] w (rt w (.bool true)) := by
 obtain ⟨i0, hi, hz0, hz1, hz2⟩ := info_parts infoS
 have Hz0 := hid hz0
 have Hi := hid hi
 have Hz1 := hid hz1
 have Hz2 := hid hz2
 have HM := hid hM
 have HT := hid hT
 clear hz0 hi hz1 hz2 hM hT
 have cS := hid (shaped_ct w)
 have q1 : IntKind.u64.wrap ((IntKind.u64.wrap n).tmod 4) = 0 := by rw [hr]; rfl
 have wa : -10000 < a.tmod 10000 /\ a.tmod 10000 < 10000 := mod_small a
 have va : IntKind.i64.wrap (a.tmod 10000) = a.tmod 10000 := IntWalk.i64_in _ (by omega)
 have ca := hid (fun w hT => text_11 (a.tmod 10000) (by omega) (by omega) w hT)
 have sa := told_small (a.tmod 10000) (by omega) (by omega)
 generalize ha' : a.tmod 10000 = a' at *
 have hall : ∀ x ∈ ([toldZ a'] : List Int), x.natAbs <= 1000000000 := by simp; omega
 go_enter Tryz.func4, Tryz.ntmps4
 go_wp2_with (first
  | (go_at_call 7; (with_reducible refine (cS.out).mono ?_); rintro e W1 ⟨rfl, hb⟩; have HB1 := hid (hb.alloc hb.size (.cells #[.int .i64 a, .int .i64 b, .int .i64 c, .int .i64 d] 3)); have hz1 := hb.size; have QA := hid (show Blk (W1.alloc (.cells #[.int .i64 a, .int .i64 b, .int .i64 c, .int .i64 d] 3)) W1.heap.size 3 #[.int .i64 a, .int .i64 b, .int .i64 c, .int .i64 d] from Blk.new rfl); clear hb))
 obtain ⟨W0, hW0⟩ : ∃ W0, W1.alloc (.cells #[.int .i64 a, .int .i64 b, .int .i64 c, .int .i64 d] 3) = W0 := ⟨_, rfl⟩
 rw [hW0] at HB1 QA ⊢
 have hz0 : W0.heap.size = W1.heap.size + 1 := by rw [<- hW0]; simp
 replace hz0 := hid hz0
 go_loopw [12, 15, 16] (fun v s i wr => ∃ k : Nat, k <= 1 /\ i = .int .i64 k /\ s = .string (bs (lineT (([toldZ a'] : List Int).take k))) /\ wr.ownsRow W0.heap.size 9 1 v k (((([toldZ a'] : List Int).take k).map pxT).map strv) /\ Below W0.heap.size W0 wr) (fun _ _ i _ => 1 - (intOf i).toNat)
 case atStart => exact ⟨0, by omega, rfl, rfl, World.ownsRow_nil _ _ _ _, Below.refl _ _⟩
 case round =>
  obtain ⟨k, hk, rfl, rfl, hown, hb⟩ := hrel
  have hbz := hb.size
  have HOwn := hid hown
  have HB := hid hb
  have QR := hid (QA.out.below hb QA.out.lt)
  have qc := QR.out.cell
  have HTw := hid (HT.out.on (tb HB1 hb))
  clear hown hb
  have hk' : k = 0 ∨ k = 1 := by omega
  rcases hk' with rfl | rfl
  ·have i1 : (0 : Int) < 1 := by decide
   have g1 := px_len (toldZ a') (by omega)
   have g2 : (lineT []).length <= 0 * 21 := line_len ([]) (fun y hy => hall y (by simp at hy ⊢ <;> omega))
   have g3 := bs_size (pxT (toldZ a'))
   have g4 := bs_size (lineT [])
   have st0 := line_step [] (toldZ a')
   have hS1 : bs (lineT (List.take 0 ([toldZ a'] : List Int))) = bs (lineT []) := rfl
   generalize bs (lineT (List.take 0 ([toldZ a'] : List Int))) = S0 at *
   rw [<- hS1] at g4 st0
   have a0 : S0.size <= 84 := by omega
   have a1 : ¬ 9223372036854775807 < S0.size + (bs (pxT (toldZ a'))).size := by omega
   have a2 : ¬ 9223372036854775807 < S0.size + (bs (pxT (toldZ a'))).size + 1 := by omega
   have st := hid st0
   clear st0 hS1
   replace HOwn := hid (show wr.ownsRow W0.heap.size 9 1 _ 0 ((([] : List Int).map pxT).map strv) from HOwn.out)
   go_wp2_with (first
    | (go_at_call 10; (with_reducible refine (ca.out _ HTw.out).mono ?_); rintro e W5 ⟨rfl, hb5⟩; have HB5 := hid (HB.out.trans (hb5.mono hbz)); have HO5 := hid (row_on HOwn.out hb5); clear hb5)
    | (at_builtin; refine wpList_append_own _ rfl _ _ 23 rfl W0.heap.size 9 i0 (.string .empty) 1 16 Tryz.underlying23 Hi.out Hz0.out Hz1.out Hz2.out rfl (by decide) _ 0 _ rfl (HO5.out.alloc _) ⟨W5.heap.size, 0, none⟩ 1 1 [strv (pxT (toldZ a'))] rfl rfl ?c1 ?c2 ?c3 ?c4 ?c5 ?_))
   case c1 => exact (Blk.new (w := W5) (t := 9) (cs := #[strv (pxT (toldZ a'))]) rfl).news
   case c2 => simp [Value.oneCell', strv]
   case c3 => unfold maxLen; omega
   case c4 => omega
   case c5 => have := HB5.out.size; first | omega | (simp; omega)
   intro v' W6 hown6 hgrow6 hnil6
   have HB6 := hid (below_app (HB5.out.alloc HB5.out.size _) hgrow6 (HO5.out.alloc _) (Nat.le_refl _) (by have := HB5.out.size; simp; omega))
   replace hown6 := hid hown6
   clear hgrow6 hnil6
   go_wp2_with fail
   go_roundw
   case rel => exact ⟨1, by omega, by go_num, by rw [st.out]; rfl, hown6.out, HB6.out⟩
   case measure => simp [intOf]
  ·have i1 : ¬ (1 : Int) < 1 := by decide
   replace HOwn := hid (show wr.ownsRow W0.heap.size 9 1 _ 1 ((([toldZ a'] : List Int).map pxT).map strv) from HOwn.out)
   have hll : (lineT [toldZ a']).length <= 1 * 21 := line_len _ hall
   have cW := hid (fun w hm => wide_1 (bs (lineT [toldZ a'])) (by rw [bs_size]; omega) (pxT (toldZ a')) (line_parts [toldZ a'] hall) (by have := px_len (toldZ a') (by omega); omega) (px_global _) w hm)
   have hS1 : bs (lineT (List.take 1 ([toldZ a'] : List Int))) = bs (lineT [toldZ a']) := rfl
   obtain ⟨gl, cl, he, hgl, hll2⟩ := row_at7 HOwn.out (by decide)
   subst he
   have lc0 : wr.cell? ⟨gl, 0, none⟩ = some (.string (bs (pxT (toldZ a')))) := (HOwn.out.cellAt 0 (by decide)).trans rfl
   clear cS
   go_wp2_with (first
    | (go_at_call 8; ((with_reducible refine (cW.out _ (HM.out.on (B := w.heap.size) (by have hr := HB1.out.trans (HB.out.mono HB1.out.size); have z := hr.size; exact ((((hr.alloc (by omega) _).alloc (by simp; omega) _).alloc (by simp; omega) _).alloc (by simp; omega) _).alloc (by simp; omega) _) HM.out.lt)).mono ?_); rintro e W7 ⟨⟨v7, rfl, ho7⟩, hb7⟩; obtain ⟨g7, c7, rfl, hg7, hl7⟩ := row_at7 ho7 (by decide); have HO7 := hid ho7; have HB7 := hid hb7; clear ho7 hb7 hg7 hl7)))
   clear cW
   have hA0 := Below.refl wr.heap.size wr
   have hA1 := hA0.alloc hA0.size (.cells #[.int .i64 0, .int .i64 0, .int .i64 0, .int .i64 0] 3)
   have hA2 := hA1.alloc hA1.size (.cells #[.int .i64 0, .int .i64 1, .int .i64 0, .int .i64 1] 3)
   have hA3 := hA2.alloc hA2.size (.cells #[.int .i64 0, .int .i64 1, .int .i64 2, .int .i64 1] 3)
   have hA4 := hA3.alloc hA3.size (.cells #[.int .i64 0, .int .i64 1, .int .i64 2, .int .i64 3] 3)
   have hA5 := hA4.alloc hA4.size (.cells #[.slice (some ⟨wr.heap.size, 0, none⟩) 4 4, .slice (some ⟨wr.heap.size + 1, 0, none⟩) 4 4, .slice (some ⟨wr.heap.size + 1 + 1, 0, none⟩) 4 4, .slice (some ⟨wr.heap.size + 1 + 1 + 1, 0, none⟩) 4 4] 33)
   have hA6 := (hA5.trans (HB7.out.mono hA5.size)).alloc (hA5.trans (HB7.out.mono hA5.size)).size (.cells #[.string ⟨#[109, 97, 114, 103, 105, 110, 45, 116, 111, 112]⟩, .string ⟨#[109, 97, 114, 103, 105, 110, 45, 114, 105, 103, 104, 116]⟩, .string ⟨#[109, 97, 114, 103, 105, 110, 45, 98, 111, 116, 116, 111, 109]⟩, .string ⟨#[109, 97, 114, 103, 105, 110, 45, 108, 101, 102, 116]⟩] 9)
   have bA : Blk (wr.alloc (.cells #[.int .i64 0, .int .i64 0, .int .i64 0, .int .i64 0] 3)) (wr.heap.size) 3 #[.int .i64 0, .int .i64 0, .int .i64 0, .int .i64 0] := Blk.new (by simp)
   have bB := ((((bA.alloc (.cells #[.int .i64 0, .int .i64 1, .int .i64 0, .int .i64 1] 3)).alloc (.cells #[.int .i64 0, .int .i64 1, .int .i64 2, .int .i64 1] 3)).alloc (.cells #[.int .i64 0, .int .i64 1, .int .i64 2, .int .i64 3] 3)).alloc (.cells #[.slice (some ⟨wr.heap.size, 0, none⟩) 4 4, .slice (some ⟨wr.heap.size + 1, 0, none⟩) 4 4, .slice (some ⟨wr.heap.size + 1 + 1, 0, none⟩) 4 4, .slice (some ⟨wr.heap.size + 1 + 1 + 1, 0, none⟩) 4 4] 33))
   have bC := (bB.below HB7.out bB.lt).alloc (.cells #[.string ⟨#[109, 97, 114, 103, 105, 110, 45, 116, 111, 112]⟩, .string ⟨#[109, 97, 114, 103, 105, 110, 45, 114, 105, 103, 104, 116]⟩, .string ⟨#[109, 97, 114, 103, 105, 110, 45, 98, 111, 116, 116, 111, 109]⟩, .string ⟨#[109, 97, 114, 103, 105, 110, 45, 108, 101, 102, 116]⟩] 9)
   have bW : Blk (W7.alloc (.cells #[.string ⟨#[109, 97, 114, 103, 105, 110, 45, 116, 111, 112]⟩, .string ⟨#[109, 97, 114, 103, 105, 110, 45, 114, 105, 103, 104, 116]⟩, .string ⟨#[109, 97, 114, 103, 105, 110, 45, 98, 111, 116, 116, 111, 109]⟩, .string ⟨#[109, 97, 114, 103, 105, 110, 45, 108, 101, 102, 116]⟩] 9)) W7.heap.size 9 #[.string ⟨#[109, 97, 114, 103, 105, 110, 45, 116, 111, 112]⟩, .string ⟨#[109, 97, 114, 103, 105, 110, 45, 114, 105, 103, 104, 116]⟩, .string ⟨#[109, 97, 114, 103, 105, 110, 45, 98, 111, 116, 116, 111, 109]⟩, .string ⟨#[109, 97, 114, 103, 105, 110, 45, 108, 101, 102, 116]⟩] := Blk.new rfl
   have rL := row_on HOwn.out hA6
   have rM := row_on HO7.out (ba W7 (.cells #[.string ⟨#[109, 97, 114, 103, 105, 110, 45, 116, 111, 112]⟩, .string ⟨#[109, 97, 114, 103, 105, 110, 45, 114, 105, 103, 104, 116]⟩, .string ⟨#[109, 97, 114, 103, 105, 110, 45, 98, 111, 116, 116, 111, 109]⟩, .string ⟨#[109, 97, 114, 103, 105, 110, 45, 108, 101, 102, 116]⟩] 9))
   have HBw := hid (show Below w.heap.size w (W7.alloc (.cells #[.string ⟨#[109, 97, 114, 103, 105, 110, 45, 116, 111, 112]⟩, .string ⟨#[109, 97, 114, 103, 105, 110, 45, 114, 105, 103, 104, 116]⟩, .string ⟨#[109, 97, 114, 103, 105, 110, 45, 98, 111, 116, 116, 111, 109]⟩, .string ⟨#[109, 97, 114, 103, 105, 110, 45, 108, 101, 102, 116]⟩] 9)) from by have hr := HB1.out.trans (HB.out.mono HB1.out.size); exact hr.trans (hA6.mono hr.size))
   obtain ⟨WL, hWL⟩ : ∃ WL, W7.alloc (.cells #[.string ⟨#[109, 97, 114, 103, 105, 110, 45, 116, 111, 112]⟩, .string ⟨#[109, 97, 114, 103, 105, 110, 45, 114, 105, 103, 104, 116]⟩, .string ⟨#[109, 97, 114, 103, 105, 110, 45, 98, 111, 116, 116, 111, 109]⟩, .string ⟨#[109, 97, 114, 103, 105, 110, 45, 108, 101, 102, 116]⟩] 9) = WL := ⟨_, rfl⟩
   rw [hWL] at bC bW rL rM HBw ⊢
   clear hA0 hA1 hA2 hA3 hA4 hA5 hA6 bA bB hWL HO7 HB7 HOwn lc0
   have w0 : WL.cell? ⟨W7.heap.size, 0, none⟩ = some (.string ⟨#[109, 97, 114, 103, 105, 110, 45, 116, 111, 112]⟩) := (bW.cell 0).trans rfl
   have w1 : WL.cell? ⟨W7.heap.size, 1, none⟩ = some (.string ⟨#[109, 97, 114, 103, 105, 110, 45, 114, 105, 103, 104, 116]⟩) := (bW.cell 1).trans rfl
   have w2 : WL.cell? ⟨W7.heap.size, 2, none⟩ = some (.string ⟨#[109, 97, 114, 103, 105, 110, 45, 98, 111, 116, 116, 111, 109]⟩) := (bW.cell 2).trans rfl
   have w3 : WL.cell? ⟨W7.heap.size, 3, none⟩ = some (.string ⟨#[109, 97, 114, 103, 105, 110, 45, 108, 101, 102, 116]⟩) := (bW.cell 3).trans rfl
   have t0 : WL.cell? ⟨wr.heap.size, 0, none⟩ = some (.int .i64 0) := (bC.cell 0).trans rfl
   have t1 : WL.cell? ⟨wr.heap.size, 1, none⟩ = some (.int .i64 0) := (bC.cell 1).trans rfl
   have t2 : WL.cell? ⟨wr.heap.size, 2, none⟩ = some (.int .i64 0) := (bC.cell 2).trans rfl
   have t3 : WL.cell? ⟨wr.heap.size, 3, none⟩ = some (.int .i64 0) := (bC.cell 3).trans rfl
   have l0 : WL.cell? ⟨gl, 0, none⟩ = some (.string (bs (pxT (toldZ a')))) := (rL.cellAt 0 (by decide)).trans rfl
   have n0 : WL.cell? ⟨g7, 0, none⟩ = some (.string ⟨#[109, 97, 114, 103, 105, 110, 45, 116, 111, 112]⟩) := (rM.cellAt 0 (by decide)).trans rfl
   have m0 : WL.cell? ⟨g7, 1, none⟩ = some (.string (bs (pxT (toldZ a')))) := (rM.cellAt 1 (by decide)).trans rfl
   have n1 : WL.cell? ⟨g7, 3, none⟩ = some (.string ⟨#[109, 97, 114, 103, 105, 110, 45, 114, 105, 103, 104, 116]⟩) := (rM.cellAt 3 (by decide)).trans rfl
   have m1 : WL.cell? ⟨g7, 4, none⟩ = some (.string (bs (pxT (toldZ a')))) := (rM.cellAt 4 (by decide)).trans rfl
   have n2 : WL.cell? ⟨g7, 6, none⟩ = some (.string ⟨#[109, 97, 114, 103, 105, 110, 45, 98, 111, 116, 116, 111, 109]⟩) := (rM.cellAt 6 (by decide)).trans rfl
   have m2 : WL.cell? ⟨g7, 7, none⟩ = some (.string (bs (pxT (toldZ a')))) := (rM.cellAt 7 (by decide)).trans rfl
   have n3 : WL.cell? ⟨g7, 9, none⟩ = some (.string ⟨#[109, 97, 114, 103, 105, 110, 45, 108, 101, 102, 116]⟩) := (rM.cellAt 9 (by decide)).trans rfl
   have m3 : WL.cell? ⟨g7, 10, none⟩ = some (.string (bs (pxT (toldZ a')))) := (rM.cellAt 10 (by decide)).trans rfl
   have hall5 : ∀ x ∈ ([1000, 1000, 1000, 1000, toldZ a'] : List Int), x.natAbs <= 1000000000 := by intro x hx; simp at hx; omega
   have hl5 : (lineT [1000, 1000, 1000, 1000, toldZ a']).length <= 5 * 21 := line_len _ hall5
   have cV := hid (fun w hm => wide_many (bs (lineT [1000, 1000, 1000, 1000, toldZ a'])) (by rw [bs_size]; omega) _ (line_parts _ hall5) (by simp) w hm)
   have h5 : (⟨#[49, 112, 120, 32, 49, 112, 120, 32, 49, 112, 120, 32, 49, 112, 120, 32]⟩ : ByteArray) ++ bs (lineT [toldZ a']) = bs (lineT [1000, 1000, 1000, 1000, toldZ a']) := line_five [toldZ a']
   have h6 : ¬ 9223372036854775807 < 16 + (bs (lineT [toldZ a'])).size := by rw [bs_size]; omega
   clear bC bW rL rM hl5 hall5 hll hall
   go_loopw [23] (fun i wq => ∃ k : Nat, k <= 4 /\ i = .int .i64 k /\ ∃ nn, wq = WL.drewN nn) (fun i _ => 4 - (intOf i).toNat)
   case atStart => exact ⟨0, by omega, rfl, 0, rfl⟩
   case round =>
    obtain ⟨k, hk, rfl, nn, hwq⟩ := hrel
    have hcq : ∀ p, wr.cell? p = WL.cell? p := fun p => by rw [hwq]; rfl
    rw [<- hcq] at w0 t0 n0 m0 w1 t1 n1 m1 w2 t2 n2 m2 w3 t3 n3 m3 l0
    replace HBw := hid (show Below w.heap.size w wr by rw [hwq]; exact base.below_drewN HBw.out nn)
    have Hwq := hid hwq
    clear hcq hwq
    have hk' : k = 0 ∨ k = 1 ∨ k = 2 ∨ k = 3 ∨ k = 4 := by omega
    rcases hk' with rfl | rfl | rfl | rfl | rfl
    ·have i2 : (0 : Int) < 4 := by decide
     go_wp2_with fail
     go_quiet (fail)
     go_wp2_with fail
     exact ⟨⟨1, by omega, rfl, drew_more Hwq.out _⟩, by decide⟩
    ·have i2 : (1 : Int) < 4 := by decide
     go_wp2_with fail
     go_quiet (fail)
     go_wp2_with fail
     exact ⟨⟨2, by omega, rfl, drew_more Hwq.out _⟩, by decide⟩
    ·have i2 : (2 : Int) < 4 := by decide
     go_wp2_with fail
     go_quiet (fail)
     go_wp2_with fail
     exact ⟨⟨3, by omega, rfl, drew_more Hwq.out _⟩, by decide⟩
    ·have i2 : (3 : Int) < 4 := by decide
     go_wp2_with fail
     go_quiet (fail)
     go_wp2_with fail
     exact ⟨⟨4, by omega, rfl, drew_more Hwq.out _⟩, by decide⟩
    ·have i2 : ¬ (4 : Int) < 4 := by decide
     go_wp2_with (first
      | (go_at_call 8; (with_reducible refine (cV.out _ (HM.out.on HBw.out HM.out.lt)).mono ?_); rintro e W9 ⟨rfl, hb9⟩; have HB9 := hid (tb HBw hb9); clear hb9))
     exact bodyPost_ret (v := .bool true) (by simp [results, Tryz.results4, go_sem]) rfl ⟨rfl, HB9.out⟩
theorem sides_1 (n a b c d : Int) (hr : (IntKind.u64.wrap n).tmod 4 = 1) (w : World) (hM : MaxL w) (hT : PowAt w) :
  Calls Tryz.prog 4 #[.int .i64 n, .int .i64 a, .int .i64 b, .int .i64 c, .int .i64 d] w (rt w (.bool true)) := by
 obtain ⟨i0, hi, hz0, hz1, hz2⟩ := info_parts infoS
 have Hz0 := hid hz0
 have Hi := hid hi
 have Hz1 := hid hz1
 have Hz2 := hid hz2
 have HM := hid hM
 have HT := hid hT
 clear hz0 hi hz1 hz2 hM hT
 have cS := hid (shaped_ct w)
 have q1 : IntKind.u64.wrap ((IntKind.u64.wrap n).tmod 4) = 1 := by rw [hr]; rfl
 have wa : -10000 < a.tmod 10000 /\ a.tmod 10000 < 10000 := mod_small a
 have va : IntKind.i64.wrap (a.tmod 10000) = a.tmod 10000 := IntWalk.i64_in _ (by omega)
 have ca := hid (fun w hT => text_11 (a.tmod 10000) (by omega) (by omega) w hT)
 have sa := told_small (a.tmod 10000) (by omega) (by omega)
 generalize ha' : a.tmod 10000 = a' at *
 have wb : -10000 < b.tmod 10000 /\ b.tmod 10000 < 10000 := mod_small b
 have vb : IntKind.i64.wrap (b.tmod 10000) = b.tmod 10000 := IntWalk.i64_in _ (by omega)
 have cb := hid (fun w hT => text_11 (b.tmod 10000) (by omega) (by omega) w hT)
 have sb := told_small (b.tmod 10000) (by omega) (by omega)
 generalize hb' : b.tmod 10000 = b' at *
 have hall : ∀ x ∈ ([toldZ a', toldZ b'] : List Int), x.natAbs <= 1000000000 := by simp; omega
 go_enter Tryz.func4, Tryz.ntmps4
 go_wp2_with (first
  | (go_at_call 7; (with_reducible refine (cS.out).mono ?_); rintro e W1 ⟨rfl, hb⟩; have HB1 := hid (hb.alloc hb.size (.cells #[.int .i64 a, .int .i64 b, .int .i64 c, .int .i64 d] 3)); have hz1 := hb.size; have QA := hid (show Blk (W1.alloc (.cells #[.int .i64 a, .int .i64 b, .int .i64 c, .int .i64 d] 3)) W1.heap.size 3 #[.int .i64 a, .int .i64 b, .int .i64 c, .int .i64 d] from Blk.new rfl); clear hb))
 obtain ⟨W0, hW0⟩ : ∃ W0, W1.alloc (.cells #[.int .i64 a, .int .i64 b, .int .i64 c, .int .i64 d] 3) = W0 := ⟨_, rfl⟩
 rw [hW0] at HB1 QA ⊢
 have hz0 : W0.heap.size = W1.heap.size + 1 := by rw [<- hW0]; simp
 replace hz0 := hid hz0
 go_loopw [12, 15, 16] (fun v s i wr => ∃ k : Nat, k <= 2 /\ i = .int .i64 k /\ s = .string (bs (lineT (([toldZ a', toldZ b'] : List Int).take k))) /\ wr.ownsRow W0.heap.size 9 1 v k (((([toldZ a', toldZ b'] : List Int).take k).map pxT).map strv) /\ Below W0.heap.size W0 wr) (fun _ _ i _ => 2 - (intOf i).toNat)
 case atStart => exact ⟨0, by omega, rfl, rfl, World.ownsRow_nil _ _ _ _, Below.refl _ _⟩
 case round =>
  obtain ⟨k, hk, rfl, rfl, hown, hb⟩ := hrel
  have hbz := hb.size
  have HOwn := hid hown
  have HB := hid hb
  have QR := hid (QA.out.below hb QA.out.lt)
  have qc := QR.out.cell
  have HTw := hid (HT.out.on (tb HB1 hb))
  clear hown hb
  have hk' : k = 0 ∨ k = 1 ∨ k = 2 := by omega
  rcases hk' with rfl | rfl | rfl
  ·have i1 : (0 : Int) < 2 := by decide
   have g1 := px_len (toldZ a') (by omega)
   have g2 : (lineT []).length <= 0 * 21 := line_len ([]) (fun y hy => hall y (by simp at hy ⊢ <;> omega))
   have g3 := bs_size (pxT (toldZ a'))
   have g4 := bs_size (lineT [])
   have st0 := line_step [] (toldZ a')
   have hS1 : bs (lineT (List.take 0 ([toldZ a', toldZ b'] : List Int))) = bs (lineT []) := rfl
   generalize bs (lineT (List.take 0 ([toldZ a', toldZ b'] : List Int))) = S0 at *
   rw [<- hS1] at g4 st0
   have a0 : S0.size <= 84 := by omega
   have a1 : ¬ 9223372036854775807 < S0.size + (bs (pxT (toldZ a'))).size := by omega
   have a2 : ¬ 9223372036854775807 < S0.size + (bs (pxT (toldZ a'))).size + 1 := by omega
   have st := hid st0
   clear st0 hS1
   replace HOwn := hid (show wr.ownsRow W0.heap.size 9 1 _ 0 ((([] : List Int).map pxT).map strv) from HOwn.out)
   go_wp2_with (first
    | (go_at_call 10; (with_reducible refine (ca.out _ HTw.out).mono ?_); rintro e W5 ⟨rfl, hb5⟩; have HB5 := hid (HB.out.trans (hb5.mono hbz)); have HO5 := hid (row_on HOwn.out hb5); clear hb5)
    | (at_builtin; refine wpList_append_own _ rfl _ _ 23 rfl W0.heap.size 9 i0 (.string .empty) 1 16 Tryz.underlying23 Hi.out Hz0.out Hz1.out Hz2.out rfl (by decide) _ 0 _ rfl (HO5.out.alloc _) ⟨W5.heap.size, 0, none⟩ 1 1 [strv (pxT (toldZ a'))] rfl rfl ?c1 ?c2 ?c3 ?c4 ?c5 ?_))
   case c1 => exact (Blk.new (w := W5) (t := 9) (cs := #[strv (pxT (toldZ a'))]) rfl).news
   case c2 => simp [Value.oneCell', strv]
   case c3 => unfold maxLen; omega
   case c4 => omega
   case c5 => have := HB5.out.size; first | omega | (simp; omega)
   intro v' W6 hown6 hgrow6 hnil6
   have HB6 := hid (below_app (HB5.out.alloc HB5.out.size _) hgrow6 (HO5.out.alloc _) (Nat.le_refl _) (by have := HB5.out.size; simp; omega))
   replace hown6 := hid hown6
   clear hgrow6 hnil6
   go_wp2_with fail
   go_roundw
   case rel => exact ⟨1, by omega, by go_num, by rw [st.out]; rfl, hown6.out, HB6.out⟩
   case measure => simp [intOf]
  ·have i1 : (1 : Int) < 2 := by decide
   have g1 := px_len (toldZ b') (by omega)
   have g2 : (lineT [toldZ a']).length <= 1 * 21 := line_len ([toldZ a']) (fun y hy => hall y (by simp at hy ⊢ <;> omega))
   have g3 := bs_size (pxT (toldZ b'))
   have g4 := bs_size (lineT [toldZ a'])
   have st0 := line_step [toldZ a'] (toldZ b')
   have hS1 : bs (lineT (List.take 1 ([toldZ a', toldZ b'] : List Int))) = bs (lineT [toldZ a']) := rfl
   generalize bs (lineT (List.take 1 ([toldZ a', toldZ b'] : List Int))) = S0 at *
   rw [<- hS1] at g4 st0
   have a0 : S0.size <= 84 := by omega
   have a1 : ¬ 9223372036854775807 < S0.size + (bs (pxT (toldZ b'))).size := by omega
   have a2 : ¬ 9223372036854775807 < S0.size + (bs (pxT (toldZ b'))).size + 1 := by omega
   have st := hid st0
   clear st0 hS1
   replace HOwn := hid (show wr.ownsRow W0.heap.size 9 1 _ 1 ((([toldZ a'] : List Int).map pxT).map strv) from HOwn.out)
   go_wp2_with (first
    | (go_at_call 10; (with_reducible refine (cb.out _ HTw.out).mono ?_); rintro e W5 ⟨rfl, hb5⟩; have HB5 := hid (HB.out.trans (hb5.mono hbz)); have HO5 := hid (row_on HOwn.out hb5); clear hb5)
    | (at_builtin; refine wpList_append_own _ rfl _ _ 23 rfl W0.heap.size 9 i0 (.string .empty) 1 16 Tryz.underlying23 Hi.out Hz0.out Hz1.out Hz2.out rfl (by decide) _ 1 _ rfl (HO5.out.alloc _) ⟨W5.heap.size, 0, none⟩ 1 1 [strv (pxT (toldZ b'))] rfl rfl ?c1 ?c2 ?c3 ?c4 ?c5 ?_))
   case c1 => exact (Blk.new (w := W5) (t := 9) (cs := #[strv (pxT (toldZ b'))]) rfl).news
   case c2 => simp [Value.oneCell', strv]
   case c3 => unfold maxLen; omega
   case c4 => omega
   case c5 => have := HB5.out.size; first | omega | (simp; omega)
   intro v' W6 hown6 hgrow6 hnil6
   have HB6 := hid (below_app (HB5.out.alloc HB5.out.size _) hgrow6 (HO5.out.alloc _) (Nat.le_refl _) (by have := HB5.out.size; simp; omega))
   replace hown6 := hid hown6
   clear hgrow6 hnil6
   go_wp2_with fail
   go_roundw
   case rel => exact ⟨2, by omega, by go_num, by rw [st.out]; rfl, hown6.out, HB6.out⟩
   case measure => simp [intOf]
  ·have i1 : ¬ (2 : Int) < 2 := by decide
   replace HOwn := hid (show wr.ownsRow W0.heap.size 9 1 _ 2 ((([toldZ a', toldZ b'] : List Int).map pxT).map strv) from HOwn.out)
   have hll : (lineT [toldZ a', toldZ b']).length <= 2 * 21 := line_len _ hall
   have cW := hid (fun w hm => wide_2 (bs (lineT [toldZ a', toldZ b'])) (by rw [bs_size]; omega) (pxT (toldZ a')) (pxT (toldZ b')) (line_parts [toldZ a', toldZ b'] hall) w hm)
   have hS1 : bs (lineT (List.take 2 ([toldZ a', toldZ b'] : List Int))) = bs (lineT [toldZ a', toldZ b']) := rfl
   obtain ⟨gl, cl, he, hgl, hll2⟩ := row_at7 HOwn.out (by decide)
   subst he
   have lc0 : wr.cell? ⟨gl, 0, none⟩ = some (.string (bs (pxT (toldZ a')))) := (HOwn.out.cellAt 0 (by decide)).trans rfl
   have lc1 : wr.cell? ⟨gl, 1, none⟩ = some (.string (bs (pxT (toldZ b')))) := (HOwn.out.cellAt 1 (by decide)).trans rfl
   clear cS
   go_wp2_with (first
    | (go_at_call 8; ((with_reducible refine (cW.out _ (HM.out.on (B := w.heap.size) (by have hr := HB1.out.trans (HB.out.mono HB1.out.size); have z := hr.size; exact ((((hr.alloc (by omega) _).alloc (by simp; omega) _).alloc (by simp; omega) _).alloc (by simp; omega) _).alloc (by simp; omega) _) HM.out.lt)).mono ?_); rintro e W7 ⟨⟨v7, rfl, ho7⟩, hb7⟩; obtain ⟨g7, c7, rfl, hg7, hl7⟩ := row_at7 ho7 (by decide); have HO7 := hid ho7; have HB7 := hid hb7; clear ho7 hb7 hg7 hl7)))
   clear cW
   have hA0 := Below.refl wr.heap.size wr
   have hA1 := hA0.alloc hA0.size (.cells #[.int .i64 0, .int .i64 0, .int .i64 0, .int .i64 0] 3)
   have hA2 := hA1.alloc hA1.size (.cells #[.int .i64 0, .int .i64 1, .int .i64 0, .int .i64 1] 3)
   have hA3 := hA2.alloc hA2.size (.cells #[.int .i64 0, .int .i64 1, .int .i64 2, .int .i64 1] 3)
   have hA4 := hA3.alloc hA3.size (.cells #[.int .i64 0, .int .i64 1, .int .i64 2, .int .i64 3] 3)
   have hA5 := hA4.alloc hA4.size (.cells #[.slice (some ⟨wr.heap.size, 0, none⟩) 4 4, .slice (some ⟨wr.heap.size + 1, 0, none⟩) 4 4, .slice (some ⟨wr.heap.size + 1 + 1, 0, none⟩) 4 4, .slice (some ⟨wr.heap.size + 1 + 1 + 1, 0, none⟩) 4 4] 33)
   have hA6 := (hA5.trans (HB7.out.mono hA5.size)).alloc (hA5.trans (HB7.out.mono hA5.size)).size (.cells #[.string ⟨#[109, 97, 114, 103, 105, 110, 45, 116, 111, 112]⟩, .string ⟨#[109, 97, 114, 103, 105, 110, 45, 114, 105, 103, 104, 116]⟩, .string ⟨#[109, 97, 114, 103, 105, 110, 45, 98, 111, 116, 116, 111, 109]⟩, .string ⟨#[109, 97, 114, 103, 105, 110, 45, 108, 101, 102, 116]⟩] 9)
   have bA : Blk ((wr.alloc (.cells #[.int .i64 0, .int .i64 0, .int .i64 0, .int .i64 0] 3)).alloc (.cells #[.int .i64 0, .int .i64 1, .int .i64 0, .int .i64 1] 3)) (wr.heap.size + 1) 3 #[.int .i64 0, .int .i64 1, .int .i64 0, .int .i64 1] := Blk.new (by simp)
   have bB := (((bA.alloc (.cells #[.int .i64 0, .int .i64 1, .int .i64 2, .int .i64 1] 3)).alloc (.cells #[.int .i64 0, .int .i64 1, .int .i64 2, .int .i64 3] 3)).alloc (.cells #[.slice (some ⟨wr.heap.size, 0, none⟩) 4 4, .slice (some ⟨wr.heap.size + 1, 0, none⟩) 4 4, .slice (some ⟨wr.heap.size + 1 + 1, 0, none⟩) 4 4, .slice (some ⟨wr.heap.size + 1 + 1 + 1, 0, none⟩) 4 4] 33))
   have bC := (bB.below HB7.out bB.lt).alloc (.cells #[.string ⟨#[109, 97, 114, 103, 105, 110, 45, 116, 111, 112]⟩, .string ⟨#[109, 97, 114, 103, 105, 110, 45, 114, 105, 103, 104, 116]⟩, .string ⟨#[109, 97, 114, 103, 105, 110, 45, 98, 111, 116, 116, 111, 109]⟩, .string ⟨#[109, 97, 114, 103, 105, 110, 45, 108, 101, 102, 116]⟩] 9)
   have bW : Blk (W7.alloc (.cells #[.string ⟨#[109, 97, 114, 103, 105, 110, 45, 116, 111, 112]⟩, .string ⟨#[109, 97, 114, 103, 105, 110, 45, 114, 105, 103, 104, 116]⟩, .string ⟨#[109, 97, 114, 103, 105, 110, 45, 98, 111, 116, 116, 111, 109]⟩, .string ⟨#[109, 97, 114, 103, 105, 110, 45, 108, 101, 102, 116]⟩] 9)) W7.heap.size 9 #[.string ⟨#[109, 97, 114, 103, 105, 110, 45, 116, 111, 112]⟩, .string ⟨#[109, 97, 114, 103, 105, 110, 45, 114, 105, 103, 104, 116]⟩, .string ⟨#[109, 97, 114, 103, 105, 110, 45, 98, 111, 116, 116, 111, 109]⟩, .string ⟨#[109, 97, 114, 103, 105, 110, 45, 108, 101, 102, 116]⟩] := Blk.new rfl
   have rL := row_on HOwn.out hA6
   have rM := row_on HO7.out (ba W7 (.cells #[.string ⟨#[109, 97, 114, 103, 105, 110, 45, 116, 111, 112]⟩, .string ⟨#[109, 97, 114, 103, 105, 110, 45, 114, 105, 103, 104, 116]⟩, .string ⟨#[109, 97, 114, 103, 105, 110, 45, 98, 111, 116, 116, 111, 109]⟩, .string ⟨#[109, 97, 114, 103, 105, 110, 45, 108, 101, 102, 116]⟩] 9))
   have HBw := hid (show Below w.heap.size w (W7.alloc (.cells #[.string ⟨#[109, 97, 114, 103, 105, 110, 45, 116, 111, 112]⟩, .string ⟨#[109, 97, 114, 103, 105, 110, 45, 114, 105, 103, 104, 116]⟩, .string ⟨#[109, 97, 114, 103, 105, 110, 45, 98, 111, 116, 116, 111, 109]⟩, .string ⟨#[109, 97, 114, 103, 105, 110, 45, 108, 101, 102, 116]⟩] 9)) from by have hr := HB1.out.trans (HB.out.mono HB1.out.size); exact hr.trans (hA6.mono hr.size))
   obtain ⟨WL, hWL⟩ : ∃ WL, W7.alloc (.cells #[.string ⟨#[109, 97, 114, 103, 105, 110, 45, 116, 111, 112]⟩, .string ⟨#[109, 97, 114, 103, 105, 110, 45, 114, 105, 103, 104, 116]⟩, .string ⟨#[109, 97, 114, 103, 105, 110, 45, 98, 111, 116, 116, 111, 109]⟩, .string ⟨#[109, 97, 114, 103, 105, 110, 45, 108, 101, 102, 116]⟩] 9) = WL := ⟨_, rfl⟩
   rw [hWL] at bC bW rL rM HBw ⊢
   clear hA0 hA1 hA2 hA3 hA4 hA5 hA6 bA bB hWL HO7 HB7 HOwn lc0 lc1
   have w0 : WL.cell? ⟨W7.heap.size, 0, none⟩ = some (.string ⟨#[109, 97, 114, 103, 105, 110, 45, 116, 111, 112]⟩) := (bW.cell 0).trans rfl
   have w1 : WL.cell? ⟨W7.heap.size, 1, none⟩ = some (.string ⟨#[109, 97, 114, 103, 105, 110, 45, 114, 105, 103, 104, 116]⟩) := (bW.cell 1).trans rfl
   have w2 : WL.cell? ⟨W7.heap.size, 2, none⟩ = some (.string ⟨#[109, 97, 114, 103, 105, 110, 45, 98, 111, 116, 116, 111, 109]⟩) := (bW.cell 2).trans rfl
   have w3 : WL.cell? ⟨W7.heap.size, 3, none⟩ = some (.string ⟨#[109, 97, 114, 103, 105, 110, 45, 108, 101, 102, 116]⟩) := (bW.cell 3).trans rfl
   have t0 : WL.cell? ⟨wr.heap.size + 1, 0, none⟩ = some (.int .i64 0) := (bC.cell 0).trans rfl
   have t1 : WL.cell? ⟨wr.heap.size + 1, 1, none⟩ = some (.int .i64 1) := (bC.cell 1).trans rfl
   have t2 : WL.cell? ⟨wr.heap.size + 1, 2, none⟩ = some (.int .i64 0) := (bC.cell 2).trans rfl
   have t3 : WL.cell? ⟨wr.heap.size + 1, 3, none⟩ = some (.int .i64 1) := (bC.cell 3).trans rfl
   have l0 : WL.cell? ⟨gl, 0, none⟩ = some (.string (bs (pxT (toldZ a')))) := (rL.cellAt 0 (by decide)).trans rfl
   have l1 : WL.cell? ⟨gl, 1, none⟩ = some (.string (bs (pxT (toldZ b')))) := (rL.cellAt 1 (by decide)).trans rfl
   have n0 : WL.cell? ⟨g7, 0, none⟩ = some (.string ⟨#[109, 97, 114, 103, 105, 110, 45, 116, 111, 112]⟩) := (rM.cellAt 0 (by decide)).trans rfl
   have m0 : WL.cell? ⟨g7, 1, none⟩ = some (.string (bs (pxT (toldZ a')))) := (rM.cellAt 1 (by decide)).trans rfl
   have n1 : WL.cell? ⟨g7, 3, none⟩ = some (.string ⟨#[109, 97, 114, 103, 105, 110, 45, 114, 105, 103, 104, 116]⟩) := (rM.cellAt 3 (by decide)).trans rfl
   have m1 : WL.cell? ⟨g7, 4, none⟩ = some (.string (bs (pxT (toldZ b')))) := (rM.cellAt 4 (by decide)).trans rfl
   have n2 : WL.cell? ⟨g7, 6, none⟩ = some (.string ⟨#[109, 97, 114, 103, 105, 110, 45, 98, 111, 116, 116, 111, 109]⟩) := (rM.cellAt 6 (by decide)).trans rfl
   have m2 : WL.cell? ⟨g7, 7, none⟩ = some (.string (bs (pxT (toldZ a')))) := (rM.cellAt 7 (by decide)).trans rfl
   have n3 : WL.cell? ⟨g7, 9, none⟩ = some (.string ⟨#[109, 97, 114, 103, 105, 110, 45, 108, 101, 102, 116]⟩) := (rM.cellAt 9 (by decide)).trans rfl
   have m3 : WL.cell? ⟨g7, 10, none⟩ = some (.string (bs (pxT (toldZ b')))) := (rM.cellAt 10 (by decide)).trans rfl
   have hall5 : ∀ x ∈ ([1000, 1000, 1000, 1000, toldZ a', toldZ b'] : List Int), x.natAbs <= 1000000000 := by intro x hx; simp at hx; omega
   have hl5 : (lineT [1000, 1000, 1000, 1000, toldZ a', toldZ b']).length <= 6 * 21 := line_len _ hall5
   have cV := hid (fun w hm => wide_many (bs (lineT [1000, 1000, 1000, 1000, toldZ a', toldZ b'])) (by rw [bs_size]; omega) _ (line_parts _ hall5) (by simp) w hm)
   have h5 : (⟨#[49, 112, 120, 32, 49, 112, 120, 32, 49, 112, 120, 32, 49, 112, 120, 32]⟩ : ByteArray) ++ bs (lineT [toldZ a', toldZ b']) = bs (lineT [1000, 1000, 1000, 1000, toldZ a', toldZ b']) := line_five [toldZ a', toldZ b']
   have h6 : ¬ 9223372036854775807 < 16 + (bs (lineT [toldZ a', toldZ b'])).size := by rw [bs_size]; omega
   clear bC bW rL rM hl5 hall5 hll hall
   go_loopw [23] (fun i wq => ∃ k : Nat, k <= 4 /\ i = .int .i64 k /\ ∃ nn, wq = WL.drewN nn) (fun i _ => 4 - (intOf i).toNat)
   case atStart => exact ⟨0, by omega, rfl, 0, rfl⟩
   case round =>
    obtain ⟨k, hk, rfl, nn, hwq⟩ := hrel
    have hcq : ∀ p, wr.cell? p = WL.cell? p := fun p => by rw [hwq]; rfl
    rw [<- hcq] at w0 t0 n0 m0 w1 t1 n1 m1 w2 t2 n2 m2 w3 t3 n3 m3 l0 l1
    replace HBw := hid (show Below w.heap.size w wr by rw [hwq]; exact base.below_drewN HBw.out nn)
    have Hwq := hid hwq
    clear hcq hwq
    have hk' : k = 0 ∨ k = 1 ∨ k = 2 ∨ k = 3 ∨ k = 4 := by omega
    rcases hk' with rfl | rfl | rfl | rfl | rfl
    ·have i2 : (0 : Int) < 4 := by decide
     go_wp2_with fail
     go_quiet (fail)
     go_wp2_with fail
     exact ⟨⟨1, by omega, rfl, drew_more Hwq.out _⟩, by decide⟩
    ·have i2 : (1 : Int) < 4 := by decide
     go_wp2_with fail
     go_quiet (fail)
     go_wp2_with fail
     exact ⟨⟨2, by omega, rfl, drew_more Hwq.out _⟩, by decide⟩
    ·have i2 : (2 : Int) < 4 := by decide
     go_wp2_with fail
     go_quiet (fail)
     go_wp2_with fail
     exact ⟨⟨3, by omega, rfl, drew_more Hwq.out _⟩, by decide⟩
    ·have i2 : (3 : Int) < 4 := by decide
     go_wp2_with fail
     go_quiet (fail)
     go_wp2_with fail
     exact ⟨⟨4, by omega, rfl, drew_more Hwq.out _⟩, by decide⟩
    ·have i2 : ¬ (4 : Int) < 4 := by decide
     go_wp2_with (first
      | (go_at_call 8; (with_reducible refine (cV.out _ (HM.out.on HBw.out HM.out.lt)).mono ?_); rintro e W9 ⟨rfl, hb9⟩; have HB9 := hid (tb HBw hb9); clear hb9))
     exact bodyPost_ret (v := .bool true) (by simp [results, Tryz.results4, go_sem]) rfl ⟨rfl, HB9.out⟩
theorem sides_2 (n a b c d : Int) (hr : (IntKind.u64.wrap n).tmod 4 = 2) (w : World) (hM : MaxL w) (hT : PowAt w) :
  Calls Tryz.prog 4 #[.int .i64 n, .int .i64 a, .int .i64 b, .int .i64 c, .int .i64 d] w (rt w (.bool true)) := by
 obtain ⟨i0, hi, hz0, hz1, hz2⟩ := info_parts infoS
 have Hz0 := hid hz0
 have Hi := hid hi
 have Hz1 := hid hz1
 have Hz2 := hid hz2
 have HM := hid hM
 have HT := hid hT
 clear hz0 hi hz1 hz2 hM hT
 have cS := hid (shaped_ct w)
 have q1 : IntKind.u64.wrap ((IntKind.u64.wrap n).tmod 4) = 2 := by rw [hr]; rfl
 have wa : -10000 < a.tmod 10000 /\ a.tmod 10000 < 10000 := mod_small a
 have va : IntKind.i64.wrap (a.tmod 10000) = a.tmod 10000 := IntWalk.i64_in _ (by omega)
 have ca := hid (fun w hT => text_11 (a.tmod 10000) (by omega) (by omega) w hT)
 have sa := told_small (a.tmod 10000) (by omega) (by omega)
 generalize ha' : a.tmod 10000 = a' at *
 have wb : -10000 < b.tmod 10000 /\ b.tmod 10000 < 10000 := mod_small b
 have vb : IntKind.i64.wrap (b.tmod 10000) = b.tmod 10000 := IntWalk.i64_in _ (by omega)
 have cb := hid (fun w hT => text_11 (b.tmod 10000) (by omega) (by omega) w hT)
 have sb := told_small (b.tmod 10000) (by omega) (by omega)
 generalize hb' : b.tmod 10000 = b' at *
 have wc : -10000 < c.tmod 10000 /\ c.tmod 10000 < 10000 := mod_small c
 have vc : IntKind.i64.wrap (c.tmod 10000) = c.tmod 10000 := IntWalk.i64_in _ (by omega)
 have cc := hid (fun w hT => text_11 (c.tmod 10000) (by omega) (by omega) w hT)
 have sc := told_small (c.tmod 10000) (by omega) (by omega)
 generalize hc' : c.tmod 10000 = c' at *
 have hall : ∀ x ∈ ([toldZ a', toldZ b', toldZ c'] : List Int), x.natAbs <= 1000000000 := by simp; omega
 go_enter Tryz.func4, Tryz.ntmps4
 go_wp2_with (first
  | (go_at_call 7; (with_reducible refine (cS.out).mono ?_); rintro e W1 ⟨rfl, hb⟩; have HB1 := hid (hb.alloc hb.size (.cells #[.int .i64 a, .int .i64 b, .int .i64 c, .int .i64 d] 3)); have hz1 := hb.size; have QA := hid (show Blk (W1.alloc (.cells #[.int .i64 a, .int .i64 b, .int .i64 c, .int .i64 d] 3)) W1.heap.size 3 #[.int .i64 a, .int .i64 b, .int .i64 c, .int .i64 d] from Blk.new rfl); clear hb))
 obtain ⟨W0, hW0⟩ : ∃ W0, W1.alloc (.cells #[.int .i64 a, .int .i64 b, .int .i64 c, .int .i64 d] 3) = W0 := ⟨_, rfl⟩
 rw [hW0] at HB1 QA ⊢
 have hz0 : W0.heap.size = W1.heap.size + 1 := by rw [<- hW0]; simp
 replace hz0 := hid hz0
 go_loopw [12, 15, 16] (fun v s i wr => ∃ k : Nat, k <= 3 /\ i = .int .i64 k /\ s = .string (bs (lineT (([toldZ a', toldZ b', toldZ c'] : List Int).take k))) /\ wr.ownsRow W0.heap.size 9 1 v k (((([toldZ a', toldZ b', toldZ c'] : List Int).take k).map pxT).map strv) /\ Below W0.heap.size W0 wr) (fun _ _ i _ => 3 - (intOf i).toNat)
 case atStart => exact ⟨0, by omega, rfl, rfl, World.ownsRow_nil _ _ _ _, Below.refl _ _⟩
 case round =>
  obtain ⟨k, hk, rfl, rfl, hown, hb⟩ := hrel
  have hbz := hb.size
  have HOwn := hid hown
  have HB := hid hb
  have QR := hid (QA.out.below hb QA.out.lt)
  have qc := QR.out.cell
  have HTw := hid (HT.out.on (tb HB1 hb))
  clear hown hb
  have hk' : k = 0 ∨ k = 1 ∨ k = 2 ∨ k = 3 := by omega
  rcases hk' with rfl | rfl | rfl | rfl
  ·have i1 : (0 : Int) < 3 := by decide
   have g1 := px_len (toldZ a') (by omega)
   have g2 : (lineT []).length <= 0 * 21 := line_len ([]) (fun y hy => hall y (by simp at hy ⊢ <;> omega))
   have g3 := bs_size (pxT (toldZ a'))
   have g4 := bs_size (lineT [])
   have st0 := line_step [] (toldZ a')
   have hS1 : bs (lineT (List.take 0 ([toldZ a', toldZ b', toldZ c'] : List Int))) = bs (lineT []) := rfl
   generalize bs (lineT (List.take 0 ([toldZ a', toldZ b', toldZ c'] : List Int))) = S0 at *
   rw [<- hS1] at g4 st0
   have a0 : S0.size <= 84 := by omega
   have a1 : ¬ 9223372036854775807 < S0.size + (bs (pxT (toldZ a'))).size := by omega
   have a2 : ¬ 9223372036854775807 < S0.size + (bs (pxT (toldZ a'))).size + 1 := by omega
   have st := hid st0
   clear st0 hS1
   replace HOwn := hid (show wr.ownsRow W0.heap.size 9 1 _ 0 ((([] : List Int).map pxT).map strv) from HOwn.out)
   go_wp2_with (first
    | (go_at_call 10; (with_reducible refine (ca.out _ HTw.out).mono ?_); rintro e W5 ⟨rfl, hb5⟩; have HB5 := hid (HB.out.trans (hb5.mono hbz)); have HO5 := hid (row_on HOwn.out hb5); clear hb5)
    | (at_builtin; refine wpList_append_own _ rfl _ _ 23 rfl W0.heap.size 9 i0 (.string .empty) 1 16 Tryz.underlying23 Hi.out Hz0.out Hz1.out Hz2.out rfl (by decide) _ 0 _ rfl (HO5.out.alloc _) ⟨W5.heap.size, 0, none⟩ 1 1 [strv (pxT (toldZ a'))] rfl rfl ?c1 ?c2 ?c3 ?c4 ?c5 ?_))
   case c1 => exact (Blk.new (w := W5) (t := 9) (cs := #[strv (pxT (toldZ a'))]) rfl).news
   case c2 => simp [Value.oneCell', strv]
   case c3 => unfold maxLen; omega
   case c4 => omega
   case c5 => have := HB5.out.size; first | omega | (simp; omega)
   intro v' W6 hown6 hgrow6 hnil6
   have HB6 := hid (below_app (HB5.out.alloc HB5.out.size _) hgrow6 (HO5.out.alloc _) (Nat.le_refl _) (by have := HB5.out.size; simp; omega))
   replace hown6 := hid hown6
   clear hgrow6 hnil6
   go_wp2_with fail
   go_roundw
   case rel => exact ⟨1, by omega, by go_num, by rw [st.out]; rfl, hown6.out, HB6.out⟩
   case measure => simp [intOf]
  ·have i1 : (1 : Int) < 3 := by decide
   have g1 := px_len (toldZ b') (by omega)
   have g2 : (lineT [toldZ a']).length <= 1 * 21 := line_len ([toldZ a']) (fun y hy => hall y (by simp at hy ⊢ <;> omega))
   have g3 := bs_size (pxT (toldZ b'))
   have g4 := bs_size (lineT [toldZ a'])
   have st0 := line_step [toldZ a'] (toldZ b')
   have hS1 : bs (lineT (List.take 1 ([toldZ a', toldZ b', toldZ c'] : List Int))) = bs (lineT [toldZ a']) := rfl
   generalize bs (lineT (List.take 1 ([toldZ a', toldZ b', toldZ c'] : List Int))) = S0 at *
   rw [<- hS1] at g4 st0
   have a0 : S0.size <= 84 := by omega
   have a1 : ¬ 9223372036854775807 < S0.size + (bs (pxT (toldZ b'))).size := by omega
   have a2 : ¬ 9223372036854775807 < S0.size + (bs (pxT (toldZ b'))).size + 1 := by omega
   have st := hid st0
   clear st0 hS1
   replace HOwn := hid (show wr.ownsRow W0.heap.size 9 1 _ 1 ((([toldZ a'] : List Int).map pxT).map strv) from HOwn.out)
   go_wp2_with (first
    | (go_at_call 10; (with_reducible refine (cb.out _ HTw.out).mono ?_); rintro e W5 ⟨rfl, hb5⟩; have HB5 := hid (HB.out.trans (hb5.mono hbz)); have HO5 := hid (row_on HOwn.out hb5); clear hb5)
    | (at_builtin; refine wpList_append_own _ rfl _ _ 23 rfl W0.heap.size 9 i0 (.string .empty) 1 16 Tryz.underlying23 Hi.out Hz0.out Hz1.out Hz2.out rfl (by decide) _ 1 _ rfl (HO5.out.alloc _) ⟨W5.heap.size, 0, none⟩ 1 1 [strv (pxT (toldZ b'))] rfl rfl ?c1 ?c2 ?c3 ?c4 ?c5 ?_))
   case c1 => exact (Blk.new (w := W5) (t := 9) (cs := #[strv (pxT (toldZ b'))]) rfl).news
   case c2 => simp [Value.oneCell', strv]
   case c3 => unfold maxLen; omega
   case c4 => omega
   case c5 => have := HB5.out.size; first | omega | (simp; omega)
   intro v' W6 hown6 hgrow6 hnil6
   have HB6 := hid (below_app (HB5.out.alloc HB5.out.size _) hgrow6 (HO5.out.alloc _) (Nat.le_refl _) (by have := HB5.out.size; simp; omega))
   replace hown6 := hid hown6
   clear hgrow6 hnil6
   go_wp2_with fail
   go_roundw
   case rel => exact ⟨2, by omega, by go_num, by rw [st.out]; rfl, hown6.out, HB6.out⟩
   case measure => simp [intOf]
  ·have i1 : (2 : Int) < 3 := by decide
   have g1 := px_len (toldZ c') (by omega)
   have g2 : (lineT [toldZ a', toldZ b']).length <= 2 * 21 := line_len ([toldZ a', toldZ b']) (fun y hy => hall y (by simp at hy ⊢ <;> omega))
   have g3 := bs_size (pxT (toldZ c'))
   have g4 := bs_size (lineT [toldZ a', toldZ b'])
   have st0 := line_step [toldZ a', toldZ b'] (toldZ c')
   have hS1 : bs (lineT (List.take 2 ([toldZ a', toldZ b', toldZ c'] : List Int))) = bs (lineT [toldZ a', toldZ b']) := rfl
   generalize bs (lineT (List.take 2 ([toldZ a', toldZ b', toldZ c'] : List Int))) = S0 at *
   rw [<- hS1] at g4 st0
   have a0 : S0.size <= 84 := by omega
   have a1 : ¬ 9223372036854775807 < S0.size + (bs (pxT (toldZ c'))).size := by omega
   have a2 : ¬ 9223372036854775807 < S0.size + (bs (pxT (toldZ c'))).size + 1 := by omega
   have st := hid st0
   clear st0 hS1
   replace HOwn := hid (show wr.ownsRow W0.heap.size 9 1 _ 2 ((([toldZ a', toldZ b'] : List Int).map pxT).map strv) from HOwn.out)
   go_wp2_with (first
    | (go_at_call 10; (with_reducible refine (cc.out _ HTw.out).mono ?_); rintro e W5 ⟨rfl, hb5⟩; have HB5 := hid (HB.out.trans (hb5.mono hbz)); have HO5 := hid (row_on HOwn.out hb5); clear hb5)
    | (at_builtin; refine wpList_append_own _ rfl _ _ 23 rfl W0.heap.size 9 i0 (.string .empty) 1 16 Tryz.underlying23 Hi.out Hz0.out Hz1.out Hz2.out rfl (by decide) _ 2 _ rfl (HO5.out.alloc _) ⟨W5.heap.size, 0, none⟩ 1 1 [strv (pxT (toldZ c'))] rfl rfl ?c1 ?c2 ?c3 ?c4 ?c5 ?_))
   case c1 => exact (Blk.new (w := W5) (t := 9) (cs := #[strv (pxT (toldZ c'))]) rfl).news
   case c2 => simp [Value.oneCell', strv]
   case c3 => unfold maxLen; omega
   case c4 => omega
   case c5 => have := HB5.out.size; first | omega | (simp; omega)
   intro v' W6 hown6 hgrow6 hnil6
   have HB6 := hid (below_app (HB5.out.alloc HB5.out.size _) hgrow6 (HO5.out.alloc _) (Nat.le_refl _) (by have := HB5.out.size; simp; omega))
   replace hown6 := hid hown6
   clear hgrow6 hnil6
   go_wp2_with fail
   go_roundw
   case rel => exact ⟨3, by omega, by go_num, by rw [st.out]; rfl, hown6.out, HB6.out⟩
   case measure => simp [intOf]
  ·have i1 : ¬ (3 : Int) < 3 := by decide
   replace HOwn := hid (show wr.ownsRow W0.heap.size 9 1 _ 3 ((([toldZ a', toldZ b', toldZ c'] : List Int).map pxT).map strv) from HOwn.out)
   have hll : (lineT [toldZ a', toldZ b', toldZ c']).length <= 3 * 21 := line_len _ hall
   have cW := hid (fun w hm => wide_3 (bs (lineT [toldZ a', toldZ b', toldZ c'])) (by rw [bs_size]; omega) (pxT (toldZ a')) (pxT (toldZ b')) (pxT (toldZ c')) (line_parts [toldZ a', toldZ b', toldZ c'] hall) w hm)
   have hS1 : bs (lineT (List.take 3 ([toldZ a', toldZ b', toldZ c'] : List Int))) = bs (lineT [toldZ a', toldZ b', toldZ c']) := rfl
   obtain ⟨gl, cl, he, hgl, hll2⟩ := row_at7 HOwn.out (by decide)
   subst he
   have lc0 : wr.cell? ⟨gl, 0, none⟩ = some (.string (bs (pxT (toldZ a')))) := (HOwn.out.cellAt 0 (by decide)).trans rfl
   have lc1 : wr.cell? ⟨gl, 1, none⟩ = some (.string (bs (pxT (toldZ b')))) := (HOwn.out.cellAt 1 (by decide)).trans rfl
   have lc2 : wr.cell? ⟨gl, 2, none⟩ = some (.string (bs (pxT (toldZ c')))) := (HOwn.out.cellAt 2 (by decide)).trans rfl
   clear cS
   go_wp2_with (first
    | (go_at_call 8; ((with_reducible refine (cW.out _ (HM.out.on (B := w.heap.size) (by have hr := HB1.out.trans (HB.out.mono HB1.out.size); have z := hr.size; exact ((((hr.alloc (by omega) _).alloc (by simp; omega) _).alloc (by simp; omega) _).alloc (by simp; omega) _).alloc (by simp; omega) _) HM.out.lt)).mono ?_); rintro e W7 ⟨⟨v7, rfl, ho7⟩, hb7⟩; obtain ⟨g7, c7, rfl, hg7, hl7⟩ := row_at7 ho7 (by decide); have HO7 := hid ho7; have HB7 := hid hb7; clear ho7 hb7 hg7 hl7)))
   clear cW
   have hA0 := Below.refl wr.heap.size wr
   have hA1 := hA0.alloc hA0.size (.cells #[.int .i64 0, .int .i64 0, .int .i64 0, .int .i64 0] 3)
   have hA2 := hA1.alloc hA1.size (.cells #[.int .i64 0, .int .i64 1, .int .i64 0, .int .i64 1] 3)
   have hA3 := hA2.alloc hA2.size (.cells #[.int .i64 0, .int .i64 1, .int .i64 2, .int .i64 1] 3)
   have hA4 := hA3.alloc hA3.size (.cells #[.int .i64 0, .int .i64 1, .int .i64 2, .int .i64 3] 3)
   have hA5 := hA4.alloc hA4.size (.cells #[.slice (some ⟨wr.heap.size, 0, none⟩) 4 4, .slice (some ⟨wr.heap.size + 1, 0, none⟩) 4 4, .slice (some ⟨wr.heap.size + 1 + 1, 0, none⟩) 4 4, .slice (some ⟨wr.heap.size + 1 + 1 + 1, 0, none⟩) 4 4] 33)
   have hA6 := (hA5.trans (HB7.out.mono hA5.size)).alloc (hA5.trans (HB7.out.mono hA5.size)).size (.cells #[.string ⟨#[109, 97, 114, 103, 105, 110, 45, 116, 111, 112]⟩, .string ⟨#[109, 97, 114, 103, 105, 110, 45, 114, 105, 103, 104, 116]⟩, .string ⟨#[109, 97, 114, 103, 105, 110, 45, 98, 111, 116, 116, 111, 109]⟩, .string ⟨#[109, 97, 114, 103, 105, 110, 45, 108, 101, 102, 116]⟩] 9)
   have bA : Blk (((wr.alloc (.cells #[.int .i64 0, .int .i64 0, .int .i64 0, .int .i64 0] 3)).alloc (.cells #[.int .i64 0, .int .i64 1, .int .i64 0, .int .i64 1] 3)).alloc (.cells #[.int .i64 0, .int .i64 1, .int .i64 2, .int .i64 1] 3)) (wr.heap.size + 1 + 1) 3 #[.int .i64 0, .int .i64 1, .int .i64 2, .int .i64 1] := Blk.new (by simp)
   have bB := ((bA.alloc (.cells #[.int .i64 0, .int .i64 1, .int .i64 2, .int .i64 3] 3)).alloc (.cells #[.slice (some ⟨wr.heap.size, 0, none⟩) 4 4, .slice (some ⟨wr.heap.size + 1, 0, none⟩) 4 4, .slice (some ⟨wr.heap.size + 1 + 1, 0, none⟩) 4 4, .slice (some ⟨wr.heap.size + 1 + 1 + 1, 0, none⟩) 4 4] 33))
   have bC := (bB.below HB7.out bB.lt).alloc (.cells #[.string ⟨#[109, 97, 114, 103, 105, 110, 45, 116, 111, 112]⟩, .string ⟨#[109, 97, 114, 103, 105, 110, 45, 114, 105, 103, 104, 116]⟩, .string ⟨#[109, 97, 114, 103, 105, 110, 45, 98, 111, 116, 116, 111, 109]⟩, .string ⟨#[109, 97, 114, 103, 105, 110, 45, 108, 101, 102, 116]⟩] 9)
   have bW : Blk (W7.alloc (.cells #[.string ⟨#[109, 97, 114, 103, 105, 110, 45, 116, 111, 112]⟩, .string ⟨#[109, 97, 114, 103, 105, 110, 45, 114, 105, 103, 104, 116]⟩, .string ⟨#[109, 97, 114, 103, 105, 110, 45, 98, 111, 116, 116, 111, 109]⟩, .string ⟨#[109, 97, 114, 103, 105, 110, 45, 108, 101, 102, 116]⟩] 9)) W7.heap.size 9 #[.string ⟨#[109, 97, 114, 103, 105, 110, 45, 116, 111, 112]⟩, .string ⟨#[109, 97, 114, 103, 105, 110, 45, 114, 105, 103, 104, 116]⟩, .string ⟨#[109, 97, 114, 103, 105, 110, 45, 98, 111, 116, 116, 111, 109]⟩, .string ⟨#[109, 97, 114, 103, 105, 110, 45, 108, 101, 102, 116]⟩] := Blk.new rfl
   have rL := row_on HOwn.out hA6
   have rM := row_on HO7.out (ba W7 (.cells #[.string ⟨#[109, 97, 114, 103, 105, 110, 45, 116, 111, 112]⟩, .string ⟨#[109, 97, 114, 103, 105, 110, 45, 114, 105, 103, 104, 116]⟩, .string ⟨#[109, 97, 114, 103, 105, 110, 45, 98, 111, 116, 116, 111, 109]⟩, .string ⟨#[109, 97, 114, 103, 105, 110, 45, 108, 101, 102, 116]⟩] 9))
   have HBw := hid (show Below w.heap.size w (W7.alloc (.cells #[.string ⟨#[109, 97, 114, 103, 105, 110, 45, 116, 111, 112]⟩, .string ⟨#[109, 97, 114, 103, 105, 110, 45, 114, 105, 103, 104, 116]⟩, .string ⟨#[109, 97, 114, 103, 105, 110, 45, 98, 111, 116, 116, 111, 109]⟩, .string ⟨#[109, 97, 114, 103, 105, 110, 45, 108, 101, 102, 116]⟩] 9)) from by have hr := HB1.out.trans (HB.out.mono HB1.out.size); exact hr.trans (hA6.mono hr.size))
   obtain ⟨WL, hWL⟩ : ∃ WL, W7.alloc (.cells #[.string ⟨#[109, 97, 114, 103, 105, 110, 45, 116, 111, 112]⟩, .string ⟨#[109, 97, 114, 103, 105, 110, 45, 114, 105, 103, 104, 116]⟩, .string ⟨#[109, 97, 114, 103, 105, 110, 45, 98, 111, 116, 116, 111, 109]⟩, .string ⟨#[109, 97, 114, 103, 105, 110, 45, 108, 101, 102, 116]⟩] 9) = WL := ⟨_, rfl⟩
   rw [hWL] at bC bW rL rM HBw ⊢
   clear hA0 hA1 hA2 hA3 hA4 hA5 hA6 bA bB hWL HO7 HB7 HOwn lc0 lc1 lc2
   have w0 : WL.cell? ⟨W7.heap.size, 0, none⟩ = some (.string ⟨#[109, 97, 114, 103, 105, 110, 45, 116, 111, 112]⟩) := (bW.cell 0).trans rfl
   have w1 : WL.cell? ⟨W7.heap.size, 1, none⟩ = some (.string ⟨#[109, 97, 114, 103, 105, 110, 45, 114, 105, 103, 104, 116]⟩) := (bW.cell 1).trans rfl
   have w2 : WL.cell? ⟨W7.heap.size, 2, none⟩ = some (.string ⟨#[109, 97, 114, 103, 105, 110, 45, 98, 111, 116, 116, 111, 109]⟩) := (bW.cell 2).trans rfl
   have w3 : WL.cell? ⟨W7.heap.size, 3, none⟩ = some (.string ⟨#[109, 97, 114, 103, 105, 110, 45, 108, 101, 102, 116]⟩) := (bW.cell 3).trans rfl
   have t0 : WL.cell? ⟨wr.heap.size + 1 + 1, 0, none⟩ = some (.int .i64 0) := (bC.cell 0).trans rfl
   have t1 : WL.cell? ⟨wr.heap.size + 1 + 1, 1, none⟩ = some (.int .i64 1) := (bC.cell 1).trans rfl
   have t2 : WL.cell? ⟨wr.heap.size + 1 + 1, 2, none⟩ = some (.int .i64 2) := (bC.cell 2).trans rfl
   have t3 : WL.cell? ⟨wr.heap.size + 1 + 1, 3, none⟩ = some (.int .i64 1) := (bC.cell 3).trans rfl
   have l0 : WL.cell? ⟨gl, 0, none⟩ = some (.string (bs (pxT (toldZ a')))) := (rL.cellAt 0 (by decide)).trans rfl
   have l1 : WL.cell? ⟨gl, 1, none⟩ = some (.string (bs (pxT (toldZ b')))) := (rL.cellAt 1 (by decide)).trans rfl
   have l2 : WL.cell? ⟨gl, 2, none⟩ = some (.string (bs (pxT (toldZ c')))) := (rL.cellAt 2 (by decide)).trans rfl
   have n0 : WL.cell? ⟨g7, 0, none⟩ = some (.string ⟨#[109, 97, 114, 103, 105, 110, 45, 116, 111, 112]⟩) := (rM.cellAt 0 (by decide)).trans rfl
   have m0 : WL.cell? ⟨g7, 1, none⟩ = some (.string (bs (pxT (toldZ a')))) := (rM.cellAt 1 (by decide)).trans rfl
   have n1 : WL.cell? ⟨g7, 3, none⟩ = some (.string ⟨#[109, 97, 114, 103, 105, 110, 45, 114, 105, 103, 104, 116]⟩) := (rM.cellAt 3 (by decide)).trans rfl
   have m1 : WL.cell? ⟨g7, 4, none⟩ = some (.string (bs (pxT (toldZ b')))) := (rM.cellAt 4 (by decide)).trans rfl
   have n2 : WL.cell? ⟨g7, 6, none⟩ = some (.string ⟨#[109, 97, 114, 103, 105, 110, 45, 98, 111, 116, 116, 111, 109]⟩) := (rM.cellAt 6 (by decide)).trans rfl
   have m2 : WL.cell? ⟨g7, 7, none⟩ = some (.string (bs (pxT (toldZ c')))) := (rM.cellAt 7 (by decide)).trans rfl
   have n3 : WL.cell? ⟨g7, 9, none⟩ = some (.string ⟨#[109, 97, 114, 103, 105, 110, 45, 108, 101, 102, 116]⟩) := (rM.cellAt 9 (by decide)).trans rfl
   have m3 : WL.cell? ⟨g7, 10, none⟩ = some (.string (bs (pxT (toldZ b')))) := (rM.cellAt 10 (by decide)).trans rfl
   have hall5 : ∀ x ∈ ([1000, 1000, 1000, 1000, toldZ a', toldZ b', toldZ c'] : List Int), x.natAbs <= 1000000000 := by intro x hx; simp at hx; omega
   have hl5 : (lineT [1000, 1000, 1000, 1000, toldZ a', toldZ b', toldZ c']).length <= 7 * 21 := line_len _ hall5
   have cV := hid (fun w hm => wide_many (bs (lineT [1000, 1000, 1000, 1000, toldZ a', toldZ b', toldZ c'])) (by rw [bs_size]; omega) _ (line_parts _ hall5) (by simp) w hm)
   have h5 : (⟨#[49, 112, 120, 32, 49, 112, 120, 32, 49, 112, 120, 32, 49, 112, 120, 32]⟩ : ByteArray) ++ bs (lineT [toldZ a', toldZ b', toldZ c']) = bs (lineT [1000, 1000, 1000, 1000, toldZ a', toldZ b', toldZ c']) := line_five [toldZ a', toldZ b', toldZ c']
   have h6 : ¬ 9223372036854775807 < 16 + (bs (lineT [toldZ a', toldZ b', toldZ c'])).size := by rw [bs_size]; omega
   clear bC bW rL rM hl5 hall5 hll hall
   go_loopw [23] (fun i wq => ∃ k : Nat, k <= 4 /\ i = .int .i64 k /\ ∃ nn, wq = WL.drewN nn) (fun i _ => 4 - (intOf i).toNat)
   case atStart => exact ⟨0, by omega, rfl, 0, rfl⟩
   case round =>
    obtain ⟨k, hk, rfl, nn, hwq⟩ := hrel
    have hcq : ∀ p, wr.cell? p = WL.cell? p := fun p => by rw [hwq]; rfl
    rw [<- hcq] at w0 t0 n0 m0 w1 t1 n1 m1 w2 t2 n2 m2 w3 t3 n3 m3 l0 l1 l2
    replace HBw := hid (show Below w.heap.size w wr by rw [hwq]; exact base.below_drewN HBw.out nn)
    have Hwq := hid hwq
    clear hcq hwq
    have hk' : k = 0 ∨ k = 1 ∨ k = 2 ∨ k = 3 ∨ k = 4 := by omega
    rcases hk' with rfl | rfl | rfl | rfl | rfl
    ·have i2 : (0 : Int) < 4 := by decide
     go_wp2_with fail
     go_quiet (fail)
     go_wp2_with fail
     exact ⟨⟨1, by omega, rfl, drew_more Hwq.out _⟩, by decide⟩
    ·have i2 : (1 : Int) < 4 := by decide
     go_wp2_with fail
     go_quiet (fail)
     go_wp2_with fail
     exact ⟨⟨2, by omega, rfl, drew_more Hwq.out _⟩, by decide⟩
    ·have i2 : (2 : Int) < 4 := by decide
     go_wp2_with fail
     go_quiet (fail)
     go_wp2_with fail
     exact ⟨⟨3, by omega, rfl, drew_more Hwq.out _⟩, by decide⟩
    ·have i2 : (3 : Int) < 4 := by decide
     go_wp2_with fail
     go_quiet (fail)
     go_wp2_with fail
     exact ⟨⟨4, by omega, rfl, drew_more Hwq.out _⟩, by decide⟩
    ·have i2 : ¬ (4 : Int) < 4 := by decide
     go_wp2_with (first
      | (go_at_call 8; (with_reducible refine (cV.out _ (HM.out.on HBw.out HM.out.lt)).mono ?_); rintro e W9 ⟨rfl, hb9⟩; have HB9 := hid (tb HBw hb9); clear hb9))
     exact bodyPost_ret (v := .bool true) (by simp [results, Tryz.results4, go_sem]) rfl ⟨rfl, HB9.out⟩
theorem sides_3 (n a b c d : Int) (hr : (IntKind.u64.wrap n).tmod 4 = 3) (w : World) (hM : MaxL w) (hT : PowAt w) :
  Calls Tryz.prog 4 #[.int .i64 n, .int .i64 a, .int .i64 b, .int .i64 c, .int .i64 d] w (rt w (.bool true)) := by
 obtain ⟨i0, hi, hz0, hz1, hz2⟩ := info_parts infoS
 have Hz0 := hid hz0
 have Hi := hid hi
 have Hz1 := hid hz1
 have Hz2 := hid hz2
 have HM := hid hM
 have HT := hid hT
 clear hz0 hi hz1 hz2 hM hT
 have cS := hid (shaped_ct w)
 have q1 : IntKind.u64.wrap ((IntKind.u64.wrap n).tmod 4) = 3 := by rw [hr]; rfl
 have wa : -10000 < a.tmod 10000 /\ a.tmod 10000 < 10000 := mod_small a
 have va : IntKind.i64.wrap (a.tmod 10000) = a.tmod 10000 := IntWalk.i64_in _ (by omega)
 have ca := hid (fun w hT => text_11 (a.tmod 10000) (by omega) (by omega) w hT)
 have sa := told_small (a.tmod 10000) (by omega) (by omega)
 generalize ha' : a.tmod 10000 = a' at *
 have wb : -10000 < b.tmod 10000 /\ b.tmod 10000 < 10000 := mod_small b
 have vb : IntKind.i64.wrap (b.tmod 10000) = b.tmod 10000 := IntWalk.i64_in _ (by omega)
 have cb := hid (fun w hT => text_11 (b.tmod 10000) (by omega) (by omega) w hT)
 have sb := told_small (b.tmod 10000) (by omega) (by omega)
 generalize hb' : b.tmod 10000 = b' at *
 have wc : -10000 < c.tmod 10000 /\ c.tmod 10000 < 10000 := mod_small c
 have vc : IntKind.i64.wrap (c.tmod 10000) = c.tmod 10000 := IntWalk.i64_in _ (by omega)
 have cc := hid (fun w hT => text_11 (c.tmod 10000) (by omega) (by omega) w hT)
 have sc := told_small (c.tmod 10000) (by omega) (by omega)
 generalize hc' : c.tmod 10000 = c' at *
 have wd : -10000 < d.tmod 10000 /\ d.tmod 10000 < 10000 := mod_small d
 have vd : IntKind.i64.wrap (d.tmod 10000) = d.tmod 10000 := IntWalk.i64_in _ (by omega)
 have cd := hid (fun w hT => text_11 (d.tmod 10000) (by omega) (by omega) w hT)
 have sd := told_small (d.tmod 10000) (by omega) (by omega)
 generalize hd' : d.tmod 10000 = d' at *
 have hall : ∀ x ∈ ([toldZ a', toldZ b', toldZ c', toldZ d'] : List Int), x.natAbs <= 1000000000 := by simp; omega
 go_enter Tryz.func4, Tryz.ntmps4
 go_wp2_with (first
  | (go_at_call 7; (with_reducible refine (cS.out).mono ?_); rintro e W1 ⟨rfl, hb⟩; have HB1 := hid (hb.alloc hb.size (.cells #[.int .i64 a, .int .i64 b, .int .i64 c, .int .i64 d] 3)); have hz1 := hb.size; have QA := hid (show Blk (W1.alloc (.cells #[.int .i64 a, .int .i64 b, .int .i64 c, .int .i64 d] 3)) W1.heap.size 3 #[.int .i64 a, .int .i64 b, .int .i64 c, .int .i64 d] from Blk.new rfl); clear hb))
 obtain ⟨W0, hW0⟩ : ∃ W0, W1.alloc (.cells #[.int .i64 a, .int .i64 b, .int .i64 c, .int .i64 d] 3) = W0 := ⟨_, rfl⟩
 rw [hW0] at HB1 QA ⊢
 have hz0 : W0.heap.size = W1.heap.size + 1 := by rw [<- hW0]; simp
 replace hz0 := hid hz0
 go_loopw [12, 15, 16] (fun v s i wr => ∃ k : Nat, k <= 4 /\ i = .int .i64 k /\ s = .string (bs (lineT (([toldZ a', toldZ b', toldZ c', toldZ d'] : List Int).take k))) /\ wr.ownsRow W0.heap.size 9 1 v k (((([toldZ a', toldZ b', toldZ c', toldZ d'] : List Int).take k).map pxT).map strv) /\ Below W0.heap.size W0 wr) (fun _ _ i _ => 4 - (intOf i).toNat)
 case atStart => exact ⟨0, by omega, rfl, rfl, World.ownsRow_nil _ _ _ _, Below.refl _ _⟩
 case round =>
  obtain ⟨k, hk, rfl, rfl, hown, hb⟩ := hrel
  have hbz := hb.size
  have HOwn := hid hown
  have HB := hid hb
  have QR := hid (QA.out.below hb QA.out.lt)
  have qc := QR.out.cell
  have HTw := hid (HT.out.on (tb HB1 hb))
  clear hown hb
  have hk' : k = 0 ∨ k = 1 ∨ k = 2 ∨ k = 3 ∨ k = 4 := by omega
  rcases hk' with rfl | rfl | rfl | rfl | rfl
  ·have i1 : (0 : Int) < 4 := by decide
   have g1 := px_len (toldZ a') (by omega)
   have g2 : (lineT []).length <= 0 * 21 := line_len ([]) (fun y hy => hall y (by simp at hy ⊢ <;> omega))
   have g3 := bs_size (pxT (toldZ a'))
   have g4 := bs_size (lineT [])
   have st0 := line_step [] (toldZ a')
   have hS1 : bs (lineT (List.take 0 ([toldZ a', toldZ b', toldZ c', toldZ d'] : List Int))) = bs (lineT []) := rfl
   generalize bs (lineT (List.take 0 ([toldZ a', toldZ b', toldZ c', toldZ d'] : List Int))) = S0 at *
   rw [<- hS1] at g4 st0
   have a0 : S0.size <= 84 := by omega
   have a1 : ¬ 9223372036854775807 < S0.size + (bs (pxT (toldZ a'))).size := by omega
   have a2 : ¬ 9223372036854775807 < S0.size + (bs (pxT (toldZ a'))).size + 1 := by omega
   have st := hid st0
   clear st0 hS1
   replace HOwn := hid (show wr.ownsRow W0.heap.size 9 1 _ 0 ((([] : List Int).map pxT).map strv) from HOwn.out)
   go_wp2_with (first
    | (go_at_call 10; (with_reducible refine (ca.out _ HTw.out).mono ?_); rintro e W5 ⟨rfl, hb5⟩; have HB5 := hid (HB.out.trans (hb5.mono hbz)); have HO5 := hid (row_on HOwn.out hb5); clear hb5)
    | (at_builtin; refine wpList_append_own _ rfl _ _ 23 rfl W0.heap.size 9 i0 (.string .empty) 1 16 Tryz.underlying23 Hi.out Hz0.out Hz1.out Hz2.out rfl (by decide) _ 0 _ rfl (HO5.out.alloc _) ⟨W5.heap.size, 0, none⟩ 1 1 [strv (pxT (toldZ a'))] rfl rfl ?c1 ?c2 ?c3 ?c4 ?c5 ?_))
   case c1 => exact (Blk.new (w := W5) (t := 9) (cs := #[strv (pxT (toldZ a'))]) rfl).news
   case c2 => simp [Value.oneCell', strv]
   case c3 => unfold maxLen; omega
   case c4 => omega
   case c5 => have := HB5.out.size; first | omega | (simp; omega)
   intro v' W6 hown6 hgrow6 hnil6
   have HB6 := hid (below_app (HB5.out.alloc HB5.out.size _) hgrow6 (HO5.out.alloc _) (Nat.le_refl _) (by have := HB5.out.size; simp; omega))
   replace hown6 := hid hown6
   clear hgrow6 hnil6
   go_wp2_with fail
   go_roundw
   case rel => exact ⟨1, by omega, by go_num, by rw [st.out]; rfl, hown6.out, HB6.out⟩
   case measure => simp [intOf]
  ·have i1 : (1 : Int) < 4 := by decide
   have g1 := px_len (toldZ b') (by omega)
   have g2 : (lineT [toldZ a']).length <= 1 * 21 := line_len ([toldZ a']) (fun y hy => hall y (by simp at hy ⊢ <;> omega))
   have g3 := bs_size (pxT (toldZ b'))
   have g4 := bs_size (lineT [toldZ a'])
   have st0 := line_step [toldZ a'] (toldZ b')
   have hS1 : bs (lineT (List.take 1 ([toldZ a', toldZ b', toldZ c', toldZ d'] : List Int))) = bs (lineT [toldZ a']) := rfl
   generalize bs (lineT (List.take 1 ([toldZ a', toldZ b', toldZ c', toldZ d'] : List Int))) = S0 at *
   rw [<- hS1] at g4 st0
   have a0 : S0.size <= 84 := by omega
   have a1 : ¬ 9223372036854775807 < S0.size + (bs (pxT (toldZ b'))).size := by omega
   have a2 : ¬ 9223372036854775807 < S0.size + (bs (pxT (toldZ b'))).size + 1 := by omega
   have st := hid st0
   clear st0 hS1
   replace HOwn := hid (show wr.ownsRow W0.heap.size 9 1 _ 1 ((([toldZ a'] : List Int).map pxT).map strv) from HOwn.out)
   go_wp2_with (first
    | (go_at_call 10; (with_reducible refine (cb.out _ HTw.out).mono ?_); rintro e W5 ⟨rfl, hb5⟩; have HB5 := hid (HB.out.trans (hb5.mono hbz)); have HO5 := hid (row_on HOwn.out hb5); clear hb5)
    | (at_builtin; refine wpList_append_own _ rfl _ _ 23 rfl W0.heap.size 9 i0 (.string .empty) 1 16 Tryz.underlying23 Hi.out Hz0.out Hz1.out Hz2.out rfl (by decide) _ 1 _ rfl (HO5.out.alloc _) ⟨W5.heap.size, 0, none⟩ 1 1 [strv (pxT (toldZ b'))] rfl rfl ?c1 ?c2 ?c3 ?c4 ?c5 ?_))
   case c1 => exact (Blk.new (w := W5) (t := 9) (cs := #[strv (pxT (toldZ b'))]) rfl).news
   case c2 => simp [Value.oneCell', strv]
   case c3 => unfold maxLen; omega
   case c4 => omega
   case c5 => have := HB5.out.size; first | omega | (simp; omega)
   intro v' W6 hown6 hgrow6 hnil6
   have HB6 := hid (below_app (HB5.out.alloc HB5.out.size _) hgrow6 (HO5.out.alloc _) (Nat.le_refl _) (by have := HB5.out.size; simp; omega))
   replace hown6 := hid hown6
   clear hgrow6 hnil6
   go_wp2_with fail
   go_roundw
   case rel => exact ⟨2, by omega, by go_num, by rw [st.out]; rfl, hown6.out, HB6.out⟩
   case measure => simp [intOf]
  ·have i1 : (2 : Int) < 4 := by decide
   have g1 := px_len (toldZ c') (by omega)
   have g2 : (lineT [toldZ a', toldZ b']).length <= 2 * 21 := line_len ([toldZ a', toldZ b']) (fun y hy => hall y (by simp at hy ⊢ <;> omega))
   have g3 := bs_size (pxT (toldZ c'))
   have g4 := bs_size (lineT [toldZ a', toldZ b'])
   have st0 := line_step [toldZ a', toldZ b'] (toldZ c')
   have hS1 : bs (lineT (List.take 2 ([toldZ a', toldZ b', toldZ c', toldZ d'] : List Int))) = bs (lineT [toldZ a', toldZ b']) := rfl
   generalize bs (lineT (List.take 2 ([toldZ a', toldZ b', toldZ c', toldZ d'] : List Int))) = S0 at *
   rw [<- hS1] at g4 st0
   have a0 : S0.size <= 84 := by omega
   have a1 : ¬ 9223372036854775807 < S0.size + (bs (pxT (toldZ c'))).size := by omega
   have a2 : ¬ 9223372036854775807 < S0.size + (bs (pxT (toldZ c'))).size + 1 := by omega
   have st := hid st0
   clear st0 hS1
   replace HOwn := hid (show wr.ownsRow W0.heap.size 9 1 _ 2 ((([toldZ a', toldZ b'] : List Int).map pxT).map strv) from HOwn.out)
   go_wp2_with (first
    | (go_at_call 10; (with_reducible refine (cc.out _ HTw.out).mono ?_); rintro e W5 ⟨rfl, hb5⟩; have HB5 := hid (HB.out.trans (hb5.mono hbz)); have HO5 := hid (row_on HOwn.out hb5); clear hb5)
    | (at_builtin; refine wpList_append_own _ rfl _ _ 23 rfl W0.heap.size 9 i0 (.string .empty) 1 16 Tryz.underlying23 Hi.out Hz0.out Hz1.out Hz2.out rfl (by decide) _ 2 _ rfl (HO5.out.alloc _) ⟨W5.heap.size, 0, none⟩ 1 1 [strv (pxT (toldZ c'))] rfl rfl ?c1 ?c2 ?c3 ?c4 ?c5 ?_))
   case c1 => exact (Blk.new (w := W5) (t := 9) (cs := #[strv (pxT (toldZ c'))]) rfl).news
   case c2 => simp [Value.oneCell', strv]
   case c3 => unfold maxLen; omega
   case c4 => omega
   case c5 => have := HB5.out.size; first | omega | (simp; omega)
   intro v' W6 hown6 hgrow6 hnil6
   have HB6 := hid (below_app (HB5.out.alloc HB5.out.size _) hgrow6 (HO5.out.alloc _) (Nat.le_refl _) (by have := HB5.out.size; simp; omega))
   replace hown6 := hid hown6
   clear hgrow6 hnil6
   go_wp2_with fail
   go_roundw
   case rel => exact ⟨3, by omega, by go_num, by rw [st.out]; rfl, hown6.out, HB6.out⟩
   case measure => simp [intOf]
  ·have i1 : (3 : Int) < 4 := by decide
   have g1 := px_len (toldZ d') (by omega)
   have g2 : (lineT [toldZ a', toldZ b', toldZ c']).length <= 3 * 21 := line_len ([toldZ a', toldZ b', toldZ c']) (fun y hy => hall y (by simp at hy ⊢ <;> omega))
   have g3 := bs_size (pxT (toldZ d'))
   have g4 := bs_size (lineT [toldZ a', toldZ b', toldZ c'])
   have st0 := line_step [toldZ a', toldZ b', toldZ c'] (toldZ d')
   have hS1 : bs (lineT (List.take 3 ([toldZ a', toldZ b', toldZ c', toldZ d'] : List Int))) = bs (lineT [toldZ a', toldZ b', toldZ c']) := rfl
   generalize bs (lineT (List.take 3 ([toldZ a', toldZ b', toldZ c', toldZ d'] : List Int))) = S0 at *
   rw [<- hS1] at g4 st0
   have a0 : S0.size <= 84 := by omega
   have a1 : ¬ 9223372036854775807 < S0.size + (bs (pxT (toldZ d'))).size := by omega
   have a2 : ¬ 9223372036854775807 < S0.size + (bs (pxT (toldZ d'))).size + 1 := by omega
   have st := hid st0
   clear st0 hS1
   replace HOwn := hid (show wr.ownsRow W0.heap.size 9 1 _ 3 ((([toldZ a', toldZ b', toldZ c'] : List Int).map pxT).map strv) from HOwn.out)
   go_wp2_with (first
    | (go_at_call 10; (with_reducible refine (cd.out _ HTw.out).mono ?_); rintro e W5 ⟨rfl, hb5⟩; have HB5 := hid (HB.out.trans (hb5.mono hbz)); have HO5 := hid (row_on HOwn.out hb5); clear hb5)
    | (at_builtin; refine wpList_append_own _ rfl _ _ 23 rfl W0.heap.size 9 i0 (.string .empty) 1 16 Tryz.underlying23 Hi.out Hz0.out Hz1.out Hz2.out rfl (by decide) _ 3 _ rfl (HO5.out.alloc _) ⟨W5.heap.size, 0, none⟩ 1 1 [strv (pxT (toldZ d'))] rfl rfl ?c1 ?c2 ?c3 ?c4 ?c5 ?_))
   case c1 => exact (Blk.new (w := W5) (t := 9) (cs := #[strv (pxT (toldZ d'))]) rfl).news
   case c2 => simp [Value.oneCell', strv]
   case c3 => unfold maxLen; omega
   case c4 => omega
   case c5 => have := HB5.out.size; first | omega | (simp; omega)
   intro v' W6 hown6 hgrow6 hnil6
   have HB6 := hid (below_app (HB5.out.alloc HB5.out.size _) hgrow6 (HO5.out.alloc _) (Nat.le_refl _) (by have := HB5.out.size; simp; omega))
   replace hown6 := hid hown6
   clear hgrow6 hnil6
   go_wp2_with fail
   go_roundw
   case rel => exact ⟨4, by omega, by go_num, by rw [st.out]; rfl, hown6.out, HB6.out⟩
   case measure => simp [intOf]
  ·have i1 : ¬ (4 : Int) < 4 := by decide
   replace HOwn := hid (show wr.ownsRow W0.heap.size 9 1 _ 4 ((([toldZ a', toldZ b', toldZ c', toldZ d'] : List Int).map pxT).map strv) from HOwn.out)
   have hll : (lineT [toldZ a', toldZ b', toldZ c', toldZ d']).length <= 4 * 21 := line_len _ hall
   have cW := hid (fun w hm => wide_4 (bs (lineT [toldZ a', toldZ b', toldZ c', toldZ d'])) (by rw [bs_size]; omega) (pxT (toldZ a')) (pxT (toldZ b')) (pxT (toldZ c')) (pxT (toldZ d')) (line_parts [toldZ a', toldZ b', toldZ c', toldZ d'] hall) w hm)
   have hS1 : bs (lineT (List.take 4 ([toldZ a', toldZ b', toldZ c', toldZ d'] : List Int))) = bs (lineT [toldZ a', toldZ b', toldZ c', toldZ d']) := rfl
   obtain ⟨gl, cl, he, hgl, hll2⟩ := row_at7 HOwn.out (by decide)
   subst he
   have lc0 : wr.cell? ⟨gl, 0, none⟩ = some (.string (bs (pxT (toldZ a')))) := (HOwn.out.cellAt 0 (by decide)).trans rfl
   have lc1 : wr.cell? ⟨gl, 1, none⟩ = some (.string (bs (pxT (toldZ b')))) := (HOwn.out.cellAt 1 (by decide)).trans rfl
   have lc2 : wr.cell? ⟨gl, 2, none⟩ = some (.string (bs (pxT (toldZ c')))) := (HOwn.out.cellAt 2 (by decide)).trans rfl
   have lc3 : wr.cell? ⟨gl, 3, none⟩ = some (.string (bs (pxT (toldZ d')))) := (HOwn.out.cellAt 3 (by decide)).trans rfl
   clear cS
   go_wp2_with (first
    | (go_at_call 8; ((with_reducible refine (cW.out _ (HM.out.on (B := w.heap.size) (by have hr := HB1.out.trans (HB.out.mono HB1.out.size); have z := hr.size; exact ((((hr.alloc (by omega) _).alloc (by simp; omega) _).alloc (by simp; omega) _).alloc (by simp; omega) _).alloc (by simp; omega) _) HM.out.lt)).mono ?_); rintro e W7 ⟨⟨v7, rfl, ho7⟩, hb7⟩; obtain ⟨g7, c7, rfl, hg7, hl7⟩ := row_at7 ho7 (by decide); have HO7 := hid ho7; have HB7 := hid hb7; clear ho7 hb7 hg7 hl7)))
   clear cW
   have hA0 := Below.refl wr.heap.size wr
   have hA1 := hA0.alloc hA0.size (.cells #[.int .i64 0, .int .i64 0, .int .i64 0, .int .i64 0] 3)
   have hA2 := hA1.alloc hA1.size (.cells #[.int .i64 0, .int .i64 1, .int .i64 0, .int .i64 1] 3)
   have hA3 := hA2.alloc hA2.size (.cells #[.int .i64 0, .int .i64 1, .int .i64 2, .int .i64 1] 3)
   have hA4 := hA3.alloc hA3.size (.cells #[.int .i64 0, .int .i64 1, .int .i64 2, .int .i64 3] 3)
   have hA5 := hA4.alloc hA4.size (.cells #[.slice (some ⟨wr.heap.size, 0, none⟩) 4 4, .slice (some ⟨wr.heap.size + 1, 0, none⟩) 4 4, .slice (some ⟨wr.heap.size + 1 + 1, 0, none⟩) 4 4, .slice (some ⟨wr.heap.size + 1 + 1 + 1, 0, none⟩) 4 4] 33)
   have hA6 := (hA5.trans (HB7.out.mono hA5.size)).alloc (hA5.trans (HB7.out.mono hA5.size)).size (.cells #[.string ⟨#[109, 97, 114, 103, 105, 110, 45, 116, 111, 112]⟩, .string ⟨#[109, 97, 114, 103, 105, 110, 45, 114, 105, 103, 104, 116]⟩, .string ⟨#[109, 97, 114, 103, 105, 110, 45, 98, 111, 116, 116, 111, 109]⟩, .string ⟨#[109, 97, 114, 103, 105, 110, 45, 108, 101, 102, 116]⟩] 9)
   have bA : Blk ((((wr.alloc (.cells #[.int .i64 0, .int .i64 0, .int .i64 0, .int .i64 0] 3)).alloc (.cells #[.int .i64 0, .int .i64 1, .int .i64 0, .int .i64 1] 3)).alloc (.cells #[.int .i64 0, .int .i64 1, .int .i64 2, .int .i64 1] 3)).alloc (.cells #[.int .i64 0, .int .i64 1, .int .i64 2, .int .i64 3] 3)) (wr.heap.size + 1 + 1 + 1) 3 #[.int .i64 0, .int .i64 1, .int .i64 2, .int .i64 3] := Blk.new (by simp)
   have bB := (bA.alloc (.cells #[.slice (some ⟨wr.heap.size, 0, none⟩) 4 4, .slice (some ⟨wr.heap.size + 1, 0, none⟩) 4 4, .slice (some ⟨wr.heap.size + 1 + 1, 0, none⟩) 4 4, .slice (some ⟨wr.heap.size + 1 + 1 + 1, 0, none⟩) 4 4] 33))
   have bC := (bB.below HB7.out bB.lt).alloc (.cells #[.string ⟨#[109, 97, 114, 103, 105, 110, 45, 116, 111, 112]⟩, .string ⟨#[109, 97, 114, 103, 105, 110, 45, 114, 105, 103, 104, 116]⟩, .string ⟨#[109, 97, 114, 103, 105, 110, 45, 98, 111, 116, 116, 111, 109]⟩, .string ⟨#[109, 97, 114, 103, 105, 110, 45, 108, 101, 102, 116]⟩] 9)
   have bW : Blk (W7.alloc (.cells #[.string ⟨#[109, 97, 114, 103, 105, 110, 45, 116, 111, 112]⟩, .string ⟨#[109, 97, 114, 103, 105, 110, 45, 114, 105, 103, 104, 116]⟩, .string ⟨#[109, 97, 114, 103, 105, 110, 45, 98, 111, 116, 116, 111, 109]⟩, .string ⟨#[109, 97, 114, 103, 105, 110, 45, 108, 101, 102, 116]⟩] 9)) W7.heap.size 9 #[.string ⟨#[109, 97, 114, 103, 105, 110, 45, 116, 111, 112]⟩, .string ⟨#[109, 97, 114, 103, 105, 110, 45, 114, 105, 103, 104, 116]⟩, .string ⟨#[109, 97, 114, 103, 105, 110, 45, 98, 111, 116, 116, 111, 109]⟩, .string ⟨#[109, 97, 114, 103, 105, 110, 45, 108, 101, 102, 116]⟩] := Blk.new rfl
   have rL := row_on HOwn.out hA6
   have rM := row_on HO7.out (ba W7 (.cells #[.string ⟨#[109, 97, 114, 103, 105, 110, 45, 116, 111, 112]⟩, .string ⟨#[109, 97, 114, 103, 105, 110, 45, 114, 105, 103, 104, 116]⟩, .string ⟨#[109, 97, 114, 103, 105, 110, 45, 98, 111, 116, 116, 111, 109]⟩, .string ⟨#[109, 97, 114, 103, 105, 110, 45, 108, 101, 102, 116]⟩] 9))
   have HBw := hid (show Below w.heap.size w (W7.alloc (.cells #[.string ⟨#[109, 97, 114, 103, 105, 110, 45, 116, 111, 112]⟩, .string ⟨#[109, 97, 114, 103, 105, 110, 45, 114, 105, 103, 104, 116]⟩, .string ⟨#[109, 97, 114, 103, 105, 110, 45, 98, 111, 116, 116, 111, 109]⟩, .string ⟨#[109, 97, 114, 103, 105, 110, 45, 108, 101, 102, 116]⟩] 9)) from by have hr := HB1.out.trans (HB.out.mono HB1.out.size); exact hr.trans (hA6.mono hr.size))
   obtain ⟨WL, hWL⟩ : ∃ WL, W7.alloc (.cells #[.string ⟨#[109, 97, 114, 103, 105, 110, 45, 116, 111, 112]⟩, .string ⟨#[109, 97, 114, 103, 105, 110, 45, 114, 105, 103, 104, 116]⟩, .string ⟨#[109, 97, 114, 103, 105, 110, 45, 98, 111, 116, 116, 111, 109]⟩, .string ⟨#[109, 97, 114, 103, 105, 110, 45, 108, 101, 102, 116]⟩] 9) = WL := ⟨_, rfl⟩
   rw [hWL] at bC bW rL rM HBw ⊢
   clear hA0 hA1 hA2 hA3 hA4 hA5 hA6 bA bB hWL HO7 HB7 HOwn lc0 lc1 lc2 lc3
   have w0 : WL.cell? ⟨W7.heap.size, 0, none⟩ = some (.string ⟨#[109, 97, 114, 103, 105, 110, 45, 116, 111, 112]⟩) := (bW.cell 0).trans rfl
   have w1 : WL.cell? ⟨W7.heap.size, 1, none⟩ = some (.string ⟨#[109, 97, 114, 103, 105, 110, 45, 114, 105, 103, 104, 116]⟩) := (bW.cell 1).trans rfl
   have w2 : WL.cell? ⟨W7.heap.size, 2, none⟩ = some (.string ⟨#[109, 97, 114, 103, 105, 110, 45, 98, 111, 116, 116, 111, 109]⟩) := (bW.cell 2).trans rfl
   have w3 : WL.cell? ⟨W7.heap.size, 3, none⟩ = some (.string ⟨#[109, 97, 114, 103, 105, 110, 45, 108, 101, 102, 116]⟩) := (bW.cell 3).trans rfl
   have t0 : WL.cell? ⟨wr.heap.size + 1 + 1 + 1, 0, none⟩ = some (.int .i64 0) := (bC.cell 0).trans rfl
   have t1 : WL.cell? ⟨wr.heap.size + 1 + 1 + 1, 1, none⟩ = some (.int .i64 1) := (bC.cell 1).trans rfl
   have t2 : WL.cell? ⟨wr.heap.size + 1 + 1 + 1, 2, none⟩ = some (.int .i64 2) := (bC.cell 2).trans rfl
   have t3 : WL.cell? ⟨wr.heap.size + 1 + 1 + 1, 3, none⟩ = some (.int .i64 3) := (bC.cell 3).trans rfl
   have l0 : WL.cell? ⟨gl, 0, none⟩ = some (.string (bs (pxT (toldZ a')))) := (rL.cellAt 0 (by decide)).trans rfl
   have l1 : WL.cell? ⟨gl, 1, none⟩ = some (.string (bs (pxT (toldZ b')))) := (rL.cellAt 1 (by decide)).trans rfl
   have l2 : WL.cell? ⟨gl, 2, none⟩ = some (.string (bs (pxT (toldZ c')))) := (rL.cellAt 2 (by decide)).trans rfl
   have l3 : WL.cell? ⟨gl, 3, none⟩ = some (.string (bs (pxT (toldZ d')))) := (rL.cellAt 3 (by decide)).trans rfl
   have n0 : WL.cell? ⟨g7, 0, none⟩ = some (.string ⟨#[109, 97, 114, 103, 105, 110, 45, 116, 111, 112]⟩) := (rM.cellAt 0 (by decide)).trans rfl
   have m0 : WL.cell? ⟨g7, 1, none⟩ = some (.string (bs (pxT (toldZ a')))) := (rM.cellAt 1 (by decide)).trans rfl
   have n1 : WL.cell? ⟨g7, 3, none⟩ = some (.string ⟨#[109, 97, 114, 103, 105, 110, 45, 114, 105, 103, 104, 116]⟩) := (rM.cellAt 3 (by decide)).trans rfl
   have m1 : WL.cell? ⟨g7, 4, none⟩ = some (.string (bs (pxT (toldZ b')))) := (rM.cellAt 4 (by decide)).trans rfl
   have n2 : WL.cell? ⟨g7, 6, none⟩ = some (.string ⟨#[109, 97, 114, 103, 105, 110, 45, 98, 111, 116, 116, 111, 109]⟩) := (rM.cellAt 6 (by decide)).trans rfl
   have m2 : WL.cell? ⟨g7, 7, none⟩ = some (.string (bs (pxT (toldZ c')))) := (rM.cellAt 7 (by decide)).trans rfl
   have n3 : WL.cell? ⟨g7, 9, none⟩ = some (.string ⟨#[109, 97, 114, 103, 105, 110, 45, 108, 101, 102, 116]⟩) := (rM.cellAt 9 (by decide)).trans rfl
   have m3 : WL.cell? ⟨g7, 10, none⟩ = some (.string (bs (pxT (toldZ d')))) := (rM.cellAt 10 (by decide)).trans rfl
   have hall5 : ∀ x ∈ ([1000, 1000, 1000, 1000, toldZ a', toldZ b', toldZ c', toldZ d'] : List Int), x.natAbs <= 1000000000 := by intro x hx; simp at hx; omega
   have hl5 : (lineT [1000, 1000, 1000, 1000, toldZ a', toldZ b', toldZ c', toldZ d']).length <= 8 * 21 := line_len _ hall5
   have cV := hid (fun w hm => wide_many (bs (lineT [1000, 1000, 1000, 1000, toldZ a', toldZ b', toldZ c', toldZ d'])) (by rw [bs_size]; omega) _ (line_parts _ hall5) (by simp) w hm)
   have h5 : (⟨#[49, 112, 120, 32, 49, 112, 120, 32, 49, 112, 120, 32, 49, 112, 120, 32]⟩ : ByteArray) ++ bs (lineT [toldZ a', toldZ b', toldZ c', toldZ d']) = bs (lineT [1000, 1000, 1000, 1000, toldZ a', toldZ b', toldZ c', toldZ d']) := line_five [toldZ a', toldZ b', toldZ c', toldZ d']
   have h6 : ¬ 9223372036854775807 < 16 + (bs (lineT [toldZ a', toldZ b', toldZ c', toldZ d'])).size := by rw [bs_size]; omega
   clear bC bW rL rM hl5 hall5 hll hall
   go_loopw [23] (fun i wq => ∃ k : Nat, k <= 4 /\ i = .int .i64 k /\ ∃ nn, wq = WL.drewN nn) (fun i _ => 4 - (intOf i).toNat)
   case atStart => exact ⟨0, by omega, rfl, 0, rfl⟩
   case round =>
    obtain ⟨k, hk, rfl, nn, hwq⟩ := hrel
    have hcq : ∀ p, wr.cell? p = WL.cell? p := fun p => by rw [hwq]; rfl
    rw [<- hcq] at w0 t0 n0 m0 w1 t1 n1 m1 w2 t2 n2 m2 w3 t3 n3 m3 l0 l1 l2 l3
    replace HBw := hid (show Below w.heap.size w wr by rw [hwq]; exact base.below_drewN HBw.out nn)
    have Hwq := hid hwq
    clear hcq hwq
    have hk' : k = 0 ∨ k = 1 ∨ k = 2 ∨ k = 3 ∨ k = 4 := by omega
    rcases hk' with rfl | rfl | rfl | rfl | rfl
    ·have i2 : (0 : Int) < 4 := by decide
     go_wp2_with fail
     go_quiet (fail)
     go_wp2_with fail
     exact ⟨⟨1, by omega, rfl, drew_more Hwq.out _⟩, by decide⟩
    ·have i2 : (1 : Int) < 4 := by decide
     go_wp2_with fail
     go_quiet (fail)
     go_wp2_with fail
     exact ⟨⟨2, by omega, rfl, drew_more Hwq.out _⟩, by decide⟩
    ·have i2 : (2 : Int) < 4 := by decide
     go_wp2_with fail
     go_quiet (fail)
     go_wp2_with fail
     exact ⟨⟨3, by omega, rfl, drew_more Hwq.out _⟩, by decide⟩
    ·have i2 : (3 : Int) < 4 := by decide
     go_wp2_with fail
     go_quiet (fail)
     go_wp2_with fail
     exact ⟨⟨4, by omega, rfl, drew_more Hwq.out _⟩, by decide⟩
    ·have i2 : ¬ (4 : Int) < 4 := by decide
     go_wp2_with (first
      | (go_at_call 8; (with_reducible refine (cV.out _ (HM.out.on HBw.out HM.out.lt)).mono ?_); rintro e W9 ⟨rfl, hb9⟩; have HB9 := hid (tb HBw hb9); clear hb9))
     exact bodyPost_ret (v := .bool true) (by simp [results, Tryz.results4, go_sem]) rfl ⟨rfl, HB9.out⟩
end prp
end Go.Proofs.YtlfkkaofgcongaaGreatDoor
