/- Contracts and plain law, a bundle. -/
import Derived.Lib.Hide
import Derived.Test.YtaobpkffcolobaaGreatDoorBX
set_option linter.unusedVariables false
set_option maxRecDepth 100000
set_option maxHeartbeats 16000000
open Go.Lib (hid)
namespace Go.Proofs.YtaobpkffcolobaaGreatDoor
namespace sel
open Go.RowKit base tok dim rul
theorem joins_2 (a b : List Ts) (A B : Option Addr) (ca cb : Nat) (n : Int) (q1 : (IntKind.u64.wrap n).tmod 4 = 2) (sa sb : Bs) (hsa : sa.length <= 400) (hsb : sb.length <= 400) (hTa : ∀ A cap X w, MaxL w -> PowAt w -> PasV X w [.mk [a] []] A cap -> Calls Tryz.prog 12 #[.slice A 1 cap] w (rt w (.tuple #[.string (bs sa), .int .i64 0]))) (hTb : ∀ A cap X w, MaxL w -> PowAt w -> PasV X w [.mk [b] []] A cap -> Calls Tryz.prog 12 #[.slice A 1 cap] w (rt w (.tuple #[.string (bs sb), .int .i64 0])))
  (hz : szL [(.mk [a, b] [126])] <= 2000000) (hj0 : JoinC (sa ++ ([126] ++ sb)) (.mk [a, b] [126])) (hj1 : JoinC (sa ++ ([32, 126, 32] ++ sb)) (.mk [a, b] [126])) (hj2 : JoinC (sa ++ ([126] ++ sb)) (.mk [a, b] [126])) (w : World) (hE : SEnv w) (hT : PowAt w) (ha : StV w a A ca) (hb : StV w b B cb) :
  Calls Tryz.prog 6 #[.slice A a.length ca, .slice B b.length cb, .int .i64 n] w (rt w (.bool true)) := by
 have cL := hid (fun w hE => listed_ct w hE)
 have HE := hid hE
 have HT := hid hT
 have HA := hid ha
 have HB := hid hb
 have cTa := hid hTa
 have cTb := hid hTb
 have HZ := hid hz
 have hJ0 := hid hj0
 have hJ1 := hid hj1
 have hJ2 := hid hj2
 have za : (bs sa).size = sa.length := rfl
 have zb : (bs sb).size = sb.length := rfl
 have cD := hid (fun A A' cap cap' w => same_len_no2 A A' 0 1 cap cap' (by decide) w)
 clear hTa hTb hE hT ha hb hz hj0 hj1 hj2
 go_enter Tryz.func6, Tryz.ntmps6
 go_wp2_with (first
  | (go_at_call 8; (with_reducible refine (cL.out _ HE.out).mono ?_); rintro e W1 ⟨rfl, hb1⟩; have HB1 := hid hb1; have PA := own_one (HA.out.on hb1); have PB := own_one (V := ((W1.alloc (.cells #[.slice A a.length ca] 27)).alloc (.cells #[.slice (some ⟨W1.heap.size, 0, none⟩) 1 1, .slice none 0 0] 36))) ((HB.out.on hb1).on ((ba _ _).alloc (by simp) _)); have BQ := hid (show Below w.heap.size w ((((W1.alloc (.cells #[.slice A a.length ca] 27)).alloc (.cells #[.slice (some ⟨W1.heap.size, 0, none⟩) 1 1, .slice none 0 0] 36)).alloc (.cells #[.slice B b.length cb] 27)).alloc (.cells #[.slice (some ⟨W1.heap.size + 2, 0, none⟩) 1 1, .slice none 0 0] 36)) from (((hb1.alloc hb1.size _).alloc (by have := hb1.size; simp; omega) _).alloc (by have := hb1.size; simp; omega) _).alloc (by have := hb1.size; simp; omega) _); have PA2 := hid (PasV.on PA (w' := ((((W1.alloc (.cells #[.slice A a.length ca] 27)).alloc (.cells #[.slice (some ⟨W1.heap.size, 0, none⟩) 1 1, .slice none 0 0] 36)).alloc (.cells #[.slice B b.length cb] 27)).alloc (.cells #[.slice (some ⟨W1.heap.size + 2, 0, none⟩) 1 1, .slice none 0 0] 36))) ((ba _ _).alloc (by simp) _)); simp only [World.size_alloc] at PB; have PB2 := hid PB; clear hb1 PA PB)
  | (go_at_call 12; (with_reducible refine (cTa.out _ _ _ _ (HE.out.on BQ.out).max (HT.out.on BQ.out) PA2.out).mono ?_); rintro e W2 ⟨rfl, hb2⟩; have HB2 := hid (tb BQ hb2); have PB3 := hid (PB2.out.on hb2); replace cTa := hid trivial; clear hb2)
  | (go_at_call 12; (with_reducible refine (cTb.out _ _ _ _ (HE.out.on HB2.out).max (HT.out.on HB2.out) PB3.out).mono ?_); rintro e W3 ⟨rfl, hb3⟩; have HB3 := hid (tb HB2 hb3); clear hb3))
 go_loopw [16] (fun i wr => ∃ k : Nat, k <= 3 /\ i = .int .i64 k /\ Below w.heap.size w wr /\ wr.cell? ⟨W3.heap.size + 3, 0, none⟩ = some (.string ⟨#[126]⟩) /\ wr.cell? ⟨W3.heap.size + 3, 1, none⟩ = some (.string ⟨#[32, 126, 32]⟩) /\ wr.cell? ⟨W3.heap.size + 3, 2, none⟩ = some (.string ⟨#[126]⟩) /\ W3.heap.size + 6 <= wr.heap.size) (fun i _ => 3 - (intOf i).toNat)
 case atStart =>
  have h3 := HB3.out.size
  refine ⟨0, by omega, rfl, (((((HB3.out.alloc h3 _).alloc (by simp; omega) _).alloc (by simp; omega) _).alloc (by simp; omega) _).alloc (by simp; omega) _).alloc (by simp; omega) _, ?_, ?_, ?_, by simp⟩
  all_goals exact (Blk.alloc (Blk.alloc (Blk.new (by simp)) _) _ : Blk _ (W3.heap.size + 3) 9 #[.string ⟨#[126]⟩, .string ⟨#[32, 126, 32]⟩, .string ⟨#[126]⟩]).cell _
 case round =>
  obtain ⟨k, hk, rfl, hb, k0, k1, k2, hzr⟩ := hrel
  have HBr := hid hb
  have K0 := hid k0
  have K1 := hid k1
  have K2 := hid k2
  clear hb
  by_cases h3 : k = 3
  ·subst h3
   go_wp2_with fail
   go_ret
   exact ⟨rfl, HBr.out⟩
  have hJ : ∃ (bt : ByteArray) (X : Bs), (bs sa ++ bt ++ bs sb : ByteArray) = bs X /\ bt.size <= 6 /\ wr.cell? ⟨W3.heap.size + 3, k, none⟩ = some (.string bt) /\ JoinC X (.mk [a, b] [126]) := by
   rcases (show k = 0 ∨ k = 1 ∨ k = 2 from by omega) with rfl | rfl | rfl
   ·exact ⟨⟨#[126]⟩, _, by apply ByteArray.ext; apply Array.ext'; simp [bs, ByteArray.data_append], by decide, K0.out, hJ0.out⟩
   ·exact ⟨⟨#[32, 126, 32]⟩, _, by apply ByteArray.ext; apply Array.ext'; simp [bs, ByteArray.data_append], by decide, K1.out, hJ1.out⟩
   ·exact ⟨⟨#[126]⟩, _, by apply ByteArray.ext; apply Array.ext'; simp [bs, ByteArray.data_append], by decide, K2.out, hJ2.out⟩
  obtain ⟨bt, X, hcat, hbt, kk, hJ⟩ := hJ
  have hk3 : (k : Int) < 3 := by omega
  have l1 : ¬ 9223372036854775807 < (bs sa).size + bt.size := by omega
  have l2 : ¬ 9223372036854775807 < (bs sa).size + bt.size + (bs sb).size := by omega
  clear k0 k1 k2
  unfold JoinC at hJ
  rcases hJ with ⟨cR, hsm, hc40⟩ | cR | ⟨cR, hx⟩
  ·have cS := hid (fun A A' cap cap' X Y w (h1 : PasV X w [(.mk [a, b] [126])] A cap) (h2 : PasV Y w [(.mk [a, b] [126])] A' cap') => show Calls Tryz.prog 10 #[.slice A 1 cap, .slice A' 1 cap'] w ((rt w (.bool true))) from same_all 40 (by omega) [(.mk [a, b] [126])] hc40 hsm A A' cap cap' X Y w h1 h2)
   clear hsm hc40
   replace cR := hid cR
   go_wp2_with (first
    | (go_at_call 9; (with_reducible refine (cR.out _ (HE.out.on HBr.out)).mono ?_); rintro e W4 ⟨⟨A4, c4, rfl, hv4⟩, hb4⟩; have HR4 := hid hb4; have HW4 := hid (HBr.out.trans (HR4.out.mono HBr.out.size)); have OW := own_two (j := 126) (V := W4) (HA.out.on HW4.out) (HB.out.on HW4.out); replace OW := hid OW; have BO := hid (show Below W4.heap.size W4 (own2 W4 A a.length ca B b.length cb 126) from own2_below _ _ _ _ _ _ _ _); have HR4b := hid (HR4.out.trans (BO.out.mono HR4.out.size)); have V4 := hid (hv4.on BO.out); clear hv4; clear hb4)
    | (go_at_call 10; (with_reducible refine (cS.out _ _ _ _ _ _ _ V4.out OW.out).mono ?_); rintro e W5 ⟨rfl, hb5⟩; have HR5 := hid (tb HR4b hb5); have HW5 := hid (HBr.out.trans (HR5.out.mono HBr.out.size)); clear hb5))
   go_roundw
   case rel => exact ⟨k + 1, by omega, by go_num, HW5.out, (HR5.out.cell (p := ⟨W3.heap.size + 3, 0, none⟩) (by dsimp only; omega)).trans K0.out, (HR5.out.cell (p := ⟨W3.heap.size + 3, 1, none⟩) (by dsimp only; omega)).trans K1.out, (HR5.out.cell (p := ⟨W3.heap.size + 3, 2, none⟩) (by dsimp only; omega)).trans K2.out, by have := HR5.out.size; omega⟩
   case measure => simp [intOf]; omega
  ·replace cR := hid cR
   go_wp2_with (first
    | (go_at_call 9; (with_reducible refine (cR.out _ (HE.out.on HBr.out)).mono ?_); rintro e W4 ⟨rfl, hb4⟩; have HR4 := hid hb4; have HW4 := hid (HBr.out.trans (HR4.out.mono HBr.out.size)); have OW := own_two (j := 126) (V := W4) (HA.out.on HW4.out) (HB.out.on HW4.out); replace OW := hid OW; have BO := hid (show Below W4.heap.size W4 (own2 W4 A a.length ca B b.length cb 126) from own2_below _ _ _ _ _ _ _ _); have HR4b := hid (HR4.out.trans (BO.out.mono HR4.out.size)); clear hb4)
    | (go_at_call 10; (with_reducible refine (cD.out _ _ _ _ _).mono ?_); rintro e W5 ⟨rfl, hb5⟩; have HR5 := hid (tb HR4b hb5); have HW5 := hid (HBr.out.trans (HR5.out.mono HBr.out.size)); clear hb5))
   go_roundw
   case rel => exact ⟨k + 1, by omega, by go_num, HW5.out, (HR5.out.cell (p := ⟨W3.heap.size + 3, 0, none⟩) (by dsimp only; omega)).trans K0.out, (HR5.out.cell (p := ⟨W3.heap.size + 3, 1, none⟩) (by dsimp only; omega)).trans K1.out, (HR5.out.cell (p := ⟨W3.heap.size + 3, 2, none⟩) (by dsimp only; omega)).trans K2.out, by have := HR5.out.size; omega⟩
   case measure => simp [intOf]; omega
  ·obtain ⟨x, hxe⟩ : ∃ x, errC [(.mk [a, b] [126])] = x := ⟨_, rfl⟩
   have cK0 : ∀ A cap X w, MaxL w -> PasV X w [(.mk [a, b] [126])] A cap -> Calls Tryz.prog 13 #[.slice A 1 cap] w (rt w (.int .i64 x)) := fun A cap X w hM hv => by
    have h := check_any [(.mk [a, b] [126])] HZ.out A cap X w hM hv
    rw [hxe] at h
    exact h
   have cK := hid cK0
   rw [hxe] at hx
   have hz : (x == 0) = false := bq hx
   clear cK0 hxe hx
   replace cR := hid cR
   go_wp2_with (first
    | (go_at_call 9; (with_reducible refine (cR.out _ (HE.out.on HBr.out)).mono ?_); rintro e W4 ⟨rfl, hb4⟩; have HR4 := hid hb4; have HW4 := hid (HBr.out.trans (HR4.out.mono HBr.out.size)); have OW := own_two (j := 126) (V := W4) (HA.out.on HW4.out) (HB.out.on HW4.out); replace OW := hid OW; have BO := hid (show Below W4.heap.size W4 (own2 W4 A a.length ca B b.length cb 126) from own2_below _ _ _ _ _ _ _ _); have HR4b := hid (HR4.out.trans (BO.out.mono HR4.out.size)); clear hb4)
    | (go_at_call 10; (with_reducible refine (cD.out _ _ _ _ _).mono ?_); rintro e W5 ⟨rfl, hb5⟩; have HR5 := hid (tb HR4b hb5); have HW5 := hid (HBr.out.trans (HR5.out.mono HBr.out.size)); have OW5 := hid (own_two (j := 126) (V := W5) (HA.out.on HW5.out) (HB.out.on HW5.out)); have BO5 := hid (show Below W5.heap.size W5 (own2 W5 A a.length ca B b.length cb 126) from own2_below _ _ _ _ _ _ _ _); have HR5b := hid (HR5.out.trans (BO5.out.mono HR5.out.size)); have HW5b := hid (HBr.out.trans (HR5b.out.mono HBr.out.size)); clear hb5)
    | (go_at_call 13; (with_reducible refine (cK.out _ _ _ _ (HE.out.on HW5b.out).max OW5.out).mono ?_); rintro e W6 ⟨rfl, hb6⟩; have HR6 := hid (tb HR5b hb6); have HW6 := hid (HBr.out.trans (HR6.out.mono HBr.out.size)); clear hb6))
   go_roundw
   case rel => exact ⟨k + 1, by omega, by go_num, HW6.out, (HR6.out.cell (p := ⟨W3.heap.size + 3, 0, none⟩) (by dsimp only; omega)).trans K0.out, (HR6.out.cell (p := ⟨W3.heap.size + 3, 1, none⟩) (by dsimp only; omega)).trans K1.out, (HR6.out.cell (p := ⟨W3.heap.size + 3, 2, none⟩) (by dsimp only; omega)).trans K2.out, by have := HR6.out.size; omega⟩
   case measure => simp [intOf]; omega
end sel
end Go.Proofs.YtaobpkffcolobaaGreatDoor
