/- Contracts and plain law, a bundle. -/
import Derived.Lib.Hide
import Derived.Test.YtaobpkffcolobaaGreatDoorBM
import Derived.Test.YtaobpkffcolobaaGreatDoorBF2
set_option linter.unusedVariables false
set_option maxRecDepth 100000
set_option maxHeartbeats 16000000
open Go.Lib (hid)
namespace Go.Proofs.YtaobpkffcolobaaGreatDoor
namespace sel
open Go.RowKit Go.Sort base tok rul
theorem counts_yes {k : Int} (h : k = 8 ∨ k = 9) (n : ByteArray) (o : Int) (v : ByteArray) (a c : Int) (A : Option Addr) (m cap : Nat) (w : World) :
  Calls Tryz.prog 71 #[(aTs k n o v a c A m cap)] w (rt w (.bool true)) := by
 rcases h with rfl | rfl
 ·exact counts_yes1 n o v a c A m cap w
 ·exact counts_yes2 n o v a c A m cap w
theorem nested_yes {k : Int} (h : k = 10 ∨ k = 11) (n : ByteArray) (o : Int) (v : ByteArray) (a c : Int) (A : Option Addr) (m cap : Nat) (w : World) :
  Calls Tryz.prog 72 #[(aTs k n o v a c A m cap)] w (rt w (.bool true)) := by
 rcases h with rfl | rfl
 ·exact nested_yes1 n o v a c A m cap w
 ·exact nested_yes2 n o v a c A m cap w
theorem opOk_no {op : UInt8} (h : opOk op = false) : (Lib.indexByte [61, 126, 124, 94, 36, 42] op : Int) < 0 := by
 have h1 : op ≠ 61 /\ op ≠ 126 /\ op ≠ 124 /\ op ≠ 94 /\ op ≠ 36 /\ op ≠ 42 := by simpa [opOk, and_assoc] using h
 obtain ⟨a1, a2, a3, a4, a5, a6⟩ := h1
 have : Lib.indexByte [61, 126, 124, 94, 36, 42] op = -1 := by
  simp [Lib.indexByte, Ne.symm a1, Ne.symm a2, Ne.symm a3, Ne.symm a4, Ne.symm a5, Ne.symm a6]
 omega
theorem bad_under (k : Int) (hk : k < 1) (n : ByteArray) (i : Nat) (o : Int) (v : ByteArray) (a c : Int) (A : Option Addr) (m cap : Nat) (w : World) :
  Calls Tryz.prog 42 #[(aTs k n o v a c A m cap), .int .i64 i] w (rt w (.bool false)) := by
 have g2 : decide ((2 : Int) <= k) = false := df (by omega)
 have l1 : decide (k < 1) = true := dt (by omega)
 clear hk
 have HB0 := hid (show Below w.heap.size w (w.alloc (oTs k n o v a c A m cap)) from ba _ _)
 go_enter Tryz.func42, Tryz.ntmps42
 go_wp2_with fail
 go_ret
 exact ⟨rfl, HB0.out⟩
theorem bad_over (k : Int) (hk : 11 < k) (n : ByteArray) (i : Nat) (o : Int) (v : ByteArray) (a c : Int) (A : Option Addr) (m cap : Nat) (w : World) :
  Calls Tryz.prog 42 #[(aTs k n o v a c A m cap), .int .i64 i] w (rt w (.bool false)) := by
 have g2 : decide ((2 : Int) <= k) = true := dt (by omega)
 have g5 : decide (k <= 5) = false := df (by omega)
 have l1 : decide (k < 1) = false := df (by omega)
 have l11 : decide ((11 : Int) < k) = true := dt (by omega)
 clear hk
 have HB0 := hid (show Below w.heap.size w (w.alloc (oTs k n o v a c A m cap)) from ba _ _)
 go_enter Tryz.func42, Tryz.ntmps42
 go_wp2_with fail
 go_ret
 exact ⟨rfl, HB0.out⟩
theorem bad_at1 (n : ByteArray) (i : Nat) (hi : 0 < i) (o : Int) (v : ByteArray) (a c : Int) (A : Option Addr) (m cap : Nat) (w : World) :
  Calls Tryz.prog 42 #[(aTs 1 n o v a c A m cap), .int .i64 i] w (rt w (.bool false)) := by
 have hat : decide ((0 : Int) < (i : Int)) = true := dt (by omega)
 have HB0 := hid (show Below w.heap.size w (w.alloc (oTs 1 n o v a c A m cap)) from ba _ _)
 go_enter Tryz.func42, Tryz.ntmps42
 go_wp2_with fail
 go_ret
 exact ⟨rfl, HB0.out⟩
theorem bad_at2 (n : ByteArray) (i : Nat) (hi : 0 < i) (o : Int) (v : ByteArray) (a c : Int) (A : Option Addr) (m cap : Nat) (w : World) :
  Calls Tryz.prog 42 #[(aTs 2 n o v a c A m cap), .int .i64 i] w (rt w (.bool false)) := by
 have hat : decide ((0 : Int) < (i : Int)) = true := dt (by omega)
 have HB0 := hid (show Below w.heap.size w (w.alloc (oTs 2 n o v a c A m cap)) from ba _ _)
 go_enter Tryz.func42, Tryz.ntmps42
 go_wp2_with fail
 go_ret
 exact ⟨rfl, HB0.out⟩
theorem bad_unnamed_2 (o : Int) (v : ByteArray) (a c : Int) (A : Option Addr) (m : Nat) (cap : Nat) (w : World) :
  Calls Tryz.prog 42 #[(aTs 2 ⟨#[]⟩ o v a c A m cap), .int .i64 0] w (rt w (.bool false)) := by
 have HB0 := hid (show Below w.heap.size w (w.alloc (oTs 2 ⟨#[]⟩ o v a c A m cap)) from ba _ _)
 go_enter Tryz.func42, Tryz.ntmps42
 go_wp2_with fail
 go_ret
 exact ⟨rfl, HB0.out⟩
theorem bad_unnamed_34 (k : Int) (hk : 3 <= k /\ k <= 4) (i : Nat) (o : Int) (v : ByteArray) (a c : Int) (A : Option Addr) (m : Nat) (cap : Nat) (w : World) :
  Calls Tryz.prog 42 #[(aTs k ⟨#[]⟩ o v a c A m cap), .int .i64 i] w (rt w (.bool false)) := by
 have kg2 : decide ((2 : Int) <= k) = true := dt (by omega)
 have kg5 : decide (k <= 5) = true := dt (by omega)
 have kl1 : decide (k < 1) = false := df (by omega)
 have kl11 : decide ((11 : Int) < k) = false := df (by omega)
 have kle2 : decide (k <= 2) = false := df (by omega)
 have ke2 : (k == 2) = false := bq (by omega)
 have ke5 : (k == 5) = false := bq (by omega)
 have kn5 : ¬ k = 5 := by omega
 have kb5 : (k != 5) = true := by rw [bne_iff_ne]; exact kn5
 have hk8 : k ≠ 8 := by omega
 have hk9 : k ≠ 9 := by omega
 have hk10 : k ≠ 10 := by omega
 have hk11 : k ≠ 11 := by omega
 clear hk
 have HB0 := hid (show Below w.heap.size w (w.alloc (oTs k ⟨#[]⟩ o v a c A m cap)) from ba _ _)
 go_enter Tryz.func42, Tryz.ntmps42
 go_wp2_with fail
 go_ret
 exact ⟨rfl, HB0.out⟩
theorem bad_unnamed_5 (i : Nat) (o : Int) (v : ByteArray) (a c : Int) (A : Option Addr) (m : Nat) (cap : Nat) (w : World) :
  Calls Tryz.prog 42 #[(aTs 5 ⟨#[]⟩ o v a c A m cap), .int .i64 i] w (rt w (.bool false)) := by
 have HB0 := hid (show Below w.heap.size w (w.alloc (oTs 5 ⟨#[]⟩ o v a c A m cap)) from ba _ _)
 go_enter Tryz.func42, Tryz.ntmps42
 go_wp2_with fail
 go_ret
 exact ⟨rfl, HB0.out⟩
theorem bad_named_1 (n : Bs) (hn0 : n ≠ []) (o : Int) (v : ByteArray) (a c : Int) (A : Option Addr) (m : Nat) (cap : Nat) (w : World) :
  Calls Tryz.prog 42 #[(aTs 1 (bs n) o v a c A m cap), .int .i64 0] w (rt w (.bool false)) := by
 have e0 : (bs n).toList.isEmpty = false := by rw [bs_toList]; cases n; exact absurd rfl hn0; rfl
 have e1 : ((bs n).toList == []) = false := by rw [bs_toList, beq_eq_false_iff_ne]; exact hn0
 have HB0 := hid (show Below w.heap.size w (w.alloc (oTs 1 (bs n) o v a c A m cap)) from ba _ _)
 go_enter Tryz.func42, Tryz.ntmps42
 go_wp2_with fail
 go_ret
 exact ⟨rfl, HB0.out⟩
theorem bad_named_6p (k : Int) (hk : 6 <= k /\ k <= 11) (n : Bs) (hn0 : n ≠ []) (i : Nat) (o : Int) (v : ByteArray) (a c : Int) (A : Option Addr) (m : Nat) (cap : Nat) (w : World) :
  Calls Tryz.prog 42 #[(aTs k (bs n) o v a c A m cap), .int .i64 i] w (rt w (.bool false)) := by
 have kg2 : decide ((2 : Int) <= k) = true := dt (by omega)
 have kg5 : decide (k <= 5) = false := df (by omega)
 have kl1 : decide (k < 1) = false := df (by omega)
 have kl11 : decide ((11 : Int) < k) = false := df (by omega)
 have kle2 : decide (k <= 2) = false := df (by omega)
 have ke2 : (k == 2) = false := bq (by omega)
 have ke5 : (k == 5) = false := bq (by omega)
 have kn5 : ¬ k = 5 := by omega
 have kb5 : (k != 5) = true := by rw [bne_iff_ne]; exact kn5
 clear hk
 have e0 : (bs n).toList.isEmpty = false := by rw [bs_toList]; cases n; exact absurd rfl hn0; rfl
 have e1 : ((bs n).toList == []) = false := by rw [bs_toList, beq_eq_false_iff_ne]; exact hn0
 have HB0 := hid (show Below w.heap.size w (w.alloc (oTs k (bs n) o v a c A m cap)) from ba _ _)
 go_enter Tryz.func42, Tryz.ntmps42
 go_wp2_with fail
 go_ret
 exact ⟨rfl, HB0.out⟩
theorem bad_name_2 (n : Bs) (hn0 : n ≠ []) (hn : nameB n = false) (hnl : n.length <= 2000000) (o : Int) (v : ByteArray) (a c : Int) (A : Option Addr) (m : Nat) (cap : Nat) (w : World) (hM : MaxL w) :
  Calls Tryz.prog 42 #[(aTs 2 (bs n) o v a c A m cap), .int .i64 0] w (rt w (.bool false)) := by
 have cN : ∀ w, MaxL w -> Calls Tryz.prog 69 #[.string (bs n)] w (rt w (.bool false)) := fun w hm => by
  have h := name_ct n hnl w hm
  rw [hn] at h
  exact h
 replace cN := hid cN
 have e0 : (bs n).toList.isEmpty = false := by rw [bs_toList]; cases n; exact absurd rfl hn0; rfl
 have e1 : ((bs n).toList == []) = false := by rw [bs_toList, beq_eq_false_iff_ne]; exact hn0
 have HM := hid hM
 clear hM
 have HB0 := hid (show Below w.heap.size w (w.alloc (oTs 2 (bs n) o v a c A m cap)) from ba _ _)
 go_enter Tryz.func42, Tryz.ntmps42
 go_wp2_with (go_at_call 69; (with_reducible refine (cN.out _ (HM.out.on (ba w (oTs 2 (bs n) o v a c A m cap)) HM.out.lt)).mono ?_); rintro e W1 ⟨rfl, hb1⟩; have hq1 := (Blk.new (w := w) (t := 26) (cs := (rTs 2 (bs n) o v a c A m cap)) rfl).below hb1 (Blk.new (w := w) (t := 26) (cs := (rTs 2 (bs n) o v a c A m cap)) rfl).lt; have q1c := hq1.cell; have Q1 := hid hq1; have HB1 := hid ((ba w (oTs 2 (bs n) o v a c A m cap)).trans (hb1.mono (ba w (oTs 2 (bs n) o v a c A m cap)).size)); clear hb1 hq1)
 go_ret
 exact ⟨rfl, HB1.out⟩
theorem bad_name_34 (k : Int) (hk : 3 <= k /\ k <= 4) (n : Bs) (hn0 : n ≠ []) (hn : nameB n = false) (hnl : n.length <= 2000000) (i : Nat) (o : Int) (v : ByteArray) (a c : Int) (A : Option Addr) (m : Nat) (cap : Nat) (w : World) (hM : MaxL w) :
  Calls Tryz.prog 42 #[(aTs k (bs n) o v a c A m cap), .int .i64 i] w (rt w (.bool false)) := by
 have kg2 : decide ((2 : Int) <= k) = true := dt (by omega)
 have kg5 : decide (k <= 5) = true := dt (by omega)
 have kl1 : decide (k < 1) = false := df (by omega)
 have kl11 : decide ((11 : Int) < k) = false := df (by omega)
 have kle2 : decide (k <= 2) = false := df (by omega)
 have ke2 : (k == 2) = false := bq (by omega)
 have ke5 : (k == 5) = false := bq (by omega)
 have kn5 : ¬ k = 5 := by omega
 have kb5 : (k != 5) = true := by rw [bne_iff_ne]; exact kn5
 have hk8 : k ≠ 8 := by omega
 have hk9 : k ≠ 9 := by omega
 have hk10 : k ≠ 10 := by omega
 have hk11 : k ≠ 11 := by omega
 clear hk
 have cN : ∀ w, MaxL w -> Calls Tryz.prog 69 #[.string (bs n)] w (rt w (.bool false)) := fun w hm => by
  have h := name_ct n hnl w hm
  rw [hn] at h
  exact h
 replace cN := hid cN
 have e0 : (bs n).toList.isEmpty = false := by rw [bs_toList]; cases n; exact absurd rfl hn0; rfl
 have e1 : ((bs n).toList == []) = false := by rw [bs_toList, beq_eq_false_iff_ne]; exact hn0
 have HM := hid hM
 clear hM
 have HB0 := hid (show Below w.heap.size w (w.alloc (oTs k (bs n) o v a c A m cap)) from ba _ _)
 go_enter Tryz.func42, Tryz.ntmps42
 go_wp2_with (go_at_call 69; (with_reducible refine (cN.out _ (HM.out.on (ba w (oTs k (bs n) o v a c A m cap)) HM.out.lt)).mono ?_); rintro e W1 ⟨rfl, hb1⟩; have hq1 := (Blk.new (w := w) (t := 26) (cs := (rTs k (bs n) o v a c A m cap)) rfl).below hb1 (Blk.new (w := w) (t := 26) (cs := (rTs k (bs n) o v a c A m cap)) rfl).lt; have q1c := hq1.cell; have Q1 := hid hq1; have HB1 := hid ((ba w (oTs k (bs n) o v a c A m cap)).trans (hb1.mono (ba w (oTs k (bs n) o v a c A m cap)).size)); clear hb1 hq1)
 go_ret
 exact ⟨rfl, HB1.out⟩
theorem bad_name_5 (n : Bs) (hn0 : n ≠ []) (hn : nameB n = false) (hnl : n.length <= 2000000) (i : Nat) (o : Int) (v : ByteArray) (a c : Int) (A : Option Addr) (m : Nat) (cap : Nat) (w : World) (hM : MaxL w) :
  Calls Tryz.prog 42 #[(aTs 5 (bs n) o v a c A m cap), .int .i64 i] w (rt w (.bool false)) := by
 have cN : ∀ w, MaxL w -> Calls Tryz.prog 69 #[.string (bs n)] w (rt w (.bool false)) := fun w hm => by
  have h := name_ct n hnl w hm
  rw [hn] at h
  exact h
 replace cN := hid cN
 have e0 : (bs n).toList.isEmpty = false := by rw [bs_toList]; cases n; exact absurd rfl hn0; rfl
 have e1 : ((bs n).toList == []) = false := by rw [bs_toList, beq_eq_false_iff_ne]; exact hn0
 have HM := hid hM
 clear hM
 have HB0 := hid (show Below w.heap.size w (w.alloc (oTs 5 (bs n) o v a c A m cap)) from ba _ _)
 go_enter Tryz.func42, Tryz.ntmps42
 go_wp2_with (go_at_call 69; (with_reducible refine (cN.out _ (HM.out.on (ba w (oTs 5 (bs n) o v a c A m cap)) HM.out.lt)).mono ?_); rintro e W1 ⟨rfl, hb1⟩; have hq1 := (Blk.new (w := w) (t := 26) (cs := (rTs 5 (bs n) o v a c A m cap)) rfl).below hb1 (Blk.new (w := w) (t := 26) (cs := (rTs 5 (bs n) o v a c A m cap)) rfl).lt; have q1c := hq1.cell; have Q1 := hid hq1; have HB1 := hid ((ba w (oTs 5 (bs n) o v a c A m cap)).trans (hb1.mono (ba w (oTs 5 (bs n) o v a c A m cap)).size)); clear hb1 hq1)
 go_ret
 exact ⟨rfl, HB1.out⟩
end sel
namespace sel
open Go.RowKit Go.Sort base tok rul
theorem bad_subs_1 (A : Option Addr) (m : Nat) (hm0 : m ≠ 0) (cap : Nat) (w : World) :
  Calls Tryz.prog 42 #[(aTs 1 ⟨#[]⟩ 0 ⟨#[]⟩ 0 0 A m cap), .int .i64 0] w (rt w (.bool false)) := by
 have hm1 : ((m : Int) == 0) = false := bq (by omega)
 have hm2 : ¬ m = 0 := hm0
 clear hm0
 have HB0 := hid (show Below w.heap.size w (w.alloc (oTs 1 ⟨#[]⟩ 0 ⟨#[]⟩ 0 0 A m cap)) from ba _ _)
 go_enter Tryz.func42, Tryz.ntmps42
 go_wp2_with fail
 go_region
 all_goals
  go_wp2_with (first
   | (go_at_call 71; (with_reducible refine (counts_no 1 (by decide) (by decide) _ _ _ _ _ _ _ _ _).mono ?_); rintro e W1 ⟨rfl, hb1⟩; have hq1 := (Blk.new (w := w) (t := 26) (cs := (rTs 1 ⟨#[]⟩ 0 ⟨#[]⟩ 0 0 A m cap)) rfl).drew.below hb1 (Blk.new (w := w) (t := 26) (cs := (rTs 1 ⟨#[]⟩ 0 ⟨#[]⟩ 0 0 A m cap)) rfl).drew.lt; have q1c := hq1.cell; have Q1 := hid hq1; have HB1 := hid ((ba w (oTs 1 ⟨#[]⟩ 0 ⟨#[]⟩ 0 0 A m cap)).drew.trans (hb1.mono (ba w (oTs 1 ⟨#[]⟩ 0 ⟨#[]⟩ 0 0 A m cap)).drew.size)); clear hb1 hq1)
   | (go_at_call 72; (with_reducible refine (nested_no 1 (by decide) (by decide) _ _ _ _ _ _ _ _ _).mono ?_); rintro e W2 ⟨rfl, hb2⟩; have hq2 := Q1.out.below hb2 Q1.out.lt; have q2c := hq2.cell; have Q2 := hid hq2; have HB2 := hid (tb HB1 hb2); clear hb2 hq2))
  go_ret
  exact ⟨rfl, HB2.out⟩
theorem bad_subs_2 (n : Bs) (hn0 : n ≠ []) (hn : nameB n = true) (hnl : n.length <= 2000000) (hlow : n = lowP n) (A : Option Addr) (m : Nat) (hm0 : m ≠ 0) (cap : Nat) (w : World) (hM : MaxL w) :
  Calls Tryz.prog 42 #[(aTs 2 (bs n) 0 ⟨#[]⟩ 0 0 A m cap), .int .i64 0] w (rt w (.bool false)) := by
 have cN : ∀ w, MaxL w -> Calls Tryz.prog 69 #[.string (bs n)] w (rt w (.bool true)) := fun w hm => by
  have h := name_ct n hnl w hm
  rw [hn] at h
  exact h
 replace cN := hid cN
 have e0 : (bs n).toList.isEmpty = false := by rw [bs_toList]; cases n; exact absurd rfl hn0; rfl
 have e1 : ((bs n).toList == []) = false := by rw [bs_toList, beq_eq_false_iff_ne]; exact hn0
 have cL : ∀ w, Calls Tryz.prog 70 #[.string (bs n)] w (rt w (.string (bs n))) := fun w => by
  have h := low_ct (bs n) (by rw [bs_size]; omega) w
  rw [show ((bs n).data.toList.map lowB) = n from hlow.symm] at h
  exact h
 replace cL := hid cL
 clear hlow
 have hm1 : ((m : Int) == 0) = false := bq (by omega)
 have hm2 : ¬ m = 0 := hm0
 clear hm0
 have HM := hid hM
 clear hM
 have HB0 := hid (show Below w.heap.size w (w.alloc (oTs 2 (bs n) 0 ⟨#[]⟩ 0 0 A m cap)) from ba _ _)
 go_enter Tryz.func42, Tryz.ntmps42
 go_wp2_with ((go_at_call 69; (with_reducible refine (cN.out _ (HM.out.on (ba w (oTs 2 (bs n) 0 ⟨#[]⟩ 0 0 A m cap)) HM.out.lt)).mono ?_); rintro e W1 ⟨rfl, hb1⟩; have hq1 := (Blk.new (w := w) (t := 26) (cs := (rTs 2 (bs n) 0 ⟨#[]⟩ 0 0 A m cap)) rfl).below hb1 (Blk.new (w := w) (t := 26) (cs := (rTs 2 (bs n) 0 ⟨#[]⟩ 0 0 A m cap)) rfl).lt; have q1c := hq1.cell; have Q1 := hid hq1; have HB1 := hid ((ba w (oTs 2 (bs n) 0 ⟨#[]⟩ 0 0 A m cap)).trans (hb1.mono (ba w (oTs 2 (bs n) 0 ⟨#[]⟩ 0 0 A m cap)).size)); clear hb1 hq1))
 have k0 := cell_regrown (show W1.cell? ⟨w.heap.size, 0, none⟩ = some (.int .i64 2) from q1c 0)
 have k1 := cell_regrown (show W1.cell? ⟨w.heap.size, 1, none⟩ = some (.string (bs n)) from q1c 1)
 have cQ : ∀ d os, Calls Tryz.prog 70 #[.string (bs n)] (grow (redrawn W1 d) os) fun e w'' => e = .returned (.string (bs n)) /\ ∃ p : Regrown, w'' = grow (redrawn W1 p.d) p.os := fun d os => Calls.regrown_of (cL.out _)
 clear q1c
 refine wp_region_quiet_below (by kernel_rfl) (by kernel_rfl) ?_
 repeat (quiet_step (exact cQ _ _))
 refine wpQuiet_nil ?_
 intro _ hw'
 obtain ⟨⟨dq, osq⟩, hw''⟩ := hw'
 subst hw''
 have hb2 := below_regrown W1 dq osq
 have hq2 := Q1.out.below hb2 Q1.out.lt
 have Q2 := hid hq2
 have HB2 := hid (tb HB1 hb2)
 have q2c := hq2.cell
 clear hb2 hq2 k0 k1 cQ
 generalize grow (redrawn W1 dq) osq = W2 at *
 go_wp2_with (first
  | (go_at_call 71; (with_reducible refine (counts_no 2 (by decide) (by decide) _ _ _ _ _ _ _ _ _).mono ?_); rintro e W3 ⟨rfl, hb3⟩; have hq3 := Q2.out.below hb3 Q2.out.lt; have q3c := hq3.cell; have Q3 := hid hq3; have HB3 := hid (tb HB2 hb3); clear hb3 hq3)
  | (go_at_call 72; (with_reducible refine (nested_no 2 (by decide) (by decide) _ _ _ _ _ _ _ _ _).mono ?_); rintro e W4 ⟨rfl, hb4⟩; have hq4 := Q3.out.below hb4 Q3.out.lt; have q4c := hq4.cell; have Q4 := hid hq4; have HB4 := hid (tb HB3 hb4); clear hb4 hq4))
 go_ret
 exact ⟨rfl, HB4.out⟩
theorem bad_subs_34 (k : Int) (hk : 3 <= k /\ k <= 4) (n : Bs) (hn0 : n ≠ []) (hn : nameB n = true) (hnl : n.length <= 2000000) (i : Nat) (A : Option Addr) (m : Nat) (hm0 : m ≠ 0) (cap : Nat) (w : World) (hM : MaxL w) :
  Calls Tryz.prog 42 #[(aTs k (bs n) 0 ⟨#[]⟩ 0 0 A m cap), .int .i64 i] w (rt w (.bool false)) := by
 have kg2 : decide ((2 : Int) <= k) = true := dt (by omega)
 have kg5 : decide (k <= 5) = true := dt (by omega)
 have kl1 : decide (k < 1) = false := df (by omega)
 have kl11 : decide ((11 : Int) < k) = false := df (by omega)
 have kle2 : decide (k <= 2) = false := df (by omega)
 have ke2 : (k == 2) = false := bq (by omega)
 have ke5 : (k == 5) = false := bq (by omega)
 have kn5 : ¬ k = 5 := by omega
 have kb5 : (k != 5) = true := by rw [bne_iff_ne]; exact kn5
 have hk8 : k ≠ 8 := by omega
 have hk9 : k ≠ 9 := by omega
 have hk10 : k ≠ 10 := by omega
 have hk11 : k ≠ 11 := by omega
 clear hk
 have cN : ∀ w, MaxL w -> Calls Tryz.prog 69 #[.string (bs n)] w (rt w (.bool true)) := fun w hm => by
  have h := name_ct n hnl w hm
  rw [hn] at h
  exact h
 replace cN := hid cN
 have e0 : (bs n).toList.isEmpty = false := by rw [bs_toList]; cases n; exact absurd rfl hn0; rfl
 have e1 : ((bs n).toList == []) = false := by rw [bs_toList, beq_eq_false_iff_ne]; exact hn0
 have hm1 : ((m : Int) == 0) = false := bq (by omega)
 have hm2 : ¬ m = 0 := hm0
 clear hm0
 have HM := hid hM
 clear hM
 have HB0 := hid (show Below w.heap.size w (w.alloc (oTs k (bs n) 0 ⟨#[]⟩ 0 0 A m cap)) from ba _ _)
 go_enter Tryz.func42, Tryz.ntmps42
 go_wp2_with (go_at_call 69; (with_reducible refine (cN.out _ (HM.out.on (ba w (oTs k (bs n) 0 ⟨#[]⟩ 0 0 A m cap)) HM.out.lt)).mono ?_); rintro e W1 ⟨rfl, hb1⟩; have hq1 := (Blk.new (w := w) (t := 26) (cs := (rTs k (bs n) 0 ⟨#[]⟩ 0 0 A m cap)) rfl).below hb1 (Blk.new (w := w) (t := 26) (cs := (rTs k (bs n) 0 ⟨#[]⟩ 0 0 A m cap)) rfl).lt; have q1c := hq1.cell; have Q1 := hid hq1; have HB1 := hid ((ba w (oTs k (bs n) 0 ⟨#[]⟩ 0 0 A m cap)).trans (hb1.mono (ba w (oTs k (bs n) 0 ⟨#[]⟩ 0 0 A m cap)).size)); clear hb1 hq1)
 go_region
 all_goals
  go_wp2_with (first
   | (go_at_call 71; (with_reducible refine (counts_no k hk8 hk9 _ _ _ _ _ _ _ _ _).mono ?_); rintro e W2 ⟨rfl, hb2⟩; have hq2 := Q1.out.drew.below hb2 Q1.out.drew.lt; have q2c := hq2.cell; have Q2 := hid hq2; have HB2 := hid (HB1.out.drew.trans (hb2.mono HB1.out.drew.size)); clear hb2 hq2)
   | (go_at_call 72; (with_reducible refine (nested_no k hk10 hk11 _ _ _ _ _ _ _ _ _).mono ?_); rintro e W3 ⟨rfl, hb3⟩; have hq3 := Q2.out.below hb3 Q2.out.lt; have q3c := hq3.cell; have Q3 := hid hq3; have HB3 := hid (tb HB2 hb3); clear hb3 hq3))
  go_ret
  exact ⟨rfl, HB3.out⟩
theorem bad_subs_5 (n : Bs) (hn0 : n ≠ []) (hn : nameB n = true) (hnl : n.length <= 2000000) (hlow : n = lowP n) (i : Nat) (A : Option Addr) (m : Nat) (hm0 : m ≠ 0) (cap : Nat) (w : World) (hM : MaxL w) :
  Calls Tryz.prog 42 #[(aTs 5 (bs n) 0 ⟨#[]⟩ 0 0 A m cap), .int .i64 i] w (rt w (.bool false)) := by
 have cN : ∀ w, MaxL w -> Calls Tryz.prog 69 #[.string (bs n)] w (rt w (.bool true)) := fun w hm => by
  have h := name_ct n hnl w hm
  rw [hn] at h
  exact h
 replace cN := hid cN
 have e0 : (bs n).toList.isEmpty = false := by rw [bs_toList]; cases n; exact absurd rfl hn0; rfl
 have e1 : ((bs n).toList == []) = false := by rw [bs_toList, beq_eq_false_iff_ne]; exact hn0
 have cL : ∀ w, Calls Tryz.prog 70 #[.string (bs n)] w (rt w (.string (bs n))) := fun w => by
  have h := low_ct (bs n) (by rw [bs_size]; omega) w
  rw [show ((bs n).data.toList.map lowB) = n from hlow.symm] at h
  exact h
 replace cL := hid cL
 clear hlow
 have hm1 : ((m : Int) == 0) = false := bq (by omega)
 have hm2 : ¬ m = 0 := hm0
 clear hm0
 have HM := hid hM
 clear hM
 have HB0 := hid (show Below w.heap.size w (w.alloc (oTs 5 (bs n) 0 ⟨#[]⟩ 0 0 A m cap)) from ba _ _)
 go_enter Tryz.func42, Tryz.ntmps42
 go_wp2_with ((go_at_call 69; (with_reducible refine (cN.out _ (HM.out.on (ba w (oTs 5 (bs n) 0 ⟨#[]⟩ 0 0 A m cap)) HM.out.lt)).mono ?_); rintro e W1 ⟨rfl, hb1⟩; have hq1 := (Blk.new (w := w) (t := 26) (cs := (rTs 5 (bs n) 0 ⟨#[]⟩ 0 0 A m cap)) rfl).below hb1 (Blk.new (w := w) (t := 26) (cs := (rTs 5 (bs n) 0 ⟨#[]⟩ 0 0 A m cap)) rfl).lt; have q1c := hq1.cell; have Q1 := hid hq1; have HB1 := hid ((ba w (oTs 5 (bs n) 0 ⟨#[]⟩ 0 0 A m cap)).trans (hb1.mono (ba w (oTs 5 (bs n) 0 ⟨#[]⟩ 0 0 A m cap)).size)); clear hb1 hq1))
 have k0 := cell_regrown (show W1.cell? ⟨w.heap.size, 0, none⟩ = some (.int .i64 5) from q1c 0)
 have k1 := cell_regrown (show W1.cell? ⟨w.heap.size, 1, none⟩ = some (.string (bs n)) from q1c 1)
 have cQ : ∀ d os, Calls Tryz.prog 70 #[.string (bs n)] (grow (redrawn W1 d) os) fun e w'' => e = .returned (.string (bs n)) /\ ∃ p : Regrown, w'' = grow (redrawn W1 p.d) p.os := fun d os => Calls.regrown_of (cL.out _)
 clear q1c
 refine wp_region_quiet_below (by kernel_rfl) (by kernel_rfl) ?_
 repeat (quiet_step (exact cQ _ _))
 refine wpQuiet_nil ?_
 intro _ hw'
 obtain ⟨⟨dq, osq⟩, hw''⟩ := hw'
 subst hw''
 have hb2 := below_regrown W1 dq osq
 have hq2 := Q1.out.below hb2 Q1.out.lt
 have Q2 := hid hq2
 have HB2 := hid (tb HB1 hb2)
 have q2c := hq2.cell
 clear hb2 hq2 k0 k1 cQ
 generalize grow (redrawn W1 dq) osq = W2 at *
 go_wp2_with (first
  | (go_at_call 71; (with_reducible refine (counts_no 5 (by decide) (by decide) _ _ _ _ _ _ _ _ _).mono ?_); rintro e W3 ⟨rfl, hb3⟩; have hq3 := Q2.out.below hb3 Q2.out.lt; have q3c := hq3.cell; have Q3 := hid hq3; have HB3 := hid (tb HB2 hb3); clear hb3 hq3)
  | (go_at_call 72; (with_reducible refine (nested_no 5 (by decide) (by decide) _ _ _ _ _ _ _ _ _).mono ?_); rintro e W4 ⟨rfl, hb4⟩; have hq4 := Q3.out.below hb4 Q3.out.lt; have q4c := hq4.cell; have Q4 := hid hq4; have HB4 := hid (tb HB3 hb4); clear hb4 hq4))
 go_ret
 exact ⟨rfl, HB4.out⟩
theorem bad_subs_67 (k : Int) (hk : 6 <= k /\ k <= 7) (i : Nat) (A : Option Addr) (m : Nat) (hm0 : m ≠ 0) (cap : Nat) (w : World) :
  Calls Tryz.prog 42 #[(aTs k ⟨#[]⟩ 0 ⟨#[]⟩ 0 0 A m cap), .int .i64 i] w (rt w (.bool false)) := by
 have kg2 : decide ((2 : Int) <= k) = true := dt (by omega)
 have kg5 : decide (k <= 5) = false := df (by omega)
 have kl1 : decide (k < 1) = false := df (by omega)
 have kl11 : decide ((11 : Int) < k) = false := df (by omega)
 have kle2 : decide (k <= 2) = false := df (by omega)
 have ke2 : (k == 2) = false := bq (by omega)
 have ke5 : (k == 5) = false := bq (by omega)
 have kn5 : ¬ k = 5 := by omega
 have kb5 : (k != 5) = true := by rw [bne_iff_ne]; exact kn5
 have hk8 : k ≠ 8 := by omega
 have hk9 : k ≠ 9 := by omega
 have hk10 : k ≠ 10 := by omega
 have hk11 : k ≠ 11 := by omega
 clear hk
 have hm1 : ((m : Int) == 0) = false := bq (by omega)
 have hm2 : ¬ m = 0 := hm0
 clear hm0
 have HB0 := hid (show Below w.heap.size w (w.alloc (oTs k ⟨#[]⟩ 0 ⟨#[]⟩ 0 0 A m cap)) from ba _ _)
 go_enter Tryz.func42, Tryz.ntmps42
 go_wp2_with fail
 go_region
 all_goals
  go_wp2_with (first
   | (go_at_call 71; (with_reducible refine (counts_no k hk8 hk9 _ _ _ _ _ _ _ _ _).mono ?_); rintro e W1 ⟨rfl, hb1⟩; have hq1 := (Blk.new (w := w) (t := 26) (cs := (rTs k ⟨#[]⟩ 0 ⟨#[]⟩ 0 0 A m cap)) rfl).drew.below hb1 (Blk.new (w := w) (t := 26) (cs := (rTs k ⟨#[]⟩ 0 ⟨#[]⟩ 0 0 A m cap)) rfl).drew.lt; have q1c := hq1.cell; have Q1 := hid hq1; have HB1 := hid ((ba w (oTs k ⟨#[]⟩ 0 ⟨#[]⟩ 0 0 A m cap)).drew.trans (hb1.mono (ba w (oTs k ⟨#[]⟩ 0 ⟨#[]⟩ 0 0 A m cap)).drew.size)); clear hb1 hq1)
   | (go_at_call 72; (with_reducible refine (nested_no k hk10 hk11 _ _ _ _ _ _ _ _ _).mono ?_); rintro e W2 ⟨rfl, hb2⟩; have hq2 := Q1.out.below hb2 Q1.out.lt; have q2c := hq2.cell; have Q2 := hid hq2; have HB2 := hid (tb HB1 hb2); clear hb2 hq2))
  go_ret
  exact ⟨rfl, HB2.out⟩
theorem bad_subs_89 (k : Int) (hk : 8 <= k /\ k <= 9) (i : Nat) (a c : Int) (h1 : -1000 <= min a c) (h2 : max a c <= 1000) (A : Option Addr) (m : Nat) (hm0 : m ≠ 0) (cap : Nat) (w : World) :
  Calls Tryz.prog 42 #[(aTs k ⟨#[]⟩ 0 ⟨#[]⟩ a c A m cap), .int .i64 i] w (rt w (.bool false)) := by
 have kg2 : decide ((2 : Int) <= k) = true := dt (by omega)
 have kg5 : decide (k <= 5) = false := df (by omega)
 have kl1 : decide (k < 1) = false := df (by omega)
 have kl11 : decide ((11 : Int) < k) = false := df (by omega)
 have kle2 : decide (k <= 2) = false := df (by omega)
 have ke2 : (k == 2) = false := bq (by omega)
 have ke5 : (k == 5) = false := bq (by omega)
 have kn5 : ¬ k = 5 := by omega
 have kb5 : (k != 5) = true := by rw [bne_iff_ne]; exact kn5
 have hkc : k = 8 ∨ k = 9 := by omega
 have hk10 : k ≠ 10 := by omega
 have hk11 : k ≠ 11 := by omega
 replace hkc := hid hkc
 clear hk
 have m1 : decide (min a c < -1000) = false := df (by omega)
 have m2 : decide ((1000 : Int) < max a c) = false := df (by omega)
 have hm1 : ((m : Int) == 0) = false := bq (by omega)
 have hm2 : ¬ m = 0 := hm0
 clear hm0
 have HB0 := hid (show Below w.heap.size w (w.alloc (oTs k ⟨#[]⟩ 0 ⟨#[]⟩ a c A m cap)) from ba _ _)
 go_enter Tryz.func42, Tryz.ntmps42
 go_wp2_with fail
 go_region
 all_goals
  go_wp2_with (first
   | (go_at_call 71; (with_reducible refine (counts_yes hkc.out _ _ _ _ _ _ _ _ _).mono ?_); rintro e W1 ⟨rfl, hb1⟩; have hq1 := (Blk.new (w := w) (t := 26) (cs := (rTs k ⟨#[]⟩ 0 ⟨#[]⟩ a c A m cap)) rfl).drew.below hb1 (Blk.new (w := w) (t := 26) (cs := (rTs k ⟨#[]⟩ 0 ⟨#[]⟩ a c A m cap)) rfl).drew.lt; have q1c := hq1.cell; have Q1 := hid hq1; have HB1 := hid ((ba w (oTs k ⟨#[]⟩ 0 ⟨#[]⟩ a c A m cap)).drew.trans (hb1.mono (ba w (oTs k ⟨#[]⟩ 0 ⟨#[]⟩ a c A m cap)).drew.size)); clear hb1 hq1)
   | (go_at_call 72; (with_reducible refine (nested_no k hk10 hk11 _ _ _ _ _ _ _ _ _).mono ?_); rintro e W2 ⟨rfl, hb2⟩; have hq2 := Q1.out.below hb2 Q1.out.lt; have q2c := hq2.cell; have Q2 := hid hq2; have HB2 := hid (tb HB1 hb2); clear hb2 hq2))
  go_ret
  exact ⟨rfl, HB2.out⟩
theorem bad_subs_5o (n : Bs) (hn0 : n ≠ []) (hn : nameB n = true) (hnl : n.length <= 2000000) (hlow : n = lowP n) (i : Nat) (op : UInt8) (hop0 : op ≠ 0) (hop : opOk op = true) (v : ByteArray) (A : Option Addr) (m : Nat) (hm0 : m ≠ 0) (cap : Nat) (w : World) (hM : MaxL w) :
  Calls Tryz.prog 42 #[(aTs 5 (bs n) (nv op) v 0 0 A m cap), .int .i64 i] w (rt w (.bool false)) := by
 have cN : ∀ w, MaxL w -> Calls Tryz.prog 69 #[.string (bs n)] w (rt w (.bool true)) := fun w hm => by
  have h := name_ct n hnl w hm
  rw [hn] at h
  exact h
 replace cN := hid cN
 have e0 : (bs n).toList.isEmpty = false := by rw [bs_toList]; cases n; exact absurd rfl hn0; rfl
 have e1 : ((bs n).toList == []) = false := by rw [bs_toList, beq_eq_false_iff_ne]; exact hn0
 have cL : ∀ w, Calls Tryz.prog 70 #[.string (bs n)] w (rt w (.string (bs n))) := fun w => by
  have h := low_ct (bs n) (by rw [bs_size]; omega) w
  rw [show ((bs n).data.toList.map lowB) = n from hlow.symm] at h
  exact h
 replace cL := hid cL
 clear hlow
 have o1 : ¬ op.toNat = 0 := fun e => hop0 (UInt8.toNat_inj.1 e)
 have o0 : (nv op == 0) = false := by rw [beq_eq_false_iff_ne]; unfold nv; omega
 clear hop0
 have cI : ∀ w, Calls Tryz.prog 43 #[.string ⟨#[61, 126, 124, 94, 36, 42]⟩, .int .u8 (nv op)] w fun e w' => e = .returned (.int .i64 (Lib.indexByte [61, 126, 124, 94, 36, 42] op)) /\ w = w' := fun w => idx_ct op w
 have hix : decide ((Lib.indexByte [61, 126, 124, 94, 36, 42] op : Int) < 0) = false := by rw [decide_eq_false_iff_not]; exact (opOk_ne hop).2
 obtain ⟨ix, hixe⟩ : ∃ ix : Int, (Lib.indexByte [61, 126, 124, 94, 36, 42] op : Int) = ix := ⟨_, rfl⟩
 rw [hixe] at hix
 simp only [hixe] at cI
 clear hixe
 replace cI := hid cI
 have hm1 : ((m : Int) == 0) = false := bq (by omega)
 have hm2 : ¬ m = 0 := hm0
 clear hm0
 have HM := hid hM
 clear hM
 have HB0 := hid (show Below w.heap.size w (w.alloc (oTs 5 (bs n) (nv op) v 0 0 A m cap)) from ba _ _)
 go_enter Tryz.func42, Tryz.ntmps42
 go_wp2_with ((go_at_call 69; (with_reducible refine (cN.out _ (HM.out.on (ba w (oTs 5 (bs n) (nv op) v 0 0 A m cap)) HM.out.lt)).mono ?_); rintro e W1 ⟨rfl, hb1⟩; have hq1 := (Blk.new (w := w) (t := 26) (cs := (rTs 5 (bs n) (nv op) v 0 0 A m cap)) rfl).below hb1 (Blk.new (w := w) (t := 26) (cs := (rTs 5 (bs n) (nv op) v 0 0 A m cap)) rfl).lt; have q1c := hq1.cell; have Q1 := hid hq1; have HB1 := hid ((ba w (oTs 5 (bs n) (nv op) v 0 0 A m cap)).trans (hb1.mono (ba w (oTs 5 (bs n) (nv op) v 0 0 A m cap)).size)); clear hb1 hq1))
 have k0 := cell_regrown (show W1.cell? ⟨w.heap.size, 0, none⟩ = some (.int .i64 5) from q1c 0)
 have k1 := cell_regrown (show W1.cell? ⟨w.heap.size, 1, none⟩ = some (.string (bs n)) from q1c 1)
 have cQ : ∀ d os, Calls Tryz.prog 70 #[.string (bs n)] (grow (redrawn W1 d) os) fun e w'' => e = .returned (.string (bs n)) /\ ∃ p : Regrown, w'' = grow (redrawn W1 p.d) p.os := fun d os => Calls.regrown_of (cL.out _)
 clear q1c
 refine wp_region_quiet_below (by kernel_rfl) (by kernel_rfl) ?_
 repeat (quiet_step (exact cQ _ _))
 refine wpQuiet_nil ?_
 intro _ hw'
 obtain ⟨⟨dq, osq⟩, hw''⟩ := hw'
 subst hw''
 have hb2 := below_regrown W1 dq osq
 have hq2 := Q1.out.below hb2 Q1.out.lt
 have Q2 := hid hq2
 have HB2 := hid (tb HB1 hb2)
 have q2c := hq2.cell
 clear hb2 hq2 k0 k1 cQ
 generalize grow (redrawn W1 dq) osq = W2 at *
 go_wp2_with (first
  | (go_at_call 43; (with_reducible refine (cI.out _).mono ?_); rintro e WP ⟨rfl, rfl⟩)
  | (go_at_call 71; (with_reducible refine (counts_no 5 (by decide) (by decide) _ _ _ _ _ _ _ _ _).mono ?_); rintro e W3 ⟨rfl, hb3⟩; have hq3 := Q2.out.below hb3 Q2.out.lt; have q3c := hq3.cell; have Q3 := hid hq3; have HB3 := hid (tb HB2 hb3); clear hb3 hq3)
  | (go_at_call 72; (with_reducible refine (nested_no 5 (by decide) (by decide) _ _ _ _ _ _ _ _ _).mono ?_); rintro e W4 ⟨rfl, hb4⟩; have hq4 := Q3.out.below hb4 Q3.out.lt; have q4c := hq4.cell; have Q4 := hid hq4; have HB4 := hid (tb HB3 hb4); clear hb4 hq4))
 go_ret
 exact ⟨rfl, HB4.out⟩
theorem bad_subs_ab (k : Int) (hk : 10 <= k /\ k <= 11) (i : Nat) (A : Option Addr) (m : Nat) (cap : Nat) (w : World) (hM : MaxL w) (hP : ∀ W, Below w.heap.size w W -> MaxL W -> Calls Tryz.prog 24 #[.slice A m cap] W (rt W (.bool false))) :
  Calls Tryz.prog 42 #[(aTs k ⟨#[]⟩ 0 ⟨#[]⟩ 0 0 A m cap), .int .i64 i] w (rt w (.bool false)) := by
 have kg2 : decide ((2 : Int) <= k) = true := dt (by omega)
 have kg5 : decide (k <= 5) = false := df (by omega)
 have kl1 : decide (k < 1) = false := df (by omega)
 have kl11 : decide ((11 : Int) < k) = false := df (by omega)
 have kle2 : decide (k <= 2) = false := df (by omega)
 have ke2 : (k == 2) = false := bq (by omega)
 have ke5 : (k == 5) = false := bq (by omega)
 have kn5 : ¬ k = 5 := by omega
 have kb5 : (k != 5) = true := by rw [bne_iff_ne]; exact kn5
 have hk8 : k ≠ 8 := by omega
 have hk9 : k ≠ 9 := by omega
 have hkn : k = 10 ∨ k = 11 := by omega
 replace hkn := hid hkn
 clear hk
 have cP := hid hP
 clear hP
 have HM := hid hM
 clear hM
 have HB0 := hid (show Below w.heap.size w (w.alloc (oTs k ⟨#[]⟩ 0 ⟨#[]⟩ 0 0 A m cap)) from ba _ _)
 go_enter Tryz.func42, Tryz.ntmps42
 go_wp2_with fail
 go_region
 all_goals
  go_wp2_with (first
   | (go_at_call 71; (with_reducible refine (counts_no k hk8 hk9 _ _ _ _ _ _ _ _ _).mono ?_); rintro e W1 ⟨rfl, hb1⟩; have hq1 := (Blk.new (w := w) (t := 26) (cs := (rTs k ⟨#[]⟩ 0 ⟨#[]⟩ 0 0 A m cap)) rfl).drew.below hb1 (Blk.new (w := w) (t := 26) (cs := (rTs k ⟨#[]⟩ 0 ⟨#[]⟩ 0 0 A m cap)) rfl).drew.lt; have q1c := hq1.cell; have Q1 := hid hq1; have HB1 := hid ((ba w (oTs k ⟨#[]⟩ 0 ⟨#[]⟩ 0 0 A m cap)).drew.trans (hb1.mono (ba w (oTs k ⟨#[]⟩ 0 ⟨#[]⟩ 0 0 A m cap)).drew.size)); clear hb1 hq1)
   | (go_at_call 72; (with_reducible refine (nested_yes hkn.out _ _ _ _ _ _ _ _ _).mono ?_); rintro e W2 ⟨rfl, hb2⟩; have hq2 := Q1.out.below hb2 Q1.out.lt; have q2c := hq2.cell; have Q2 := hid hq2; have HB2 := hid (tb HB1 hb2); clear hb2 hq2)
   | (go_at_call 24; (with_reducible refine (cP.out _ HB2.out (HM.out.on HB2.out HM.out.lt)).mono ?_); rintro e W3 ⟨rfl, hb3⟩; have hq3 := Q2.out.below hb3 Q2.out.lt; have q3c := hq3.cell; have Q3 := hid hq3; have HB3 := hid (tb HB2 hb3); clear hb3 hq3))
  go_ret
  exact ⟨rfl, HB3.out⟩
end sel
end Go.Proofs.YtaobpkffcolobaaGreatDoor
