/- Contracts and plain law, a bundle. -/
import Derived.Lib.Hide
import Derived.Test.YtaobpkffcolobaaGreatDoorBM1
set_option linter.unusedVariables false
set_option maxRecDepth 100000
set_option maxHeartbeats 16000000
open Go.Lib (hid)
namespace Go.Proofs.YtaobpkffcolobaaGreatDoor
namespace sel
open Go.RowKit Go.Sort base tok rul
theorem bad_low_2 (n : Bs) (hn0 : n ≠ []) (hn : nameB n = true) (hnl : n.length <= 2000000) (hlow : n ≠ lowP n) (o : Int) (v : ByteArray) (a c : Int) (A : Option Addr) (m : Nat) (cap : Nat) (w : World) (hM : MaxL w) :
  Calls Tryz.prog 42 #[(aTs 2 (bs n) o v a c A m cap), .int .i64 0] w (rt w (.bool false)) := by
 have cN : ∀ w, MaxL w -> Calls Tryz.prog 69 #[.string (bs n)] w (rt w (.bool true)) := fun w hm => by
  have h := name_ct n hnl w hm
  rw [hn] at h
  exact h
 replace cN := hid cN
 have e0 : (bs n).toList.isEmpty = false := by rw [bs_toList]; cases n; exact absurd rfl hn0; rfl
 have e1 : ((bs n).toList == []) = false := by rw [bs_toList, beq_eq_false_iff_ne]; exact hn0
 have cL : ∀ w, Calls Tryz.prog 70 #[.string (bs n)] w (rt w (.string (bs (lowP n)))) := fun w => by
  have h := low_ct (bs n) (by rw [bs_size]; omega) w
  rw [show ((bs n).data.toList.map lowB) = (lowP n) from rfl] at h
  exact h
 replace cL := hid cL
 have hl1 : ((bs n).toList == (bs (lowP n)).toList) = false := by rw [bs_toList, bs_toList, beq_eq_false_iff_ne]; exact hlow
 have hl2 : ¬ bs n = bs (lowP n) := fun e => hlow (by have := congrArg ByteArray.toList e; rwa [bs_toList, bs_toList] at this)
 clear hlow
 have HM := hid hM
 clear hM
 have HB0 := hid (show Below w.heap.size w (w.alloc (oTs 2 (bs n) o v a c A m cap)) from ba _ _)
 go_enter Tryz.func42, Tryz.ntmps42
 go_wp2_with ((go_at_call 69; (with_reducible refine (cN.out _ (HM.out.on (ba w (oTs 2 (bs n) o v a c A m cap)) HM.out.lt)).mono ?_); rintro e W1 ⟨rfl, hb1⟩; have hq1 := (Blk.new (w := w) (t := 26) (cs := (rTs 2 (bs n) o v a c A m cap)) rfl).below hb1 (Blk.new (w := w) (t := 26) (cs := (rTs 2 (bs n) o v a c A m cap)) rfl).lt; have q1c := hq1.cell; have Q1 := hid hq1; have HB1 := hid ((ba w (oTs 2 (bs n) o v a c A m cap)).trans (hb1.mono (ba w (oTs 2 (bs n) o v a c A m cap)).size)); clear hb1 hq1))
 have k0 := cell_regrown (show W1.cell? ⟨w.heap.size, 0, none⟩ = some (.int .i64 2) from q1c 0)
 have k1 := cell_regrown (show W1.cell? ⟨w.heap.size, 1, none⟩ = some (.string (bs n)) from q1c 1)
 have cQ : ∀ d os, Calls Tryz.prog 70 #[.string (bs n)] (grow (redrawn W1 d) os) fun e w'' => e = .returned (.string (bs (lowP n))) /\ ∃ p : Regrown, w'' = grow (redrawn W1 p.d) p.os := fun d os => Calls.regrown_of (cL.out _)
 clear q1c
 refine wp_region_quiet_below (by kernel_rfl) (by kernel_rfl) ?_
 repeat (quiet_step (exact cQ _ _))
 refine wpQuiet_nil ?_
 intro _ hw'
 obtain ⟨⟨dq, osq⟩, hw''⟩ := hw'
 subst hw''
 have hb2 := below_regrown W1 dq osq
 have hq2 := Q1.out.below hb2 Q1.out.lt
 have Q2 := hid hq2
 have HB2 := hid (tb HB1 hb2)
 have q2c := hq2.cell
 clear hb2 hq2 k0 k1 cQ
 generalize grow (redrawn W1 dq) osq = W2 at *
 go_wp2_with fail
 go_ret
 exact ⟨rfl, HB2.out⟩
theorem bad_low_5 (n : Bs) (hn0 : n ≠ []) (hn : nameB n = true) (hnl : n.length <= 2000000) (hlow : n ≠ lowP n) (i : Nat) (o : Int) (v : ByteArray) (a c : Int) (A : Option Addr) (m : Nat) (cap : Nat) (w : World) (hM : MaxL w) :
  Calls Tryz.prog 42 #[(aTs 5 (bs n) o v a c A m cap), .int .i64 i] w (rt w (.bool false)) := by
 have cN : ∀ w, MaxL w -> Calls Tryz.prog 69 #[.string (bs n)] w (rt w (.bool true)) := fun w hm => by
  have h := name_ct n hnl w hm
  rw [hn] at h
  exact h
 replace cN := hid cN
 have e0 : (bs n).toList.isEmpty = false := by rw [bs_toList]; cases n; exact absurd rfl hn0; rfl
 have e1 : ((bs n).toList == []) = false := by rw [bs_toList, beq_eq_false_iff_ne]; exact hn0
 have cL : ∀ w, Calls Tryz.prog 70 #[.string (bs n)] w (rt w (.string (bs (lowP n)))) := fun w => by
  have h := low_ct (bs n) (by rw [bs_size]; omega) w
  rw [show ((bs n).data.toList.map lowB) = (lowP n) from rfl] at h
  exact h
 replace cL := hid cL
 have hl1 : ((bs n).toList == (bs (lowP n)).toList) = false := by rw [bs_toList, bs_toList, beq_eq_false_iff_ne]; exact hlow
 have hl2 : ¬ bs n = bs (lowP n) := fun e => hlow (by have := congrArg ByteArray.toList e; rwa [bs_toList, bs_toList] at this)
 clear hlow
 have HM := hid hM
 clear hM
 have HB0 := hid (show Below w.heap.size w (w.alloc (oTs 5 (bs n) o v a c A m cap)) from ba _ _)
 go_enter Tryz.func42, Tryz.ntmps42
 go_wp2_with ((go_at_call 69; (with_reducible refine (cN.out _ (HM.out.on (ba w (oTs 5 (bs n) o v a c A m cap)) HM.out.lt)).mono ?_); rintro e W1 ⟨rfl, hb1⟩; have hq1 := (Blk.new (w := w) (t := 26) (cs := (rTs 5 (bs n) o v a c A m cap)) rfl).below hb1 (Blk.new (w := w) (t := 26) (cs := (rTs 5 (bs n) o v a c A m cap)) rfl).lt; have q1c := hq1.cell; have Q1 := hid hq1; have HB1 := hid ((ba w (oTs 5 (bs n) o v a c A m cap)).trans (hb1.mono (ba w (oTs 5 (bs n) o v a c A m cap)).size)); clear hb1 hq1))
 have k0 := cell_regrown (show W1.cell? ⟨w.heap.size, 0, none⟩ = some (.int .i64 5) from q1c 0)
 have k1 := cell_regrown (show W1.cell? ⟨w.heap.size, 1, none⟩ = some (.string (bs n)) from q1c 1)
 have cQ : ∀ d os, Calls Tryz.prog 70 #[.string (bs n)] (grow (redrawn W1 d) os) fun e w'' => e = .returned (.string (bs (lowP n))) /\ ∃ p : Regrown, w'' = grow (redrawn W1 p.d) p.os := fun d os => Calls.regrown_of (cL.out _)
 clear q1c
 refine wp_region_quiet_below (by kernel_rfl) (by kernel_rfl) ?_
 repeat (quiet_step (exact cQ _ _))
 refine wpQuiet_nil ?_
 intro _ hw'
 obtain ⟨⟨dq, osq⟩, hw''⟩ := hw'
 subst hw''
 have hb2 := below_regrown W1 dq osq
 have hq2 := Q1.out.below hb2 Q1.out.lt
 have Q2 := hid hq2
 have HB2 := hid (tb HB1 hb2)
 have q2c := hq2.cell
 clear hb2 hq2 k0 k1 cQ
 generalize grow (redrawn W1 dq) osq = W2 at *
 go_wp2_with fail
 go_ret
 exact ⟨rfl, HB2.out⟩
theorem bad_op_1 (op : UInt8) (hop0 : op ≠ 0) (v : ByteArray) (a c : Int) (A : Option Addr) (m : Nat) (cap : Nat) (w : World) :
  Calls Tryz.prog 42 #[(aTs 1 ⟨#[]⟩ (nv op) v a c A m cap), .int .i64 0] w (rt w (.bool false)) := by
 have o1 : ¬ op.toNat = 0 := fun e => hop0 (UInt8.toNat_inj.1 e)
 have o0 : (nv op == 0) = false := by rw [beq_eq_false_iff_ne]; unfold nv; omega
 clear hop0
 have HB0 := hid (show Below w.heap.size w (w.alloc (oTs 1 ⟨#[]⟩ (nv op) v a c A m cap)) from ba _ _)
 go_enter Tryz.func42, Tryz.ntmps42
 go_wp2_with fail
 go_region
 all_goals
  go_wp2_with fail
  go_ret
  exact ⟨rfl, HB0.out.drew⟩
theorem bad_op_2 (n : Bs) (hn0 : n ≠ []) (hn : nameB n = true) (hnl : n.length <= 2000000) (hlow : n = lowP n) (op : UInt8) (hop0 : op ≠ 0) (v : ByteArray) (a c : Int) (A : Option Addr) (m : Nat) (cap : Nat) (w : World) (hM : MaxL w) :
  Calls Tryz.prog 42 #[(aTs 2 (bs n) (nv op) v a c A m cap), .int .i64 0] w (rt w (.bool false)) := by
 have cN : ∀ w, MaxL w -> Calls Tryz.prog 69 #[.string (bs n)] w (rt w (.bool true)) := fun w hm => by
  have h := name_ct n hnl w hm
  rw [hn] at h
  exact h
 replace cN := hid cN
 have e0 : (bs n).toList.isEmpty = false := by rw [bs_toList]; cases n; exact absurd rfl hn0; rfl
 have e1 : ((bs n).toList == []) = false := by rw [bs_toList, beq_eq_false_iff_ne]; exact hn0
 have cL : ∀ w, Calls Tryz.prog 70 #[.string (bs n)] w (rt w (.string (bs n))) := fun w => by
  have h := low_ct (bs n) (by rw [bs_size]; omega) w
  rw [show ((bs n).data.toList.map lowB) = n from hlow.symm] at h
  exact h
 replace cL := hid cL
 clear hlow
 have o1 : ¬ op.toNat = 0 := fun e => hop0 (UInt8.toNat_inj.1 e)
 have o0 : (nv op == 0) = false := by rw [beq_eq_false_iff_ne]; unfold nv; omega
 clear hop0
 have HM := hid hM
 clear hM
 have HB0 := hid (show Below w.heap.size w (w.alloc (oTs 2 (bs n) (nv op) v a c A m cap)) from ba _ _)
 go_enter Tryz.func42, Tryz.ntmps42
 go_wp2_with ((go_at_call 69; (with_reducible refine (cN.out _ (HM.out.on (ba w (oTs 2 (bs n) (nv op) v a c A m cap)) HM.out.lt)).mono ?_); rintro e W1 ⟨rfl, hb1⟩; have hq1 := (Blk.new (w := w) (t := 26) (cs := (rTs 2 (bs n) (nv op) v a c A m cap)) rfl).below hb1 (Blk.new (w := w) (t := 26) (cs := (rTs 2 (bs n) (nv op) v a c A m cap)) rfl).lt; have q1c := hq1.cell; have Q1 := hid hq1; have HB1 := hid ((ba w (oTs 2 (bs n) (nv op) v a c A m cap)).trans (hb1.mono (ba w (oTs 2 (bs n) (nv op) v a c A m cap)).size)); clear hb1 hq1))
 have k0 := cell_regrown (show W1.cell? ⟨w.heap.size, 0, none⟩ = some (.int .i64 2) from q1c 0)
 have k1 := cell_regrown (show W1.cell? ⟨w.heap.size, 1, none⟩ = some (.string (bs n)) from q1c 1)
 have cQ : ∀ d os, Calls Tryz.prog 70 #[.string (bs n)] (grow (redrawn W1 d) os) fun e w'' => e = .returned (.string (bs n)) /\ ∃ p : Regrown, w'' = grow (redrawn W1 p.d) p.os := fun d os => Calls.regrown_of (cL.out _)
 clear q1c
 refine wp_region_quiet_below (by kernel_rfl) (by kernel_rfl) ?_
 repeat (quiet_step (exact cQ _ _))
 refine wpQuiet_nil ?_
 intro _ hw'
 obtain ⟨⟨dq, osq⟩, hw''⟩ := hw'
 subst hw''
 have hb2 := below_regrown W1 dq osq
 have hq2 := Q1.out.below hb2 Q1.out.lt
 have Q2 := hid hq2
 have HB2 := hid (tb HB1 hb2)
 have q2c := hq2.cell
 clear hb2 hq2 k0 k1 cQ
 generalize grow (redrawn W1 dq) osq = W2 at *
 go_wp2_with fail
 go_ret
 exact ⟨rfl, HB2.out⟩
theorem bad_op_34 (k : Int) (hk : 3 <= k /\ k <= 4) (n : Bs) (hn0 : n ≠ []) (hn : nameB n = true) (hnl : n.length <= 2000000) (i : Nat) (op : UInt8) (hop0 : op ≠ 0) (v : ByteArray) (a c : Int) (A : Option Addr) (m : Nat) (cap : Nat) (w : World) (hM : MaxL w) :
  Calls Tryz.prog 42 #[(aTs k (bs n) (nv op) v a c A m cap), .int .i64 i] w (rt w (.bool false)) := by
 have kg2 : decide ((2 : Int) <= k) = true := dt (by omega)
 have kg5 : decide (k <= 5) = true := dt (by omega)
 have kl1 : decide (k < 1) = false := df (by omega)
 have kl11 : decide ((11 : Int) < k) = false := df (by omega)
 have kle2 : decide (k <= 2) = false := df (by omega)
 have ke2 : (k == 2) = false := bq (by omega)
 have ke5 : (k == 5) = false := bq (by omega)
 have kn5 : ¬ k = 5 := by omega
 have kb5 : (k != 5) = true := by rw [bne_iff_ne]; exact kn5
 have hk8 : k ≠ 8 := by omega
 have hk9 : k ≠ 9 := by omega
 have hk10 : k ≠ 10 := by omega
 have hk11 : k ≠ 11 := by omega
 clear hk
 have cN : ∀ w, MaxL w -> Calls Tryz.prog 69 #[.string (bs n)] w (rt w (.bool true)) := fun w hm => by
  have h := name_ct n hnl w hm
  rw [hn] at h
  exact h
 replace cN := hid cN
 have e0 : (bs n).toList.isEmpty = false := by rw [bs_toList]; cases n; exact absurd rfl hn0; rfl
 have e1 : ((bs n).toList == []) = false := by rw [bs_toList, beq_eq_false_iff_ne]; exact hn0
 have o1 : ¬ op.toNat = 0 := fun e => hop0 (UInt8.toNat_inj.1 e)
 have o0 : (nv op == 0) = false := by rw [beq_eq_false_iff_ne]; unfold nv; omega
 clear hop0
 have HM := hid hM
 clear hM
 have HB0 := hid (show Below w.heap.size w (w.alloc (oTs k (bs n) (nv op) v a c A m cap)) from ba _ _)
 go_enter Tryz.func42, Tryz.ntmps42
 go_wp2_with (go_at_call 69; (with_reducible refine (cN.out _ (HM.out.on (ba w (oTs k (bs n) (nv op) v a c A m cap)) HM.out.lt)).mono ?_); rintro e W1 ⟨rfl, hb1⟩; have hq1 := (Blk.new (w := w) (t := 26) (cs := (rTs k (bs n) (nv op) v a c A m cap)) rfl).below hb1 (Blk.new (w := w) (t := 26) (cs := (rTs k (bs n) (nv op) v a c A m cap)) rfl).lt; have q1c := hq1.cell; have Q1 := hid hq1; have HB1 := hid ((ba w (oTs k (bs n) (nv op) v a c A m cap)).trans (hb1.mono (ba w (oTs k (bs n) (nv op) v a c A m cap)).size)); clear hb1 hq1)
 go_region
 all_goals
  go_wp2_with fail
  go_ret
  exact ⟨rfl, HB1.out.drew⟩
theorem bad_op_67 (k : Int) (hk : 6 <= k /\ k <= 7) (i : Nat) (op : UInt8) (hop0 : op ≠ 0) (v : ByteArray) (a c : Int) (A : Option Addr) (m : Nat) (cap : Nat) (w : World) :
  Calls Tryz.prog 42 #[(aTs k ⟨#[]⟩ (nv op) v a c A m cap), .int .i64 i] w (rt w (.bool false)) := by
 have kg2 : decide ((2 : Int) <= k) = true := dt (by omega)
 have kg5 : decide (k <= 5) = false := df (by omega)
 have kl1 : decide (k < 1) = false := df (by omega)
 have kl11 : decide ((11 : Int) < k) = false := df (by omega)
 have kle2 : decide (k <= 2) = false := df (by omega)
 have ke2 : (k == 2) = false := bq (by omega)
 have ke5 : (k == 5) = false := bq (by omega)
 have kn5 : ¬ k = 5 := by omega
 have kb5 : (k != 5) = true := by rw [bne_iff_ne]; exact kn5
 have hk8 : k ≠ 8 := by omega
 have hk9 : k ≠ 9 := by omega
 have hk10 : k ≠ 10 := by omega
 have hk11 : k ≠ 11 := by omega
 clear hk
 have o1 : ¬ op.toNat = 0 := fun e => hop0 (UInt8.toNat_inj.1 e)
 have o0 : (nv op == 0) = false := by rw [beq_eq_false_iff_ne]; unfold nv; omega
 clear hop0
 have HB0 := hid (show Below w.heap.size w (w.alloc (oTs k ⟨#[]⟩ (nv op) v a c A m cap)) from ba _ _)
 go_enter Tryz.func42, Tryz.ntmps42
 go_wp2_with fail
 go_region
 all_goals
  go_wp2_with fail
  go_ret
  exact ⟨rfl, HB0.out.drew⟩
theorem bad_op_89 (k : Int) (hk : 8 <= k /\ k <= 9) (i : Nat) (op : UInt8) (hop0 : op ≠ 0) (v : ByteArray) (a c : Int) (A : Option Addr) (m : Nat) (cap : Nat) (w : World) :
  Calls Tryz.prog 42 #[(aTs k ⟨#[]⟩ (nv op) v a c A m cap), .int .i64 i] w (rt w (.bool false)) := by
 have kg2 : decide ((2 : Int) <= k) = true := dt (by omega)
 have kg5 : decide (k <= 5) = false := df (by omega)
 have kl1 : decide (k < 1) = false := df (by omega)
 have kl11 : decide ((11 : Int) < k) = false := df (by omega)
 have kle2 : decide (k <= 2) = false := df (by omega)
 have ke2 : (k == 2) = false := bq (by omega)
 have ke5 : (k == 5) = false := bq (by omega)
 have kn5 : ¬ k = 5 := by omega
 have kb5 : (k != 5) = true := by rw [bne_iff_ne]; exact kn5
 have hkc : k = 8 ∨ k = 9 := by omega
 have hk10 : k ≠ 10 := by omega
 have hk11 : k ≠ 11 := by omega
 replace hkc := hid hkc
 clear hk
 have o1 : ¬ op.toNat = 0 := fun e => hop0 (UInt8.toNat_inj.1 e)
 have o0 : (nv op == 0) = false := by rw [beq_eq_false_iff_ne]; unfold nv; omega
 clear hop0
 have HB0 := hid (show Below w.heap.size w (w.alloc (oTs k ⟨#[]⟩ (nv op) v a c A m cap)) from ba _ _)
 go_enter Tryz.func42, Tryz.ntmps42
 go_wp2_with fail
 go_region
 all_goals
  go_wp2_with fail
  go_ret
  exact ⟨rfl, HB0.out.drew⟩
theorem bad_op_ab (k : Int) (hk : 10 <= k /\ k <= 11) (i : Nat) (op : UInt8) (hop0 : op ≠ 0) (v : ByteArray) (a c : Int) (A : Option Addr) (m : Nat) (cap : Nat) (w : World) :
  Calls Tryz.prog 42 #[(aTs k ⟨#[]⟩ (nv op) v a c A m cap), .int .i64 i] w (rt w (.bool false)) := by
 have kg2 : decide ((2 : Int) <= k) = true := dt (by omega)
 have kg5 : decide (k <= 5) = false := df (by omega)
 have kl1 : decide (k < 1) = false := df (by omega)
 have kl11 : decide ((11 : Int) < k) = false := df (by omega)
 have kle2 : decide (k <= 2) = false := df (by omega)
 have ke2 : (k == 2) = false := bq (by omega)
 have ke5 : (k == 5) = false := bq (by omega)
 have kn5 : ¬ k = 5 := by omega
 have kb5 : (k != 5) = true := by rw [bne_iff_ne]; exact kn5
 have hk8 : k ≠ 8 := by omega
 have hk9 : k ≠ 9 := by omega
 have hkn : k = 10 ∨ k = 11 := by omega
 replace hkn := hid hkn
 clear hk
 have o1 : ¬ op.toNat = 0 := fun e => hop0 (UInt8.toNat_inj.1 e)
 have o0 : (nv op == 0) = false := by rw [beq_eq_false_iff_ne]; unfold nv; omega
 clear hop0
 have HB0 := hid (show Below w.heap.size w (w.alloc (oTs k ⟨#[]⟩ (nv op) v a c A m cap)) from ba _ _)
 go_enter Tryz.func42, Tryz.ntmps42
 go_wp2_with fail
 go_region
 all_goals
  go_wp2_with fail
  go_ret
  exact ⟨rfl, HB0.out.drew⟩
theorem bad_op_5 (n : Bs) (hn0 : n ≠ []) (hn : nameB n = true) (hnl : n.length <= 2000000) (hlow : n = lowP n) (i : Nat) (op : UInt8) (hop0 : op ≠ 0) (hop : opOk op = false) (v : ByteArray) (a c : Int) (A : Option Addr) (m : Nat) (cap : Nat) (w : World) (hM : MaxL w) :
  Calls Tryz.prog 42 #[(aTs 5 (bs n) (nv op) v a c A m cap), .int .i64 i] w (rt w (.bool false)) := by
 have cN : ∀ w, MaxL w -> Calls Tryz.prog 69 #[.string (bs n)] w (rt w (.bool true)) := fun w hm => by
  have h := name_ct n hnl w hm
  rw [hn] at h
  exact h
 replace cN := hid cN
 have e0 : (bs n).toList.isEmpty = false := by rw [bs_toList]; cases n; exact absurd rfl hn0; rfl
 have e1 : ((bs n).toList == []) = false := by rw [bs_toList, beq_eq_false_iff_ne]; exact hn0
 have cL : ∀ w, Calls Tryz.prog 70 #[.string (bs n)] w (rt w (.string (bs n))) := fun w => by
  have h := low_ct (bs n) (by rw [bs_size]; omega) w
  rw [show ((bs n).data.toList.map lowB) = n from hlow.symm] at h
  exact h
 replace cL := hid cL
 clear hlow
 have o1 : ¬ op.toNat = 0 := fun e => hop0 (UInt8.toNat_inj.1 e)
 have o0 : (nv op == 0) = false := by rw [beq_eq_false_iff_ne]; unfold nv; omega
 clear hop0
 have cI : ∀ w, Calls Tryz.prog 43 #[.string ⟨#[61, 126, 124, 94, 36, 42]⟩, .int .u8 (nv op)] w fun e w' => e = .returned (.int .i64 (Lib.indexByte [61, 126, 124, 94, 36, 42] op)) /\ w = w' := fun w => idx_ct op w
 have hix : decide ((Lib.indexByte [61, 126, 124, 94, 36, 42] op : Int) < 0) = true := by rw [decide_eq_true_eq]; exact opOk_no hop
 obtain ⟨ix, hixe⟩ : ∃ ix : Int, (Lib.indexByte [61, 126, 124, 94, 36, 42] op : Int) = ix := ⟨_, rfl⟩
 rw [hixe] at hix
 simp only [hixe] at cI
 clear hixe
 replace cI := hid cI
 have HM := hid hM
 clear hM
 have HB0 := hid (show Below w.heap.size w (w.alloc (oTs 5 (bs n) (nv op) v a c A m cap)) from ba _ _)
 go_enter Tryz.func42, Tryz.ntmps42
 go_wp2_with ((go_at_call 69; (with_reducible refine (cN.out _ (HM.out.on (ba w (oTs 5 (bs n) (nv op) v a c A m cap)) HM.out.lt)).mono ?_); rintro e W1 ⟨rfl, hb1⟩; have hq1 := (Blk.new (w := w) (t := 26) (cs := (rTs 5 (bs n) (nv op) v a c A m cap)) rfl).below hb1 (Blk.new (w := w) (t := 26) (cs := (rTs 5 (bs n) (nv op) v a c A m cap)) rfl).lt; have q1c := hq1.cell; have Q1 := hid hq1; have HB1 := hid ((ba w (oTs 5 (bs n) (nv op) v a c A m cap)).trans (hb1.mono (ba w (oTs 5 (bs n) (nv op) v a c A m cap)).size)); clear hb1 hq1))
 have k0 := cell_regrown (show W1.cell? ⟨w.heap.size, 0, none⟩ = some (.int .i64 5) from q1c 0)
 have k1 := cell_regrown (show W1.cell? ⟨w.heap.size, 1, none⟩ = some (.string (bs n)) from q1c 1)
 have cQ : ∀ d os, Calls Tryz.prog 70 #[.string (bs n)] (grow (redrawn W1 d) os) fun e w'' => e = .returned (.string (bs n)) /\ ∃ p : Regrown, w'' = grow (redrawn W1 p.d) p.os := fun d os => Calls.regrown_of (cL.out _)
 clear q1c
 refine wp_region_quiet_below (by kernel_rfl) (by kernel_rfl) ?_
 repeat (quiet_step (exact cQ _ _))
 refine wpQuiet_nil ?_
 intro _ hw'
 obtain ⟨⟨dq, osq⟩, hw''⟩ := hw'
 subst hw''
 have hb2 := below_regrown W1 dq osq
 have hq2 := Q1.out.below hb2 Q1.out.lt
 have Q2 := hid hq2
 have HB2 := hid (tb HB1 hb2)
 have q2c := hq2.cell
 clear hb2 hq2 k0 k1 cQ
 generalize grow (redrawn W1 dq) osq = W2 at *
 go_wp2_with (first
  | (go_at_call 43; (with_reducible refine (cI.out _).mono ?_); rintro e WP ⟨rfl, rfl⟩))
 go_ret
 exact ⟨rfl, HB2.out⟩
theorem bad_val_1 (v : Bs) (hv0 : v ≠ []) (a c : Int) (A : Option Addr) (m : Nat) (cap : Nat) (w : World) :
  Calls Tryz.prog 42 #[(aTs 1 ⟨#[]⟩ 0 (bs v) a c A m cap), .int .i64 0] w (rt w (.bool false)) := by
 have ev0 : (bs v).toList.isEmpty = false := by rw [bs_toList]; cases v; exact absurd rfl hv0; rfl
 have ev1 : ((bs v).toList == []) = false := by rw [bs_toList, beq_eq_false_iff_ne]; exact hv0
 have HB0 := hid (show Below w.heap.size w (w.alloc (oTs 1 ⟨#[]⟩ 0 (bs v) a c A m cap)) from ba _ _)
 go_enter Tryz.func42, Tryz.ntmps42
 go_wp2_with fail
 go_region
 all_goals
  go_wp2_with fail
  go_ret
  exact ⟨rfl, HB0.out.drew⟩
theorem bad_val_2 (n : Bs) (hn0 : n ≠ []) (hn : nameB n = true) (hnl : n.length <= 2000000) (hlow : n = lowP n) (v : Bs) (hv0 : v ≠ []) (a c : Int) (A : Option Addr) (m : Nat) (cap : Nat) (w : World) (hM : MaxL w) :
  Calls Tryz.prog 42 #[(aTs 2 (bs n) 0 (bs v) a c A m cap), .int .i64 0] w (rt w (.bool false)) := by
 have cN : ∀ w, MaxL w -> Calls Tryz.prog 69 #[.string (bs n)] w (rt w (.bool true)) := fun w hm => by
  have h := name_ct n hnl w hm
  rw [hn] at h
  exact h
 replace cN := hid cN
 have e0 : (bs n).toList.isEmpty = false := by rw [bs_toList]; cases n; exact absurd rfl hn0; rfl
 have e1 : ((bs n).toList == []) = false := by rw [bs_toList, beq_eq_false_iff_ne]; exact hn0
 have cL : ∀ w, Calls Tryz.prog 70 #[.string (bs n)] w (rt w (.string (bs n))) := fun w => by
  have h := low_ct (bs n) (by rw [bs_size]; omega) w
  rw [show ((bs n).data.toList.map lowB) = n from hlow.symm] at h
  exact h
 replace cL := hid cL
 clear hlow
 have ev0 : (bs v).toList.isEmpty = false := by rw [bs_toList]; cases v; exact absurd rfl hv0; rfl
 have ev1 : ((bs v).toList == []) = false := by rw [bs_toList, beq_eq_false_iff_ne]; exact hv0
 have HM := hid hM
 clear hM
 have HB0 := hid (show Below w.heap.size w (w.alloc (oTs 2 (bs n) 0 (bs v) a c A m cap)) from ba _ _)
 go_enter Tryz.func42, Tryz.ntmps42
 go_wp2_with ((go_at_call 69; (with_reducible refine (cN.out _ (HM.out.on (ba w (oTs 2 (bs n) 0 (bs v) a c A m cap)) HM.out.lt)).mono ?_); rintro e W1 ⟨rfl, hb1⟩; have hq1 := (Blk.new (w := w) (t := 26) (cs := (rTs 2 (bs n) 0 (bs v) a c A m cap)) rfl).below hb1 (Blk.new (w := w) (t := 26) (cs := (rTs 2 (bs n) 0 (bs v) a c A m cap)) rfl).lt; have q1c := hq1.cell; have Q1 := hid hq1; have HB1 := hid ((ba w (oTs 2 (bs n) 0 (bs v) a c A m cap)).trans (hb1.mono (ba w (oTs 2 (bs n) 0 (bs v) a c A m cap)).size)); clear hb1 hq1))
 have k0 := cell_regrown (show W1.cell? ⟨w.heap.size, 0, none⟩ = some (.int .i64 2) from q1c 0)
 have k1 := cell_regrown (show W1.cell? ⟨w.heap.size, 1, none⟩ = some (.string (bs n)) from q1c 1)
 have cQ : ∀ d os, Calls Tryz.prog 70 #[.string (bs n)] (grow (redrawn W1 d) os) fun e w'' => e = .returned (.string (bs n)) /\ ∃ p : Regrown, w'' = grow (redrawn W1 p.d) p.os := fun d os => Calls.regrown_of (cL.out _)
 clear q1c
 refine wp_region_quiet_below (by kernel_rfl) (by kernel_rfl) ?_
 repeat (quiet_step (exact cQ _ _))
 refine wpQuiet_nil ?_
 intro _ hw'
 obtain ⟨⟨dq, osq⟩, hw''⟩ := hw'
 subst hw''
 have hb2 := below_regrown W1 dq osq
 have hq2 := Q1.out.below hb2 Q1.out.lt
 have Q2 := hid hq2
 have HB2 := hid (tb HB1 hb2)
 have q2c := hq2.cell
 clear hb2 hq2 k0 k1 cQ
 generalize grow (redrawn W1 dq) osq = W2 at *
 go_wp2_with fail
 go_ret
 exact ⟨rfl, HB2.out⟩
theorem bad_val_34 (k : Int) (hk : 3 <= k /\ k <= 4) (n : Bs) (hn0 : n ≠ []) (hn : nameB n = true) (hnl : n.length <= 2000000) (i : Nat) (v : Bs) (hv0 : v ≠ []) (a c : Int) (A : Option Addr) (m : Nat) (cap : Nat) (w : World) (hM : MaxL w) :
  Calls Tryz.prog 42 #[(aTs k (bs n) 0 (bs v) a c A m cap), .int .i64 i] w (rt w (.bool false)) := by
 have kg2 : decide ((2 : Int) <= k) = true := dt (by omega)
 have kg5 : decide (k <= 5) = true := dt (by omega)
 have kl1 : decide (k < 1) = false := df (by omega)
 have kl11 : decide ((11 : Int) < k) = false := df (by omega)
 have kle2 : decide (k <= 2) = false := df (by omega)
 have ke2 : (k == 2) = false := bq (by omega)
 have ke5 : (k == 5) = false := bq (by omega)
 have kn5 : ¬ k = 5 := by omega
 have kb5 : (k != 5) = true := by rw [bne_iff_ne]; exact kn5
 have hk8 : k ≠ 8 := by omega
 have hk9 : k ≠ 9 := by omega
 have hk10 : k ≠ 10 := by omega
 have hk11 : k ≠ 11 := by omega
 clear hk
 have cN : ∀ w, MaxL w -> Calls Tryz.prog 69 #[.string (bs n)] w (rt w (.bool true)) := fun w hm => by
  have h := name_ct n hnl w hm
  rw [hn] at h
  exact h
 replace cN := hid cN
 have e0 : (bs n).toList.isEmpty = false := by rw [bs_toList]; cases n; exact absurd rfl hn0; rfl
 have e1 : ((bs n).toList == []) = false := by rw [bs_toList, beq_eq_false_iff_ne]; exact hn0
 have ev0 : (bs v).toList.isEmpty = false := by rw [bs_toList]; cases v; exact absurd rfl hv0; rfl
 have ev1 : ((bs v).toList == []) = false := by rw [bs_toList, beq_eq_false_iff_ne]; exact hv0
 have HM := hid hM
 clear hM
 have HB0 := hid (show Below w.heap.size w (w.alloc (oTs k (bs n) 0 (bs v) a c A m cap)) from ba _ _)
 go_enter Tryz.func42, Tryz.ntmps42
 go_wp2_with (go_at_call 69; (with_reducible refine (cN.out _ (HM.out.on (ba w (oTs k (bs n) 0 (bs v) a c A m cap)) HM.out.lt)).mono ?_); rintro e W1 ⟨rfl, hb1⟩; have hq1 := (Blk.new (w := w) (t := 26) (cs := (rTs k (bs n) 0 (bs v) a c A m cap)) rfl).below hb1 (Blk.new (w := w) (t := 26) (cs := (rTs k (bs n) 0 (bs v) a c A m cap)) rfl).lt; have q1c := hq1.cell; have Q1 := hid hq1; have HB1 := hid ((ba w (oTs k (bs n) 0 (bs v) a c A m cap)).trans (hb1.mono (ba w (oTs k (bs n) 0 (bs v) a c A m cap)).size)); clear hb1 hq1)
 go_region
 all_goals
  go_wp2_with fail
  go_ret
  exact ⟨rfl, HB1.out.drew⟩
theorem bad_val_5 (n : Bs) (hn0 : n ≠ []) (hn : nameB n = true) (hnl : n.length <= 2000000) (hlow : n = lowP n) (i : Nat) (v : Bs) (hv0 : v ≠ []) (a c : Int) (A : Option Addr) (m : Nat) (cap : Nat) (w : World) (hM : MaxL w) :
  Calls Tryz.prog 42 #[(aTs 5 (bs n) 0 (bs v) a c A m cap), .int .i64 i] w (rt w (.bool false)) := by
 have cN : ∀ w, MaxL w -> Calls Tryz.prog 69 #[.string (bs n)] w (rt w (.bool true)) := fun w hm => by
  have h := name_ct n hnl w hm
  rw [hn] at h
  exact h
 replace cN := hid cN
 have e0 : (bs n).toList.isEmpty = false := by rw [bs_toList]; cases n; exact absurd rfl hn0; rfl
 have e1 : ((bs n).toList == []) = false := by rw [bs_toList, beq_eq_false_iff_ne]; exact hn0
 have cL : ∀ w, Calls Tryz.prog 70 #[.string (bs n)] w (rt w (.string (bs n))) := fun w => by
  have h := low_ct (bs n) (by rw [bs_size]; omega) w
  rw [show ((bs n).data.toList.map lowB) = n from hlow.symm] at h
  exact h
 replace cL := hid cL
 clear hlow
 have ev0 : (bs v).toList.isEmpty = false := by rw [bs_toList]; cases v; exact absurd rfl hv0; rfl
 have ev1 : ((bs v).toList == []) = false := by rw [bs_toList, beq_eq_false_iff_ne]; exact hv0
 have HM := hid hM
 clear hM
 have HB0 := hid (show Below w.heap.size w (w.alloc (oTs 5 (bs n) 0 (bs v) a c A m cap)) from ba _ _)
 go_enter Tryz.func42, Tryz.ntmps42
 go_wp2_with ((go_at_call 69; (with_reducible refine (cN.out _ (HM.out.on (ba w (oTs 5 (bs n) 0 (bs v) a c A m cap)) HM.out.lt)).mono ?_); rintro e W1 ⟨rfl, hb1⟩; have hq1 := (Blk.new (w := w) (t := 26) (cs := (rTs 5 (bs n) 0 (bs v) a c A m cap)) rfl).below hb1 (Blk.new (w := w) (t := 26) (cs := (rTs 5 (bs n) 0 (bs v) a c A m cap)) rfl).lt; have q1c := hq1.cell; have Q1 := hid hq1; have HB1 := hid ((ba w (oTs 5 (bs n) 0 (bs v) a c A m cap)).trans (hb1.mono (ba w (oTs 5 (bs n) 0 (bs v) a c A m cap)).size)); clear hb1 hq1))
 have k0 := cell_regrown (show W1.cell? ⟨w.heap.size, 0, none⟩ = some (.int .i64 5) from q1c 0)
 have k1 := cell_regrown (show W1.cell? ⟨w.heap.size, 1, none⟩ = some (.string (bs n)) from q1c 1)
 have cQ : ∀ d os, Calls Tryz.prog 70 #[.string (bs n)] (grow (redrawn W1 d) os) fun e w'' => e = .returned (.string (bs n)) /\ ∃ p : Regrown, w'' = grow (redrawn W1 p.d) p.os := fun d os => Calls.regrown_of (cL.out _)
 clear q1c
 refine wp_region_quiet_below (by kernel_rfl) (by kernel_rfl) ?_
 repeat (quiet_step (exact cQ _ _))
 refine wpQuiet_nil ?_
 intro _ hw'
 obtain ⟨⟨dq, osq⟩, hw''⟩ := hw'
 subst hw''
 have hb2 := below_regrown W1 dq osq
 have hq2 := Q1.out.below hb2 Q1.out.lt
 have Q2 := hid hq2
 have HB2 := hid (tb HB1 hb2)
 have q2c := hq2.cell
 clear hb2 hq2 k0 k1 cQ
 generalize grow (redrawn W1 dq) osq = W2 at *
 go_wp2_with fail
 go_ret
 exact ⟨rfl, HB2.out⟩
theorem bad_val_67 (k : Int) (hk : 6 <= k /\ k <= 7) (i : Nat) (v : Bs) (hv0 : v ≠ []) (a c : Int) (A : Option Addr) (m : Nat) (cap : Nat) (w : World) :
  Calls Tryz.prog 42 #[(aTs k ⟨#[]⟩ 0 (bs v) a c A m cap), .int .i64 i] w (rt w (.bool false)) := by
 have kg2 : decide ((2 : Int) <= k) = true := dt (by omega)
 have kg5 : decide (k <= 5) = false := df (by omega)
 have kl1 : decide (k < 1) = false := df (by omega)
 have kl11 : decide ((11 : Int) < k) = false := df (by omega)
 have kle2 : decide (k <= 2) = false := df (by omega)
 have ke2 : (k == 2) = false := bq (by omega)
 have ke5 : (k == 5) = false := bq (by omega)
 have kn5 : ¬ k = 5 := by omega
 have kb5 : (k != 5) = true := by rw [bne_iff_ne]; exact kn5
 have hk8 : k ≠ 8 := by omega
 have hk9 : k ≠ 9 := by omega
 have hk10 : k ≠ 10 := by omega
 have hk11 : k ≠ 11 := by omega
 clear hk
 have ev0 : (bs v).toList.isEmpty = false := by rw [bs_toList]; cases v; exact absurd rfl hv0; rfl
 have ev1 : ((bs v).toList == []) = false := by rw [bs_toList, beq_eq_false_iff_ne]; exact hv0
 have HB0 := hid (show Below w.heap.size w (w.alloc (oTs k ⟨#[]⟩ 0 (bs v) a c A m cap)) from ba _ _)
 go_enter Tryz.func42, Tryz.ntmps42
 go_wp2_with fail
 go_region
 all_goals
  go_wp2_with fail
  go_ret
  exact ⟨rfl, HB0.out.drew⟩
theorem bad_val_89 (k : Int) (hk : 8 <= k /\ k <= 9) (i : Nat) (v : Bs) (hv0 : v ≠ []) (a c : Int) (A : Option Addr) (m : Nat) (cap : Nat) (w : World) :
  Calls Tryz.prog 42 #[(aTs k ⟨#[]⟩ 0 (bs v) a c A m cap), .int .i64 i] w (rt w (.bool false)) := by
 have kg2 : decide ((2 : Int) <= k) = true := dt (by omega)
 have kg5 : decide (k <= 5) = false := df (by omega)
 have kl1 : decide (k < 1) = false := df (by omega)
 have kl11 : decide ((11 : Int) < k) = false := df (by omega)
 have kle2 : decide (k <= 2) = false := df (by omega)
 have ke2 : (k == 2) = false := bq (by omega)
 have ke5 : (k == 5) = false := bq (by omega)
 have kn5 : ¬ k = 5 := by omega
 have kb5 : (k != 5) = true := by rw [bne_iff_ne]; exact kn5
 have hkc : k = 8 ∨ k = 9 := by omega
 have hk10 : k ≠ 10 := by omega
 have hk11 : k ≠ 11 := by omega
 replace hkc := hid hkc
 clear hk
 have ev0 : (bs v).toList.isEmpty = false := by rw [bs_toList]; cases v; exact absurd rfl hv0; rfl
 have ev1 : ((bs v).toList == []) = false := by rw [bs_toList, beq_eq_false_iff_ne]; exact hv0
 have HB0 := hid (show Below w.heap.size w (w.alloc (oTs k ⟨#[]⟩ 0 (bs v) a c A m cap)) from ba _ _)
 go_enter Tryz.func42, Tryz.ntmps42
 go_wp2_with fail
 go_region
 all_goals
  go_wp2_with fail
  go_ret
  exact ⟨rfl, HB0.out.drew⟩
theorem bad_val_ab (k : Int) (hk : 10 <= k /\ k <= 11) (i : Nat) (v : Bs) (hv0 : v ≠ []) (a c : Int) (A : Option Addr) (m : Nat) (cap : Nat) (w : World) :
  Calls Tryz.prog 42 #[(aTs k ⟨#[]⟩ 0 (bs v) a c A m cap), .int .i64 i] w (rt w (.bool false)) := by
 have kg2 : decide ((2 : Int) <= k) = true := dt (by omega)
 have kg5 : decide (k <= 5) = false := df (by omega)
 have kl1 : decide (k < 1) = false := df (by omega)
 have kl11 : decide ((11 : Int) < k) = false := df (by omega)
 have kle2 : decide (k <= 2) = false := df (by omega)
 have ke2 : (k == 2) = false := bq (by omega)
 have ke5 : (k == 5) = false := bq (by omega)
 have kn5 : ¬ k = 5 := by omega
 have kb5 : (k != 5) = true := by rw [bne_iff_ne]; exact kn5
 have hk8 : k ≠ 8 := by omega
 have hk9 : k ≠ 9 := by omega
 have hkn : k = 10 ∨ k = 11 := by omega
 replace hkn := hid hkn
 clear hk
 have ev0 : (bs v).toList.isEmpty = false := by rw [bs_toList]; cases v; exact absurd rfl hv0; rfl
 have ev1 : ((bs v).toList == []) = false := by rw [bs_toList, beq_eq_false_iff_ne]; exact hv0
 have HB0 := hid (show Below w.heap.size w (w.alloc (oTs k ⟨#[]⟩ 0 (bs v) a c A m cap)) from ba _ _)
 go_enter Tryz.func42, Tryz.ntmps42
 go_wp2_with fail
 go_region
 all_goals
  go_wp2_with fail
  go_ret
  exact ⟨rfl, HB0.out.drew⟩
end sel
end Go.Proofs.YtaobpkffcolobaaGreatDoor
