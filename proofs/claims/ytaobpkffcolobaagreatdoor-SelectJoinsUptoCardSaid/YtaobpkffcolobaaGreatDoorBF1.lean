/- Contracts and plain law, a bundle. -/
import Derived.Deep.RegionLaw
import Derived.Lib.QuietBelow
import Derived.Lib.Hide
import Derived.Test.YtaobpkffcolobaaGreatDoorBF
import Derived.Test.YtaobpkffcolobaaGreatDoorBD1
set_option linter.unusedVariables false
set_option maxRecDepth 100000
set_option maxHeartbeats 16000000
open Go.Lib (hid)
namespace Go.Proofs.YtaobpkffcolobaaGreatDoor
namespace sel
open Go.RowKit Go.Sort base tok rul
theorem opOk_ne {op : UInt8} (h : opOk op = true) : nv op ≠ 0 /\ ¬ (Lib.indexByte [61, 126, 124, 94, 36, 42] op : Int) < 0 := by
 have h1 : op = 61 ∨ op = 126 ∨ op = 124 ∨ op = 94 ∨ op = 36 ∨ op = 42 := by simpa [opOk, or_assoc] using h
 rcases h1 with rfl | rfl | rfl | rfl | rfl | rfl <;> decide
theorem idx_ct (op : UInt8) (w : World) : Calls Tryz.prog 43 #[.string ⟨#[61, 126, 124, 94, 36, 42]⟩, .int .u8 (nv op)] w fun e w' => e = .returned (.int .i64 (Lib.indexByte [61, 126, 124, 94, 36, 42] op)) /\ w = w' := by
 have h := Tryz.strings_IndexByte ⟨#[61, 126, 124, 94, 36, 42]⟩ (nv op) w
 rw [show (nv op).toNat.toUInt8 = op by unfold nv; simp] at h
 exact h.mono fun e w' ⟨h1, h2⟩ => ⟨h1, h2.symm⟩
theorem counts_yes1 (n : ByteArray) (o : Int) (v : ByteArray) (a c : Int) (A : Option Addr) (m cap : Nat) (w : World) :
  Calls Tryz.prog 71 #[(aTs 8 n o v a c A m cap)] w (rt w (.bool true)) := by
 have HB := hid (show Below w.heap.size w (w.alloc (oTs 8 n o v a c A m cap)) from ba _ _)
 go_enter Tryz.func71, Tryz.ntmps71
 go_wp2_with fail
 go_ret
 exact ⟨rfl, HB.out⟩
theorem counts_yes2 (n : ByteArray) (o : Int) (v : ByteArray) (a c : Int) (A : Option Addr) (m cap : Nat) (w : World) :
  Calls Tryz.prog 71 #[(aTs 9 n o v a c A m cap)] w (rt w (.bool true)) := by
 have HB := hid (show Below w.heap.size w (w.alloc (oTs 9 n o v a c A m cap)) from ba _ _)
 go_enter Tryz.func71, Tryz.ntmps71
 go_wp2_with fail
 go_ret
 exact ⟨rfl, HB.out⟩
theorem counts_no (k : Int) (h1 : k ≠ 8) (h2 : k ≠ 9) (n : ByteArray) (o : Int) (v : ByteArray) (a c : Int) (A : Option Addr) (m cap : Nat) (w : World) :
  Calls Tryz.prog 71 #[(aTs k n o v a c A m cap)] w (rt w (.bool false)) := by
 have e1 : (k == 8) = false := bq h1
 have e2 : (k == 9) = false := bq h2
 clear h1 h2
 have HB := hid (show Below w.heap.size w (w.alloc (oTs k n o v a c A m cap)) from ba _ _)
 go_enter Tryz.func71, Tryz.ntmps71
 go_wp2_with fail
 go_ret
 exact ⟨rfl, HB.out⟩
theorem nested_yes1 (n : ByteArray) (o : Int) (v : ByteArray) (a c : Int) (A : Option Addr) (m cap : Nat) (w : World) :
  Calls Tryz.prog 72 #[(aTs 10 n o v a c A m cap)] w (rt w (.bool true)) := by
 have HB := hid (show Below w.heap.size w (w.alloc (oTs 10 n o v a c A m cap)) from ba _ _)
 go_enter Tryz.func72, Tryz.ntmps72
 go_wp2_with fail
 go_ret
 exact ⟨rfl, HB.out⟩
theorem nested_yes2 (n : ByteArray) (o : Int) (v : ByteArray) (a c : Int) (A : Option Addr) (m cap : Nat) (w : World) :
  Calls Tryz.prog 72 #[(aTs 11 n o v a c A m cap)] w (rt w (.bool true)) := by
 have HB := hid (show Below w.heap.size w (w.alloc (oTs 11 n o v a c A m cap)) from ba _ _)
 go_enter Tryz.func72, Tryz.ntmps72
 go_wp2_with fail
 go_ret
 exact ⟨rfl, HB.out⟩
theorem nested_no (k : Int) (h1 : k ≠ 10) (h2 : k ≠ 11) (n : ByteArray) (o : Int) (v : ByteArray) (a c : Int) (A : Option Addr) (m cap : Nat) (w : World) :
  Calls Tryz.prog 72 #[(aTs k n o v a c A m cap)] w (rt w (.bool false)) := by
 have e1 : (k == 10) = false := bq h1
 have e2 : (k == 11) = false := bq h2
 clear h1 h2
 have HB := hid (show Below w.heap.size w (w.alloc (oTs k n o v a c A m cap)) from ba _ _)
 go_enter Tryz.func72, Tryz.ntmps72
 go_wp2_with fail
 go_ret
 exact ⟨rfl, HB.out⟩
theorem test_1 (A : Option Addr) (cap : Nat) (w : World) :
  Calls Tryz.prog 42 #[(aTs 1 ⟨#[]⟩ 0 ⟨#[]⟩ 0 0 A 0 cap), .int .i64 0] w (rt w (.bool true)) := by
 go_enter Tryz.func42, Tryz.ntmps42
 go_wp2_with fail
 go_region
 all_goals
  go_wp2_with (first
   | (go_at_call 71; (with_reducible refine (counts_no 1 (by decide) (by decide) _ _ _ _ _ _ _ _ _).mono ?_); rintro e W1 ⟨rfl, hb1⟩; have hq1 := (Blk.new (w := w) (t := 26) (cs := (rTs 1 ⟨#[]⟩ 0 ⟨#[]⟩ 0 0 A 0 cap)) rfl).drew.below hb1 (Blk.new (w := w) (t := 26) (cs := (rTs 1 ⟨#[]⟩ 0 ⟨#[]⟩ 0 0 A 0 cap)) rfl).drew.lt; have q1c := hq1.cell; have Q1 := hid hq1; have HB1 := hid ((ba w (oTs 1 ⟨#[]⟩ 0 ⟨#[]⟩ 0 0 A 0 cap)).drew.trans (hb1.mono (ba w (oTs 1 ⟨#[]⟩ 0 ⟨#[]⟩ 0 0 A 0 cap)).drew.size)); clear hb1 hq1)
   | (go_at_call 72; (with_reducible refine (nested_no 1 (by decide) (by decide) _ _ _ _ _ _ _ _ _).mono ?_); rintro e W2 ⟨rfl, hb2⟩; have hq2 := Q1.out.below hb2 Q1.out.lt; have q2c := hq2.cell; have Q2 := hid hq2; have HB2 := hid (tb HB1 hb2); clear hb2 hq2))
  go_ret
  exact ⟨rfl, HB2.out⟩
theorem test_2 (n : Bs) (hn0 : n ≠ []) (hn : nameB n = true) (hnl : n.length <= 2000000) (hlow : n = lowP n) (A : Option Addr) (cap : Nat) (w : World) (hM : MaxL w) :
  Calls Tryz.prog 42 #[(aTs 2 (bs n) 0 ⟨#[]⟩ 0 0 A 0 cap), .int .i64 0] w (rt w (.bool true)) := by
 have cN : ∀ w, MaxL w -> Calls Tryz.prog 69 #[.string (bs n)] w (rt w (.bool true)) := fun w hm => by
  have h := name_ct n hnl w hm
  rw [hn] at h
  exact h
 replace cN := hid cN
 have e0 : (bs n).toList.isEmpty = false := by rw [bs_toList]; cases n; exact absurd rfl hn0; rfl
 have e1 : ((bs n).toList == []) = false := by rw [bs_toList, beq_eq_false_iff_ne]; exact hn0
 have cL : ∀ w, Calls Tryz.prog 70 #[.string (bs n)] w (rt w (.string (bs n))) := fun w => by
  have h := low_ct (bs n) (by rw [bs_size]; omega) w
  rw [show ((bs n).data.toList.map lowB) = n from hlow.symm] at h
  exact h
 replace cL := hid cL
 clear hlow
 have HM := hid hM
 clear hM
 go_enter Tryz.func42, Tryz.ntmps42
 go_wp2_with ((go_at_call 69; (with_reducible refine (cN.out _ (HM.out.on (ba w (oTs 2 (bs n) 0 ⟨#[]⟩ 0 0 A 0 cap)) HM.out.lt)).mono ?_); rintro e W1 ⟨rfl, hb1⟩; have hq1 := (Blk.new (w := w) (t := 26) (cs := (rTs 2 (bs n) 0 ⟨#[]⟩ 0 0 A 0 cap)) rfl).below hb1 (Blk.new (w := w) (t := 26) (cs := (rTs 2 (bs n) 0 ⟨#[]⟩ 0 0 A 0 cap)) rfl).lt; have q1c := hq1.cell; have Q1 := hid hq1; have HB1 := hid ((ba w (oTs 2 (bs n) 0 ⟨#[]⟩ 0 0 A 0 cap)).trans (hb1.mono (ba w (oTs 2 (bs n) 0 ⟨#[]⟩ 0 0 A 0 cap)).size)); clear hb1 hq1))
 have k0 := cell_regrown (show W1.cell? ⟨w.heap.size, 0, none⟩ = some (.int .i64 2) from q1c 0)
 have k1 := cell_regrown (show W1.cell? ⟨w.heap.size, 1, none⟩ = some (.string (bs n)) from q1c 1)
 have cQ : ∀ d os, Calls Tryz.prog 70 #[.string (bs n)] (grow (redrawn W1 d) os) fun e w'' => e = .returned (.string (bs n)) /\ ∃ p : Regrown, w'' = grow (redrawn W1 p.d) p.os := fun d os => Calls.regrown_of (cL.out _)
 clear q1c
 refine wp_region_quiet_below (by kernel_rfl) (by kernel_rfl) ?_
 repeat (quiet_step (exact cQ _ _))
 refine wpQuiet_nil ?_
 intro _ hw'
 obtain ⟨⟨dq, osq⟩, hw''⟩ := hw'
 subst hw''
 have hb2 := below_regrown W1 dq osq
 have hq2 := Q1.out.below hb2 Q1.out.lt
 have Q2 := hid hq2
 have HB2 := hid (tb HB1 hb2)
 have q2c := hq2.cell
 clear hb2 hq2 k0 k1 cQ
 generalize grow (redrawn W1 dq) osq = W2 at *
 go_wp2_with (first
  | (go_at_call 71; (with_reducible refine (counts_no 2 (by decide) (by decide) _ _ _ _ _ _ _ _ _).mono ?_); rintro e W3 ⟨rfl, hb3⟩; have hq3 := Q2.out.below hb3 Q2.out.lt; have q3c := hq3.cell; have Q3 := hid hq3; have HB3 := hid (tb HB2 hb3); clear hb3 hq3)
  | (go_at_call 72; (with_reducible refine (nested_no 2 (by decide) (by decide) _ _ _ _ _ _ _ _ _).mono ?_); rintro e W4 ⟨rfl, hb4⟩; have hq4 := Q3.out.below hb4 Q3.out.lt; have q4c := hq4.cell; have Q4 := hid hq4; have HB4 := hid (tb HB3 hb4); clear hb4 hq4))
 go_ret
 exact ⟨rfl, HB4.out⟩
theorem test_3 (i : Int) (n : Bs) (hn0 : n ≠ []) (hn : nameB n = true) (hnl : n.length <= 2000000) (A : Option Addr) (cap : Nat) (w : World) (hM : MaxL w) :
  Calls Tryz.prog 42 #[(aTs 3 (bs n) 0 ⟨#[]⟩ 0 0 A 0 cap), .int .i64 i] w (rt w (.bool true)) := by
 have cN : ∀ w, MaxL w -> Calls Tryz.prog 69 #[.string (bs n)] w (rt w (.bool true)) := fun w hm => by
  have h := name_ct n hnl w hm
  rw [hn] at h
  exact h
 replace cN := hid cN
 have e0 : (bs n).toList.isEmpty = false := by rw [bs_toList]; cases n; exact absurd rfl hn0; rfl
 have e1 : ((bs n).toList == []) = false := by rw [bs_toList, beq_eq_false_iff_ne]; exact hn0
 have HM := hid hM
 clear hM
 go_enter Tryz.func42, Tryz.ntmps42
 go_wp2_with (go_at_call 69; (with_reducible refine (cN.out _ (HM.out.on (ba w (oTs 3 (bs n) 0 ⟨#[]⟩ 0 0 A 0 cap)) HM.out.lt)).mono ?_); rintro e W1 ⟨rfl, hb1⟩; have hq1 := (Blk.new (w := w) (t := 26) (cs := (rTs 3 (bs n) 0 ⟨#[]⟩ 0 0 A 0 cap)) rfl).below hb1 (Blk.new (w := w) (t := 26) (cs := (rTs 3 (bs n) 0 ⟨#[]⟩ 0 0 A 0 cap)) rfl).lt; have q1c := hq1.cell; have Q1 := hid hq1; have HB1 := hid ((ba w (oTs 3 (bs n) 0 ⟨#[]⟩ 0 0 A 0 cap)).trans (hb1.mono (ba w (oTs 3 (bs n) 0 ⟨#[]⟩ 0 0 A 0 cap)).size)); clear hb1 hq1)
 go_region
 all_goals
  go_wp2_with (first
   | (go_at_call 71; (with_reducible refine (counts_no 3 (by decide) (by decide) _ _ _ _ _ _ _ _ _).mono ?_); rintro e W2 ⟨rfl, hb2⟩; have hq2 := Q1.out.drew.below hb2 Q1.out.drew.lt; have q2c := hq2.cell; have Q2 := hid hq2; have HB2 := hid (HB1.out.drew.trans (hb2.mono HB1.out.drew.size)); clear hb2 hq2)
   | (go_at_call 72; (with_reducible refine (nested_no 3 (by decide) (by decide) _ _ _ _ _ _ _ _ _).mono ?_); rintro e W3 ⟨rfl, hb3⟩; have hq3 := Q2.out.below hb3 Q2.out.lt; have q3c := hq3.cell; have Q3 := hid hq3; have HB3 := hid (tb HB2 hb3); clear hb3 hq3))
  go_ret
  exact ⟨rfl, HB3.out⟩
theorem test_4 (i : Int) (n : Bs) (hn0 : n ≠ []) (hn : nameB n = true) (hnl : n.length <= 2000000) (A : Option Addr) (cap : Nat) (w : World) (hM : MaxL w) :
  Calls Tryz.prog 42 #[(aTs 4 (bs n) 0 ⟨#[]⟩ 0 0 A 0 cap), .int .i64 i] w (rt w (.bool true)) := by
 have cN : ∀ w, MaxL w -> Calls Tryz.prog 69 #[.string (bs n)] w (rt w (.bool true)) := fun w hm => by
  have h := name_ct n hnl w hm
  rw [hn] at h
  exact h
 replace cN := hid cN
 have e0 : (bs n).toList.isEmpty = false := by rw [bs_toList]; cases n; exact absurd rfl hn0; rfl
 have e1 : ((bs n).toList == []) = false := by rw [bs_toList, beq_eq_false_iff_ne]; exact hn0
 have HM := hid hM
 clear hM
 go_enter Tryz.func42, Tryz.ntmps42
 go_wp2_with (go_at_call 69; (with_reducible refine (cN.out _ (HM.out.on (ba w (oTs 4 (bs n) 0 ⟨#[]⟩ 0 0 A 0 cap)) HM.out.lt)).mono ?_); rintro e W1 ⟨rfl, hb1⟩; have hq1 := (Blk.new (w := w) (t := 26) (cs := (rTs 4 (bs n) 0 ⟨#[]⟩ 0 0 A 0 cap)) rfl).below hb1 (Blk.new (w := w) (t := 26) (cs := (rTs 4 (bs n) 0 ⟨#[]⟩ 0 0 A 0 cap)) rfl).lt; have q1c := hq1.cell; have Q1 := hid hq1; have HB1 := hid ((ba w (oTs 4 (bs n) 0 ⟨#[]⟩ 0 0 A 0 cap)).trans (hb1.mono (ba w (oTs 4 (bs n) 0 ⟨#[]⟩ 0 0 A 0 cap)).size)); clear hb1 hq1)
 go_region
 all_goals
  go_wp2_with (first
   | (go_at_call 71; (with_reducible refine (counts_no 4 (by decide) (by decide) _ _ _ _ _ _ _ _ _).mono ?_); rintro e W2 ⟨rfl, hb2⟩; have hq2 := Q1.out.drew.below hb2 Q1.out.drew.lt; have q2c := hq2.cell; have Q2 := hid hq2; have HB2 := hid (HB1.out.drew.trans (hb2.mono HB1.out.drew.size)); clear hb2 hq2)
   | (go_at_call 72; (with_reducible refine (nested_no 4 (by decide) (by decide) _ _ _ _ _ _ _ _ _).mono ?_); rintro e W3 ⟨rfl, hb3⟩; have hq3 := Q2.out.below hb3 Q2.out.lt; have q3c := hq3.cell; have Q3 := hid hq3; have HB3 := hid (tb HB2 hb3); clear hb3 hq3))
  go_ret
  exact ⟨rfl, HB3.out⟩
theorem test_5 (i : Int) (n : Bs) (hn0 : n ≠ []) (hn : nameB n = true) (hnl : n.length <= 2000000) (hlow : n = lowP n) (A : Option Addr) (cap : Nat) (w : World) (hM : MaxL w) :
  Calls Tryz.prog 42 #[(aTs 5 (bs n) 0 ⟨#[]⟩ 0 0 A 0 cap), .int .i64 i] w (rt w (.bool true)) := by
 have cN : ∀ w, MaxL w -> Calls Tryz.prog 69 #[.string (bs n)] w (rt w (.bool true)) := fun w hm => by
  have h := name_ct n hnl w hm
  rw [hn] at h
  exact h
 replace cN := hid cN
 have e0 : (bs n).toList.isEmpty = false := by rw [bs_toList]; cases n; exact absurd rfl hn0; rfl
 have e1 : ((bs n).toList == []) = false := by rw [bs_toList, beq_eq_false_iff_ne]; exact hn0
 have cL : ∀ w, Calls Tryz.prog 70 #[.string (bs n)] w (rt w (.string (bs n))) := fun w => by
  have h := low_ct (bs n) (by rw [bs_size]; omega) w
  rw [show ((bs n).data.toList.map lowB) = n from hlow.symm] at h
  exact h
 replace cL := hid cL
 clear hlow
 have HM := hid hM
 clear hM
 go_enter Tryz.func42, Tryz.ntmps42
 go_wp2_with ((go_at_call 69; (with_reducible refine (cN.out _ (HM.out.on (ba w (oTs 5 (bs n) 0 ⟨#[]⟩ 0 0 A 0 cap)) HM.out.lt)).mono ?_); rintro e W1 ⟨rfl, hb1⟩; have hq1 := (Blk.new (w := w) (t := 26) (cs := (rTs 5 (bs n) 0 ⟨#[]⟩ 0 0 A 0 cap)) rfl).below hb1 (Blk.new (w := w) (t := 26) (cs := (rTs 5 (bs n) 0 ⟨#[]⟩ 0 0 A 0 cap)) rfl).lt; have q1c := hq1.cell; have Q1 := hid hq1; have HB1 := hid ((ba w (oTs 5 (bs n) 0 ⟨#[]⟩ 0 0 A 0 cap)).trans (hb1.mono (ba w (oTs 5 (bs n) 0 ⟨#[]⟩ 0 0 A 0 cap)).size)); clear hb1 hq1))
 have k0 := cell_regrown (show W1.cell? ⟨w.heap.size, 0, none⟩ = some (.int .i64 5) from q1c 0)
 have k1 := cell_regrown (show W1.cell? ⟨w.heap.size, 1, none⟩ = some (.string (bs n)) from q1c 1)
 have cQ : ∀ d os, Calls Tryz.prog 70 #[.string (bs n)] (grow (redrawn W1 d) os) fun e w'' => e = .returned (.string (bs n)) /\ ∃ p : Regrown, w'' = grow (redrawn W1 p.d) p.os := fun d os => Calls.regrown_of (cL.out _)
 clear q1c
 refine wp_region_quiet_below (by kernel_rfl) (by kernel_rfl) ?_
 repeat (quiet_step (exact cQ _ _))
 refine wpQuiet_nil ?_
 intro _ hw'
 obtain ⟨⟨dq, osq⟩, hw''⟩ := hw'
 subst hw''
 have hb2 := below_regrown W1 dq osq
 have hq2 := Q1.out.below hb2 Q1.out.lt
 have Q2 := hid hq2
 have HB2 := hid (tb HB1 hb2)
 have q2c := hq2.cell
 clear hb2 hq2 k0 k1 cQ
 generalize grow (redrawn W1 dq) osq = W2 at *
 go_wp2_with (first
  | (go_at_call 71; (with_reducible refine (counts_no 5 (by decide) (by decide) _ _ _ _ _ _ _ _ _).mono ?_); rintro e W3 ⟨rfl, hb3⟩; have hq3 := Q2.out.below hb3 Q2.out.lt; have q3c := hq3.cell; have Q3 := hid hq3; have HB3 := hid (tb HB2 hb3); clear hb3 hq3)
  | (go_at_call 72; (with_reducible refine (nested_no 5 (by decide) (by decide) _ _ _ _ _ _ _ _ _).mono ?_); rintro e W4 ⟨rfl, hb4⟩; have hq4 := Q3.out.below hb4 Q3.out.lt; have q4c := hq4.cell; have Q4 := hid hq4; have HB4 := hid (tb HB3 hb4); clear hb4 hq4))
 go_ret
 exact ⟨rfl, HB4.out⟩
theorem test_5o (i : Int) (n : Bs) (hn0 : n ≠ []) (hn : nameB n = true) (hnl : n.length <= 2000000) (hlow : n = lowP n) (op : UInt8) (hop : opOk op = true) (v : Bs) (A : Option Addr) (cap : Nat) (w : World) (hM : MaxL w) :
  Calls Tryz.prog 42 #[(aTs 5 (bs n) (nv op) (bs v) 0 0 A 0 cap), .int .i64 i] w (rt w (.bool true)) := by
 have cN : ∀ w, MaxL w -> Calls Tryz.prog 69 #[.string (bs n)] w (rt w (.bool true)) := fun w hm => by
  have h := name_ct n hnl w hm
  rw [hn] at h
  exact h
 replace cN := hid cN
 have e0 : (bs n).toList.isEmpty = false := by rw [bs_toList]; cases n; exact absurd rfl hn0; rfl
 have e1 : ((bs n).toList == []) = false := by rw [bs_toList, beq_eq_false_iff_ne]; exact hn0
 have cL : ∀ w, Calls Tryz.prog 70 #[.string (bs n)] w (rt w (.string (bs n))) := fun w => by
  have h := low_ct (bs n) (by rw [bs_size]; omega) w
  rw [show ((bs n).data.toList.map lowB) = n from hlow.symm] at h
  exact h
 replace cL := hid cL
 clear hlow
 have o0 : (nv op == 0) = false := by rw [beq_eq_false_iff_ne]; exact (opOk_ne hop).1
 have o1 : ¬ op.toNat = 0 := fun e => (opOk_ne hop).1 (by unfold nv; rw [e]; rfl)
 have cI : ∀ w, Calls Tryz.prog 43 #[.string ⟨#[61, 126, 124, 94, 36, 42]⟩, .int .u8 (nv op)] w fun e w' => e = .returned (.int .i64 (Lib.indexByte [61, 126, 124, 94, 36, 42] op)) /\ w = w' := fun w => idx_ct op w
 have hix : decide ((Lib.indexByte [61, 126, 124, 94, 36, 42] op : Int) < 0) = false := by rw [decide_eq_false_iff_not]; exact (opOk_ne hop).2
 obtain ⟨ix, hixe⟩ : ∃ ix : Int, (Lib.indexByte [61, 126, 124, 94, 36, 42] op : Int) = ix := ⟨_, rfl⟩
 rw [hixe] at hix
 simp only [hixe] at cI
 clear hixe
 replace cI := hid cI
 have HM := hid hM
 clear hM
 go_enter Tryz.func42, Tryz.ntmps42
 go_wp2_with ((go_at_call 69; (with_reducible refine (cN.out _ (HM.out.on (ba w (oTs 5 (bs n) (nv op) (bs v) 0 0 A 0 cap)) HM.out.lt)).mono ?_); rintro e W1 ⟨rfl, hb1⟩; have hq1 := (Blk.new (w := w) (t := 26) (cs := (rTs 5 (bs n) (nv op) (bs v) 0 0 A 0 cap)) rfl).below hb1 (Blk.new (w := w) (t := 26) (cs := (rTs 5 (bs n) (nv op) (bs v) 0 0 A 0 cap)) rfl).lt; have q1c := hq1.cell; have Q1 := hid hq1; have HB1 := hid ((ba w (oTs 5 (bs n) (nv op) (bs v) 0 0 A 0 cap)).trans (hb1.mono (ba w (oTs 5 (bs n) (nv op) (bs v) 0 0 A 0 cap)).size)); clear hb1 hq1))
 have k0 := cell_regrown (show W1.cell? ⟨w.heap.size, 0, none⟩ = some (.int .i64 5) from q1c 0)
 have k1 := cell_regrown (show W1.cell? ⟨w.heap.size, 1, none⟩ = some (.string (bs n)) from q1c 1)
 have cQ : ∀ d os, Calls Tryz.prog 70 #[.string (bs n)] (grow (redrawn W1 d) os) fun e w'' => e = .returned (.string (bs n)) /\ ∃ p : Regrown, w'' = grow (redrawn W1 p.d) p.os := fun d os => Calls.regrown_of (cL.out _)
 clear q1c
 refine wp_region_quiet_below (by kernel_rfl) (by kernel_rfl) ?_
 repeat (quiet_step (exact cQ _ _))
 refine wpQuiet_nil ?_
 intro _ hw'
 obtain ⟨⟨dq, osq⟩, hw''⟩ := hw'
 subst hw''
 have hb2 := below_regrown W1 dq osq
 have hq2 := Q1.out.below hb2 Q1.out.lt
 have Q2 := hid hq2
 have HB2 := hid (tb HB1 hb2)
 have q2c := hq2.cell
 clear hb2 hq2 k0 k1 cQ
 generalize grow (redrawn W1 dq) osq = W2 at *
 go_wp2_with (first
  | (go_at_call 43; (with_reducible refine (cI.out _).mono ?_); rintro e WP ⟨rfl, rfl⟩)
  | (go_at_call 71; (with_reducible refine (counts_no 5 (by decide) (by decide) _ _ _ _ _ _ _ _ _).mono ?_); rintro e W3 ⟨rfl, hb3⟩; have hq3 := Q2.out.below hb3 Q2.out.lt; have q3c := hq3.cell; have Q3 := hid hq3; have HB3 := hid (tb HB2 hb3); clear hb3 hq3)
  | (go_at_call 72; (with_reducible refine (nested_no 5 (by decide) (by decide) _ _ _ _ _ _ _ _ _).mono ?_); rintro e W4 ⟨rfl, hb4⟩; have hq4 := Q3.out.below hb4 Q3.out.lt; have q4c := hq4.cell; have Q4 := hid hq4; have HB4 := hid (tb HB3 hb4); clear hb4 hq4))
 go_ret
 exact ⟨rfl, HB4.out⟩
theorem test_6 (i : Int) (A : Option Addr) (cap : Nat) (w : World) :
  Calls Tryz.prog 42 #[(aTs 6 ⟨#[]⟩ 0 ⟨#[]⟩ 0 0 A 0 cap), .int .i64 i] w (rt w (.bool true)) := by
 go_enter Tryz.func42, Tryz.ntmps42
 go_wp2_with fail
 go_region
 all_goals
  go_wp2_with (first
   | (go_at_call 71; (with_reducible refine (counts_no 6 (by decide) (by decide) _ _ _ _ _ _ _ _ _).mono ?_); rintro e W1 ⟨rfl, hb1⟩; have hq1 := (Blk.new (w := w) (t := 26) (cs := (rTs 6 ⟨#[]⟩ 0 ⟨#[]⟩ 0 0 A 0 cap)) rfl).drew.below hb1 (Blk.new (w := w) (t := 26) (cs := (rTs 6 ⟨#[]⟩ 0 ⟨#[]⟩ 0 0 A 0 cap)) rfl).drew.lt; have q1c := hq1.cell; have Q1 := hid hq1; have HB1 := hid ((ba w (oTs 6 ⟨#[]⟩ 0 ⟨#[]⟩ 0 0 A 0 cap)).drew.trans (hb1.mono (ba w (oTs 6 ⟨#[]⟩ 0 ⟨#[]⟩ 0 0 A 0 cap)).drew.size)); clear hb1 hq1)
   | (go_at_call 72; (with_reducible refine (nested_no 6 (by decide) (by decide) _ _ _ _ _ _ _ _ _).mono ?_); rintro e W2 ⟨rfl, hb2⟩; have hq2 := Q1.out.below hb2 Q1.out.lt; have q2c := hq2.cell; have Q2 := hid hq2; have HB2 := hid (tb HB1 hb2); clear hb2 hq2))
  go_ret
  exact ⟨rfl, HB2.out⟩
theorem test_7 (i : Int) (A : Option Addr) (cap : Nat) (w : World) :
  Calls Tryz.prog 42 #[(aTs 7 ⟨#[]⟩ 0 ⟨#[]⟩ 0 0 A 0 cap), .int .i64 i] w (rt w (.bool true)) := by
 go_enter Tryz.func42, Tryz.ntmps42
 go_wp2_with fail
 go_region
 all_goals
  go_wp2_with (first
   | (go_at_call 71; (with_reducible refine (counts_no 7 (by decide) (by decide) _ _ _ _ _ _ _ _ _).mono ?_); rintro e W1 ⟨rfl, hb1⟩; have hq1 := (Blk.new (w := w) (t := 26) (cs := (rTs 7 ⟨#[]⟩ 0 ⟨#[]⟩ 0 0 A 0 cap)) rfl).drew.below hb1 (Blk.new (w := w) (t := 26) (cs := (rTs 7 ⟨#[]⟩ 0 ⟨#[]⟩ 0 0 A 0 cap)) rfl).drew.lt; have q1c := hq1.cell; have Q1 := hid hq1; have HB1 := hid ((ba w (oTs 7 ⟨#[]⟩ 0 ⟨#[]⟩ 0 0 A 0 cap)).drew.trans (hb1.mono (ba w (oTs 7 ⟨#[]⟩ 0 ⟨#[]⟩ 0 0 A 0 cap)).drew.size)); clear hb1 hq1)
   | (go_at_call 72; (with_reducible refine (nested_no 7 (by decide) (by decide) _ _ _ _ _ _ _ _ _).mono ?_); rintro e W2 ⟨rfl, hb2⟩; have hq2 := Q1.out.below hb2 Q1.out.lt; have q2c := hq2.cell; have Q2 := hid hq2; have HB2 := hid (tb HB1 hb2); clear hb2 hq2))
  go_ret
  exact ⟨rfl, HB2.out⟩
theorem test_8 (i : Int) (a c : Int) (h1 : -1000 <= min a c) (h2 : max a c <= 1000) (A : Option Addr) (cap : Nat) (w : World) :
  Calls Tryz.prog 42 #[(aTs 8 ⟨#[]⟩ 0 ⟨#[]⟩ a c A 0 cap), .int .i64 i] w (rt w (.bool true)) := by
 have m1 : decide (min a c < -1000) = false := df (by omega)
 have m2 : decide ((1000 : Int) < max a c) = false := df (by omega)
 go_enter Tryz.func42, Tryz.ntmps42
 go_wp2_with fail
 go_region
 all_goals
  go_wp2_with (first
   | (go_at_call 71; (with_reducible refine (counts_yes1 _ _ _ _ _ _ _ _ _).mono ?_); rintro e W1 ⟨rfl, hb1⟩; have hq1 := (Blk.new (w := w) (t := 26) (cs := (rTs 8 ⟨#[]⟩ 0 ⟨#[]⟩ a c A 0 cap)) rfl).drew.below hb1 (Blk.new (w := w) (t := 26) (cs := (rTs 8 ⟨#[]⟩ 0 ⟨#[]⟩ a c A 0 cap)) rfl).drew.lt; have q1c := hq1.cell; have Q1 := hid hq1; have HB1 := hid ((ba w (oTs 8 ⟨#[]⟩ 0 ⟨#[]⟩ a c A 0 cap)).drew.trans (hb1.mono (ba w (oTs 8 ⟨#[]⟩ 0 ⟨#[]⟩ a c A 0 cap)).drew.size)); clear hb1 hq1)
   | (go_at_call 72; (with_reducible refine (nested_no 8 (by decide) (by decide) _ _ _ _ _ _ _ _ _).mono ?_); rintro e W2 ⟨rfl, hb2⟩; have hq2 := Q1.out.below hb2 Q1.out.lt; have q2c := hq2.cell; have Q2 := hid hq2; have HB2 := hid (tb HB1 hb2); clear hb2 hq2))
  go_ret
  exact ⟨rfl, HB2.out⟩
theorem test_9 (i : Int) (a c : Int) (h1 : -1000 <= min a c) (h2 : max a c <= 1000) (A : Option Addr) (cap : Nat) (w : World) :
  Calls Tryz.prog 42 #[(aTs 9 ⟨#[]⟩ 0 ⟨#[]⟩ a c A 0 cap), .int .i64 i] w (rt w (.bool true)) := by
 have m1 : decide (min a c < -1000) = false := df (by omega)
 have m2 : decide ((1000 : Int) < max a c) = false := df (by omega)
 go_enter Tryz.func42, Tryz.ntmps42
 go_wp2_with fail
 go_region
 all_goals
  go_wp2_with (first
   | (go_at_call 71; (with_reducible refine (counts_yes2 _ _ _ _ _ _ _ _ _).mono ?_); rintro e W1 ⟨rfl, hb1⟩; have hq1 := (Blk.new (w := w) (t := 26) (cs := (rTs 9 ⟨#[]⟩ 0 ⟨#[]⟩ a c A 0 cap)) rfl).drew.below hb1 (Blk.new (w := w) (t := 26) (cs := (rTs 9 ⟨#[]⟩ 0 ⟨#[]⟩ a c A 0 cap)) rfl).drew.lt; have q1c := hq1.cell; have Q1 := hid hq1; have HB1 := hid ((ba w (oTs 9 ⟨#[]⟩ 0 ⟨#[]⟩ a c A 0 cap)).drew.trans (hb1.mono (ba w (oTs 9 ⟨#[]⟩ 0 ⟨#[]⟩ a c A 0 cap)).drew.size)); clear hb1 hq1)
   | (go_at_call 72; (with_reducible refine (nested_no 9 (by decide) (by decide) _ _ _ _ _ _ _ _ _).mono ?_); rintro e W2 ⟨rfl, hb2⟩; have hq2 := Q1.out.below hb2 Q1.out.lt; have q2c := hq2.cell; have Q2 := hid hq2; have HB2 := hid (tb HB1 hb2); clear hb2 hq2))
  go_ret
  exact ⟨rfl, HB2.out⟩
theorem test_10 (i : Int) (A : Option Addr) (m cap : Nat) (w : World) (hP : ∀ W, Below w.heap.size w W -> MaxL W -> Calls Tryz.prog 24 #[.slice A m cap] W (rt W (.bool true))) (hM : MaxL w) :
  Calls Tryz.prog 42 #[(aTs 10 ⟨#[]⟩ 0 ⟨#[]⟩ 0 0 A m cap), .int .i64 i] w (rt w (.bool true)) := by
 have cP := hid hP
 have HM := hid hM
 clear hM
 go_enter Tryz.func42, Tryz.ntmps42
 go_wp2_with fail
 go_region
 all_goals
  go_wp2_with (first
   | (go_at_call 71; (with_reducible refine (counts_no 10 (by decide) (by decide) _ _ _ _ _ _ _ _ _).mono ?_); rintro e W1 ⟨rfl, hb1⟩; have hq1 := (Blk.new (w := w) (t := 26) (cs := (rTs 10 ⟨#[]⟩ 0 ⟨#[]⟩ 0 0 A m cap)) rfl).drew.below hb1 (Blk.new (w := w) (t := 26) (cs := (rTs 10 ⟨#[]⟩ 0 ⟨#[]⟩ 0 0 A m cap)) rfl).drew.lt; have q1c := hq1.cell; have Q1 := hid hq1; have HB1 := hid ((ba w (oTs 10 ⟨#[]⟩ 0 ⟨#[]⟩ 0 0 A m cap)).drew.trans (hb1.mono (ba w (oTs 10 ⟨#[]⟩ 0 ⟨#[]⟩ 0 0 A m cap)).drew.size)); clear hb1 hq1)
   | (go_at_call 72; (with_reducible refine (nested_yes1 _ _ _ _ _ _ _ _ _).mono ?_); rintro e W2 ⟨rfl, hb2⟩; have hq2 := Q1.out.below hb2 Q1.out.lt; have q2c := hq2.cell; have Q2 := hid hq2; have HB2 := hid (tb HB1 hb2); clear hb2 hq2)
   | (go_at_call 24; (with_reducible refine (cP.out _ HB2.out (HM.out.on HB2.out HM.out.lt)).mono ?_); rintro e W3 ⟨rfl, hb3⟩; have hq3 := Q2.out.below hb3 Q2.out.lt; have q3c := hq3.cell; have Q3 := hid hq3; have HB3 := hid (tb HB2 hb3); clear hb3 hq3))
  go_ret
  exact ⟨rfl, HB3.out⟩
theorem test_11 (i : Int) (A : Option Addr) (m cap : Nat) (w : World) (hP : ∀ W, Below w.heap.size w W -> MaxL W -> Calls Tryz.prog 24 #[.slice A m cap] W (rt W (.bool true))) (hM : MaxL w) :
  Calls Tryz.prog 42 #[(aTs 11 ⟨#[]⟩ 0 ⟨#[]⟩ 0 0 A m cap), .int .i64 i] w (rt w (.bool true)) := by
 have cP := hid hP
 have HM := hid hM
 clear hM
 go_enter Tryz.func42, Tryz.ntmps42
 go_wp2_with fail
 go_region
 all_goals
  go_wp2_with (first
   | (go_at_call 71; (with_reducible refine (counts_no 11 (by decide) (by decide) _ _ _ _ _ _ _ _ _).mono ?_); rintro e W1 ⟨rfl, hb1⟩; have hq1 := (Blk.new (w := w) (t := 26) (cs := (rTs 11 ⟨#[]⟩ 0 ⟨#[]⟩ 0 0 A m cap)) rfl).drew.below hb1 (Blk.new (w := w) (t := 26) (cs := (rTs 11 ⟨#[]⟩ 0 ⟨#[]⟩ 0 0 A m cap)) rfl).drew.lt; have q1c := hq1.cell; have Q1 := hid hq1; have HB1 := hid ((ba w (oTs 11 ⟨#[]⟩ 0 ⟨#[]⟩ 0 0 A m cap)).drew.trans (hb1.mono (ba w (oTs 11 ⟨#[]⟩ 0 ⟨#[]⟩ 0 0 A m cap)).drew.size)); clear hb1 hq1)
   | (go_at_call 72; (with_reducible refine (nested_yes2 _ _ _ _ _ _ _ _ _).mono ?_); rintro e W2 ⟨rfl, hb2⟩; have hq2 := Q1.out.below hb2 Q1.out.lt; have q2c := hq2.cell; have Q2 := hid hq2; have HB2 := hid (tb HB1 hb2); clear hb2 hq2)
   | (go_at_call 24; (with_reducible refine (cP.out _ HB2.out (HM.out.on HB2.out HM.out.lt)).mono ?_); rintro e W3 ⟨rfl, hb3⟩; have hq3 := Q2.out.below hb3 Q2.out.lt; have q3c := hq3.cell; have Q3 := hid hq3; have HB3 := hid (tb HB2 hb3); clear hb3 hq3))
  go_ret
  exact ⟨rfl, HB3.out⟩
end sel
end Go.Proofs.YtaobpkffcolobaaGreatDoor
