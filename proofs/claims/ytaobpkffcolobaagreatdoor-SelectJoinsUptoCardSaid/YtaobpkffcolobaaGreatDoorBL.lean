/- Contracts and plain law, a bundle. -/
import Derived.Lib.QuietBelow
import Derived.Lib.ItoaLen
import Derived.Lib.Hide
import Derived.Test.YtaobpkffcolobaaGreatDoorBA
import Derived.Test.YtaobpkffcolobaaGreatDoorBK2
import Derived.Test.YtaobpkffcolobaaGreatDoorBF
import Derived.Test.YtaobpkffcolobaaGreatDoorBH
set_option linter.unusedVariables false
set_option maxRecDepth 100000
set_option maxHeartbeats 16000000
open Go.Lib (hid)
namespace Go.Proofs.YtaobpkffcolobaaGreatDoor
namespace base
open Go.RowKit
theorem write_all (B b : Nat) (bs : List Value) (k c : Nat) (cs : List Value) (w : World) (hk : Blk w k 5 cs.toArray) (hkb : k ≠ b) (hone : ∀ u ∈ cs, u.oneCell' = true) (h : Lib.IsBuilder 83 5 B b bs w) (hlen : bs.length + cs.length <= 140737488355328) (hBw : B <= w.heap.size) :
  Calls Tryz.prog 37 #[(pn b), .slice (some ⟨k, 0, none⟩) cs.length c] w fun e w' => e = .returned (.tuple #[.int .i64 cs.length, .nilIface]) /\ (Lib.BuilderAt 83 5 B b ((pn b)) (bs ++ cs) w' /\ Below B w w' /\ Keeps b w w') := by
 obtain ⟨i0, hi, hz0, hz1, hz2⟩ := info_parts infoByte
 go_enter Tryz.func37, Tryz.ntmps37
 go_wp2_with (go_at_call 64; refine (copyCheck_far B b bs _ h).mono ?_)
 rintro e w1 ⟨rfl, h1, hb1, hsz, hfar⟩
 obtain ⟨hB, v, hbk, hown, hne⟩ := h1
 have HFar := hid hfar
 have HOwn := hid hown
 have HS := hid hsz
 clear hfar hsz
 have c0 : w1.cell? ⟨b, 0, none⟩ = some ((pn b)) := by rw [Lib.cell_of_heap hbk]; rfl
 have c1 : w1.cell? ⟨b, 1, none⟩ = some v := by rw [Lib.cell_of_heap hbk]; rfl
 have hk1 : Blk w1 k 5 cs.toArray := (HFar.out k hkb).trans hk
 go_wp2_with (at_builtin; refine wpList_append_own _ rfl _ _ 34 rfl B 5 i0 (.int .u8 0) 1 1 Tryz.underlying34 hi hz0 hz1 hz2 rfl (by decide) _ _ _ rfl hown ⟨k, 0, none⟩ cs.length c cs rfl (by omega) (by simpa using hk1.news) hone ?c3 ?c4 ?c5 ?_)
 case c3 => unfold maxLen; omega
 case c4 => omega
 case c5 => have := hb1.size; omega
 intro v' w2 hown' hgrow _
 have hlt : b < w1.heap.size := by
  rcases Nat.lt_or_ge b w1.heap.size with h' | h'
  ·exact h'
  ·simp [Array.getElem?_eq_none h'] at hbk
 have hb2 : w2.heap[b]? = some (.cells #[(pn b), v] 83 (0, 0)) := by
  rw [hgrow.block b hlt (fun e => hne e.symm)]
  exact hbk
 have d0 : w2.cell? ⟨b, 0, none⟩ = some ((pn b)) := by rw [Lib.cell_of_heap hb2]; rfl
 have d1 : w2.cell? ⟨b, 1, none⟩ = some v := by rw [Lib.cell_of_heap hb2]; rfl
 have f1 : w2.frozen? ⟨b, 1, none⟩ = false := Lib.frozen_of_heap hb2 1
 obtain ⟨ao, n', cap, rfl⟩ : ∃ ao n' cap, v' = .slice ao n' cap := by
  rcases hown'.2 with ⟨hv, _⟩ | ⟨g, cap, cur, hv, _⟩
  ·exact ⟨_, _, _, hv⟩
  ·exact ⟨_, _, _, hv⟩
 go_wp2
 go_ret2
 refine ⟨rfl, ?_, ?_, ?_⟩
 ·exact Lib.BuilderAt.put (T := 83) (e := 5) hB hb2 (bs' := bs ++ cs) (by simpa using hown') (by decide)
 ·exact (hb1.grown hgrow (by have := hb1.size; omega) (fun k hk => (hown.lt k hk).1)).setCell (p := ⟨b, 1, none⟩) hB _
 ·intro kx tx cx hx htx hkx
  have hx1 : Blk w1 kx tx cx := (HFar.out kx hkx).trans hx
  have h2 : Blk w2 kx tx cx := (hgrow.block kx hx1.lt (fun e => not_row HOwn.out hx1 htx e.symm)).trans hx1
  exact h2.far hkx _
theorem writeTwo_keep (B b : Nat) (l : List UInt8) (k c : Nat) (x y : UInt8) (w : World) (hk : Blk w k 5 #[.int .u8 (x.toNat : Int), .int .u8 (y.toNat : Int)]) (hkb : k ≠ b) (h : IsB B b l w) (hlen : l.length + 2 <= 140737488355328) (hBw : B <= w.heap.size) :
  Calls Tryz.prog 37 #[(pn b), .slice (some ⟨k, 0, none⟩) 2 c] w fun e w' => e = .returned (.tuple #[.int .i64 2, .nilIface]) /\ IsB B b (l ++ [x, y]) w' /\ Below B w w' /\ Keeps b w w' :=
 (write_all B b _ k c [.int .u8 (x.toNat : Int), .int .u8 (y.toNat : Int)] w hk hkb (by simp [Value.oneCell']) h (by rw [Lib.byteCells_length]; exact hlen) hBw).mono fun e w' ⟨he, h1, h2, h3⟩ => ⟨he, Or.inr (by simpa [Lib.byteCells] using h1), h2, h3⟩
end base
namespace sel
open Go.RowKit Go.Sort base tok dim rul quo
def nthTx (a b : Int) : Bs := if b < 0 then Lib.itoa a ++ [110] ++ Lib.itoa b else Lib.itoa a ++ [110, 43] ++ Lib.itoa b
def opTx (op : UInt8) : Bs := if op = 61 then [] else [op]
def testTx (k : Int) (n : Bs) (op : UInt8) (v : Bs) (a b : Int) (sub : Bs) : Bs :=
 if k = 1 then [42] else if k = 2 then n else if k = 3 then [35] ++ n else if k = 4 then [46] ++ n
 else if k = 5 then (if op = 0 then [91] ++ n ++ [93] else [91] ++ n ++ opTx op ++ [61, 34] ++ quo.quoteP v ++ [34, 93])
 else if k = 6 then [58, 114, 111, 111, 116] else if k = 7 then [58, 101, 109, 112, 116, 121] else if k = 8 then [58, 110, 116, 104, 45, 99, 104, 105, 108, 100, 40] ++ nthTx a b ++ [41] else if k = 9 then [58, 110, 116, 104, 45, 108, 97, 115, 116, 45, 99, 104, 105, 108, 100, 40] ++ nthTx a b ++ [41]
 else if k = 10 then [58, 110, 111, 116, 40] ++ sub ++ [41] else [58, 105, 115, 40] ++ sub ++ [41]
theorem itoa_le {n : Int} (h : I64 n) : (Lib.itoa n).length <= 21 := Lib.itoa_length_le n h.1 h.2
theorem nthTx_le {a b : Int} (ha : I64 a) (hb : I64 b) : (nthTx a b).length <= 44 := by
 have h1 := itoa_le ha
 have h2 := itoa_le hb
 unfold nthTx
 split <;> (simp only [List.length_append, List.length_cons, List.length_nil]; omega)
theorem nthText_neg (k : Int) (n : ByteArray) (o : Int) (v : ByteArray) (a c : Int) (A : Option Addr) (m cap : Nat) (ha : I64 a) (hcc : I64 c) (hc : c < 0) (w : World) (hT : PowAt w) :
  Calls Tryz.prog 67 #[(aTs k n o v a c A m cap)] w (rt w (.string (bs (nthTx a c)))) := by
 have hcat : bs (Lib.itoa a) ++ ⟨#[110]⟩ ++ bs (Lib.itoa c) = bs (nthTx a c) := by
  unfold nthTx
  rw [if_pos hc]
  apply ByteArray.ext; apply Array.ext'
  simp [bs, ByteArray.data_append]
 have hl1 : (bs (Lib.itoa a)).size <= 21 := itoa_le ha
 have hl2 : (bs (Lib.itoa c)).size <= 21 := itoa_le hcc
 have a1 : ¬ 9223372036854775807 < (bs (Lib.itoa a)).size + 1 := by omega
 have a2 : ¬ 9223372036854775807 < (bs (Lib.itoa a)).size + 1 + (bs (Lib.itoa c)).size := by omega
 have hd : decide (c < 0) = true := by rw [decide_eq_true_eq]; exact hc
 have cA := hid (fun W hW => itoa_ct a ha.1 ha.2 W hW)
 have cC := hid (fun W hW => itoa_ct c hcc.1 hcc.2 W hW)
 have HT := hid hT
 have b0 := (Blk.new rfl : Blk (w.alloc (oTs k n o v a c A m cap)) w.heap.size 26 (rTs k n o v a c A m cap))
 have k4 := cell_regrown (show (w.alloc (oTs k n o v a c A m cap)).cell? ⟨w.heap.size, 4, none⟩ = some (.int .i64 a) from b0.cell 4)
 have k5 := cell_regrown (show (w.alloc (oTs k n o v a c A m cap)).cell? ⟨w.heap.size, 5, none⟩ = some (.int .i64 c) from b0.cell 5)
 have HB := hid (ba w (oTs k n o v a c A m cap))
 have on : ∀ d os, PowAt (grow (redrawn (w.alloc (oTs k n o v a c A m cap)) d) os) := fun d os => HT.out.on (HB.out.trans ((below_regrown _ d os).mono HB.out.size))
 have cQ1 : ∀ d os, Calls Tryz.prog 20 #[.int .i64 a] (grow (redrawn (w.alloc (oTs k n o v a c A m cap)) d) os) fun e w'' => e = .returned (.string (bs (Lib.itoa a))) /\ ∃ p : Regrown, w'' = grow (redrawn (w.alloc (oTs k n o v a c A m cap)) p.d) p.os := fun d os => Calls.regrown_of (cA.out _ (on d os))
 have cQ2 : ∀ d os, Calls Tryz.prog 20 #[.int .i64 c] (grow (redrawn (w.alloc (oTs k n o v a c A m cap)) d) os) fun e w'' => e = .returned (.string (bs (Lib.itoa c))) /\ ∃ p : Regrown, w'' = grow (redrawn (w.alloc (oTs k n o v a c A m cap)) p.d) p.os := fun d os => Calls.regrown_of (cC.out _ (on d os))
 clear ha hcc hc hT b0 on
 go_enter Tryz.func67, Tryz.ntmps67
 go_wp2_with fail
 refine wp_region_quiet_below (by kernel_rfl) (by kernel_rfl) ?_
 repeat (quiet_step (first | exact cQ1 _ _ | exact cQ2 _ _))
 refine wpQuiet_nil ?_
 intro _ hw'
 obtain ⟨⟨dq, osq⟩, hw''⟩ := hw'
 subst hw''
 have hb2 := HB.out.trans ((below_regrown (w.alloc (oTs k n o v a c A m cap)) dq osq).mono HB.out.size)
 go_wp2_with fail
 go_ret
 exact ⟨rfl, hb2⟩
theorem nthText_pos (k : Int) (n : ByteArray) (o : Int) (v : ByteArray) (a c : Int) (A : Option Addr) (m cap : Nat) (ha : I64 a) (hcc : I64 c) (hc : ¬ c < 0) (w : World) (hT : PowAt w) :
  Calls Tryz.prog 67 #[(aTs k n o v a c A m cap)] w (rt w (.string (bs (nthTx a c)))) := by
 have hcat : bs (Lib.itoa a) ++ ⟨#[110, 43]⟩ ++ bs (Lib.itoa c) = bs (nthTx a c) := by
  unfold nthTx
  rw [if_neg hc]
  apply ByteArray.ext; apply Array.ext'
  simp [bs, ByteArray.data_append]
 have hl1 : (bs (Lib.itoa a)).size <= 21 := itoa_le ha
 have hl2 : (bs (Lib.itoa c)).size <= 21 := itoa_le hcc
 have a1 : ¬ 9223372036854775807 < (bs (Lib.itoa a)).size + 2 := by omega
 have a2 : ¬ 9223372036854775807 < (bs (Lib.itoa a)).size + 2 + (bs (Lib.itoa c)).size := by omega
 have hd : decide (c < 0) = false := by rw [decide_eq_false_iff_not]; exact hc
 have cA := hid (fun W hW => itoa_ct a ha.1 ha.2 W hW)
 have cC := hid (fun W hW => itoa_ct c hcc.1 hcc.2 W hW)
 have HT := hid hT
 have b0 := (Blk.new rfl : Blk (w.alloc (oTs k n o v a c A m cap)) w.heap.size 26 (rTs k n o v a c A m cap))
 have k4 := cell_regrown (show (w.alloc (oTs k n o v a c A m cap)).cell? ⟨w.heap.size, 4, none⟩ = some (.int .i64 a) from b0.cell 4)
 have k5 := cell_regrown (show (w.alloc (oTs k n o v a c A m cap)).cell? ⟨w.heap.size, 5, none⟩ = some (.int .i64 c) from b0.cell 5)
 have HB := hid (ba w (oTs k n o v a c A m cap))
 have on : ∀ d os, PowAt (grow (redrawn (w.alloc (oTs k n o v a c A m cap)) d) os) := fun d os => HT.out.on (HB.out.trans ((below_regrown _ d os).mono HB.out.size))
 have cQ1 : ∀ d os, Calls Tryz.prog 20 #[.int .i64 a] (grow (redrawn (w.alloc (oTs k n o v a c A m cap)) d) os) fun e w'' => e = .returned (.string (bs (Lib.itoa a))) /\ ∃ p : Regrown, w'' = grow (redrawn (w.alloc (oTs k n o v a c A m cap)) p.d) p.os := fun d os => Calls.regrown_of (cA.out _ (on d os))
 have cQ2 : ∀ d os, Calls Tryz.prog 20 #[.int .i64 c] (grow (redrawn (w.alloc (oTs k n o v a c A m cap)) d) os) fun e w'' => e = .returned (.string (bs (Lib.itoa c))) /\ ∃ p : Regrown, w'' = grow (redrawn (w.alloc (oTs k n o v a c A m cap)) p.d) p.os := fun d os => Calls.regrown_of (cC.out _ (on d os))
 clear ha hcc hc hT b0 on
 go_enter Tryz.func67, Tryz.ntmps67
 go_wp2_with fail
 refine wp_region_quiet_below (by kernel_rfl) (by kernel_rfl) ?_
 repeat (quiet_step (first | exact cQ1 _ _ | exact cQ2 _ _))
 refine wpQuiet_nil ?_
 intro _ hw'
 obtain ⟨⟨dq, osq⟩, hw''⟩ := hw'
 subst hw''
 have hb2 := HB.out.trans ((below_regrown (w.alloc (oTs k n o v a c A m cap)) dq osq).mono HB.out.size)
 go_wp2_with fail
 go_ret
 exact ⟨rfl, hb2⟩
theorem nthText_ct (k : Int) (n : ByteArray) (o : Int) (v : ByteArray) (a c : Int) (A : Option Addr) (m cap : Nat) (ha : I64 a) (hcc : I64 c) (w : World) (hT : PowAt w) :
  Calls Tryz.prog 67 #[(aTs k n o v a c A m cap)] w (rt w (.string (bs (nthTx a c)))) := by
 by_cases hc : c < 0
 ·exact nthText_neg k n o v a c A m cap ha hcc hc w hT
 ·exact nthText_pos k n o v a c A m cap ha hcc hc w hT
theorem testText_1 (n : Bs) (hn : n.length <= 2000000) (o : Int) (v : ByteArray) (a c : Int) (A : Option Addr) (m cap : Nat) (w : World) :
  Calls Tryz.prog 39 #[(aTs 1 (bs n) o v a c A m cap)] w (rt w (.string (bs ([42])))) := by
 have HB := hid (ba w (oTs 1 (bs n) o v a c A m cap))
 go_enter Tryz.func39, Tryz.ntmps39
 go_wp2_with fail
 go_ret
 exact ⟨rfl, HB.out⟩
theorem testText_2 (n : Bs) (hn : n.length <= 2000000) (o : Int) (v : ByteArray) (a c : Int) (A : Option Addr) (m cap : Nat) (w : World) :
  Calls Tryz.prog 39 #[(aTs 2 (bs n) o v a c A m cap)] w (rt w (.string (bs (n)))) := by
 have HB := hid (ba w (oTs 2 (bs n) o v a c A m cap))
 go_enter Tryz.func39, Tryz.ntmps39
 go_wp2_with fail
 go_ret
 exact ⟨rfl, HB.out⟩
theorem testText_3 (n : Bs) (hn : n.length <= 2000000) (o : Int) (v : ByteArray) (a c : Int) (A : Option Addr) (m cap : Nat) (w : World) :
  Calls Tryz.prog 39 #[(aTs 3 (bs n) o v a c A m cap)] w (rt w (.string (bs ([35] ++ n)))) := by
 have hcat : (⟨#[35]⟩ ++ bs n : ByteArray) = bs ([35] ++ n) := by
  apply ByteArray.ext; apply Array.ext'
  simp [bs, ByteArray.data_append]
 have hsz : (bs n).size = n.length := rfl
 have a1 : ¬ 9223372036854775807 < 1 + (bs n).size := by omega
 have a2 : ¬ 9223372036854775807 < 1 + (bs n).size + 1 := by omega
 have HB := hid (ba w (oTs 3 (bs n) o v a c A m cap))
 go_enter Tryz.func39, Tryz.ntmps39
 go_wp2_with fail
 go_ret
 exact ⟨rfl, HB.out⟩
theorem testText_4 (n : Bs) (hn : n.length <= 2000000) (o : Int) (v : ByteArray) (a c : Int) (A : Option Addr) (m cap : Nat) (w : World) :
  Calls Tryz.prog 39 #[(aTs 4 (bs n) o v a c A m cap)] w (rt w (.string (bs ([46] ++ n)))) := by
 have hcat : (⟨#[46]⟩ ++ bs n : ByteArray) = bs ([46] ++ n) := by
  apply ByteArray.ext; apply Array.ext'
  simp [bs, ByteArray.data_append]
 have hsz : (bs n).size = n.length := rfl
 have a1 : ¬ 9223372036854775807 < 1 + (bs n).size := by omega
 have a2 : ¬ 9223372036854775807 < 1 + (bs n).size + 1 := by omega
 have HB := hid (ba w (oTs 4 (bs n) o v a c A m cap))
 go_enter Tryz.func39, Tryz.ntmps39
 go_wp2_with fail
 go_ret
 exact ⟨rfl, HB.out⟩
theorem testText_5 (n : Bs) (hn : n.length <= 2000000) (v : ByteArray) (a c : Int) (A : Option Addr) (m cap : Nat) (w : World) :
  Calls Tryz.prog 39 #[(aTs 5 (bs n) 0 v a c A m cap)] w (rt w (.string (bs ([91] ++ n ++ [93])))) := by
 have hcat : (⟨#[91]⟩ ++ bs n ++ ⟨#[93]⟩ : ByteArray) = bs ([91] ++ n ++ [93]) := by
  apply ByteArray.ext; apply Array.ext'
  simp [bs, ByteArray.data_append]
 have hsz : (bs n).size = n.length := rfl
 have a1 : ¬ 9223372036854775807 < 1 + (bs n).size := by omega
 have a2 : ¬ 9223372036854775807 < 1 + (bs n).size + 1 := by omega
 have HB := hid (ba w (oTs 5 (bs n) 0 v a c A m cap))
 go_enter Tryz.func39, Tryz.ntmps39
 go_wp2_with fail
 go_ret
 exact ⟨rfl, HB.out⟩
theorem testText_6 (n : Bs) (hn : n.length <= 2000000) (o : Int) (v : ByteArray) (a c : Int) (A : Option Addr) (m cap : Nat) (w : World) :
  Calls Tryz.prog 39 #[(aTs 6 (bs n) o v a c A m cap)] w (rt w (.string (bs ([58, 114, 111, 111, 116])))) := by
 have HB := hid (ba w (oTs 6 (bs n) o v a c A m cap))
 go_enter Tryz.func39, Tryz.ntmps39
 go_wp2_with fail
 go_ret
 exact ⟨rfl, HB.out⟩
theorem testText_7 (n : Bs) (hn : n.length <= 2000000) (o : Int) (v : ByteArray) (a c : Int) (A : Option Addr) (m cap : Nat) (w : World) :
  Calls Tryz.prog 39 #[(aTs 7 (bs n) o v a c A m cap)] w (rt w (.string (bs ([58, 101, 109, 112, 116, 121])))) := by
 have HB := hid (ba w (oTs 7 (bs n) o v a c A m cap))
 go_enter Tryz.func39, Tryz.ntmps39
 go_wp2_with fail
 go_ret
 exact ⟨rfl, HB.out⟩
theorem testText_8 (n : Bs) (hn : n.length <= 2000000) (o : Int) (v : ByteArray) (a c : Int) (A : Option Addr) (m cap : Nat) (w : World) (hT : PowAt w) (ha : I64 a) (hcc : I64 c) :
  Calls Tryz.prog 39 #[(aTs 8 (bs n) o v a c A m cap)] w (rt w (.string (bs ([58, 110, 116, 104, 45, 99, 104, 105, 108, 100, 40] ++ nthTx a c ++ [41])))) := by
 have hcat : (⟨#[58, 110, 116, 104, 45, 99, 104, 105, 108, 100, 40]⟩ ++ bs (nthTx a c) ++ ⟨#[41]⟩ : ByteArray) = bs ([58, 110, 116, 104, 45, 99, 104, 105, 108, 100, 40] ++ nthTx a c ++ [41]) := by
  apply ByteArray.ext; apply Array.ext'
  simp [bs, ByteArray.data_append]
 have hsz : (bs (nthTx a c)).size <= 44 := nthTx_le ha hcc
 have a1 : ¬ 9223372036854775807 < 11 + (bs (nthTx a c)).size := by omega
 have a2 : ¬ 9223372036854775807 < 11 + (bs (nthTx a c)).size + 1 := by omega
 have cN := hid (nthText_ct 8 (bs n) o v a c A m cap ha hcc (w.alloc (oTs 8 (bs n) o v a c A m cap)) (hT.on (ba w _)))
 clear hT ha hcc
 have HB := hid (ba w (oTs 8 (bs n) o v a c A m cap))
 go_enter Tryz.func39, Tryz.ntmps39
 go_wp2_with (go_at_call 67; (with_reducible refine cN.out.mono ?_); rintro e W1 ⟨rfl, hb1⟩; have HB1 := hid (tb HB hb1); clear hb1)
 go_ret
 exact ⟨rfl, HB1.out⟩
theorem testText_9 (n : Bs) (hn : n.length <= 2000000) (o : Int) (v : ByteArray) (a c : Int) (A : Option Addr) (m cap : Nat) (w : World) (hT : PowAt w) (ha : I64 a) (hcc : I64 c) :
  Calls Tryz.prog 39 #[(aTs 9 (bs n) o v a c A m cap)] w (rt w (.string (bs ([58, 110, 116, 104, 45, 108, 97, 115, 116, 45, 99, 104, 105, 108, 100, 40] ++ nthTx a c ++ [41])))) := by
 have hcat : (⟨#[58, 110, 116, 104, 45, 108, 97, 115, 116, 45, 99, 104, 105, 108, 100, 40]⟩ ++ bs (nthTx a c) ++ ⟨#[41]⟩ : ByteArray) = bs ([58, 110, 116, 104, 45, 108, 97, 115, 116, 45, 99, 104, 105, 108, 100, 40] ++ nthTx a c ++ [41]) := by
  apply ByteArray.ext; apply Array.ext'
  simp [bs, ByteArray.data_append]
 have hsz : (bs (nthTx a c)).size <= 44 := nthTx_le ha hcc
 have a1 : ¬ 9223372036854775807 < 16 + (bs (nthTx a c)).size := by omega
 have a2 : ¬ 9223372036854775807 < 16 + (bs (nthTx a c)).size + 1 := by omega
 have cN := hid (nthText_ct 9 (bs n) o v a c A m cap ha hcc (w.alloc (oTs 9 (bs n) o v a c A m cap)) (hT.on (ba w _)))
 clear hT ha hcc
 have HB := hid (ba w (oTs 9 (bs n) o v a c A m cap))
 go_enter Tryz.func39, Tryz.ntmps39
 go_wp2_with (go_at_call 67; (with_reducible refine cN.out.mono ?_); rintro e W1 ⟨rfl, hb1⟩; have HB1 := hid (tb HB hb1); clear hb1)
 go_ret
 exact ⟨rfl, HB1.out⟩
theorem testText_10 (n : Bs) (hn : n.length <= 2000000) (o : Int) (v : ByteArray) (a c : Int) (A : Option Addr) (m cap : Nat) (w : World) (sub : Bs) (hsub : sub.length <= 100000000) (hS : ∀ W, Below w.heap.size w W -> Calls Tryz.prog 22 #[.slice A m cap] W (rt W (.string (bs sub)))) :
  Calls Tryz.prog 39 #[(aTs 10 (bs n) o v a c A m cap)] w (rt w (.string (bs ([58, 110, 111, 116, 40] ++ sub ++ [41])))) := by
 have hcat : (⟨#[58, 110, 111, 116, 40]⟩ ++ bs sub ++ ⟨#[41]⟩ : ByteArray) = bs ([58, 110, 111, 116, 40] ++ sub ++ [41]) := by
  apply ByteArray.ext; apply Array.ext'
  simp [bs, ByteArray.data_append]
 have hsz : (bs sub).size = sub.length := rfl
 have a1 : ¬ 9223372036854775807 < 5 + (bs sub).size := by omega
 have a2 : ¬ 9223372036854775807 < 5 + (bs sub).size + 1 := by omega
 have cS := hid hS
 clear hS
 have HB := hid (ba w (oTs 10 (bs n) o v a c A m cap))
 go_enter Tryz.func39, Tryz.ntmps39
 go_wp2_with (go_at_call 22; (with_reducible refine (cS.out _ HB.out).mono ?_); rintro e W1 ⟨rfl, hb1⟩; have HB1 := hid (tb HB hb1); clear hb1)
 go_ret
 exact ⟨rfl, HB1.out⟩
theorem testText_11 (n : Bs) (hn : n.length <= 2000000) (o : Int) (v : ByteArray) (a c : Int) (A : Option Addr) (m cap : Nat) (w : World) (sub : Bs) (hsub : sub.length <= 100000000) (hS : ∀ W, Below w.heap.size w W -> Calls Tryz.prog 22 #[.slice A m cap] W (rt W (.string (bs sub)))) :
  Calls Tryz.prog 39 #[(aTs 11 (bs n) o v a c A m cap)] w (rt w (.string (bs ([58, 105, 115, 40] ++ sub ++ [41])))) := by
 have hcat : (⟨#[58, 105, 115, 40]⟩ ++ bs sub ++ ⟨#[41]⟩ : ByteArray) = bs ([58, 105, 115, 40] ++ sub ++ [41]) := by
  apply ByteArray.ext; apply Array.ext'
  simp [bs, ByteArray.data_append]
 have hsz : (bs sub).size = sub.length := rfl
 have a1 : ¬ 9223372036854775807 < 4 + (bs sub).size := by omega
 have a2 : ¬ 9223372036854775807 < 4 + (bs sub).size + 1 := by omega
 have cS := hid hS
 clear hS
 have HB := hid (ba w (oTs 11 (bs n) o v a c A m cap))
 go_enter Tryz.func39, Tryz.ntmps39
 go_wp2_with (go_at_call 22; (with_reducible refine (cS.out _ HB.out).mono ?_); rintro e W1 ⟨rfl, hb1⟩; have HB1 := hid (tb HB hb1); clear hb1)
 go_ret
 exact ⟨rfl, HB1.out⟩
end sel
namespace sel
open Go.RowKit base tok rul quo
def sepTx (j : UInt8) : Bs := [32] ++ (if j = 32 then [] else [j, 32])
mutual
def tsTx : Ts -> Bs
 | .mk k n op v a b subs => testTx k n op v a b (Lib.join (pasTx subs) [44, 32])
def ssTx : List Ts -> Bs
 | [] => []
 | t :: l => tsTx t ++ ssTx l
def sssTx : List (List Ts) -> Bs -> Bs
 | [], _ => []
 | s :: l, [] => []
 | s :: l, j :: r => sepTx j ++ ssTx s ++ sssTx l r
def paTx : Pa -> Bs
 | .mk [] _ => []
 | .mk (s :: l) joins => ssTx s ++ sssTx l joins
def pasTx : List Pa -> List Bs
 | [] => []
 | p :: l => paTx p :: pasTx l
end
def listTx (l : List Pa) : Bs := Lib.join (pasTx l) [44, 32]
theorem ss_step {l : List Ts} {i : Nat} {t : Ts} (h : l[i]? = some t) : ssTx (l.take (i + 1)) = ssTx (l.take i) ++ tsTx t := by
 induction l generalizing i with
 | nil => cases h
 | cons x l ih =>
  cases i with
  | zero =>
   obtain rfl := Option.some.inj h
   rw [List.take_succ_cons, List.take_zero, ssTx, ssTx, List.take_zero, ssTx, List.append_nil, List.nil_append]
  | succ i =>
   rw [List.take_succ_cons, List.take_succ_cons, ssTx, ssTx, ih (i := i) h, List.append_assoc]
theorem sss_step {l : List (List Ts)} {js : Bs} {i : Nat} {s : List Ts} {j : UInt8} (h : l[i]? = some s) (hj : js[i]? = some j) : sssTx (l.take (i + 1)) js = sssTx (l.take i) js ++ (sepTx j ++ ssTx s) := by
 induction l generalizing i js with
 | nil => cases h
 | cons x l ih =>
  cases js with
  | nil => cases hj
  | cons a r =>
   cases i with
   | zero =>
    obtain rfl := Option.some.inj h
    obtain rfl := Option.some.inj hj
    rw [List.take_succ_cons, List.take_zero, sssTx, sssTx, List.take_zero, sssTx, List.append_nil, List.nil_append]
   | succ i =>
    rw [List.take_succ_cons, List.take_succ_cons, sssTx, sssTx, ih (i := i) (js := r) h hj]
    simp only [List.append_assoc]
def paN (steps : List (List Ts)) (joins : Bs) (k : Nat) : Bs := paTx (.mk (steps.take k) joins)
theorem paN_zero (steps : List (List Ts)) (joins : Bs) : paN steps joins 0 = [] := by rw [paN, List.take_zero, paTx]
theorem paN_one {steps : List (List Ts)} {joins : Bs} {s : List Ts} (h : steps[0]? = some s) : paN steps joins 1 = ssTx s := by
 cases steps with
 | nil => cases h
 | cons x l =>
  obtain rfl := Option.some.inj h
  rw [paN, List.take_succ_cons, List.take_zero, paTx, sssTx, List.append_nil]
theorem paN_step {steps : List (List Ts)} {joins : Bs} {i : Nat} {s : List Ts} {j : UInt8} (h : steps[i + 1]? = some s) (hj : joins[i]? = some j) : paN steps joins (i + 2) = paN steps joins (i + 1) ++ sepTx j ++ ssTx s := by
 cases steps with
 | nil => cases h
 | cons x l =>
  rw [paN, paN, List.take_succ_cons, List.take_succ_cons, paTx, paTx, sss_step (l := l) (i := i) h hj]
  simp only [List.append_assoc]
theorem paN_all (steps : List (List Ts)) (joins : Bs) : paN steps joins steps.length = paTx (.mk steps joins) := by rw [paN, List.take_length]
theorem pas_len : ∀ l : List Pa, (pasTx l).length = l.length
 | [] => rfl
 | p :: l => by rw [pasTx, List.length_cons, pas_len l, List.length_cons]
theorem pas_get : ∀ {l : List Pa} {i : Nat} {p : Pa}, l[i]? = some p -> (pasTx l)[i]? = some (paTx p)
 | [], i, p, h => by cases h
 | a :: l, 0, p, h => by
  obtain rfl := Option.some.inj h
  rw [pasTx]
  rfl
 | a :: l, i + 1, p, h => by
  rw [pasTx]
  exact pas_get (i := i) h
end sel
end Go.Proofs.YtaobpkffcolobaaGreatDoor
