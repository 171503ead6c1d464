/- Contracts and plain law, a bundle. -/
import Derived.Lib.LaidTab
import Derived.Lib.SmallJoins
import Derived.Deep.QuietTactic
import Derived.BigQuiet
import Derived.Lib.Hide
import Derived.Test.YtlfkkaofgcongaaGreatDoorD0
set_option linter.unusedVariables false
set_option maxRecDepth 100000
set_option maxHeartbeats 16000000
open Go.Lib (hid)
namespace Go.Proofs.YtlfkkaofgcongaaGreatDoor
namespace col
open Go.RowKit base tok
def hexC (n : Nat) : UInt8 := if n < 10 then UInt8.ofNat (48 + n) else UInt8.ofNat (87 + n)
def hexN : Nat -> Nat -> Bs
 | 0, _ => []
 | k + 1, u => hexN k (u / 16) ++ [hexC (u % 16)]
theorem hexN_len : ∀ (k u : Nat), (hexN k u).length = k
 | 0, _ => rfl
 | k + 1, u => by simp [hexN, hexN_len k]
theorem hexN_cons : ∀ (k u : Nat), hexN (k + 1) u = hexC (u / 16 ^ k % 16) :: hexN k u
 | 0, u => by simp [hexN]
 | k + 1, u => by
  rw [hexN, hexN_cons k, hexN, List.cons_append]
  congr 2
  rw [Nat.div_div_eq_div_mul, Nat.pow_succ, Nat.mul_comm]
def digA (k u : Nat) : Bs := List.replicate (65 - k) 0 ++ hexN k u
theorem digA_len (k u : Nat) (h : k <= 65) : (digA k u).length = 65 := by simp [digA, hexN_len]; omega
theorem digA_step (k u : Nat) (h : k < 65) : digA (k + 1) u = (digA k u).set (64 - k) (hexC (u / 16 ^ k % 16)) := by
 unfold digA
 rw [hexN_cons]
 have h1 : List.replicate (65 - k) (0 : UInt8) = List.replicate (65 - (k + 1)) 0 ++ [0] := by
  rw [<- List.replicate_succ', show 65 - (k + 1) + 1 = 65 - k by omega]
 rw [h1, List.append_assoc, List.set_append_right _ _ (by simp)]
 simp
theorem digA_get (k u j : Nat) (h : k <= 65) (c : UInt8) (hj : (hexN k u)[j]? = some c) : (digA k u)[65 - k + j]? = some c := by
 unfold digA
 rw [List.getElem?_append_right (by simp), List.length_replicate, show 65 - k + j - (65 - k) = j by omega]
 exact hj
def tailS (l : Bs) : Bs := if l = [102, 102] then [] else l
def textS (x : Nat) : Bs := 35 :: ((hexN 8 x).take 6 ++ tailS ((hexN 8 x).drop 6))
end col
namespace col
open Go.RowKit base tok
def bruTab : List Int := [0,1,56,2,57,49,28,3,61,58,42,50,38,29,17,4,62,47,59,36,45,43,51,22,53,39,33,30,24,18,12,5,63,55,48,27,60,41,37,16,46,35,44,21,52,32,23,11,54,26,40,15,34,20,31,10,25,14,19,9,13,8,7,6]
def BruAt (w : World) : Prop := 8 < w.heap.size /\ Lib.TabIs Tryz.prog w "math/bits.deBruijn64tab" .u8 bruTab
theorem BruAt.on {w w' : World} (h : BruAt w) (hb : Below w.heap.size w w') : BruAt w' := by
 refine ⟨Nat.lt_of_lt_of_le h.1 hb.size, ?_⟩
 have hg : Tryz.prog.globalNamed "math/bits.deBruijn64tab" = some 8 := by kernel_rfl
 have h2 := h.2
 unfold Lib.TabIs World.var? at h2 ⊢
 rw [hg] at h2 ⊢
 simp only [Option.bind_some] at h2 ⊢
 rw [hb.block _ h.1]
 exact h2
theorem tz64_ct (w : World) (hT : BruAt w) : Calls Tryz.prog 168 #[.int .u64 16] w fun e w' => e = .returned (.int .i64 4) /\ w = w' := by
 have hc : w.cell? ⟨8, 15, none⟩ = some (.int .u8 4) := hT.2.cell (by kernel_rfl) 15 (by decide)
 have e1 : IntKind.u64.wrap (-16) = 18446744073709551600 := by decide
 have e2 : bits BinOp.and IntKind.u64 16 18446744073709551600 = 16 := by decide +kernel
 have e3 : IntKind.u64.wrap 4573921808821661840 = 4573921808821661840 := by decide
 clear hT
 go_enter Tryz.func168, Tryz.ntmps168
 go_wp2
 go_ret
 exact ⟨rfl, rfl⟩
theorem tz_ct (w : World) (hT : BruAt w) : Calls Tryz.prog 152 #[.int .u64 16] w fun e w' => e = .returned (.int .i64 4) /\ w = w' := by
 have c1 := hid (fun w h => tz64_ct w h)
 have HT := hid hT
 clear hT
 go_enter Tryz.func152, Tryz.ntmps152
 go_wp2_with (go_at_call 168; (with_reducible refine (c1.out _ HT.out).mono ?_); rintro e W1 ⟨rfl, rfl⟩)
 go_ret
 exact ⟨rfl, rfl⟩
theorem pow2_ct (w : World) : Calls Tryz.prog 151 #[.int .i64 16] w fun e w' => e = .returned (.bool true) /\ w = w' := by
 have e1 : bits BinOp.and IntKind.i64 16 15 = 0 := by decide +kernel
 go_enter Tryz.func151, Tryz.ntmps151
 go_wp2
 go_ret
 exact ⟨rfl, rfl⟩
theorem and15 (v : Nat) (h : v < 18446744073709551616) : bits BinOp.and IntKind.u64 (v : Int) 15 = ((v % 16 : Nat) : Int) := by
 have h1 := u64_and_nat v 15 h (by decide)
 rw [show ((15 : Nat) : Int) = 15 from rfl] at h1
 rw [h1, show (15 : Nat) = 2 ^ 4 - 1 from rfl, Nat.and_two_pow_sub_one_eq_mod]
abbrev digs : ByteArray := ⟨#[48, 49, 50, 51, 52, 53, 54, 55, 56, 57, 97, 98, 99, 100, 101, 102, 103, 104, 105, 106, 107, 108, 109, 110, 111, 112, 113, 114, 115, 116, 117, 118, 119, 120, 121, 122]⟩
theorem dig_at : ∀ n : Fin 16, ∀ w : World, (Instr.index 9 (.string digs) (.int .u64 ((n.val : Nat) : Int))).run Tryz.prog w = .ok (.int .u8 (nv (hexC n.val))) w := by
 intro n w
 obtain ⟨n, hn⟩ := n
 rcases n with _ | _ | _ | _ | _ | _ | _ | _ | _ | _ | _ | _ | _ | _ | _ | _ | n
 all_goals first | (exfalso; omega) | kernel_rfl
theorem dig_val : ∀ n : Fin 16, (((digs[n.val]'(Nat.lt_trans n.isLt (by decide))).toNat : Nat) : Int) = nv (hexC n.val) := by decide +kernel
theorem hexN_add : ∀ (k x m : Nat), hexN k (x + 16 ^ k * m) = hexN k x
 | 0, _, _ => rfl
 | k + 1, x, m => by
  have h1 : (x + 16 ^ (k + 1) * m) / 16 = x / 16 + 16 ^ k * m := by
   rw [Nat.pow_succ, Nat.mul_comm (16 ^ k) 16, Nat.mul_assoc, Nat.add_mul_div_left _ _ (by decide)]
  have h2 : (x + 16 ^ (k + 1) * m) % 16 = x % 16 := by
   rw [Nat.pow_succ, Nat.mul_comm (16 ^ k) 16, Nat.mul_assoc, Nat.add_mul_mod_self_left]
  rw [hexN, hexN, h1, h2, hexN_add k]
theorem bits_ct (x : Nat) (hx : x < 4294967296) (w : World) (hT : BruAt w) :
  Calls Tryz.prog 113 #[.slice none 0 0, .int .u64 ((x + 4294967296 : Nat) : Int), .int .i64 16, .bool false, .bool false] w (rt w (.tuple #[.slice none 0 0, .string (bs (49 :: hexN 8 x))])) := by
 have cP := hid pow2_ct
 have cT := hid (fun w h => tz_ct w h)
 have HT := hid hT
 clear hT
 generalize hU : x + 4294967296 = U
 have hU1 : 4294967296 <= U := by omega
 have hU2 : U < 8589934592 := by omega
 go_enter Tryz.func113, Tryz.ntmps113
 go_wp2_with (first
  | (go_at_call 151; (with_reducible refine (cP.out _).mono ?_); rintro e W1 ⟨rfl, rfl⟩)
  | (go_at_call 152; (with_reducible refine (cT.out _ (HT.out.on (ba _ _))).mono ?_); rintro e W1 ⟨rfl, rfl⟩))
 have hz0 : Tryz.zeroCells177 = Array.replicate 65 (.int .u8 0) := by kernel_rfl
 have HB0 : BytesAt (w.alloc (.cells Tryz.zeroCells177 177)) w.heap.size (digA 0 U) := by
  have hb := Blk.new (w := w) (t := 177) (cs := Tryz.zeroCells177) rfl
  refine ⟨fun j u hj => ?_, fun j hj => ?_⟩
  ·rw [hb.cell j, hz0]
   unfold digA hexN at hj
   rw [List.append_nil] at hj
   obtain ⟨h1, h2⟩ := List.getElem?_eq_some_iff.1 hj
   rw [List.getElem_replicate] at h2
   subst h2
   rw [List.length_replicate] at h1
   rw [Array.getElem?_replicate, if_pos (by omega)]
   rfl
  ·exact hb.frozen j
 replace HB0 := hid HB0
 clear hz0
 go_loopw [1, 13] (fun u i wr => ∃ j : Nat, 56 <= j /\ j <= 64 /\ u = .int .u64 ((U / 16 ^ (64 - j) : Nat) : Int) /\ i = .int .i64 ((j : Int) + 1) /\ BytesAt wr w.heap.size (digA (64 - j) U) /\ (w.alloc (.cells Tryz.zeroCells177 177)).grownBy wr (some w.heap.size)) (fun _ i _ => (intOf i).toNat)
 case atStart => exact ⟨64, by decide, by decide, by simp, rfl, HB0.out, World.grownBy.refl _ _⟩
 case round =>
  obtain ⟨j, hj1, hj2, rfl, rfl, hby, hgr⟩ := hrel
  replace hgr := hid hgr
  have hst : digA (64 - j + 1) U = (digA (64 - j) U).set j (hexC (U / 16 ^ (64 - j) % 16)) := by
   have h := digA_step (64 - j) U (by omega)
   rwa [show 64 - (64 - j) = j by omega] at h
  have hv2 : U / 16 ^ (64 - j) < 8589934592 := Nat.lt_of_le_of_lt (Nat.div_le_self _ _) hU2
  have hkl : j < (digA (64 - j) U).length := by rw [digA_len (64 - j) U (by omega)]; omega
  have hc0 : (digA (64 - j) U)[j]? = some 0 := by
   unfold digA
   rw [List.getElem?_append_left (by rw [List.length_replicate]; omega), List.getElem?_replicate, if_pos (by omega)]
  have hcell := hby.1 j 0 hc0
  have hfr := hby.2 j hkl
  rw [show nv 0 = 0 from rfl] at hcell
  replace hst := hid hst
  replace hby := hid hby
  replace hkl := hid hkl
  clear hc0
  have hd := fun w => dig_at ⟨U / 16 ^ (64 - j) % 16, Nat.mod_lt _ (by decide)⟩ w
  have h15 := and15 (U / 16 ^ (64 - j)) (by omega)
  by_cases hlt : 57 <= j
  ·have hge : 16 <= U / 16 ^ (64 - j) := by
    have : ∀ k : Fin 8, 16 <= 4294967296 / 16 ^ k.val := by decide
    exact Nat.le_trans (this ⟨64 - j, by omega⟩) (Nat.div_le_div_right hU1)
   have hge' : ¬ ((U / 16 ^ (64 - j) : Nat) : Int) < 16 := by omega
   have hnx := hid (show U / 16 ^ (64 - j + 1) = U / 16 ^ (64 - j) / 16 by rw [Nat.pow_succ, Nat.div_div_eq_div_mul])
   obtain ⟨i, rfl⟩ : ∃ i, j = i + 1 := ⟨j - 1, by omega⟩
   generalize U / 16 ^ (64 - (i + 1)) = v at *
   replace hge := hid hge
   go_wp2_with fail
   go_roundw
   case rel =>
    refine ⟨i, by omega, by omega, ?_, rfl, ?_, hgr.out.trans (grown_set _ _ _ _)⟩
    ·rw [show 64 - i = 64 - (i + 1) + 1 by omega, hnx.out]
     exact congrArg _ (by omega)
    ·rw [show 64 - i = 64 - (i + 1) + 1 by omega, hst.out]
     exact hby.out.put hkl.out (dig_val ⟨v % 16, Nat.mod_lt _ (by decide)⟩)
   case measure => simp [intOf]; omega
  ·obtain rfl : j = 56 := by omega
   have hU16 : U / 16 ^ (64 - 56) = 1 := by
    show U / 4294967296 = 1
    omega
   rw [hU16] at hst
   have hfin : BytesAt (wr.setCell ⟨w.heap.size, 56, none⟩ (.int .u8 49)) w.heap.size (digA 9 U) := by
    rw [show (9 : Nat) = 64 - 56 + 1 from rfl, hst.out]
    exact hby.out.put hkl.out rfl
   have hdg : hexN 9 U = 49 :: hexN 8 x := by
    rw [hexN_cons, show U / 16 ^ 8 = 1 from hU16, <- hU]
    have := hexN_add 8 x 1
    rw [show x + 16 ^ 8 * 1 = x + 4294967296 from rfl] at this
    rw [this]
    rfl
   have hcv : (convert 98 9 (.slice (some ⟨w.heap.size, 56, none⟩) 9 9)).run Tryz.prog (wr.setCell ⟨w.heap.size, 56, none⟩ (.int .u8 49)) = .ok (.string (bs (49 :: hexN 8 x))) (wr.setCell ⟨w.heap.size, 56, none⟩ (.int .u8 49)) := by
    have := run_convert_bytes_back (wr.setCell ⟨w.heap.size, 56, none⟩ (.int .u8 49)) 98 9 5 ⟨w.heap.size, 56, none⟩ 9 (hexN 9 U) Tryz.underlying98 Tryz.underlying5 Tryz.underlying9 (fun j hj => by
     rw [show (⟨w.heap.size, 56, none⟩ : Addr).add j = ⟨w.heap.size, 56 + j, none⟩ by simp [Addr.add]]
     exact hfin.1 (56 + j) _ (digA_get 9 U j (by decide) _ (List.getElem?_eq_getElem hj)))
    rw [hexN_len, hdg] at this
    exact this
   have hB := hid (below_grow (ba w (.cells Tryz.zeroCells177 177)) (hgr.out.trans (grown_set _ _ 56 (.int .u8 49))) (Nat.le_refl _) (by simp))
   replace hcv := hid hcv
   clear hfin hdg hby hst hd h15
   have hU17 : U / 16 ^ (64 - 56) = 1 := hU16
   generalize U / 16 ^ (64 - 56) = v at *
   subst hU17
   go_wp2_with fail
   have dv := dig_val ⟨1, by decide⟩
   rw [show nv (hexC 1) = 49 from rfl] at dv
   simp only [dv]
   rw [hcv.out]
   simp only [Result.andThen]
   rw [Oper.upon_value]
   go_wp2
   go_ret2
   exact ⟨rfl, hB.out⟩
end col
namespace col
open Go.RowKit base tok
theorem fmt0_ct (x : Nat) (hx : x < 4294967296) (w : World) (hT : BruAt w) :
  Calls Tryz.prog 74 #[.int .u64 ((x + 4294967296 : Nat) : Int), .int .i64 16] w (rt w (.string (bs (49 :: hexN 8 x)))) := by
 have cB := hid (bits_ct x hx w hT)
 clear hT hx
 generalize ((x + 4294967296 : Nat) : Int) = U at *
 go_enter Tryz.func74, Tryz.ntmps74
 go_wp2_with (go_at_call 113; (with_reducible refine cB.out.mono ?_); rintro e W1 ⟨rfl, hb1⟩; have HB1 := hid hb1; clear hb1)
 go_ret
 exact ⟨rfl, HB1.out⟩
theorem fmt_ct (x : Nat) (hx : x < 4294967296) (w : World) (hT : BruAt w) :
  Calls Tryz.prog 48 #[.int .u64 ((x + 4294967296 : Nat) : Int), .int .i64 16] w (rt w (.string (bs (49 :: hexN 8 x)))) := by
 have cB := hid (fmt0_ct x hx w hT)
 clear hT hx
 generalize ((x + 4294967296 : Nat) : Int) = U at *
 go_enter Tryz.func48, Tryz.ntmps48
 go_wp2_with (go_at_call 74; (with_reducible refine cB.out.mono ?_); rintro e W1 ⟨rfl, hb1⟩; have HB1 := hid hb1; clear hb1)
 go_ret
 exact ⟨rfl, HB1.out⟩
theorem tail_ct (l : Bs) (w : World) : Calls Tryz.prog 49 #[.string (bs l)] w fun e w' => e = .returned (.string (bs (tailS l))) /\ w = w' := by
 unfold tailS
 by_cases h : l = [102, 102]
 ·rw [if_pos h]
  subst h
  have n1 : ((bs [102, 102]).toList == [102, 102]) = true := by rw [bs_toList]; rfl
  go_enter Tryz.func49, Tryz.ntmps49
  go_wp2
  go_ret
  exact ⟨rfl, rfl⟩
 ·rw [if_neg h]
  have n1 : ((bs l).toList == [102, 102]) = false := by rw [bs_toList]; simpa using h
  go_enter Tryz.func49, Tryz.ntmps49
  go_wp2
  go_ret
  exact ⟨rfl, rfl⟩
theorem text_ct (c : Int) (w : World) (hT : BruAt w) :
  Calls Tryz.prog 28 #[.int .i64 c] w (rt w (.string (bs (textS (c32 c).toNat)))) := by
 have hx := c32_bd c
 have cF := fmt_ct (c32 c).toNat (by omega) w hT
 unfold textS
 rw [show (((c32 c).toNat + 4294967296 : Nat) : Int) = c32 c + 4294967296 by omega] at cF
 have hl := hexN_len 8 (c32 c).toNat
 generalize hexN 8 (c32 c).toNat = h at *
 unfold c32 at *
 generalize hw : IntKind.u32.wrap c = x at *
 replace cF := hid cF
 clear hT
 have e0 : (bs (49 :: h)).size = 9 := by rw [bs_size, List.length_cons, hl]
 have e1 : (bs (49 :: h)).extract 1 9 = bs h := by
  apply ByteArray.ext; apply Array.ext'
  rw [Lib.extract_data]
  show (h.drop 0).take 8 = h
  rw [List.drop_zero, List.take_of_length_le (by omega)]
 have e2 : (bs h).size = 8 := by rw [bs_size, hl]
 have e3 : (bs h).extract 0 6 = bs (h.take 6) := by
  apply ByteArray.ext; apply Array.ext'
  rw [Lib.extract_data]
  rfl
 have e4 : (bs h).extract 6 8 = bs (h.drop 6) := by
  apply ByteArray.ext; apply Array.ext'
  rw [Lib.extract_data]
  show (h.drop 6).take 2 = h.drop 6
  rw [List.take_of_length_le (by simp; omega)]
 have e5 : (bs (h.take 6)).size = 6 := by rw [bs_size, List.length_take]; omega
 have e6 : (bs (tailS (h.drop 6))).size <= 2 := by
  rw [bs_size]; unfold tailS
  split
  ·simp
  ·simp; omega
 have e7 : (⟨#[35]⟩ : ByteArray) ++ bs (h.take 6) ++ bs (tailS (h.drop 6)) = bs (35 :: (h.take 6 ++ tailS (h.drop 6))) := by
  apply ByteArray.ext; apply Array.ext'
  simp [bs, ByteArray.data_append]
 have e8 : ((⟨#[35]⟩ : ByteArray) ++ bs (h.take 6)).size = 7 := by
  rw [ByteArray.size_append, e5]; rfl
 have e9 : ¬ 9223372036854775807 < (7 : Int) + (((bs (tailS (h.drop 6))).size : Nat) : Int) := by omega
 rw [<- e7]
 clear e7 hl
 have cT := fun n W => tail_ct (h.drop 6) (World.drewN W n)
 replace cT := hid cT
 go_enter Tryz.func28, Tryz.ntmps28
 go_wp2_with (go_at_call 48; (with_reducible refine cF.out.mono ?_); rintro e W1 ⟨rfl, hb1⟩; have HB1 := hid hb1; clear hb1)
 go_quiet ((go_at_call 49; exact quiet_left (cT.out _ _)))
 go_wp2_with fail
 go_ret
 exact ⟨rfl, base.below_drewN HB1.out _⟩
end col
end Go.Proofs.YtlfkkaofgcongaaGreatDoor
