/- Contracts and plain law, a bundle. -/
import Derived.Laws.BitsAllLaws
import Derived.Lib.Hide
import Derived.Test.YthgffoanecknoaaGreatDoorBA
import Derived.Test.YthgffoanecknoaaGreatDoorBC
import Derived.Test.YthgffoanecknoaaGreatDoorBS
import Derived.Test.YthgffoanecknoaaGreatDoorBB
set_option linter.unusedVariables false
set_option maxRecDepth 100000
set_option maxHeartbeats 16000000
open Go.Lib (hid)
namespace Go.Proofs.YthgffoanecknoaaGreatDoor
namespace base
open Go.RowKit
end base
namespace col
open Go.RowKit
end col
namespace col
open Go.RowKit base
end col
namespace col
open Go.RowKit base
structure Small (a b A B : Int) : Prop where
 p1 : 0 <= A * a /\ A * a <= 65025
 p2 : 0 <= B * b /\ B * b <= 65025
 p3 : 0 <= B * b * (255 - a) /\ B * b * (255 - a) <= 16581375
end col
namespace col
open Go.RowKit base tok
def hexB (c : UInt8) : Bool := (decide (48 <= nv c) && decide (nv c <= 57)) || (decide (97 <= nv c) && decide (nv c <= 102))
def hexI (c : UInt8) : Int := if nv c <= 57 then nv c - 48 else nv c - 87
def hexV (l : Bs) : Int := l.foldl (fun n c => n * 16 + hexI c) 0
theorem hexV_succ {l : Bs} {k : Nat} (h : k < l.length) : hexV (l.take (k + 1)) = hexV (l.take k) * 16 + hexI l[k] := by
 unfold hexV
 rw [List.take_succ_eq_append_getElem h, List.foldl_append]
 rfl
theorem hexI_bd {c : UInt8} (h : hexB c = true) : 0 <= hexI c /\ hexI c <= 15 := by
 unfold hexB at h
 unfold hexI
 simp only [Bool.or_eq_true, Bool.and_eq_true, decide_eq_true_eq] at h
 split <;> omega
theorem hexV_bd : ∀ (k : Nat) (l : Bs), l.all hexB = true -> k <= l.length -> k <= 8 -> 0 <= hexV (l.take k) /\ hexV (l.take k) < 16 ^ k
 | 0, l, _, _, _ => by simp [hexV]
 | k + 1, l, ha, hk, h8 => by
  obtain ⟨h1, h2⟩ := hexV_bd k l ha (by omega) (by omega)
  have hb := hexI_bd (List.all_eq_true.1 ha l[k] (List.getElem_mem _))
  rw [hexV_succ (by omega), Int.pow_succ]
  generalize hexV (l.take k) = x at *
  generalize (16 : Int) ^ k = p at *
  omega
theorem or32_fact : ∀ n : Fin 256, 97 <= n.val -> n.val <= 102 -> bits BinOp.or IntKind.u8 (n.val : Int) 32 = n.val := by decide +kernel
theorem or32 (n : Int) (h0 : 97 <= n) (h1 : n <= 102) : bits BinOp.or IntKind.u8 n 32 = n := by
 obtain ⟨k, rfl⟩ := Int.eq_ofNat_of_zero_le (show 0 <= n by omega)
 exact or32_fact ⟨k, by omega⟩ (by show 97 <= k; omega) (by show k <= 102; omega)
theorem p16 (k : Nat) (h : k <= 7) : (16 : Int) ^ k <= 268435456 := by
 have : ∀ k : Fin 8, (16 : Int) ^ k.val <= 268435456 := by decide
 exact this ⟨k, by omega⟩
theorem parse16_ct (l : Bs) (h0 : 1 <= l.length) (h8 : l.length <= 8) (ha : l.all hexB = true) (w : World) :
  Calls Tryz.prog 191 #[.string (bs l), .int .i64 16, .int .i64 64] w (rt w (.tuple #[.int .u64 (hexV l), .nilIface])) := by
 have hne : (bs l).toList.isEmpty = false := by rw [bs_toList]; cases l with | nil => simp at h0 | cons a b => rfl
 have hsz : (bs l).size = l.length := rfl
 have w64 : IntKind.u64.wrap 16 = 16 := rfl
 have w65 : IntKind.u64.wrap (IntKind.u64.wrap 18446744073709551616 - 1) = 18446744073709551615 := rfl
 go_enter Tryz.func191, Tryz.ntmps191
 go_wp2_with fail
 obtain ⟨cp, W1, hcv, hb1, hz1, hby, hfy⟩ := bytes_of (bs l) w
 rw [hcv]
 simp only [Result.andThen]
 rw [Oper.upon_value]
 have HB1 := hid hb1
 have HBy := hid hby
 clear hcv hby hfy hb1
 go_wp2_with fail
 go_loopw [12, 13, 101] (fun z n i wr => ∃ k : Nat, k <= l.length /\ z = .bool false /\ i = .int .i64 k /\ n = .int .u64 (hexV (l.take k)) /\ wr = W1) (fun _ _ i _ => l.length - (intOf i).toNat)
 case atStart => exact ⟨0, by omega, rfl, rfl, rfl, rfl⟩
 case round =>
  obtain ⟨k, hk, rfl, rfl, rfl, rfl⟩ := hrel
  by_cases hlt : k < l.length
  ·have hlt' : (k : Int) < ((bs l).size : Int) := by omega
   have hc := HBy.out k l[k] (List.getElem?_eq_getElem hlt)
   have hX := hexV_bd k l ha hk (by omega)
   have hst := hexV_succ hlt
   have hB := List.all_eq_true.1 ha l[k] (List.getElem_mem _)
   have hI := hexI_bd hB
   have hp := p16 k (by omega)
   unfold hexB at hB
   simp only [Bool.or_eq_true, Bool.and_eq_true, decide_eq_true_eq] at hB
   have hIe : hexI l[k] = if nv l[k] <= 57 then nv l[k] - 48 else nv l[k] - 87 := rfl
   generalize hexI l[k] = d at *
   have hy : 0 <= hexV (l.take k) /\ hexV (l.take k) < 268435456 := by omega
   generalize hexV (l.take k) = y at *
   have Hst := hid hst
   clear hX hp hst
   by_cases hd : nv l[k] <= 57
   ·have hx48 : 48 <= nv l[k] := by omega
    rw [if_pos hd] at hIe
    clear hB
    generalize nv l[k] = x at *
    subst hIe
    go_wp2_with fail
    go_roundw
    case rel => exact ⟨k + 1, by omega, rfl, by go_num, by rw [Hst.out], trivial⟩
    case measure => simp [intOf]; omega
   ·have hx97 : 97 <= nv l[k] := by omega
    have hx102 : nv l[k] <= 102 := by omega
    have hor := or32 (nv l[k]) hx97 hx102
    rw [if_neg hd] at hIe
    clear hB
    generalize nv l[k] = x at *
    subst hIe
    have hdd : x - 97 + 10 = x - 87 := by omega
    go_wp2_with (go_at_call 200; (with_reducible refine (Tryz.internal_strconv_lower _ _).mono ?_); rintro e W2 ⟨rfl, rfl⟩)
    go_roundw
    case rel => exact ⟨k + 1, by omega, rfl, by go_num, by rw [Hst.out], trivial⟩
    case measure => simp [intOf]; omega
  ·obtain rfl : k = l.length := by omega
   rw [List.take_length]
   go_wp2_with fail
   go_ret2
   exact ⟨rfl, HB1.out⟩
end col
namespace col
open Go.RowKit base tok
theorem low_ct (s : ByteArray) (hs : s.size <= 140737488355328) (w : World) : Calls Tryz.prog 145 #[.string s] w (rt w (.string (bs (s.data.toList.map lowB)))) := by
 have hz := hid (Lib.size_eq s)
 go_enter Tryz.func145, Tryz.ntmps145
 go_wp2_with fail
 obtain ⟨cp, W1, hcv, hb1, hz1, hby, hfy⟩ := bytes_of s w
 rw [hcv]
 simp only [Result.andThen]
 rw [Oper.upon_value]
 have hB0 := hid (show BytesAt W1 w.heap.size s.data.toList from ⟨hby, fun j hj => hfy j (by rw [hz.out]; exact hj)⟩)
 replace hb1 := hid hb1
 clear hcv hby hfy
 go_wp2_with fail
 go_loopw [10] (fun i wr => ∃ k : Nat, k <= s.size /\ i = .int .i64 k /\ BytesAt wr w.heap.size (lowAt s.data.toList k) /\ W1.grownBy wr (some w.heap.size)) (fun i _ => s.size - (intOf i).toNat)
 case atStart => exact ⟨0, by omega, rfl, by simpa [lowAt] using hB0.out, World.grownBy.refl _ _⟩
 case round =>
  obtain ⟨k, hk, rfl, hby, hgr⟩ := hrel
  replace hgr := hid hgr
  by_cases hlt : k < s.size
  ·have hlt' : (k : Int) < (s.size : Int) := by omega
   obtain ⟨c, hc⟩ : ∃ c, s.data.toList[k]? = some c := ⟨s.data.toList[k]'(by rw [<- Lib.size_eq]; exact hlt), List.getElem?_eq_getElem _⟩
   have hkl : k < (lowAt s.data.toList k).length := by rw [lowAt_len, <- Lib.size_eq]; exact hlt
   have hcell := hby.1 k c (lowAt_get hc)
   have hfr := hby.2 k hkl
   have hst := hid (lowAt_step hc)
   have hsm := hid (set_same (lowAt_get hc))
   have hby' := hid hby
   have c0 := nv_nn c
   have c1 := nv_lt c
   clear hc hby
   by_cases h1 : 65 <= nv c
   ·by_cases h2 : nv c <= 90
    ·have hlo := hid (lowB_great ⟨h1, h2⟩)
     generalize hx : nv c = x at *
     replace hx := hid hx
     go_wp2_with fail
     go_roundw
     case rel =>
      refine ⟨k + 1, by omega, by go_num, ?_, hgr.out.trans (grown_set _ _ _ _)⟩
      rw [hst.out]
      exact hby'.out.put hkl hlo.out.symm
     case measure => simp [intOf]; omega
    ·have hlo := hid (lowB_other (c := c) (fun h => h2 h.2))
     generalize hx : nv c = x at *
     replace hx := hid hx
     go_wp2_with fail
     go_roundw
     case rel => exact ⟨k + 1, by omega, by go_num, by rw [hst.out, hlo.out, hsm.out]; exact hby'.out, hgr.out⟩
     case measure => simp [intOf]; omega
   ·have hlo := hid (lowB_other (c := c) (fun h => h1 h.1))
    generalize hx : nv c = x at *
    replace hx := hid hx
    go_wp2_with fail
    go_roundw
    case rel => exact ⟨k + 1, by omega, by go_num, by rw [hst.out, hlo.out, hsm.out]; exact hby'.out, hgr.out⟩
    case measure => simp [intOf]; omega
  ·obtain rfl : k = s.size := by omega
   have hfin : lowAt s.data.toList s.size = s.data.toList.map lowB := by rw [Lib.size_eq]; exact lowAt_end _
   have hln : (s.data.toList.map lowB).length = s.size := by rw [List.length_map, Lib.size_eq]
   have hcv : ∀ cap, (convert 114 9 (.slice (some ⟨w.heap.size, 0, none⟩) s.size cap)).run Tryz.prog wr = .ok (.string (bs (s.data.toList.map lowB))) wr := fun cap => by
    have := run_convert_bytes_back wr 114 9 5 ⟨w.heap.size, 0, none⟩ cap (s.data.toList.map lowB) Tryz.underlying114 Tryz.underlying5 Tryz.underlying9 (fun j hj => by
     rw [add_zero_block]
     have hb2 := hby.1
     rw [hfin] at hb2
     exact hb2 j _ (List.getElem?_eq_getElem hj))
    rw [hln] at this
    exact this
   have hB := hid (below_grow hb1.out hgr.out (Nat.le_refl _) (by have := hb1.out.size; omega))
   clear hby hfin hln
   go_wp2
   go_ret
   exact ⟨rfl, hB.out⟩
theorem parse_ct (l : Bs) (h0 : 1 <= l.length) (h8 : l.length <= 8) (ha : l.all hexB = true) (w : World) :
  Calls Tryz.prog 176 #[.string (bs l), .int .i64 16, .int .i64 64] w (rt w (.tuple #[.int .u64 (hexV l), .nilIface])) := by
 have c1 := hid (parse16_ct l h0 h8 ha)
 clear h0 h8 ha
 go_enter Tryz.func176, Tryz.ntmps176
 go_wp2_with (go_at_call 191; (with_reducible refine (c1.out _).mono ?_); rintro e W1 ⟨rfl, hb1⟩; have HB1 := hid hb1; clear hb1)
 go_ret2
 exact ⟨rfl, HB1.out⟩
theorem named_ct (l : Bs) (w : World) :
  Calls Tryz.prog 146 #[.string (bs (35 :: l))] w fun e w' => e = .returned (.tuple #[.int .i64 0, .bool false]) /\ w = w' := by
 have n0 : ((bs (35 :: l)).toList == [98, 108, 97, 99, 107]) = false := by rw [bs_toList]; rfl
 have n1 : ((bs (35 :: l)).toList == [115, 105, 108, 118, 101, 114]) = false := by rw [bs_toList]; rfl
 have n2 : ((bs (35 :: l)).toList == [103, 114, 97, 121]) = false := by rw [bs_toList]; rfl
 have n3 : ((bs (35 :: l)).toList == [119, 104, 105, 116, 101]) = false := by rw [bs_toList]; rfl
 have n4 : ((bs (35 :: l)).toList == [109, 97, 114, 111, 111, 110]) = false := by rw [bs_toList]; rfl
 have n5 : ((bs (35 :: l)).toList == [114, 101, 100]) = false := by rw [bs_toList]; rfl
 have n6 : ((bs (35 :: l)).toList == [112, 117, 114, 112, 108, 101]) = false := by rw [bs_toList]; rfl
 have n7 : ((bs (35 :: l)).toList == [102, 117, 99, 104, 115, 105, 97]) = false := by rw [bs_toList]; rfl
 have n8 : ((bs (35 :: l)).toList == [103, 114, 101, 101, 110]) = false := by rw [bs_toList]; rfl
 have n9 : ((bs (35 :: l)).toList == [108, 105, 109, 101]) = false := by rw [bs_toList]; rfl
 have n10 : ((bs (35 :: l)).toList == [111, 108, 105, 118, 101]) = false := by rw [bs_toList]; rfl
 have n11 : ((bs (35 :: l)).toList == [121, 101, 108, 108, 111, 119]) = false := by rw [bs_toList]; rfl
 have n12 : ((bs (35 :: l)).toList == [110, 97, 118, 121]) = false := by rw [bs_toList]; rfl
 have n13 : ((bs (35 :: l)).toList == [98, 108, 117, 101]) = false := by rw [bs_toList]; rfl
 have n14 : ((bs (35 :: l)).toList == [116, 101, 97, 108]) = false := by rw [bs_toList]; rfl
 have n15 : ((bs (35 :: l)).toList == [97, 113, 117, 97]) = false := by rw [bs_toList]; rfl
 have n16 : ((bs (35 :: l)).toList == [111, 114, 97, 110, 103, 101]) = false := by rw [bs_toList]; rfl
 go_enter Tryz.func146, Tryz.ntmps146
 go_wp2
 go_ret2
 exact ⟨rfl, rfl⟩
abbrev hexSet : Bs := [48, 49, 50, 51, 52, 53, 54, 55, 56, 57, 97, 98, 99, 100, 101, 102]
theorem hexSet_has (b : UInt8) : hexSet.contains b = hexB b := by
 revert b
 refine fun b => all_bytes (P := fun b => hexSet.contains b = hexB b) ?_ b
 decide +kernel
theorem drop_all (p : UInt8 -> Bool) : ∀ l : Bs, (∀ x ∈ l, p x = true) -> l.dropWhile p = []
 | [], _ => rfl
 | c :: l, h => by rw [List.dropWhile_cons_of_pos (h c (by simp)), drop_all p l (fun x hx => h x (by simp [hx]))]
theorem trim_hex (l : Bs) (ha : l.all hexB = true) : Lib.trimS l hexSet = [] := by
 unfold Lib.trimS Lib.trimRightS
 have h : (l.reverse.dropWhile (hexSet.contains ·)) = [] := by
  refine drop_all _ _ fun x hx => ?_
  rw [hexSet_has]
  exact List.all_eq_true.1 ha x (List.mem_reverse.1 hx)
 rw [h]
 rfl
theorem trim_ct (l : Bs) (h9 : l.length <= 100) (ha : l.all hexB = true) (w : World) :
  Calls Tryz.prog 150 #[.string (bs l), .string ⟨#[48, 49, 50, 51, 52, 53, 54, 55, 56, 57, 97, 98, 99, 100, 101, 102]⟩] w (rt w (.string (bs []))) := by
 have h := Any.strings_Trim_laid Tryz.lays160 (by kernel_rfl) (bs l) (bs hexSet) w (by rw [bs_size]; omega) (by decide) (ascii_of_all (by decide))
 rw [show (bs l).data.toList = l from rfl, show (bs hexSet).data.toList = hexSet from rfl, trim_hex l ha] at h
 exact h
def dblS (l : Bs) : Bs := l.flatMap fun c => [c, c]
theorem dbl_succ {l : Bs} {k : Nat} (h : k < l.length) : dblS (l.take (k + 1)) = dblS (l.take k) ++ [l[k], l[k]] := by
 unfold dblS
 rw [List.take_succ_eq_append_getElem h, List.flatMap_append]
 rfl
theorem dbl_len : ∀ l : Bs, (dblS l).length = 2 * l.length
 | [] => rfl
 | c :: l => by
  have := dbl_len l
  have e : dblS (c :: l) = c :: c :: dblS l := rfl
  rw [e]
  simp only [List.length_cons]
  omega
theorem dbl_all : ∀ l : Bs, l.all hexB = true -> (dblS l).all hexB = true
 | [], _ => rfl
 | c :: l, h => by
  have e : dblS (c :: l) = c :: c :: dblS l := rfl
  rw [List.all_cons, Bool.and_eq_true] at h
  rw [e, List.all_cons, List.all_cons, h.1, dbl_all l h.2]
  rfl
theorem rep_ct (c : UInt8) (w : World) : Calls Tryz.prog 175 #[.string (bs [c]), .int .i64 2] w (rt w (.string (bs [c, c]))) :=
 Tryz.strings_Repeat (bs [c]) 2 w (by decide) (by show 1 * 2 <= 140737488355328; decide)
def fullS (l : Bs) : Bs := if l.length = 6 then l ++ [102, 102] else l
def hexF (l : Bs) : Bs := fullS (if l.length = 3 ∨ l.length = 4 then dblS l else l)
theorem hexV_small (l : Bs) (ha : l.all hexB = true) (h8 : l.length <= 8) : 0 <= hexV l /\ hexV l < 4294967296 := by
 have h := hexV_bd l.length l ha (Nat.le_refl _) h8
 rw [List.take_length] at h
 have hp : (16 : Int) ^ l.length <= 4294967296 := by
  have : ∀ k : Fin 9, (16 : Int) ^ k.val <= 4294967296 := by decide
  exact this ⟨l.length, by omega⟩
 omega
theorem hex_long (l : Bs) (h8 : l.length = 6 ∨ l.length = 8) (ha : l.all hexB = true) (w : World) :
  Calls Tryz.prog 147 #[.string (bs l)] w (rt w (.tuple #[.int .i64 (hexV (fullS l)), .bool true])) := by
 have cT := hid (fun w => trim_ct l (by omega) ha w)
 have hbe : (bs ([] : Bs)).toList.isEmpty = true := by rw [bs_toList]; rfl
 have hsz : (bs l).size = l.length := rfl
 rcases h8 with h8 | h8
 ·have hff : bs l ++ ⟨#[102, 102]⟩ = bs (l ++ [102, 102]) := ByteArray.ext (by simp [bs, ByteArray.data_append])
  have ha2 : (l ++ [102, 102]).all hexB = true := by rw [List.all_append, ha]; rfl
  have hl2 : (l ++ [102, 102]).length = 8 := by rw [List.length_append, h8]; rfl
  have cP := fun w => parse_ct (l ++ [102, 102]) (by omega) (by omega) ha2 w
  rw [<- hff] at cP
  have hV := hexV_small _ ha2 (by omega)
  rw [show fullS l = l ++ [102, 102] by rw [fullS, if_pos h8]]
  generalize hexV (l ++ [102, 102]) = x at *
  replace cP := hid cP
  have hs2 : (bs l ++ ⟨#[102, 102]⟩ : ByteArray).size = 8 := by rw [hff]; exact hl2
  clear ha ha2 hff hl2
  rw [h8] at hsz
  go_enter Tryz.func147, Tryz.ntmps147
  go_wp2_with (first
   | (go_at_call 150; (with_reducible refine (cT.out _).mono ?_); rintro e W1 ⟨rfl, hb1⟩; have HB1 := hid hb1; clear hb1)
   | (go_at_call 176; (with_reducible refine (cP.out _).mono ?_); rintro e W2 ⟨rfl, hb2⟩; have HB2 := hid (tb HB1 hb2); clear hb2))
  go_ret2
  exact ⟨rfl, HB2.out⟩
 ·have cP := fun w => parse_ct l (by omega) (by omega) ha w
  have hV := hexV_small _ ha (by omega)
  rw [show fullS l = l by rw [fullS, if_neg (by omega)]]
  generalize hexV l = x at *
  replace cP := hid cP
  clear ha
  rw [h8] at hsz
  go_enter Tryz.func147, Tryz.ntmps147
  go_wp2_with (first
   | (go_at_call 150; (with_reducible refine (cT.out _).mono ?_); rintro e W1 ⟨rfl, hb1⟩; have HB1 := hid hb1; clear hb1)
   | (go_at_call 176; (with_reducible refine (cP.out _).mono ?_); rintro e W2 ⟨rfl, hb2⟩; have HB2 := hid (tb HB1 hb2); clear hb2))
  go_ret2
  exact ⟨rfl, HB2.out⟩
theorem bstr_ct (B b : Nat) (l : List UInt8) (w : World) (h : IsB B b l w) (hBw : B <= w.heap.size) :
  Calls Tryz.prog 81 #[(pn b)] w fun e w' => e = .returned (.string (bs l)) /\ Below B w w' := builderString_ct B b l w h hBw
theorem one_extract (l : Bs) (k : Nat) (h : k < l.length) : (bs l).extract k (k + 1) = bs [l[k]] := by
 apply ByteArray.ext
 have e : ((bs l).extract k (k + 1)).data.toList = [l[k]] := by
  rw [Lib.extract_data, Nat.add_sub_cancel_left]
  show (l.drop k).take 1 = [l[k]]
  rw [List.drop_eq_getElem_cons h]
  rfl
 exact Array.ext' e
theorem hex_short (l : Bs) (h8 : l.length = 3 ∨ l.length = 4) (ha : l.all hexB = true) (w : World) :
  Calls Tryz.prog 147 #[.string (bs l)] w (rt w (.tuple #[.int .i64 (hexV (fullS (dblS l))), .bool true])) := by
 have cT := hid (fun w => trim_ct l (by omega) ha w)
 have hbe : (bs ([] : Bs)).toList.isEmpty = true := by rw [bs_toList]; rfl
 have hsz : (bs l).size = l.length := rfl
 have hd := dbl_len l
 have had := dbl_all l ha
 have hl4 : l.length <= 4 := by omega
 have hfl : (fullS (dblS l)).length = 8 /\ (fullS (dblS l)).all hexB = true /\ ((l.length = 3 /\ bs (dblS l) ++ ⟨#[102, 102]⟩ = bs (fullS (dblS l))) ∨ (l.length = 4 /\ bs (dblS l) = bs (fullS (dblS l)))) := by
  unfold fullS
  rcases h8 with h8 | h8
  ·rw [if_pos (by omega)]
   exact ⟨by rw [List.length_append]; simp; omega, by rw [List.all_append, had]; rfl, .inl ⟨h8, ByteArray.ext (by simp [bs, ByteArray.data_append])⟩⟩
  ·rw [if_neg (by omega)]
   exact ⟨by omega, had, .inr ⟨h8, rfl⟩⟩
 obtain ⟨hf1, hf2, hf3⟩ := hfl
 have cP := fun w => parse_ct (fullS (dblS l)) (by omega) (by omega) hf2 w
 have hV := hexV_small _ hf2 (by omega)
 have hs2 : (bs (fullS (dblS l))).size = 8 := hf1
 generalize fullS (dblS l) = F at *
 generalize hexV F = x at *
 clear hf1 hf2 had
 rcases hf3 with ⟨h3, hff⟩ | ⟨h3, hff⟩
 all_goals (
 clear h8
 rw [<- hff] at cP hs2
 replace cP := hid cP
 have hds : (bs (dblS l)).size = 2 * l.length := hd
 rw [h3] at hsz hds
 clear hff hd
 go_enter Tryz.func147, Tryz.ntmps147
 go_wp2_with ((go_at_call 150; (with_reducible refine (cT.out _).mono ?_); rintro e W1 ⟨rfl, hb1⟩; have HB1 := hid hb1; clear hb1))
 go_loopw [21] (fun i wr => ∃ k : Nat, k <= l.length /\ i = .int .i64 k /\ IsB w.heap.size W1.heap.size (dblS (l.take k)) wr /\ Below w.heap.size w wr) (fun i _ => l.length - (intOf i).toNat)
 case atStart => exact ⟨0, by omega, rfl, IsB.new W1 _ HB1.out.size, HB1.out.alloc HB1.out.size _⟩
 case round =>
  obtain ⟨k, hk, rfl, hisb, hbel⟩ := hrel
  have HIs := hid hisb
  have HBl := hid hbel
  have hz := hbel.size
  have hkl : (dblS (l.take k)).length <= 8 := by rw [dbl_len, List.length_take]; omega
  clear hisb hbel
  by_cases hlt : k < l.length
  ·have hlt' : (k : Int) < ((bs l).size : Int) := by rw [bs_size]; omega
   rw [hsz] at hlt'
   have hex : (bs l).extract k (k + 1) = bs [l[k]] := one_extract l k hlt
   have cR := hid (rep_ct l[k])
   have Hst := hid (dbl_succ hlt)
   go_wp2_with (first
    | (go_at_call 175; (with_reducible refine (cR.out _).mono ?_); rintro e W2 ⟨rfl, hb2⟩; have HB2 := hid (HBl.out.trans (hb2.mono hz)); have HI2 := hid (HIs.out.on hb2); clear hb2)
    | (go_at_call 79; (with_reducible refine (writeString_ct _ _ _ _ _ HI2.out (by rw [bs_size]; simp; omega) HB2.out.size).mono ?_); rintro e W3 ⟨rfl, hi3, hb3⟩; have HI3 := hid hi3; have HB3 := hid (HB2.out.trans hb3); clear hi3 hb3))
   go_roundw
   case rel => exact ⟨k + 1, by omega, by go_num, by rw [Hst.out]; exact HI3.out, HB3.out⟩
   case measure => simp [intOf]; omega
  ·obtain rfl : k = l.length := by omega
   have HI := hid (show IsB w.heap.size W1.heap.size (dblS l) wr by have := HIs.out; rwa [List.take_length] at this)
   go_wp2_with (first
    | (go_at_call 81; (with_reducible refine (bstr_ct _ _ _ _ HI.out HBl.out.size).mono ?_); rintro e W2 ⟨rfl, hb2⟩; have HB2 := hid (HBl.out.trans hb2); clear hb2)
    | (go_at_call 176; (with_reducible refine (cP.out _).mono ?_); rintro e W3 ⟨rfl, hb3⟩; have HB3 := hid (tb HB2 hb3); clear hb3))
   go_ret2
   exact ⟨rfl, HB3.out⟩)
end col
namespace col
open Go.RowKit base tok
theorem hex_ct (l : Bs) (h8 : l.length = 3 ∨ l.length = 4 ∨ l.length = 6 ∨ l.length = 8) (ha : l.all hexB = true) (w : World) :
  Calls Tryz.prog 147 #[.string (bs l)] w (rt w (.tuple #[.int .i64 (hexV (hexF l)), .bool true])) := by
 unfold hexF
 by_cases h : l.length = 3 ∨ l.length = 4
 ·rw [if_pos h]
  exact hex_short l h ha w
 ·rw [if_neg h]
  exact hex_long l (by omega) ha w
end col
end Go.Proofs.YthgffoanecknoaaGreatDoor
