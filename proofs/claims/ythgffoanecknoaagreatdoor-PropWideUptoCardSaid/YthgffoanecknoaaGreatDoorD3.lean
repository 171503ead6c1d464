/- Contracts and plain law, a bundle. -/
import Derived.Lib.SmallJoins
import Derived.Shelf.Strings.SlTrimAscii
import Derived.Lib.Hide
import Derived.Test.YthgffoanecknoaaGreatDoorD0
import Derived.Test.YthgffoanecknoaaGreatDoorBH
import Derived.Test.YthgffoanecknoaaGreatDoorBC
set_option linter.unusedVariables false
set_option maxRecDepth 100000
set_option maxHeartbeats 16000000
open Go.Lib (hid)
namespace Go.Proofs.YthgffoanecknoaaGreatDoor
namespace col
open Go.RowKit base tok
def InErr (ev : Value) : Prop := ev = .nilIface ∨ ev = .iface 200 (.int .i64 1) ∨ ev = .iface 200 (.int .i64 2)
theorem parse16_any (l : Bs) (hz : l.length <= 140737488355340) (ha : l.all hexB = true) (w : World) :
  Calls Tryz.prog 191 #[.string (bs l), .int .i64 16, .int .i64 64] w fun e w' => (∃ v ev, e = .returned (.tuple #[.int .u64 v, ev]) /\ InErr ev) /\ Below w.heap.size w w' := by
 have hsz : (bs l).size = l.length := rfl
 have w64 : IntKind.u64.wrap 16 = 16 := rfl
 have w65 : IntKind.u64.wrap (IntKind.u64.wrap 18446744073709551616 - 1) = 18446744073709551615 := rfl
 by_cases h0 : l = []
 ·subst h0
  have hne : (bs ([] : Bs)).toList.isEmpty = true := by rw [bs_toList]; rfl
  go_enter Tryz.func191, Tryz.ntmps191
  go_wp2_with fail
  go_ret2
  exact ⟨⟨_, _, rfl, .inr (.inr rfl)⟩, Below.refl _ _⟩
 have hne : (bs l).toList.isEmpty = false := by rw [bs_toList]; cases l with | nil => exact absurd rfl h0 | cons a b => rfl
 go_enter Tryz.func191, Tryz.ntmps191
 go_wp2_with fail
 obtain ⟨cp, W1, hcv, hb1, hz1, hby, hfy⟩ := bytes_of (bs l) w
 rw [hcv]
 simp only [Result.andThen]
 rw [Oper.upon_value]
 have HB1 := hid hb1
 have HBy := hid hby
 clear hcv hby hfy hb1
 go_wp2_with fail
 go_loopw [12, 13, 101] (fun z n i wr => ∃ (k : Nat) (y : Int), k <= l.length /\ z = .bool false /\ i = .int .i64 k /\ n = .int .u64 y /\ 0 <= y /\ y < 18446744073709551616 /\ wr = W1) (fun _ _ i _ => l.length - (intOf i).toNat)
 case atStart => exact ⟨0, 0, by omega, rfl, rfl, rfl, by decide, by decide, rfl⟩
 case round =>
  obtain ⟨k, y, hk, rfl, rfl, rfl, hy0, hy1, rfl⟩ := hrel
  by_cases hlt : k < l.length
  ·have hlt' : (k : Int) < ((bs l).size : Int) := by omega
   have hc := HBy.out k l[k] (List.getElem?_eq_getElem hlt)
   have hB := List.all_eq_true.1 ha l[k] (List.getElem_mem _)
   have hI := hexI_bd hB
   unfold hexB at hB
   simp only [Bool.or_eq_true, Bool.and_eq_true, decide_eq_true_eq] at hB
   have hIe : hexI l[k] = if nv l[k] <= 57 then nv l[k] - 48 else nv l[k] - 87 := rfl
   generalize hexI l[k] = d at *
   by_cases hd : nv l[k] <= 57
   ·have hx48 : 48 <= nv l[k] := by omega
    rw [if_pos hd] at hIe
    clear hB
    generalize nv l[k] = x at *
    subst hIe
    by_cases hcut : 1152921504606846976 <= y
    ·go_wp2_with fail
     go_ret2
     exact ⟨⟨_, _, rfl, .inr (.inl rfl)⟩, HB1.out⟩
    ·go_wp2_with fail
     go_roundw
     case rel => exact ⟨k + 1, _, by omega, rfl, by go_num, rfl, by omega, by omega, trivial⟩
     case measure => simp [intOf]; omega
   ·have hx97 : 97 <= nv l[k] := by omega
    have hx102 : nv l[k] <= 102 := by omega
    have hor := or32 (nv l[k]) hx97 hx102
    rw [if_neg hd] at hIe
    clear hB
    generalize nv l[k] = x at *
    subst hIe
    have hdd : x - 97 + 10 = x - 87 := by omega
    by_cases hcut : 1152921504606846976 <= y
    ·go_wp2_with (go_at_call 200; (with_reducible refine (Tryz.internal_strconv_lower _ _).mono ?_); rintro e W2 ⟨rfl, rfl⟩)
     go_ret2
     exact ⟨⟨_, _, rfl, .inr (.inl rfl)⟩, HB1.out⟩
    ·go_wp2_with (go_at_call 200; (with_reducible refine (Tryz.internal_strconv_lower _ _).mono ?_); rintro e W2 ⟨rfl, rfl⟩)
     go_roundw
     case rel => exact ⟨k + 1, _, by omega, rfl, by go_num, rfl, by omega, by omega, trivial⟩
     case measure => simp [intOf]; omega
  ·obtain rfl : k = l.length := by omega
   go_wp2_with fail
   go_ret2
   exact ⟨⟨_, _, rfl, .inl rfl⟩, HB1.out⟩
def ErrsAt (w : World) : Prop := (∃ tp p, w.cell? ⟨6, 0, none⟩ = some (.iface tp p)) /\ (∃ tp p, w.cell? ⟨7, 0, none⟩ = some (.iface tp p))
theorem ErrsAt.on {w w' : World} (h : ErrsAt w) (hb : Below w.heap.size w w') : ErrsAt w' := by
 obtain ⟨⟨t1, p1, h4⟩, ⟨t2, p2, h5⟩⟩ := h
 exact ⟨⟨t1, p1, (hb.cell (World.block_lt_of_cell? w _ h4)).trans h4⟩, ⟨t2, p2, (hb.cell (World.block_lt_of_cell? w _ h5)).trans h5⟩⟩
def OutErr (ev : Value) : Prop := ev = .nilIface ∨ ∃ N : Nat, ev = .iface 203 ((pn N))
theorem parse_any (l : Bs) (hz : l.length <= 140737488355340) (ha : l.all hexB = true) (w : World) (hE : ErrsAt w) :
  Calls Tryz.prog 176 #[.string (bs l), .int .i64 16, .int .i64 64] w fun e w' => (∃ v ev, e = .returned (.tuple #[.int .u64 v, ev]) /\ OutErr ev) /\ Below w.heap.size w w' := by
 have c1 := hid (parse16_any l hz ha w)
 have hl : (bs l).size <= 281474976710656 := by rw [bs_size]; omega
 have cR : ∀ W, ErrsAt W -> Calls Tryz.prog 124 #[.string ⟨#[80, 97, 114, 115, 101, 85, 105, 110, 116]⟩, .string (bs l), .int .i64 16, .int .i64 64, .iface 200 (.int .i64 1)] W fun e w' => (∃ N : Nat, e = .returned (.iface 203 ((pn N)))) /\ Below W.heap.size W w' := fun W ⟨_, tp, p, h⟩ =>
  (Tryz.strconv_toError_range _ (bs l) 16 64 (.iface tp p) W hl h (.inr ⟨tp, p, rfl⟩)).mono fun e w' ⟨N, he, _, _, hb⟩ => ⟨⟨N, he⟩, hb⟩
 have cS : ∀ W, ErrsAt W -> Calls Tryz.prog 124 #[.string ⟨#[80, 97, 114, 115, 101, 85, 105, 110, 116]⟩, .string (bs l), .int .i64 16, .int .i64 64, .iface 200 (.int .i64 2)] W fun e w' => (∃ N : Nat, e = .returned (.iface 203 ((pn N)))) /\ Below W.heap.size W w' := fun W ⟨⟨tp, p, h⟩, _⟩ =>
  (Tryz.strconv_toError_syntax _ (bs l) 16 64 (.iface tp p) W hl h (.inr ⟨tp, p, rfl⟩)).mono fun e w' ⟨N, he, _, _, hb⟩ => ⟨⟨N, he⟩, hb⟩
 replace cR := hid cR
 replace cS := hid cS
 have HE := hid hE
 clear hE hz ha hl
 go_enter Tryz.func176, Tryz.ntmps176
 go_upto_region 2 with (go_at_call 191; (with_reducible refine c1.out.mono ?_); rintro e W1 ⟨⟨v, ev, rfl, hv⟩, hb1⟩; have HB1 := hid hb1; have HV := hid hv; clear hb1 hv)
 rcases HV.out with rfl | rfl | rfl
 ·go_wp2_with fail
  go_ret2
  exact ⟨⟨_, _, rfl, .inl rfl⟩, HB1.out⟩
 ·go_wp2_with (go_at_call 124; (with_reducible refine (cR.out _ (HE.out.on HB1.out)).mono ?_); rintro e W2 ⟨⟨N, rfl⟩, hb2⟩; have HB2 := hid (tb HB1 hb2); clear hb2)
  go_ret2
  exact ⟨⟨_, _, rfl, .inr ⟨_, rfl⟩⟩, HB2.out⟩
 ·go_wp2_with (go_at_call 124; (with_reducible refine (cS.out _ (HE.out.on HB1.out)).mono ?_); rintro e W2 ⟨⟨N, rfl⟩, hb2⟩; have HB2 := hid (tb HB1 hb2); clear hb2)
  go_ret2
  exact ⟨⟨_, _, rfl, .inr ⟨_, rfl⟩⟩, HB2.out⟩
theorem named_any (S : ByteArray) (w : World) : Calls Tryz.prog 146 #[.string S] w fun e w' => (∃ (c : Int) (b : Bool), e = .returned (.tuple #[.int .i64 c, .bool b]) /\ 0 <= c /\ c <= 16777215) /\ w = w' := by
 go_enter Tryz.func146, Tryz.ntmps146
 go_wp2
 all_goals
  go_ret2
  exact ⟨⟨_, _, rfl, by decide, by decide⟩, rfl⟩
end col
namespace col
open Go.RowKit base tok dim
theorem wrap_rng (x : Int) : -9223372036854775808 <= IntKind.i64.wrap x /\ IntKind.i64.wrap x <= 9223372036854775807 := by
 simp [IntKind.wrap, IntKind.bits, IntKind.signed]
 split <;> omega
theorem wrap64_rng (x : Int) : -9223372036854775808 <= wrap64 x /\ wrap64 x <= 9223372036854775807 := by unfold wrap64; omega
theorem dw_nil (p : UInt8 -> Bool) : ∀ l : Bs, l.dropWhile p = [] -> ∀ x ∈ l, p x = true
 | [], _, x, hx => by cases hx
 | c :: l, h, x, hx => by
  cases hc : p c with
  | false => rw [List.dropWhile_cons_of_neg (by rw [hc]; decide)] at h; cases h
  | true =>
   rw [List.dropWhile_cons_of_pos hc] at h
   rcases List.mem_cons.1 hx with rfl | hx
   ·exact hc
   ·exact dw_nil p l h x hx
theorem dw_head (p : UInt8 -> Bool) : ∀ (l : Bs) (c : UInt8) (r : Bs), l.dropWhile p = c :: r -> p c = false
 | [], c, r, h => by cases h
 | d :: l, c, r, h => by
  cases hd : p d with
  | false =>
   rw [List.dropWhile_cons_of_neg (by rw [hd]; decide)] at h
   cases h
   exact hd
  | true =>
   rw [List.dropWhile_cons_of_pos hd] at h
   exact dw_head p l c r h
theorem trim_not (l : Bs) (ha : l.all hexB = false) : Lib.trimS l hexSet ≠ [] := by
 intro h
 unfold Lib.trimS Lib.trimLeftS Lib.trimRightS at h
 have h1 := dw_nil _ _ h
 cases hr : l.reverse.dropWhile (hexSet.contains ·) with
 | nil =>
  have h2 := dw_nil _ _ hr
  rw [List.all_eq_false] at ha
  obtain ⟨x, hx, hn⟩ := ha
  have := h2 x (List.mem_reverse.2 hx)
  rw [hexSet_has] at this
  exact hn this
 | cons c r =>
  have h2 := dw_head _ _ _ _ hr
  have h3 := h1 c (by rw [hr]; simp)
  rw [h2] at h3
  cases h3
theorem trim_any (l : Bs) (hz : l.length <= 140737488355340) (w : World) :
  Calls Tryz.prog 150 #[.string (bs l), .string ⟨#[48, 49, 50, 51, 52, 53, 54, 55, 56, 57, 97, 98, 99, 100, 101, 102]⟩] w (rt w (.string (bs (Lib.trimS l hexSet)))) :=
 Any.strings_Trim_laid Tryz.lays160 (by kernel_rfl) (bs l) (bs hexSet) w (by rw [bs_size]; omega) (by decide) (ascii_of_all (by decide))
theorem hexF_ok (l : Bs) (h8 : l.length = 3 ∨ l.length = 4 ∨ l.length = 6 ∨ l.length = 8) (ha : l.all hexB = true) : (hexF l).all hexB = true /\ (hexF l).length = 8 := by
 have h1 := dbl_len l
 have h2 := dbl_all l ha
 unfold hexF
 by_cases h : l.length = 3 ∨ l.length = 4
 ·rw [if_pos h]
  unfold fullS
  by_cases h6 : (dblS l).length = 6
  ·rw [if_pos h6, List.all_append, h2, List.length_append, h6]
   exact ⟨rfl, rfl⟩
  ·rw [if_neg h6]
   exact ⟨h2, by omega⟩
 ·rw [if_neg h]
  unfold fullS
  by_cases h6 : l.length = 6
  ·rw [if_pos h6, List.all_append, ha, List.length_append, h6]
   exact ⟨rfl, rfl⟩
  ·rw [if_neg h6]
   exact ⟨ha, by omega⟩
theorem hex_any (l : Bs) (hz : l.length <= 140737488355328) (w : World) (hE : ErrsAt w) :
  Calls Tryz.prog 147 #[.string (bs l)] w fun e w' => (∃ (c : Int) (b : Bool), e = .returned (.tuple #[.int .i64 c, .bool b]) /\ -9223372036854775808 <= c /\ c <= 9223372036854775807) /\ Below w.heap.size w w' := by
 cases ha : l.all hexB with
 | false =>
  have hT := trim_not l ha
  have cT := hid (fun w => trim_any l (by omega) w)
  generalize Lib.trimS l hexSet = T at *
  have hne : (bs T).toList.isEmpty = false := by rw [bs_toList]; cases T with | nil => exact absurd rfl hT | cons a b => rfl
  clear hT hE
  go_enter Tryz.func147, Tryz.ntmps147
  go_wp2_with (go_at_call 150; (with_reducible refine (cT.out _).mono ?_); rintro e W1 ⟨rfl, hb1⟩; have HB1 := hid hb1; clear hb1)
  go_ret2
  exact ⟨⟨_, _, rfl, by decide, by decide⟩, HB1.out⟩
 | true =>
  by_cases h8 : l.length = 3 ∨ l.length = 4 ∨ l.length = 6 ∨ l.length = 8
  ·obtain ⟨h1, h2⟩ := hexF_ok l h8 ha
   have h3 := hexV_small _ h1 (by omega)
   exact (hex_ct l h8 ha w).mono fun e w' ⟨he, hb⟩ => ⟨⟨_, _, he, by omega, by omega⟩, hb⟩
  ·have cT := hid (fun w => trim_any l (by omega) w)
   rw [trim_hex l ha] at cT
   have cP := hid (fun w hE => parse_any l (by omega) ha w hE)
   have hbe : (bs ([] : Bs)).toList.isEmpty = true := by rw [bs_toList]; rfl
   have hsz : (bs l).size = l.length := rfl
   generalize l.length = m at *
   have e3 : ¬ m = 3 := by omega
   have e4 : ¬ m = 4 := by omega
   have e6 : ¬ m = 6 := by omega
   have e8 : ¬ m = 8 := by omega
   have g3 : ((m : Int) == 3) = false := bq (by omega)
   have g4 : ((m : Int) == 4) = false := bq (by omega)
   have g6 : ((m : Int) == 6) = false := bq (by omega)
   have g8 : ((m : Int) == 8) = false := bq (by omega)
   have HE := hid hE
   clear hE h8 ha
   go_enter Tryz.func147, Tryz.ntmps147
   go_upto_region 14 with (first
    | (go_at_call 150; (with_reducible refine (cT.out _).mono ?_); rintro e W1 ⟨rfl, hb1⟩; have HB1 := hid hb1; clear hb1)
    | (go_at_call 176; (with_reducible refine (cP.out _ (HE.out.on HB1.out)).mono ?_); rintro e W2 ⟨⟨v, ev, rfl, hv⟩, hb2⟩; have HV := hid hv; have HB2 := hid (tb HB1 hb2); clear hb2 hv))
   rcases (HV.out : OutErr ev) with rfl | ⟨N, rfl⟩
   ·go_wp2_with fail
    go_ret2
    exact ⟨⟨_, _, rfl, wrap64_rng _⟩, HB2.out⟩
   ·go_wp2_with fail
    go_ret2
    exact ⟨⟨_, _, rfl, wrap64_rng _⟩, HB2.out⟩
theorem bytes_low (w : World) (e : TypeId) (s : ByteArray) : Below w.heap.size w (Lib.bytesWorld w e s) := Go.Joins.below_bytesWorld _ w e s (Nat.le_refl _)
theorem atoi_two (s : Bs) (hs : s.length <= 1048576) :
  (∃ v, ∀ w, Calls Tryz.prog 85 #[.string (bs s)] w (rt w (.tuple #[.int .i64 v, .nilIface]))) ∨
  (∃ d, ∀ w, ErrsAt w -> Calls Tryz.prog 85 #[.string (bs s)] w fun e w' => (∃ N : Nat, e = .returned (.tuple #[.int .i64 d, .iface 203 ((pn N))])) /\ Below w.heap.size w w') := by
 have hz : (bs s).size <= 1048576 := by rw [bs_size]; exact hs
 rcases h : Lib.atoiAll s with v | _ | _
 ·exact .inl ⟨v, fun w => (Tryz.strconv_Atoi_ok (bs s) (by omega) v h w).mono fun e w' ⟨he, hb⟩ => ⟨he, by
   rcases hb with rfl | ⟨t, rfl⟩
   ·exact Below.refl _ _
   ·exact bytes_low _ _ _⟩⟩
 ·refine .inr ⟨0, fun w hw => ?_⟩
  obtain ⟨⟨tp, p, h2⟩, _⟩ := hw
  exact (Any.strconv_Atoi_syntax Tryz.laysC172 (bs s) (by omega) h (.iface tp p) w h2 (.inr ⟨tp, p, rfl⟩)).mono fun e w' ⟨N, he, _, _, hb⟩ => ⟨⟨N, he⟩, hb⟩
 ·refine .inr ⟨Lib.atoiSat s, fun w hw => ?_⟩
  obtain ⟨_, ⟨tp, p, h2⟩⟩ := hw
  exact (Tryz.strconv_Atoi_range (bs s) (by omega) h (.iface tp p) w h2 (.inr ⟨tp, p, rfl⟩)).mono fun e w' ⟨N, he, _, _, hb⟩ => ⟨⟨N, he⟩, hb⟩
end col
namespace col
open Go.RowKit base tok dim
theorem bits_rng (a b : Int) : -9223372036854775808 <= bits BinOp.or IntKind.i64 a b /\ bits BinOp.or IntKind.i64 a b <= 9223372036854775807 := by
 unfold bits
 exact wrap_rng _
theorem piece_size (sep : ByteArray) : ∀ (k : Nat) (s x : ByteArray), x ∈ Lib.splitB sep 0 k s -> x.size <= s.size
 | 0, s, x, h => by
  rw [Lib.splitB_zero] at h
  rw [List.mem_singleton.1 h]
  exact Nat.le_refl _
 | k + 1, s, x, h => by
  unfold Lib.splitB at h
  split at h
  ·rw [List.mem_singleton.1 h]
   exact Nat.le_refl _
  ·rcases List.mem_cons.1 h with rfl | h
   ·rw [ByteArray.size_extract]; omega
   ·have := piece_size sep k _ x h
    rw [ByteArray.size_extract] at this
    omega
def pcsC (s : Bs) : List ByteArray := Lib.splitB ⟨#[44]⟩ 0 (Lib.countB (bs s) ⟨#[44]⟩) (bs s)
theorem pcsC_len (s : Bs) : 1 <= (pcsC s).length /\ (pcsC s).length <= s.length + 1 := by
 have hl : (pcsC s).length = Lib.countB (bs s) ⟨#[44]⟩ + 1 := Lib.splitB_all _ (by decide) 0 _ _ rfl
 have h := Lib.countB_le (⟨#[44]⟩ : ByteArray) (by decide) s.length (bs s) (by rw [bs_size]; exact Nat.le_refl _)
 have hb := bs_size s
 omega
theorem split_comma (s : Bs) (hs : s.length < 4294967281) (w : World) (hm : MaxL w) : Calls Tryz.prog 63 #[.string (bs s), .string ⟨#[44]⟩] w fun e w' => e = .returned (.slice (some ⟨w.heap.size, 0, none⟩) (pcsC s).length (pcsC s).length) /\ w' = w.alloc (.cells ((pcsC s).map Value.string).toArray 9) := by
 obtain ⟨m, hm⟩ := hm
 have h := Tryz.strings_Split (bs s) ⟨#[44]⟩ m w (by rw [bs_size]; exact hs) hm (by decide)
 have hl : (pcsC s).length = Lib.countB (bs s) ⟨#[44]⟩ + 1 := Lib.splitB_all _ (by decide) 0 _ _ rfl
 rw [hl]
 exact h
theorem infoT : (Tryz.prog.info? 9).map (fun i => (i.zero, i.size, i.bytes)) = some (some (.string .empty), 1, 16) := by kernel_rfl
theorem info_four {P : Program} {t : TypeId} {z : Value} {s b : Nat} (h : (P.info? t).map (fun i => (i.zero, i.size, i.bytes)) = some (some z, s, b)) : ∃ i0, P.info? t = some i0 /\ i0.zero = some z /\ i0.size = s /\ i0.bytes = b := by
 cases hi : P.info? t with
 | none => rw [hi] at h; cases h
 | some i0 =>
  rw [hi] at h
  simp only [Option.map_some, Option.some.injEq, Prod.mk.injEq] at h
  exact ⟨i0, rfl, h.1, h.2.1, h.2.2⟩
theorem row_at_any {w : World} {base : Nat} {e : TypeId} {size : Nat} {v : Value} {n : Nat} {xs : List Value} (h : w.ownsRow base e size v n xs) (h0 : 0 < n) : ∃ g cap, v = .slice (some ⟨g, 0, none⟩) n cap /\ base <= g /\ g < w.heap.size := by
 obtain ⟨g, cap, rfl⟩ : ∃ g cap, v = .slice (some ⟨g, 0, none⟩) n cap := by
  rcases h.2 with ⟨rfl, h'⟩ | ⟨g, cap, cur, rfl, _⟩
  ·omega
  ·exact ⟨_, _, rfl⟩
 have := h.lt g rfl
 exact ⟨g, cap, rfl, this.1, this.2⟩
def AtoiW (Y : ByteArray) (w : World) : Prop :=
 (∃ d, ∀ W, ErrsAt W -> Calls Tryz.prog 85 #[.string Y] W fun e w' => (∃ N : Nat, e = .returned (.tuple #[.int .i64 d, .iface 203 ((pn N))])) /\ Below W.heap.size W w') ∨
 (∃ v, (∀ W, Calls Tryz.prog 85 #[.string Y] W (rt W (.tuple #[.int .i64 v, .nilIface]))) /\
  (v < 0 ∨ 255 < v ∨ (0 <= v /\ v <= 255 /\ ((⟨(Lib.itoa v).toArray⟩ : ByteArray).toList == Y.toList) = false) ∨ (0 <= v /\ v <= 255 /\ ((⟨(Lib.itoa v).toArray⟩ : ByteArray).toList == Y.toList) = true)))
theorem atoi_way (Y : ByteArray) (hY : Y.size <= 1000) (w : World) : AtoiW Y w := by
 rcases atoi_two Y.data.toList (by have e : Y.size = Y.data.toList.length := rfl; omega) with ⟨v, h⟩ | ⟨d, h⟩
 ·refine .inr ⟨v, h, ?_⟩
  by_cases h0 : v < 0
  ·exact .inl h0
  ·by_cases h1 : 255 < v
   ·exact .inr (.inl h1)
   ·cases hq : ((⟨(Lib.itoa v).toArray⟩ : ByteArray).toList == Y.toList)
    ·exact .inr (.inr (.inl ⟨by omega, by omega, rfl⟩))
    ·exact .inr (.inr (.inr ⟨by omega, by omega, rfl⟩))
 ·exact .inl ⟨d, h⟩
theorem itoa_ct (v : Int) (h0 : 0 <= v) (h1 : v <= 255) (w : World) (hT : PowAt w) : Calls Tryz.prog 60 #[.int .i64 v] w (rt w (.string ⟨(Lib.itoa v).toArray⟩)) :=
 (Tryz.strconv_Itoa v (by omega) (by omega) w hT.2).mono fun e w' ⟨he, k, os, hw⟩ => ⟨he, by rw [hw]; exact grow_below w k os⟩
theorem parts_any (s : Bs) (hs : s.length <= 100) (w : World) (hm : MaxL w) (hE : ErrsAt w) (hT : PowAt w) :
  Calls Tryz.prog 149 #[.string (bs s)] w fun e w' => (∃ (c : Int) (b : Bool), e = .returned (.tuple #[.int .i64 c, .bool b]) /\ -9223372036854775808 <= c /\ c <= 9223372036854775807) /\ Below w.heap.size w w' := by
 obtain ⟨i0, hi, hz0, hz1, hz2⟩ := info_four infoT
 have Hz0 := hid hz0
 have Hi := hid hi
 have Hz1 := hid hz1
 have Hz2 := hid hz2
 clear hz0 hi hz1 hz2
 have cS := hid (split_comma s (by omega) w hm)
 have hp : ∀ x ∈ pcsC s, x.size <= 100 := fun x hx => Nat.le_trans (piece_size _ _ _ x hx) (by rw [bs_size]; exact hs)
 have hl := pcsC_len s
 generalize pcsC s = L at *
 obtain ⟨n, hn⟩ : ∃ n, L.length = n := ⟨_, rfl⟩
 have cell0 : ∀ k, k < n -> ∃ t : ByteArray, (w.alloc (.cells (L.map Value.string).toArray 9)).cell? ⟨w.heap.size, k, none⟩ = some (.string t) /\ t.size <= 100 := by
  intro k hk
  have hlt : k < L.length := by omega
  refine ⟨L[k], ?_, hp _ (List.getElem_mem _)⟩
  rw [(Blk.new rfl : Blk (w.alloc (.cells (L.map Value.string).toArray 9)) w.heap.size 9 (L.map Value.string).toArray).cell k, List.getElem?_toArray, List.getElem?_map, List.getElem?_eq_getElem hlt]
  rfl
 have own0 := World.ownsRow_lit (base := w.heap.size) (e := 9) (size := 1) w (L.map Value.string).toArray n (Nat.le_refl _) (by unfold maxLen; omega) (by simp [hn])
 rw [hn] at cS hl
 have HOwn := hid own0
 have Cell0 := hid cell0
 have HB0 := hid (ba w (.cells (L.map Value.string).toArray 9))
 have HM := hid hm
 have HE := hid hE
 have HT := hid hT
 have HN := hid hn
 have HP := hid hp
 clear own0 cell0 hm hE hT hp hn
 go_enter Tryz.func149, Tryz.ntmps149
 go_upto_if 14 with (go_at_call 63; (with_reducible refine cS.out.mono ?_); rintro e W1 ⟨rfl, rfl⟩)
 go_cut [4] (fun v wx => ∃ (m g cap : Nat), v = .slice (some ⟨g, 0, none⟩) m cap /\ m <= 200 /\ (∀ k, k < m -> ∃ t : ByteArray, wx.cell? ⟨g, k, none⟩ = some (.string t) /\ t.size <= 100) /\ Below w.heap.size w wx)
 case first =>
  have h3 : n = 3 ∨ ¬ n = 3 := by omega
  rcases h3 with rfl | h3
  ·go_wp2_with (at_builtin; refine wpList_append_own _ rfl _ _ 41 rfl w.heap.size 9 i0 (.string .empty) 1 16 Tryz.underlying41 Hi.out Hz0.out Hz1.out Hz2.out rfl (by decide) _ 3 _ rfl (HOwn.out.alloc _) ⟨w.heap.size + 1, 0, none⟩ 1 1 [.string ⟨#[50, 53, 53]⟩] rfl rfl ?c1 ?c2 ?c3 ?c4 ?c5 ?_)
   case c1 => exact (Blk.new (w := w.alloc (.cells (L.map Value.string).toArray 9)) (t := 9) (cs := #[.string ⟨#[50, 53, 53]⟩]) (by simp)).news
   case c2 => simp [Value.oneCell']
   case c3 => unfold maxLen; omega
   case c4 => omega
   case c5 => simp; omega
   intro v' W6 hown6 hgrow6 hnil6
   have HB6 := hid (below_app (HB0.out.alloc HB0.out.size (.cells #[.string ⟨#[50, 53, 53]⟩] 9)) hgrow6 (HOwn.out.alloc _) (Nat.le_refl _) (by simp; omega))
   obtain ⟨g, cap, rfl, hg1, hg2⟩ := row_at_any hown6 (by decide)
   have hc6 : ∀ k, k < 4 -> ∃ t : ByteArray, W6.cell? ⟨g, k, none⟩ = some (.string t) /\ t.size <= 100 := by
    intro k hk
    have e := hown6.cellAt k (by omega)
    by_cases hk3 : k < 3
    ·have hlt : k < L.length := by have := HN.out; omega
     refine ⟨L[k], ?_, HP.out _ (List.getElem_mem _)⟩
     rw [e, List.getElem?_append_left (by simp; omega)]
     simp [List.getElem?_eq_getElem hlt]
    ·obtain rfl : k = 3 := by omega
     refine ⟨⟨#[50, 53, 53]⟩, ?_, by decide⟩
     rw [e, List.getElem?_append_right (by simp [HN.out])]
     simp [HN.out]
   replace hc6 := hid hc6
   clear hown6 hgrow6 hnil6 hg1 hg2
   go_wp2_with fail
   go_meet
   case rel => exact ⟨4, g, cap, rfl, by decide, hc6.out, HB6.out⟩
  ·have g3 : ((n : Int) == 3) = false := bq (by omega)
   go_wp2_with fail
   go_meet
   case rel => exact ⟨n, w.heap.size, n, rfl, by omega, Cell0.out, HB0.out⟩
 case rest =>
 obtain ⟨m, g, cap, rfl, hm2, hc, hb⟩ := hcut
 rename World => Z
 have Cells := hid hc
 have HBZ := hid hb
 clear hc hb
 go_wp2_with fail
 go_loopw [5, 20] (fun c i wr => ∃ (k : Nat) (x : Int), k <= m /\ i = .int .i64 k /\ c = .int .i64 x /\ -9223372036854775808 <= x /\ x <= 9223372036854775807 /\ Below Z.heap.size Z wr) (fun _ i _ => m - (intOf i).toNat)
 case atStart => exact ⟨0, 0, by omega, rfl, rfl, by decide, by decide, Below.refl _ _⟩
 case round =>
  obtain ⟨k, x, hk, rfl, rfl, hx0, hx1, hbr⟩ := hrel
  have HBr := hid (tb HBZ hbr)
  have HBq := hid hbr
  by_cases hlt : k < m
  ·have hlt' : (k : Int) < (m : Int) := by omega
   obtain ⟨t, ht, hts⟩ := Cells.out k hlt
   have htr := (hbr.cell (p := ⟨g, k, none⟩) (World.block_lt_of_cell? Z _ ht)).trans ht
   clear hbr ht
   have HEr := hid (HE.out.on HBr.out)
   have HTr := hid (HT.out.on HBr.out)
   obtain ⟨Y, cY, hYs⟩ : ∃ Y : ByteArray, ((k = 0 /\ Y = t) ∨ (0 < k /\ ∀ W, Calls Tryz.prog 178 #[.string t, .string ⟨#[32]⟩] W fun e w' => e = .returned (.string Y) /\ w' = W)) /\ Y.size <= 1000 := by
    by_cases h0 : k = 0
    ·exact ⟨t, .inl ⟨h0, rfl⟩, by omega⟩
    ·refine ⟨_, .inr ⟨by omega, fun W => Tryz.strings_TrimPrefix t ⟨#[32]⟩ W⟩, ?_⟩
     have e : ((⟨(Lib.trimPrefix t.data.toList (⟨#[32]⟩ : ByteArray).data.toList).toArray⟩ : ByteArray)).size = (Lib.trimPrefix t.data.toList (⟨#[32]⟩ : ByteArray).data.toList).length := rfl
     have e2 : t.size = t.data.toList.length := rfl
     rw [e]
     unfold Lib.trimPrefix
     split
     ·rw [List.length_drop]; omega
     ·omega
   have CY := hid (atoi_way Y hYs wr)
   clear hYs
   rcases CY.out with ⟨d, cA⟩ | ⟨v, cA, hv⟩
   ·have CA := hid cA
    clear cA
    rcases cY with ⟨rfl, rfl⟩ | ⟨hk0, cT⟩
    ·go_wp2_with (go_at_call 85; (with_reducible refine (CA.out _ HEr.out).mono ?_); rintro e W2 ⟨⟨N, rfl⟩, hb2⟩; have HB2 := hid (tb HBr hb2); clear hb2)
     go_ret2
     exact ⟨⟨_, _, rfl, by decide, by decide⟩, HB2.out⟩
    ·have CT := hid cT
     have hk1 : (0 : Int) < (k : Int) := by omega
     clear cT
     go_wp2_with (first
      | (go_at_call 178; (with_reducible refine (CT.out _).mono ?_); rintro e W1 ⟨rfl, rfl⟩)
      | (go_at_call 85; (with_reducible refine (CA.out _ HEr.out).mono ?_); rintro e W2 ⟨⟨N, rfl⟩, hb2⟩; have HB2 := hid (tb HBr hb2); clear hb2))
     go_ret2
     exact ⟨⟨_, _, rfl, by decide, by decide⟩, HB2.out⟩
   ·have CA := hid cA
    clear cA
    rcases hv with hv | hv | ⟨hv0, hv1, hq⟩ | ⟨hv0, hv1, hq⟩
    ·rcases cY with ⟨rfl, rfl⟩ | ⟨hk0, cT⟩
     ·go_wp2_with (go_at_call 85; (with_reducible refine (CA.out _).mono ?_); rintro e W2 ⟨rfl, hb2⟩; have HB2 := hid (tb HBr hb2); clear hb2)
      go_ret2
      exact ⟨⟨_, _, rfl, by decide, by decide⟩, HB2.out⟩
     ·have CT := hid cT
      have hk1 : (0 : Int) < (k : Int) := by omega
      clear cT
      go_wp2_with (first
       | (go_at_call 178; (with_reducible refine (CT.out _).mono ?_); rintro e W1 ⟨rfl, rfl⟩)
       | (go_at_call 85; (with_reducible refine (CA.out _).mono ?_); rintro e W2 ⟨rfl, hb2⟩; have HB2 := hid (tb HBr hb2); clear hb2))
      go_ret2
      exact ⟨⟨_, _, rfl, by decide, by decide⟩, HB2.out⟩
    ·have hv2 : ¬ v < 0 := by omega
     rcases cY with ⟨rfl, rfl⟩ | ⟨hk0, cT⟩
     ·go_wp2_with (go_at_call 85; (with_reducible refine (CA.out _).mono ?_); rintro e W2 ⟨rfl, hb2⟩; have HB2 := hid (tb HBr hb2); clear hb2)
      go_ret2
      exact ⟨⟨_, _, rfl, by decide, by decide⟩, HB2.out⟩
     ·have CT := hid cT
      have hk1 : (0 : Int) < (k : Int) := by omega
      clear cT
      go_wp2_with (first
       | (go_at_call 178; (with_reducible refine (CT.out _).mono ?_); rintro e W1 ⟨rfl, rfl⟩)
       | (go_at_call 85; (with_reducible refine (CA.out _).mono ?_); rintro e W2 ⟨rfl, hb2⟩; have HB2 := hid (tb HBr hb2); clear hb2))
      go_ret2
      exact ⟨⟨_, _, rfl, by decide, by decide⟩, HB2.out⟩
    ·have hv2 : ¬ v < 0 := by omega
     have hv3 : ¬ 255 < v := by omega
     have CI := hid (fun w hT => itoa_ct v hv0 hv1 w hT)
     generalize (⟨(Lib.itoa v).toArray⟩ : ByteArray) = Q at *
     rcases cY with ⟨rfl, rfl⟩ | ⟨hk0, cT⟩
     ·go_wp2_with (first
       | (go_at_call 85; (with_reducible refine (CA.out _).mono ?_); rintro e W2 ⟨rfl, hb2⟩; have HB2 := hid (tb HBr hb2); clear hb2)
       | (go_at_call 60; (with_reducible refine (CI.out _ (HT.out.on HB2.out)).mono ?_); rintro e W3 ⟨rfl, hb3⟩; have HB3 := hid (tb HB2 hb3); clear hb3))
      go_ret2
      exact ⟨⟨_, _, rfl, by decide, by decide⟩, HB3.out⟩
     ·have CT := hid cT
      have hk1 : (0 : Int) < (k : Int) := by omega
      clear cT
      go_wp2_with (first
       | (go_at_call 178; (with_reducible refine (CT.out _).mono ?_); rintro e W1 ⟨rfl, rfl⟩)
       | (go_at_call 85; (with_reducible refine (CA.out _).mono ?_); rintro e W2 ⟨rfl, hb2⟩; have HB2 := hid (tb HBr hb2); clear hb2)
       | (go_at_call 60; (with_reducible refine (CI.out _ (HT.out.on HB2.out)).mono ?_); rintro e W3 ⟨rfl, hb3⟩; have HB3 := hid (tb HB2 hb3); clear hb3))
      go_ret2
      exact ⟨⟨_, _, rfl, by decide, by decide⟩, HB3.out⟩
    ·have hv2 : ¬ v < 0 := by omega
     have hv3 : ¬ 255 < v := by omega
     have CI := hid (fun w hT => itoa_ct v hv0 hv1 w hT)
     generalize (⟨(Lib.itoa v).toArray⟩ : ByteArray) = Q at *
     rcases cY with ⟨rfl, rfl⟩ | ⟨hk0, cT⟩
     ·go_wp2_with (first
       | (go_at_call 85; (with_reducible refine (CA.out _).mono ?_); rintro e W2 ⟨rfl, hb2⟩; have HB2 := hid (tb HBr hb2); have HQ2 := hid (tb HBq hb2); clear hb2)
       | (go_at_call 60; (with_reducible refine (CI.out _ (HT.out.on HB2.out)).mono ?_); rintro e W3 ⟨rfl, hb3⟩; have HQ3 := hid (tb HQ2 hb3); clear hb3))
      go_roundw
      case rel => exact ⟨1, _, by omega, by go_num, rfl, (bits_rng _ _).1, (bits_rng _ _).2, HQ3.out⟩
      case measure => simp [intOf]; omega
     ·have CT := hid cT
      have hk1 : (0 : Int) < (k : Int) := by omega
      clear cT
      go_wp2_with (first
       | (go_at_call 178; (with_reducible refine (CT.out _).mono ?_); rintro e W1 ⟨rfl, rfl⟩)
       | (go_at_call 85; (with_reducible refine (CA.out _).mono ?_); rintro e W2 ⟨rfl, hb2⟩; have HB2 := hid (tb HBr hb2); have HQ2 := hid (tb HBq hb2); clear hb2)
       | (go_at_call 60; (with_reducible refine (CI.out _ (HT.out.on HB2.out)).mono ?_); rintro e W3 ⟨rfl, hb3⟩; have HQ3 := hid (tb HQ2 hb3); clear hb3))
      go_roundw
      case rel => exact ⟨k + 1, _, by omega, by go_num, rfl, (bits_rng _ _).1, (bits_rng _ _).2, HQ3.out⟩
      case measure => simp [intOf]; omega
  ·obtain rfl : k = m := by omega
   clear hbr
   go_wp2_with fail
   go_ret2
   exact ⟨⟨_, _, rfl, hx0, hx1⟩, HBr.out⟩
end col
namespace col
open Go.RowKit base tok dim
theorem cutp_ct (S P : ByteArray) (w : World) : ∃ R b, R.size <= S.size /\ (b = true -> P.size <= S.size) /\ ∀ w, Calls Tryz.prog 93 #[.string S, .string P] w fun e w' => e = .returned (.tuple #[.string R, .bool b]) /\ w' = w := by
 refine ⟨_, _, ?_, ?_, fun w => Tryz.strings_CutPrefix S P w⟩
 ·show (Lib.trimPrefix S.data.toList P.data.toList).length <= S.data.toList.length
  unfold Lib.trimPrefix
  split
  ·rw [List.length_drop]; omega
  ·exact Nat.le_refl _
 ·intro h
  unfold Lib.hasPrefix at h
  exact (List.isPrefixOf_iff_prefix.1 h).length_le
theorem read_any (s : Bs) (hs : s.length <= 140737488355328) (w : World) (hm : MaxL w) (hE : ErrsAt w) (hT : PowAt w) :
  Calls Tryz.prog 102 #[.string (bs s)] w fun e w' => (∃ c x : Int, e = .returned (.tuple #[.int .i64 c, .int .i64 x]) /\ (x = 0 ∨ x = 4) /\ -9223372036854775808 <= c /\ c <= 9223372036854775807) /\ Below w.heap.size w w' := by
 have cL := hid (fun w => low_ct (bs s) (by rw [bs_size]; omega) w)
 rw [show (bs s).data.toList = s from rfl] at cL
 have hlen : (s.map lowB).length = s.length := List.length_map _
 generalize s.map lowB = l at *
 have cN := hid (fun w => named_any (bs l) w)
 obtain ⟨R1, b1, hR1, -, c1⟩ := cutp_ct (bs l) ⟨#[35]⟩ w
 obtain ⟨R2, b2, hR2, -, c2⟩ := cutp_ct (bs l) ⟨#[114, 103, 98, 40]⟩ w
 have cP1 := hid c1
 have cP2 := hid c2
 rw [bs_size] at hR1 hR2
 have cH0 : ∀ w, ErrsAt w -> Calls Tryz.prog 147 #[.string R1] w fun e w' => (∃ (c : Int) (b : Bool), e = .returned (.tuple #[.int .i64 c, .bool b]) /\ -9223372036854775808 <= c /\ c <= 9223372036854775807) /\ Below w.heap.size w w' := (fun w hE => hex_any R1.data.toList (by have e : R1.size = R1.data.toList.length := rfl; omega) w hE)
 have cH := hid cH0
 clear cH0
 have cX := hid (fun w => (Tryz.strings_HasSuffix R2 ⟨#[41]⟩ w (by omega)))
 have hx : Lib.hasSuffix R2.data.toList (⟨#[41]⟩ : ByteArray).data.toList = true -> 1 <= R2.size := fun h => by
  unfold Lib.hasSuffix at h
  exact (List.isSuffixOf_iff_suffix.1 h).length_le
 generalize Lib.hasSuffix R2.data.toList (⟨#[41]⟩ : ByteArray).data.toList = b3 at *
 have cQ0 : ∀ w, R2.size <= 40 -> MaxL w -> ErrsAt w -> PowAt w -> Calls Tryz.prog 149 #[.string (R2.extract 0 (R2.size - 1))] w fun e w' => (∃ (c : Int) (b : Bool), e = .returned (.tuple #[.int .i64 c, .bool b]) /\ -9223372036854775808 <= c /\ c <= 9223372036854775807) /\ Below w.heap.size w w' := (fun w (h : R2.size <= 40) hm hE hT => parts_any (R2.extract 0 (R2.size - 1)).data.toList (by have e : (R2.extract 0 (R2.size - 1)).size = (R2.extract 0 (R2.size - 1)).data.toList.length := rfl; rw [<- e, ByteArray.size_extract]; omega) w hm hE hT)
 have cQ := hid cQ0
 clear cQ0
 have HM := hid hm
 have HE := hid hE
 have HT := hid hT
 have HX := hid hx
 clear hm hE hT c1 c2 hx hlen hs
 have hsuf : R2.size <= 40 ∨ ¬ R2.size <= 40 := by omega
 go_enter Tryz.func102, Tryz.ntmps102
 go_upto_if 15 with (go_at_call 145; (with_reducible refine (cL.out _).mono ?_); rintro e W1 ⟨rfl, hb1⟩; have HB1 := hid hb1; clear hb1)
 cases hT : ((bs l).toList == [116, 114, 97, 110, 115, 112, 97, 114, 101, 110, 116])
 ·go_upto_region 5 with (go_at_call 146; (with_reducible refine (cN.out _).mono ?_); rintro e W2 ⟨⟨c, b, rfl, hc0, hc1⟩, rfl⟩)
  cases b
  ·cases b1
   ·cases b2
    ·go_wp2_with (first
      | (go_at_call 93; (with_reducible refine (cP1.out _).mono ?_); rintro e W3 ⟨rfl, rfl⟩)
      | (go_at_call 93; (with_reducible refine (cP2.out _).mono ?_); rintro e W3 ⟨rfl, rfl⟩))
     go_ret2
     exact ⟨⟨_, _, rfl, .inr rfl, by decide, by decide⟩, HB1.out⟩
    ·cases b3
     ·go_wp2_with (first
       | (go_at_call 93; (with_reducible refine (cP1.out _).mono ?_); rintro e W3 ⟨rfl, rfl⟩)
       | (go_at_call 93; (with_reducible refine (cP2.out _).mono ?_); rintro e W3 ⟨rfl, rfl⟩)
       | (go_at_call 148; (with_reducible refine (cX.out _).mono ?_); rintro e W3 ⟨rfl, rfl⟩))
      go_ret2
      exact ⟨⟨_, _, rfl, .inr rfl, by decide, by decide⟩, HB1.out⟩
     ·have h1 := HX.out rfl
      rcases hsuf with hsuf | hsuf
      ·have cQ2 := hid (fun w hm hE hT => cQ.out w hsuf hm hE hT)
       have hs40 : (R2.size : Int) <= 40 := by omega
       have hsub : (R2.size : Int) - 1 = ((R2.size - 1 : Nat) : Int) := by omega
       go_upto_region 14 with (first
        | (go_at_call 93; (with_reducible refine (cP1.out _).mono ?_); rintro e W3 ⟨rfl, rfl⟩)
        | (go_at_call 93; (with_reducible refine (cP2.out _).mono ?_); rintro e W3 ⟨rfl, rfl⟩)
        | (go_at_call 148; (with_reducible refine (cX.out _).mono ?_); rintro e W3 ⟨rfl, rfl⟩)
        | (go_at_call 149; (with_reducible refine (cQ2.out _ (HM.out.on HB1.out HM.out.lt) (HE.out.on HB1.out) (HT.out.on HB1.out)).mono ?_); rintro e W4 ⟨⟨c4, b4, rfl, hd0, hd1⟩, hb4⟩; have HB4 := hid (tb HB1 hb4); clear hb4))
       cases b4
       ·go_wp2_with fail
        go_ret2
        exact ⟨⟨_, _, rfl, .inr rfl, by decide, by decide⟩, HB4.out⟩
       ·go_wp2_with fail
        go_ret2
        exact ⟨⟨_, _, rfl, .inl rfl, hd0, hd1⟩, HB4.out⟩
      ·have hs40 : ¬ (R2.size : Int) <= 40 := by omega
       go_wp2_with (first
        | (go_at_call 93; (with_reducible refine (cP1.out _).mono ?_); rintro e W3 ⟨rfl, rfl⟩)
        | (go_at_call 93; (with_reducible refine (cP2.out _).mono ?_); rintro e W3 ⟨rfl, rfl⟩)
        | (go_at_call 148; (with_reducible refine (cX.out _).mono ?_); rintro e W3 ⟨rfl, rfl⟩))
       go_ret2
       exact ⟨⟨_, _, rfl, .inr rfl, by decide, by decide⟩, HB1.out⟩
   ·go_upto_region 14 with (first
     | (go_at_call 93; (with_reducible refine (cP1.out _).mono ?_); rintro e W3 ⟨rfl, rfl⟩)
     | (go_at_call 147; (with_reducible refine (cH.out _ (HE.out.on HB1.out)).mono ?_); rintro e W4 ⟨⟨c4, b4, rfl, hd0, hd1⟩, hb4⟩; have HB4 := hid (tb HB1 hb4); clear hb4))
    cases b4
    ·go_wp2_with fail
     go_ret2
     exact ⟨⟨_, _, rfl, .inr rfl, by decide, by decide⟩, HB4.out⟩
    ·go_wp2_with fail
     go_ret2
     exact ⟨⟨_, _, rfl, .inl rfl, hd0, hd1⟩, HB4.out⟩
  ·go_wp2_with fail
   go_ret2
   exact ⟨⟨_, _, rfl, .inl rfl, bits_rng _ _⟩, HB1.out⟩
 ·go_wp2_with fail
  go_ret2
  exact ⟨⟨_, _, rfl, .inl rfl, by decide, by decide⟩, HB1.out⟩
end col
end Go.Proofs.YthgffoanecknoaaGreatDoor
