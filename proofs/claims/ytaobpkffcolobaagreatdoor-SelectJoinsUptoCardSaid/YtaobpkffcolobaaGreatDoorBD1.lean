/- Contracts and plain law, a bundle. -/
import Derived.Lib.SlTrimSet
import Derived.Lib.SmallJoins
import Derived.Shelf.Strings.SlTrimAscii
import Derived.Lib.AtoiAllCases
import Derived.Lib.Hide
import Derived.Test.YtaobpkffcolobaaGreatDoorBD
set_option linter.unusedVariables false
set_option maxRecDepth 100000
set_option maxHeartbeats 16000000
open Go.Lib (hid)
namespace Go.Proofs.YtaobpkffcolobaaGreatDoor
namespace sel
open Go.RowKit base tok rul
theorem low_ct (s : ByteArray) (hs : s.size <= 140737488355328) (w : World) : Calls Tryz.prog 70 #[.string s] w (rt w (.string (bs (s.data.toList.map lowB)))) := by
 have hz := hid (Lib.size_eq s)
 go_enter Tryz.func70, Tryz.ntmps70
 go_wp2_with fail
 obtain ⟨cp, W1, hcv, hb1, hz1, hby, hfy⟩ := bytes_of s w
 rw [hcv]
 simp only [Result.andThen]
 rw [Oper.upon_value]
 have hB0 := hid (show BytesAt W1 w.heap.size s.data.toList from ⟨hby, fun j hj => hfy j (by rw [hz.out]; exact hj)⟩)
 replace hb1 := hid hb1
 clear hcv hby hfy
 go_wp2_with fail
 go_loopw [10] (fun i wr => ∃ k : Nat, k <= s.size /\ i = .int .i64 k /\ BytesAt wr w.heap.size (lowAt s.data.toList k) /\ W1.grownBy wr (some w.heap.size)) (fun i _ => s.size - (intOf i).toNat)
 case atStart => exact ⟨0, by omega, rfl, by simpa [lowAt] using hB0.out, World.grownBy.refl _ _⟩
 case round =>
  obtain ⟨k, hk, rfl, hby, hgr⟩ := hrel
  replace hgr := hid hgr
  by_cases hlt : k < s.size
  ·have hlt' : (k : Int) < (s.size : Int) := by omega
   obtain ⟨c, hc⟩ : ∃ c, s.data.toList[k]? = some c := ⟨s.data.toList[k]'(by rw [<- Lib.size_eq]; exact hlt), List.getElem?_eq_getElem _⟩
   have hkl : k < (lowAt s.data.toList k).length := by rw [lowAt_len, <- Lib.size_eq]; exact hlt
   have hcell := hby.1 k c (lowAt_get hc)
   have hfr := hby.2 k hkl
   have hst := hid (lowAt_step hc)
   have hsm := hid (set_same (lowAt_get hc))
   have hby' := hid hby
   have c0 := nv_nn c
   have c1 := nv_lt c
   clear hc hby
   by_cases h1 : 65 <= nv c
   ·by_cases h2 : nv c <= 90
    ·have hlo := hid (lowB_great ⟨h1, h2⟩)
     generalize hx : nv c = x at *
     replace hx := hid hx
     go_wp2_with fail
     go_roundw
     case rel =>
      refine ⟨k + 1, by omega, by go_num, ?_, hgr.out.trans (grown_set _ _ _ _)⟩
      rw [hst.out]
      exact hby'.out.put hkl hlo.out.symm
     case measure => simp [intOf]; omega
    ·have hlo := hid (lowB_other (c := c) (fun h => h2 h.2))
     generalize hx : nv c = x at *
     replace hx := hid hx
     go_wp2_with fail
     go_roundw
     case rel => exact ⟨k + 1, by omega, by go_num, by rw [hst.out, hlo.out, hsm.out]; exact hby'.out, hgr.out⟩
     case measure => simp [intOf]; omega
   ·have hlo := hid (lowB_other (c := c) (fun h => h1 h.1))
    generalize hx : nv c = x at *
    replace hx := hid hx
    go_wp2_with fail
    go_roundw
    case rel => exact ⟨k + 1, by omega, by go_num, by rw [hst.out, hlo.out, hsm.out]; exact hby'.out, hgr.out⟩
    case measure => simp [intOf]; omega
  ·obtain rfl : k = s.size := by omega
   have hfin : lowAt s.data.toList s.size = s.data.toList.map lowB := by rw [Lib.size_eq]; exact lowAt_end _
   have hln : (s.data.toList.map lowB).length = s.size := by rw [List.length_map, Lib.size_eq]
   have hcv : ∀ cap, (convert 34 9 (.slice (some ⟨w.heap.size, 0, none⟩) s.size cap)).run Tryz.prog wr = .ok (.string (bs (s.data.toList.map lowB))) wr := fun cap => by
    have := run_convert_bytes_back wr 34 9 5 ⟨w.heap.size, 0, none⟩ cap (s.data.toList.map lowB) Tryz.underlying34 Tryz.underlying5 Tryz.underlying9 (fun j hj => by
     rw [add_zero_block]
     have hb2 := hby.1
     rw [hfin] at hb2
     exact hb2 j _ (List.getElem?_eq_getElem hj))
    rw [hln] at this
    exact this
   have hB := hid (below_grow hb1.out hgr.out (Nat.le_refl _) (by have := hb1.out.size; omega))
   clear hby hfin hln
   go_wp2
   go_ret
   exact ⟨rfl, hB.out⟩
theorem name_ct (s : Bs) (hs : s.length <= 2000000) (w : World) (hm : MaxL w) :
  Calls Tryz.prog 69 #[.string (bs s)] w (rt w (.bool (nameB s))) := by
 have cC := fun w hm => cut_ct (bs s) (by rw [bs_size]; omega) w hm
 rw [nameB_eq]
 rw [show (bs s).data.toList = s from rfl] at cC
 generalize cutP s = L at *
 replace cC := hid cC
 by_cases hl : L.length = 1
 ·obtain ⟨⟨k, r, v, n⟩, rfl⟩ : ∃ t, L = [t] := List.length_eq_one_iff.1 hl
  simp only [selfB, List.length_cons, List.length_nil, Nat.zero_add] at cC ⊢
  clear hl
  have cD : ∀ w, MaxL w -> Calls Tryz.prog 17 #[.string (bs s)] w fun e w' => (∃ b off cap, e = .returned (.slice (some ⟨b, off, none⟩) 1 cap) /\ b < w'.heap.size /\ w'.cell? ⟨b, off, none⟩ = some (.int .i64 k) /\ w'.cell? ⟨b, off + 1, none⟩ = some (.string (bs r)) /\ w'.cell? ⟨b, off + 2, none⟩ = some (.string (bs v)) /\ w'.cell? ⟨b, off + 3, none⟩ = some (.int .i64 n)) /\ Below w.heap.size w w' := fun w hm =>
   (cC.out w hm).mono fun e w' ⟨⟨A, cap, he, _, hr⟩, hb⟩ => by
    obtain ⟨b, off, t, rfl, hlt, hd, e0, e1, e2, e3⟩ := TRd.tok hr (k := 0) (by decide)
    obtain rfl : (⟨k, r, v, n⟩ : Tk) = t := by simpa using hd
    simp only [Nat.zero_mul, Nat.add_zero] at e0 e1 e2 e3
    exact ⟨⟨b, off, cap, he, hlt, e0, e1, e2, e3⟩, hb⟩
  replace cD := hid cD
  have HM := hid hm
  clear cC hm
  by_cases h1 : k = 1
  ·subst h1
   by_cases h3 : r = s
   ·subst h3
    by_cases h2 : v = r
    ·subst h2
     rw [decide_eq_true ⟨rfl, rfl, rfl⟩]
     go_enter Tryz.func69, Tryz.ntmps69
     go_wp2_with ((go_at_call 17; (with_reducible refine (cD.out _ HM.out).mono ?_); rintro e W1 ⟨⟨b, off, cap, rfl, hlt, e0, e1, e2, e3⟩, hb1⟩; have HB1 := hid hb1; clear hb1))
     go_ret
     exact ⟨rfl, HB1.out⟩
    ·have b2 : ((bs v).toList == (bs r).toList) = false := by rw [bs_toList, bs_toList]; simpa using h2
     rw [decide_eq_false (fun h => h2 h.2.2)]
     go_enter Tryz.func69, Tryz.ntmps69
     go_wp2_with ((go_at_call 17; (with_reducible refine (cD.out _ HM.out).mono ?_); rintro e W1 ⟨⟨b, off, cap, rfl, hlt, e0, e1, e2, e3⟩, hb1⟩; have HB1 := hid hb1; clear hb1))
     go_ret
     exact ⟨rfl, HB1.out⟩
   ·have b3 : ((bs r).toList == (bs s).toList) = false := by rw [bs_toList, bs_toList]; simpa using h3
    rw [decide_eq_false (fun h => h3 h.2.1)]
    go_enter Tryz.func69, Tryz.ntmps69
    go_wp2_with ((go_at_call 17; (with_reducible refine (cD.out _ HM.out).mono ?_); rintro e W1 ⟨⟨b, off, cap, rfl, hlt, e0, e1, e2, e3⟩, hb1⟩; have HB1 := hid hb1; clear hb1))
    go_ret
    exact ⟨rfl, HB1.out⟩
  ·have b1 : (k == 1) = false := by simpa using h1
   rw [decide_eq_false (fun h => h1 h.1)]
   go_enter Tryz.func69, Tryz.ntmps69
   go_wp2_with ((go_at_call 17; (with_reducible refine (cD.out _ HM.out).mono ?_); rintro e W1 ⟨⟨b, off, cap, rfl, hlt, e0, e1, e2, e3⟩, hb1⟩; have HB1 := hid hb1; clear hb1))
   go_ret
   exact ⟨rfl, HB1.out⟩
 ·have hno : selfB s L = false := by
   match L, hl with
   | [], _ => rfl
   | [t], hl => exact absurd rfl hl
   | a :: b :: r, _ => rfl
  rw [hno]
  have b0 : ((L.length : Int) == 1) = false := by simp; omega
  have HM := hid hm
  clear hm hl hno
  go_enter Tryz.func69, Tryz.ntmps69
  go_wp2_with (go_at_call 17; (with_reducible refine (cC.out _ HM.out).mono ?_); rintro e W1 ⟨⟨A, cap, rfl, hcap, hrd⟩, hb1⟩; have HB1 := hid hb1; clear hb1 hrd)
  go_ret
  exact ⟨rfl, HB1.out⟩
def WordR (w : World) : Option Bs -> Ending -> World -> Prop
 | some n, e, w' => e = .returned (.string (bs n)) /\ Below w.heap.size w w'
 | none, e, w' => e = .panicked chainN /\ Below w.heap.size w w'
theorem word_ct (b : Nat) (t : Tk) (kk : Int) (pre : Bs) (hp : pre.length <= 10) (hv : t.val.length <= 400) (w : World) (hm : MaxL w) :
  Calls Tryz.prog 104 #[(pn b), tv t, .int .i64 kk, .string (bs pre)] w (WordR w (wordF t kk pre)) := by
 obtain ⟨k, r, v, n⟩ := t
 unfold tv
 dsimp only at hv ⊢
 have cN := hid (fun w hm => name_ct v (by omega) w hm)
 have cY := hid (need_yes b)
 have cX := hid (need_no b)
 have HM := hid hm
 have HB0 := hid (show Below w.heap.size w (w.alloc (.cells #[.int .i64 k, .string (bs r), .string (bs v), .int .i64 n] 70)) from ba _ _)
 have P0 := hid (show Blk (w.alloc (.cells #[.int .i64 k, .string (bs r), .string (bs v), .int .i64 n] 70)) w.heap.size 70 #[.int .i64 k, .string (bs r), .string (bs v), .int .i64 n] from Blk.new rfl)
 have hcat : bs pre ++ bs v = bs (pre ++ v) := by
  apply ByteArray.ext; apply Array.ext'
  simp [bs, ByteArray.data_append]
 have hz1 : (bs pre).size <= 10 := hp
 have hz2 : (bs v).size <= 400 := hv
 have a1 : ¬ 9223372036854775807 < (bs pre).size + (bs v).size := by omega
 clear hm hp hv
 unfold wordF
 dsimp only
 by_cases h1 : k = kk
 ·subst h1
  by_cases h2 : r = pre ++ v
  ·have b2 : ((bs r).toList == (bs (pre ++ v)).toList) = true := by rw [bs_toList, bs_toList, h2]; simp
   cases h3 : nameB v with
   | true =>
    rw [if_pos ⟨rfl, h2, rfl⟩]
    rw [h3] at cN
    clear h2 h3
    go_enter Tryz.func104, Tryz.ntmps104
    go_wp2_with (first
     | (go_at_call 69; (with_reducible refine (cN.out _ (HM.out.on HB0.out HM.out.lt)).mono ?_); rintro e W1 ⟨rfl, hb1⟩; have HB1 := hid (tb HB0 hb1); have P1 := P0.out.below hb1 P0.out.lt; have p1 := P1.cell; clear hb1)
     | (go_at_call 30; (with_reducible refine (cY.out _).mono ?_); rintro e W2 ⟨rfl, rfl⟩))
    go_ret
    exact ⟨rfl, HB1.out⟩
   | false =>
    rw [if_neg (fun h => by cases h.2.2)]
    rw [h3] at cN
    clear h2 h3
    go_enter Tryz.func104, Tryz.ntmps104
    go_wp2_with (first
     | (go_at_call 69; (with_reducible refine (cN.out _ (HM.out.on HB0.out HM.out.lt)).mono ?_); rintro e W1 ⟨rfl, hb1⟩; have HB1 := hid (tb HB0 hb1); have P1 := P0.out.below hb1 P0.out.lt; have p1 := P1.cell; clear hb1)
     | (go_at_call 30; (with_reducible refine (cX.out _).mono ?_); rintro e W2 ⟨rfl, rfl⟩))
    exact ⟨rfl, rfl, HB1.out⟩
  ·have b2 : ((bs r).toList == (bs (pre ++ v)).toList) = false := by rw [bs_toList, bs_toList]; simpa using h2
   rw [if_neg (fun h => h2 h.2.1)]
   go_enter Tryz.func104, Tryz.ntmps104
   go_wp2_with (first
    | (go_at_call 69; (with_reducible refine (cN.out _ (HM.out.on HB0.out HM.out.lt)).mono ?_); rintro e W1 ⟨rfl, hb1⟩; have HB1 := hid (tb HB0 hb1); have P1 := P0.out.below hb1 P0.out.lt; have p1 := P1.cell; clear hb1)
    | (go_at_call 30; (with_reducible refine (cX.out _).mono ?_); rintro e W2 ⟨rfl, rfl⟩))
   exact ⟨rfl, rfl, HB0.out⟩
 ·have b1 : (k == kk) = false := bq h1
  rw [if_neg (fun h => h1 h.1)]
  go_enter Tryz.func104, Tryz.ntmps104
  go_wp2_with (first
   | (go_at_call 69; (with_reducible refine (cN.out _ (HM.out.on HB0.out HM.out.lt)).mono ?_); rintro e W1 ⟨rfl, hb1⟩; have HB1 := hid (tb HB0 hb1); have P1 := P0.out.below hb1 P0.out.lt; have p1 := P1.cell; clear hb1)
   | (go_at_call 30; (with_reducible refine (cX.out _).mono ?_); rintro e W2 ⟨rfl, rfl⟩))
  exact ⟨rfl, rfl, HB0.out⟩
end sel
namespace sel
open Go.RowKit base tok rul
def digsL : Bs := [48, 49, 50, 51, 52, 53, 54, 55, 56, 57]
def isDig (c : UInt8) : Prop := 48 <= c.toNat /\ c.toNat <= 57
theorem digs_of : ∀ (l : Bs) (acc u : Nat), Lib.parseUint10 acc l = .ok u -> ∀ c ∈ l, isDig c
 | [], _, _, _, c, hc => absurd hc List.not_mem_nil
 | d :: r, acc, u, h, c, hc => by
  rw [Lib.parseUint10] at h
  split at h
  ·rename_i hd
   split at h
   ·cases h
   ·split at h
    ·cases h
    ·rcases List.mem_cons.1 hc with e | e
     ·rw [e]; exact hd
     ·exact digs_of r _ u h c e
  ·cases h
theorem dig_in {c : UInt8} (h : isDig c) : digsL.contains c = true := by
 obtain ⟨h1, h2⟩ := h
 have hc : c = UInt8.ofNat c.toNat := by simp
 have : c.toNat = 48 ∨ c.toNat = 49 ∨ c.toNat = 50 ∨ c.toNat = 51 ∨ c.toNat = 52 ∨ c.toNat = 53 ∨ c.toNat = 54 ∨ c.toNat = 55 ∨ c.toNat = 56 ∨ c.toNat = 57 := by omega
 rcases this with e | e | e | e | e | e | e | e | e | e
 all_goals
  rw [hc, e]
  decide
theorem drop_all {p : UInt8 -> Bool} : ∀ (l : Bs), (∀ c ∈ l, p c = true) -> l.dropWhile p = []
 | [], _ => rfl
 | d :: l, h => by
  rw [List.dropWhile_cons, if_pos (h d (List.mem_cons_self ..))]
  exact drop_all l fun c hc => h c (List.mem_cons_of_mem _ hc)
theorem trim_digs (l : Bs) (h : ∀ c ∈ l, isDig c) : Lib.trimS l digsL = [] := by
 have h1 : l.reverse.dropWhile (digsL.contains ·) = [] := drop_all l.reverse fun c hc => dig_in (h c (List.mem_reverse.1 hc))
 unfold Lib.trimS Lib.trimRightS
 rw [h1]
 rfl
theorem atoi_digs {s : Bs} {v : Int} (h : Lib.atoiAll s = .ok v) : ∃ c r, s = c :: r /\ Lib.trimS (Lib.trimLeftS [c] [43, 45] ++ r) digsL = [] := by
 cases s with
 | nil => cases h
 | cons c r =>
  refine ⟨c, r, rfl, ?_⟩
  unfold Lib.atoiAll at h
  simp only at h
  by_cases hs : c.toNat = 43 ∨ c.toNat = 45
  ·rw [if_pos hs] at h
   have hl : Lib.trimLeftS [c] [43, 45] = [] := by
    have hc : c = UInt8.ofNat c.toNat := by simp
    rcases hs with e | e
    ·rw [hc, e]; decide
    ·rw [hc, e]; decide
   rw [hl, List.nil_append]
   cases hm : Lib.parseMag r with
   | ok u =>
    unfold Lib.parseMag at hm
    split at hm
    ·cases hm
    ·exact trim_digs r (digs_of r 0 u hm)
   | _ => rw [hm] at h; cases h
  ·rw [if_neg hs] at h
   have hl : Lib.trimLeftS [c] [43, 45] = [c] := by
    unfold Lib.trimLeftS
    rw [List.dropWhile_cons, if_neg]
    intro hc
    have : c = 43 ∨ c = 45 := by simpa using hc
    rcases this with e | e
    ·exact hs (.inl (by rw [e]; rfl))
    ·exact hs (.inr (by rw [e]; rfl))
   rw [hl]
   cases hm : Lib.parseMag (c :: r) with
   | ok u =>
    unfold Lib.parseMag at hm
    rw [if_neg (by simp)] at hm
    exact trim_digs (c :: r) (digs_of (c :: r) 0 u hm)
   | _ => rw [hm] at h; cases h
end sel
namespace sel
open Go.RowKit base tok rul
def SEnv (w : World) : Prop := MaxL w /\ (∃ tp p, w.cell? ⟨6, 0, none⟩ = some (.iface tp p)) /\ (∃ tp p, w.cell? ⟨7, 0, none⟩ = some (.iface tp p))
theorem SEnv.on {w w' : World} (h : SEnv w) (hb : Below w.heap.size w w') : SEnv w' := by
 obtain ⟨h1, ⟨t1, p1, h4⟩, ⟨t2, p2, h5⟩⟩ := h
 exact ⟨h1.on hb h1.lt, ⟨t1, p1, (hb.cell (World.block_lt_of_cell? w _ h4)).trans h4⟩, ⟨t2, p2, (hb.cell (World.block_lt_of_cell? w _ h5)).trans h5⟩⟩
theorem SEnv.max {w : World} (h : SEnv w) : MaxL w := h.1
theorem bytes_low (w : World) (e : TypeId) (s : ByteArray) : Below w.heap.size w (Lib.bytesWorld w e s) := Go.Joins.below_bytesWorld _ w e s (Nat.le_refl _)
theorem atoi_two (s : Bs) (hs : s.length <= 1048576) :
  (∃ v, Lib.atoiAll s = .ok v /\ ∀ w, SEnv w -> Calls Tryz.prog 141 #[.string (bs s)] w (rt w (.tuple #[.int .i64 v, .nilIface]))) ∨
  ((∀ v, Lib.atoiAll s ≠ .ok v) /\ ∃ d, ∀ w, SEnv w -> Calls Tryz.prog 141 #[.string (bs s)] w fun e w' => (∃ N, e = .returned (.tuple #[.int .i64 d, .iface 218 ((pn N))])) /\ Below w.heap.size w w') := by
 have hz : (bs s).size <= 1048576 := by rw [bs_size]; exact hs
 rcases h : Lib.atoiAll s with v | _ | _
 ·exact .inl ⟨v, rfl, fun w hw => (Tryz.strconv_Atoi_ok (bs s) (by omega) v h w).mono fun e w' ⟨he, hb⟩ => ⟨he, by
   rcases hb with rfl | ⟨t, rfl⟩
   ·exact Below.refl _ _
   ·exact bytes_low _ _ _⟩⟩
 ·refine .inr ⟨fun v e => (by cases e), 0, fun w hw => ?_⟩
  obtain ⟨_, ⟨tp, p, h2⟩, _⟩ := hw
  exact (Any.strconv_Atoi_syntax Tryz.laysC172 (bs s) (by omega) h (.iface tp p) w h2 (.inr ⟨tp, p, rfl⟩)).mono fun e w' ⟨N, he, _, _, hb⟩ => ⟨⟨N, he⟩, hb⟩
 ·refine .inr ⟨fun v e => (by cases e), Lib.atoiSat s, fun w hw => ?_⟩
  obtain ⟨_, _, ⟨tp, p, h2⟩⟩ := hw
  exact (Tryz.strconv_Atoi_range (bs s) (by omega) h (.iface tp p) w h2 (.inr ⟨tp, p, rfl⟩)).mono fun e w' ⟨N, he, _, _, hb⟩ => ⟨⟨N, he⟩, hb⟩
theorem trim_ct (s : Bs) (hs : s.length <= 1048576) (w : World) :
  Calls Tryz.prog 142 #[.string (bs s), .string ⟨#[48, 49, 50, 51, 52, 53, 54, 55, 56, 57]⟩] w (rt w (.string (bs (Lib.trimS s digsL)))) :=
 Any.strings_Trim_laid Tryz.lays160 (by kernel_rfl) (bs s) ⟨#[48, 49, 50, 51, 52, 53, 54, 55, 56, 57]⟩ w (by rw [bs_size]; omega) (by decide) (ascii_of_all (l := [48, 49, 50, 51, 52, 53, 54, 55, 56, 57]) (by decide))
theorem bs_cat (a b : Bs) : bs a ++ bs b = bs (a ++ b) := by
 apply ByteArray.ext; apply Array.ext'
 simp [bs, ByteArray.data_append]
theorem ext_head (c : UInt8) (r : Bs) : (bs (c :: r)).extract 0 1 = bs [c] := by
 apply ByteArray.ext; apply Array.ext'
 rw [Lib.extract_data]
 rfl
theorem ext_tail (c : UInt8) (r : Bs) : (bs (c :: r)).extract 1 (r.length + 1) = bs r := by
 apply ByteArray.ext; apply Array.ext'
 rw [Lib.extract_data]
 simp [bs]
theorem whole_dull (s : Bs) (hs : s.length <= 1000000) (h : wholeI s = none) : ∃ d, ∀ w, SEnv w ->
  Calls Tryz.prog 133 #[.string (bs s)] w (rt w (.tuple #[.int .i64 d, .bool false])) := by
 rcases atoi_two s (by omega) with ⟨v, hv, -⟩ | ⟨-, d, cA⟩
 ·unfold wholeI at h
  rw [hv] at h
  cases h
 ·refine ⟨d, fun w hE => ?_⟩
  replace cA := hid cA
  have HE := hid hE
  clear h hs hE
  go_enter Tryz.func133, Tryz.ntmps133
  go_wp2_with (go_at_call 141; (with_reducible refine (cA.out _ HE.out).mono ?_); rintro e W1 ⟨⟨N, rfl⟩, hb1⟩; have HB1 := hid hb1; clear hb1)
  go_region
  all_goals
   go_wp2
   exact bodyPost_ret (v := .tuple #[.int .i64 d, .bool false]) (by simp [results, Tryz.results133, go_sem]) rfl ⟨rfl, HB1.out.drew⟩
theorem whole_yes (s : Bs) (hs : s.length <= 1000000) (v : Int) (h : wholeI s = some v) (w : World) (hE : SEnv w) :
  Calls Tryz.prog 133 #[.string (bs s)] w (rt w (.tuple #[.int .i64 v, .bool true])) := by
 rcases atoi_two s (by omega) with ⟨u, hv, cA⟩ | ⟨hno, -⟩
 ·obtain rfl : u = v := by
   unfold wholeI at h
   rw [hv] at h
   exact Option.some.inj h
  obtain ⟨c, r, rfl, ht⟩ := atoi_digs hv
  simp only [List.length_cons] at hs
  have e1 := ext_head c r
  have e2 := ext_tail c r
  have hlen : (Lib.trimLeftS [c] [43, 45]).length <= 1 := (List.dropWhile_sublist _).length_le
  have cL : ∀ w, Calls Tryz.prog 46 #[.string (bs [c]), .string ⟨#[43, 45]⟩] w (rt w (.string (bs (Lib.trimLeftS [c] [43, 45])))) := fun w => trimL_ct (bs [c]) [43, 45] (by decide) (by decide) w
  have cT := fun w => trim_ct (Lib.trimLeftS [c] [43, 45] ++ r) (by rw [List.length_append]; omega) w
  rw [ht, <- bs_cat] at cT
  have hz1 : (bs (Lib.trimLeftS [c] [43, 45])).size <= 1 := hlen
  have hz2 : (bs r).size <= 1000000 := by rw [bs_size]; omega
  have a1 : ¬ 9223372036854775807 < (bs (Lib.trimLeftS [c] [43, 45])).size + (bs r).size := by omega
  have hz3 : (bs (c :: r)).size = r.length + 1 := rfl
  have hle : (1 : Int) <= ((bs (c :: r)).size : Int) := by rw [hz3]; omega
  have hle2 : (1 : Int) <= (r.length : Int) + 1 := by omega
  have hnil : (bs []).toList = [] := bs_toList []
  generalize Lib.trimLeftS [c] [43, 45] = tl at *
  replace cL := hid cL
  replace cT := hid cT
  replace cA := hid cA
  have HE := hid hE
  clear h ht hv hE hlen
  go_enter Tryz.func133, Tryz.ntmps133
  go_wp2_with (go_at_call 141; (with_reducible refine (cA.out _ HE.out).mono ?_); rintro e W1 ⟨rfl, hb1⟩; have HB1 := hid hb1; clear hb1)
  have ZR : W1.heap.size <= W1.heap.size := Nat.le_refl _
  go_region_held3 (fun w' => (∀ b o, b < W1.heap.size -> w'.cell? ⟨b, o, none⟩ = W1.cell? ⟨b, o, none⟩) /\ Below W1.heap.size W1 w')
   (first | exact As.beg | assumption | exact As.on hb3 (by assumption) ZR)
   (first
    | (go_at_call 46; (with_reducible refine (cL.out _).mono ?_); rintro e W2 ⟨rfl, hb3⟩)
    | (go_at_call 142; (with_reducible refine (cT.out _).mono ?_); rintro e W3 ⟨rfl, hb3⟩))
  all_goals
   rename_i hHeld
   have HX := hid (HB1.out.trans (hHeld.2.mono HB1.out.size))
   clear hHeld
   go_wp2
   exact bodyPost_ret (v := .tuple #[.int .i64 u, .bool true]) (by simp [results, Tryz.results133, go_sem]) rfl ⟨rfl, HX.out⟩
 ·unfold wholeI at h
  split at h
  ·rename_i h1
   exact absurd h1 (hno _)
  ·cases h
end sel
namespace sel
open Go.RowKit base tok rul
def I64 (a : Int) : Prop := -9223372036854775808 <= a /\ a <= 9223372036854775807
mutual
def SmT : Ts -> Prop
 | .mk k name op val a b subs => 1 <= k /\ k <= 11 /\ name.length <= 400 /\ val.length <= 400 /\ I64 a /\ I64 b /\ SmL subs
def SmP : Pa -> Prop
 | .mk steps joins => steps ≠ [] /\ joins.length + 1 = steps.length /\ SmSS steps
def SmL : List Pa -> Prop
 | [] => True
 | p :: l => SmP p /\ SmL l
def SmSS : List (List Ts) -> Prop
 | [] => True
 | s :: l => s ≠ [] /\ SmS s /\ SmSS l
def SmS : List Ts -> Prop
 | [] => True
 | t :: l => SmT t /\ SmS l
end
theorem smS_app {l : List Ts} {t : Ts} (h : SmS l) (ht : SmT t) : SmS (l ++ [t]) := by
 induction l with
 | nil => rw [List.nil_append, SmS, SmS]; exact ⟨ht, trivial⟩
 | cons a l ih =>
  rw [SmS] at h
  rw [List.cons_append, SmS]
  exact ⟨h.1, ih h.2⟩
theorem smSS_app {l : List (List Ts)} {s : List Ts} (h : SmSS l) (h0 : s ≠ []) (hs : SmS s) : SmSS (l ++ [s]) := by
 induction l with
 | nil => rw [List.nil_append, SmSS, SmSS]; exact ⟨h0, hs, trivial⟩
 | cons a l ih =>
  rw [SmSS] at h
  rw [List.cons_append, SmSS]
  exact ⟨h.1, h.2.1, ih h.2.2⟩
theorem smL_app {l : List Pa} {p : Pa} (h : SmL l) (hp : SmP p) : SmL (l ++ [p]) := by
 induction l with
 | nil => rw [List.nil_append, SmL, SmL]; exact ⟨hp, trivial⟩
 | cons a l ih =>
  rw [SmL] at h
  rw [List.cons_append, SmL]
  exact ⟨h.1, ih h.2⟩
theorem cntS_app (l : List Ts) (t : Ts) : cntS (l ++ [t]) = cntS l + cntT t := by
 induction l with
 | nil => rw [List.nil_append, cntS, cntS]; simp [cntS]
 | cons a l ih => rw [List.cons_append, cntS, cntS, ih]; omega
theorem cntSS_app (l : List (List Ts)) (s : List Ts) : cntSS (l ++ [s]) = cntSS l + cntS s := by
 induction l with
 | nil => rw [List.nil_append, cntSS, cntSS]; simp [cntSS]
 | cons a l ih => rw [List.cons_append, cntSS, cntSS, ih]; omega
theorem cntL_app (l : List Pa) (p : Pa) : cntL (l ++ [p]) = cntL l + cntP p := by
 induction l with
 | nil => rw [List.nil_append, cntL, cntL]; simp [cntL]
 | cons a l ih => rw [List.cons_append, cntL, cntL, ih]; omega
theorem cntT_mk (k : Int) (n : Bs) (op : UInt8) (v : Bs) (a b : Int) (subs : List Pa) : cntT (.mk k n op v a b subs) = 1 + cntL subs := by rw [cntT]
theorem cntL_nil : cntL [] = 0 := by rw [cntL]
theorem cntS_nil : cntS [] = 0 := by rw [cntS]
theorem cntSS_nil : cntSS [] = 0 := by rw [cntSS]
theorem cnt_pos : ∀ t : Ts, 1 <= cntT t
 | .mk k n op v a b subs => by rw [cntT_mk]; omega
theorem len_S : ∀ l : List Ts, l.length <= cntS l
 | [] => Nat.zero_le _
 | t :: l => by
  have h1 := cnt_pos t
  have h2 := len_S l
  rw [cntS, List.length_cons]
  omega
theorem len_SS : ∀ l : List (List Ts), SmSS l -> l.length <= cntSS l
 | [], _ => Nat.zero_le _
 | s :: l, h => by
  rw [SmSS] at h
  have h1 := len_S s
  have h2 := len_SS l h.2.2
  have h3 := List.length_pos_iff.2 h.1
  rw [cntSS, List.length_cons]
  omega
theorem len_L : ∀ l : List Pa, SmL l -> l.length <= cntL l
 | [], _ => Nat.zero_le _
 | .mk steps joins :: l, h => by
  rw [SmL, SmP] at h
  have h1 := len_SS steps h.1.2.2
  have h2 := len_L l h.2
  have h3 := List.length_pos_iff.2 h.1.1
  rw [cntL, cntP, List.length_cons]
  omega
theorem smT_of {k : Int} {n : Bs} {op : UInt8} {v : Bs} {a b : Int} (hk : 1 <= k /\ k <= 11) (hn : n.length <= 400) (hv : v.length <= 400) (ha : I64 a) (hb : I64 b) : SmT (.mk k n op v a b []) /\ cntT (.mk k n op v a b []) = 1 := by
 rw [SmT, SmL, cntT_mk, cntL_nil]
 exact ⟨⟨hk.1, hk.2, hn, hv, ha, hb, trivial⟩, rfl⟩
theorem smT_name {k : Int} {n : Bs} (hk : 1 <= k /\ k <= 11) (hn : n.length <= 400) : SmT (ts k n) /\ cntT (ts k n) = 1 := smT_of hk hn (Nat.zero_le _) ⟨by decide, by decide⟩ ⟨by decide, by decide⟩
theorem word_len {t : Tk} {k : Int} {pre n : Bs} (h : wordF t k pre = some n) (hv : t.val.length <= 400) : n.length <= 400 := by
 unfold wordF at h
 split at h
 ·obtain rfl := Option.some.inj h
  exact hv
 ·cases h
theorem low_len (s : Bs) : (lowP s).length = s.length := List.length_map _
theorem attrV_sm {n : Bs} {op : UInt8} {L M : List Tk} {t : Ts} (hL : GoodS L) (hn : n.length <= 400) (h : attrV n op L = some (t, M)) : SmT t /\ cntT t = 1 := by
 cases L with
 | nil => cases h
 | cons v L =>
  rw [attrV] at h
  obtain ⟨x, hx, h1⟩ := bind_some' h
  obtain ⟨M2, _, h2⟩ := map_some' h1
  obtain ⟨rfl, _⟩ := Prod.mk.inj h2
  have hv := (hL.2 v (List.mem_cons_self ..)).2.2.2
  refine smT_of ⟨by decide, by decide⟩ hn ?_ ⟨by decide, by decide⟩ ⟨by decide, by decide⟩
  split at hx
  ·obtain rfl := Option.some.inj hx
   exact hv
  ·exact word_len hx hv
theorem attrF_sm {L M : List Tk} {t : Ts} (hL : GoodS L) (h : attrF L = some (t, M)) : SmT t /\ cntT t = 1 := by
 cases L with
 | nil => cases h
 | cons u L =>
  rw [attrF] at h
  obtain ⟨x, hx, h1⟩ := bind_some' h
  have hn : (lowP x).length <= 400 := by rw [low_len]; exact word_len hx (hL.2 u (List.mem_cons_self ..)).2.2.2
  cases hr : rawF [93] L with
  | some K =>
   rw [hr] at h1
   obtain ⟨rfl, _⟩ := Prod.mk.inj (Option.some.inj h1)
   exact smT_name ⟨by decide, by decide⟩ hn
  | none =>
   rw [hr] at h1
   cases L with
   | nil => cases h1
   | cons o K =>
    simp only at h1
    split at h1
    ·cases ho : o.raw with
     | nil => rw [ho] at h1; cases h1
     | cons c r =>
      rw [ho] at h1
      simp only at h1
      split at h1
      ·exact attrV_sm hL.tail.tail hn h1
      ·obtain ⟨K2, h3, h4⟩ := bind_some' h1
       obtain ⟨c2, hK, _⟩ := raw_some h3
       exact attrV_sm ((hK ▸ hL.tail.tail).tail) hn h4
    ·cases h1
theorem whole_64 {s : Bs} {v : Int} (h : wholeI s = some v) : I64 v := by
 unfold wholeI at h
 split at h
 ·rename_i h1
  obtain rfl := Option.some.inj h
  exact Lib.atoiAll_bounds h1
 ·cases h
theorem nth_64 {s : Bs} {p : Int × Int} (h : nthI s = some p) : I64 p.1 /\ I64 p.2 := by
 have z : I64 0 := ⟨by decide, by decide⟩
 unfold nthI at h
 split at h
 ·obtain rfl := Option.some.inj h
  exact ⟨⟨by decide, by decide⟩, ⟨by decide, by decide⟩⟩
 ·split at h
  ·obtain rfl := Option.some.inj h
   exact ⟨⟨by decide, by decide⟩, ⟨by decide, by decide⟩⟩
  ·split at h
   ·obtain ⟨a, ha, h1⟩ := bind_some' h
    obtain ⟨b, hb, h2⟩ := map_some' h1
    subst h2
    refine ⟨?_, ?_⟩
    ·unfold headI at ha
     split at ha
     ·obtain rfl := Option.some.inj ha; exact (⟨by decide, by decide⟩ : I64 1)
     ·split at ha
      ·obtain rfl := Option.some.inj ha; exact (⟨by decide, by decide⟩ : I64 (-1))
      ·exact whole_64 ha
    ·unfold tailI at hb
     split at hb
     ·obtain rfl := Option.some.inj hb; exact z
     ·split at hb
      ·exact whole_64 hb
      ·cases hb
   ·split at h
    ·cases h
    ·obtain ⟨b, hb, h2⟩ := map_some' h
     subst h2
     exact ⟨z, whole_64 hb⟩
theorem counted_sm {k : Int} {L M : List Tk} {t : Ts} (hk : k = 8 ∨ k = 9) (h : countedF k L = some (t, M)) : SmT t /\ cntT t = 1 := by
 unfold countedF at h
 obtain ⟨⟨s, K⟩, _, h1⟩ := bind_some' h
 obtain ⟨p, hp, h2⟩ := map_some' h1
 obtain ⟨rfl, _⟩ := Prod.mk.inj h2
 have h64 := nth_64 hp
 exact smT_of ⟨by omega, by omega⟩ (Nat.zero_le _) (Nat.zero_le _) h64.1 h64.2
theorem pseudoN_sm {v : Bs} {t : Ts} (h : pseudoN v = some t) : SmT t /\ cntT t = 1 := by
 unfold pseudoN at h
 split at h
 ·obtain rfl := Option.some.inj h
  exact smT_name ⟨by decide, by decide⟩ (Nat.zero_le _)
 ·split at h
  ·obtain rfl := Option.some.inj h
   exact smT_name ⟨by decide, by decide⟩ (Nat.zero_le _)
  ·split at h
   ·obtain rfl := Option.some.inj h
    exact smT_of ⟨by decide, by decide⟩ (Nat.zero_le _) (Nat.zero_le _) ⟨by decide, by decide⟩ ⟨by decide, by decide⟩
   ·split at h
    ·obtain rfl := Option.some.inj h
     exact smT_of ⟨by decide, by decide⟩ (Nat.zero_le _) (Nat.zero_le _) ⟨by decide, by decide⟩ ⟨by decide, by decide⟩
    ·cases h
abbrev InO (d : Nat) : Prop := ∀ (L : List Tk) (t : Ts) (M : List Tk), GoodS L -> oneF d L = some (some t, M) -> SmT t /\ cntT t + M.length <= L.length
abbrev InP (d : Nat) : Prop := ∀ (L : List Tk) (t : Ts) (M : List Tk), GoodS L -> pseudoF d L = some (t, M) -> SmT t /\ cntT t + M.length <= L.length
abbrev InS (d : Nat) : Prop := ∀ (acc : List Ts) (L : List Tk) (s : List Ts) (M : List Tk), GoodS L -> SmS acc -> stepF d acc L = some (s, M) -> SmS s /\ cntS s + M.length <= cntS acc + L.length
abbrev InT (d : Nat) : Prop := ∀ (steps : List (List Ts)) (joins : Bs) (L : List Tk) (p : Pa) (M : List Tk), GoodS L -> SmSS steps -> joins.length + 1 = steps.length -> pathF d steps joins L = some (p, M) -> SmP p /\ cntP p + M.length <= cntSS steps + L.length
abbrev InL (d : Nat) : Prop := ∀ (shut : Bool) (acc : List Pa) (L : List Tk) (l : List Pa) (M : List Tk), GoodS L -> SmL acc -> listF d shut acc L = some (l, M) -> SmL l /\ l ≠ [] /\ cntL l + M.length <= cntL acc + L.length
theorem in_all : ∀ d, InO d /\ InP d /\ InS d /\ InT d /\ InL d
 | 0 => by
  refine ⟨fun L t M _ h => ?_, fun L t M _ h => ?_, fun acc L s M _ _ h => ?_, fun steps joins L p M _ _ _ h => ?_, fun shut acc L l M _ _ h => ?_⟩
  ·rw [oneF] at h; cases h
  ·rw [pseudoF] at h; cases h
  ·rw [stepF] at h; cases h
  ·rw [pathF] at h; cases h
  ·rw [listF] at h; cases h
 | d + 1 => by
  obtain ⟨hO, hP, hS, hT, hL⟩ := in_all d
  obtain ⟨fO, fP, fS, fT, fL⟩ := fw_all d
  refine ⟨fun L t M hg h => ?_, fun L t M hg h => ?_, fun acc L s M hg ha h => ?_, fun steps joins L p M hg hs hj h => ?_, fun shut acc L l M hg ha h => ?_⟩
  ·cases L with
   | nil =>
    rw [oneF] at h
    cases (Prod.mk.inj (Option.some.inj h)).1
   | cons u L =>
    have hu := (hg.2 u (List.mem_cons_self ..)).2.2.2
    rw [oneF.eq_def] at h
    simp only at h
    split at h
    ·obtain ⟨e, rfl⟩ := Prod.mk.inj (Option.some.inj h)
     obtain rfl := Option.some.inj e
     have := smT_name (k := 1) (n := []) ⟨by decide, by decide⟩ (Nat.zero_le _)
     exact ⟨this.1, by rw [this.2, List.length_cons]; omega⟩
    ·split at h
     ·obtain ⟨n, hn, h1⟩ := map_some' h
      obtain ⟨e, rfl⟩ := Prod.mk.inj h1
      obtain rfl := Option.some.inj e
      have := smT_name (k := 2) (n := lowP n) ⟨by decide, by decide⟩ (by rw [low_len]; exact word_len hn hu)
      exact ⟨this.1, by rw [this.2, List.length_cons]; omega⟩
     ·split at h
      ·obtain ⟨n, hn, h1⟩ := map_some' h
       obtain ⟨e, rfl⟩ := Prod.mk.inj h1
       obtain rfl := Option.some.inj e
       have := smT_name (k := 3) (n := n) ⟨by decide, by decide⟩ (word_len hn hu)
       exact ⟨this.1, by rw [this.2, List.length_cons]; omega⟩
      ·split at h
       ·cases L with
        | nil => cases h
        | cons v L =>
         have hv := (hg.tail.2 v (List.mem_cons_self ..)).2.2.2
         simp only at h
         obtain ⟨n, hn, h1⟩ := map_some' h
         obtain ⟨e, rfl⟩ := Prod.mk.inj h1
         obtain rfl := Option.some.inj e
         have := smT_name (k := 4) (n := n) ⟨by decide, by decide⟩ (word_len hn hv)
         exact ⟨this.1, by rw [this.2, List.length_cons, List.length_cons]; omega⟩
       ·split at h
        ·obtain ⟨⟨x, K⟩, h1, h2⟩ := map_some' h
         obtain ⟨e, rfl⟩ := Prod.mk.inj h2
         obtain rfl := Option.some.inj e
         have h3 := attrF_sm hg.tail h1
         have h4 := (attrF_fwd h1).2
         exact ⟨h3.1, by rw [h3.2, List.length_cons]; simp only; omega⟩
        ·split at h
         ·obtain ⟨⟨x, K⟩, h1, h2⟩ := map_some' h
          obtain ⟨e, rfl⟩ := Prod.mk.inj h2
          obtain rfl := Option.some.inj e
          have h3 := hP _ _ _ hg.tail h1
          exact ⟨h3.1, by rw [List.length_cons]; simp only; omega⟩
         ·cases (Prod.mk.inj (Option.some.inj h)).1
  ·cases L with
   | nil => rw [pseudoF] at h; cases h
   | cons u L =>
    rw [pseudoF] at h
    split at h
    ·obtain ⟨x, h1, h2⟩ := map_some' h
     obtain ⟨rfl, rfl⟩ := Prod.mk.inj h2
     have h3 := pseudoN_sm h1
     exact ⟨h3.1, by rw [h3.2, List.length_cons]; omega⟩
    ·have hsub : ∀ {k : Int} {K : List Pa}, (k = 10 ∨ k = 11) -> SmL K -> SmT (.mk k [] 0 [] 0 0 K) := fun {k K} hk hK => by
      rw [SmT]
      exact ⟨by omega, by omega, Nat.zero_le _, Nat.zero_le _, ⟨by decide, by decide⟩, ⟨by decide, by decide⟩, hK⟩
     split at h
     ·split at h
      ·have h3 := counted_sm (.inl rfl) h
       have h4 := (countedF_fwd h).2
       exact ⟨h3.1, by rw [h3.2, List.length_cons]; omega⟩
      ·split at h
       ·have h3 := counted_sm (.inr rfl) h
        have h4 := (countedF_fwd h).2
        exact ⟨h3.1, by rw [h3.2, List.length_cons]; omega⟩
       ·split at h
        ·obtain ⟨⟨x, K⟩, h1, h2⟩ := map_some' h
         obtain ⟨rfl, rfl⟩ := Prod.mk.inj h2
         obtain ⟨m1, -, m2⟩ := hL _ _ _ _ _ hg.tail (by rw [SmL]; trivial) h1
         rw [cntL_nil] at m2
         exact ⟨hsub (.inl rfl) m1, by rw [cntT_mk, List.length_cons]; simp only; omega⟩
        ·split at h
         ·obtain ⟨⟨x, K⟩, h1, h2⟩ := map_some' h
          obtain ⟨rfl, rfl⟩ := Prod.mk.inj h2
          obtain ⟨m1, -, m2⟩ := hL _ _ _ _ _ hg.tail (by rw [SmL]; trivial) h1
          rw [cntL_nil] at m2
          exact ⟨hsub (.inr rfl) m1, by rw [cntT_mk, List.length_cons]; simp only; omega⟩
         ·cases h
     ·cases h
  ·rw [stepF] at h
   obtain ⟨⟨r, K⟩, h1, h2⟩ := bind_some' h
   obtain ⟨k1, k2, k3⟩ := fO _ _ _ h1
   cases r with
   | some t =>
    simp only at h2
    obtain ⟨m1, m2⟩ := hO _ _ _ hg h1
    obtain ⟨n1, n2⟩ := hS _ _ _ _ (hg.suf k1) (smS_app ha m1) h2
    rw [cntS_app] at n2
    exact ⟨n1, by omega⟩
   | none =>
    simp only at h2
    split at h2
    ·cases h2
    ·obtain ⟨rfl, rfl⟩ := Prod.mk.inj (Option.some.inj h2)
     have := k1.length_le
     exact ⟨ha, by omega⟩
  ·rw [pathF] at h
   have hgs := gap_suf L
   have hne : steps ≠ [] := fun e => by rw [e] at hj; simp at hj
   have hgl := hgs.length_le
   cases hgp : gapP L with
   | nil =>
    rw [hgp] at h
    obtain ⟨rfl, rfl⟩ := Prod.mk.inj (Option.some.inj h)
    rw [SmP, cntP]
    exact ⟨⟨hne, hj, hs⟩, by simp⟩
   | cons t K =>
    rw [hgp] at h hgs hgl
    simp only at h
    have hgK := hg.suf hgs
    split at h
    ·rename_i hjn
     obtain ⟨⟨s, K2⟩, h1, h2⟩ := bind_some' h
     have hG2 := hgK.tail.suf (gap_suf K)
     obtain ⟨m1, m2⟩ := hS _ _ _ _ hG2 (by rw [SmS]; trivial) h1
     obtain ⟨f1, f2, f3⟩ := fS _ _ _ _ h1
     have hraw : t.raw.length = 1 := by
      unfold joinP at hjn
      simp only [Bool.or_eq_true, decide_eq_true_eq] at hjn
      rcases hjn with (e | e) | e <;> rw [e] <;> rfl
     obtain ⟨n1, n2⟩ := hT _ _ _ _ _ (hG2.suf f1) (smSS_app hs f2 m1) (by rw [List.length_append, List.length_append, hraw]; simp only [List.length_cons, List.length_nil]; omega) h2
     rw [cntSS_app] at n2
     rw [cntS_nil] at m2
     have h3 := (gap_suf K).length_le
     simp only [List.length_cons] at hgl
     exact ⟨n1, by omega⟩
    ·split at h
     ·obtain ⟨⟨s, K2⟩, h1, h2⟩ := bind_some' h
      obtain ⟨m1, m2⟩ := hS _ _ _ _ hgK (by rw [SmS]; trivial) h1
      obtain ⟨f1, f2, f3⟩ := fS _ _ _ _ h1
      obtain ⟨n1, n2⟩ := hT _ _ _ _ _ (hgK.suf f1) (smSS_app hs f2 m1) (by rw [List.length_append, List.length_append]; simp only [List.length_cons, List.length_nil]; omega) h2
      rw [cntSS_app] at n2
      rw [cntS_nil] at m2
      exact ⟨n1, by omega⟩
     ·obtain ⟨rfl, rfl⟩ := Prod.mk.inj (Option.some.inj h)
      rw [SmP, cntP]
      exact ⟨⟨hne, hj, hs⟩, by omega⟩
  ·rw [listF] at h
   obtain ⟨⟨s, K⟩, h1, h2⟩ := bind_some' h
   obtain ⟨⟨p, K2⟩, h3, h4⟩ := bind_some' h2
   have hG1 := hg.suf (gap_suf L)
   obtain ⟨a1, a2⟩ := hS _ _ _ _ hG1 (by rw [SmS]; trivial) h1
   obtain ⟨f1, f2, f3⟩ := fS _ _ _ _ h1
   obtain ⟨b1, b2⟩ := hT _ _ _ _ _ (hG1.suf f1) (by rw [SmSS, SmSS]; exact ⟨f2, a1, trivial⟩) rfl h3
   have g1 := fT _ _ _ _ _ h3
   have c1 := gap_suf K2
   have hGall : GoodS (gapP K2) := ((hG1.suf f1).suf g1).suf c1
   rw [cntS_nil] at a2
   have e1 : cntSS [s] = cntS s := by rw [cntSS, cntSS_nil]; rfl
   rw [e1] at b2
   have q1 := c1.length_le
   have q2 := (gap_suf L).length_le
   have hcnt : cntL (acc ++ [p]) + (gapP K2).length <= cntL acc + L.length := by
    rw [cntL_app]
    omega
   have hsm := smL_app ha b1
   have hne : acc ++ [p] ≠ [] := by simp
   simp only at h4
   cases hgp : gapP K2 with
   | nil =>
    rw [hgp] at h4 hcnt
    simp only at h4
    split at h4
    ·cases h4
    ·obtain ⟨rfl, rfl⟩ := Prod.mk.inj (Option.some.inj h4)
     exact ⟨hsm, hne, hcnt⟩
   | cons t K3 =>
    rw [hgp] at h4 hcnt hGall
    simp only [List.length_cons] at hcnt
    simp only at h4
    split at h4
    ·obtain ⟨m1, m2, m3⟩ := hL _ _ _ _ _ hGall.tail hsm h4
     exact ⟨m1, m2, by omega⟩
    ·split at h4
     ·split at h4
      ·obtain ⟨rfl, rfl⟩ := Prod.mk.inj (Option.some.inj h4)
       exact ⟨hsm, hne, by omega⟩
      ·cases h4
     ·cases h4
end sel
end Go.Proofs.YtaobpkffcolobaaGreatDoor
