/- Contracts and plain law, a bundle. -/
import Derived.Lib.LaidU8
import Derived.Deep.QuietTactic
import Derived.BigQuiet
import Derived.Lib.ItoaNum
import Derived.Lib.TrimByte
import Derived.Lib.LaidTab
import Derived.Lib.Hide
import Derived.Test.YtlfkkaofgcongaaGreatDoorBC
import Derived.Test.YtlfkkaofgcongaaGreatDoorBC1
import Derived.Test.YtlfkkaofgcongaaGreatDoorBS
set_option linter.unusedVariables false
set_option maxRecDepth 100000
set_option maxHeartbeats 16000000
open Go.Lib (hid)
namespace Go.Proofs.YtlfkkaofgcongaaGreatDoor
namespace dim
open Go.RowKit base tok
def StrsAt (w : World) (R o : Nat) (L : List Bs) : Prop := R < w.heap.size /\ ∀ (i : Nat) (s : Bs), L[i]? = some s -> w.cell? ⟨R, o + i, none⟩ = some (.string (bs s))
theorem StrsAt.on {w w' : World} {R o : Nat} {L : List Bs} (h : StrsAt w R o L) (hb : Below w.heap.size w w') : StrsAt w' R o L :=
 ⟨Nat.lt_of_lt_of_le h.1 hb.size, fun i s hi => (hb.cell (p := ⟨R, o + i, none⟩) h.1).trans (h.2 i s hi)⟩
end dim
namespace dim
open Go.RowKit base tok
def unitsL : List Bs := [[], [112, 120], [101, 109], [114, 101, 109], [118, 119], [118, 104], [37]]
def UnitsAt (w : World) : Prop := 1 < w.heap.size /\ ∃ R o cap, w.cell? ⟨1, 0, none⟩ = some (.slice (some ⟨R, o, none⟩) 7 cap) /\ StrsAt w R o unitsL
theorem UnitsAt.on {w w' : World} (h : UnitsAt w) (hb : Below w.heap.size w w') : UnitsAt w' := by
 obtain ⟨h0, R, o, cap, hc, hs⟩ := h
 exact ⟨Nat.lt_of_lt_of_le h0 hb.size, R, o, cap, (hb.cell (p := ⟨_, 0, none⟩) h0).trans hc, hs.on hb⟩
end dim
namespace dim
open Go.RowKit base tok
theorem nv_dig {k : Nat} (h : k < 10) : nv (UInt8.ofNat (48 + k)) = 48 + (k : Int) := by
 simp only [nv, UInt8.toNat_ofNat']
 omega
theorem dig_dig {k : Nat} (h : k < 10) : digI (nv (UInt8.ofNat (48 + k))) = true := by
 rw [nv_dig h]
 simp [digI]
 omega
theorem addD_dig {n : Int} {k : Nat} (h : k < 10) (hn : 10 * n + k <= 1000000000) : addD n (UInt8.ofNat (48 + k)) = 10 * n + k := by
 unfold addD
 rw [nv_dig h]
 omega
theorem dec_step {u : Nat} (h : ¬ u < 10) : Lib.decDigits u = Lib.decDigits (u / 10) ++ [UInt8.ofNat (48 + u % 10)] := by
 rw [Lib.decDigits, dif_neg h]
theorem dec_fold : ∀ (u : Nat), u <= 1000000000 -> (Lib.decDigits u).foldl addD 0 = (u : Int) := by
 intro u
 induction u using Nat.strongRecOn with
 | _ u ih =>
  intro hu
  by_cases h : u < 10
  ·rw [Lib.decDigits_one h]
   simp only [List.foldl_cons, List.foldl_nil]
   rw [addD_dig h (by omega)]
   omega
  ·rw [dec_step h, List.foldl_append, ih (u / 10) (by omega) (by omega)]
   simp only [List.foldl_cons, List.foldl_nil]
   rw [addD_dig (by omega) (by omega)]
   omega
theorem dec_digs : ∀ (u : Nat), ∀ c ∈ Lib.decDigits u, digI (nv c) = true := by
 intro u
 induction u using Nat.strongRecOn with
 | _ u ih =>
  by_cases h : u < 10
  ·rw [Lib.decDigits_one h]
   intro c hc
   obtain rfl : c = UInt8.ofNat (48 + u) := by simpa using hc
   exact dig_dig h
  ·rw [dec_step h]
   intro c hc
   rcases List.mem_append.1 hc with hc | hc
   ·exact ih (u / 10) (by omega) c hc
   ·obtain rfl : c = UInt8.ofNat (48 + u % 10) := by simpa using hc
    exact dig_dig (by omega)
theorem dec_ne (u : Nat) : Lib.decDigits u ≠ [] := by
 by_cases h : u < 10
 ·rw [Lib.decDigits_one h]; simp
 ·rw [dec_step h]; simp
theorem dec_three {r : Nat} (h : r < 1000) : Lib.decDigits (1000 + r) = 49 :: [UInt8.ofNat (48 + r / 100), UInt8.ofNat (48 + r / 10 % 10), UInt8.ofNat (48 + r % 10)] := by
 rw [dec_step (by omega), dec_step (u := (1000 + r) / 10) (by omega), dec_step (u := (1000 + r) / 10 / 10) (by omega), Lib.decDigits_one (i := (1000 + r) / 10 / 10 / 10) (by omega)]
 have e1 : (1000 + r) / 10 / 10 / 10 = 1 := by omega
 have e2 : (1000 + r) / 10 / 10 % 10 = r / 100 := by omega
 have e3 : (1000 + r) / 10 % 10 = r / 10 % 10 := by omega
 have e4 : (1000 + r) % 10 = r % 10 := by omega
 rw [e1, e2, e3, e4]
 rfl
theorem digits_app (d r : Bs) (hd : ∀ c ∈ d, digI (nv c) = true) (hr : ∀ c, r.head? = some c -> digI (nv c) = false) : digitsP (d ++ r) = d.length := by
 unfold digitsP
 induction d with
 | nil =>
  cases r with
  | nil => rfl
  | cons c r => simp [hr c rfl]
 | cons c d ih =>
  simp only [List.cons_append, List.takeWhile_cons, hd c (by simp), if_true, List.length_cons]
  rw [ih (fun x hx => hd x (by simp [hx]))]
end dim
namespace dim
open Go.RowKit base tok
def fracP (r : Nat) : Bs := Lib.trimRightB [UInt8.ofNat (48 + r / 100), UInt8.ofNat (48 + r / 10 % 10), UInt8.ofNat (48 + r % 10)] 48
theorem frac_all : ∀ r : Fin 1000, (fracP r.val).getD 0 48 = UInt8.ofNat (48 + r.val / 100) /\ (fracP r.val).getD 1 48 = UInt8.ofNat (48 + r.val / 10 % 10) /\ (fracP r.val).getD 2 48 = UInt8.ofNat (48 + r.val % 10) /\ (fracP r.val).all (fun c => digI (nv c)) = true := by
 decide +kernel
theorem frac_is {r : Nat} (h : r < 1000) : (fracP r).getD 0 48 = UInt8.ofNat (48 + r / 100) /\ (fracP r).getD 1 48 = UInt8.ofNat (48 + r / 10 % 10) /\ (fracP r).getD 2 48 = UInt8.ofNat (48 + r % 10) /\ ∀ c ∈ fracP r, digI (nv c) = true := by
 obtain ⟨h0, h1, h2, h3⟩ := frac_all ⟨r, h⟩
 exact ⟨h0, h1, h2, fun c hc => List.all_eq_true.1 h3 c hc⟩
def pointP (fr : Bs) : Bs := if fr = [] then [] else 46 :: fr
def plainP (m : Nat) : Bs := Lib.decDigits (m / 1000) ++ pointP (fracP (m % 1000))
theorem not_dig46 : digI (nv 46) = false := by decide
theorem sum_is {m : Nat} (hm : m <= 1000000000) : addD (addD (addD ((Lib.decDigits (m / 1000)).foldl addD 0) ((fracP (m % 1000)).getD 0 48)) ((fracP (m % 1000)).getD 1 48)) ((fracP (m % 1000)).getD 2 48) = (m : Int) := by
 obtain ⟨h0, h1, h2, -⟩ := frac_is (r := m % 1000) (by omega)
 have a1 := addD_dig (n := ((m / 1000 : Nat) : Int)) (k := m % 1000 / 100) (by omega) (by omega)
 have a2 := addD_dig (n := 10 * ((m / 1000 : Nat) : Int) + ((m % 1000 / 100 : Nat) : Int)) (k := m % 1000 / 10 % 10) (by omega) (by omega)
 have a3 := addD_dig (n := 10 * (10 * ((m / 1000 : Nat) : Int) + ((m % 1000 / 100 : Nat) : Int)) + ((m % 1000 / 10 % 10 : Nat) : Int)) (k := m % 1000 % 10) (by omega) (by omega)
 rw [h0, h1, h2, dec_fold _ (by omega), a1, a2, a3]
 omega
theorem number_at (s u : Bs) (m : Nat) (hm : m <= 1000000000) (neg : Bool) (hu : ∀ c, u.head? = some c -> digI (nv c) = false /\ ¬ nv c = 46)
  (hs : (s = [] /\ neg = false) ∨ (s = [45] /\ neg = true)) :
  numberP (s ++ (plainP m ++ u)) = (if neg then -(m : Int) else (m : Int), s.length + (plainP m).length) := by
 have hW := dec_digs (m / 1000)
 have hWn := dec_ne (m / 1000)
 have hS := sum_is hm
 obtain ⟨-, -, -, hF⟩ := frac_is (r := m % 1000) (by omega)
 unfold plainP
 generalize Lib.decDigits (m / 1000) = W at *
 generalize fracP (m % 1000) = fr at *
 obtain ⟨c, W', rfl⟩ := List.exists_cons_of_ne_nil hWn
 have hc := hW c (by simp)
 simp [digI] at hc
 have hsign : signAt (s ++ (c :: W' ++ pointP fr ++ u)) = s.length /\ negP (s ++ (c :: W' ++ pointP fr ++ u)) = neg := by
  rcases hs with ⟨rfl, rfl⟩ | ⟨rfl, rfl⟩
  ·refine ⟨?_, ?_⟩
   ·show (if nv c = 43 ∨ nv c = 45 then 1 else 0) = 0
    rw [if_neg (by omega)]
   ·show decide (nv c = 45) = false
    exact decide_eq_false (by omega)
  ·exact ⟨rfl, rfl⟩
 obtain ⟨h1, h2⟩ := hsign
 have hrest : ∀ x, (pointP fr ++ u).head? = some x -> digI (nv x) = false := by
  intro x hx
  unfold pointP at hx
  split at hx
  ·exact (hu x (by simpa using hx)).1
  ·obtain rfl : (46 : UInt8) = x := by simpa using hx
   exact not_dig46
 have d1 : (s ++ (c :: W' ++ pointP fr ++ u)).drop s.length = (c :: W') ++ (pointP fr ++ u) := by
  rw [List.drop_left, List.append_assoc]
 have h3 := digits_app (c :: W') (pointP fr ++ u) hW hrest
 have d2 : (s ++ (c :: W' ++ pointP fr ++ u)).drop (s.length + (c :: W').length) = pointP fr ++ u := by
  rw [<- List.drop_drop, d1, List.drop_left]
 have h4 : behindP (pointP fr ++ u) = fr.length := by
  unfold pointP
  split
  ·rename_i h
   subst h
   cases u with
   | nil => rfl
   | cons x r =>
    show (if nv x = 46 then digitsP r else 0) = 0
    rw [if_neg (hu x rfl).2]
  ·show (if nv (46 : UInt8) = 46 then digitsP (fr ++ u) else 0) = fr.length
   rw [if_pos (by decide)]
   exact digits_app fr u hF (fun x hx => (hu x hx).1)
 have d3 : ((s ++ (c :: W' ++ pointP fr ++ u)).drop (s.length + (c :: W').length + 1)).take fr.length = fr := by
  rw [<- List.drop_drop, d2]
  unfold pointP
  split
  ·rename_i h
   subst h
   rfl
  ·simp
 have hsum : sumP (s ++ (c :: W' ++ pointP fr ++ u)) s.length (c :: W').length fr.length = (m : Int) := by
  unfold sumP
  rw [d1, List.take_left, d3]
  exact hS
 have hlen : (pointP fr).length = if fr.length = 0 then 0 else 1 + fr.length := by
  unfold pointP
  cases fr with
  | nil => rfl
  | cons x r => simp; omega
 unfold numberP
 rw [h1, h2, d1, h3, d2, h4]
 unfold numAt
 rw [if_neg (by simp), hsum]
 simp only [List.length_append, hlen]
 rw [Nat.add_assoc]
end dim
namespace dim
open Go.RowKit base tok
theorem unit_names {u : Bs} (h : u ∈ unitsL) : u = [] ∨ u = [37] ∨ (Lib.hasPrefix u [37] = false /\ beginsP u = true /\ nameP u = (u, u.length) /\ u.map lowB = u) := by
 simp only [unitsL, List.mem_cons, List.not_mem_nil, or_false] at h
 rcases h with rfl | rfl | rfl | rfl | rfl | rfl | rfl
 ·exact .inl rfl
 ·exact .inr (.inr ⟨by decide, by decide, by rw [nameP, if_neg (by decide), if_pos (by decide), nameP, if_pos (by decide)]; rfl, by decide⟩)
 ·exact .inr (.inr ⟨by decide, by decide, by rw [nameP, if_neg (by decide), if_pos (by decide), nameP, if_pos (by decide)]; rfl, by decide⟩)
 ·exact .inr (.inr ⟨by decide, by decide, by rw [nameP, if_neg (by decide), if_pos (by decide), nameP, if_neg (by decide), if_pos (by decide), nameP, if_pos (by decide)]; rfl, by decide⟩)
 ·exact .inr (.inr ⟨by decide, by decide, by rw [nameP, if_neg (by decide), if_pos (by decide), nameP, if_pos (by decide)]; rfl, by decide⟩)
 ·exact .inr (.inr ⟨by decide, by decide, by rw [nameP, if_neg (by decide), if_pos (by decide), nameP, if_pos (by decide)]; rfl, by decide⟩)
 ·exact .inr (.inl rfl)
theorem unit_head {u : Bs} (h : u ∈ unitsL) : ∀ c, u.head? = some c -> digI (nv c) = false /\ ¬ nv c = 46 := by
 simp only [unitsL, List.mem_cons, List.not_mem_nil, or_false] at h
 intro c hc
 rcases h with rfl | rfl | rfl | rfl | rfl | rfl | rfl <;> simp at hc <;> subst hc <;> exact ⟨by decide, by decide⟩
theorem space_head {l : Bs} {c : UInt8} (h : l.head? = some c) (hc : 33 <= nv c) : spaceP l = 0 := by
 cases l with
 | nil => cases h
 | cons a r =>
  obtain rfl : a = c := by simpa using h
  have hb : blankB a = false := by
   cases hb : blankB a
   ·rfl
   ·exfalso
    simp only [blankB, List.contains_eq_mem, List.mem_cons, List.not_mem_nil, or_false, decide_eq_true_eq] at hb
    rcases hb with rfl | rfl | rfl | rfl | rfl <;> revert hc <;> decide
  unfold spaceP
  rw [List.takeWhile_cons_of_neg (by simp [hb])]
  rfl
theorem prefix_head {l : Bs} {c : UInt8} (h : l.head? = some c) (hc : ¬ nv c = 47) : Lib.hasPrefix l [47, 42] = false := by
 cases l with
 | nil => cases h
 | cons a r =>
  obtain rfl : a = c := by simpa using h
  have ha : ((47 : UInt8) == a) = false := by
   rw [beq_eq_false_iff_ne]
   rintro rfl
   exact hc rfl
  unfold Lib.hasPrefix
  rw [List.isPrefixOf_cons_cons, ha]
  rfl
theorem text_cut (s u : Bs) (m : Nat) (hm : m <= 1000000000) (neg : Bool) (hu : u ∈ unitsL) (hs : (s = [] /\ neg = false) ∨ (s = [45] /\ neg = true)) :
  cutP (s ++ (plainP m ++ u)) = [⟨7, s ++ (plainP m ++ u), u, if neg then -(m : Int) else (m : Int)⟩] := by
 have hnum := number_at s u m hm neg (unit_head hu) hs
 obtain ⟨c, W, hW⟩ := List.exists_cons_of_ne_nil (dec_ne (m / 1000))
 have hcd := dec_digs (m / 1000) c (by rw [hW]; simp)
 simp [digI] at hcd
 have hhead : ∃ x, (s ++ (plainP m ++ u)).head? = some x /\ (nv x = 45 ∨ (48 <= nv x /\ nv x <= 57)) := by
  rcases hs with ⟨rfl, -⟩ | ⟨rfl, -⟩
  ·refine ⟨c, ?_, .inr hcd⟩
   unfold plainP
   rw [hW]
   rfl
  ·exact ⟨45, rfl, .inl rfl⟩
 have hpos : 0 < (plainP m).length := by
  unfold plainP
  rw [hW]
  simp
 obtain ⟨x, hx, hxr⟩ := hhead
 have hdrop : (s ++ (plainP m ++ u)).drop (s.length + (plainP m).length) = u := by
  rw [<- List.append_assoc, <- List.length_append, List.drop_left]
 have hlen : (s ++ (plainP m ++ u)).length = s.length + (plainP m).length + u.length := by
  simp only [List.length_append]
  omega
 generalize hL : s ++ (plainP m ++ u) = l at *
 have hn0 : 0 < s.length + (plainP m).length := by omega
 generalize s.length + (plainP m).length = n at *
 have hne : l ≠ [] := by
  rintro rfl
  cases hx
 have hq : quoteP l = false := by
  cases hq : quoteP l
  ·rfl
  ·have := quote_head hx hq
   omega
 have hf : firstP l = ⟨7, l, u, if neg then -(m : Int) else (m : Int)⟩ := by
  have htk : 0 < n -> firstP l = numTkP l (if neg then -(m : Int) else (m : Int)) n := by
   intro h0
   rw [firstP, if_neg (by rw [space_head hx (by omega)]; omega), if_neg (by rw [prefix_head hx (by omega)]; decide), if_neg (by rw [hq]; decide), if_neg (by rw [hash_head hx (by omega)]; decide),
    if_neg (by rw [at_head hx (by omega)]; decide), hnum, if_pos h0]
  rw [htk hn0]
  unfold numTkP
  rw [hdrop]
  rcases unit_names hu with rfl | rfl | ⟨h1, h2, h3, h4⟩
  ·rw [if_neg (by decide), if_neg (by decide), List.take_of_length_le (by rw [hlen]; simp)]
  ·rw [if_pos (by decide), List.take_of_length_le (by rw [hlen]; simp)]
  ·rw [if_neg (by rw [h1]; decide), if_pos h2, h3]
   simp only
   rw [h4, List.take_of_length_le (by omega)]
 rw [cutP_cons hne, hf]
 simp [cutP_nil]
end dim
namespace dim
open Go.RowKit base tok
theorem grow_below (w : World) (k : Nat) (os : Array Obj) : Below w.heap.size w (Go.Sort.grow (w.drewN k) os) := by
 refine ⟨rfl, rfl, rfl, ?_, fun i hi => ?_⟩
 ·simp [Go.Sort.grow]
 ·simp only [Go.Sort.grow]
  rw [Array.getElem?_append_left (by simpa using hi)]
  rfl
def PowAt (w : World) : Prop := 2 < w.heap.size /\ Lib.TabIs Tryz.prog w "internal/strconv.uint64pow10" .u64 Lib.pow10Tab
theorem PowAt.on {w w' : World} (h : PowAt w) (hb : Below w.heap.size w w') : PowAt w' := by
 refine ⟨Nat.lt_of_lt_of_le h.1 hb.size, ?_⟩
 have hg : Tryz.prog.globalNamed "internal/strconv.uint64pow10" = some 2 := by kernel_rfl
 have h2 := h.2
 unfold Lib.TabIs World.var? at h2 ⊢
 rw [hg] at h2 ⊢
 simp only [Option.bind_some] at h2 ⊢
 rw [hb.block _ h.1]
 exact h2
theorem itoa_ct (n : Int) (h0 : -9223372036854775808 <= n) (h1 : n <= 9223372036854775807) (w : World) (hT : PowAt w) :
  Calls Tryz.prog 50 #[.int .i64 n] w (rt w (.string (bs (Lib.itoa n)))) :=
 (Tryz.strconv_Itoa n h0 h1 w hT.2).mono fun e w' ⟨he, k, os, hw⟩ => ⟨he, by rw [hw]; exact grow_below w k os⟩
theorem trimR_ct (s : ByteArray) (w : World) (hs : s.size <= 9223372036854775807) :
  Calls Tryz.prog 51 #[.string s, .string ⟨#[48]⟩] w fun e w' => e = .returned (.string (bs (Lib.trimRightB s.data.toList 48))) /\ w' = w :=
 Tryz.strings_TrimRight_one s 48 (by decide) w hs
end dim
namespace dim
open Go.RowKit base tok
theorem three_len (r : Nat) : (bs (Lib.decDigits (1000 + r % 1000))).size = 4 := by
 rw [dec_three (by omega)]
 rfl
theorem three_drop (r : Nat) : Lib.trimRightB ((bs (Lib.decDigits (1000 + r % 1000))).extract 1 4).data.toList 48 = fracP (r % 1000) := by
 rw [dec_three (by omega)]
 rfl
theorem dec_len (u : Nat) (h : u <= 1000000000) : (Lib.decDigits u).length <= 10 := by
 have key : ∀ (k u : Nat), u < 10 ^ (k + 1) -> (Lib.decDigits u).length <= k + 1 := by
  intro k
  induction k with
  | zero =>
   intro u hu
   rw [Lib.decDigits_one (by omega)]
   simp
  | succ k ih =>
   intro u hu
   by_cases h10 : u < 10
   ·rw [Lib.decDigits_one h10]; simp
   ·rw [dec_step h10, List.length_append]
    have := ih (u / 10) (by rw [Nat.pow_succ] at hu; omega)
    simp
    omega
 exact key 9 u (by omega)
theorem frac_len {r : Nat} (h : r < 1000) : (fracP r).length <= 3 := by
 unfold fracP Lib.trimRightB
 rw [List.length_reverse]
 exact (List.dropWhile_suffix _).length_le
theorem text_plain (m : Nat) (hm : m <= 1000000000) (u : Bs) (hu : u.length <= 3) (w : World) (hT : PowAt w) :
  Calls Tryz.prog 29 #[.agg #[.int .i64 m, .string (bs u)]] w (rt w (.string (bs (plainP m ++ u)))) := by
 have q1 : (m : Int).tdiv 1000 = (m : Int) / 1000 := by rw [Int.tdiv_eq_ediv_of_nonneg (by omega)]
 have q2 : (m : Int).tmod 1000 = (m : Int) % 1000 := by rw [Int.tmod_eq_emod_of_nonneg (by omega)]
 have hl := three_len m
 have hd := three_drop m
 have hW := dec_len (m / 1000) (by omega)
 have hF := frac_len (r := m % 1000) (by omega)
 have cI1 : ∀ w, PowAt w -> Calls Tryz.prog 50 #[.int .i64 ((m : Int) / 1000)] w (rt w (.string (bs (Lib.decDigits (m / 1000))))) := fun w h => by
  rw [show (m : Int) / 1000 = ((m / 1000 : Nat) : Int) from by omega]
  have := itoa_ct ((m / 1000 : Nat) : Int) (by omega) (by omega) w h
  rwa [show Lib.itoa ((m / 1000 : Nat) : Int) = Lib.decDigits (m / 1000) from by unfold Lib.itoa; rw [if_neg (by omega)]; rfl] at this
 have cI2 : ∀ w, PowAt w -> Calls Tryz.prog 50 #[.int .i64 (1000 + (m : Int) % 1000)] w (rt w (.string (bs (Lib.decDigits (1000 + m % 1000))))) := fun w h => by
  rw [show (m : Int) % 1000 = ((m % 1000 : Nat) : Int) from by omega]
  have := itoa_ct (1000 + ((m % 1000 : Nat) : Int)) (by omega) (by omega) w h
  rwa [show Lib.itoa (1000 + ((m % 1000 : Nat) : Int)) = Lib.decDigits (1000 + m % 1000) from by unfold Lib.itoa; rw [if_neg (by omega)]; congr 1] at this
 have cR : ∀ w, Calls Tryz.prog 51 #[.string ((bs (Lib.decDigits (1000 + m % 1000))).extract 1 4), .string ⟨#[48]⟩] w fun e w' => e = .returned (.string (bs (fracP (m % 1000)))) /\ w' = w := fun w => by
  have := trimR_ct ((bs (Lib.decDigits (1000 + m % 1000))).extract 1 4) w (by simp only [ByteArray.size_extract]; omega)
  rwa [hd] at this
 have m1 : max (m : Int) (-1000000000) = m := by omega
 have m2 : min (m : Int) 1000000000 = m := by omega
 have lt : decide ((m : Int) < 0) = false := decide_eq_false (by omega)
 have r1 := IntWalk.i64_in ((m : Int) / 1000) (by omega)
 have r2 := IntWalk.i64_in ((m : Int) % 1000) (by omega)
 have r3 := IntWalk.i64_in (1000 + (m : Int) % 1000) (by omega)
 have hZ : ByteArray.empty ++ bs (Lib.decDigits (m / 1000)) = bs (Lib.decDigits (m / 1000)) := by simp [bs]
 replace cI1 := hid cI1
 replace cI2 := hid cI2
 replace cR := hid cR
 replace hd := hid hd
 have hP : plainP m = Lib.decDigits (m / 1000) ++ pointP (fracP (m % 1000)) := rfl
 rw [hP]
 clear hP
 generalize hWd : Lib.decDigits (m / 1000) = Wd at *
 generalize hDd : Lib.decDigits (1000 + m % 1000) = D at *
 generalize hFd : fracP (m % 1000) = fr at *
 replace hWd := hid hWd
 replace hDd := hid hDd
 replace hFd := hid hFd
 have y1 : (bs Wd).size = Wd.length := rfl
 have y2 : (bs fr).size = fr.length := rfl
 have y3 : (bs u).size = u.length := rfl
 have z1 : ¬ 9223372036854775807 < 1 + (bs fr).size := by omega
 have z2 : ¬ 9223372036854775807 < (bs Wd).size + (1 + (bs fr).size) := by omega
 have z3 : ¬ 9223372036854775807 < (bs Wd).size + (1 + (bs fr).size) + (bs u).size := by omega
 have z4 : ¬ 9223372036854775807 < (bs Wd).size + (bs u).size := by omega
 have z5 : ¬ 9223372036854775807 < (bs Wd).size := by omega
 clear y1 y2 y3
 by_cases hfr : fr = []
 ·have t1 : (bs fr).toList = [] := by rw [bs_toList, hfr]
  have hend := hid (show (⟨#[]⟩ : ByteArray) ++ bs Wd ++ bs u = bs (Wd ++ pointP fr ++ u) by unfold pointP; rw [if_pos hfr]; exact ByteArray.ext (by simp [bs, ByteArray.data_append]))
  clear hfr
  go_enter Tryz.func29, Tryz.ntmps29
  go_wp2_with (first
   | (go_at_call 50; (with_reducible refine (cI1.out _ (hT.on (ba w _))).mono ?_); rintro e W1 ⟨rfl, hb1⟩; have HB1 := hid ((ba w _).trans (hb1.mono (by simp))); have hblk := (Blk.new (w := w) (t := 47) (cs := #[.int .i64 m, .string (bs u)]) rfl).below hb1 (by simp); replace hblk := hid hblk; clear hb1)
   | (go_at_call 50; (with_reducible refine (cI2.out _ (hT.on HB1.out)).mono ?_); rintro e W2 ⟨rfl, hb2⟩; have HB2 := hid (tb HB1 hb2); have hblk2 := hblk.out.below hb2 hblk.out.lt; have p2 := hblk2.cell; clear hb2)
   | (go_at_call 51; (with_reducible refine (cR.out _).mono ?_); rintro e W3 ⟨rfl, rfl⟩))
  go_ret
  exact ⟨by rw [<- hend.out]; rfl, HB2.out⟩
 ·have t1 : (bs fr).toList.isEmpty = false := by rw [bs_toList]; simpa using hfr
  have hend := hid (show (⟨#[]⟩ : ByteArray) ++ bs Wd ++ (⟨#[46]⟩ ++ bs fr) ++ bs u = bs (Wd ++ pointP fr ++ u) by unfold pointP; rw [if_neg hfr]; exact ByteArray.ext (by simp [bs, ByteArray.data_append]))
  clear hfr
  go_enter Tryz.func29, Tryz.ntmps29
  go_wp2_with (first
   | (go_at_call 50; (with_reducible refine (cI1.out _ (hT.on (ba w _))).mono ?_); rintro e W1 ⟨rfl, hb1⟩; have HB1 := hid ((ba w _).trans (hb1.mono (by simp))); have hblk := (Blk.new (w := w) (t := 47) (cs := #[.int .i64 m, .string (bs u)]) rfl).below hb1 (by simp); replace hblk := hid hblk; clear hb1)
   | (go_at_call 50; (with_reducible refine (cI2.out _ (hT.on HB1.out)).mono ?_); rintro e W2 ⟨rfl, hb2⟩; have HB2 := hid (tb HB1 hb2); have hblk2 := hblk.out.below hb2 hblk.out.lt; have p2 := hblk2.cell; clear hb2)
   | (go_at_call 51; (with_reducible refine (cR.out _).mono ?_); rintro e W3 ⟨rfl, rfl⟩))
  go_ret
  exact ⟨by rw [<- hend.out]; rfl, HB2.out⟩
end dim
namespace dim
open Go.RowKit base tok
theorem text_minus (m : Nat) (hm : m <= 1000000000) (h0 : 1 <= m) (u : Bs) (hu : u.length <= 3) (w : World) (hT : PowAt w) :
  Calls Tryz.prog 29 #[.agg #[.int .i64 (-(m : Int)), .string (bs u)]] w (rt w (.string (bs ([45] ++ (plainP m ++ u))))) := by
 have q1 : (m : Int).tdiv 1000 = (m : Int) / 1000 := by rw [Int.tdiv_eq_ediv_of_nonneg (by omega)]
 have q2 : (m : Int).tmod 1000 = (m : Int) % 1000 := by rw [Int.tmod_eq_emod_of_nonneg (by omega)]
 have hl := three_len m
 have hd := three_drop m
 have hW := dec_len (m / 1000) (by omega)
 have hF := frac_len (r := m % 1000) (by omega)
 have cI1 : ∀ w, PowAt w -> Calls Tryz.prog 50 #[.int .i64 ((m : Int) / 1000)] w (rt w (.string (bs (Lib.decDigits (m / 1000))))) := fun w h => by
  rw [show (m : Int) / 1000 = ((m / 1000 : Nat) : Int) from by omega]
  have := itoa_ct ((m / 1000 : Nat) : Int) (by omega) (by omega) w h
  rwa [show Lib.itoa ((m / 1000 : Nat) : Int) = Lib.decDigits (m / 1000) from by unfold Lib.itoa; rw [if_neg (by omega)]; rfl] at this
 have cI2 : ∀ w, PowAt w -> Calls Tryz.prog 50 #[.int .i64 (1000 + (m : Int) % 1000)] w (rt w (.string (bs (Lib.decDigits (1000 + m % 1000))))) := fun w h => by
  rw [show (m : Int) % 1000 = ((m % 1000 : Nat) : Int) from by omega]
  have := itoa_ct (1000 + ((m % 1000 : Nat) : Int)) (by omega) (by omega) w h
  rwa [show Lib.itoa (1000 + ((m % 1000 : Nat) : Int)) = Lib.decDigits (1000 + m % 1000) from by unfold Lib.itoa; rw [if_neg (by omega)]; congr 1] at this
 have cR : ∀ w, Calls Tryz.prog 51 #[.string ((bs (Lib.decDigits (1000 + m % 1000))).extract 1 4), .string ⟨#[48]⟩] w fun e w' => e = .returned (.string (bs (fracP (m % 1000)))) /\ w' = w := fun w => by
  have := trimR_ct ((bs (Lib.decDigits (1000 + m % 1000))).extract 1 4) w (by simp only [ByteArray.size_extract]; omega)
  rwa [hd] at this
 have m1 : max (-(m : Int)) (-1000000000) = -m := by omega
 have m2 : min (-(m : Int)) 1000000000 = -m := by omega
 have m3 : IntKind.i64.wrap (- -(m : Int)) = m := by rw [Int.neg_neg]; exact IntWalk.i64_in _ (by omega)
 have lt : decide (-(m : Int) < 0) = true := decide_eq_true (by omega)
 have r1 := IntWalk.i64_in ((m : Int) / 1000) (by omega)
 have r2 := IntWalk.i64_in ((m : Int) % 1000) (by omega)
 have r3 := IntWalk.i64_in (1000 + (m : Int) % 1000) (by omega)
 have hZ : ByteArray.empty ++ bs (Lib.decDigits (m / 1000)) = bs (Lib.decDigits (m / 1000)) := by simp [bs]
 replace cI1 := hid cI1
 replace cI2 := hid cI2
 replace cR := hid cR
 replace hd := hid hd
 have hP : plainP m = Lib.decDigits (m / 1000) ++ pointP (fracP (m % 1000)) := rfl
 rw [hP]
 clear hP
 generalize hWd : Lib.decDigits (m / 1000) = Wd at *
 generalize hDd : Lib.decDigits (1000 + m % 1000) = D at *
 generalize hFd : fracP (m % 1000) = fr at *
 replace hWd := hid hWd
 replace hDd := hid hDd
 replace hFd := hid hFd
 have y1 : (bs Wd).size = Wd.length := rfl
 have y2 : (bs fr).size = fr.length := rfl
 have y3 : (bs u).size = u.length := rfl
 have z1 : ¬ 9223372036854775807 < 1 + (bs fr).size := by omega
 have z2 : ¬ 9223372036854775807 < 1 + (bs Wd).size + (1 + (bs fr).size) := by omega
 have z3 : ¬ 9223372036854775807 < 1 + (bs Wd).size + (1 + (bs fr).size) + (bs u).size := by omega
 have z4 : ¬ 9223372036854775807 < 1 + (bs Wd).size + (bs u).size := by omega
 have z5 : ¬ 9223372036854775807 < 1 + (bs Wd).size := by omega
 clear y1 y2 y3
 by_cases hfr : fr = []
 ·have t1 : (bs fr).toList = [] := by rw [bs_toList, hfr]
  have hend := hid (show (⟨#[45]⟩ : ByteArray) ++ bs Wd ++ bs u = bs (45 :: (Wd ++ pointP fr ++ u)) by unfold pointP; rw [if_pos hfr]; exact ByteArray.ext (by simp [bs, ByteArray.data_append]))
  clear hfr
  go_enter Tryz.func29, Tryz.ntmps29
  go_wp2_with (first
   | (go_at_call 50; (with_reducible refine (cI1.out _ (hT.on (ba w _))).mono ?_); rintro e W1 ⟨rfl, hb1⟩; have HB1 := hid ((ba w _).trans (hb1.mono (by simp))); have hblk := (Blk.new (w := w) (t := 47) (cs := #[.int .i64 (-(m : Int)), .string (bs u)]) rfl).below hb1 (by simp); replace hblk := hid hblk; clear hb1)
   | (go_at_call 50; (with_reducible refine (cI2.out _ (hT.on HB1.out)).mono ?_); rintro e W2 ⟨rfl, hb2⟩; have HB2 := hid (tb HB1 hb2); have hblk2 := hblk.out.below hb2 hblk.out.lt; have p2 := hblk2.cell; clear hb2)
   | (go_at_call 51; (with_reducible refine (cR.out _).mono ?_); rintro e W3 ⟨rfl, rfl⟩))
  go_ret
  exact ⟨by rw [<- hend.out]; rfl, HB2.out⟩
 ·have t1 : (bs fr).toList.isEmpty = false := by rw [bs_toList]; simpa using hfr
  have hend := hid (show (⟨#[45]⟩ : ByteArray) ++ bs Wd ++ (⟨#[46]⟩ ++ bs fr) ++ bs u = bs (45 :: (Wd ++ pointP fr ++ u)) by unfold pointP; rw [if_neg hfr]; exact ByteArray.ext (by simp [bs, ByteArray.data_append]))
  clear hfr
  go_enter Tryz.func29, Tryz.ntmps29
  go_wp2_with (first
   | (go_at_call 50; (with_reducible refine (cI1.out _ (hT.on (ba w _))).mono ?_); rintro e W1 ⟨rfl, hb1⟩; have HB1 := hid ((ba w _).trans (hb1.mono (by simp))); have hblk := (Blk.new (w := w) (t := 47) (cs := #[.int .i64 (-(m : Int)), .string (bs u)]) rfl).below hb1 (by simp); replace hblk := hid hblk; clear hb1)
   | (go_at_call 50; (with_reducible refine (cI2.out _ (hT.on HB1.out)).mono ?_); rintro e W2 ⟨rfl, hb2⟩; have HB2 := hid (tb HB1 hb2); have hblk2 := hblk.out.below hb2 hblk.out.lt; have p2 := hblk2.cell; clear hb2)
   | (go_at_call 51; (with_reducible refine (cR.out _).mono ?_); rintro e W3 ⟨rfl, rfl⟩))
  go_ret
  exact ⟨by rw [<- hend.out]; rfl, HB2.out⟩
end dim
end Go.Proofs.YtlfkkaofgcongaaGreatDoor
