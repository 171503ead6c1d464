/- WeightAdds: for every two texts the call returns true, and all that was there reads as before. The package-level variables that its row lists start as the program's text lays them (the card ties them). -/
import Derived.Lib.Hide
import Derived.Test.YtaobpkffcolobaaGreatDoorBW
import Derived.Test.YtaobpkffcolobaaGreatDoorBI
import Derived.Test.YtaobpkffcolobaaGreatDoorBJ
import Derived.Test.YtaobpkffcolobaaGreatDoorTie
import Derived.Test.YtaobpkffcolobaaGreatDoorCards
set_option linter.unusedVariables false
set_option maxRecDepth 100000
set_option maxHeartbeats 16000000
open Go.Lib (hid)
namespace Go.Proofs.YtaobpkffcolobaaGreatDoor
namespace sel.adds
open Go.RowKit base tok dim rul sel
def RdS (s : Bs) (x : Int) (m : Nat) (wt : Int) : Prop := ∀ w, SEnv w -> Calls Tryz.prog 9 #[.string (bs s)] w fun e w' => (∃ A cap, e = .returned (.tuple #[.slice A m cap, .int .i64 x])) /\ Below w.heap.size w w'
def OfS (s : Bs) (wt x : Int) : Prop := ∀ w, SEnv w -> Calls Tryz.prog 14 #[.string (bs s)] w (rt w (.tuple #[.int .i64 wt, .int .i64 x]))
def PlS (s t : Bs) (b : Bool) : Prop := ∀ w, SEnv w -> PowAt w -> Calls Tryz.prog 15 #[.string (bs s)] w (rt w (.tuple #[.string (bs t), .bool b]))
theorem rs_any (s : Bs) : ∃ x m wt, RdS s x m wt /\ OfS s wt x /\ ((x ≠ 0) ∨ ∃ l, readS 2404 s = some l /\ l.length = m /\ wt = wtL l /\ x = 0) := by
 have h1 := sread_any s 2404 (Nat.le_refl _)
 have h2 := fun w hE => of_ct s 2404 (Nat.le_refl _) w hE
 cases hr : readS 2404 s with
 | none =>
  rw [hr] at h1
  simp only [hr] at h2
  refine ⟨badN s, 0, 0, fun w hE => (h1 w hE).mono fun e w' ⟨h, hb⟩ => ⟨⟨none, 0, h⟩, hb⟩, h2, .inl (badN_ne s)⟩
 | some l =>
  rw [hr] at h1
  simp only [hr] at h2
  exact ⟨0, l.length, wtL l, fun w hE => (h1 w hE).mono fun e w' ⟨⟨A, cap, h, _⟩, hb⟩ => ⟨⟨A, cap, h⟩, hb⟩, h2, .inr ⟨l, rfl, rfl, rfl, rfl⟩⟩
theorem adds_no (s t : Bs) (x y : Int) (m n : Nat) (wa wb : Int) (hr : RdS s x m wa) (ho : OfS s wa x) (hr2 : RdS t y n wb) (ho2 : OfS t wb y) (hno : x ≠ 0 ∨ (x = 0 /\ y ≠ 0) ∨ (x = 0 /\ y = 0 /\ m ≠ 1) ∨ (x = 0 /\ y = 0 /\ m = 1 /\ n ≠ 1)) (w : World) (hE : SEnv w) :
  Calls Tryz.prog 7 #[.string (bs s), .string (bs t)] w (rt w (.bool true)) := by
 have cL := hid (fun w hE => listed_ct w hE)
 unfold RdS at hr hr2
 unfold OfS at ho ho2
 have cR := hid hr
 have cO := hid ho
 have cR2 := hid hr2
 have cO2 := hid ho2
 have HE := hid hE
 have xx : (x == x) = true := by simp
 have yy : (y == y) = true := by simp
 have xx2 : (x != x) = false := by simp
 have yy2 : (y != y) = false := by simp
 clear hr ho hr2 ho2 hE
 have hcase : (((x == 0) = false /\ (x != 0) = true) ∨ ((x == 0) = true /\ (x != 0) = false /\ (y == 0) = false /\ (y != 0) = true) ∨ ((x == 0) = true /\ (x != 0) = false /\ (y == 0) = true /\ (y != 0) = false /\ ((m : Int) == 1) = false /\ ((m : Int) != 1) = true) ∨ ((x == 0) = true /\ (x != 0) = false /\ (y == 0) = true /\ (y != 0) = false /\ ((m : Int) == 1) = true /\ ((m : Int) != 1) = false /\ ((n : Int) == 1) = false /\ ((n : Int) != 1) = true)) := by
  rcases hno with h | ⟨h, h2⟩ | ⟨h, h2, h3⟩ | ⟨h, h2, h3, h4⟩
  ·exact .inl ⟨by simpa using h, by simpa using h⟩
  ·exact .inr (.inl ⟨by simpa using h, by simpa using h, by simpa using h2, by simpa using h2⟩)
  ·refine .inr (.inr (.inl ⟨by simpa using h, by simpa using h, by simpa using h2, by simpa using h2, ?_, ?_⟩))
   ·rw [beq_eq_false_iff_ne]; omega
   ·rw [bne_iff_ne]; omega
  ·refine .inr (.inr (.inr ⟨by simpa using h, by simpa using h, by simpa using h2, by simpa using h2, ?_, ?_, ?_, ?_⟩))
   ·rw [beq_iff_eq]; omega
   ·rw [bne_eq_false_iff_eq]; omega
   ·rw [beq_eq_false_iff_ne]; omega
   ·rw [bne_iff_ne]; omega
 clear hno
 rcases hcase with ⟨f0, f1⟩ | ⟨f0, f1, f2, f3⟩ | ⟨f0, f1, f2, f3, f4, f5⟩ | ⟨f0, f1, f2, f3, f4, f5, f6, f7⟩
 all_goals
  go_enter Tryz.func7, Tryz.ntmps7
  go_wp2_with (first
   | (go_at_call 8; (with_reducible refine (cL.out _ HE.out).mono ?_); rintro e W1 ⟨rfl, hb1⟩; have HB1 := hid hb1; clear hb1)
   | (go_at_call 14; (with_reducible refine (cO.out _ (HE.out.on HB1.out)).mono ?_); rintro e W2 ⟨rfl, hb2⟩; have HB2 := hid (HB1.out.trans (hb2.mono HB1.out.size)); replace cO := hid trivial; clear hb2)
   | (go_at_call 14; (with_reducible refine (cO2.out _ (HE.out.on HB2.out)).mono ?_); rintro e W3 ⟨rfl, hb3⟩; have HB3 := hid (HB2.out.trans (hb3.mono HB2.out.size)); clear hb3)
   | (go_at_call 9; (with_reducible refine (cR.out _ (HE.out.on HB3.out)).mono ?_); rintro e W4 ⟨⟨A4, cap4, rfl⟩, hb4⟩; have HB4 := hid (HB3.out.trans (hb4.mono HB3.out.size)); replace cR := hid trivial; clear hb4)
   | (go_at_call 9; (with_reducible refine (cR2.out _ (HE.out.on HB4.out)).mono ?_); rintro e W5 ⟨⟨A5, cap5, rfl⟩, hb5⟩; have HB5 := hid (HB4.out.trans (hb5.mono HB4.out.size)); clear hb5))
  go_ret
  exact ⟨rfl, HB5.out⟩
theorem adds_long (s t : Bs) (wa wb : Int) (hr : RdS s 0 1 wa) (ho : OfS s wa 0) (hr2 : RdS t 0 1 wb) (ho2 : OfS t wb 0) (S T : Bs) (a b : Bool) (hp : PlS s S a) (hp2 : PlS t T b) (hab : a = false ∨ (a = true /\ b = false)) (w : World) (hE : SEnv w) (hT : PowAt w) :
  Calls Tryz.prog 7 #[.string (bs s), .string (bs t)] w (rt w (.bool true)) := by
 have cL := hid (fun w hE => listed_ct w hE)
 unfold RdS at hr hr2
 unfold OfS at ho ho2
 unfold PlS at hp hp2
 have cR := hid hr
 have cO := hid ho
 have cR2 := hid hr2
 have cO2 := hid ho2
 have cP := hid hp
 have cP2 := hid hp2
 have HE := hid hE
 have HT := hid hT
 clear hr ho hr2 ho2 hE hT hp hp2
 rcases hab with rfl | ⟨rfl, rfl⟩
 all_goals
  go_enter Tryz.func7, Tryz.ntmps7
  go_wp2_with (first
   | (go_at_call 8; (with_reducible refine (cL.out _ HE.out).mono ?_); rintro e W1 ⟨rfl, hb1⟩; have HB1 := hid hb1; clear hb1)
   | (go_at_call 14; (with_reducible refine (cO.out _ (HE.out.on HB1.out)).mono ?_); rintro e W2 ⟨rfl, hb2⟩; have HB2 := hid (HB1.out.trans (hb2.mono HB1.out.size)); replace cO := hid trivial; clear hb2)
   | (go_at_call 14; (with_reducible refine (cO2.out _ (HE.out.on HB2.out)).mono ?_); rintro e W3 ⟨rfl, hb3⟩; have HB3 := hid (HB2.out.trans (hb3.mono HB2.out.size)); clear hb3)
   | (go_at_call 9; (with_reducible refine (cR.out _ (HE.out.on HB3.out)).mono ?_); rintro e W4 ⟨⟨A4, cap4, rfl⟩, hb4⟩; have HB4 := hid (HB3.out.trans (hb4.mono HB3.out.size)); replace cR := hid trivial; clear hb4)
   | (go_at_call 9; (with_reducible refine (cR2.out _ (HE.out.on HB4.out)).mono ?_); rintro e W5 ⟨⟨A5, cap5, rfl⟩, hb5⟩; have HB5 := hid (HB4.out.trans (hb5.mono HB4.out.size)); clear hb5)
   | (go_at_call 15; (with_reducible refine (cP.out _ (HE.out.on HB5.out) (HT.out.on HB5.out)).mono ?_); rintro e W6 ⟨rfl, hb6⟩; have HB6 := hid (HB5.out.trans (hb6.mono HB5.out.size)); replace cP := hid trivial; clear hb6)
   | (go_at_call 15; (with_reducible refine (cP2.out _ (HE.out.on HB6.out) (HT.out.on HB6.out)).mono ?_); rintro e W7 ⟨rfl, hb7⟩; have HB7 := hid (HB6.out.trans (hb7.mono HB6.out.size)); clear hb7))
  go_ret
  exact ⟨rfl, HB7.out⟩
theorem adds_yes (s t : Bs) (wa wb : Int) (hr : RdS s 0 1 wa) (ho : OfS s wa 0) (hr2 : RdS t 0 1 wb) (ho2 : OfS t wb 0) (S T : Bs) (hp : PlS s S true) (hp2 : PlS t T true) (hS : S.length <= 400) (hT4 : T.length <= 400) (hwa : 0 <= wa /\ wa <= 40000000) (hwb : 0 <= wb /\ wb <= 40000000)
  (c i x j y k : Int) (h1 : OfS (S ++ ([32, 62, 32] ++ T)) c i) (h2 : OfS ([58, 105, 115, 40] ++ S ++ [41]) x j) (h3 : OfS ([58, 110, 111, 116, 40] ++ (S ++ ([44, 32] ++ T)) ++ [41]) y k)
  (e1 : (i = 0 /\ c = wa + wb) ∨ i ≠ 0) (e2 : (j = 0 /\ x = wa) ∨ j ≠ 0) (e3 : (k = 0 /\ y = max wa wb) ∨ k ≠ 0) (w : World) (hE : SEnv w) (hT : PowAt w) :
  Calls Tryz.prog 7 #[.string (bs s), .string (bs t)] w (rt w (.bool true)) := by
 have cL := hid (fun w hE => listed_ct w hE)
 unfold RdS at hr hr2
 unfold OfS at ho ho2 h1 h2 h3
 unfold PlS at hp hp2
 have cR := hid hr
 have cO := hid ho
 have cR2 := hid hr2
 have cO2 := hid ho2
 have cP := hid hp
 have cP2 := hid hp2
 have k1 : (bs S ++ ⟨#[32, 62, 32]⟩ ++ bs T : ByteArray) = bs (S ++ ([32, 62, 32] ++ T)) := by
  apply ByteArray.ext; apply Array.ext'
  simp [bs, ByteArray.data_append]
 have k2 : (⟨#[58, 105, 115, 40]⟩ ++ bs S ++ ⟨#[41]⟩ : ByteArray) = bs ([58, 105, 115, 40] ++ S ++ [41]) := by
  apply ByteArray.ext; apply Array.ext'
  simp [bs, ByteArray.data_append]
 have k3 : (⟨#[58, 110, 111, 116, 40]⟩ ++ bs S ++ ⟨#[44, 32]⟩ ++ bs T ++ ⟨#[41]⟩ : ByteArray) = bs ([58, 110, 111, 116, 40] ++ (S ++ ([44, 32] ++ T)) ++ [41]) := by
  apply ByteArray.ext; apply Array.ext'
  simp [bs, ByteArray.data_append]
 generalize S ++ ([32, 62, 32] ++ T) = X1 at *
 generalize [58, 105, 115, 40] ++ S ++ [41] = X2 at *
 generalize [58, 110, 111, 116, 40] ++ (S ++ ([44, 32] ++ T)) ++ [41] = X3 at *
 have cX1 := hid h1
 have cX2 := hid h2
 have cX3 := hid h3
 have HE := hid hE
 have HT := hid hT
 have z1 : (bs S).size = S.length := rfl
 have z2 : (bs T).size = T.length := rfl
 have l1 : ¬ 9223372036854775807 < (bs S).size + 3 := by omega
 have l2 : ¬ 9223372036854775807 < (bs S).size + 3 + (bs T).size := by omega
 have l3 : ¬ 9223372036854775807 < 4 + (bs S).size := by omega
 have l4 : ¬ 9223372036854775807 < 4 + (bs S).size + 1 := by omega
 have l5 : ¬ 9223372036854775807 < 5 + (bs S).size := by omega
 have l6 : ¬ 9223372036854775807 < 5 + (bs S).size + 2 := by omega
 have l7 : ¬ 9223372036854775807 < 5 + (bs S).size + 2 + (bs T).size := by omega
 have l8 : ¬ 9223372036854775807 < 5 + (bs S).size + 2 + (bs T).size + 1 := by omega
 obtain ⟨wa0, wa1⟩ := hwa
 obtain ⟨wb0, wb1⟩ := hwb
 clear hr ho hr2 ho2 hE hT hp hp2 h1 h2 h3 hS hT4 z1 z2
 replace e1 : (i = 0 /\ c = wa + wb) ∨ ((i == 0) = false /\ (i != 0) = true) := by
  rcases e1 with h | h
  ·exact .inl h
  ·exact .inr ⟨by simpa using h, by simpa using h⟩
 replace e2 : (j = 0 /\ x = wa) ∨ ((j == 0) = false /\ (j != 0) = true) := by
  rcases e2 with h | h
  ·exact .inl h
  ·exact .inr ⟨by simpa using h, by simpa using h⟩
 replace e3 : (k = 0 /\ y = max wa wb) ∨ ((k == 0) = false /\ (k != 0) = true) := by
  rcases e3 with h | h
  ·exact .inl h
  ·exact .inr ⟨by simpa using h, by simpa using h⟩
 rcases e1 with ⟨rfl, rfl⟩ | ⟨f1, g1⟩ <;> rcases e2 with ⟨rfl, rfl⟩ | ⟨f2, g2⟩ <;> rcases e3 with ⟨rfl, rfl⟩ | ⟨f3, g3⟩
 all_goals
  go_enter Tryz.func7, Tryz.ntmps7
  go_wp2_with (first
   | (go_at_call 8; (with_reducible refine (cL.out _ HE.out).mono ?_); rintro e W1 ⟨rfl, hb1⟩; have HB1 := hid hb1; clear hb1)
   | (go_at_call 14; (with_reducible refine (cO.out _ (HE.out.on HB1.out)).mono ?_); rintro e W2 ⟨rfl, hb2⟩; have HB2 := hid (HB1.out.trans (hb2.mono HB1.out.size)); replace cO := hid trivial; clear hb2)
   | (go_at_call 14; (with_reducible refine (cO2.out _ (HE.out.on HB2.out)).mono ?_); rintro e W3 ⟨rfl, hb3⟩; have HB3 := hid (HB2.out.trans (hb3.mono HB2.out.size)); replace cO2 := hid trivial; clear hb3)
   | (go_at_call 9; (with_reducible refine (cR.out _ (HE.out.on HB3.out)).mono ?_); rintro e W4 ⟨⟨A4, cap4, rfl⟩, hb4⟩; have HB4 := hid (HB3.out.trans (hb4.mono HB3.out.size)); replace cR := hid trivial; clear hb4)
   | (go_at_call 9; (with_reducible refine (cR2.out _ (HE.out.on HB4.out)).mono ?_); rintro e W5 ⟨⟨A5, cap5, rfl⟩, hb5⟩; have HB5 := hid (HB4.out.trans (hb5.mono HB4.out.size)); clear hb5)
   | (go_at_call 15; (with_reducible refine (cP.out _ (HE.out.on HB5.out) (HT.out.on HB5.out)).mono ?_); rintro e W6 ⟨rfl, hb6⟩; have HB6 := hid (HB5.out.trans (hb6.mono HB5.out.size)); replace cP := hid trivial; clear hb6)
   | (go_at_call 15; (with_reducible refine (cP2.out _ (HE.out.on HB6.out) (HT.out.on HB6.out)).mono ?_); rintro e W7 ⟨rfl, hb7⟩; have HB7 := hid (HB6.out.trans (hb7.mono HB6.out.size)); clear hb7)
   | (go_at_call 14; (with_reducible refine (cX1.out _ (HE.out.on HB7.out)).mono ?_); rintro e W8 ⟨rfl, hb8⟩; have HB8 := hid (HB7.out.trans (hb8.mono HB7.out.size)); replace cX1 := hid trivial; clear hb8)
   | (go_at_call 14; (with_reducible refine (cX2.out _ (HE.out.on HB8.out)).mono ?_); rintro e W9 ⟨rfl, hb9⟩; have HB9 := hid (HB8.out.trans (hb9.mono HB8.out.size)); replace cX2 := hid trivial; clear hb9)
   | (go_at_call 14; (with_reducible refine (cX3.out _ (HE.out.on HB9.out)).mono ?_); rintro e W10 ⟨rfl, hb10⟩; have HB10 := hid (HB9.out.trans (hb10.mono HB9.out.size)); clear hb10))
  go_ret
  exact ⟨rfl, HB10.out⟩
theorem tn_zero {l : List Pa} (h : textN l = 0) : textT l = listTx l /\ (listTx l).length <= 400 := by
 unfold textN at h
 unfold textT
 by_cases hc : errC l = 0
 ·rw [if_pos hc] at h ⊢
  by_cases h4 : 400 < (listTx l).length
  ·rw [if_pos h4] at h; cases h
  ·rw [if_neg h4]
   exact ⟨rfl, by omega⟩
 ·rw [if_neg hc] at h; exact absurd h hc
theorem one_of {l : List Pa} (h : l.length = 1) : ∃ p, l = [p] := by
 match l, h with
 | [p], _ => exact ⟨p, rfl⟩
theorem law_ct (s t : ByteArray) (w : World) (_hs : s.size <= maxLen) (_ht : t.size <= maxLen) (hE : SEnv w) (hT : PowAt w) :
  Calls Tryz.prog 7 #[.string s, .string t] w (rt w (.bool true)) := by
 have es : s = bs s.data.toList := by cases s; simp [bs]
 have et : t = bs t.data.toList := by cases t; simp [bs]
 rw [es, et]
 generalize s.data.toList = s
 generalize t.data.toList = t
 obtain ⟨x, m, wa, hr, ho, hx⟩ := rs_any s
 obtain ⟨y, n, wb, hr2, ho2, hy⟩ := rs_any t
 by_cases hx0 : x ≠ 0
 ·exact adds_no s t x y m n wa wb hr ho hr2 ho2 (.inl hx0) w hE
 by_cases hy0 : y ≠ 0
 ·exact adds_no s t x y m n wa wb hr ho hr2 ho2 (.inr (.inl ⟨by omega, hy0⟩)) w hE
 by_cases hm : m ≠ 1
 ·exact adds_no s t x y m n wa wb hr ho hr2 ho2 (.inr (.inr (.inl ⟨by omega, by omega, hm⟩))) w hE
 by_cases hn : n ≠ 1
 ·exact adds_no s t x y m n wa wb hr ho hr2 ho2 (.inr (.inr (.inr ⟨by omega, by omega, by omega, hn⟩))) w hE
 obtain ⟨l, hl, hlm, rfl, rfl⟩ := hx.resolve_left hx0
 obtain ⟨q, hq, hqn, rfl, rfl⟩ := hy.resolve_left hy0
 obtain rfl : m = 1 := by omega
 obtain rfl : n = 1 := by omega
 have hp : PlS s (textT l) (decide (textN l = 0)) := fun w hE hT => plain_ct s 2404 (Nat.le_refl _) l hl w hE hT
 have hp2 : PlS t (textT q) (decide (textN q = 0)) := fun w hE hT => plain_ct t 2404 (Nat.le_refl _) q hq w hE hT
 by_cases h1 : textN l = 0
 ·by_cases h2 : textN q = 0
  ·obtain ⟨e1, b1⟩ := tn_zero h1
   obtain ⟨e2, b2⟩ := tn_zero h2
   rw [e1, decide_eq_true h1] at hp
   rw [e2, decide_eq_true h2] at hp2
   obtain ⟨ck1, -, -, c1⟩ := read_small hl
   obtain ⟨ck2, -, -, c2⟩ := read_small hq
   have o1 := (check_open ck1).2.2.2
   have o2 := (check_open ck2).2.2.2
   obtain ⟨p, rfl⟩ := one_of hlm
   obtain ⟨r, rfl⟩ := one_of hqn
   have wl := wt_L [p]
   have wr := wt_L [r]
   have op : okP p = true := by rw [okL] at o1; exact (and_t o1).1
   have or' : okP r = true := by rw [okL] at o2; exact (and_t o2).1
   obtain ⟨c, i, hc, hci⟩ := of_told (T := [joinPa 62 p r]) (by simp) (by rw [okL, join_ok (by decide) op or']; rfl)
   obtain ⟨x, j, hx', hxj⟩ := of_told (T := [nestPa 11 [p]]) (by simp) (nest_ok (.inr rfl) (by simp) o1)
   obtain ⟨y, k, hy', hyk⟩ := of_told (T := [nestPa 10 [p, r]]) (by simp) (nest_ok (.inl rfl) (by simp) (by rw [okL, okL, op, or']; rfl))
   rw [list_one, join_text 62 op or'] at hc
   rw [nest_text] at hx' hy'
   rw [list_cons, list_one] at hy'
   rw [wt_one, join_wt] at hci
   rw [nest_wt (.inr rfl)] at hxj
   rw [nest_wt (.inl rfl), wtL, wt_one] at hyk
   refine adds_yes s t (wtL [p]) (wtL [r]) hr ho hr2 ho2 (listTx [p]) (listTx [r]) hp hp2 b1 b2 ⟨by omega, by omega⟩ ⟨by omega, by omega⟩ c i x j y k ?_ ?_ ?_ ?_ hxj ?_ w hE hT
   ·rw [list_one, list_one]; exact hc
   ·exact hx'
   ·rw [list_one, list_one]; exact hy'
   ·rw [wt_one, wt_one]; exact hci
   ·rw [wt_one, wt_one]; exact hyk
  ·rw [decide_eq_false h2] at hp2
   rw [decide_eq_true h1] at hp
   exact adds_long s t _ _ hr ho hr2 ho2 _ _ _ _ hp hp2 (.inr ⟨rfl, rfl⟩) w hE hT
 ·rw [decide_eq_false h1] at hp
  exact adds_long s t _ _ hr ho hr2 ho2 _ _ _ _ hp hp2 (.inl rfl) w hE hT
end sel.adds
namespace sel.adds
open Go.RowKit base tok sel Go.ChangeShapes Go.WideShapes Go.ChangeAt
theorem lifted (os : Os) (started : os.Started) (H : Type) (enc : TypeId × Value -> H) :
  ReturnsInHanded {} Tryz.checked os 7 .any (fun w args => (Rows.weightAddsSpec.pre enc Tryz.prog Tryz.f7 Rows.weightAddsRow.domain false w args /\ laidMetH Tryz.prog Rows.weightAddsRow.laid w) /\ sizedMet enc Tryz.prog Tryz.f7 (OpenSpec.ofChange Rows.weightAddsSpec) false w args)
   (Rows.weightAddsSpec.post enc Tryz.prog Tryz.f7 false true false false) := by
 refine returns_door (C := Tryz.checked) (X := fun w _ => laidMetH Tryz.prog Rows.weightAddsRow.laid w) (fun _ _ _ hh h => h.of_heap hh) ownD started (by kernel_rfl) Tryz.func7
  (ChangeSpec.witness_shaped (enc := enc) (C := Tryz.checked) (os := os) (X := fun w _ => laidMetH Tryz.prog Rows.weightAddsRow.laid w) false (World.laidAll Tryz.prog os Rows.weightAddsRow.laid) #[.string .empty, .string .empty] 8 (World.laidAll_os _ _ _)
   (World.shaped_of_ZipB (by kernel_rfl) (by kernel_rfl)) (by kernel_rfl) (by kernel_rfl) (by kernel_rfl)
   (by rw [MakeChecks.laidMetH_plain _ _ _ (by kernel_rfl)]; exact laidMet_laidAll _ (by kernel_rfl) (by kernel_rfl))) ?_
 intro W base args ds gs before hval0 hW hsz hlaid hsh
 have hval : ∀ (j : Nat) t v, Tryz.f7.params[j]? = some t -> args[j]? = some v -> Value.okWide Tryz.prog W .any base t v := hval0
 have hW' := hW
 obtain ⟨p, q, hA0, hV, -, -, -⟩ := hW
 have hA : DataW.TrodAll enc Tryz.prog W 0 (fun _ => true) true Tryz.f7.params.toList args.toList ds p := hA0
 rw [Tryz.params7] at hA hval
 obtain ⟨v0, vs0, d0, ds0, p0, q0, hargs, rfl, -, h0, r0⟩ := trodAll_cons hA
 obtain ⟨v1, vs1, d1, ds1, p1, q1, rfl, rfl, -, h1, r1⟩ := trodAll_cons r0
 obtain ⟨rfl, rfl, -⟩ := trodAll_nil r1
 obtain rfl : args = #[v0, v1] := by cases args; simp_all
 obtain ⟨rfl, -⟩ := trodVars_none hV
 obtain ⟨a, rfl, -, -, hs0⟩ := Go.ChangeMaps.open_string Tryz.underlying9 (hval 0 _ _ rfl rfl) h0
 obtain ⟨b, rfl, -, -, hs1⟩ := Go.ChangeMaps.open_string Tryz.underlying9 (hval 1 _ _ rfl rfl) h1
 rw [MakeChecks.laidMetH_plain _ _ _ (by kernel_rfl)] at hlaid
 exact (law_ct a b W hs0 hs1 ⟨maxLen_of hsh, err_of (by kernel_rfl) (by kernel_rfl) hlaid.tail.tail.tail.tail.tail, err_of (by kernel_rfl) (by kernel_rfl) hlaid.tail.tail.tail.tail⟩ (dim.pow_of hlaid (by simp [Rows.weightAddsRow]))).mono fun e W' ⟨he, bel⟩ => ⟨_, he, law_post laidOutD rfl Tryz.underlying4 rfl (by intro t ht; rw [Tryz.params7] at ht; revert t; decide +kernel) rfl hW' bel⟩
theorem holds : Rows.WeightAddsSaid :=
 OpenClaim.holds_of_wide 7 Tryz.f7 rfl rfl rfl rfl rfl rfl rfl ⟨rfl, rfl, rfl, rfl, rfl⟩ rfl rfl rfl rfl rfl (by kernel_rfl) Tryz.func7 (by kernel_rfl)
  (of_decide_eq_true (by kernel_rfl)) (by unfold Func.isWrapper; first | (rw [if_pos (by decide +kernel)]; kernel_rfl) | (rw [if_neg (by decide +kernel)]; exact ⟨rfl, rfl⟩))
  (fun os started H enc _ => lifted os started H enc)
theorem proved : Rows.WeightAddsCardSaid :=
 Claim7.holds_tied_plain_at .later [] Rows.weightAddsCard.laidKinds true Rows.weightAddsCard.stood.harness Rows.weightAddsCard.stood.looks holds (fun _ h => by cases h) (by kernel_rfl) (fun _ h => by cases h) weightAdds_row_tie rfl ⟨rfl, rfl⟩ (by kernel_rfl) rfl
  (fun f fn hf hfn => by
   obtain rfl : f = 7 := Option.some.inj ((show Tryz.prog.funcNamed "clerestory/clerestorykeep2.WeightAdds" = some 7 by kernel_rfl).symm.trans hf) |>.symm
   obtain rfl : fn = Tryz.f7 := (Option.some.inj (Tryz.func7.symm.trans hfn)).symm
   exact ⟨by kernel_rfl, fun j t ht => by
    rw [Tryz.params7] at ht
    have hm : t ∈ [9, 9] := by simpa using Array.mem_of_getElem? ht
    have hall : ([9, 9].all fun u => !Tryz.prog.wantsStandIn u) = true := by kernel_rfl
    exact (show Tryz.prog.wantsStandIn t = false by simpa using List.all_eq_true.1 hall t hm)⟩)
  (by kernel_rfl)
#print axioms proved
end sel.adds
end Go.Proofs.YtaobpkffcolobaaGreatDoor
