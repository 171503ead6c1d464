/- Contracts and plain law, a bundle. -/
import Derived.Lib.SmallJoins
import Derived.PinnedBridge
import Derived.Lib.LaidCase
import Derived.Stop.LaidErr
import Derived.Lib.Hide
import Derived.Test.YthgffoanecknoaaGreatDoorH2
import Derived.Test.YthgffoanecknoaaGreatDoorBJ
set_option linter.unusedVariables false
set_option maxRecDepth 100000
set_option maxHeartbeats 16000000
open Go.Lib (hid)
namespace Go.Proofs.YthgffoanecknoaaGreatDoor
namespace cnt
open Go.RowKit base tok dim
def LibAt (w : World) : Prop := PowAt w /\ (∃ tp p, w.cell? ⟨6, 0, none⟩ = some (.iface tp p)) /\ (∃ tp p, w.cell? ⟨7, 0, none⟩ = some (.iface tp p)) /\ Lib.CaseVar 2 Lib.caseA w /\ Lib.Utf8Tabs 3 4 w
theorem LibAt.on {w w' : World} (h : LibAt w) (hb : Below w.heap.size w w') : LibAt w' := by
 obtain ⟨h1, ⟨t1, p1, h2⟩, ⟨t2, p2, h3⟩, h4, h5⟩ := h
 exact ⟨h1.on hb, ⟨t1, p1, (hb.cell (World.block_lt_of_cell? w _ h2)).trans h2⟩, ⟨t2, p2, (hb.cell (World.block_lt_of_cell? w _ h3)).trans h3⟩, Lib.CaseVar_below h4 hb, Utf8Tabs_below h5 hb⟩
theorem LibAt.pow {w : World} (h : LibAt w) : PowAt w := h.1
theorem bytes_below (w : World) (e : TypeId) (s : ByteArray) : Below w.heap.size w (Lib.bytesWorld w e s) := by
 exact Go.Joins.below_bytesWorld _ w e s (Nat.le_refl _)
theorem atoi_or (k : Int) (s : ByteArray) (hs : s.size <= 1048576) :
  (∀ w, LibAt w -> Calls Tryz.prog 85 #[.string s] w fun e w' => e = .returned (.tuple #[.int .i64 (backI k s.data.toList), .nilIface]) /\ Below w.heap.size w w') ∨
  ∃ d, (∀ w, LibAt w -> Calls Tryz.prog 85 #[.string s] w fun e w' => (∃ N, e = .returned (.tuple #[.int .i64 d, .iface 203 ((pn N))])) /\ Below w.heap.size w w') /\ backI k s.data.toList = altI k s.data.toList d := by
 unfold backI
 rcases h : Lib.atoiAll s.data.toList with v | _ | _
 ·exact .inl fun w hw => (Tryz.strconv_Atoi_ok s (by omega) v h w).mono fun e w' ⟨he, hb⟩ => ⟨he, by
   rcases hb with rfl | ⟨t, rfl⟩
   ·exact Below.refl _ _
   ·exact bytes_below _ _ _⟩
 ·refine .inr ⟨0, fun w hw => ?_, rfl⟩
  obtain ⟨_, ⟨tp, p, h2⟩, _⟩ := hw
  exact (Any.strconv_Atoi_syntax Tryz.laysC172 s (by omega) h (.iface tp p) w h2 (.inr ⟨tp, p, rfl⟩)).mono fun e w' ⟨N, he, _, _, hb⟩ => ⟨⟨N, he⟩, hb⟩
 ·refine .inr ⟨_, fun w hw => ?_, rfl⟩
  obtain ⟨_, _, ⟨tp, p, h2⟩, _⟩ := hw
  exact (Tryz.strconv_Atoi_range s (by omega) h (.iface tp p) w h2 (.inr ⟨tp, p, rfl⟩)).mono fun e w' ⟨N, he, _, _, hb⟩ => ⟨⟨N, he⟩, hb⟩
theorem lower_any (s : ByteArray) (hs : s.size <= 1048576) (w : World) (hw : LibAt w) : Calls Tryz.prog 87 #[.string s] w fun e w' => e = .returned (.string (bs (Lib.toLowerD s.data.toList))) /\ Below w.heap.size w w' :=
 Tryz.strings_ToLower_any s w (by omega) hw.2.2.2.1 hw.2.2.2.2
def goodI (k : Int) (s : ByteArray) : Prop := -1000000 <= backI k s.data.toList /\ backI k s.data.toList <= 1000000 /\ markI k (backI k s.data.toList) = s.data.toList
theorem Back_ct (k : Int) (hk : 2 <= k /\ k <= 6) (s : ByteArray) (hs : s.size <= 1048576) (w : World) (hw : LibAt w) :
  Calls Tryz.prog 61 #[.int .i64 k, .string s] w fun e w' => ((goodI k s /\ e = .returned (.tuple #[.int .i64 (backI k s.data.toList), .int .i64 0])) ∨ (¬ goodI k s /\ e = .returned (.tuple #[.int .i64 0, .int .i64 5]))) /\ Below w.heap.size w w' := by
 have hA := atoi_or k s hs
 have cL := hid (lower_any s hs)
 have hll : (Lib.toLowerD s.data.toList).length <= 4194304 := by have := low_len s.data.toList; rw [<- Lib.size_eq] at this; omega
 have cW := hid (fun w => worth_ct (bs (Lib.toLowerD s.data.toList)) (by rw [bs_size]; omega) w)
 have cV := hid (fun w => value_ct (bs (Lib.toLowerD s.data.toList)) (by rw [bs_size]; omega) w)
 have c26 := hid (fun w => cin_yes k 2 6 hk.1 hk.2 w)
 unfold goodI
 have hmk := fun (n : Int) => mark_I k n hk
 obtain ⟨n, hn⟩ : ∃ n, backI k s.data.toList = n := ⟨_, rfl⟩
 rw [hn] at hA ⊢
 have cIn : ∀ w, Calls Tryz.prog 34 #[.int .i64 n, .int .i64 (-1000000), .int .i64 1000000] w fun e w' => e = .returned (.bool (decide (-1000000 <= n /\ n <= 1000000))) /\ w = w' := fun w => (cin_ct n (-1000000) 1000000 w).mono fun e w' ⟨he, hw⟩ => ⟨by rw [he, Bool.decide_and], hw.symm⟩
 have htail : (¬ (-1000000 <= n /\ n <= 1000000)) ∨ ((-1000000 <= n /\ n <= 1000000) /\ ∃ b : Bool, ((bs (markI k n)).toList == s.toList) = b /\ (b = true ↔ markI k n = s.data.toList)) := by
  by_cases h : -1000000 <= n /\ n <= 1000000
  ·refine .inr ⟨h, _, rfl, ?_⟩
   rw [bs_toList, Lib.toList_data, beq_iff_eq]
  ·exact .inl h
 have HW := hid hw
 have hkk : k = 2 ∨ k = 3 ∨ k = 4 ∨ k = 5 ∨ k = 6 := by omega
 clear hn hw hk hs hll
 rcases htail with hbad | ⟨hgd, b, hb, hbi⟩
 ·rw [decide_eq_false hbad] at cIn
  replace cIn := hid cIn
  have hno : ¬ (-1000000 <= n /\ n <= 1000000 /\ markI k n = s.data.toList) := fun h => hbad ⟨h.1, h.2.1⟩
  replace hno := hid hno
  clear hbad hmk
  rcases hA with cA | ⟨d, cA, hd⟩
  ·replace cA := hid cA
   clear cL cW cV hkk
   go_enter Tryz.func61, Tryz.ntmps61
   go_wp2_with (first
    | (go_at_call 85; (with_reducible refine (cA.out _ HW.out).mono ?_); rintro e W1 ⟨rfl, hb1⟩; have HB1 := hid hb1; clear hb1)
    | (go_at_call 34; (with_reducible refine (c26.out _).mono ?_); rintro e W0 ⟨rfl, rfl⟩)
    | (go_at_call 34; (with_reducible refine (cIn.out _).mono ?_); rintro e W0 ⟨rfl, rfl⟩))
   go_ret2
   exact ⟨.inr ⟨hno.out, rfl⟩, HB1.out⟩
  ·replace cA := hid cA
   rcases hkk with rfl | rfl | rfl | rfl | rfl
   ·obtain rfl : n = d := hd
    go_enter Tryz.func61, Tryz.ntmps61
    go_wp2_with (first
     | (go_at_call 85; (with_reducible refine (cA.out _ HW.out).mono ?_); rintro e W1 ⟨⟨N, rfl⟩, hb1⟩; have HB1 := hid hb1; clear hb1)
     | (go_at_call 34; (with_reducible refine (c26.out _).mono ?_); rintro e W0 ⟨rfl, rfl⟩)
     | (go_at_call 34; (with_reducible refine (cIn.out _).mono ?_); rintro e W0 ⟨rfl, rfl⟩))
    go_ret2
    exact ⟨.inr ⟨hno.out, rfl⟩, HB1.out⟩
   ·have hd2 : worthG (bs (Lib.toLowerD s.data.toList)).data.toList 0 = n := hd.symm
    rw [hd2] at cW
    clear hd hd2 cV
    go_enter Tryz.func61, Tryz.ntmps61
    go_wp2_with (first
     | (go_at_call 85; (with_reducible refine (cA.out _ HW.out).mono ?_); rintro e W1 ⟨⟨N, rfl⟩, hb1⟩; have HB1 := hid hb1; clear hb1)
     | (go_at_call 34; (with_reducible refine (c26.out _).mono ?_); rintro e W0 ⟨rfl, rfl⟩)
     | (go_at_call 87; (with_reducible refine (cL.out _ (HW.out.on HB1.out)).mono ?_); rintro e W2 ⟨rfl, hb2⟩; have HB2 := hid (tb HB1 hb2); clear hb2)
     | (go_at_call 86; (with_reducible refine (cW.out _).mono ?_); rintro e W3 ⟨rfl, rfl⟩)
     | (go_at_call 34; (with_reducible refine (cIn.out _).mono ?_); rintro e W0 ⟨rfl, rfl⟩))
    go_ret2
    exact ⟨.inr ⟨hno.out, rfl⟩, HB2.out⟩
   ·have hd2 : worthG (bs (Lib.toLowerD s.data.toList)).data.toList 0 = n := hd.symm
    rw [hd2] at cW
    clear hd hd2 cV
    go_enter Tryz.func61, Tryz.ntmps61
    go_wp2_with (first
     | (go_at_call 85; (with_reducible refine (cA.out _ HW.out).mono ?_); rintro e W1 ⟨⟨N, rfl⟩, hb1⟩; have HB1 := hid hb1; clear hb1)
     | (go_at_call 34; (with_reducible refine (c26.out _).mono ?_); rintro e W0 ⟨rfl, rfl⟩)
     | (go_at_call 87; (with_reducible refine (cL.out _ (HW.out.on HB1.out)).mono ?_); rintro e W2 ⟨rfl, hb2⟩; have HB2 := hid (tb HB1 hb2); clear hb2)
     | (go_at_call 86; (with_reducible refine (cW.out _).mono ?_); rintro e W3 ⟨rfl, rfl⟩)
     | (go_at_call 34; (with_reducible refine (cIn.out _).mono ?_); rintro e W0 ⟨rfl, rfl⟩))
    go_ret2
    exact ⟨.inr ⟨hno.out, rfl⟩, HB2.out⟩
   ·have hd2 : romG (bs (Lib.toLowerD s.data.toList)).data.toList.reverse 0 0 = n := hd.symm
    rw [hd2] at cV
    clear hd hd2 cW
    go_enter Tryz.func61, Tryz.ntmps61
    go_wp2_with (first
     | (go_at_call 85; (with_reducible refine (cA.out _ HW.out).mono ?_); rintro e W1 ⟨⟨N, rfl⟩, hb1⟩; have HB1 := hid hb1; clear hb1)
     | (go_at_call 34; (with_reducible refine (c26.out _).mono ?_); rintro e W0 ⟨rfl, rfl⟩)
     | (go_at_call 87; (with_reducible refine (cL.out _ (HW.out.on HB1.out)).mono ?_); rintro e W2 ⟨rfl, hb2⟩; have HB2 := hid (tb HB1 hb2); clear hb2)
     | (go_at_call 88; (with_reducible refine (cV.out _).mono ?_); rintro e W3 ⟨rfl, rfl⟩)
     | (go_at_call 34; (with_reducible refine (cIn.out _).mono ?_); rintro e W0 ⟨rfl, rfl⟩))
    go_ret2
    exact ⟨.inr ⟨hno.out, rfl⟩, HB2.out⟩
   ·have hd2 : romG (bs (Lib.toLowerD s.data.toList)).data.toList.reverse 0 0 = n := hd.symm
    rw [hd2] at cV
    clear hd hd2 cW
    go_enter Tryz.func61, Tryz.ntmps61
    go_wp2_with (first
     | (go_at_call 85; (with_reducible refine (cA.out _ HW.out).mono ?_); rintro e W1 ⟨⟨N, rfl⟩, hb1⟩; have HB1 := hid hb1; clear hb1)
     | (go_at_call 34; (with_reducible refine (c26.out _).mono ?_); rintro e W0 ⟨rfl, rfl⟩)
     | (go_at_call 87; (with_reducible refine (cL.out _ (HW.out.on HB1.out)).mono ?_); rintro e W2 ⟨rfl, hb2⟩; have HB2 := hid (tb HB1 hb2); clear hb2)
     | (go_at_call 88; (with_reducible refine (cV.out _).mono ?_); rintro e W3 ⟨rfl, rfl⟩)
     | (go_at_call 34; (with_reducible refine (cIn.out _).mono ?_); rintro e W0 ⟨rfl, rfl⟩))
    go_ret2
    exact ⟨.inr ⟨hno.out, rfl⟩, HB2.out⟩
 ·rw [decide_eq_true hgd] at cIn
  replace cIn := hid cIn
  have cM := hid (fun w hT => hmk n hgd.1 hgd.2 w hT)
  have hne : ((bs (markI k n)).toList != s.toList) = !b := by rw [bne, hb]
  generalize hmkn : markI k n = M at *
  replace hmkn := hid hmkn
  replace hgd := hid hgd
  clear hmk
  cases b with
  | false =>
   replace hne : ((bs M).toList != s.toList) = true := hne
   have hno : ¬ (-1000000 <= n /\ n <= 1000000 /\ M = s.data.toList) := fun h => by have := hbi.2 h.2.2; cases this
   replace hno := hid hno
   clear hbi
   rcases hA with cA | ⟨d, cA, hd⟩
   ·replace cA := hid cA
    clear cL cW cV hkk
    go_enter Tryz.func61, Tryz.ntmps61
    go_wp2_with (first
     | (go_at_call 85; (with_reducible refine (cA.out _ HW.out).mono ?_); rintro e W1 ⟨rfl, hb1⟩; have HB1 := hid hb1; clear hb1)
     | (go_at_call 34; (with_reducible refine (c26.out _).mono ?_); rintro e W0 ⟨rfl, rfl⟩)
     | (go_at_call 34; (with_reducible refine (cIn.out _).mono ?_); rintro e W0 ⟨rfl, rfl⟩)
     | (go_at_call 35; (with_reducible refine (cM.out _ (HW.out.on HB1.out).pow).mono ?_); rintro e W4 ⟨rfl, hb4⟩; have HB4 := hid (tb HB1 hb4); clear hb4))
    go_ret2
    exact ⟨.inr ⟨hno.out, rfl⟩, HB4.out⟩
   ·replace cA := hid cA
    rcases hkk with rfl | rfl | rfl | rfl | rfl
    ·obtain rfl : n = d := hd
     go_enter Tryz.func61, Tryz.ntmps61
     go_wp2_with (first
      | (go_at_call 85; (with_reducible refine (cA.out _ HW.out).mono ?_); rintro e W1 ⟨⟨N, rfl⟩, hb1⟩; have HB1 := hid hb1; clear hb1)
      | (go_at_call 34; (with_reducible refine (c26.out _).mono ?_); rintro e W0 ⟨rfl, rfl⟩)
      | (go_at_call 34; (with_reducible refine (cIn.out _).mono ?_); rintro e W0 ⟨rfl, rfl⟩)
      | (go_at_call 35; (with_reducible refine (cM.out _ (HW.out.on HB1.out).pow).mono ?_); rintro e W4 ⟨rfl, hb4⟩; have HB4 := hid (tb HB1 hb4); clear hb4))
     go_ret2
     exact ⟨.inr ⟨hno.out, rfl⟩, HB4.out⟩
    ·have hd2 : worthG (bs (Lib.toLowerD s.data.toList)).data.toList 0 = n := hd.symm
     rw [hd2] at cW
     clear hd hd2 cV
     go_enter Tryz.func61, Tryz.ntmps61
     go_wp2_with (first
      | (go_at_call 85; (with_reducible refine (cA.out _ HW.out).mono ?_); rintro e W1 ⟨⟨N, rfl⟩, hb1⟩; have HB1 := hid hb1; clear hb1)
      | (go_at_call 34; (with_reducible refine (c26.out _).mono ?_); rintro e W0 ⟨rfl, rfl⟩)
      | (go_at_call 87; (with_reducible refine (cL.out _ (HW.out.on HB1.out)).mono ?_); rintro e W2 ⟨rfl, hb2⟩; have HB2 := hid (tb HB1 hb2); clear hb2)
      | (go_at_call 86; (with_reducible refine (cW.out _).mono ?_); rintro e W3 ⟨rfl, rfl⟩)
      | (go_at_call 34; (with_reducible refine (cIn.out _).mono ?_); rintro e W0 ⟨rfl, rfl⟩)
      | (go_at_call 35; (with_reducible refine (cM.out _ (HW.out.on HB2.out).pow).mono ?_); rintro e W4 ⟨rfl, hb4⟩; have HB4 := hid (tb HB2 hb4); clear hb4))
     go_ret2
     exact ⟨.inr ⟨hno.out, rfl⟩, HB4.out⟩
    ·have hd2 : worthG (bs (Lib.toLowerD s.data.toList)).data.toList 0 = n := hd.symm
     rw [hd2] at cW
     clear hd hd2 cV
     go_enter Tryz.func61, Tryz.ntmps61
     go_wp2_with (first
      | (go_at_call 85; (with_reducible refine (cA.out _ HW.out).mono ?_); rintro e W1 ⟨⟨N, rfl⟩, hb1⟩; have HB1 := hid hb1; clear hb1)
      | (go_at_call 34; (with_reducible refine (c26.out _).mono ?_); rintro e W0 ⟨rfl, rfl⟩)
      | (go_at_call 87; (with_reducible refine (cL.out _ (HW.out.on HB1.out)).mono ?_); rintro e W2 ⟨rfl, hb2⟩; have HB2 := hid (tb HB1 hb2); clear hb2)
      | (go_at_call 86; (with_reducible refine (cW.out _).mono ?_); rintro e W3 ⟨rfl, rfl⟩)
      | (go_at_call 34; (with_reducible refine (cIn.out _).mono ?_); rintro e W0 ⟨rfl, rfl⟩)
      | (go_at_call 35; (with_reducible refine (cM.out _ (HW.out.on HB2.out).pow).mono ?_); rintro e W4 ⟨rfl, hb4⟩; have HB4 := hid (tb HB2 hb4); clear hb4))
     go_ret2
     exact ⟨.inr ⟨hno.out, rfl⟩, HB4.out⟩
    ·have hd2 : romG (bs (Lib.toLowerD s.data.toList)).data.toList.reverse 0 0 = n := hd.symm
     rw [hd2] at cV
     clear hd hd2 cW
     go_enter Tryz.func61, Tryz.ntmps61
     go_wp2_with (first
      | (go_at_call 85; (with_reducible refine (cA.out _ HW.out).mono ?_); rintro e W1 ⟨⟨N, rfl⟩, hb1⟩; have HB1 := hid hb1; clear hb1)
      | (go_at_call 34; (with_reducible refine (c26.out _).mono ?_); rintro e W0 ⟨rfl, rfl⟩)
      | (go_at_call 87; (with_reducible refine (cL.out _ (HW.out.on HB1.out)).mono ?_); rintro e W2 ⟨rfl, hb2⟩; have HB2 := hid (tb HB1 hb2); clear hb2)
      | (go_at_call 88; (with_reducible refine (cV.out _).mono ?_); rintro e W3 ⟨rfl, rfl⟩)
      | (go_at_call 34; (with_reducible refine (cIn.out _).mono ?_); rintro e W0 ⟨rfl, rfl⟩)
      | (go_at_call 35; (with_reducible refine (cM.out _ (HW.out.on HB2.out).pow).mono ?_); rintro e W4 ⟨rfl, hb4⟩; have HB4 := hid (tb HB2 hb4); clear hb4))
     go_ret2
     exact ⟨.inr ⟨hno.out, rfl⟩, HB4.out⟩
    ·have hd2 : romG (bs (Lib.toLowerD s.data.toList)).data.toList.reverse 0 0 = n := hd.symm
     rw [hd2] at cV
     clear hd hd2 cW
     go_enter Tryz.func61, Tryz.ntmps61
     go_wp2_with (first
      | (go_at_call 85; (with_reducible refine (cA.out _ HW.out).mono ?_); rintro e W1 ⟨⟨N, rfl⟩, hb1⟩; have HB1 := hid hb1; clear hb1)
      | (go_at_call 34; (with_reducible refine (c26.out _).mono ?_); rintro e W0 ⟨rfl, rfl⟩)
      | (go_at_call 87; (with_reducible refine (cL.out _ (HW.out.on HB1.out)).mono ?_); rintro e W2 ⟨rfl, hb2⟩; have HB2 := hid (tb HB1 hb2); clear hb2)
      | (go_at_call 88; (with_reducible refine (cV.out _).mono ?_); rintro e W3 ⟨rfl, rfl⟩)
      | (go_at_call 34; (with_reducible refine (cIn.out _).mono ?_); rintro e W0 ⟨rfl, rfl⟩)
      | (go_at_call 35; (with_reducible refine (cM.out _ (HW.out.on HB2.out).pow).mono ?_); rintro e W4 ⟨rfl, hb4⟩; have HB4 := hid (tb HB2 hb4); clear hb4))
     go_ret2
     exact ⟨.inr ⟨hno.out, rfl⟩, HB4.out⟩
  | true =>
   replace hne : ((bs M).toList != s.toList) = false := hne
   have hyes : -1000000 <= n /\ n <= 1000000 /\ M = s.data.toList := ⟨hgd.out.1, hgd.out.2, hbi.1 rfl⟩
   replace hyes := hid hyes
   clear hbi
   rcases hA with cA | ⟨d, cA, hd⟩
   ·replace cA := hid cA
    clear cL cW cV hkk
    go_enter Tryz.func61, Tryz.ntmps61
    go_wp2_with (first
     | (go_at_call 85; (with_reducible refine (cA.out _ HW.out).mono ?_); rintro e W1 ⟨rfl, hb1⟩; have HB1 := hid hb1; clear hb1)
     | (go_at_call 34; (with_reducible refine (c26.out _).mono ?_); rintro e W0 ⟨rfl, rfl⟩)
     | (go_at_call 34; (with_reducible refine (cIn.out _).mono ?_); rintro e W0 ⟨rfl, rfl⟩)
     | (go_at_call 35; (with_reducible refine (cM.out _ (HW.out.on HB1.out).pow).mono ?_); rintro e W4 ⟨rfl, hb4⟩; have HB4 := hid (tb HB1 hb4); clear hb4))
    go_ret2
    exact ⟨.inl ⟨hyes.out, rfl⟩, HB4.out⟩
   ·replace cA := hid cA
    rcases hkk with rfl | rfl | rfl | rfl | rfl
    ·obtain rfl : n = d := hd
     go_enter Tryz.func61, Tryz.ntmps61
     go_wp2_with (first
      | (go_at_call 85; (with_reducible refine (cA.out _ HW.out).mono ?_); rintro e W1 ⟨⟨N, rfl⟩, hb1⟩; have HB1 := hid hb1; clear hb1)
      | (go_at_call 34; (with_reducible refine (c26.out _).mono ?_); rintro e W0 ⟨rfl, rfl⟩)
      | (go_at_call 34; (with_reducible refine (cIn.out _).mono ?_); rintro e W0 ⟨rfl, rfl⟩)
      | (go_at_call 35; (with_reducible refine (cM.out _ (HW.out.on HB1.out).pow).mono ?_); rintro e W4 ⟨rfl, hb4⟩; have HB4 := hid (tb HB1 hb4); clear hb4))
     go_ret2
     exact ⟨.inl ⟨hyes.out, rfl⟩, HB4.out⟩
    ·have hd2 : worthG (bs (Lib.toLowerD s.data.toList)).data.toList 0 = n := hd.symm
     rw [hd2] at cW
     clear hd hd2 cV
     go_enter Tryz.func61, Tryz.ntmps61
     go_wp2_with (first
      | (go_at_call 85; (with_reducible refine (cA.out _ HW.out).mono ?_); rintro e W1 ⟨⟨N, rfl⟩, hb1⟩; have HB1 := hid hb1; clear hb1)
      | (go_at_call 34; (with_reducible refine (c26.out _).mono ?_); rintro e W0 ⟨rfl, rfl⟩)
      | (go_at_call 87; (with_reducible refine (cL.out _ (HW.out.on HB1.out)).mono ?_); rintro e W2 ⟨rfl, hb2⟩; have HB2 := hid (tb HB1 hb2); clear hb2)
      | (go_at_call 86; (with_reducible refine (cW.out _).mono ?_); rintro e W3 ⟨rfl, rfl⟩)
      | (go_at_call 34; (with_reducible refine (cIn.out _).mono ?_); rintro e W0 ⟨rfl, rfl⟩)
      | (go_at_call 35; (with_reducible refine (cM.out _ (HW.out.on HB2.out).pow).mono ?_); rintro e W4 ⟨rfl, hb4⟩; have HB4 := hid (tb HB2 hb4); clear hb4))
     go_ret2
     exact ⟨.inl ⟨hyes.out, rfl⟩, HB4.out⟩
    ·have hd2 : worthG (bs (Lib.toLowerD s.data.toList)).data.toList 0 = n := hd.symm
     rw [hd2] at cW
     clear hd hd2 cV
     go_enter Tryz.func61, Tryz.ntmps61
     go_wp2_with (first
      | (go_at_call 85; (with_reducible refine (cA.out _ HW.out).mono ?_); rintro e W1 ⟨⟨N, rfl⟩, hb1⟩; have HB1 := hid hb1; clear hb1)
      | (go_at_call 34; (with_reducible refine (c26.out _).mono ?_); rintro e W0 ⟨rfl, rfl⟩)
      | (go_at_call 87; (with_reducible refine (cL.out _ (HW.out.on HB1.out)).mono ?_); rintro e W2 ⟨rfl, hb2⟩; have HB2 := hid (tb HB1 hb2); clear hb2)
      | (go_at_call 86; (with_reducible refine (cW.out _).mono ?_); rintro e W3 ⟨rfl, rfl⟩)
      | (go_at_call 34; (with_reducible refine (cIn.out _).mono ?_); rintro e W0 ⟨rfl, rfl⟩)
      | (go_at_call 35; (with_reducible refine (cM.out _ (HW.out.on HB2.out).pow).mono ?_); rintro e W4 ⟨rfl, hb4⟩; have HB4 := hid (tb HB2 hb4); clear hb4))
     go_ret2
     exact ⟨.inl ⟨hyes.out, rfl⟩, HB4.out⟩
    ·have hd2 : romG (bs (Lib.toLowerD s.data.toList)).data.toList.reverse 0 0 = n := hd.symm
     rw [hd2] at cV
     clear hd hd2 cW
     go_enter Tryz.func61, Tryz.ntmps61
     go_wp2_with (first
      | (go_at_call 85; (with_reducible refine (cA.out _ HW.out).mono ?_); rintro e W1 ⟨⟨N, rfl⟩, hb1⟩; have HB1 := hid hb1; clear hb1)
      | (go_at_call 34; (with_reducible refine (c26.out _).mono ?_); rintro e W0 ⟨rfl, rfl⟩)
      | (go_at_call 87; (with_reducible refine (cL.out _ (HW.out.on HB1.out)).mono ?_); rintro e W2 ⟨rfl, hb2⟩; have HB2 := hid (tb HB1 hb2); clear hb2)
      | (go_at_call 88; (with_reducible refine (cV.out _).mono ?_); rintro e W3 ⟨rfl, rfl⟩)
      | (go_at_call 34; (with_reducible refine (cIn.out _).mono ?_); rintro e W0 ⟨rfl, rfl⟩)
      | (go_at_call 35; (with_reducible refine (cM.out _ (HW.out.on HB2.out).pow).mono ?_); rintro e W4 ⟨rfl, hb4⟩; have HB4 := hid (tb HB2 hb4); clear hb4))
     go_ret2
     exact ⟨.inl ⟨hyes.out, rfl⟩, HB4.out⟩
    ·have hd2 : romG (bs (Lib.toLowerD s.data.toList)).data.toList.reverse 0 0 = n := hd.symm
     rw [hd2] at cV
     clear hd hd2 cW
     go_enter Tryz.func61, Tryz.ntmps61
     go_wp2_with (first
      | (go_at_call 85; (with_reducible refine (cA.out _ HW.out).mono ?_); rintro e W1 ⟨⟨N, rfl⟩, hb1⟩; have HB1 := hid hb1; clear hb1)
      | (go_at_call 34; (with_reducible refine (c26.out _).mono ?_); rintro e W0 ⟨rfl, rfl⟩)
      | (go_at_call 87; (with_reducible refine (cL.out _ (HW.out.on HB1.out)).mono ?_); rintro e W2 ⟨rfl, hb2⟩; have HB2 := hid (tb HB1 hb2); clear hb2)
      | (go_at_call 88; (with_reducible refine (cV.out _).mono ?_); rintro e W3 ⟨rfl, rfl⟩)
      | (go_at_call 34; (with_reducible refine (cIn.out _).mono ?_); rintro e W0 ⟨rfl, rfl⟩)
      | (go_at_call 35; (with_reducible refine (cM.out _ (HW.out.on HB2.out).pow).mono ?_); rintro e W4 ⟨rfl, hb4⟩; have HB4 := hid (tb HB2 hb4); clear hb4))
     go_ret2
     exact ⟨.inl ⟨hyes.out, rfl⟩, HB4.out⟩
end cnt
namespace cnt
open Go.RowKit base Go.ChangeShapes Go.WideShapes Go.ChangeAt
theorem star_err : "*" ++ "errors.errorString" = "*errors.errorString" := by decide
theorem row_err (u : TypeId) (h : Tryz.prog.typeName? 3 u = some "*errors.errorString") : u = 232 :=
 typeName_ptr_named (nm := "errors.errorString") (by rw [star_err]; kernel_rfl) (by kernel_rfl) (by decide) u (by rw [star_err]; exact h)
theorem err_of {n : String} {text : List UInt8} {g : Nat} {r : List (String × DataW Unit)} {w : World} (hg : Tryz.prog.globalNamed n = some g) (ht : (Tryz.prog.globals[g]?).map (·.type) = some 132)
  (h : laidMet Tryz.prog ((n, .iface "*errors.errorString" (.ptr (.agg [.lit (.string text)]))) :: r) w) : ∃ tp p, w.cell? ⟨g, 0, none⟩ = some (.iface tp p) := by
 obtain ⟨a0, s0, hv0, -, -, -⟩ := laid_sentinel h hg ht Tryz.underlying132 row_err Tryz.underlying232 Tryz.underlying234 rfl rfl Tryz.underlying9 (by kernel_rfl) (by kernel_rfl)
 exact ⟨_, _, by have h0 := World.var?_cell hg hv0 0; simpa using h0⟩
theorem case_of {w : World} {l : List (String × DataW Unit)} (h : laidMet Tryz.prog l w) (hm : ("unicode.CaseRanges", Rows.laid_unicode_CaseRanges) ∈ l) : Lib.CaseVar 2 Lib.caseA w := by
 have hr := Lib.laidMet.reads h hm
 rw [show Rows.laid_unicode_CaseRanges = Lib.caseData from Pinned.caseRanges_eq] at hr
 exact caseVar_of_reads (ρ := Tryz.lays159_ren) { Tryz.lays159 with } (by kernel_rfl) ⟨by kernel_rfl, by kernel_rfl, by kernel_rfl, by kernel_rfl, by kernel_rfl, by kernel_rfl⟩ hr
theorem u8_of {w : World} {l : List (String × DataW Unit)} (h : laidMet Tryz.prog l w) (h1 : ("unicode/utf8.first", Rows.laid_unicode_utf8_first) ∈ l) (h2 : ("unicode/utf8.acceptRanges", Rows.laid_unicode_utf8_acceptRanges) ∈ l) : Lib.Utf8Tabs 3 4 w := by
 have hr := Lib.laidMet.reads h h1
 rw [show Rows.laid_unicode_utf8_first = Lib.firstData from Pinned.utf8First_eq] at hr
 have hr2 := Lib.laidMet.reads h h2
 rw [show (Rows.laid_unicode_utf8_acceptRanges : DataW Unit) = Lib.acceptData by kernel_rfl] at hr2
 exact utf8Tabs_of_reads (ρ := Tryz.lays159_ren) { Tryz.lays159 with } ⟨by kernel_rfl, by kernel_rfl, by kernel_rfl, by kernel_rfl, by kernel_rfl, by kernel_rfl, by kernel_rfl⟩ hr hr2
end cnt
end Go.Proofs.YthgffoanecknoaaGreatDoor
