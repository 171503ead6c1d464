/- Contracts and plain law, a bundle. -/
import Derived.Lib.Hide
import Derived.Test.YtlfkkaofgcongaaGreatDoorE8
set_option linter.unusedVariables false
set_option maxRecDepth 100000
set_option maxHeartbeats 16000000
open Go.Lib (hid)
namespace Go.Proofs.YtlfkkaofgcongaaGreatDoor
namespace clb
open Go.RowKit base tok dim rul cal
theorem words_at {w : World} {k : Nat} {t : TypeId} (h : Blk w k t #[.string ⟨#[]⟩, .string ⟨#[]⟩, .string ⟨#[]⟩, .string ⟨#[]⟩, .string ⟨#[]⟩, .string ⟨#[]⟩, .string ⟨#[109, 105, 110]⟩, .string ⟨#[109, 97, 120]⟩, .string ⟨#[99, 108, 97, 109, 112]⟩]) : StrsAt w k 0 wordsL :=
 ⟨h.lt, fun i s hi => by
  have hl := (List.getElem?_eq_some_iff.1 hi).1
  have hl9 : i < 9 := hl
  have hc : i = 0 ∨ i = 1 ∨ i = 2 ∨ i = 3 ∨ i = 4 ∨ i = 5 ∨ i = 6 ∨ i = 7 ∨ i = 8 := by omega
  rcases hc with rfl | rfl | rfl | rfl | rfl | rfl | rfl | rfl | rfl
  all_goals
   obtain rfl := Option.some.inj hi
   exact h.cell _⟩
theorem index_word {w : World} {k : Nat} {t : TypeId} {s : Bs} (h : Blk w k t #[.string ⟨#[]⟩, .string ⟨#[]⟩, .string ⟨#[]⟩, .string ⟨#[]⟩, .string ⟨#[]⟩, .string ⟨#[]⟩, .string ⟨#[109, 105, 110]⟩, .string ⟨#[109, 97, 120]⟩, .string ⟨#[99, 108, 97, 109, 112]⟩]) :
  Calls Tryz.prog 52 #[.slice (some ⟨k, 0, none⟩) 9 9, .string (bs s)] w fun e w' => (∃ r : Int, e = .returned (.int .i64 r) /\ ((kindI s = 0 /\ r <= 0) ∨ (¬ kindI s = 0 /\ r = kindI s))) /\ w = w' :=
 (index_first w k 0 9 wordsL s (words_at h) (by decide)).mono fun e w' ⟨⟨r, he, hr⟩, hw⟩ => ⟨⟨r, he, words_kind hr⟩, hw⟩
theorem v_word (b : Nat) (raw val : Bs) (num : Int) (L : List Tk) (k : Int) (g inb : Bool) (hca : ¬ val.map lowB = calcT) (hk : kindI (val.map lowB) = 0) (hio : inb = false ∨ ¬ raw = [40]) (hvl : val.length <= 400) (w : World) (h : RdrAt w b (⟨2, raw, val, num⟩ :: L) k g) (hE : Env b w) :
  Calls Tryz.prog 62 #[.pointer (some ⟨b, 0, none⟩), .bool inb] w fun e w' => ∃ x, IsErr x /\ e = .panicked (chainP x) /\ w.grownBy w' (some b) := by
 have cN := hid (need_yes b)
 have cX := hid (need_no b)
 have cL := fun w => low_ct (bs val) (by rw [bs_size]; omega) w
 rw [show (bs val).data.toList = val from rfl] at cL
 generalize val.map lowB = nm at *
 replace cL := hid cL
 have hq2 : ((bs nm).toList == [99, 97, 108, 99]) = false := by rw [bs_toList, beq_eq_false_iff_ne]; exact hca
 have cI := hid (fun (w : World) (k : Nat) (t : TypeId) (h : Blk w k t #[.string ⟨#[]⟩, .string ⟨#[]⟩, .string ⟨#[]⟩, .string ⟨#[]⟩, .string ⟨#[]⟩, .string ⟨#[]⟩, .string ⟨#[109, 105, 110]⟩, .string ⟨#[109, 97, 120]⟩, .string ⟨#[99, 108, 97, 109, 112]⟩]) => (index_word (s := nm) h).mono (R' := fun e w' => (∃ r : Int, e = .returned (.int .i64 r) /\ decide (0 < r) = false) /\ w = w') fun e w' ⟨⟨r, he, hr⟩, hw⟩ => ⟨⟨r, he, decide_eq_false (by rcases hr with h | h; omega; exact absurd hk h.1)⟩, hw⟩)
 have hq : inb = false ∨ (inb = true /\ ((bs raw).toList == [40]) = false) := by
  cases inb with
  | false => exact .inl rfl
  | true => exact .inr ⟨rfl, by rw [bs_toList, beq_eq_false_iff_ne]; rcases hio with h | h; exact absurd h (by decide); exact h⟩
 clear hvl hio hca hk
 obtain ⟨tb, off, cap, hcp, htb, hlt, hcl, hfr, e0, e1, e2, e3, hnext, hsl⟩ := h.turn
 have hp : 0 < L.length + 1 := by omega
 have htb2 : tb < w.heap.size := by omega
 dsimp only at e0 e1 e2 e3
 have HV0 := hid (show Below b w (((w.setCell ⟨b, 0, none⟩ (.slice (addrAt 4 (some ⟨tb, off, none⟩) cap 1) L.length (cap - 1))).alloc (.cells #[.int .i64 0, .int .i64 0, .string ⟨#[]⟩, .slice none 0 0] 50)).alloc (.cells #[.int .i64 2, .string (bs raw), .string (bs val), .int .i64 num] 86)) from (((Below.refl b w).setCell (Nat.le_refl _) _).alloc (by simp; omega) _).alloc (by simp; omega) _)
 have HR0 := hid (show RdrAt (((w.setCell ⟨b, 0, none⟩ (.slice (addrAt 4 (some ⟨tb, off, none⟩) cap 1) L.length (cap - 1))).alloc (.cells #[.int .i64 0, .int .i64 0, .string ⟨#[]⟩, .slice none 0 0] 50)).alloc (.cells #[.int .i64 2, .string (bs raw), .string (bs val), .int .i64 num] 86)) b L k g from (hnext.alloc _).alloc _)
 have HG0 := hid (show w.grownBy (((w.setCell ⟨b, 0, none⟩ (.slice (addrAt 4 (some ⟨tb, off, none⟩) cap 1) L.length (cap - 1))).alloc (.cells #[.int .i64 0, .int .i64 0, .string ⟨#[]⟩, .slice none 0 0] 50)).alloc (.cells #[.int .i64 2, .string (bs raw), .string (bs val), .int .i64 num] 86)) (some b) from grown_alloc (grown_alloc (grown_set _ _ _ _) _) _)
 have Q0 := hid (show Blk (((w.setCell ⟨b, 0, none⟩ (.slice (addrAt 4 (some ⟨tb, off, none⟩) cap 1) L.length (cap - 1))).alloc (.cells #[.int .i64 0, .int .i64 0, .string ⟨#[]⟩, .slice none 0 0] 50)).alloc (.cells #[.int .i64 2, .string (bs raw), .string (bs val), .int .i64 num] 86)) w.heap.size 50 #[.int .i64 0, .int .i64 0, .string ⟨#[]⟩, .slice none 0 0] from (Blk.new (by simp)).alloc _)
 have P0 := hid (show Blk (((w.setCell ⟨b, 0, none⟩ (.slice (addrAt 4 (some ⟨tb, off, none⟩) cap 1) L.length (cap - 1))).alloc (.cells #[.int .i64 0, .int .i64 0, .string ⟨#[]⟩, .slice none 0 0] 50)).alloc (.cells #[.int .i64 2, .string (bs raw), .string (bs val), .int .i64 num] 86)) (w.heap.size + 1) 86 #[.int .i64 2, .string (bs raw), .string (bs val), .int .i64 num] from Blk.new (by simp))
 have HE0 := hid (hE.on HV0.out)
 have hz0 := hid (show w.heap.size + 2 <= (((w.setCell ⟨b, 0, none⟩ (.slice (addrAt 4 (some ⟨tb, off, none⟩) cap 1) L.length (cap - 1))).alloc (.cells #[.int .i64 0, .int .i64 0, .string ⟨#[]⟩, .slice none 0 0] 50)).alloc (.cells #[.int .i64 2, .string (bs raw), .string (bs val), .int .i64 num] 86)).heap.size by simp)
 clear h hnext hE HV0
 rcases hq with rfl | ⟨rfl, q40⟩
 all_goals
  go_enter Tryz.func62, Tryz.ntmps62
  go_wp2_with (first
   | (go_at_call 63; (with_reducible refine (cN.out _).mono ?_); rintro e W1 ⟨rfl, rfl⟩)
   | (go_at_call 63; (with_reducible refine (cX.out _).mono ?_); rintro e W9 ⟨rfl, rfl⟩)
   | (go_at_call 94; (with_reducible refine (cL.out _).mono ?_); rintro e W1 ⟨rfl, hb1⟩; have HR1 := hid (HR0.out.on hb1 (by have := hz0.out; omega)); have HG1 := hid (HG0.out.trans (grown_of_below hb1 _)); have Q1 := hid (Q0.out.below hb1 (by have := hz0.out; omega)); have HE1 := hid (HE0.out.on (hb1.mono (by have := hz0.out; omega))); have hz1 := Nat.le_trans hz0.out hb1.size; clear hb1)
   | (go_at_call 52; (with_reducible refine (cI.out _ _ _ (Blk.new rfl)).mono ?_); rintro e W2 ⟨⟨r, rfl, hr⟩, rfl⟩))
  exact ⟨rfl, 4, .inr rfl, rfl, grown_alloc HG1.out _⟩
end clb
namespace clb
open Go.RowKit base tok dim rul cal
theorem shp_low {k : Int} (h : k = 2 ∨ k = 3 ∨ k = 4 ∨ k = 5) (m : Nat) : shapedP k m = decide (m = 2) := by
 unfold shapedP
 rw [if_neg (by omega), if_pos (by omega)]
theorem shp_many {k : Int} (h : k = 6 ∨ k = 7) (m : Nat) : shapedP k m = decide (0 < m) := by
 unfold shapedP
 rw [if_neg (by omega), if_neg (by omega), if_pos h]
theorem shp_mid (m : Nat) : shapedP 8 m = decide (m = 3) := by
 unfold shapedP
 rw [if_neg (by decide), if_neg (by decide), if_neg (by decide), if_pos rfl]
theorem shaped_any (k n : Int) (u : ByteArray) (A : Option Addr) (m cap : Nat) (hk : (k = 2 ∨ k = 3 ∨ k = 4 ∨ k = 5) ∨ (k = 6 ∨ k = 7) ∨ k = 8) (w : World) :
  Calls Tryz.prog 64 #[.agg #[.int .i64 k, .int .i64 n, .string u, .slice A m cap]] w (rt w (.bool (shapedP k m))) := by
 have hb := hid (show Below w.heap.size w (w.alloc (.cells #[.int .i64 k, .int .i64 n, .string u, .slice A m cap] 50)) from (Below.refl w.heap.size w).alloc (Nat.le_refl _) _)
 rcases hk with hk | hk | rfl
 ·rw [shp_low hk]
  by_cases hm : m = 2
  ·subst hm
   rcases hk with rfl | rfl | rfl | rfl
   all_goals
    go_enter Tryz.func64, Tryz.ntmps64
    go_wp2
    go_ret
    exact ⟨rfl, hb.out⟩
  ·rw [decide_eq_false hm]
   have h1 : ((m : Int) == 2) = false := by rw [beq_eq_false_iff_ne]; omega
   rcases hk with rfl | rfl | rfl | rfl
   all_goals
    go_enter Tryz.func64, Tryz.ntmps64
    go_wp2
    go_ret
    exact ⟨rfl, hb.out⟩
 ·rw [shp_many hk]
  by_cases hm : 0 < m
  ·rw [decide_eq_true hm]
   have h1 : (0 : Int) < (m : Int) := by omega
   rcases hk with rfl | rfl
   all_goals
    go_enter Tryz.func64, Tryz.ntmps64
    go_wp2
    go_ret
    exact ⟨rfl, hb.out⟩
  ·obtain rfl : m = 0 := by omega
   rcases hk with rfl | rfl
   all_goals
    go_enter Tryz.func64, Tryz.ntmps64
    go_wp2
    go_ret
    exact ⟨rfl, hb.out⟩
 ·rw [shp_mid]
  by_cases hm : m = 3
  ·subst hm
   go_enter Tryz.func64, Tryz.ntmps64
   go_wp2
   go_ret
   exact ⟨rfl, hb.out⟩
  ·rw [decide_eq_false hm]
   have h1 : ((m : Int) == 3) = false := by rw [beq_eq_false_iff_ne]; omega
   go_enter Tryz.func64, Tryz.ntmps64
   go_wp2
   go_ret
   exact ⟨rfl, hb.out⟩
end clb
end Go.Proofs.YtlfkkaofgcongaaGreatDoor
