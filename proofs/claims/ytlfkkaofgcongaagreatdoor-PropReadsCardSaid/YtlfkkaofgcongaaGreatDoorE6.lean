/- Contracts and plain law, a bundle. -/
import Derived.Lib.Hide
import Derived.Test.YtlfkkaofgcongaaGreatDoorE5
import Derived.Test.YtlfkkaofgcongaaGreatDoorE4
import Derived.Test.YtlfkkaofgcongaaGreatDoorE0
set_option linter.unusedVariables false
set_option maxRecDepth 100000
set_option maxHeartbeats 16000000
open Go.Lib (hid)
namespace Go.Proofs.YtlfkkaofgcongaaGreatDoor
namespace cal
open Go.RowKit base tok dim rul
end cal
namespace clb
open Go.RowKit base tok dim rul cal
theorem _root_.Go.Proofs.YtlfkkaofgcongaaGreatDoor.cal.Env.now {b : Nat} {w : World} (h : Env b w) : MaxL w /\ UnitsAt w := h w (Below.refl _ _)
theorem v_nil (b : Nat) (k : Int) (g inb : Bool) (w : World) (h : RdrAt w b [] k g) :
  Calls Tryz.prog 62 #[.pointer (some ⟨b, 0, none⟩), .bool inb] w fun e w' => ∃ x, IsErr x /\ e = .panicked (chainP x) /\ w.grownBy w' (some b) := by
 have cX := hid (need_no b)
 have HG := hid (show w.grownBy (w.alloc (.cells #[.int .i64 0, .int .i64 0, .string ⟨#[]⟩, .slice none 0 0] 50)) (some b) from grown_alloc (World.grownBy.refl _ _) _)
 have hlt := h.lt
 obtain ⟨A, cap, hl, hcl⟩ := (h.alloc (.cells #[.int .i64 0, .int .i64 0, .string ⟨#[]⟩, .slice none 0 0] 50)).noneL
 clear h
 go_enter Tryz.func62, Tryz.ntmps62
 go_wp2_with (go_at_call 63; (with_reducible refine (cX.out _).mono ?_); rintro e W9 ⟨rfl, rfl⟩)
 exact ⟨rfl, 4, .inr rfl, rfl, HG.out⟩
theorem v_num_bad (b : Nat) (raw u : Bs) (n : Int) (L : List Tk) (k : Int) (g inb : Bool) (hraw : raw.length < 4294967281) (hcut : cutP raw = [⟨7, raw, u, n⟩]) (hu : ¬ u ∈ unitsL) (w : World) (h : RdrAt w b (⟨7, raw, u, n⟩ :: L) k g) (hE : Env b w) :
  Calls Tryz.prog 62 #[.pointer (some ⟨b, 0, none⟩), .bool inb] w fun e w' => ∃ x, IsErr x /\ e = .panicked (chainP x) /\ w.grownBy w' (some b) := by
 have cR := hid (fun w (hm : MaxL w) (hU : UnitsAt w) => read_no (bs raw) hraw raw u n hcut hu w hm hU)
 have cN := hid (need_yes b)
 have cX := hid (need_no b)
 clear hraw hcut hu
 obtain ⟨tb, off, cap, hcp, htb, hlt, hcl, hfr, e0, e1, e2, e3, hnext, hsl⟩ := h.turn
 have hp : 0 < L.length + 1 := by omega
 have htb2 : tb < w.heap.size := by omega
 dsimp only at e0 e1 e2 e3
 have HV0 := hid (show Below b w (((w.setCell ⟨b, 0, none⟩ (.slice (addrAt 4 (some ⟨tb, off, none⟩) cap 1) L.length (cap - 1))).alloc (.cells #[.int .i64 0, .int .i64 0, .string ⟨#[]⟩, .slice none 0 0] 50)).alloc (.cells #[.int .i64 7, .string (bs raw), .string (bs u), .int .i64 n] 86)) from (((Below.refl b w).setCell (Nat.le_refl _) _).alloc (by simp; omega) _).alloc (by simp; omega) _)
 have HR0 := hid (show RdrAt (((w.setCell ⟨b, 0, none⟩ (.slice (addrAt 4 (some ⟨tb, off, none⟩) cap 1) L.length (cap - 1))).alloc (.cells #[.int .i64 0, .int .i64 0, .string ⟨#[]⟩, .slice none 0 0] 50)).alloc (.cells #[.int .i64 7, .string (bs raw), .string (bs u), .int .i64 n] 86)) b L k g from (hnext.alloc _).alloc _)
 have HG0 := hid (show w.grownBy (((w.setCell ⟨b, 0, none⟩ (.slice (addrAt 4 (some ⟨tb, off, none⟩) cap 1) L.length (cap - 1))).alloc (.cells #[.int .i64 0, .int .i64 0, .string ⟨#[]⟩, .slice none 0 0] 50)).alloc (.cells #[.int .i64 7, .string (bs raw), .string (bs u), .int .i64 n] 86)) (some b) from grown_alloc (grown_alloc (grown_set _ _ _ _) _) _)
 have Q0 := hid (show Blk (((w.setCell ⟨b, 0, none⟩ (.slice (addrAt 4 (some ⟨tb, off, none⟩) cap 1) L.length (cap - 1))).alloc (.cells #[.int .i64 0, .int .i64 0, .string ⟨#[]⟩, .slice none 0 0] 50)).alloc (.cells #[.int .i64 7, .string (bs raw), .string (bs u), .int .i64 n] 86)) w.heap.size 50 #[.int .i64 0, .int .i64 0, .string ⟨#[]⟩, .slice none 0 0] from (Blk.new (by simp)).alloc _)
 have P0 := hid (show Blk (((w.setCell ⟨b, 0, none⟩ (.slice (addrAt 4 (some ⟨tb, off, none⟩) cap 1) L.length (cap - 1))).alloc (.cells #[.int .i64 0, .int .i64 0, .string ⟨#[]⟩, .slice none 0 0] 50)).alloc (.cells #[.int .i64 7, .string (bs raw), .string (bs u), .int .i64 n] 86)) (w.heap.size + 1) 86 #[.int .i64 7, .string (bs raw), .string (bs u), .int .i64 n] from Blk.new (by simp))
 have HE0 := hid (hE.on HV0.out)
 have hz0 := hid (show w.heap.size + 2 <= (((w.setCell ⟨b, 0, none⟩ (.slice (addrAt 4 (some ⟨tb, off, none⟩) cap 1) L.length (cap - 1))).alloc (.cells #[.int .i64 0, .int .i64 0, .string ⟨#[]⟩, .slice none 0 0] 50)).alloc (.cells #[.int .i64 7, .string (bs raw), .string (bs u), .int .i64 n] 86)).heap.size by simp)
 clear h hnext hE HV0
 go_enter Tryz.func62, Tryz.ntmps62
 go_wp2_with (first
  | (go_at_call 63; (with_reducible refine (cN.out _).mono ?_); rintro e W1 ⟨rfl, rfl⟩)
  | (go_at_call 63; (with_reducible refine (cX.out _).mono ?_); rintro e W9 ⟨rfl, rfl⟩)
  | (go_at_call 90; (with_reducible refine (cR.out _ HE0.out.now.1 HE0.out.now.2).mono ?_); rintro e W1 ⟨rfl, hb1⟩; have HR1 := hid (HR0.out.on hb1 (by have := hz0.out; omega)); have HG1 := hid (HG0.out.trans (grown_of_below hb1 _)); clear hb1))
 exact ⟨rfl, 4, .inr rfl, rfl, grown_alloc HG1.out _⟩
theorem v_num_full (b : Nat) (raw u : Bs) (n : Int) (L : List Tk) (k : Int) (g inb : Bool) (hraw : raw.length < 4294967281) (hcut : cutP raw = [⟨7, raw, u, n⟩]) (hu : u ∈ unitsL) (hk : k = 30) (w : World) (h : RdrAt w b (⟨7, raw, u, n⟩ :: L) k g) (hE : Env b w) :
  Calls Tryz.prog 62 #[.pointer (some ⟨b, 0, none⟩), .bool inb] w fun e w' => ∃ x, IsErr x /\ e = .panicked (chainP x) /\ w.grownBy w' (some b) := by
 have cR := hid (fun w (hm : MaxL w) (hU : UnitsAt w) => read_ct (bs raw) hraw raw u n hcut hu w hm hU)
 have cN := hid (need_yes b)
 have cX := hid (need_no b)
 have cM := fun w h => made_no b L k g ⟨1, n, bs u, none, 0, 0⟩ hk w h
 dsimp only at cM
 replace cM := hid cM
 clear hraw hcut hu
 obtain ⟨tb, off, cap, hcp, htb, hlt, hcl, hfr, e0, e1, e2, e3, hnext, hsl⟩ := h.turn
 have hp : 0 < L.length + 1 := by omega
 have htb2 : tb < w.heap.size := by omega
 dsimp only at e0 e1 e2 e3
 have HV0 := hid (show Below b w (((w.setCell ⟨b, 0, none⟩ (.slice (addrAt 4 (some ⟨tb, off, none⟩) cap 1) L.length (cap - 1))).alloc (.cells #[.int .i64 0, .int .i64 0, .string ⟨#[]⟩, .slice none 0 0] 50)).alloc (.cells #[.int .i64 7, .string (bs raw), .string (bs u), .int .i64 n] 86)) from (((Below.refl b w).setCell (Nat.le_refl _) _).alloc (by simp; omega) _).alloc (by simp; omega) _)
 have HR0 := hid (show RdrAt (((w.setCell ⟨b, 0, none⟩ (.slice (addrAt 4 (some ⟨tb, off, none⟩) cap 1) L.length (cap - 1))).alloc (.cells #[.int .i64 0, .int .i64 0, .string ⟨#[]⟩, .slice none 0 0] 50)).alloc (.cells #[.int .i64 7, .string (bs raw), .string (bs u), .int .i64 n] 86)) b L k g from (hnext.alloc _).alloc _)
 have HG0 := hid (show w.grownBy (((w.setCell ⟨b, 0, none⟩ (.slice (addrAt 4 (some ⟨tb, off, none⟩) cap 1) L.length (cap - 1))).alloc (.cells #[.int .i64 0, .int .i64 0, .string ⟨#[]⟩, .slice none 0 0] 50)).alloc (.cells #[.int .i64 7, .string (bs raw), .string (bs u), .int .i64 n] 86)) (some b) from grown_alloc (grown_alloc (grown_set _ _ _ _) _) _)
 have Q0 := hid (show Blk (((w.setCell ⟨b, 0, none⟩ (.slice (addrAt 4 (some ⟨tb, off, none⟩) cap 1) L.length (cap - 1))).alloc (.cells #[.int .i64 0, .int .i64 0, .string ⟨#[]⟩, .slice none 0 0] 50)).alloc (.cells #[.int .i64 7, .string (bs raw), .string (bs u), .int .i64 n] 86)) w.heap.size 50 #[.int .i64 0, .int .i64 0, .string ⟨#[]⟩, .slice none 0 0] from (Blk.new (by simp)).alloc _)
 have P0 := hid (show Blk (((w.setCell ⟨b, 0, none⟩ (.slice (addrAt 4 (some ⟨tb, off, none⟩) cap 1) L.length (cap - 1))).alloc (.cells #[.int .i64 0, .int .i64 0, .string ⟨#[]⟩, .slice none 0 0] 50)).alloc (.cells #[.int .i64 7, .string (bs raw), .string (bs u), .int .i64 n] 86)) (w.heap.size + 1) 86 #[.int .i64 7, .string (bs raw), .string (bs u), .int .i64 n] from Blk.new (by simp))
 have HE0 := hid (hE.on HV0.out)
 have hz0 := hid (show w.heap.size + 2 <= (((w.setCell ⟨b, 0, none⟩ (.slice (addrAt 4 (some ⟨tb, off, none⟩) cap 1) L.length (cap - 1))).alloc (.cells #[.int .i64 0, .int .i64 0, .string ⟨#[]⟩, .slice none 0 0] 50)).alloc (.cells #[.int .i64 7, .string (bs raw), .string (bs u), .int .i64 n] 86)).heap.size by simp)
 clear h hnext hE HV0
 go_enter Tryz.func62, Tryz.ntmps62
 go_wp2_with (first
  | (go_at_call 63; (with_reducible refine (cN.out _).mono ?_); rintro e W1 ⟨rfl, rfl⟩)
  | (go_at_call 63; (with_reducible refine (cX.out _).mono ?_); rintro e W9 ⟨rfl, rfl⟩)
  | (go_at_call 90; (with_reducible refine (cR.out _ HE0.out.now.1 HE0.out.now.2).mono ?_); rintro e W1 ⟨rfl, hb1⟩; have HR1 := hid (HR0.out.on hb1 (by have := hz0.out; omega)); have HG1 := hid (HG0.out.trans (grown_of_below hb1 _)); clear hb1)
  | (go_at_call 91; (with_reducible refine (cM.out _ (HR1.out.alloc _)).mono ?_); rintro e W2 ⟨rfl, hg2⟩; have HG2 := hid ((grown_alloc HG1.out _).trans hg2); clear hg2))
 exact ⟨rfl, 2, .inl rfl, rfl, HG2.out⟩
theorem v_kind (b : Nat) (tk : Int) (raw val : Bs) (num : Int) (L : List Tk) (k : Int) (g inb : Bool) (hk7 : ¬ tk = 7) (hk2 : ¬ tk = 2) (hio : inb = false ∨ ¬ raw = [40]) (w : World) (h : RdrAt w b (⟨tk, raw, val, num⟩ :: L) k g) (hE : Env b w) :
  Calls Tryz.prog 62 #[.pointer (some ⟨b, 0, none⟩), .bool inb] w fun e w' => ∃ x, IsErr x /\ e = .panicked (chainP x) /\ w.grownBy w' (some b) := by
 have cN := hid (need_yes b)
 have cX := hid (need_no b)
 have n7 : (tk == 7) = false := by rw [beq_eq_false_iff_ne]; exact hk7
 have n2 : (tk == 2) = false := by rw [beq_eq_false_iff_ne]; exact hk2
 have hq : inb = false ∨ (inb = true /\ ((bs raw).toList == [40]) = false) := by
  cases inb with
  | false => exact .inl rfl
  | true => exact .inr ⟨rfl, by rw [bs_toList, beq_eq_false_iff_ne]; rcases hio with h | h; exact absurd h (by decide); exact h⟩
 clear hio hk7 hk2
 obtain ⟨tb, off, cap, hcp, htb, hlt, hcl, hfr, e0, e1, e2, e3, hnext, hsl⟩ := h.turn
 have hp : 0 < L.length + 1 := by omega
 have htb2 : tb < w.heap.size := by omega
 dsimp only at e0 e1 e2 e3
 have HV0 := hid (show Below b w (((w.setCell ⟨b, 0, none⟩ (.slice (addrAt 4 (some ⟨tb, off, none⟩) cap 1) L.length (cap - 1))).alloc (.cells #[.int .i64 0, .int .i64 0, .string ⟨#[]⟩, .slice none 0 0] 50)).alloc (.cells #[.int .i64 tk, .string (bs raw), .string (bs val), .int .i64 num] 86)) from (((Below.refl b w).setCell (Nat.le_refl _) _).alloc (by simp; omega) _).alloc (by simp; omega) _)
 have HR0 := hid (show RdrAt (((w.setCell ⟨b, 0, none⟩ (.slice (addrAt 4 (some ⟨tb, off, none⟩) cap 1) L.length (cap - 1))).alloc (.cells #[.int .i64 0, .int .i64 0, .string ⟨#[]⟩, .slice none 0 0] 50)).alloc (.cells #[.int .i64 tk, .string (bs raw), .string (bs val), .int .i64 num] 86)) b L k g from (hnext.alloc _).alloc _)
 have HG0 := hid (show w.grownBy (((w.setCell ⟨b, 0, none⟩ (.slice (addrAt 4 (some ⟨tb, off, none⟩) cap 1) L.length (cap - 1))).alloc (.cells #[.int .i64 0, .int .i64 0, .string ⟨#[]⟩, .slice none 0 0] 50)).alloc (.cells #[.int .i64 tk, .string (bs raw), .string (bs val), .int .i64 num] 86)) (some b) from grown_alloc (grown_alloc (grown_set _ _ _ _) _) _)
 have Q0 := hid (show Blk (((w.setCell ⟨b, 0, none⟩ (.slice (addrAt 4 (some ⟨tb, off, none⟩) cap 1) L.length (cap - 1))).alloc (.cells #[.int .i64 0, .int .i64 0, .string ⟨#[]⟩, .slice none 0 0] 50)).alloc (.cells #[.int .i64 tk, .string (bs raw), .string (bs val), .int .i64 num] 86)) w.heap.size 50 #[.int .i64 0, .int .i64 0, .string ⟨#[]⟩, .slice none 0 0] from (Blk.new (by simp)).alloc _)
 have P0 := hid (show Blk (((w.setCell ⟨b, 0, none⟩ (.slice (addrAt 4 (some ⟨tb, off, none⟩) cap 1) L.length (cap - 1))).alloc (.cells #[.int .i64 0, .int .i64 0, .string ⟨#[]⟩, .slice none 0 0] 50)).alloc (.cells #[.int .i64 tk, .string (bs raw), .string (bs val), .int .i64 num] 86)) (w.heap.size + 1) 86 #[.int .i64 tk, .string (bs raw), .string (bs val), .int .i64 num] from Blk.new (by simp))
 have HE0 := hid (hE.on HV0.out)
 have hz0 := hid (show w.heap.size + 2 <= (((w.setCell ⟨b, 0, none⟩ (.slice (addrAt 4 (some ⟨tb, off, none⟩) cap 1) L.length (cap - 1))).alloc (.cells #[.int .i64 0, .int .i64 0, .string ⟨#[]⟩, .slice none 0 0] 50)).alloc (.cells #[.int .i64 tk, .string (bs raw), .string (bs val), .int .i64 num] 86)).heap.size by simp)
 clear h hnext hE HV0
 rcases hq with rfl | ⟨rfl, q40⟩
 all_goals
  go_enter Tryz.func62, Tryz.ntmps62
  go_wp2_with (first
   | (go_at_call 63; (with_reducible refine (cN.out _).mono ?_); rintro e W1 ⟨rfl, rfl⟩)
   | (go_at_call 63; (with_reducible refine (cX.out _).mono ?_); rintro e W9 ⟨rfl, rfl⟩))
  exact ⟨rfl, 4, .inr rfl, rfl, HG0.out⟩
theorem v_open_die (b : Nat) (tk : Int) (raw val : Bs) (num : Int) (L : List Tk) (k : Int) (g : Bool) (hk7 : ¬ tk = 7) (hraw : raw = [40]) (hS : ∀ w, RdrAt w b L k g -> Env b w -> Calls Tryz.prog 92 #[.pointer (some ⟨b, 0, none⟩)] w fun e w' => w.grownBy w' (some b) /\ ∃ x, IsErr x /\ e = .panicked (chainP x)) (w : World) (h : RdrAt w b (⟨tk, raw, val, num⟩ :: L) k g) (hE : Env b w) :
  Calls Tryz.prog 62 #[.pointer (some ⟨b, 0, none⟩), .bool true] w fun e w' => ∃ x, IsErr x /\ e = .panicked (chainP x) /\ w.grownBy w' (some b) := by
 have cS := hid hS
 have cN := hid (need_yes b)
 have cX := hid (need_no b)
 have n7 : (tk == 7) = false := by rw [beq_eq_false_iff_ne]; exact hk7
 have q40 : ((bs raw).toList == [40]) = true := by rw [bs_toList, hraw]; rfl
 clear hS hk7 hraw
 obtain ⟨tb, off, cap, hcp, htb, hlt, hcl, hfr, e0, e1, e2, e3, hnext, hsl⟩ := h.turn
 have hp : 0 < L.length + 1 := by omega
 have htb2 : tb < w.heap.size := by omega
 dsimp only at e0 e1 e2 e3
 have HV0 := hid (show Below b w (((w.setCell ⟨b, 0, none⟩ (.slice (addrAt 4 (some ⟨tb, off, none⟩) cap 1) L.length (cap - 1))).alloc (.cells #[.int .i64 0, .int .i64 0, .string ⟨#[]⟩, .slice none 0 0] 50)).alloc (.cells #[.int .i64 tk, .string (bs raw), .string (bs val), .int .i64 num] 86)) from (((Below.refl b w).setCell (Nat.le_refl _) _).alloc (by simp; omega) _).alloc (by simp; omega) _)
 have HR0 := hid (show RdrAt (((w.setCell ⟨b, 0, none⟩ (.slice (addrAt 4 (some ⟨tb, off, none⟩) cap 1) L.length (cap - 1))).alloc (.cells #[.int .i64 0, .int .i64 0, .string ⟨#[]⟩, .slice none 0 0] 50)).alloc (.cells #[.int .i64 tk, .string (bs raw), .string (bs val), .int .i64 num] 86)) b L k g from (hnext.alloc _).alloc _)
 have HG0 := hid (show w.grownBy (((w.setCell ⟨b, 0, none⟩ (.slice (addrAt 4 (some ⟨tb, off, none⟩) cap 1) L.length (cap - 1))).alloc (.cells #[.int .i64 0, .int .i64 0, .string ⟨#[]⟩, .slice none 0 0] 50)).alloc (.cells #[.int .i64 tk, .string (bs raw), .string (bs val), .int .i64 num] 86)) (some b) from grown_alloc (grown_alloc (grown_set _ _ _ _) _) _)
 have Q0 := hid (show Blk (((w.setCell ⟨b, 0, none⟩ (.slice (addrAt 4 (some ⟨tb, off, none⟩) cap 1) L.length (cap - 1))).alloc (.cells #[.int .i64 0, .int .i64 0, .string ⟨#[]⟩, .slice none 0 0] 50)).alloc (.cells #[.int .i64 tk, .string (bs raw), .string (bs val), .int .i64 num] 86)) w.heap.size 50 #[.int .i64 0, .int .i64 0, .string ⟨#[]⟩, .slice none 0 0] from (Blk.new (by simp)).alloc _)
 have P0 := hid (show Blk (((w.setCell ⟨b, 0, none⟩ (.slice (addrAt 4 (some ⟨tb, off, none⟩) cap 1) L.length (cap - 1))).alloc (.cells #[.int .i64 0, .int .i64 0, .string ⟨#[]⟩, .slice none 0 0] 50)).alloc (.cells #[.int .i64 tk, .string (bs raw), .string (bs val), .int .i64 num] 86)) (w.heap.size + 1) 86 #[.int .i64 tk, .string (bs raw), .string (bs val), .int .i64 num] from Blk.new (by simp))
 have HE0 := hid (hE.on HV0.out)
 have hz0 := hid (show w.heap.size + 2 <= (((w.setCell ⟨b, 0, none⟩ (.slice (addrAt 4 (some ⟨tb, off, none⟩) cap 1) L.length (cap - 1))).alloc (.cells #[.int .i64 0, .int .i64 0, .string ⟨#[]⟩, .slice none 0 0] 50)).alloc (.cells #[.int .i64 tk, .string (bs raw), .string (bs val), .int .i64 num] 86)).heap.size by simp)
 clear h hnext hE HV0
 go_enter Tryz.func62, Tryz.ntmps62
 go_wp2_with (first
  | (go_at_call 63; (with_reducible refine (cN.out _).mono ?_); rintro e W1 ⟨rfl, rfl⟩)
  | (go_at_call 63; (with_reducible refine (cX.out _).mono ?_); rintro e W9 ⟨rfl, rfl⟩)
  | (go_at_call 92; (with_reducible refine (cS.out _ HR0.out HE0.out).mono ?_); rintro e W2 ⟨hg2, x, hx, rfl⟩; have HX := hid hx; have HG2 := hid (HG0.out.trans hg2); clear hg2 hx))
 exact ⟨rfl, x, HX.out, rfl, HG2.out⟩
theorem v_open_end (b : Nat) (tk : Int) (raw val : Bs) (num : Int) (L : List Tk) (k : Int) (g : Bool) (hk7 : ¬ tk = 7) (hraw : raw = [40]) (T : List Tk) (te : Te) (m : Int) (g2 : Bool) (hS : ∀ w, RdrAt w b L k g -> Env b w -> Calls Tryz.prog 92 #[.pointer (some ⟨b, 0, none⟩)] w fun e w' => w.grownBy w' (some b) /\ ∃ v, e = .returned v /\ TeAt (fun c => w.heap.size <= c) w' te v /\ RdrAt w' b [] m g2) (w : World) (h : RdrAt w b (⟨tk, raw, val, num⟩ :: L) k g) (hE : Env b w) :
  Calls Tryz.prog 62 #[.pointer (some ⟨b, 0, none⟩), .bool true] w fun e w' => ∃ x, IsErr x /\ e = .panicked (chainP x) /\ w.grownBy w' (some b) := by
 have cS := hid hS
 have cN := hid (need_yes b)
 have cX := hid (need_no b)
 have cR := hid (fun w h => raw_end b m g2 ⟨#[41]⟩ w h)
 have n7 : (tk == 7) = false := by rw [beq_eq_false_iff_ne]; exact hk7
 have q40 : ((bs raw).toList == [40]) = true := by rw [bs_toList, hraw]; rfl
 clear hS hk7 hraw
 obtain ⟨tb, off, cap, hcp, htb, hlt, hcl, hfr, e0, e1, e2, e3, hnext, hsl⟩ := h.turn
 have hp : 0 < L.length + 1 := by omega
 have htb2 : tb < w.heap.size := by omega
 dsimp only at e0 e1 e2 e3
 have HV0 := hid (show Below b w (((w.setCell ⟨b, 0, none⟩ (.slice (addrAt 4 (some ⟨tb, off, none⟩) cap 1) L.length (cap - 1))).alloc (.cells #[.int .i64 0, .int .i64 0, .string ⟨#[]⟩, .slice none 0 0] 50)).alloc (.cells #[.int .i64 tk, .string (bs raw), .string (bs val), .int .i64 num] 86)) from (((Below.refl b w).setCell (Nat.le_refl _) _).alloc (by simp; omega) _).alloc (by simp; omega) _)
 have HR0 := hid (show RdrAt (((w.setCell ⟨b, 0, none⟩ (.slice (addrAt 4 (some ⟨tb, off, none⟩) cap 1) L.length (cap - 1))).alloc (.cells #[.int .i64 0, .int .i64 0, .string ⟨#[]⟩, .slice none 0 0] 50)).alloc (.cells #[.int .i64 tk, .string (bs raw), .string (bs val), .int .i64 num] 86)) b L k g from (hnext.alloc _).alloc _)
 have HG0 := hid (show w.grownBy (((w.setCell ⟨b, 0, none⟩ (.slice (addrAt 4 (some ⟨tb, off, none⟩) cap 1) L.length (cap - 1))).alloc (.cells #[.int .i64 0, .int .i64 0, .string ⟨#[]⟩, .slice none 0 0] 50)).alloc (.cells #[.int .i64 tk, .string (bs raw), .string (bs val), .int .i64 num] 86)) (some b) from grown_alloc (grown_alloc (grown_set _ _ _ _) _) _)
 have Q0 := hid (show Blk (((w.setCell ⟨b, 0, none⟩ (.slice (addrAt 4 (some ⟨tb, off, none⟩) cap 1) L.length (cap - 1))).alloc (.cells #[.int .i64 0, .int .i64 0, .string ⟨#[]⟩, .slice none 0 0] 50)).alloc (.cells #[.int .i64 tk, .string (bs raw), .string (bs val), .int .i64 num] 86)) w.heap.size 50 #[.int .i64 0, .int .i64 0, .string ⟨#[]⟩, .slice none 0 0] from (Blk.new (by simp)).alloc _)
 have P0 := hid (show Blk (((w.setCell ⟨b, 0, none⟩ (.slice (addrAt 4 (some ⟨tb, off, none⟩) cap 1) L.length (cap - 1))).alloc (.cells #[.int .i64 0, .int .i64 0, .string ⟨#[]⟩, .slice none 0 0] 50)).alloc (.cells #[.int .i64 tk, .string (bs raw), .string (bs val), .int .i64 num] 86)) (w.heap.size + 1) 86 #[.int .i64 tk, .string (bs raw), .string (bs val), .int .i64 num] from Blk.new (by simp))
 have HE0 := hid (hE.on HV0.out)
 have hz0 := hid (show w.heap.size + 2 <= (((w.setCell ⟨b, 0, none⟩ (.slice (addrAt 4 (some ⟨tb, off, none⟩) cap 1) L.length (cap - 1))).alloc (.cells #[.int .i64 0, .int .i64 0, .string ⟨#[]⟩, .slice none 0 0] 50)).alloc (.cells #[.int .i64 tk, .string (bs raw), .string (bs val), .int .i64 num] 86)).heap.size by simp)
 clear h hnext hE HV0
 go_enter Tryz.func62, Tryz.ntmps62
 go_wp2_with (first
  | (go_at_call 63; (with_reducible refine (cN.out _).mono ?_); rintro e W1 ⟨rfl, rfl⟩)
  | (go_at_call 63; (with_reducible refine (cX.out _).mono ?_); rintro e W9 ⟨rfl, rfl⟩)
  | (go_at_call 92; (with_reducible refine (cS.out _ HR0.out HE0.out).mono ?_); rintro e W2 ⟨hg2, v, rfl, ht2, hr2⟩; obtain ⟨sk, sn, su, sa, sl, sc, rfl⟩ := ht2.four; have HR2 := hid (hr2.alloc (.cells #[.int .i64 sk, .int .i64 sn, .string su, .slice sa sl sc] 50)); have HG2 := hid (grown_alloc (HG0.out.trans hg2) (.cells #[.int .i64 sk, .int .i64 sn, .string su, .slice sa sl sc] 50)); have Q2 := hid ((Blk_grown Q0.out hg2 (by omega)).alloc (.cells #[.int .i64 sk, .int .i64 sn, .string su, .slice sa sl sc] 50)); have P2 := hid (show Blk (W2.alloc (.cells #[.int .i64 sk, .int .i64 sn, .string su, .slice sa sl sc] 50)) W2.heap.size 50 #[.int .i64 sk, .int .i64 sn, .string su, .slice sa sl sc] from Blk.new rfl); have T2 := hid ((ht2.wide (Y := fun c => w.heap.size + 2 <= c) (fun c h _ => Nat.le_trans hz0.out h)).on ((Below.refl _ _).alloc (Nat.le_refl _) (.cells #[.int .i64 sk, .int .i64 sn, .string su, .slice sa sl sc] 50))); have hz2 := Nat.le_trans hz0.out hg2.size; clear ht2 hr2 hg2)
  | (go_at_call 93; (with_reducible refine (cR.out _ HR2.out).mono ?_); rintro e W3 ⟨rfl, rfl⟩))
 exact ⟨rfl, 4, .inr rfl, rfl, HG2.out⟩
theorem v_open_bad (b : Nat) (c : Tk) (hc : c.raw ≠ [41]) (tk : Int) (raw val : Bs) (num : Int) (L : List Tk) (k : Int) (g : Bool) (hk7 : ¬ tk = 7) (hraw : raw = [40]) (T : List Tk) (te : Te) (m : Int) (g2 : Bool) (hS : ∀ w, RdrAt w b L k g -> Env b w -> Calls Tryz.prog 92 #[.pointer (some ⟨b, 0, none⟩)] w fun e w' => w.grownBy w' (some b) /\ ∃ v, e = .returned v /\ TeAt (fun c => w.heap.size <= c) w' te v /\ RdrAt w' b (c :: T) m g2) (w : World) (h : RdrAt w b (⟨tk, raw, val, num⟩ :: L) k g) (hE : Env b w) :
  Calls Tryz.prog 62 #[.pointer (some ⟨b, 0, none⟩), .bool true] w fun e w' => ∃ x, IsErr x /\ e = .panicked (chainP x) /\ w.grownBy w' (some b) := by
 have cS := hid hS
 have cN := hid (need_yes b)
 have cX := hid (need_no b)
 have cR := hid (fun w h => raw_no b c T m g2 ⟨#[41]⟩ w h hc)
 have n7 : (tk == 7) = false := by rw [beq_eq_false_iff_ne]; exact hk7
 have q40 : ((bs raw).toList == [40]) = true := by rw [bs_toList, hraw]; rfl
 clear hS hk7 hraw
 obtain ⟨tb, off, cap, hcp, htb, hlt, hcl, hfr, e0, e1, e2, e3, hnext, hsl⟩ := h.turn
 have hp : 0 < L.length + 1 := by omega
 have htb2 : tb < w.heap.size := by omega
 dsimp only at e0 e1 e2 e3
 have HV0 := hid (show Below b w (((w.setCell ⟨b, 0, none⟩ (.slice (addrAt 4 (some ⟨tb, off, none⟩) cap 1) L.length (cap - 1))).alloc (.cells #[.int .i64 0, .int .i64 0, .string ⟨#[]⟩, .slice none 0 0] 50)).alloc (.cells #[.int .i64 tk, .string (bs raw), .string (bs val), .int .i64 num] 86)) from (((Below.refl b w).setCell (Nat.le_refl _) _).alloc (by simp; omega) _).alloc (by simp; omega) _)
 have HR0 := hid (show RdrAt (((w.setCell ⟨b, 0, none⟩ (.slice (addrAt 4 (some ⟨tb, off, none⟩) cap 1) L.length (cap - 1))).alloc (.cells #[.int .i64 0, .int .i64 0, .string ⟨#[]⟩, .slice none 0 0] 50)).alloc (.cells #[.int .i64 tk, .string (bs raw), .string (bs val), .int .i64 num] 86)) b L k g from (hnext.alloc _).alloc _)
 have HG0 := hid (show w.grownBy (((w.setCell ⟨b, 0, none⟩ (.slice (addrAt 4 (some ⟨tb, off, none⟩) cap 1) L.length (cap - 1))).alloc (.cells #[.int .i64 0, .int .i64 0, .string ⟨#[]⟩, .slice none 0 0] 50)).alloc (.cells #[.int .i64 tk, .string (bs raw), .string (bs val), .int .i64 num] 86)) (some b) from grown_alloc (grown_alloc (grown_set _ _ _ _) _) _)
 have Q0 := hid (show Blk (((w.setCell ⟨b, 0, none⟩ (.slice (addrAt 4 (some ⟨tb, off, none⟩) cap 1) L.length (cap - 1))).alloc (.cells #[.int .i64 0, .int .i64 0, .string ⟨#[]⟩, .slice none 0 0] 50)).alloc (.cells #[.int .i64 tk, .string (bs raw), .string (bs val), .int .i64 num] 86)) w.heap.size 50 #[.int .i64 0, .int .i64 0, .string ⟨#[]⟩, .slice none 0 0] from (Blk.new (by simp)).alloc _)
 have P0 := hid (show Blk (((w.setCell ⟨b, 0, none⟩ (.slice (addrAt 4 (some ⟨tb, off, none⟩) cap 1) L.length (cap - 1))).alloc (.cells #[.int .i64 0, .int .i64 0, .string ⟨#[]⟩, .slice none 0 0] 50)).alloc (.cells #[.int .i64 tk, .string (bs raw), .string (bs val), .int .i64 num] 86)) (w.heap.size + 1) 86 #[.int .i64 tk, .string (bs raw), .string (bs val), .int .i64 num] from Blk.new (by simp))
 have HE0 := hid (hE.on HV0.out)
 have hz0 := hid (show w.heap.size + 2 <= (((w.setCell ⟨b, 0, none⟩ (.slice (addrAt 4 (some ⟨tb, off, none⟩) cap 1) L.length (cap - 1))).alloc (.cells #[.int .i64 0, .int .i64 0, .string ⟨#[]⟩, .slice none 0 0] 50)).alloc (.cells #[.int .i64 tk, .string (bs raw), .string (bs val), .int .i64 num] 86)).heap.size by simp)
 clear h hnext hE HV0
 go_enter Tryz.func62, Tryz.ntmps62
 go_wp2_with (first
  | (go_at_call 63; (with_reducible refine (cN.out _).mono ?_); rintro e W1 ⟨rfl, rfl⟩)
  | (go_at_call 63; (with_reducible refine (cX.out _).mono ?_); rintro e W9 ⟨rfl, rfl⟩)
  | (go_at_call 92; (with_reducible refine (cS.out _ HR0.out HE0.out).mono ?_); rintro e W2 ⟨hg2, v, rfl, ht2, hr2⟩; obtain ⟨sk, sn, su, sa, sl, sc, rfl⟩ := ht2.four; have HR2 := hid (hr2.alloc (.cells #[.int .i64 sk, .int .i64 sn, .string su, .slice sa sl sc] 50)); have HG2 := hid (grown_alloc (HG0.out.trans hg2) (.cells #[.int .i64 sk, .int .i64 sn, .string su, .slice sa sl sc] 50)); have Q2 := hid ((Blk_grown Q0.out hg2 (by omega)).alloc (.cells #[.int .i64 sk, .int .i64 sn, .string su, .slice sa sl sc] 50)); have P2 := hid (show Blk (W2.alloc (.cells #[.int .i64 sk, .int .i64 sn, .string su, .slice sa sl sc] 50)) W2.heap.size 50 #[.int .i64 sk, .int .i64 sn, .string su, .slice sa sl sc] from Blk.new rfl); have T2 := hid ((ht2.wide (Y := fun c => w.heap.size + 2 <= c) (fun c h _ => Nat.le_trans hz0.out h)).on ((Below.refl _ _).alloc (Nat.le_refl _) (.cells #[.int .i64 sk, .int .i64 sn, .string su, .slice sa sl sc] 50))); have hz2 := Nat.le_trans hz0.out hg2.size; clear ht2 hr2 hg2)
  | (go_at_call 93; (with_reducible refine (cR.out _ HR2.out).mono ?_); rintro e W3 ⟨rfl, rfl⟩))
 exact ⟨rfl, 4, .inr rfl, rfl, HG2.out⟩
theorem v_open_ok (b : Nat) (c : Tk) (hc : c.raw = [41]) (tk : Int) (raw val : Bs) (num : Int) (L : List Tk) (k : Int) (g : Bool) (hk7 : ¬ tk = 7) (hraw : raw = [40]) (T : List Tk) (te : Te) (m : Int) (g2 : Bool) (hS : ∀ w, RdrAt w b L k g -> Env b w -> Calls Tryz.prog 92 #[.pointer (some ⟨b, 0, none⟩)] w fun e w' => w.grownBy w' (some b) /\ ∃ v, e = .returned v /\ TeAt (fun c => w.heap.size <= c) w' te v /\ RdrAt w' b (c :: T) m g2) (w : World) (h : RdrAt w b (⟨tk, raw, val, num⟩ :: L) k g) (hE : Env b w) :
  Calls Tryz.prog 62 #[.pointer (some ⟨b, 0, none⟩), .bool true] w fun e w' => w.grownBy w' (some b) /\ ∃ v, e = .returned v /\ TeAt (fun c => w.heap.size <= c) w' te v /\ RdrAt w' b T m g2 := by
 have cS := hid hS
 have cN := hid (need_yes b)
 have cX := hid (need_no b)
 have cR := hid (fun w h => raw_yes b c T m g2 ⟨#[41]⟩ w h hc)
 have n7 : (tk == 7) = false := by rw [beq_eq_false_iff_ne]; exact hk7
 have q40 : ((bs raw).toList == [40]) = true := by rw [bs_toList, hraw]; rfl
 clear hS hk7 hraw
 obtain ⟨tb, off, cap, hcp, htb, hlt, hcl, hfr, e0, e1, e2, e3, hnext, hsl⟩ := h.turn
 have hp : 0 < L.length + 1 := by omega
 have htb2 : tb < w.heap.size := by omega
 dsimp only at e0 e1 e2 e3
 have HV0 := hid (show Below b w (((w.setCell ⟨b, 0, none⟩ (.slice (addrAt 4 (some ⟨tb, off, none⟩) cap 1) L.length (cap - 1))).alloc (.cells #[.int .i64 0, .int .i64 0, .string ⟨#[]⟩, .slice none 0 0] 50)).alloc (.cells #[.int .i64 tk, .string (bs raw), .string (bs val), .int .i64 num] 86)) from (((Below.refl b w).setCell (Nat.le_refl _) _).alloc (by simp; omega) _).alloc (by simp; omega) _)
 have HR0 := hid (show RdrAt (((w.setCell ⟨b, 0, none⟩ (.slice (addrAt 4 (some ⟨tb, off, none⟩) cap 1) L.length (cap - 1))).alloc (.cells #[.int .i64 0, .int .i64 0, .string ⟨#[]⟩, .slice none 0 0] 50)).alloc (.cells #[.int .i64 tk, .string (bs raw), .string (bs val), .int .i64 num] 86)) b L k g from (hnext.alloc _).alloc _)
 have HG0 := hid (show w.grownBy (((w.setCell ⟨b, 0, none⟩ (.slice (addrAt 4 (some ⟨tb, off, none⟩) cap 1) L.length (cap - 1))).alloc (.cells #[.int .i64 0, .int .i64 0, .string ⟨#[]⟩, .slice none 0 0] 50)).alloc (.cells #[.int .i64 tk, .string (bs raw), .string (bs val), .int .i64 num] 86)) (some b) from grown_alloc (grown_alloc (grown_set _ _ _ _) _) _)
 have Q0 := hid (show Blk (((w.setCell ⟨b, 0, none⟩ (.slice (addrAt 4 (some ⟨tb, off, none⟩) cap 1) L.length (cap - 1))).alloc (.cells #[.int .i64 0, .int .i64 0, .string ⟨#[]⟩, .slice none 0 0] 50)).alloc (.cells #[.int .i64 tk, .string (bs raw), .string (bs val), .int .i64 num] 86)) w.heap.size 50 #[.int .i64 0, .int .i64 0, .string ⟨#[]⟩, .slice none 0 0] from (Blk.new (by simp)).alloc _)
 have P0 := hid (show Blk (((w.setCell ⟨b, 0, none⟩ (.slice (addrAt 4 (some ⟨tb, off, none⟩) cap 1) L.length (cap - 1))).alloc (.cells #[.int .i64 0, .int .i64 0, .string ⟨#[]⟩, .slice none 0 0] 50)).alloc (.cells #[.int .i64 tk, .string (bs raw), .string (bs val), .int .i64 num] 86)) (w.heap.size + 1) 86 #[.int .i64 tk, .string (bs raw), .string (bs val), .int .i64 num] from Blk.new (by simp))
 have HE0 := hid (hE.on HV0.out)
 have hz0 := hid (show w.heap.size + 2 <= (((w.setCell ⟨b, 0, none⟩ (.slice (addrAt 4 (some ⟨tb, off, none⟩) cap 1) L.length (cap - 1))).alloc (.cells #[.int .i64 0, .int .i64 0, .string ⟨#[]⟩, .slice none 0 0] 50)).alloc (.cells #[.int .i64 tk, .string (bs raw), .string (bs val), .int .i64 num] 86)).heap.size by simp)
 clear h hnext hE HV0
 go_enter Tryz.func62, Tryz.ntmps62
 go_wp2_with (first
  | (go_at_call 63; (with_reducible refine (cN.out _).mono ?_); rintro e W1 ⟨rfl, rfl⟩)
  | (go_at_call 63; (with_reducible refine (cX.out _).mono ?_); rintro e W9 ⟨rfl, rfl⟩)
  | (go_at_call 92; (with_reducible refine (cS.out _ HR0.out HE0.out).mono ?_); rintro e W2 ⟨hg2, v, rfl, ht2, hr2⟩; obtain ⟨sk, sn, su, sa, sl, sc, rfl⟩ := ht2.four; have HR2 := hid (hr2.alloc (.cells #[.int .i64 sk, .int .i64 sn, .string su, .slice sa sl sc] 50)); have HG2 := hid (grown_alloc (HG0.out.trans hg2) (.cells #[.int .i64 sk, .int .i64 sn, .string su, .slice sa sl sc] 50)); have Q2 := hid ((Blk_grown Q0.out hg2 (by omega)).alloc (.cells #[.int .i64 sk, .int .i64 sn, .string su, .slice sa sl sc] 50)); have P2 := hid (show Blk (W2.alloc (.cells #[.int .i64 sk, .int .i64 sn, .string su, .slice sa sl sc] 50)) W2.heap.size 50 #[.int .i64 sk, .int .i64 sn, .string su, .slice sa sl sc] from Blk.new rfl); have T2 := hid ((ht2.wide (Y := fun c => w.heap.size + 2 <= c) (fun c h _ => Nat.le_trans hz0.out h)).on ((Below.refl _ _).alloc (Nat.le_refl _) (.cells #[.int .i64 sk, .int .i64 sn, .string su, .slice sa sl sc] 50))); have hz2 := Nat.le_trans hz0.out hg2.size; clear ht2 hr2 hg2)
  | (go_at_call 93; (with_reducible refine (cR.out _ HR2.out).mono ?_); rintro e W3 ⟨rfl, hr3, hg3⟩; have HR3 := hid hr3; have HG3 := hid (HG2.out.trans hg3); have Q3 := Blk_grown Q2.out hg3 (by omega); have P3 := Blk_grown P2.out hg3 (by omega); have T3 := hid (T2.out.grown hg3 (fun c (h : w.heap.size + 2 <= c) => by omega)); have q3c := Q3.cell; have q3f := Q3.frozen; have p3c := P3.cell; have hz3 := hg3.size; rw [World.size_alloc] at hz3; clear hr3 hg3 P3; replace Q3 := hid Q3))
 have e := Blk.cell (Blk.four (Q3.out) (.int .i64 sk) (.int .i64 sn) (.string su) (.slice sa sl sc))
 refine bodyPost_ret (v := .agg #[.int .i64 sk, .int .i64 sn, .string su, .slice sa sl sc]) (by simp [results, Tryz.results62, go_sem, e]) rfl ⟨?_, _, rfl, ?_, ?_⟩
 ·exact grown_far (grown_far (grown_far (grown_far HG3.out (Nat.le_refl _)) (Nat.le_refl _)) (Nat.le_refl _)) (Nat.le_refl _)
 ·exact TeAt.wide (((((T3.out.far (p := ⟨w.heap.size, 0, none⟩) (fun c (h : w.heap.size + 2 <= c) => by dsimp only; omega) _).far (p := ⟨w.heap.size, 1, none⟩) (fun c (h : w.heap.size + 2 <= c) => by dsimp only; omega) _).far (p := ⟨w.heap.size, 2, none⟩) (fun c (h : w.heap.size + 2 <= c) => by dsimp only; omega) _).far (p := ⟨w.heap.size, 3, none⟩) (fun c (h : w.heap.size + 2 <= c) => by dsimp only; omega) _)) (fun c (h : w.heap.size + 2 <= c) _ => (by omega : w.heap.size <= c))
 ·exact (((HR3.out.far (by dsimp only; omega) _).far (by dsimp only; omega) _).far (by dsimp only; omega) _).far (by dsimp only; omega) _
theorem v_calc_die (b : Nat) (raw val : Bs) (num : Int) (L : List Tk) (k : Int) (g inb : Bool) (hval : val.map lowB = calcT) (hio : inb = false ∨ ¬ raw = [40]) (hvl : val.length <= 400) (hS : ∀ w, RdrAt w b L k g -> Env b w -> Calls Tryz.prog 92 #[.pointer (some ⟨b, 0, none⟩)] w fun e w' => w.grownBy w' (some b) /\ ∃ x, IsErr x /\ e = .panicked (chainP x)) (w : World) (h : RdrAt w b (⟨2, raw, val, num⟩ :: L) k g) (hE : Env b w) :
  Calls Tryz.prog 62 #[.pointer (some ⟨b, 0, none⟩), .bool inb] w fun e w' => ∃ x, IsErr x /\ e = .panicked (chainP x) /\ w.grownBy w' (some b) := by
 have cS := hid hS
 have cN := hid (need_yes b)
 have cX := hid (need_no b)
 have cL := fun w => low_ct (bs val) (by rw [bs_size]; omega) w
 rw [show (bs val).data.toList = val from rfl, hval] at cL
 replace cL := hid cL
 have hq2 : ((bs calcT).toList == [99, 97, 108, 99]) = true := by rw [bs_toList]; rfl
 have hq : inb = false ∨ (inb = true /\ ((bs raw).toList == [40]) = false) := by
  cases inb with
  | false => exact .inl rfl
  | true => exact .inr ⟨rfl, by rw [bs_toList, beq_eq_false_iff_ne]; rcases hio with h | h; exact absurd h (by decide); exact h⟩
 clear hS hval hvl hio
 obtain ⟨tb, off, cap, hcp, htb, hlt, hcl, hfr, e0, e1, e2, e3, hnext, hsl⟩ := h.turn
 have hp : 0 < L.length + 1 := by omega
 have htb2 : tb < w.heap.size := by omega
 dsimp only at e0 e1 e2 e3
 have HV0 := hid (show Below b w (((w.setCell ⟨b, 0, none⟩ (.slice (addrAt 4 (some ⟨tb, off, none⟩) cap 1) L.length (cap - 1))).alloc (.cells #[.int .i64 0, .int .i64 0, .string ⟨#[]⟩, .slice none 0 0] 50)).alloc (.cells #[.int .i64 2, .string (bs raw), .string (bs val), .int .i64 num] 86)) from (((Below.refl b w).setCell (Nat.le_refl _) _).alloc (by simp; omega) _).alloc (by simp; omega) _)
 have HR0 := hid (show RdrAt (((w.setCell ⟨b, 0, none⟩ (.slice (addrAt 4 (some ⟨tb, off, none⟩) cap 1) L.length (cap - 1))).alloc (.cells #[.int .i64 0, .int .i64 0, .string ⟨#[]⟩, .slice none 0 0] 50)).alloc (.cells #[.int .i64 2, .string (bs raw), .string (bs val), .int .i64 num] 86)) b L k g from (hnext.alloc _).alloc _)
 have HG0 := hid (show w.grownBy (((w.setCell ⟨b, 0, none⟩ (.slice (addrAt 4 (some ⟨tb, off, none⟩) cap 1) L.length (cap - 1))).alloc (.cells #[.int .i64 0, .int .i64 0, .string ⟨#[]⟩, .slice none 0 0] 50)).alloc (.cells #[.int .i64 2, .string (bs raw), .string (bs val), .int .i64 num] 86)) (some b) from grown_alloc (grown_alloc (grown_set _ _ _ _) _) _)
 have Q0 := hid (show Blk (((w.setCell ⟨b, 0, none⟩ (.slice (addrAt 4 (some ⟨tb, off, none⟩) cap 1) L.length (cap - 1))).alloc (.cells #[.int .i64 0, .int .i64 0, .string ⟨#[]⟩, .slice none 0 0] 50)).alloc (.cells #[.int .i64 2, .string (bs raw), .string (bs val), .int .i64 num] 86)) w.heap.size 50 #[.int .i64 0, .int .i64 0, .string ⟨#[]⟩, .slice none 0 0] from (Blk.new (by simp)).alloc _)
 have P0 := hid (show Blk (((w.setCell ⟨b, 0, none⟩ (.slice (addrAt 4 (some ⟨tb, off, none⟩) cap 1) L.length (cap - 1))).alloc (.cells #[.int .i64 0, .int .i64 0, .string ⟨#[]⟩, .slice none 0 0] 50)).alloc (.cells #[.int .i64 2, .string (bs raw), .string (bs val), .int .i64 num] 86)) (w.heap.size + 1) 86 #[.int .i64 2, .string (bs raw), .string (bs val), .int .i64 num] from Blk.new (by simp))
 have HE0 := hid (hE.on HV0.out)
 have hz0 := hid (show w.heap.size + 2 <= (((w.setCell ⟨b, 0, none⟩ (.slice (addrAt 4 (some ⟨tb, off, none⟩) cap 1) L.length (cap - 1))).alloc (.cells #[.int .i64 0, .int .i64 0, .string ⟨#[]⟩, .slice none 0 0] 50)).alloc (.cells #[.int .i64 2, .string (bs raw), .string (bs val), .int .i64 num] 86)).heap.size by simp)
 clear h hnext hE HV0
 rcases hq with rfl | ⟨rfl, q40⟩
 all_goals
  go_enter Tryz.func62, Tryz.ntmps62
  go_wp2_with (first
   | (go_at_call 63; (with_reducible refine (cN.out _).mono ?_); rintro e W1 ⟨rfl, rfl⟩)
   | (go_at_call 63; (with_reducible refine (cX.out _).mono ?_); rintro e W9 ⟨rfl, rfl⟩)
   | (go_at_call 94; (with_reducible refine (cL.out _).mono ?_); rintro e W1 ⟨rfl, hb1⟩; have HR1 := hid (HR0.out.on hb1 (by have := hz0.out; omega)); have HG1 := hid (HG0.out.trans (grown_of_below hb1 _)); have Q1 := hid (Q0.out.below hb1 (by have := hz0.out; omega)); have HE1 := hid (HE0.out.on (hb1.mono (by have := hz0.out; omega))); have hz1 := Nat.le_trans hz0.out hb1.size; clear hb1)
   | (go_at_call 92; (with_reducible refine (cS.out _ HR1.out HE1.out).mono ?_); rintro e W2 ⟨hg2, x, hx, rfl⟩; have HX := hid hx; have HG2 := hid (HG1.out.trans hg2); clear hg2 hx))
  exact ⟨rfl, x, HX.out, rfl, HG2.out⟩
theorem v_calc_end (b : Nat) (raw val : Bs) (num : Int) (L : List Tk) (k : Int) (g inb : Bool) (hval : val.map lowB = calcT) (hio : inb = false ∨ ¬ raw = [40]) (hvl : val.length <= 400) (T : List Tk) (te : Te) (m : Int) (g2 : Bool) (hS : ∀ w, RdrAt w b L k g -> Env b w -> Calls Tryz.prog 92 #[.pointer (some ⟨b, 0, none⟩)] w fun e w' => w.grownBy w' (some b) /\ ∃ v, e = .returned v /\ TeAt (fun c => w.heap.size <= c) w' te v /\ RdrAt w' b [] m g2) (w : World) (h : RdrAt w b (⟨2, raw, val, num⟩ :: L) k g) (hE : Env b w) :
  Calls Tryz.prog 62 #[.pointer (some ⟨b, 0, none⟩), .bool inb] w fun e w' => ∃ x, IsErr x /\ e = .panicked (chainP x) /\ w.grownBy w' (some b) := by
 have cS := hid hS
 have cN := hid (need_yes b)
 have cX := hid (need_no b)
 have cR := hid (fun w h => raw_end b m g2 ⟨#[41]⟩ w h)
 have cL := fun w => low_ct (bs val) (by rw [bs_size]; omega) w
 rw [show (bs val).data.toList = val from rfl, hval] at cL
 replace cL := hid cL
 have hq2 : ((bs calcT).toList == [99, 97, 108, 99]) = true := by rw [bs_toList]; rfl
 have hq : inb = false ∨ (inb = true /\ ((bs raw).toList == [40]) = false) := by
  cases inb with
  | false => exact .inl rfl
  | true => exact .inr ⟨rfl, by rw [bs_toList, beq_eq_false_iff_ne]; rcases hio with h | h; exact absurd h (by decide); exact h⟩
 clear hS hval hvl hio
 obtain ⟨tb, off, cap, hcp, htb, hlt, hcl, hfr, e0, e1, e2, e3, hnext, hsl⟩ := h.turn
 have hp : 0 < L.length + 1 := by omega
 have htb2 : tb < w.heap.size := by omega
 dsimp only at e0 e1 e2 e3
 have HV0 := hid (show Below b w (((w.setCell ⟨b, 0, none⟩ (.slice (addrAt 4 (some ⟨tb, off, none⟩) cap 1) L.length (cap - 1))).alloc (.cells #[.int .i64 0, .int .i64 0, .string ⟨#[]⟩, .slice none 0 0] 50)).alloc (.cells #[.int .i64 2, .string (bs raw), .string (bs val), .int .i64 num] 86)) from (((Below.refl b w).setCell (Nat.le_refl _) _).alloc (by simp; omega) _).alloc (by simp; omega) _)
 have HR0 := hid (show RdrAt (((w.setCell ⟨b, 0, none⟩ (.slice (addrAt 4 (some ⟨tb, off, none⟩) cap 1) L.length (cap - 1))).alloc (.cells #[.int .i64 0, .int .i64 0, .string ⟨#[]⟩, .slice none 0 0] 50)).alloc (.cells #[.int .i64 2, .string (bs raw), .string (bs val), .int .i64 num] 86)) b L k g from (hnext.alloc _).alloc _)
 have HG0 := hid (show w.grownBy (((w.setCell ⟨b, 0, none⟩ (.slice (addrAt 4 (some ⟨tb, off, none⟩) cap 1) L.length (cap - 1))).alloc (.cells #[.int .i64 0, .int .i64 0, .string ⟨#[]⟩, .slice none 0 0] 50)).alloc (.cells #[.int .i64 2, .string (bs raw), .string (bs val), .int .i64 num] 86)) (some b) from grown_alloc (grown_alloc (grown_set _ _ _ _) _) _)
 have Q0 := hid (show Blk (((w.setCell ⟨b, 0, none⟩ (.slice (addrAt 4 (some ⟨tb, off, none⟩) cap 1) L.length (cap - 1))).alloc (.cells #[.int .i64 0, .int .i64 0, .string ⟨#[]⟩, .slice none 0 0] 50)).alloc (.cells #[.int .i64 2, .string (bs raw), .string (bs val), .int .i64 num] 86)) w.heap.size 50 #[.int .i64 0, .int .i64 0, .string ⟨#[]⟩, .slice none 0 0] from (Blk.new (by simp)).alloc _)
 have P0 := hid (show Blk (((w.setCell ⟨b, 0, none⟩ (.slice (addrAt 4 (some ⟨tb, off, none⟩) cap 1) L.length (cap - 1))).alloc (.cells #[.int .i64 0, .int .i64 0, .string ⟨#[]⟩, .slice none 0 0] 50)).alloc (.cells #[.int .i64 2, .string (bs raw), .string (bs val), .int .i64 num] 86)) (w.heap.size + 1) 86 #[.int .i64 2, .string (bs raw), .string (bs val), .int .i64 num] from Blk.new (by simp))
 have HE0 := hid (hE.on HV0.out)
 have hz0 := hid (show w.heap.size + 2 <= (((w.setCell ⟨b, 0, none⟩ (.slice (addrAt 4 (some ⟨tb, off, none⟩) cap 1) L.length (cap - 1))).alloc (.cells #[.int .i64 0, .int .i64 0, .string ⟨#[]⟩, .slice none 0 0] 50)).alloc (.cells #[.int .i64 2, .string (bs raw), .string (bs val), .int .i64 num] 86)).heap.size by simp)
 clear h hnext hE HV0
 rcases hq with rfl | ⟨rfl, q40⟩
 all_goals
  go_enter Tryz.func62, Tryz.ntmps62
  go_wp2_with (first
   | (go_at_call 63; (with_reducible refine (cN.out _).mono ?_); rintro e W1 ⟨rfl, rfl⟩)
   | (go_at_call 63; (with_reducible refine (cX.out _).mono ?_); rintro e W9 ⟨rfl, rfl⟩)
   | (go_at_call 94; (with_reducible refine (cL.out _).mono ?_); rintro e W1 ⟨rfl, hb1⟩; have HR1 := hid (HR0.out.on hb1 (by have := hz0.out; omega)); have HG1 := hid (HG0.out.trans (grown_of_below hb1 _)); have Q1 := hid (Q0.out.below hb1 (by have := hz0.out; omega)); have HE1 := hid (HE0.out.on (hb1.mono (by have := hz0.out; omega))); have hz1 := Nat.le_trans hz0.out hb1.size; clear hb1)
   | (go_at_call 92; (with_reducible refine (cS.out _ HR1.out HE1.out).mono ?_); rintro e W2 ⟨hg2, v, rfl, ht2, hr2⟩; obtain ⟨sk, sn, su, sa, sl, sc, rfl⟩ := ht2.four; have HR2 := hid (hr2.alloc (.cells #[.int .i64 sk, .int .i64 sn, .string su, .slice sa sl sc] 50)); have HG2 := hid (grown_alloc (HG1.out.trans hg2) (.cells #[.int .i64 sk, .int .i64 sn, .string su, .slice sa sl sc] 50)); have Q2 := hid ((Blk_grown Q1.out hg2 (by omega)).alloc (.cells #[.int .i64 sk, .int .i64 sn, .string su, .slice sa sl sc] 50)); have P2 := hid (show Blk (W2.alloc (.cells #[.int .i64 sk, .int .i64 sn, .string su, .slice sa sl sc] 50)) W2.heap.size 50 #[.int .i64 sk, .int .i64 sn, .string su, .slice sa sl sc] from Blk.new rfl); have T2 := hid ((ht2.wide (Y := fun c => w.heap.size + 2 <= c) (fun c h _ => Nat.le_trans hz1 h)).on ((Below.refl _ _).alloc (Nat.le_refl _) (.cells #[.int .i64 sk, .int .i64 sn, .string su, .slice sa sl sc] 50))); have hz2 := Nat.le_trans hz1 hg2.size; clear ht2 hr2 hg2)
   | (go_at_call 93; (with_reducible refine (cR.out _ HR2.out).mono ?_); rintro e W3 ⟨rfl, rfl⟩))
  exact ⟨rfl, 4, .inr rfl, rfl, HG2.out⟩
theorem v_calc_bad (b : Nat) (c : Tk) (hc : c.raw ≠ [41]) (raw val : Bs) (num : Int) (L : List Tk) (k : Int) (g inb : Bool) (hval : val.map lowB = calcT) (hio : inb = false ∨ ¬ raw = [40]) (hvl : val.length <= 400) (T : List Tk) (te : Te) (m : Int) (g2 : Bool) (hS : ∀ w, RdrAt w b L k g -> Env b w -> Calls Tryz.prog 92 #[.pointer (some ⟨b, 0, none⟩)] w fun e w' => w.grownBy w' (some b) /\ ∃ v, e = .returned v /\ TeAt (fun c => w.heap.size <= c) w' te v /\ RdrAt w' b (c :: T) m g2) (w : World) (h : RdrAt w b (⟨2, raw, val, num⟩ :: L) k g) (hE : Env b w) :
  Calls Tryz.prog 62 #[.pointer (some ⟨b, 0, none⟩), .bool inb] w fun e w' => ∃ x, IsErr x /\ e = .panicked (chainP x) /\ w.grownBy w' (some b) := by
 have cS := hid hS
 have cN := hid (need_yes b)
 have cX := hid (need_no b)
 have cR := hid (fun w h => raw_no b c T m g2 ⟨#[41]⟩ w h hc)
 have cL := fun w => low_ct (bs val) (by rw [bs_size]; omega) w
 rw [show (bs val).data.toList = val from rfl, hval] at cL
 replace cL := hid cL
 have hq2 : ((bs calcT).toList == [99, 97, 108, 99]) = true := by rw [bs_toList]; rfl
 have hq : inb = false ∨ (inb = true /\ ((bs raw).toList == [40]) = false) := by
  cases inb with
  | false => exact .inl rfl
  | true => exact .inr ⟨rfl, by rw [bs_toList, beq_eq_false_iff_ne]; rcases hio with h | h; exact absurd h (by decide); exact h⟩
 clear hS hval hvl hio
 obtain ⟨tb, off, cap, hcp, htb, hlt, hcl, hfr, e0, e1, e2, e3, hnext, hsl⟩ := h.turn
 have hp : 0 < L.length + 1 := by omega
 have htb2 : tb < w.heap.size := by omega
 dsimp only at e0 e1 e2 e3
 have HV0 := hid (show Below b w (((w.setCell ⟨b, 0, none⟩ (.slice (addrAt 4 (some ⟨tb, off, none⟩) cap 1) L.length (cap - 1))).alloc (.cells #[.int .i64 0, .int .i64 0, .string ⟨#[]⟩, .slice none 0 0] 50)).alloc (.cells #[.int .i64 2, .string (bs raw), .string (bs val), .int .i64 num] 86)) from (((Below.refl b w).setCell (Nat.le_refl _) _).alloc (by simp; omega) _).alloc (by simp; omega) _)
 have HR0 := hid (show RdrAt (((w.setCell ⟨b, 0, none⟩ (.slice (addrAt 4 (some ⟨tb, off, none⟩) cap 1) L.length (cap - 1))).alloc (.cells #[.int .i64 0, .int .i64 0, .string ⟨#[]⟩, .slice none 0 0] 50)).alloc (.cells #[.int .i64 2, .string (bs raw), .string (bs val), .int .i64 num] 86)) b L k g from (hnext.alloc _).alloc _)
 have HG0 := hid (show w.grownBy (((w.setCell ⟨b, 0, none⟩ (.slice (addrAt 4 (some ⟨tb, off, none⟩) cap 1) L.length (cap - 1))).alloc (.cells #[.int .i64 0, .int .i64 0, .string ⟨#[]⟩, .slice none 0 0] 50)).alloc (.cells #[.int .i64 2, .string (bs raw), .string (bs val), .int .i64 num] 86)) (some b) from grown_alloc (grown_alloc (grown_set _ _ _ _) _) _)
 have Q0 := hid (show Blk (((w.setCell ⟨b, 0, none⟩ (.slice (addrAt 4 (some ⟨tb, off, none⟩) cap 1) L.length (cap - 1))).alloc (.cells #[.int .i64 0, .int .i64 0, .string ⟨#[]⟩, .slice none 0 0] 50)).alloc (.cells #[.int .i64 2, .string (bs raw), .string (bs val), .int .i64 num] 86)) w.heap.size 50 #[.int .i64 0, .int .i64 0, .string ⟨#[]⟩, .slice none 0 0] from (Blk.new (by simp)).alloc _)
 have P0 := hid (show Blk (((w.setCell ⟨b, 0, none⟩ (.slice (addrAt 4 (some ⟨tb, off, none⟩) cap 1) L.length (cap - 1))).alloc (.cells #[.int .i64 0, .int .i64 0, .string ⟨#[]⟩, .slice none 0 0] 50)).alloc (.cells #[.int .i64 2, .string (bs raw), .string (bs val), .int .i64 num] 86)) (w.heap.size + 1) 86 #[.int .i64 2, .string (bs raw), .string (bs val), .int .i64 num] from Blk.new (by simp))
 have HE0 := hid (hE.on HV0.out)
 have hz0 := hid (show w.heap.size + 2 <= (((w.setCell ⟨b, 0, none⟩ (.slice (addrAt 4 (some ⟨tb, off, none⟩) cap 1) L.length (cap - 1))).alloc (.cells #[.int .i64 0, .int .i64 0, .string ⟨#[]⟩, .slice none 0 0] 50)).alloc (.cells #[.int .i64 2, .string (bs raw), .string (bs val), .int .i64 num] 86)).heap.size by simp)
 clear h hnext hE HV0
 rcases hq with rfl | ⟨rfl, q40⟩
 all_goals
  go_enter Tryz.func62, Tryz.ntmps62
  go_wp2_with (first
   | (go_at_call 63; (with_reducible refine (cN.out _).mono ?_); rintro e W1 ⟨rfl, rfl⟩)
   | (go_at_call 63; (with_reducible refine (cX.out _).mono ?_); rintro e W9 ⟨rfl, rfl⟩)
   | (go_at_call 94; (with_reducible refine (cL.out _).mono ?_); rintro e W1 ⟨rfl, hb1⟩; have HR1 := hid (HR0.out.on hb1 (by have := hz0.out; omega)); have HG1 := hid (HG0.out.trans (grown_of_below hb1 _)); have Q1 := hid (Q0.out.below hb1 (by have := hz0.out; omega)); have HE1 := hid (HE0.out.on (hb1.mono (by have := hz0.out; omega))); have hz1 := Nat.le_trans hz0.out hb1.size; clear hb1)
   | (go_at_call 92; (with_reducible refine (cS.out _ HR1.out HE1.out).mono ?_); rintro e W2 ⟨hg2, v, rfl, ht2, hr2⟩; obtain ⟨sk, sn, su, sa, sl, sc, rfl⟩ := ht2.four; have HR2 := hid (hr2.alloc (.cells #[.int .i64 sk, .int .i64 sn, .string su, .slice sa sl sc] 50)); have HG2 := hid (grown_alloc (HG1.out.trans hg2) (.cells #[.int .i64 sk, .int .i64 sn, .string su, .slice sa sl sc] 50)); have Q2 := hid ((Blk_grown Q1.out hg2 (by omega)).alloc (.cells #[.int .i64 sk, .int .i64 sn, .string su, .slice sa sl sc] 50)); have P2 := hid (show Blk (W2.alloc (.cells #[.int .i64 sk, .int .i64 sn, .string su, .slice sa sl sc] 50)) W2.heap.size 50 #[.int .i64 sk, .int .i64 sn, .string su, .slice sa sl sc] from Blk.new rfl); have T2 := hid ((ht2.wide (Y := fun c => w.heap.size + 2 <= c) (fun c h _ => Nat.le_trans hz1 h)).on ((Below.refl _ _).alloc (Nat.le_refl _) (.cells #[.int .i64 sk, .int .i64 sn, .string su, .slice sa sl sc] 50))); have hz2 := Nat.le_trans hz1 hg2.size; clear ht2 hr2 hg2)
   | (go_at_call 93; (with_reducible refine (cR.out _ HR2.out).mono ?_); rintro e W3 ⟨rfl, rfl⟩))
  exact ⟨rfl, 4, .inr rfl, rfl, HG2.out⟩
theorem v_calc_ok (b : Nat) (c : Tk) (hc : c.raw = [41]) (raw val : Bs) (num : Int) (L : List Tk) (k : Int) (g inb : Bool) (hval : val.map lowB = calcT) (hio : inb = false ∨ ¬ raw = [40]) (hvl : val.length <= 400) (T : List Tk) (te : Te) (m : Int) (g2 : Bool) (hS : ∀ w, RdrAt w b L k g -> Env b w -> Calls Tryz.prog 92 #[.pointer (some ⟨b, 0, none⟩)] w fun e w' => w.grownBy w' (some b) /\ ∃ v, e = .returned v /\ TeAt (fun c => w.heap.size <= c) w' te v /\ RdrAt w' b (c :: T) m g2) (w : World) (h : RdrAt w b (⟨2, raw, val, num⟩ :: L) k g) (hE : Env b w) :
  Calls Tryz.prog 62 #[.pointer (some ⟨b, 0, none⟩), .bool inb] w fun e w' => w.grownBy w' (some b) /\ ∃ v, e = .returned v /\ TeAt (fun c => w.heap.size <= c) w' te v /\ RdrAt w' b T m g2 := by
 have cS := hid hS
 have cN := hid (need_yes b)
 have cX := hid (need_no b)
 have cR := hid (fun w h => raw_yes b c T m g2 ⟨#[41]⟩ w h hc)
 have cL := fun w => low_ct (bs val) (by rw [bs_size]; omega) w
 rw [show (bs val).data.toList = val from rfl, hval] at cL
 replace cL := hid cL
 have hq2 : ((bs calcT).toList == [99, 97, 108, 99]) = true := by rw [bs_toList]; rfl
 have hq : inb = false ∨ (inb = true /\ ((bs raw).toList == [40]) = false) := by
  cases inb with
  | false => exact .inl rfl
  | true => exact .inr ⟨rfl, by rw [bs_toList, beq_eq_false_iff_ne]; rcases hio with h | h; exact absurd h (by decide); exact h⟩
 clear hS hval hvl hio
 obtain ⟨tb, off, cap, hcp, htb, hlt, hcl, hfr, e0, e1, e2, e3, hnext, hsl⟩ := h.turn
 have hp : 0 < L.length + 1 := by omega
 have htb2 : tb < w.heap.size := by omega
 dsimp only at e0 e1 e2 e3
 have HV0 := hid (show Below b w (((w.setCell ⟨b, 0, none⟩ (.slice (addrAt 4 (some ⟨tb, off, none⟩) cap 1) L.length (cap - 1))).alloc (.cells #[.int .i64 0, .int .i64 0, .string ⟨#[]⟩, .slice none 0 0] 50)).alloc (.cells #[.int .i64 2, .string (bs raw), .string (bs val), .int .i64 num] 86)) from (((Below.refl b w).setCell (Nat.le_refl _) _).alloc (by simp; omega) _).alloc (by simp; omega) _)
 have HR0 := hid (show RdrAt (((w.setCell ⟨b, 0, none⟩ (.slice (addrAt 4 (some ⟨tb, off, none⟩) cap 1) L.length (cap - 1))).alloc (.cells #[.int .i64 0, .int .i64 0, .string ⟨#[]⟩, .slice none 0 0] 50)).alloc (.cells #[.int .i64 2, .string (bs raw), .string (bs val), .int .i64 num] 86)) b L k g from (hnext.alloc _).alloc _)
 have HG0 := hid (show w.grownBy (((w.setCell ⟨b, 0, none⟩ (.slice (addrAt 4 (some ⟨tb, off, none⟩) cap 1) L.length (cap - 1))).alloc (.cells #[.int .i64 0, .int .i64 0, .string ⟨#[]⟩, .slice none 0 0] 50)).alloc (.cells #[.int .i64 2, .string (bs raw), .string (bs val), .int .i64 num] 86)) (some b) from grown_alloc (grown_alloc (grown_set _ _ _ _) _) _)
 have Q0 := hid (show Blk (((w.setCell ⟨b, 0, none⟩ (.slice (addrAt 4 (some ⟨tb, off, none⟩) cap 1) L.length (cap - 1))).alloc (.cells #[.int .i64 0, .int .i64 0, .string ⟨#[]⟩, .slice none 0 0] 50)).alloc (.cells #[.int .i64 2, .string (bs raw), .string (bs val), .int .i64 num] 86)) w.heap.size 50 #[.int .i64 0, .int .i64 0, .string ⟨#[]⟩, .slice none 0 0] from (Blk.new (by simp)).alloc _)
 have P0 := hid (show Blk (((w.setCell ⟨b, 0, none⟩ (.slice (addrAt 4 (some ⟨tb, off, none⟩) cap 1) L.length (cap - 1))).alloc (.cells #[.int .i64 0, .int .i64 0, .string ⟨#[]⟩, .slice none 0 0] 50)).alloc (.cells #[.int .i64 2, .string (bs raw), .string (bs val), .int .i64 num] 86)) (w.heap.size + 1) 86 #[.int .i64 2, .string (bs raw), .string (bs val), .int .i64 num] from Blk.new (by simp))
 have HE0 := hid (hE.on HV0.out)
 have hz0 := hid (show w.heap.size + 2 <= (((w.setCell ⟨b, 0, none⟩ (.slice (addrAt 4 (some ⟨tb, off, none⟩) cap 1) L.length (cap - 1))).alloc (.cells #[.int .i64 0, .int .i64 0, .string ⟨#[]⟩, .slice none 0 0] 50)).alloc (.cells #[.int .i64 2, .string (bs raw), .string (bs val), .int .i64 num] 86)).heap.size by simp)
 clear h hnext hE HV0
 rcases hq with rfl | ⟨rfl, q40⟩
 all_goals
  go_enter Tryz.func62, Tryz.ntmps62
  go_wp2_with (first
   | (go_at_call 63; (with_reducible refine (cN.out _).mono ?_); rintro e W1 ⟨rfl, rfl⟩)
   | (go_at_call 63; (with_reducible refine (cX.out _).mono ?_); rintro e W9 ⟨rfl, rfl⟩)
   | (go_at_call 94; (with_reducible refine (cL.out _).mono ?_); rintro e W1 ⟨rfl, hb1⟩; have HR1 := hid (HR0.out.on hb1 (by have := hz0.out; omega)); have HG1 := hid (HG0.out.trans (grown_of_below hb1 _)); have Q1 := hid (Q0.out.below hb1 (by have := hz0.out; omega)); have HE1 := hid (HE0.out.on (hb1.mono (by have := hz0.out; omega))); have hz1 := Nat.le_trans hz0.out hb1.size; clear hb1)
   | (go_at_call 92; (with_reducible refine (cS.out _ HR1.out HE1.out).mono ?_); rintro e W2 ⟨hg2, v, rfl, ht2, hr2⟩; obtain ⟨sk, sn, su, sa, sl, sc, rfl⟩ := ht2.four; have HR2 := hid (hr2.alloc (.cells #[.int .i64 sk, .int .i64 sn, .string su, .slice sa sl sc] 50)); have HG2 := hid (grown_alloc (HG1.out.trans hg2) (.cells #[.int .i64 sk, .int .i64 sn, .string su, .slice sa sl sc] 50)); have Q2 := hid ((Blk_grown Q1.out hg2 (by omega)).alloc (.cells #[.int .i64 sk, .int .i64 sn, .string su, .slice sa sl sc] 50)); have P2 := hid (show Blk (W2.alloc (.cells #[.int .i64 sk, .int .i64 sn, .string su, .slice sa sl sc] 50)) W2.heap.size 50 #[.int .i64 sk, .int .i64 sn, .string su, .slice sa sl sc] from Blk.new rfl); have T2 := hid ((ht2.wide (Y := fun c => w.heap.size + 2 <= c) (fun c h _ => Nat.le_trans hz1 h)).on ((Below.refl _ _).alloc (Nat.le_refl _) (.cells #[.int .i64 sk, .int .i64 sn, .string su, .slice sa sl sc] 50))); have hz2 := Nat.le_trans hz1 hg2.size; clear ht2 hr2 hg2)
   | (go_at_call 93; (with_reducible refine (cR.out _ HR2.out).mono ?_); rintro e W3 ⟨rfl, hr3, hg3⟩; have HR3 := hid hr3; have HG3 := hid (HG2.out.trans hg3); have Q3 := Blk_grown Q2.out hg3 (by omega); have P3 := Blk_grown P2.out hg3 (by omega); have T3 := hid (T2.out.grown hg3 (fun c (h : w.heap.size + 2 <= c) => by omega)); have q3c := Q3.cell; have q3f := Q3.frozen; have p3c := P3.cell; have hz3 := hg3.size; rw [World.size_alloc] at hz3; clear hr3 hg3 P3; replace Q3 := hid Q3))
  have e := Blk.cell (Blk.four (Q3.out) (.int .i64 sk) (.int .i64 sn) (.string su) (.slice sa sl sc))
  refine bodyPost_ret (v := .agg #[.int .i64 sk, .int .i64 sn, .string su, .slice sa sl sc]) (by simp [results, Tryz.results62, go_sem, e]) rfl ⟨?_, _, rfl, ?_, ?_⟩
  ·exact grown_far (grown_far (grown_far (grown_far HG3.out (Nat.le_refl _)) (Nat.le_refl _)) (Nat.le_refl _)) (Nat.le_refl _)
  ·exact TeAt.wide (((((T3.out.far (p := ⟨w.heap.size, 0, none⟩) (fun c (h : w.heap.size + 2 <= c) => by dsimp only; omega) _).far (p := ⟨w.heap.size, 1, none⟩) (fun c (h : w.heap.size + 2 <= c) => by dsimp only; omega) _).far (p := ⟨w.heap.size, 2, none⟩) (fun c (h : w.heap.size + 2 <= c) => by dsimp only; omega) _).far (p := ⟨w.heap.size, 3, none⟩) (fun c (h : w.heap.size + 2 <= c) => by dsimp only; omega) _)) (fun c (h : w.heap.size + 2 <= c) _ => (by omega : w.heap.size <= c))
  ·exact (((HR3.out.far (by dsimp only; omega) _).far (by dsimp only; omega) _).far (by dsimp only; omega) _).far (by dsimp only; omega) _
end clb
namespace clb
open Go.RowKit base tok dim rul
theorem while_all (p : UInt8 -> Bool) : ∀ (l : Bs) (k : Nat), k <= (l.takeWhile p).length -> ∀ c ∈ l.take k, p c = true
 | [], k, _, c, hc => by simp at hc
 | a :: l, 0, _, c, hc => by simp at hc
 | a :: l, k + 1, h, c, hc => by
  by_cases ha : p a = true
  ·rw [List.takeWhile_cons_of_pos ha, List.length_cons] at h
   rw [List.take_succ_cons] at hc
   rcases List.mem_cons.1 hc with e | hc
   ·rw [e]; exact ha
   ·exact while_all p l k (by omega) c hc
  ·rw [List.takeWhile_cons_of_neg ha] at h
   simp at h
theorem getD_dig {X : Bs} (h : ∀ c ∈ X, digI (nv c) = true) (i : Nat) : digI (nv (X.getD i 48)) = true := by
 rw [List.getD_eq_getElem?_getD]
 cases e : X[i]? with
 | none => decide
 | some c => exact h c (List.mem_of_getElem? e)
theorem sum_bd (l : Bs) (f wh be : Nat) (h1 : ∀ c ∈ (l.drop f).take wh, digI (nv c) = true) (h2 : ∀ c ∈ (l.drop (f + wh + 1)).take be, digI (nv c) = true) : 0 <= sumP l f wh be /\ sumP l f wh be <= 1000000000 := by
 unfold sumP
 have a0 := fold_bd _ 0 h1 (by decide) (by decide)
 have a1 := addD_bd _ _ a0.1 (getD_dig h2 0)
 have a2 := addD_bd _ _ a1.1 (getD_dig h2 1)
 exact addD_bd _ _ a2.1 (getD_dig h2 2)
theorem number_bd (l : Bs) : -1000000000 <= (numberP l).1 /\ (numberP l).1 <= 1000000000 := by
 have h1 : ∀ c ∈ (l.drop (signAt l)).take (digitsP (l.drop (signAt l))), digI (nv c) = true := while_all _ _ _ (Nat.le_refl _)
 have h2 : ∀ c ∈ (l.drop (signAt l + digitsP (l.drop (signAt l)) + 1)).take (behindP (l.drop (signAt l + digitsP (l.drop (signAt l))))), digI (nv c) = true := by
  generalize signAt l + digitsP (l.drop (signAt l)) = k
  cases e : l.drop k with
  | nil => simp [behindP]
  | cons c t =>
   have ht : l.drop (k + 1) = t := by
    have := congrArg (List.drop 1) e
    rw [List.drop_drop] at this
    simpa using this
   rw [ht]
   unfold behindP
   simp only
   split
   ·exact while_all _ _ _ (Nat.le_refl _)
   ·simp
 unfold numberP numAt
 have := sum_bd l _ _ _ h1 h2
 split
 ·simp
 ·simp only
  split <;> omega
theorem tok_num {raw : Bs} {t : Tk} (h : cutP raw = [t]) (hk : t.k = 7) : -1000000000 <= t.num /\ t.num <= 1000000000 := by
 have h0 : raw ≠ [] := fun e => by rw [e, cutP_nil] at h; cases h
 rw [cutP_cons h0] at h
 injection h with h1 _
 subst h1
 have hb := number_bd raw
 revert hk
 unfold firstP
 split
 ·intro h; exact absurd h (by simp)
 ·split
  ·intro h; exact absurd h (by simp [noteP])
  ·split
   ·intro h
    exfalso
    match raw, h with
    | [], h => exact absurd h (by simp [textP])
    | c :: r, h =>
     simp only [textP] at h
     have := textR_kind c _ r (Nat.le_refl _)
     omega
   ·split
    ·intro h; exact absurd h (by simp [namedP])
    ·split
     ·intro h; exact absurd h (by simp [namedP])
     ·split
      ·intro _
       unfold numTkP
       split
       ·exact hb
       ·split <;> exact hb
      ·split
       ·intro h
        exfalso
        revert h
        unfold wordP
        split
        ·simp
        ·simp [namedP]
       ·intro h
        exfalso
        revert h
        show oneK raw = 7 -> False
        unfold oneK
        split
        ·split
         ·simp
         ·split
          ·simp
          ·split <;> simp
        ·simp
end clb
end Go.Proofs.YtlfkkaofgcongaaGreatDoor
