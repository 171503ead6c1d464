/- Contracts and plain law, a bundle: Clb6. -/
import Derived.Test.YtbiahfjjngkfgaaDoorBF
import Derived.Test.YtbiahfjjngkfgaaDoorBE1

namespace Go.Proofs.YtbiahfjjngkfgaaDoor.clb
open Go.RowKit Go.Proofs.YtbiahfjjngkfgaaDoor.base Go.Proofs.YtbiahfjjngkfgaaDoor.tok Go.Proofs.YtbiahfjjngkfgaaDoor.dim Go.Proofs.YtbiahfjjngkfgaaDoor.rul Go.Proofs.YtbiahfjjngkfgaaDoor.cal
set_option linter.unusedVariables false

theorem _root_.Go.Proofs.YtbiahfjjngkfgaaDoor.cal.Env.now {b : Nat} {w : World} (h : Env b w) : MaxL w ∧ UnitsAt w := h w (Below.refl _ _)

set_option maxRecDepth 100000 in
set_option maxHeartbeats 8000000 in
theorem v_nil (b : Nat) (k : Int) (g inb : Bool) (w : World) (h : RdrAt w b [] k g) :
    Calls Tryd.prog 11 #[.pointer (some ⟨b, 0, none⟩), .bool inb] w fun e w' => ∃ x, IsErr x ∧ e = .panicked (chainP x) ∧ w.grownBy w' (some b) := by
  have cX := Lib.hid (need_no b)
  have HG := Lib.hid (show w.grownBy (w.alloc (.cells #[.int .i64 0, .int .i64 0, .string ⟨#[]⟩, .slice none 0 0] 27)) (some b) from grown_alloc (World.grownBy.refl _ _) _)
  have hlt := h.lt
  obtain ⟨A, cap, hl, hcl⟩ := (h.alloc (.cells #[.int .i64 0, .int .i64 0, .string ⟨#[]⟩, .slice none 0 0] 27)).noneL
  clear h
  go_enter Tryd.func11, Tryd.ntmps11
  go_wp2_with (go_at_call 12; (with_reducible refine (cX.out _).mono ?_); rintro e W9 ⟨rfl, rfl⟩)
  exact ⟨rfl, 4, .inr rfl, rfl, HG.out⟩

set_option maxRecDepth 100000 in
set_option maxHeartbeats 8000000 in
theorem v_num_bad (b : Nat) (raw u : Bs) (n : Int) (L : List Tk) (k : Int) (g inb : Bool) (hraw : raw.length < 4294967281) (hcut : cutP raw = [⟨7, raw, u, n⟩]) (hu : ¬ u ∈ unitsL) (w : World) (h : RdrAt w b (⟨7, raw, u, n⟩ :: L) k g) (hE : Env b w) :
    Calls Tryd.prog 11 #[.pointer (some ⟨b, 0, none⟩), .bool inb] w fun e w' => ∃ x, IsErr x ∧ e = .panicked (chainP x) ∧ w.grownBy w' (some b) := by
  have cR := Lib.hid (fun w (hm : MaxL w) (hU : UnitsAt w) => read_no (bs raw) hraw raw u n hcut hu w hm hU)
  have cN := Lib.hid (need_yes b)
  have cX := Lib.hid (need_no b)
  clear hraw hcut hu
  obtain ⟨tb, off, cap, hcp, htb, hlt, hcl, hfr, e0, e1, e2, e3, hnext, hsl⟩ := h.turn
  have hp : 0 < L.length + 1 := by omega
  have htb2 : tb < w.heap.size := by omega
  dsimp only at e0 e1 e2 e3
  have HV0 := Lib.hid (show Below b w (((w.setCell ⟨b, 0, none⟩ (.slice (addrAt 4 (some ⟨tb, off, none⟩) cap 1) L.length (cap - 1))).alloc (.cells #[.int .i64 0, .int .i64 0, .string ⟨#[]⟩, .slice none 0 0] 27)).alloc (.cells #[.int .i64 7, .string (bs raw), .string (bs u), .int .i64 n] 50)) from (((Below.refl b w).setCell (Nat.le_refl _) _).alloc (by simp; omega) _).alloc (by simp; omega) _)
  have HR0 := Lib.hid (show RdrAt (((w.setCell ⟨b, 0, none⟩ (.slice (addrAt 4 (some ⟨tb, off, none⟩) cap 1) L.length (cap - 1))).alloc (.cells #[.int .i64 0, .int .i64 0, .string ⟨#[]⟩, .slice none 0 0] 27)).alloc (.cells #[.int .i64 7, .string (bs raw), .string (bs u), .int .i64 n] 50)) b L k g from (hnext.alloc _).alloc _)
  have HG0 := Lib.hid (show w.grownBy (((w.setCell ⟨b, 0, none⟩ (.slice (addrAt 4 (some ⟨tb, off, none⟩) cap 1) L.length (cap - 1))).alloc (.cells #[.int .i64 0, .int .i64 0, .string ⟨#[]⟩, .slice none 0 0] 27)).alloc (.cells #[.int .i64 7, .string (bs raw), .string (bs u), .int .i64 n] 50)) (some b) from grown_alloc (grown_alloc (grown_set _ _ _ _) _) _)
  have Q0 := Lib.hid (show Blk (((w.setCell ⟨b, 0, none⟩ (.slice (addrAt 4 (some ⟨tb, off, none⟩) cap 1) L.length (cap - 1))).alloc (.cells #[.int .i64 0, .int .i64 0, .string ⟨#[]⟩, .slice none 0 0] 27)).alloc (.cells #[.int .i64 7, .string (bs raw), .string (bs u), .int .i64 n] 50)) w.heap.size 27 #[.int .i64 0, .int .i64 0, .string ⟨#[]⟩, .slice none 0 0] from (Blk.new (by simp)).alloc _)
  have P0 := Lib.hid (show Blk (((w.setCell ⟨b, 0, none⟩ (.slice (addrAt 4 (some ⟨tb, off, none⟩) cap 1) L.length (cap - 1))).alloc (.cells #[.int .i64 0, .int .i64 0, .string ⟨#[]⟩, .slice none 0 0] 27)).alloc (.cells #[.int .i64 7, .string (bs raw), .string (bs u), .int .i64 n] 50)) (w.heap.size + 1) 50 #[.int .i64 7, .string (bs raw), .string (bs u), .int .i64 n] from Blk.new (by simp))
  have HE0 := Lib.hid (hE.on HV0.out)
  have hz0 := Lib.hid (show w.heap.size + 2 ≤ (((w.setCell ⟨b, 0, none⟩ (.slice (addrAt 4 (some ⟨tb, off, none⟩) cap 1) L.length (cap - 1))).alloc (.cells #[.int .i64 0, .int .i64 0, .string ⟨#[]⟩, .slice none 0 0] 27)).alloc (.cells #[.int .i64 7, .string (bs raw), .string (bs u), .int .i64 n] 50)).heap.size by simp)
  clear h hnext hE HV0
  go_enter Tryd.func11, Tryd.ntmps11
  go_wp2_with (first
    | (go_at_call 12; (with_reducible refine (cN.out _).mono ?_); rintro e W1 ⟨rfl, rfl⟩)
    | (go_at_call 12; (with_reducible refine (cX.out _).mono ?_); rintro e W9 ⟨rfl, rfl⟩)
    | (go_at_call 19; (with_reducible refine (cR.out _ HE0.out.now.1 HE0.out.now.2).mono ?_); rintro e W1 ⟨rfl, hb1⟩; have HR1 := Lib.hid (HR0.out.on hb1 (by have := hz0.out; omega)); have HG1 := Lib.hid (HG0.out.trans (grown_of_below hb1 _)); clear hb1))
  exact ⟨rfl, 4, .inr rfl, rfl, grown_alloc HG1.out _⟩

set_option maxRecDepth 100000 in
set_option maxHeartbeats 8000000 in
theorem v_num_full (b : Nat) (raw u : Bs) (n : Int) (L : List Tk) (k : Int) (g inb : Bool) (hraw : raw.length < 4294967281) (hcut : cutP raw = [⟨7, raw, u, n⟩]) (hu : u ∈ unitsL) (hk : k = 30) (w : World) (h : RdrAt w b (⟨7, raw, u, n⟩ :: L) k g) (hE : Env b w) :
    Calls Tryd.prog 11 #[.pointer (some ⟨b, 0, none⟩), .bool inb] w fun e w' => ∃ x, IsErr x ∧ e = .panicked (chainP x) ∧ w.grownBy w' (some b) := by
  have cR := Lib.hid (fun w (hm : MaxL w) (hU : UnitsAt w) => read_ct (bs raw) hraw raw u n hcut hu w hm hU)
  have cN := Lib.hid (need_yes b)
  have cX := Lib.hid (need_no b)
  have cM := fun w h => made_no b L k g ⟨1, n, bs u, none, 0, 0⟩ hk w h
  dsimp only at cM
  replace cM := Lib.hid cM
  clear hraw hcut hu
  obtain ⟨tb, off, cap, hcp, htb, hlt, hcl, hfr, e0, e1, e2, e3, hnext, hsl⟩ := h.turn
  have hp : 0 < L.length + 1 := by omega
  have htb2 : tb < w.heap.size := by omega
  dsimp only at e0 e1 e2 e3
  have HV0 := Lib.hid (show Below b w (((w.setCell ⟨b, 0, none⟩ (.slice (addrAt 4 (some ⟨tb, off, none⟩) cap 1) L.length (cap - 1))).alloc (.cells #[.int .i64 0, .int .i64 0, .string ⟨#[]⟩, .slice none 0 0] 27)).alloc (.cells #[.int .i64 7, .string (bs raw), .string (bs u), .int .i64 n] 50)) from (((Below.refl b w).setCell (Nat.le_refl _) _).alloc (by simp; omega) _).alloc (by simp; omega) _)
  have HR0 := Lib.hid (show RdrAt (((w.setCell ⟨b, 0, none⟩ (.slice (addrAt 4 (some ⟨tb, off, none⟩) cap 1) L.length (cap - 1))).alloc (.cells #[.int .i64 0, .int .i64 0, .string ⟨#[]⟩, .slice none 0 0] 27)).alloc (.cells #[.int .i64 7, .string (bs raw), .string (bs u), .int .i64 n] 50)) b L k g from (hnext.alloc _).alloc _)
  have HG0 := Lib.hid (show w.grownBy (((w.setCell ⟨b, 0, none⟩ (.slice (addrAt 4 (some ⟨tb, off, none⟩) cap 1) L.length (cap - 1))).alloc (.cells #[.int .i64 0, .int .i64 0, .string ⟨#[]⟩, .slice none 0 0] 27)).alloc (.cells #[.int .i64 7, .string (bs raw), .string (bs u), .int .i64 n] 50)) (some b) from grown_alloc (grown_alloc (grown_set _ _ _ _) _) _)
  have Q0 := Lib.hid (show Blk (((w.setCell ⟨b, 0, none⟩ (.slice (addrAt 4 (some ⟨tb, off, none⟩) cap 1) L.length (cap - 1))).alloc (.cells #[.int .i64 0, .int .i64 0, .string ⟨#[]⟩, .slice none 0 0] 27)).alloc (.cells #[.int .i64 7, .string (bs raw), .string (bs u), .int .i64 n] 50)) w.heap.size 27 #[.int .i64 0, .int .i64 0, .string ⟨#[]⟩, .slice none 0 0] from (Blk.new (by simp)).alloc _)
  have P0 := Lib.hid (show Blk (((w.setCell ⟨b, 0, none⟩ (.slice (addrAt 4 (some ⟨tb, off, none⟩) cap 1) L.length (cap - 1))).alloc (.cells #[.int .i64 0, .int .i64 0, .string ⟨#[]⟩, .slice none 0 0] 27)).alloc (.cells #[.int .i64 7, .string (bs raw), .string (bs u), .int .i64 n] 50)) (w.heap.size + 1) 50 #[.int .i64 7, .string (bs raw), .string (bs u), .int .i64 n] from Blk.new (by simp))
  have HE0 := Lib.hid (hE.on HV0.out)
  have hz0 := Lib.hid (show w.heap.size + 2 ≤ (((w.setCell ⟨b, 0, none⟩ (.slice (addrAt 4 (some ⟨tb, off, none⟩) cap 1) L.length (cap - 1))).alloc (.cells #[.int .i64 0, .int .i64 0, .string ⟨#[]⟩, .slice none 0 0] 27)).alloc (.cells #[.int .i64 7, .string (bs raw), .string (bs u), .int .i64 n] 50)).heap.size by simp)
  clear h hnext hE HV0
  go_enter Tryd.func11, Tryd.ntmps11
  go_wp2_with (first
    | (go_at_call 12; (with_reducible refine (cN.out _).mono ?_); rintro e W1 ⟨rfl, rfl⟩)
    | (go_at_call 12; (with_reducible refine (cX.out _).mono ?_); rintro e W9 ⟨rfl, rfl⟩)
    | (go_at_call 19; (with_reducible refine (cR.out _ HE0.out.now.1 HE0.out.now.2).mono ?_); rintro e W1 ⟨rfl, hb1⟩; have HR1 := Lib.hid (HR0.out.on hb1 (by have := hz0.out; omega)); have HG1 := Lib.hid (HG0.out.trans (grown_of_below hb1 _)); clear hb1)
    | (go_at_call 20; (with_reducible refine (cM.out _ (HR1.out.alloc _)).mono ?_); rintro e W2 ⟨rfl, hg2⟩; have HG2 := Lib.hid ((grown_alloc HG1.out _).trans hg2); clear hg2))
  exact ⟨rfl, 2, .inl rfl, rfl, HG2.out⟩

set_option maxRecDepth 100000 in
set_option maxHeartbeats 8000000 in
theorem v_kind (b : Nat) (tk : Int) (raw val : Bs) (num : Int) (L : List Tk) (k : Int) (g inb : Bool) (hk7 : ¬ tk = 7) (hk2 : ¬ tk = 2) (hio : inb = false ∨ ¬ raw = [40]) (w : World) (h : RdrAt w b (⟨tk, raw, val, num⟩ :: L) k g) (hE : Env b w) :
    Calls Tryd.prog 11 #[.pointer (some ⟨b, 0, none⟩), .bool inb] w fun e w' => ∃ x, IsErr x ∧ e = .panicked (chainP x) ∧ w.grownBy w' (some b) := by
  have cN := Lib.hid (need_yes b)
  have cX := Lib.hid (need_no b)
  have n7 : (tk == 7) = false := by rw [beq_eq_false_iff_ne]; exact hk7
  have n2 : (tk == 2) = false := by rw [beq_eq_false_iff_ne]; exact hk2
  have hq : inb = false ∨ (inb = true ∧ ((bs raw).toList == [40]) = false) := by
    cases inb with
    | false => exact .inl rfl
    | true => exact .inr ⟨rfl, by rw [bs_toList, beq_eq_false_iff_ne]; rcases hio with h | h; exact absurd h (by decide); exact h⟩
  clear hio hk7 hk2
  obtain ⟨tb, off, cap, hcp, htb, hlt, hcl, hfr, e0, e1, e2, e3, hnext, hsl⟩ := h.turn
  have hp : 0 < L.length + 1 := by omega
  have htb2 : tb < w.heap.size := by omega
  dsimp only at e0 e1 e2 e3
  have HV0 := Lib.hid (show Below b w (((w.setCell ⟨b, 0, none⟩ (.slice (addrAt 4 (some ⟨tb, off, none⟩) cap 1) L.length (cap - 1))).alloc (.cells #[.int .i64 0, .int .i64 0, .string ⟨#[]⟩, .slice none 0 0] 27)).alloc (.cells #[.int .i64 tk, .string (bs raw), .string (bs val), .int .i64 num] 50)) from (((Below.refl b w).setCell (Nat.le_refl _) _).alloc (by simp; omega) _).alloc (by simp; omega) _)
  have HR0 := Lib.hid (show RdrAt (((w.setCell ⟨b, 0, none⟩ (.slice (addrAt 4 (some ⟨tb, off, none⟩) cap 1) L.length (cap - 1))).alloc (.cells #[.int .i64 0, .int .i64 0, .string ⟨#[]⟩, .slice none 0 0] 27)).alloc (.cells #[.int .i64 tk, .string (bs raw), .string (bs val), .int .i64 num] 50)) b L k g from (hnext.alloc _).alloc _)
  have HG0 := Lib.hid (show w.grownBy (((w.setCell ⟨b, 0, none⟩ (.slice (addrAt 4 (some ⟨tb, off, none⟩) cap 1) L.length (cap - 1))).alloc (.cells #[.int .i64 0, .int .i64 0, .string ⟨#[]⟩, .slice none 0 0] 27)).alloc (.cells #[.int .i64 tk, .string (bs raw), .string (bs val), .int .i64 num] 50)) (some b) from grown_alloc (grown_alloc (grown_set _ _ _ _) _) _)
  have Q0 := Lib.hid (show Blk (((w.setCell ⟨b, 0, none⟩ (.slice (addrAt 4 (some ⟨tb, off, none⟩) cap 1) L.length (cap - 1))).alloc (.cells #[.int .i64 0, .int .i64 0, .string ⟨#[]⟩, .slice none 0 0] 27)).alloc (.cells #[.int .i64 tk, .string (bs raw), .string (bs val), .int .i64 num] 50)) w.heap.size 27 #[.int .i64 0, .int .i64 0, .string ⟨#[]⟩, .slice none 0 0] from (Blk.new (by simp)).alloc _)
  have P0 := Lib.hid (show Blk (((w.setCell ⟨b, 0, none⟩ (.slice (addrAt 4 (some ⟨tb, off, none⟩) cap 1) L.length (cap - 1))).alloc (.cells #[.int .i64 0, .int .i64 0, .string ⟨#[]⟩, .slice none 0 0] 27)).alloc (.cells #[.int .i64 tk, .string (bs raw), .string (bs val), .int .i64 num] 50)) (w.heap.size + 1) 50 #[.int .i64 tk, .string (bs raw), .string (bs val), .int .i64 num] from Blk.new (by simp))
  have HE0 := Lib.hid (hE.on HV0.out)
  have hz0 := Lib.hid (show w.heap.size + 2 ≤ (((w.setCell ⟨b, 0, none⟩ (.slice (addrAt 4 (some ⟨tb, off, none⟩) cap 1) L.length (cap - 1))).alloc (.cells #[.int .i64 0, .int .i64 0, .string ⟨#[]⟩, .slice none 0 0] 27)).alloc (.cells #[.int .i64 tk, .string (bs raw), .string (bs val), .int .i64 num] 50)).heap.size by simp)
  clear h hnext hE HV0
  rcases hq with rfl | ⟨rfl, q40⟩
  all_goals
    go_enter Tryd.func11, Tryd.ntmps11
    go_wp2_with (first
      | (go_at_call 12; (with_reducible refine (cN.out _).mono ?_); rintro e W1 ⟨rfl, rfl⟩)
      | (go_at_call 12; (with_reducible refine (cX.out _).mono ?_); rintro e W9 ⟨rfl, rfl⟩))
    exact ⟨rfl, 4, .inr rfl, rfl, HG0.out⟩

set_option maxRecDepth 100000 in
set_option maxHeartbeats 8000000 in
theorem v_open_die (b : Nat) (tk : Int) (raw val : Bs) (num : Int) (L : List Tk) (k : Int) (g : Bool) (hk7 : ¬ tk = 7) (hraw : raw = [40]) (hS : ∀ w, RdrAt w b L k g → Env b w → Calls Tryd.prog 21 #[.pointer (some ⟨b, 0, none⟩)] w fun e w' => w.grownBy w' (some b) ∧ ∃ x, IsErr x ∧ e = .panicked (chainP x)) (w : World) (h : RdrAt w b (⟨tk, raw, val, num⟩ :: L) k g) (hE : Env b w) :
    Calls Tryd.prog 11 #[.pointer (some ⟨b, 0, none⟩), .bool true] w fun e w' => ∃ x, IsErr x ∧ e = .panicked (chainP x) ∧ w.grownBy w' (some b) := by
  have cS := Lib.hid hS
  have cN := Lib.hid (need_yes b)
  have cX := Lib.hid (need_no b)
  have n7 : (tk == 7) = false := by rw [beq_eq_false_iff_ne]; exact hk7
  have q40 : ((bs raw).toList == [40]) = true := by rw [bs_toList, hraw]; rfl
  clear hS hk7 hraw
  obtain ⟨tb, off, cap, hcp, htb, hlt, hcl, hfr, e0, e1, e2, e3, hnext, hsl⟩ := h.turn
  have hp : 0 < L.length + 1 := by omega
  have htb2 : tb < w.heap.size := by omega
  dsimp only at e0 e1 e2 e3
  have HV0 := Lib.hid (show Below b w (((w.setCell ⟨b, 0, none⟩ (.slice (addrAt 4 (some ⟨tb, off, none⟩) cap 1) L.length (cap - 1))).alloc (.cells #[.int .i64 0, .int .i64 0, .string ⟨#[]⟩, .slice none 0 0] 27)).alloc (.cells #[.int .i64 tk, .string (bs raw), .string (bs val), .int .i64 num] 50)) from (((Below.refl b w).setCell (Nat.le_refl _) _).alloc (by simp; omega) _).alloc (by simp; omega) _)
  have HR0 := Lib.hid (show RdrAt (((w.setCell ⟨b, 0, none⟩ (.slice (addrAt 4 (some ⟨tb, off, none⟩) cap 1) L.length (cap - 1))).alloc (.cells #[.int .i64 0, .int .i64 0, .string ⟨#[]⟩, .slice none 0 0] 27)).alloc (.cells #[.int .i64 tk, .string (bs raw), .string (bs val), .int .i64 num] 50)) b L k g from (hnext.alloc _).alloc _)
  have HG0 := Lib.hid (show w.grownBy (((w.setCell ⟨b, 0, none⟩ (.slice (addrAt 4 (some ⟨tb, off, none⟩) cap 1) L.length (cap - 1))).alloc (.cells #[.int .i64 0, .int .i64 0, .string ⟨#[]⟩, .slice none 0 0] 27)).alloc (.cells #[.int .i64 tk, .string (bs raw), .string (bs val), .int .i64 num] 50)) (some b) from grown_alloc (grown_alloc (grown_set _ _ _ _) _) _)
  have Q0 := Lib.hid (show Blk (((w.setCell ⟨b, 0, none⟩ (.slice (addrAt 4 (some ⟨tb, off, none⟩) cap 1) L.length (cap - 1))).alloc (.cells #[.int .i64 0, .int .i64 0, .string ⟨#[]⟩, .slice none 0 0] 27)).alloc (.cells #[.int .i64 tk, .string (bs raw), .string (bs val), .int .i64 num] 50)) w.heap.size 27 #[.int .i64 0, .int .i64 0, .string ⟨#[]⟩, .slice none 0 0] from (Blk.new (by simp)).alloc _)
  have P0 := Lib.hid (show Blk (((w.setCell ⟨b, 0, none⟩ (.slice (addrAt 4 (some ⟨tb, off, none⟩) cap 1) L.length (cap - 1))).alloc (.cells #[.int .i64 0, .int .i64 0, .string ⟨#[]⟩, .slice none 0 0] 27)).alloc (.cells #[.int .i64 tk, .string (bs raw), .string (bs val), .int .i64 num] 50)) (w.heap.size + 1) 50 #[.int .i64 tk, .string (bs raw), .string (bs val), .int .i64 num] from Blk.new (by simp))
  have HE0 := Lib.hid (hE.on HV0.out)
  have hz0 := Lib.hid (show w.heap.size + 2 ≤ (((w.setCell ⟨b, 0, none⟩ (.slice (addrAt 4 (some ⟨tb, off, none⟩) cap 1) L.length (cap - 1))).alloc (.cells #[.int .i64 0, .int .i64 0, .string ⟨#[]⟩, .slice none 0 0] 27)).alloc (.cells #[.int .i64 tk, .string (bs raw), .string (bs val), .int .i64 num] 50)).heap.size by simp)
  clear h hnext hE HV0
  go_enter Tryd.func11, Tryd.ntmps11
  go_wp2_with (first
    | (go_at_call 12; (with_reducible refine (cN.out _).mono ?_); rintro e W1 ⟨rfl, rfl⟩)
    | (go_at_call 12; (with_reducible refine (cX.out _).mono ?_); rintro e W9 ⟨rfl, rfl⟩)
    | (go_at_call 21; (with_reducible refine (cS.out _ HR0.out HE0.out).mono ?_); rintro e W2 ⟨hg2, x, hx, rfl⟩; have HX := Lib.hid hx; have HG2 := Lib.hid (HG0.out.trans hg2); clear hg2 hx))
  exact ⟨rfl, x, HX.out, rfl, HG2.out⟩

set_option maxRecDepth 100000 in
set_option maxHeartbeats 8000000 in
theorem v_open_end (b : Nat) (tk : Int) (raw val : Bs) (num : Int) (L : List Tk) (k : Int) (g : Bool) (hk7 : ¬ tk = 7) (hraw : raw = [40]) (T : List Tk) (te : Te) (m : Int) (g2 : Bool) (hS : ∀ w, RdrAt w b L k g → Env b w → Calls Tryd.prog 21 #[.pointer (some ⟨b, 0, none⟩)] w fun e w' => w.grownBy w' (some b) ∧ ∃ v, e = .returned v ∧ TeAt (fun c => w.heap.size ≤ c) w' te v ∧ RdrAt w' b [] m g2) (w : World) (h : RdrAt w b (⟨tk, raw, val, num⟩ :: L) k g) (hE : Env b w) :
    Calls Tryd.prog 11 #[.pointer (some ⟨b, 0, none⟩), .bool true] w fun e w' => ∃ x, IsErr x ∧ e = .panicked (chainP x) ∧ w.grownBy w' (some b) := by
  have cS := Lib.hid hS
  have cN := Lib.hid (need_yes b)
  have cX := Lib.hid (need_no b)
  have cR := Lib.hid (fun w h => raw_end b m g2 ⟨#[41]⟩ w h)
  have n7 : (tk == 7) = false := by rw [beq_eq_false_iff_ne]; exact hk7
  have q40 : ((bs raw).toList == [40]) = true := by rw [bs_toList, hraw]; rfl
  clear hS hk7 hraw
  obtain ⟨tb, off, cap, hcp, htb, hlt, hcl, hfr, e0, e1, e2, e3, hnext, hsl⟩ := h.turn
  have hp : 0 < L.length + 1 := by omega
  have htb2 : tb < w.heap.size := by omega
  dsimp only at e0 e1 e2 e3
  have HV0 := Lib.hid (show Below b w (((w.setCell ⟨b, 0, none⟩ (.slice (addrAt 4 (some ⟨tb, off, none⟩) cap 1) L.length (cap - 1))).alloc (.cells #[.int .i64 0, .int .i64 0, .string ⟨#[]⟩, .slice none 0 0] 27)).alloc (.cells #[.int .i64 tk, .string (bs raw), .string (bs val), .int .i64 num] 50)) from (((Below.refl b w).setCell (Nat.le_refl _) _).alloc (by simp; omega) _).alloc (by simp; omega) _)
  have HR0 := Lib.hid (show RdrAt (((w.setCell ⟨b, 0, none⟩ (.slice (addrAt 4 (some ⟨tb, off, none⟩) cap 1) L.length (cap - 1))).alloc (.cells #[.int .i64 0, .int .i64 0, .string ⟨#[]⟩, .slice none 0 0] 27)).alloc (.cells #[.int .i64 tk, .string (bs raw), .string (bs val), .int .i64 num] 50)) b L k g from (hnext.alloc _).alloc _)
  have HG0 := Lib.hid (show w.grownBy (((w.setCell ⟨b, 0, none⟩ (.slice (addrAt 4 (some ⟨tb, off, none⟩) cap 1) L.length (cap - 1))).alloc (.cells #[.int .i64 0, .int .i64 0, .string ⟨#[]⟩, .slice none 0 0] 27)).alloc (.cells #[.int .i64 tk, .string (bs raw), .string (bs val), .int .i64 num] 50)) (some b) from grown_alloc (grown_alloc (grown_set _ _ _ _) _) _)
  have Q0 := Lib.hid (show Blk (((w.setCell ⟨b, 0, none⟩ (.slice (addrAt 4 (some ⟨tb, off, none⟩) cap 1) L.length (cap - 1))).alloc (.cells #[.int .i64 0, .int .i64 0, .string ⟨#[]⟩, .slice none 0 0] 27)).alloc (.cells #[.int .i64 tk, .string (bs raw), .string (bs val), .int .i64 num] 50)) w.heap.size 27 #[.int .i64 0, .int .i64 0, .string ⟨#[]⟩, .slice none 0 0] from (Blk.new (by simp)).alloc _)
  have P0 := Lib.hid (show Blk (((w.setCell ⟨b, 0, none⟩ (.slice (addrAt 4 (some ⟨tb, off, none⟩) cap 1) L.length (cap - 1))).alloc (.cells #[.int .i64 0, .int .i64 0, .string ⟨#[]⟩, .slice none 0 0] 27)).alloc (.cells #[.int .i64 tk, .string (bs raw), .string (bs val), .int .i64 num] 50)) (w.heap.size + 1) 50 #[.int .i64 tk, .string (bs raw), .string (bs val), .int .i64 num] from Blk.new (by simp))
  have HE0 := Lib.hid (hE.on HV0.out)
  have hz0 := Lib.hid (show w.heap.size + 2 ≤ (((w.setCell ⟨b, 0, none⟩ (.slice (addrAt 4 (some ⟨tb, off, none⟩) cap 1) L.length (cap - 1))).alloc (.cells #[.int .i64 0, .int .i64 0, .string ⟨#[]⟩, .slice none 0 0] 27)).alloc (.cells #[.int .i64 tk, .string (bs raw), .string (bs val), .int .i64 num] 50)).heap.size by simp)
  clear h hnext hE HV0
  go_enter Tryd.func11, Tryd.ntmps11
  go_wp2_with (first
    | (go_at_call 12; (with_reducible refine (cN.out _).mono ?_); rintro e W1 ⟨rfl, rfl⟩)
    | (go_at_call 12; (with_reducible refine (cX.out _).mono ?_); rintro e W9 ⟨rfl, rfl⟩)
    | (go_at_call 21; (with_reducible refine (cS.out _ HR0.out HE0.out).mono ?_); rintro e W2 ⟨hg2, v, rfl, ht2, hr2⟩; obtain ⟨sk, sn, su, sa, sl, sc, rfl⟩ := ht2.four; have HR2 := Lib.hid (hr2.alloc (.cells #[.int .i64 sk, .int .i64 sn, .string su, .slice sa sl sc] 27)); have HG2 := Lib.hid (grown_alloc (HG0.out.trans hg2) (.cells #[.int .i64 sk, .int .i64 sn, .string su, .slice sa sl sc] 27)); have Q2 := Lib.hid ((Blk_grown Q0.out hg2 (by omega)).alloc (.cells #[.int .i64 sk, .int .i64 sn, .string su, .slice sa sl sc] 27)); have P2 := Lib.hid (show Blk (W2.alloc (.cells #[.int .i64 sk, .int .i64 sn, .string su, .slice sa sl sc] 27)) W2.heap.size 27 #[.int .i64 sk, .int .i64 sn, .string su, .slice sa sl sc] from Blk.new rfl); have T2 := Lib.hid ((ht2.wide (Y := fun c => w.heap.size + 2 ≤ c) (fun c h _ => Nat.le_trans hz0.out h)).on ((Below.refl _ _).alloc (Nat.le_refl _) (.cells #[.int .i64 sk, .int .i64 sn, .string su, .slice sa sl sc] 27))); have hz2 := Nat.le_trans hz0.out hg2.size; clear ht2 hr2 hg2)
    | (go_at_call 22; (with_reducible refine (cR.out _ HR2.out).mono ?_); rintro e W3 ⟨rfl, rfl⟩))
  exact ⟨rfl, 4, .inr rfl, rfl, HG2.out⟩

set_option maxRecDepth 100000 in
set_option maxHeartbeats 8000000 in
theorem v_open_bad (b : Nat) (c : Tk) (hc : c.raw ≠ [41]) (tk : Int) (raw val : Bs) (num : Int) (L : List Tk) (k : Int) (g : Bool) (hk7 : ¬ tk = 7) (hraw : raw = [40]) (T : List Tk) (te : Te) (m : Int) (g2 : Bool) (hS : ∀ w, RdrAt w b L k g → Env b w → Calls Tryd.prog 21 #[.pointer (some ⟨b, 0, none⟩)] w fun e w' => w.grownBy w' (some b) ∧ ∃ v, e = .returned v ∧ TeAt (fun c => w.heap.size ≤ c) w' te v ∧ RdrAt w' b (c :: T) m g2) (w : World) (h : RdrAt w b (⟨tk, raw, val, num⟩ :: L) k g) (hE : Env b w) :
    Calls Tryd.prog 11 #[.pointer (some ⟨b, 0, none⟩), .bool true] w fun e w' => ∃ x, IsErr x ∧ e = .panicked (chainP x) ∧ w.grownBy w' (some b) := by
  have cS := Lib.hid hS
  have cN := Lib.hid (need_yes b)
  have cX := Lib.hid (need_no b)
  have cR := Lib.hid (fun w h => raw_no b c T m g2 ⟨#[41]⟩ w h hc)
  have n7 : (tk == 7) = false := by rw [beq_eq_false_iff_ne]; exact hk7
  have q40 : ((bs raw).toList == [40]) = true := by rw [bs_toList, hraw]; rfl
  clear hS hk7 hraw
  obtain ⟨tb, off, cap, hcp, htb, hlt, hcl, hfr, e0, e1, e2, e3, hnext, hsl⟩ := h.turn
  have hp : 0 < L.length + 1 := by omega
  have htb2 : tb < w.heap.size := by omega
  dsimp only at e0 e1 e2 e3
  have HV0 := Lib.hid (show Below b w (((w.setCell ⟨b, 0, none⟩ (.slice (addrAt 4 (some ⟨tb, off, none⟩) cap 1) L.length (cap - 1))).alloc (.cells #[.int .i64 0, .int .i64 0, .string ⟨#[]⟩, .slice none 0 0] 27)).alloc (.cells #[.int .i64 tk, .string (bs raw), .string (bs val), .int .i64 num] 50)) from (((Below.refl b w).setCell (Nat.le_refl _) _).alloc (by simp; omega) _).alloc (by simp; omega) _)
  have HR0 := Lib.hid (show RdrAt (((w.setCell ⟨b, 0, none⟩ (.slice (addrAt 4 (some ⟨tb, off, none⟩) cap 1) L.length (cap - 1))).alloc (.cells #[.int .i64 0, .int .i64 0, .string ⟨#[]⟩, .slice none 0 0] 27)).alloc (.cells #[.int .i64 tk, .string (bs raw), .string (bs val), .int .i64 num] 50)) b L k g from (hnext.alloc _).alloc _)
  have HG0 := Lib.hid (show w.grownBy (((w.setCell ⟨b, 0, none⟩ (.slice (addrAt 4 (some ⟨tb, off, none⟩) cap 1) L.length (cap - 1))).alloc (.cells #[.int .i64 0, .int .i64 0, .string ⟨#[]⟩, .slice none 0 0] 27)).alloc (.cells #[.int .i64 tk, .string (bs raw), .string (bs val), .int .i64 num] 50)) (some b) from grown_alloc (grown_alloc (grown_set _ _ _ _) _) _)
  have Q0 := Lib.hid (show Blk (((w.setCell ⟨b, 0, none⟩ (.slice (addrAt 4 (some ⟨tb, off, none⟩) cap 1) L.length (cap - 1))).alloc (.cells #[.int .i64 0, .int .i64 0, .string ⟨#[]⟩, .slice none 0 0] 27)).alloc (.cells #[.int .i64 tk, .string (bs raw), .string (bs val), .int .i64 num] 50)) w.heap.size 27 #[.int .i64 0, .int .i64 0, .string ⟨#[]⟩, .slice none 0 0] from (Blk.new (by simp)).alloc _)
  have P0 := Lib.hid (show Blk (((w.setCell ⟨b, 0, none⟩ (.slice (addrAt 4 (some ⟨tb, off, none⟩) cap 1) L.length (cap - 1))).alloc (.cells #[.int .i64 0, .int .i64 0, .string ⟨#[]⟩, .slice none 0 0] 27)).alloc (.cells #[.int .i64 tk, .string (bs raw), .string (bs val), .int .i64 num] 50)) (w.heap.size + 1) 50 #[.int .i64 tk, .string (bs raw), .string (bs val), .int .i64 num] from Blk.new (by simp))
  have HE0 := Lib.hid (hE.on HV0.out)
  have hz0 := Lib.hid (show w.heap.size + 2 ≤ (((w.setCell ⟨b, 0, none⟩ (.slice (addrAt 4 (some ⟨tb, off, none⟩) cap 1) L.length (cap - 1))).alloc (.cells #[.int .i64 0, .int .i64 0, .string ⟨#[]⟩, .slice none 0 0] 27)).alloc (.cells #[.int .i64 tk, .string (bs raw), .string (bs val), .int .i64 num] 50)).heap.size by simp)
  clear h hnext hE HV0
  go_enter Tryd.func11, Tryd.ntmps11
  go_wp2_with (first
    | (go_at_call 12; (with_reducible refine (cN.out _).mono ?_); rintro e W1 ⟨rfl, rfl⟩)
    | (go_at_call 12; (with_reducible refine (cX.out _).mono ?_); rintro e W9 ⟨rfl, rfl⟩)
    | (go_at_call 21; (with_reducible refine (cS.out _ HR0.out HE0.out).mono ?_); rintro e W2 ⟨hg2, v, rfl, ht2, hr2⟩; obtain ⟨sk, sn, su, sa, sl, sc, rfl⟩ := ht2.four; have HR2 := Lib.hid (hr2.alloc (.cells #[.int .i64 sk, .int .i64 sn, .string su, .slice sa sl sc] 27)); have HG2 := Lib.hid (grown_alloc (HG0.out.trans hg2) (.cells #[.int .i64 sk, .int .i64 sn, .string su, .slice sa sl sc] 27)); have Q2 := Lib.hid ((Blk_grown Q0.out hg2 (by omega)).alloc (.cells #[.int .i64 sk, .int .i64 sn, .string su, .slice sa sl sc] 27)); have P2 := Lib.hid (show Blk (W2.alloc (.cells #[.int .i64 sk, .int .i64 sn, .string su, .slice sa sl sc] 27)) W2.heap.size 27 #[.int .i64 sk, .int .i64 sn, .string su, .slice sa sl sc] from Blk.new rfl); have T2 := Lib.hid ((ht2.wide (Y := fun c => w.heap.size + 2 ≤ c) (fun c h _ => Nat.le_trans hz0.out h)).on ((Below.refl _ _).alloc (Nat.le_refl _) (.cells #[.int .i64 sk, .int .i64 sn, .string su, .slice sa sl sc] 27))); have hz2 := Nat.le_trans hz0.out hg2.size; clear ht2 hr2 hg2)
    | (go_at_call 22; (with_reducible refine (cR.out _ HR2.out).mono ?_); rintro e W3 ⟨rfl, rfl⟩))
  exact ⟨rfl, 4, .inr rfl, rfl, HG2.out⟩

set_option maxRecDepth 100000 in
set_option maxHeartbeats 8000000 in
theorem v_open_ok (b : Nat) (c : Tk) (hc : c.raw = [41]) (tk : Int) (raw val : Bs) (num : Int) (L : List Tk) (k : Int) (g : Bool) (hk7 : ¬ tk = 7) (hraw : raw = [40]) (T : List Tk) (te : Te) (m : Int) (g2 : Bool) (hS : ∀ w, RdrAt w b L k g → Env b w → Calls Tryd.prog 21 #[.pointer (some ⟨b, 0, none⟩)] w fun e w' => w.grownBy w' (some b) ∧ ∃ v, e = .returned v ∧ TeAt (fun c => w.heap.size ≤ c) w' te v ∧ RdrAt w' b (c :: T) m g2) (w : World) (h : RdrAt w b (⟨tk, raw, val, num⟩ :: L) k g) (hE : Env b w) :
    Calls Tryd.prog 11 #[.pointer (some ⟨b, 0, none⟩), .bool true] w fun e w' => w.grownBy w' (some b) ∧ ∃ v, e = .returned v ∧ TeAt (fun c => w.heap.size ≤ c) w' te v ∧ RdrAt w' b T m g2 := by
  have cS := Lib.hid hS
  have cN := Lib.hid (need_yes b)
  have cX := Lib.hid (need_no b)
  have cR := Lib.hid (fun w h => raw_yes b c T m g2 ⟨#[41]⟩ w h hc)
  have n7 : (tk == 7) = false := by rw [beq_eq_false_iff_ne]; exact hk7
  have q40 : ((bs raw).toList == [40]) = true := by rw [bs_toList, hraw]; rfl
  clear hS hk7 hraw
  obtain ⟨tb, off, cap, hcp, htb, hlt, hcl, hfr, e0, e1, e2, e3, hnext, hsl⟩ := h.turn
  have hp : 0 < L.length + 1 := by omega
  have htb2 : tb < w.heap.size := by omega
  dsimp only at e0 e1 e2 e3
  have HV0 := Lib.hid (show Below b w (((w.setCell ⟨b, 0, none⟩ (.slice (addrAt 4 (some ⟨tb, off, none⟩) cap 1) L.length (cap - 1))).alloc (.cells #[.int .i64 0, .int .i64 0, .string ⟨#[]⟩, .slice none 0 0] 27)).alloc (.cells #[.int .i64 tk, .string (bs raw), .string (bs val), .int .i64 num] 50)) from (((Below.refl b w).setCell (Nat.le_refl _) _).alloc (by simp; omega) _).alloc (by simp; omega) _)
  have HR0 := Lib.hid (show RdrAt (((w.setCell ⟨b, 0, none⟩ (.slice (addrAt 4 (some ⟨tb, off, none⟩) cap 1) L.length (cap - 1))).alloc (.cells #[.int .i64 0, .int .i64 0, .string ⟨#[]⟩, .slice none 0 0] 27)).alloc (.cells #[.int .i64 tk, .string (bs raw), .string (bs val), .int .i64 num] 50)) b L k g from (hnext.alloc _).alloc _)
  have HG0 := Lib.hid (show w.grownBy (((w.setCell ⟨b, 0, none⟩ (.slice (addrAt 4 (some ⟨tb, off, none⟩) cap 1) L.length (cap - 1))).alloc (.cells #[.int .i64 0, .int .i64 0, .string ⟨#[]⟩, .slice none 0 0] 27)).alloc (.cells #[.int .i64 tk, .string (bs raw), .string (bs val), .int .i64 num] 50)) (some b) from grown_alloc (grown_alloc (grown_set _ _ _ _) _) _)
  have Q0 := Lib.hid (show Blk (((w.setCell ⟨b, 0, none⟩ (.slice (addrAt 4 (some ⟨tb, off, none⟩) cap 1) L.length (cap - 1))).alloc (.cells #[.int .i64 0, .int .i64 0, .string ⟨#[]⟩, .slice none 0 0] 27)).alloc (.cells #[.int .i64 tk, .string (bs raw), .string (bs val), .int .i64 num] 50)) w.heap.size 27 #[.int .i64 0, .int .i64 0, .string ⟨#[]⟩, .slice none 0 0] from (Blk.new (by simp)).alloc _)
  have P0 := Lib.hid (show Blk (((w.setCell ⟨b, 0, none⟩ (.slice (addrAt 4 (some ⟨tb, off, none⟩) cap 1) L.length (cap - 1))).alloc (.cells #[.int .i64 0, .int .i64 0, .string ⟨#[]⟩, .slice none 0 0] 27)).alloc (.cells #[.int .i64 tk, .string (bs raw), .string (bs val), .int .i64 num] 50)) (w.heap.size + 1) 50 #[.int .i64 tk, .string (bs raw), .string (bs val), .int .i64 num] from Blk.new (by simp))
  have HE0 := Lib.hid (hE.on HV0.out)
  have hz0 := Lib.hid (show w.heap.size + 2 ≤ (((w.setCell ⟨b, 0, none⟩ (.slice (addrAt 4 (some ⟨tb, off, none⟩) cap 1) L.length (cap - 1))).alloc (.cells #[.int .i64 0, .int .i64 0, .string ⟨#[]⟩, .slice none 0 0] 27)).alloc (.cells #[.int .i64 tk, .string (bs raw), .string (bs val), .int .i64 num] 50)).heap.size by simp)
  clear h hnext hE HV0
  go_enter Tryd.func11, Tryd.ntmps11
  go_wp2_with (first
    | (go_at_call 12; (with_reducible refine (cN.out _).mono ?_); rintro e W1 ⟨rfl, rfl⟩)
    | (go_at_call 12; (with_reducible refine (cX.out _).mono ?_); rintro e W9 ⟨rfl, rfl⟩)
    | (go_at_call 21; (with_reducible refine (cS.out _ HR0.out HE0.out).mono ?_); rintro e W2 ⟨hg2, v, rfl, ht2, hr2⟩; obtain ⟨sk, sn, su, sa, sl, sc, rfl⟩ := ht2.four; have HR2 := Lib.hid (hr2.alloc (.cells #[.int .i64 sk, .int .i64 sn, .string su, .slice sa sl sc] 27)); have HG2 := Lib.hid (grown_alloc (HG0.out.trans hg2) (.cells #[.int .i64 sk, .int .i64 sn, .string su, .slice sa sl sc] 27)); have Q2 := Lib.hid ((Blk_grown Q0.out hg2 (by omega)).alloc (.cells #[.int .i64 sk, .int .i64 sn, .string su, .slice sa sl sc] 27)); have P2 := Lib.hid (show Blk (W2.alloc (.cells #[.int .i64 sk, .int .i64 sn, .string su, .slice sa sl sc] 27)) W2.heap.size 27 #[.int .i64 sk, .int .i64 sn, .string su, .slice sa sl sc] from Blk.new rfl); have T2 := Lib.hid ((ht2.wide (Y := fun c => w.heap.size + 2 ≤ c) (fun c h _ => Nat.le_trans hz0.out h)).on ((Below.refl _ _).alloc (Nat.le_refl _) (.cells #[.int .i64 sk, .int .i64 sn, .string su, .slice sa sl sc] 27))); have hz2 := Nat.le_trans hz0.out hg2.size; clear ht2 hr2 hg2)
    | (go_at_call 22; (with_reducible refine (cR.out _ HR2.out).mono ?_); rintro e W3 ⟨rfl, hr3, hg3⟩; have HR3 := Lib.hid hr3; have HG3 := Lib.hid (HG2.out.trans hg3); have Q3 := Blk_grown Q2.out hg3 (by omega); have P3 := Blk_grown P2.out hg3 (by omega); have T3 := Lib.hid (T2.out.grown hg3 (fun c (h : w.heap.size + 2 ≤ c) => by omega)); have q3c := Q3.cell; have q3f := Q3.frozen; have p3c := P3.cell; have hz3 := hg3.size; rw [World.size_alloc] at hz3; clear hr3 hg3 P3; replace Q3 := Lib.hid Q3))
  have e := Blk.cell (Blk.four (Q3.out) (.int .i64 sk) (.int .i64 sn) (.string su) (.slice sa sl sc))
  refine bodyPost_ret (v := .agg #[.int .i64 sk, .int .i64 sn, .string su, .slice sa sl sc]) (by simp [results, Tryd.results11, go_sem, e]) rfl ⟨?_, _, rfl, ?_, ?_⟩
  · exact grown_far (grown_far (grown_far (grown_far HG3.out (Nat.le_refl _)) (Nat.le_refl _)) (Nat.le_refl _)) (Nat.le_refl _)
  · exact TeAt.wide (((((T3.out.far (p := ⟨w.heap.size, 0, none⟩) (fun c (h : w.heap.size + 2 ≤ c) => by dsimp only; omega) _).far (p := ⟨w.heap.size, 1, none⟩) (fun c (h : w.heap.size + 2 ≤ c) => by dsimp only; omega) _).far (p := ⟨w.heap.size, 2, none⟩) (fun c (h : w.heap.size + 2 ≤ c) => by dsimp only; omega) _).far (p := ⟨w.heap.size, 3, none⟩) (fun c (h : w.heap.size + 2 ≤ c) => by dsimp only; omega) _)) (fun c (h : w.heap.size + 2 ≤ c) _ => (by omega : w.heap.size ≤ c))
  · exact (((HR3.out.far (by dsimp only; omega) _).far (by dsimp only; omega) _).far (by dsimp only; omega) _).far (by dsimp only; omega) _

set_option maxRecDepth 100000 in
set_option maxHeartbeats 8000000 in
theorem v_calc_die (b : Nat) (raw val : Bs) (num : Int) (L : List Tk) (k : Int) (g inb : Bool) (hval : val.map lowB = calcT) (hio : inb = false ∨ ¬ raw = [40]) (hvl : val.length ≤ 400) (hS : ∀ w, RdrAt w b L k g → Env b w → Calls Tryd.prog 21 #[.pointer (some ⟨b, 0, none⟩)] w fun e w' => w.grownBy w' (some b) ∧ ∃ x, IsErr x ∧ e = .panicked (chainP x)) (w : World) (h : RdrAt w b (⟨2, raw, val, num⟩ :: L) k g) (hE : Env b w) :
    Calls Tryd.prog 11 #[.pointer (some ⟨b, 0, none⟩), .bool inb] w fun e w' => ∃ x, IsErr x ∧ e = .panicked (chainP x) ∧ w.grownBy w' (some b) := by
  have cS := Lib.hid hS
  have cN := Lib.hid (need_yes b)
  have cX := Lib.hid (need_no b)
  have cL := fun w => low_ct (bs val) (by rw [bs_size]; omega) w
  rw [show (bs val).data.toList = val from rfl, hval] at cL
  replace cL := Lib.hid cL
  have hq2 : ((bs calcT).toList == [99, 97, 108, 99]) = true := by rw [bs_toList]; rfl
  have hq : inb = false ∨ (inb = true ∧ ((bs raw).toList == [40]) = false) := by
    cases inb with
    | false => exact .inl rfl
    | true => exact .inr ⟨rfl, by rw [bs_toList, beq_eq_false_iff_ne]; rcases hio with h | h; exact absurd h (by decide); exact h⟩
  clear hS hval hvl hio
  obtain ⟨tb, off, cap, hcp, htb, hlt, hcl, hfr, e0, e1, e2, e3, hnext, hsl⟩ := h.turn
  have hp : 0 < L.length + 1 := by omega
  have htb2 : tb < w.heap.size := by omega
  dsimp only at e0 e1 e2 e3
  have HV0 := Lib.hid (show Below b w (((w.setCell ⟨b, 0, none⟩ (.slice (addrAt 4 (some ⟨tb, off, none⟩) cap 1) L.length (cap - 1))).alloc (.cells #[.int .i64 0, .int .i64 0, .string ⟨#[]⟩, .slice none 0 0] 27)).alloc (.cells #[.int .i64 2, .string (bs raw), .string (bs val), .int .i64 num] 50)) from (((Below.refl b w).setCell (Nat.le_refl _) _).alloc (by simp; omega) _).alloc (by simp; omega) _)
  have HR0 := Lib.hid (show RdrAt (((w.setCell ⟨b, 0, none⟩ (.slice (addrAt 4 (some ⟨tb, off, none⟩) cap 1) L.length (cap - 1))).alloc (.cells #[.int .i64 0, .int .i64 0, .string ⟨#[]⟩, .slice none 0 0] 27)).alloc (.cells #[.int .i64 2, .string (bs raw), .string (bs val), .int .i64 num] 50)) b L k g from (hnext.alloc _).alloc _)
  have HG0 := Lib.hid (show w.grownBy (((w.setCell ⟨b, 0, none⟩ (.slice (addrAt 4 (some ⟨tb, off, none⟩) cap 1) L.length (cap - 1))).alloc (.cells #[.int .i64 0, .int .i64 0, .string ⟨#[]⟩, .slice none 0 0] 27)).alloc (.cells #[.int .i64 2, .string (bs raw), .string (bs val), .int .i64 num] 50)) (some b) from grown_alloc (grown_alloc (grown_set _ _ _ _) _) _)
  have Q0 := Lib.hid (show Blk (((w.setCell ⟨b, 0, none⟩ (.slice (addrAt 4 (some ⟨tb, off, none⟩) cap 1) L.length (cap - 1))).alloc (.cells #[.int .i64 0, .int .i64 0, .string ⟨#[]⟩, .slice none 0 0] 27)).alloc (.cells #[.int .i64 2, .string (bs raw), .string (bs val), .int .i64 num] 50)) w.heap.size 27 #[.int .i64 0, .int .i64 0, .string ⟨#[]⟩, .slice none 0 0] from (Blk.new (by simp)).alloc _)
  have P0 := Lib.hid (show Blk (((w.setCell ⟨b, 0, none⟩ (.slice (addrAt 4 (some ⟨tb, off, none⟩) cap 1) L.length (cap - 1))).alloc (.cells #[.int .i64 0, .int .i64 0, .string ⟨#[]⟩, .slice none 0 0] 27)).alloc (.cells #[.int .i64 2, .string (bs raw), .string (bs val), .int .i64 num] 50)) (w.heap.size + 1) 50 #[.int .i64 2, .string (bs raw), .string (bs val), .int .i64 num] from Blk.new (by simp))
  have HE0 := Lib.hid (hE.on HV0.out)
  have hz0 := Lib.hid (show w.heap.size + 2 ≤ (((w.setCell ⟨b, 0, none⟩ (.slice (addrAt 4 (some ⟨tb, off, none⟩) cap 1) L.length (cap - 1))).alloc (.cells #[.int .i64 0, .int .i64 0, .string ⟨#[]⟩, .slice none 0 0] 27)).alloc (.cells #[.int .i64 2, .string (bs raw), .string (bs val), .int .i64 num] 50)).heap.size by simp)
  clear h hnext hE HV0
  rcases hq with rfl | ⟨rfl, q40⟩
  all_goals
    go_enter Tryd.func11, Tryd.ntmps11
    go_wp2_with (first
      | (go_at_call 12; (with_reducible refine (cN.out _).mono ?_); rintro e W1 ⟨rfl, rfl⟩)
      | (go_at_call 12; (with_reducible refine (cX.out _).mono ?_); rintro e W9 ⟨rfl, rfl⟩)
      | (go_at_call 23; (with_reducible refine (cL.out _).mono ?_); rintro e W1 ⟨rfl, hb1⟩; have HR1 := Lib.hid (HR0.out.on hb1 (by have := hz0.out; omega)); have HG1 := Lib.hid (HG0.out.trans (grown_of_below hb1 _)); have Q1 := Lib.hid (Q0.out.below hb1 (by have := hz0.out; omega)); have HE1 := Lib.hid (HE0.out.on (hb1.mono (by have := hz0.out; omega))); have hz1 := Nat.le_trans hz0.out hb1.size; clear hb1)
      | (go_at_call 21; (with_reducible refine (cS.out _ HR1.out HE1.out).mono ?_); rintro e W2 ⟨hg2, x, hx, rfl⟩; have HX := Lib.hid hx; have HG2 := Lib.hid (HG1.out.trans hg2); clear hg2 hx))
    exact ⟨rfl, x, HX.out, rfl, HG2.out⟩

set_option maxRecDepth 100000 in
set_option maxHeartbeats 8000000 in
theorem v_calc_end (b : Nat) (raw val : Bs) (num : Int) (L : List Tk) (k : Int) (g inb : Bool) (hval : val.map lowB = calcT) (hio : inb = false ∨ ¬ raw = [40]) (hvl : val.length ≤ 400) (T : List Tk) (te : Te) (m : Int) (g2 : Bool) (hS : ∀ w, RdrAt w b L k g → Env b w → Calls Tryd.prog 21 #[.pointer (some ⟨b, 0, none⟩)] w fun e w' => w.grownBy w' (some b) ∧ ∃ v, e = .returned v ∧ TeAt (fun c => w.heap.size ≤ c) w' te v ∧ RdrAt w' b [] m g2) (w : World) (h : RdrAt w b (⟨2, raw, val, num⟩ :: L) k g) (hE : Env b w) :
    Calls Tryd.prog 11 #[.pointer (some ⟨b, 0, none⟩), .bool inb] w fun e w' => ∃ x, IsErr x ∧ e = .panicked (chainP x) ∧ w.grownBy w' (some b) := by
  have cS := Lib.hid hS
  have cN := Lib.hid (need_yes b)
  have cX := Lib.hid (need_no b)
  have cR := Lib.hid (fun w h => raw_end b m g2 ⟨#[41]⟩ w h)
  have cL := fun w => low_ct (bs val) (by rw [bs_size]; omega) w
  rw [show (bs val).data.toList = val from rfl, hval] at cL
  replace cL := Lib.hid cL
  have hq2 : ((bs calcT).toList == [99, 97, 108, 99]) = true := by rw [bs_toList]; rfl
  have hq : inb = false ∨ (inb = true ∧ ((bs raw).toList == [40]) = false) := by
    cases inb with
    | false => exact .inl rfl
    | true => exact .inr ⟨rfl, by rw [bs_toList, beq_eq_false_iff_ne]; rcases hio with h | h; exact absurd h (by decide); exact h⟩
  clear hS hval hvl hio
  obtain ⟨tb, off, cap, hcp, htb, hlt, hcl, hfr, e0, e1, e2, e3, hnext, hsl⟩ := h.turn
  have hp : 0 < L.length + 1 := by omega
  have htb2 : tb < w.heap.size := by omega
  dsimp only at e0 e1 e2 e3
  have HV0 := Lib.hid (show Below b w (((w.setCell ⟨b, 0, none⟩ (.slice (addrAt 4 (some ⟨tb, off, none⟩) cap 1) L.length (cap - 1))).alloc (.cells #[.int .i64 0, .int .i64 0, .string ⟨#[]⟩, .slice none 0 0] 27)).alloc (.cells #[.int .i64 2, .string (bs raw), .string (bs val), .int .i64 num] 50)) from (((Below.refl b w).setCell (Nat.le_refl _) _).alloc (by simp; omega) _).alloc (by simp; omega) _)
  have HR0 := Lib.hid (show RdrAt (((w.setCell ⟨b, 0, none⟩ (.slice (addrAt 4 (some ⟨tb, off, none⟩) cap 1) L.length (cap - 1))).alloc (.cells #[.int .i64 0, .int .i64 0, .string ⟨#[]⟩, .slice none 0 0] 27)).alloc (.cells #[.int .i64 2, .string (bs raw), .string (bs val), .int .i64 num] 50)) b L k g from (hnext.alloc _).alloc _)
  have HG0 := Lib.hid (show w.grownBy (((w.setCell ⟨b, 0, none⟩ (.slice (addrAt 4 (some ⟨tb, off, none⟩) cap 1) L.length (cap - 1))).alloc (.cells #[.int .i64 0, .int .i64 0, .string ⟨#[]⟩, .slice none 0 0] 27)).alloc (.cells #[.int .i64 2, .string (bs raw), .string (bs val), .int .i64 num] 50)) (some b) from grown_alloc (grown_alloc (grown_set _ _ _ _) _) _)
  have Q0 := Lib.hid (show Blk (((w.setCell ⟨b, 0, none⟩ (.slice (addrAt 4 (some ⟨tb, off, none⟩) cap 1) L.length (cap - 1))).alloc (.cells #[.int .i64 0, .int .i64 0, .string ⟨#[]⟩, .slice none 0 0] 27)).alloc (.cells #[.int .i64 2, .string (bs raw), .string (bs val), .int .i64 num] 50)) w.heap.size 27 #[.int .i64 0, .int .i64 0, .string ⟨#[]⟩, .slice none 0 0] from (Blk.new (by simp)).alloc _)
  have P0 := Lib.hid (show Blk (((w.setCell ⟨b, 0, none⟩ (.slice (addrAt 4 (some ⟨tb, off, none⟩) cap 1) L.length (cap - 1))).alloc (.cells #[.int .i64 0, .int .i64 0, .string ⟨#[]⟩, .slice none 0 0] 27)).alloc (.cells #[.int .i64 2, .string (bs raw), .string (bs val), .int .i64 num] 50)) (w.heap.size + 1) 50 #[.int .i64 2, .string (bs raw), .string (bs val), .int .i64 num] from Blk.new (by simp))
  have HE0 := Lib.hid (hE.on HV0.out)
  have hz0 := Lib.hid (show w.heap.size + 2 ≤ (((w.setCell ⟨b, 0, none⟩ (.slice (addrAt 4 (some ⟨tb, off, none⟩) cap 1) L.length (cap - 1))).alloc (.cells #[.int .i64 0, .int .i64 0, .string ⟨#[]⟩, .slice none 0 0] 27)).alloc (.cells #[.int .i64 2, .string (bs raw), .string (bs val), .int .i64 num] 50)).heap.size by simp)
  clear h hnext hE HV0
  rcases hq with rfl | ⟨rfl, q40⟩
  all_goals
    go_enter Tryd.func11, Tryd.ntmps11
    go_wp2_with (first
      | (go_at_call 12; (with_reducible refine (cN.out _).mono ?_); rintro e W1 ⟨rfl, rfl⟩)
      | (go_at_call 12; (with_reducible refine (cX.out _).mono ?_); rintro e W9 ⟨rfl, rfl⟩)
      | (go_at_call 23; (with_reducible refine (cL.out _).mono ?_); rintro e W1 ⟨rfl, hb1⟩; have HR1 := Lib.hid (HR0.out.on hb1 (by have := hz0.out; omega)); have HG1 := Lib.hid (HG0.out.trans (grown_of_below hb1 _)); have Q1 := Lib.hid (Q0.out.below hb1 (by have := hz0.out; omega)); have HE1 := Lib.hid (HE0.out.on (hb1.mono (by have := hz0.out; omega))); have hz1 := Nat.le_trans hz0.out hb1.size; clear hb1)
      | (go_at_call 21; (with_reducible refine (cS.out _ HR1.out HE1.out).mono ?_); rintro e W2 ⟨hg2, v, rfl, ht2, hr2⟩; obtain ⟨sk, sn, su, sa, sl, sc, rfl⟩ := ht2.four; have HR2 := Lib.hid (hr2.alloc (.cells #[.int .i64 sk, .int .i64 sn, .string su, .slice sa sl sc] 27)); have HG2 := Lib.hid (grown_alloc (HG1.out.trans hg2) (.cells #[.int .i64 sk, .int .i64 sn, .string su, .slice sa sl sc] 27)); have Q2 := Lib.hid ((Blk_grown Q1.out hg2 (by omega)).alloc (.cells #[.int .i64 sk, .int .i64 sn, .string su, .slice sa sl sc] 27)); have P2 := Lib.hid (show Blk (W2.alloc (.cells #[.int .i64 sk, .int .i64 sn, .string su, .slice sa sl sc] 27)) W2.heap.size 27 #[.int .i64 sk, .int .i64 sn, .string su, .slice sa sl sc] from Blk.new rfl); have T2 := Lib.hid ((ht2.wide (Y := fun c => w.heap.size + 2 ≤ c) (fun c h _ => Nat.le_trans hz1 h)).on ((Below.refl _ _).alloc (Nat.le_refl _) (.cells #[.int .i64 sk, .int .i64 sn, .string su, .slice sa sl sc] 27))); have hz2 := Nat.le_trans hz1 hg2.size; clear ht2 hr2 hg2)
      | (go_at_call 22; (with_reducible refine (cR.out _ HR2.out).mono ?_); rintro e W3 ⟨rfl, rfl⟩))
    exact ⟨rfl, 4, .inr rfl, rfl, HG2.out⟩

set_option maxRecDepth 100000 in
set_option maxHeartbeats 8000000 in
theorem v_calc_bad (b : Nat) (c : Tk) (hc : c.raw ≠ [41]) (raw val : Bs) (num : Int) (L : List Tk) (k : Int) (g inb : Bool) (hval : val.map lowB = calcT) (hio : inb = false ∨ ¬ raw = [40]) (hvl : val.length ≤ 400) (T : List Tk) (te : Te) (m : Int) (g2 : Bool) (hS : ∀ w, RdrAt w b L k g → Env b w → Calls Tryd.prog 21 #[.pointer (some ⟨b, 0, none⟩)] w fun e w' => w.grownBy w' (some b) ∧ ∃ v, e = .returned v ∧ TeAt (fun c => w.heap.size ≤ c) w' te v ∧ RdrAt w' b (c :: T) m g2) (w : World) (h : RdrAt w b (⟨2, raw, val, num⟩ :: L) k g) (hE : Env b w) :
    Calls Tryd.prog 11 #[.pointer (some ⟨b, 0, none⟩), .bool inb] w fun e w' => ∃ x, IsErr x ∧ e = .panicked (chainP x) ∧ w.grownBy w' (some b) := by
  have cS := Lib.hid hS
  have cN := Lib.hid (need_yes b)
  have cX := Lib.hid (need_no b)
  have cR := Lib.hid (fun w h => raw_no b c T m g2 ⟨#[41]⟩ w h hc)
  have cL := fun w => low_ct (bs val) (by rw [bs_size]; omega) w
  rw [show (bs val).data.toList = val from rfl, hval] at cL
  replace cL := Lib.hid cL
  have hq2 : ((bs calcT).toList == [99, 97, 108, 99]) = true := by rw [bs_toList]; rfl
  have hq : inb = false ∨ (inb = true ∧ ((bs raw).toList == [40]) = false) := by
    cases inb with
    | false => exact .inl rfl
    | true => exact .inr ⟨rfl, by rw [bs_toList, beq_eq_false_iff_ne]; rcases hio with h | h; exact absurd h (by decide); exact h⟩
  clear hS hval hvl hio
  obtain ⟨tb, off, cap, hcp, htb, hlt, hcl, hfr, e0, e1, e2, e3, hnext, hsl⟩ := h.turn
  have hp : 0 < L.length + 1 := by omega
  have htb2 : tb < w.heap.size := by omega
  dsimp only at e0 e1 e2 e3
  have HV0 := Lib.hid (show Below b w (((w.setCell ⟨b, 0, none⟩ (.slice (addrAt 4 (some ⟨tb, off, none⟩) cap 1) L.length (cap - 1))).alloc (.cells #[.int .i64 0, .int .i64 0, .string ⟨#[]⟩, .slice none 0 0] 27)).alloc (.cells #[.int .i64 2, .string (bs raw), .string (bs val), .int .i64 num] 50)) from (((Below.refl b w).setCell (Nat.le_refl _) _).alloc (by simp; omega) _).alloc (by simp; omega) _)
  have HR0 := Lib.hid (show RdrAt (((w.setCell ⟨b, 0, none⟩ (.slice (addrAt 4 (some ⟨tb, off, none⟩) cap 1) L.length (cap - 1))).alloc (.cells #[.int .i64 0, .int .i64 0, .string ⟨#[]⟩, .slice none 0 0] 27)).alloc (.cells #[.int .i64 2, .string (bs raw), .string (bs val), .int .i64 num] 50)) b L k g from (hnext.alloc _).alloc _)
  have HG0 := Lib.hid (show w.grownBy (((w.setCell ⟨b, 0, none⟩ (.slice (addrAt 4 (some ⟨tb, off, none⟩) cap 1) L.length (cap - 1))).alloc (.cells #[.int .i64 0, .int .i64 0, .string ⟨#[]⟩, .slice none 0 0] 27)).alloc (.cells #[.int .i64 2, .string (bs raw), .string (bs val), .int .i64 num] 50)) (some b) from grown_alloc (grown_alloc (grown_set _ _ _ _) _) _)
  have Q0 := Lib.hid (show Blk (((w.setCell ⟨b, 0, none⟩ (.slice (addrAt 4 (some ⟨tb, off, none⟩) cap 1) L.length (cap - 1))).alloc (.cells #[.int .i64 0, .int .i64 0, .string ⟨#[]⟩, .slice none 0 0] 27)).alloc (.cells #[.int .i64 2, .string (bs raw), .string (bs val), .int .i64 num] 50)) w.heap.size 27 #[.int .i64 0, .int .i64 0, .string ⟨#[]⟩, .slice none 0 0] from (Blk.new (by simp)).alloc _)
  have P0 := Lib.hid (show Blk (((w.setCell ⟨b, 0, none⟩ (.slice (addrAt 4 (some ⟨tb, off, none⟩) cap 1) L.length (cap - 1))).alloc (.cells #[.int .i64 0, .int .i64 0, .string ⟨#[]⟩, .slice none 0 0] 27)).alloc (.cells #[.int .i64 2, .string (bs raw), .string (bs val), .int .i64 num] 50)) (w.heap.size + 1) 50 #[.int .i64 2, .string (bs raw), .string (bs val), .int .i64 num] from Blk.new (by simp))
  have HE0 := Lib.hid (hE.on HV0.out)
  have hz0 := Lib.hid (show w.heap.size + 2 ≤ (((w.setCell ⟨b, 0, none⟩ (.slice (addrAt 4 (some ⟨tb, off, none⟩) cap 1) L.length (cap - 1))).alloc (.cells #[.int .i64 0, .int .i64 0, .string ⟨#[]⟩, .slice none 0 0] 27)).alloc (.cells #[.int .i64 2, .string (bs raw), .string (bs val), .int .i64 num] 50)).heap.size by simp)
  clear h hnext hE HV0
  rcases hq with rfl | ⟨rfl, q40⟩
  all_goals
    go_enter Tryd.func11, Tryd.ntmps11
    go_wp2_with (first
      | (go_at_call 12; (with_reducible refine (cN.out _).mono ?_); rintro e W1 ⟨rfl, rfl⟩)
      | (go_at_call 12; (with_reducible refine (cX.out _).mono ?_); rintro e W9 ⟨rfl, rfl⟩)
      | (go_at_call 23; (with_reducible refine (cL.out _).mono ?_); rintro e W1 ⟨rfl, hb1⟩; have HR1 := Lib.hid (HR0.out.on hb1 (by have := hz0.out; omega)); have HG1 := Lib.hid (HG0.out.trans (grown_of_below hb1 _)); have Q1 := Lib.hid (Q0.out.below hb1 (by have := hz0.out; omega)); have HE1 := Lib.hid (HE0.out.on (hb1.mono (by have := hz0.out; omega))); have hz1 := Nat.le_trans hz0.out hb1.size; clear hb1)
      | (go_at_call 21; (with_reducible refine (cS.out _ HR1.out HE1.out).mono ?_); rintro e W2 ⟨hg2, v, rfl, ht2, hr2⟩; obtain ⟨sk, sn, su, sa, sl, sc, rfl⟩ := ht2.four; have HR2 := Lib.hid (hr2.alloc (.cells #[.int .i64 sk, .int .i64 sn, .string su, .slice sa sl sc] 27)); have HG2 := Lib.hid (grown_alloc (HG1.out.trans hg2) (.cells #[.int .i64 sk, .int .i64 sn, .string su, .slice sa sl sc] 27)); have Q2 := Lib.hid ((Blk_grown Q1.out hg2 (by omega)).alloc (.cells #[.int .i64 sk, .int .i64 sn, .string su, .slice sa sl sc] 27)); have P2 := Lib.hid (show Blk (W2.alloc (.cells #[.int .i64 sk, .int .i64 sn, .string su, .slice sa sl sc] 27)) W2.heap.size 27 #[.int .i64 sk, .int .i64 sn, .string su, .slice sa sl sc] from Blk.new rfl); have T2 := Lib.hid ((ht2.wide (Y := fun c => w.heap.size + 2 ≤ c) (fun c h _ => Nat.le_trans hz1 h)).on ((Below.refl _ _).alloc (Nat.le_refl _) (.cells #[.int .i64 sk, .int .i64 sn, .string su, .slice sa sl sc] 27))); have hz2 := Nat.le_trans hz1 hg2.size; clear ht2 hr2 hg2)
      | (go_at_call 22; (with_reducible refine (cR.out _ HR2.out).mono ?_); rintro e W3 ⟨rfl, rfl⟩))
    exact ⟨rfl, 4, .inr rfl, rfl, HG2.out⟩

set_option maxRecDepth 100000 in
set_option maxHeartbeats 8000000 in
theorem v_calc_ok (b : Nat) (c : Tk) (hc : c.raw = [41]) (raw val : Bs) (num : Int) (L : List Tk) (k : Int) (g inb : Bool) (hval : val.map lowB = calcT) (hio : inb = false ∨ ¬ raw = [40]) (hvl : val.length ≤ 400) (T : List Tk) (te : Te) (m : Int) (g2 : Bool) (hS : ∀ w, RdrAt w b L k g → Env b w → Calls Tryd.prog 21 #[.pointer (some ⟨b, 0, none⟩)] w fun e w' => w.grownBy w' (some b) ∧ ∃ v, e = .returned v ∧ TeAt (fun c => w.heap.size ≤ c) w' te v ∧ RdrAt w' b (c :: T) m g2) (w : World) (h : RdrAt w b (⟨2, raw, val, num⟩ :: L) k g) (hE : Env b w) :
    Calls Tryd.prog 11 #[.pointer (some ⟨b, 0, none⟩), .bool inb] w fun e w' => w.grownBy w' (some b) ∧ ∃ v, e = .returned v ∧ TeAt (fun c => w.heap.size ≤ c) w' te v ∧ RdrAt w' b T m g2 := by
  have cS := Lib.hid hS
  have cN := Lib.hid (need_yes b)
  have cX := Lib.hid (need_no b)
  have cR := Lib.hid (fun w h => raw_yes b c T m g2 ⟨#[41]⟩ w h hc)
  have cL := fun w => low_ct (bs val) (by rw [bs_size]; omega) w
  rw [show (bs val).data.toList = val from rfl, hval] at cL
  replace cL := Lib.hid cL
  have hq2 : ((bs calcT).toList == [99, 97, 108, 99]) = true := by rw [bs_toList]; rfl
  have hq : inb = false ∨ (inb = true ∧ ((bs raw).toList == [40]) = false) := by
    cases inb with
    | false => exact .inl rfl
    | true => exact .inr ⟨rfl, by rw [bs_toList, beq_eq_false_iff_ne]; rcases hio with h | h; exact absurd h (by decide); exact h⟩
  clear hS hval hvl hio
  obtain ⟨tb, off, cap, hcp, htb, hlt, hcl, hfr, e0, e1, e2, e3, hnext, hsl⟩ := h.turn
  have hp : 0 < L.length + 1 := by omega
  have htb2 : tb < w.heap.size := by omega
  dsimp only at e0 e1 e2 e3
  have HV0 := Lib.hid (show Below b w (((w.setCell ⟨b, 0, none⟩ (.slice (addrAt 4 (some ⟨tb, off, none⟩) cap 1) L.length (cap - 1))).alloc (.cells #[.int .i64 0, .int .i64 0, .string ⟨#[]⟩, .slice none 0 0] 27)).alloc (.cells #[.int .i64 2, .string (bs raw), .string (bs val), .int .i64 num] 50)) from (((Below.refl b w).setCell (Nat.le_refl _) _).alloc (by simp; omega) _).alloc (by simp; omega) _)
  have HR0 := Lib.hid (show RdrAt (((w.setCell ⟨b, 0, none⟩ (.slice (addrAt 4 (some ⟨tb, off, none⟩) cap 1) L.length (cap - 1))).alloc (.cells #[.int .i64 0, .int .i64 0, .string ⟨#[]⟩, .slice none 0 0] 27)).alloc (.cells #[.int .i64 2, .string (bs raw), .string (bs val), .int .i64 num] 50)) b L k g from (hnext.alloc _).alloc _)
  have HG0 := Lib.hid (show w.grownBy (((w.setCell ⟨b, 0, none⟩ (.slice (addrAt 4 (some ⟨tb, off, none⟩) cap 1) L.length (cap - 1))).alloc (.cells #[.int .i64 0, .int .i64 0, .string ⟨#[]⟩, .slice none 0 0] 27)).alloc (.cells #[.int .i64 2, .string (bs raw), .string (bs val), .int .i64 num] 50)) (some b) from grown_alloc (grown_alloc (grown_set _ _ _ _) _) _)
  have Q0 := Lib.hid (show Blk (((w.setCell ⟨b, 0, none⟩ (.slice (addrAt 4 (some ⟨tb, off, none⟩) cap 1) L.length (cap - 1))).alloc (.cells #[.int .i64 0, .int .i64 0, .string ⟨#[]⟩, .slice none 0 0] 27)).alloc (.cells #[.int .i64 2, .string (bs raw), .string (bs val), .int .i64 num] 50)) w.heap.size 27 #[.int .i64 0, .int .i64 0, .string ⟨#[]⟩, .slice none 0 0] from (Blk.new (by simp)).alloc _)
  have P0 := Lib.hid (show Blk (((w.setCell ⟨b, 0, none⟩ (.slice (addrAt 4 (some ⟨tb, off, none⟩) cap 1) L.length (cap - 1))).alloc (.cells #[.int .i64 0, .int .i64 0, .string ⟨#[]⟩, .slice none 0 0] 27)).alloc (.cells #[.int .i64 2, .string (bs raw), .string (bs val), .int .i64 num] 50)) (w.heap.size + 1) 50 #[.int .i64 2, .string (bs raw), .string (bs val), .int .i64 num] from Blk.new (by simp))
  have HE0 := Lib.hid (hE.on HV0.out)
  have hz0 := Lib.hid (show w.heap.size + 2 ≤ (((w.setCell ⟨b, 0, none⟩ (.slice (addrAt 4 (some ⟨tb, off, none⟩) cap 1) L.length (cap - 1))).alloc (.cells #[.int .i64 0, .int .i64 0, .string ⟨#[]⟩, .slice none 0 0] 27)).alloc (.cells #[.int .i64 2, .string (bs raw), .string (bs val), .int .i64 num] 50)).heap.size by simp)
  clear h hnext hE HV0
  rcases hq with rfl | ⟨rfl, q40⟩
  all_goals
    go_enter Tryd.func11, Tryd.ntmps11
    go_wp2_with (first
      | (go_at_call 12; (with_reducible refine (cN.out _).mono ?_); rintro e W1 ⟨rfl, rfl⟩)
      | (go_at_call 12; (with_reducible refine (cX.out _).mono ?_); rintro e W9 ⟨rfl, rfl⟩)
      | (go_at_call 23; (with_reducible refine (cL.out _).mono ?_); rintro e W1 ⟨rfl, hb1⟩; have HR1 := Lib.hid (HR0.out.on hb1 (by have := hz0.out; omega)); have HG1 := Lib.hid (HG0.out.trans (grown_of_below hb1 _)); have Q1 := Lib.hid (Q0.out.below hb1 (by have := hz0.out; omega)); have HE1 := Lib.hid (HE0.out.on (hb1.mono (by have := hz0.out; omega))); have hz1 := Nat.le_trans hz0.out hb1.size; clear hb1)
      | (go_at_call 21; (with_reducible refine (cS.out _ HR1.out HE1.out).mono ?_); rintro e W2 ⟨hg2, v, rfl, ht2, hr2⟩; obtain ⟨sk, sn, su, sa, sl, sc, rfl⟩ := ht2.four; have HR2 := Lib.hid (hr2.alloc (.cells #[.int .i64 sk, .int .i64 sn, .string su, .slice sa sl sc] 27)); have HG2 := Lib.hid (grown_alloc (HG1.out.trans hg2) (.cells #[.int .i64 sk, .int .i64 sn, .string su, .slice sa sl sc] 27)); have Q2 := Lib.hid ((Blk_grown Q1.out hg2 (by omega)).alloc (.cells #[.int .i64 sk, .int .i64 sn, .string su, .slice sa sl sc] 27)); have P2 := Lib.hid (show Blk (W2.alloc (.cells #[.int .i64 sk, .int .i64 sn, .string su, .slice sa sl sc] 27)) W2.heap.size 27 #[.int .i64 sk, .int .i64 sn, .string su, .slice sa sl sc] from Blk.new rfl); have T2 := Lib.hid ((ht2.wide (Y := fun c => w.heap.size + 2 ≤ c) (fun c h _ => Nat.le_trans hz1 h)).on ((Below.refl _ _).alloc (Nat.le_refl _) (.cells #[.int .i64 sk, .int .i64 sn, .string su, .slice sa sl sc] 27))); have hz2 := Nat.le_trans hz1 hg2.size; clear ht2 hr2 hg2)
      | (go_at_call 22; (with_reducible refine (cR.out _ HR2.out).mono ?_); rintro e W3 ⟨rfl, hr3, hg3⟩; have HR3 := Lib.hid hr3; have HG3 := Lib.hid (HG2.out.trans hg3); have Q3 := Blk_grown Q2.out hg3 (by omega); have P3 := Blk_grown P2.out hg3 (by omega); have T3 := Lib.hid (T2.out.grown hg3 (fun c (h : w.heap.size + 2 ≤ c) => by omega)); have q3c := Q3.cell; have q3f := Q3.frozen; have p3c := P3.cell; have hz3 := hg3.size; rw [World.size_alloc] at hz3; clear hr3 hg3 P3; replace Q3 := Lib.hid Q3))
    have e := Blk.cell (Blk.four (Q3.out) (.int .i64 sk) (.int .i64 sn) (.string su) (.slice sa sl sc))
    refine bodyPost_ret (v := .agg #[.int .i64 sk, .int .i64 sn, .string su, .slice sa sl sc]) (by simp [results, Tryd.results11, go_sem, e]) rfl ⟨?_, _, rfl, ?_, ?_⟩
    · exact grown_far (grown_far (grown_far (grown_far HG3.out (Nat.le_refl _)) (Nat.le_refl _)) (Nat.le_refl _)) (Nat.le_refl _)
    · exact TeAt.wide (((((T3.out.far (p := ⟨w.heap.size, 0, none⟩) (fun c (h : w.heap.size + 2 ≤ c) => by dsimp only; omega) _).far (p := ⟨w.heap.size, 1, none⟩) (fun c (h : w.heap.size + 2 ≤ c) => by dsimp only; omega) _).far (p := ⟨w.heap.size, 2, none⟩) (fun c (h : w.heap.size + 2 ≤ c) => by dsimp only; omega) _).far (p := ⟨w.heap.size, 3, none⟩) (fun c (h : w.heap.size + 2 ≤ c) => by dsimp only; omega) _)) (fun c (h : w.heap.size + 2 ≤ c) _ => (by omega : w.heap.size ≤ c))
    · exact (((HR3.out.far (by dsimp only; omega) _).far (by dsimp only; omega) _).far (by dsimp only; omega) _).far (by dsimp only; omega) _

end Go.Proofs.YtbiahfjjngkfgaaDoor.clb
