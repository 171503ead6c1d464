/- Contracts and plain law, a bundle: Cal9 Cal10. -/
import Derived.Deep.RegionWith
import Derived.Test.YtbiahfjjngkfgaaDoorBD
import Derived.Test.YtbiahfjjngkfgaaDoorBC3

namespace Go.Proofs.YtbiahfjjngkfgaaDoor.cal
open Go.RowKit Go.Proofs.YtbiahfjjngkfgaaDoor.base Go.Proofs.YtbiahfjjngkfgaaDoor.tok Go.Proofs.YtbiahfjjngkfgaaDoor.dim Go.Proofs.YtbiahfjjngkfgaaDoor.rul
set_option linter.unusedVariables false

/-- a reader: what it has yet to read, how many terms it made, and if there was a gap -/
def RdrAt (w : World) (b : Nat) (L : List Tk) (k : Int) (g : Bool) : Prop := ∃ A cap, L.length ≤ cap ∧ Blk w b 41 #[.slice A L.length cap, .int .i64 k, .bool g] ∧ TRd w b A L.length L
theorem RdrAt.lt {w : World} {b : Nat} {L : List Tk} {k : Int} {g : Bool} (h : RdrAt w b L k g) : b < w.heap.size := by
  obtain ⟨A, cap, _, hb, _⟩ := h
  exact hb.lt
theorem RdrAt.on {B : Nat} {w w' : World} {b : Nat} {L : List Tk} {k : Int} {g : Bool} (h : RdrAt w b L k g) (hb : Below B w w') (hB : b < B) : RdrAt w' b L k g := by
  obtain ⟨A, cap, hc, hk, hr⟩ := h
  exact ⟨A, cap, hc, hk.below hb hB, Rd.keep hr (hb.mono (Nat.le_of_lt hB)) (Nat.le_refl _)⟩
/-- the slot of the slice is turned -/
theorem RdrAt.turn {w : World} {b : Nat} {t : Tk} {L : List Tk} {k : Int} {g : Bool} (h : RdrAt w b (t :: L) k g) : ∃ tb off cap, L.length + 1 ≤ cap ∧ tb < b ∧ b < w.heap.size ∧ (∀ i, w.cell? ⟨b, i, none⟩ = (#[.slice (some ⟨tb, off, none⟩) (L.length + 1) cap, .int .i64 k, .bool g] : Array Value)[i]?) ∧ (∀ i, w.frozen? ⟨b, i, none⟩ = false) ∧
    w.cell? ⟨tb, off, none⟩ = some (.int .i64 t.k) ∧ w.cell? ⟨tb, off + 1, none⟩ = some (.string (bs t.raw)) ∧ w.cell? ⟨tb, off + 2, none⟩ = some (.string (bs t.val)) ∧ w.cell? ⟨tb, off + 3, none⟩ = some (.int .i64 t.num) ∧
    RdrAt (w.setCell ⟨b, 0, none⟩ (.slice (addrAt 4 (some ⟨tb, off, none⟩) cap 1) L.length (cap - 1))) b L k g ∧
    ∀ W, (Instr.slice 38 (.slice (some ⟨tb, off, none⟩) (L.length + 1) cap) (some (.int .i64 1)) none none).run Tryd.prog W = .ok (.slice (addrAt 4 (some ⟨tb, off, none⟩) cap 1) L.length (cap - 1)) W := by
  obtain ⟨A, cap, hc, hb, hr⟩ := h
  have hr' : TRd w b A (L.length + 1) (t :: L) := hr
  obtain ⟨tb, off, u, rfl, hlt, hd, e0, e1, e2, e3⟩ := TRd.tok hr' (show 0 < L.length + 1 by omega)
  obtain rfl : t = u := Option.some.inj hd
  simp only [Nat.zero_mul, Nat.add_zero] at e0 e1 e2 e3
  refine ⟨tb, off, cap, hc, hlt, hb.lt, hb.cell, hb.frozen, e0, e1, e2, e3, ⟨addrAt 4 (some ⟨tb, off, none⟩) cap 1, cap - 1, ?_, hb.put 0 _, ?_⟩, fun W => ?_⟩
  · have : L.length + 1 ≤ cap := hc
    omega
  · have h1 := rd_from hr' (i := 1) hc (by omega)
    rw [Nat.add_sub_cancel] at h1
    exact Rd.keep h1 ((Below.refl b w).setCell (Nat.le_refl _) _) (Nat.le_refl _)
  · have := slice_from (P := Tryd.prog) (k := 4) Tryd.underlying38 Tryd.sizeOf50 (some ⟨tb, off, none⟩) (L.length + 1) cap 1 (by decide) (by omega) W
    rw [this]
    rfl
theorem RdrAt.noneL {w : World} {b : Nat} {k : Int} {g : Bool} (h : RdrAt w b [] k g) : ∃ A cap, b < w.heap.size ∧ (∀ i, w.cell? ⟨b, i, none⟩ = (#[.slice A 0 cap, .int .i64 k, .bool g] : Array Value)[i]?) := by
  obtain ⟨A, cap, hc, hb, hr⟩ := h
  exact ⟨A, cap, hb.lt, hb.cell⟩
theorem RdrAt.count {w : World} {b : Nat} {L : List Tk} {k : Int} {g : Bool} (h : RdrAt w b L k g) (j : Int) : RdrAt (w.setCell ⟨b, 1, none⟩ (.int .i64 j)) b L j g := by
  obtain ⟨A, cap, hc, hb, hr⟩ := h
  exact ⟨A, cap, hc, hb.put 1 _, Rd.keep hr ((Below.refl b w).setCell (Nat.le_refl _) _) (Nat.le_refl _)⟩
theorem RdrAt.gapped {w : World} {b : Nat} {L : List Tk} {k : Int} {g : Bool} (h : RdrAt w b L k g) (x : Bool) : RdrAt (w.setCell ⟨b, 2, none⟩ (.bool x)) b L k x := by
  obtain ⟨A, cap, hc, hb, hr⟩ := h
  exact ⟨A, cap, hc, hb.put 2 _, Rd.keep hr ((Below.refl b w).setCell (Nat.le_refl _) _) (Nat.le_refl _)⟩

def lenV : Option Value → Nat
  | some (.slice _ n _) => n
  | _ => 0

set_option maxRecDepth 100000 in
set_option maxHeartbeats 4000000 in
theorem gap_ct (b : Nat) (L : List Tk) (k : Int) (g : Bool) (w : World) (h : RdrAt w b L k g) (hn : L.length ≤ 1000000) :
    Calls Tryd.prog 10 #[.pointer (some ⟨b, 0, none⟩)] w fun e w' => e = .returned (.bool (decide ((L.dropWhile silP).length < L.length))) ∧ RdrAt w' b (L.dropWhile silP) k g ∧ w.grownBy w' (some b) := by
  obtain ⟨A, cap, hc, hb, hr⟩ := id h
  have hc0 := hb.cell
  clear hb hr
  go_enter Tryd.func10, Tryd.ntmps10
  go_wp2_with fail
  go_loopw [] (fun wr => ∃ M : List Tk, M.length ≤ L.length ∧ RdrAt wr b M k g ∧ M.dropWhile silP = L.dropWhile silP ∧ w.grownBy wr (some b)) (fun wr => lenV (wr.cell? ⟨b, 0, none⟩))
  case atStart => exact ⟨L, Nat.le_refl _, h, rfl, World.grownBy.refl _ _⟩
  case round =>
    obtain ⟨M, hM, hrd, hinv, hgr⟩ := hrel
    replace hgr := Lib.hid hgr
    clear hc0 h
    cases M with
    | nil =>
      have hfin := Lib.hid (show L.dropWhile silP = [] from hinv.symm)
      obtain ⟨A', cap', hlt, hcl⟩ := hrd.noneL
      have HR := Lib.hid hrd
      have hx : decide (0 < L.length) = decide (([] : List Tk).length < L.length) := rfl
      clear hinv hrd
      go_wp2
      go_ret
      rw [hfin.out]
      refine ⟨?_, HR.out, hgr.out⟩
      simp
    | cons t M =>
      obtain ⟨tb, off, cap', hcp, htb, hlt, hcl, hfr, e0, e1, e2, e3, hnext, hsl⟩ := hrd.turn
      have HR := Lib.hid hrd
      have HN := Lib.hid hnext
      clear hrd hnext
      have hml : M.length + 1 ≤ L.length := hM
      have hp : 0 < M.length + 1 := by omega
      by_cases hs : silP t = true
      · have hs2 : t.k = 8 ∨ t.k = 9 := by simpa [silP] using hs
        have hi2 := Lib.hid (show M.dropWhile silP = L.dropWhile silP by rw [← hinv, List.dropWhile_cons_of_pos hs])
        clear hs hinv
        rcases hs2 with hk | hk
        all_goals
          rw [hk] at e0
          go_wp2_with fail
          go_roundw
          case rel => exact ⟨M, by omega, HN.out, hi2.out, hgr.out.trans (grown_set _ _ _ _)⟩
          case measure =>
            have m1 := World.cell?_setCell_same' wr ⟨b, 0, none⟩ (.slice (addrAt 4 (some ⟨tb, off, none⟩) cap' 1) M.length (cap' - 1)) (by rw [hcl 0]; rfl)
            rw [m1, hcl 0]
            simp [lenV]
      · have hs2 : ¬ (t.k = 8 ∨ t.k = 9) := by simpa [silP] using hs
        have n8 : (t.k == 8) = false := by rw [beq_eq_false_iff_ne]; omega
        have n9 : (t.k == 9) = false := by rw [beq_eq_false_iff_ne]; omega
        have hfin := Lib.hid (show L.dropWhile silP = t :: M by rw [← hinv, List.dropWhile_cons_of_neg hs])
        clear hs hinv hs2
        go_wp2
        go_ret
        rw [hfin.out]
        exact ⟨by simp; omega, HR.out, hgr.out⟩

set_option maxRecDepth 100000 in
set_option maxHeartbeats 4000000 in
theorem raw_yes (b : Nat) (t : Tk) (L : List Tk) (k : Int) (g : Bool) (s : ByteArray) (w : World) (h : RdrAt w b (t :: L) k g) (hs : t.raw = s.data.toList) :
    Calls Tryd.prog 22 #[.pointer (some ⟨b, 0, none⟩), .string s] w fun e w' => e = .returned (.bool true) ∧ RdrAt w' b L k g ∧ w.grownBy w' (some b) := by
  obtain ⟨tb, off, cap, hcp, htb, hlt, hcl, hfr, e0, e1, e2, e3, hnext, hsl⟩ := h.turn
  have HN := Lib.hid hnext
  have q1 : ((bs t.raw).toList == s.toList) = true := by rw [bs_toList, Lib.toList_data, hs, beq_self_eq_true]
  have q2 : ((bs t.raw).toList != s.toList) = false := by rw [bne, q1]; rfl
  have hp : 0 < L.length + 1 := by omega
  clear h hnext hs
  go_enter Tryd.func22, Tryd.ntmps22
  go_wp2
  go_ret
  exact ⟨rfl, HN.out, grown_set _ _ _ _⟩

set_option maxRecDepth 100000 in
set_option maxHeartbeats 4000000 in
theorem raw_no (b : Nat) (t : Tk) (L : List Tk) (k : Int) (g : Bool) (s : ByteArray) (w : World) (h : RdrAt w b (t :: L) k g) (hs : t.raw ≠ s.data.toList) :
    Calls Tryd.prog 22 #[.pointer (some ⟨b, 0, none⟩), .string s] w fun e w' => e = .returned (.bool false) ∧ w = w' := by
  obtain ⟨tb, off, cap, hcp, htb, hlt, hcl, hfr, e0, e1, e2, e3, hnext, hsl⟩ := h.turn
  have q1 : ((bs t.raw).toList == s.toList) = false := by rw [bs_toList, Lib.toList_data, beq_eq_false_iff_ne]; exact hs
  have q2 : ((bs t.raw).toList != s.toList) = true := by rw [bne, q1]; rfl
  have hp : 0 < L.length + 1 := by omega
  clear h hnext hs
  go_enter Tryd.func22, Tryd.ntmps22
  go_wp2
  go_ret
  exact ⟨rfl, rfl⟩

set_option maxRecDepth 100000 in
set_option maxHeartbeats 4000000 in
theorem raw_end (b : Nat) (k : Int) (g : Bool) (s : ByteArray) (w : World) (h : RdrAt w b [] k g) :
    Calls Tryd.prog 22 #[.pointer (some ⟨b, 0, none⟩), .string s] w fun e w' => e = .returned (.bool false) ∧ w = w' := by
  obtain ⟨A, cap, hlt, hcl⟩ := h.noneL
  clear h
  go_enter Tryd.func22, Tryd.ntmps22
  go_wp2
  go_ret
  exact ⟨rfl, rfl⟩

theorem need_yes (b : Nat) (w : World) : Calls Tryd.prog 12 #[.pointer (some ⟨b, 0, none⟩), .bool true] w fun e w' => e = .returned (.tuple #[]) ∧ w = w' := by
  go_enter Tryd.func12, Tryd.ntmps12
  go_wp2
  go_end0
  exact ⟨rfl, rfl⟩

set_option maxRecDepth 100000 in
set_option maxHeartbeats 4000000 in
theorem made_yes (b : Nat) (L : List Tk) (k : Int) (g : Bool) (t : Tm) (hk0 : 0 ≤ k) (hk : k < 30) (w : World) (h : RdrAt w b L k g) :
    Calls Tryd.prog 20 #[.pointer (some ⟨b, 0, none⟩), .agg #[.int .i64 t.k, .int .i64 t.n, .string t.u, .slice t.a t.l t.c]] w fun e w' => e = .returned (.agg #[.int .i64 t.k, .int .i64 t.n, .string t.u, .slice t.a t.l t.c]) ∧ RdrAt w' b L (k + 1) g ∧ w.grownBy w' (some b) := by
  obtain ⟨tk, tn, tu, ta, tl, tc⟩ := t
  dsimp only
  have HR := Lib.hid h
  obtain ⟨A, cap, hc, hb, hr⟩ := h
  have hlt := hb.lt
  have c1 := hb.cell
  have c2 := hb.frozen
  have c3 := fun v => (hb.put 1 v).cell
  have hbb := Lib.hid hb
  clear hr hb
  go_enter Tryd.func20, Tryd.ntmps20
  go_wp2_with fail
  refine bodyPost_ret (v := .agg #[.int .i64 tk, .int .i64 tn, .string tu, .slice ta tl tc]) (by simp [results, Tryd.results20, go_sem]) rfl ⟨rfl, ?_, ?_⟩
  · exact (((HR.out.count (k + 1)).on ((Below.refl _ _).alloc (Nat.le_refl _) _) (by simpa using hlt)).on ((Below.refl _ _).alloc (Nat.le_refl _) _) (by simp; omega))
  · exact ((grown_set _ _ _ _).trans (grown_of_below ((Below.refl _ _).alloc (Nat.le_refl _) _) _)).trans (grown_of_below ((Below.refl _ _).alloc (Nat.le_refl _) _) _)

end Go.Proofs.YtbiahfjjngkfgaaDoor.cal

namespace Go.Proofs.YtbiahfjjngkfgaaDoor.cal
open Go.RowKit Go.Proofs.YtbiahfjjngkfgaaDoor.base Go.Proofs.YtbiahfjjngkfgaaDoor.tok Go.Proofs.YtbiahfjjngkfgaaDoor.dim Go.Proofs.YtbiahfjjngkfgaaDoor.rul
set_option linter.unusedVariables false

theorem below_one {w w' : World} {b : Nat} (hg : w.grownBy w' (some b)) (hb : b < w.heap.size) : Below b w w' := (Below.refl b w).grown hg (Nat.le_of_lt hb) (fun k e => by cases e; exact Nat.le_refl _)
/-- what the reader wants of the variables: whatever lies from block b on -/
def Env (b : Nat) (w : World) : Prop := ∀ w', Below b w w' → MaxL w' ∧ UnitsAt w'
theorem Env.on {b : Nat} {w w' : World} (h : Env b w) (hb : Below b w w') : Env b w' := fun v hv => h v (hb.trans hv)

theorem gap_yes (b : Nat) (s x : Tk) (L : List Tk) (k : Int) (g : Bool) (hs : silP s = true) (hx : silP x = false) (hn : L.length ≤ 1000) (w : World) (h : RdrAt w b (s :: x :: L) k g) :
    Calls Tryd.prog 10 #[.pointer (some ⟨b, 0, none⟩)] w fun e w' => e = .returned (.bool true) ∧ RdrAt w' b (x :: L) k g ∧ w.grownBy w' (some b) := by
  have hd : (s :: x :: L).dropWhile silP = x :: L := by rw [List.dropWhile_cons_of_pos hs, List.dropWhile_cons_of_neg (by rw [hx]; decide)]
  have h1 := gap_ct b (s :: x :: L) k g w h (by simp; omega)
  rw [hd] at h1
  have h2 : decide ((x :: L).length < (s :: x :: L).length) = true := by simp
  rw [h2] at h1
  exact h1
theorem gap_no (b : Nat) (x : Tk) (L : List Tk) (k : Int) (g : Bool) (hx : silP x = false) (hn : L.length ≤ 1000) (w : World) (h : RdrAt w b (x :: L) k g) :
    Calls Tryd.prog 10 #[.pointer (some ⟨b, 0, none⟩)] w fun e w' => e = .returned (.bool false) ∧ RdrAt w' b (x :: L) k g ∧ w.grownBy w' (some b) := by
  have hd : (x :: L).dropWhile silP = x :: L := List.dropWhile_cons_of_neg (by rw [hx]; decide)
  have h1 := gap_ct b (x :: L) k g w h (by simp; omega)
  rw [hd] at h1
  have h2 : decide ((x :: L).length < (x :: L).length) = false := by simp
  rw [h2] at h1
  exact h1
theorem gap_end (b : Nat) (k : Int) (g : Bool) (w : World) (h : RdrAt w b [] k g) :
    Calls Tryd.prog 10 #[.pointer (some ⟨b, 0, none⟩)] w fun e w' => e = .returned (.bool false) ∧ RdrAt w' b [] k g ∧ w.grownBy w' (some b) := gap_ct b [] k g w h (by simp)

theorem Blk_grown {w w' : World} {k b : Nat} {t : TypeId} {cs : Array Value} (h : Blk w k t cs) (hg : w.grownBy w' (some b)) (hk : k ≠ b) : Blk w' k t cs := (hg.block k h.lt (fun e => hk (Option.some.inj e))).trans h
theorem grown_far {w w' : World} {b : Nat} {p : Addr} {v : Value} (h : w.grownBy w' (some b)) (hp : w.heap.size ≤ p.block) : w.grownBy (w'.setCell p v) (some b) :=
  ⟨h.os, h.tape, h.output, by simp [World.setCell]; exact h.size, fun k hk hne => (Below.heap_setCell w' p v k (by omega)).trans (h.block k hk hne)⟩
theorem grown_alloc {w w' : World} {b : Nat} (h : w.grownBy w' (some b)) (o : Obj) : w.grownBy (w'.alloc o) (some b) := h.trans (grown_of_below ((Below.refl _ _).alloc (Nat.le_refl _) _) _)
theorem RdrAt.alloc {w : World} {b : Nat} {L : List Tk} {k : Int} {g : Bool} (h : RdrAt w b L k g) (o : Obj) : RdrAt (w.alloc o) b L k g := h.on ((Below.refl _ _).alloc (Nat.le_refl _) _) h.lt
theorem RdrAt.far {w : World} {b : Nat} {L : List Tk} {k : Int} {g : Bool} (h : RdrAt w b L k g) {p : Addr} (hp : b < p.block) (v : Value) : RdrAt (w.setCell p v) b L k g := h.on ((Below.refl (b + 1) w).setCell hp _) (Nat.lt_succ_self b)

set_option maxRecDepth 100000 in
set_option maxHeartbeats 4000000 in
theorem value_num (b : Nat) (raw u : Bs) (n : Int) (L : List Tk) (k : Int) (g inb : Bool) (hraw : raw.length < 4294967281) (hcut : cutP raw = [⟨7, raw, u, n⟩]) (hu : u ∈ unitsL) (hk0 : 0 ≤ k) (hk : k < 30) (w : World) (h : RdrAt w b (⟨7, raw, u, n⟩ :: L) k g) (hE : Env b w) :
    Calls Tryd.prog 11 #[.pointer (some ⟨b, 0, none⟩), .bool inb] w fun e w' => e = .returned (.agg #[.int .i64 1, .int .i64 n, .string (bs u), .slice none 0 0]) ∧ RdrAt w' b L (k + 1) g ∧ w.grownBy w' (some b) := by
  have cR := Lib.hid (fun w (hm : MaxL w) (hU : UnitsAt w) => read_ct (bs raw) hraw raw u n hcut hu w hm hU)
  have cN := Lib.hid (need_yes b)
  have cM := fun w h => made_yes b L k g ⟨1, n, bs u, none, 0, 0⟩ hk0 hk w h
  dsimp only at cM
  replace cM := Lib.hid cM
  clear hraw hcut hu
  obtain ⟨tb, off, cap, hcp, htb, hlt, hcl, hfr, e0, e1, e2, e3, hnext, hsl⟩ := h.turn
  have hp : 0 < L.length + 1 := by omega
  have htb2 : tb < w.heap.size := by omega
  dsimp only at e0 e1 e2 e3
  have HV0 := Lib.hid (show Below b w (((w.setCell ⟨b, 0, none⟩ (.slice (addrAt 4 (some ⟨tb, off, none⟩) cap 1) L.length (cap - 1))).alloc (.cells #[.int .i64 0, .int .i64 0, .string ⟨#[]⟩, .slice none 0 0] 27)).alloc (.cells #[.int .i64 7, .string (bs raw), .string (bs u), .int .i64 n] 50)) from (((Below.refl b w).setCell (Nat.le_refl _) _).alloc (by simp; omega) _).alloc (by simp; omega) _)
  have HR0 := Lib.hid (show RdrAt (((w.setCell ⟨b, 0, none⟩ (.slice (addrAt 4 (some ⟨tb, off, none⟩) cap 1) L.length (cap - 1))).alloc (.cells #[.int .i64 0, .int .i64 0, .string ⟨#[]⟩, .slice none 0 0] 27)).alloc (.cells #[.int .i64 7, .string (bs raw), .string (bs u), .int .i64 n] 50)) b L k g from (hnext.alloc _).alloc _)
  have HG0 := Lib.hid (show w.grownBy (((w.setCell ⟨b, 0, none⟩ (.slice (addrAt 4 (some ⟨tb, off, none⟩) cap 1) L.length (cap - 1))).alloc (.cells #[.int .i64 0, .int .i64 0, .string ⟨#[]⟩, .slice none 0 0] 27)).alloc (.cells #[.int .i64 7, .string (bs raw), .string (bs u), .int .i64 n] 50)) (some b) from grown_alloc (grown_alloc (grown_set _ _ _ _) _) _)
  have Q0 := Lib.hid (show Blk (((w.setCell ⟨b, 0, none⟩ (.slice (addrAt 4 (some ⟨tb, off, none⟩) cap 1) L.length (cap - 1))).alloc (.cells #[.int .i64 0, .int .i64 0, .string ⟨#[]⟩, .slice none 0 0] 27)).alloc (.cells #[.int .i64 7, .string (bs raw), .string (bs u), .int .i64 n] 50)) w.heap.size 27 #[.int .i64 0, .int .i64 0, .string ⟨#[]⟩, .slice none 0 0] from (Blk.new (by simp)).alloc _)
  have HE0 := Lib.hid (hE _ HV0.out)
  have hz0 := Lib.hid (show w.heap.size + 2 ≤ (((w.setCell ⟨b, 0, none⟩ (.slice (addrAt 4 (some ⟨tb, off, none⟩) cap 1) L.length (cap - 1))).alloc (.cells #[.int .i64 0, .int .i64 0, .string ⟨#[]⟩, .slice none 0 0] 27)).alloc (.cells #[.int .i64 7, .string (bs raw), .string (bs u), .int .i64 n] 50)).heap.size by simp)
  clear h hnext hE HV0
  go_enter Tryd.func11, Tryd.ntmps11
  go_wp2_with (first
    | (go_at_call 12; (with_reducible refine (cN.out _).mono ?_); rintro e W1 ⟨rfl, rfl⟩)
    | (go_at_call 19; (with_reducible refine (cR.out _ HE0.out.1 HE0.out.2).mono ?_); rintro e W1 ⟨rfl, hb1⟩; have HR1 := Lib.hid (HR0.out.on hb1 (by have := hz0.out; omega)); have HG1 := Lib.hid (HG0.out.trans (grown_of_below hb1 _)); have Q1 := Lib.hid (Q0.out.below hb1 (by have := hz0.out; omega)); have hz1 := Nat.le_trans hz0.out hb1.size; clear hb1)
    | (go_at_call 20; (with_reducible refine (cM.out _ (HR1.out.alloc _)).mono ?_); rintro e W2 ⟨rfl, hr2, hg2⟩; have HR2 := Lib.hid hr2; have HG2 := Lib.hid ((grown_alloc HG1.out _).trans hg2); have q2 := Blk_grown (Q1.out.alloc _) hg2 (by omega); have qc := q2.cell; have qf := q2.frozen; have hz2 := hg2.size; rw [World.size_alloc] at hz2; replace q2 := Lib.hid q2; clear hr2 hg2))
  have e := Blk.cell (Blk.four (q2.out) (.int .i64 1) (.int .i64 n) (.string (bs u)) (.slice none 0 0))
  refine bodyPost_ret (v := .agg #[.int .i64 1, .int .i64 n, .string (bs u), .slice none 0 0]) (by simp [results, Tryd.results11, go_sem, e]) rfl ⟨rfl, ?_, ?_⟩
  · exact (((HR2.out.far (by dsimp only; omega) _).far (by dsimp only; omega) _).far (by dsimp only; omega) _).far (by dsimp only; omega) _
  · exact grown_far (grown_far (grown_far (grown_far HG2.out (Nat.le_refl _)) (Nat.le_refl _)) (Nat.le_refl _)) (Nat.le_refl _)

end Go.Proofs.YtbiahfjjngkfgaaDoor.cal
