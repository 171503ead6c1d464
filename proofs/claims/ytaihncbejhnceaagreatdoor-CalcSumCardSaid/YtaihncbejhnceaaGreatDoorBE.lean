/- Contracts and plain law, a bundle: Cal9 Cal10 Cal11 Cal12 Cal13 Cal14 Cal15 Cal16 Cal17 Cal18 Cal19. -/
import Derived.Deep.RegionWith
import Derived.Recover
import Derived.Laws.Pointers
import Derived.WalkLawsBesides
import Derived.Deep.DeepCutAuto
import Derived.Test.YtaihncbejhnceaaGreatDoorBD
import Derived.Test.YtaihncbejhnceaaGreatDoorBC

namespace Go.Proofs.YtaihncbejhnceaaGreatDoor.cal
open Go.RowKit Go.Proofs.YtaihncbejhnceaaGreatDoor.base Go.Proofs.YtaihncbejhnceaaGreatDoor.tok Go.Proofs.YtaihncbejhnceaaGreatDoor.dim Go.Proofs.YtaihncbejhnceaaGreatDoor.rul
set_option linter.unusedVariables false

/-- a reader: what it has yet to read, how many terms it made, and if there was a gap -/
def RdrAt (w : World) (b : Nat) (L : List Tk) (k : Int) (g : Bool) : Prop := ∃ A cap, L.length ≤ cap ∧ Blk w b 53 #[.slice A L.length cap, .int .i64 k, .bool g] ∧ TRd w b A L.length L
theorem RdrAt.lt {w : World} {b : Nat} {L : List Tk} {k : Int} {g : Bool} (h : RdrAt w b L k g) : b < w.heap.size := by
  obtain ⟨A, cap, _, hb, _⟩ := h
  exact hb.lt
theorem RdrAt.on {B : Nat} {w w' : World} {b : Nat} {L : List Tk} {k : Int} {g : Bool} (h : RdrAt w b L k g) (hb : Below B w w') (hB : b < B) : RdrAt w' b L k g := by
  obtain ⟨A, cap, hc, hk, hr⟩ := h
  exact ⟨A, cap, hc, hk.below hb hB, Rd.keep hr (hb.mono (Nat.le_of_lt hB)) (Nat.le_refl _)⟩
/-- the slot of the slice is turned -/
theorem RdrAt.turn {w : World} {b : Nat} {t : Tk} {L : List Tk} {k : Int} {g : Bool} (h : RdrAt w b (t :: L) k g) : ∃ tb off cap, L.length + 1 ≤ cap ∧ tb < b ∧ b < w.heap.size ∧ (∀ i, w.cell? ⟨b, i, none⟩ = (#[.slice (some ⟨tb, off, none⟩) (L.length + 1) cap, .int .i64 k, .bool g] : Array Value)[i]?) ∧ (∀ i, w.frozen? ⟨b, i, none⟩ = false) ∧
    w.cell? ⟨tb, off, none⟩ = some (.int .i64 t.k) ∧ w.cell? ⟨tb, off + 1, none⟩ = some (.string (bs t.raw)) ∧ w.cell? ⟨tb, off + 2, none⟩ = some (.string (bs t.val)) ∧ w.cell? ⟨tb, off + 3, none⟩ = some (.int .i64 t.num) ∧
    RdrAt (w.setCell ⟨b, 0, none⟩ (.slice (addrAt 4 (some ⟨tb, off, none⟩) cap 1) L.length (cap - 1))) b L k g ∧
    ∀ W, (Instr.slice 50 (.slice (some ⟨tb, off, none⟩) (L.length + 1) cap) (some (.int .i64 1)) none none).run Tryz.prog W = .ok (.slice (addrAt 4 (some ⟨tb, off, none⟩) cap 1) L.length (cap - 1)) W := by
  obtain ⟨A, cap, hc, hb, hr⟩ := h
  have hr' : TRd w b A (L.length + 1) (t :: L) := hr
  obtain ⟨tb, off, u, rfl, hlt, hd, e0, e1, e2, e3⟩ := TRd.tok hr' (show 0 < L.length + 1 by omega)
  obtain rfl : t = u := Option.some.inj hd
  simp only [Nat.zero_mul, Nat.add_zero] at e0 e1 e2 e3
  refine ⟨tb, off, cap, hc, hlt, hb.lt, hb.cell, hb.frozen, e0, e1, e2, e3, ⟨addrAt 4 (some ⟨tb, off, none⟩) cap 1, cap - 1, ?_, hb.put 0 _, ?_⟩, fun W => ?_⟩
  · have : L.length + 1 ≤ cap := hc
    omega
  · have h1 := rd_from hr' (i := 1) hc (by omega)
    rw [Nat.add_sub_cancel] at h1
    exact Rd.keep h1 ((Below.refl b w).setCell (Nat.le_refl _) _) (Nat.le_refl _)
  · have := slice_from (P := Tryz.prog) (k := 4) Tryz.underlying50 Tryz.sizeOf64 (some ⟨tb, off, none⟩) (L.length + 1) cap 1 (by decide) (by omega) W
    rw [this]
    rfl
theorem RdrAt.noneL {w : World} {b : Nat} {k : Int} {g : Bool} (h : RdrAt w b [] k g) : ∃ A cap, b < w.heap.size ∧ (∀ i, w.cell? ⟨b, i, none⟩ = (#[.slice A 0 cap, .int .i64 k, .bool g] : Array Value)[i]?) := by
  obtain ⟨A, cap, hc, hb, hr⟩ := h
  exact ⟨A, cap, hb.lt, hb.cell⟩
theorem RdrAt.count {w : World} {b : Nat} {L : List Tk} {k : Int} {g : Bool} (h : RdrAt w b L k g) (j : Int) : RdrAt (w.setCell ⟨b, 1, none⟩ (.int .i64 j)) b L j g := by
  obtain ⟨A, cap, hc, hb, hr⟩ := h
  exact ⟨A, cap, hc, hb.put 1 _, Rd.keep hr ((Below.refl b w).setCell (Nat.le_refl _) _) (Nat.le_refl _)⟩
theorem RdrAt.gapped {w : World} {b : Nat} {L : List Tk} {k : Int} {g : Bool} (h : RdrAt w b L k g) (x : Bool) : RdrAt (w.setCell ⟨b, 2, none⟩ (.bool x)) b L k x := by
  obtain ⟨A, cap, hc, hb, hr⟩ := h
  exact ⟨A, cap, hc, hb.put 2 _, Rd.keep hr ((Below.refl b w).setCell (Nat.le_refl _) _) (Nat.le_refl _)⟩

def lenV : Option Value → Nat
  | some (.slice _ n _) => n
  | _ => 0

set_option maxRecDepth 100000 in
set_option maxHeartbeats 4000000 in
theorem gap_ct (b : Nat) (L : List Tk) (k : Int) (g : Bool) (w : World) (h : RdrAt w b L k g) (hn : L.length ≤ 1000000) :
    Calls Tryz.prog 16 #[.pointer (some ⟨b, 0, none⟩)] w fun e w' => e = .returned (.bool (decide ((L.dropWhile silP).length < L.length))) ∧ RdrAt w' b (L.dropWhile silP) k g ∧ w.grownBy w' (some b) := by
  obtain ⟨A, cap, hc, hb, hr⟩ := id h
  have hc0 := hb.cell
  clear hb hr
  go_enter Tryz.func16, Tryz.ntmps16
  go_wp2_with fail
  go_loopw [] (fun wr => ∃ M : List Tk, M.length ≤ L.length ∧ RdrAt wr b M k g ∧ M.dropWhile silP = L.dropWhile silP ∧ w.grownBy wr (some b)) (fun wr => lenV (wr.cell? ⟨b, 0, none⟩))
  case atStart => exact ⟨L, Nat.le_refl _, h, rfl, World.grownBy.refl _ _⟩
  case round =>
    obtain ⟨M, hM, hrd, hinv, hgr⟩ := hrel
    replace hgr := Lib.hid hgr
    clear hc0 h
    cases M with
    | nil =>
      have hfin := Lib.hid (show L.dropWhile silP = [] from hinv.symm)
      obtain ⟨A', cap', hlt, hcl⟩ := hrd.noneL
      have HR := Lib.hid hrd
      have hx : decide (0 < L.length) = decide (([] : List Tk).length < L.length) := rfl
      clear hinv hrd
      go_wp2
      go_ret
      rw [hfin.out]
      refine ⟨?_, HR.out, hgr.out⟩
      simp
    | cons t M =>
      obtain ⟨tb, off, cap', hcp, htb, hlt, hcl, hfr, e0, e1, e2, e3, hnext, hsl⟩ := hrd.turn
      have HR := Lib.hid hrd
      have HN := Lib.hid hnext
      clear hrd hnext
      have hml : M.length + 1 ≤ L.length := hM
      have hp : 0 < M.length + 1 := by omega
      by_cases hs : silP t = true
      · have hs2 : t.k = 8 ∨ t.k = 9 := by simpa [silP] using hs
        have hi2 := Lib.hid (show M.dropWhile silP = L.dropWhile silP by rw [← hinv, List.dropWhile_cons_of_pos hs])
        clear hs hinv
        rcases hs2 with hk | hk
        all_goals
          rw [hk] at e0
          go_wp2_with fail
          go_roundw
          case rel => exact ⟨M, by omega, HN.out, hi2.out, hgr.out.trans (grown_set _ _ _ _)⟩
          case measure =>
            have m1 := World.cell?_setCell_same' wr ⟨b, 0, none⟩ (.slice (addrAt 4 (some ⟨tb, off, none⟩) cap' 1) M.length (cap' - 1)) (by rw [hcl 0]; rfl)
            rw [m1, hcl 0]
            simp [lenV]
      · have hs2 : ¬ (t.k = 8 ∨ t.k = 9) := by simpa [silP] using hs
        have n8 : (t.k == 8) = false := by rw [beq_eq_false_iff_ne]; omega
        have n9 : (t.k == 9) = false := by rw [beq_eq_false_iff_ne]; omega
        have hfin := Lib.hid (show L.dropWhile silP = t :: M by rw [← hinv, List.dropWhile_cons_of_neg hs])
        clear hs hinv hs2
        go_wp2
        go_ret
        rw [hfin.out]
        exact ⟨by simp; omega, HR.out, hgr.out⟩

set_option maxRecDepth 100000 in
set_option maxHeartbeats 4000000 in
theorem raw_yes (b : Nat) (t : Tk) (L : List Tk) (k : Int) (g : Bool) (s : ByteArray) (w : World) (h : RdrAt w b (t :: L) k g) (hs : t.raw = s.data.toList) :
    Calls Tryz.prog 32 #[.pointer (some ⟨b, 0, none⟩), .string s] w fun e w' => e = .returned (.bool true) ∧ RdrAt w' b L k g ∧ w.grownBy w' (some b) := by
  obtain ⟨tb, off, cap, hcp, htb, hlt, hcl, hfr, e0, e1, e2, e3, hnext, hsl⟩ := h.turn
  have HN := Lib.hid hnext
  have q1 : ((bs t.raw).toList == s.toList) = true := by rw [bs_toList, Lib.toList_data, hs, beq_self_eq_true]
  have q2 : ((bs t.raw).toList != s.toList) = false := by rw [bne, q1]; rfl
  have hp : 0 < L.length + 1 := by omega
  clear h hnext hs
  go_enter Tryz.func32, Tryz.ntmps32
  go_wp2
  go_ret
  exact ⟨rfl, HN.out, grown_set _ _ _ _⟩

set_option maxRecDepth 100000 in
set_option maxHeartbeats 4000000 in
theorem raw_no (b : Nat) (t : Tk) (L : List Tk) (k : Int) (g : Bool) (s : ByteArray) (w : World) (h : RdrAt w b (t :: L) k g) (hs : t.raw ≠ s.data.toList) :
    Calls Tryz.prog 32 #[.pointer (some ⟨b, 0, none⟩), .string s] w fun e w' => e = .returned (.bool false) ∧ w = w' := by
  obtain ⟨tb, off, cap, hcp, htb, hlt, hcl, hfr, e0, e1, e2, e3, hnext, hsl⟩ := h.turn
  have q1 : ((bs t.raw).toList == s.toList) = false := by rw [bs_toList, Lib.toList_data, beq_eq_false_iff_ne]; exact hs
  have q2 : ((bs t.raw).toList != s.toList) = true := by rw [bne, q1]; rfl
  have hp : 0 < L.length + 1 := by omega
  clear h hnext hs
  go_enter Tryz.func32, Tryz.ntmps32
  go_wp2
  go_ret
  exact ⟨rfl, rfl⟩

set_option maxRecDepth 100000 in
set_option maxHeartbeats 4000000 in
theorem raw_end (b : Nat) (k : Int) (g : Bool) (s : ByteArray) (w : World) (h : RdrAt w b [] k g) :
    Calls Tryz.prog 32 #[.pointer (some ⟨b, 0, none⟩), .string s] w fun e w' => e = .returned (.bool false) ∧ w = w' := by
  obtain ⟨A, cap, hlt, hcl⟩ := h.noneL
  clear h
  go_enter Tryz.func32, Tryz.ntmps32
  go_wp2
  go_ret
  exact ⟨rfl, rfl⟩

theorem need_yes (b : Nat) (w : World) : Calls Tryz.prog 18 #[.pointer (some ⟨b, 0, none⟩), .bool true] w fun e w' => e = .returned (.tuple #[]) ∧ w = w' := by
  go_enter Tryz.func18, Tryz.ntmps18
  go_wp2
  go_end0
  exact ⟨rfl, rfl⟩

set_option maxRecDepth 100000 in
set_option maxHeartbeats 4000000 in
theorem made_yes (b : Nat) (L : List Tk) (k : Int) (g : Bool) (t : Tm) (hk0 : 0 ≤ k) (hk : k < 30) (w : World) (h : RdrAt w b L k g) :
    Calls Tryz.prog 30 #[.pointer (some ⟨b, 0, none⟩), .agg #[.int .i64 t.k, .int .i64 t.n, .string t.u, .slice t.a t.l t.c]] w fun e w' => e = .returned (.agg #[.int .i64 t.k, .int .i64 t.n, .string t.u, .slice t.a t.l t.c]) ∧ RdrAt w' b L (k + 1) g ∧ w.grownBy w' (some b) := by
  obtain ⟨tk, tn, tu, ta, tl, tc⟩ := t
  dsimp only
  have HR := Lib.hid h
  obtain ⟨A, cap, hc, hb, hr⟩ := h
  have hlt := hb.lt
  have c1 := hb.cell
  have c2 := hb.frozen
  have c3 := fun v => (hb.put 1 v).cell
  have hbb := Lib.hid hb
  clear hr hb
  go_enter Tryz.func30, Tryz.ntmps30
  go_wp2_with fail
  refine bodyPost_ret (v := .agg #[.int .i64 tk, .int .i64 tn, .string tu, .slice ta tl tc]) (by simp [results, Tryz.results30, go_sem]) rfl ⟨rfl, ?_, ?_⟩
  · exact (((HR.out.count (k + 1)).on ((Below.refl _ _).alloc (Nat.le_refl _) _) (by simpa using hlt)).on ((Below.refl _ _).alloc (Nat.le_refl _) _) (by simp; omega))
  · exact ((grown_set _ _ _ _).trans (grown_of_below ((Below.refl _ _).alloc (Nat.le_refl _) _) _)).trans (grown_of_below ((Below.refl _ _).alloc (Nat.le_refl _) _) _)

end Go.Proofs.YtaihncbejhnceaaGreatDoor.cal

namespace Go.Proofs.YtaihncbejhnceaaGreatDoor.cal
open Go.RowKit Go.Proofs.YtaihncbejhnceaaGreatDoor.base Go.Proofs.YtaihncbejhnceaaGreatDoor.tok Go.Proofs.YtaihncbejhnceaaGreatDoor.dim Go.Proofs.YtaihncbejhnceaaGreatDoor.rul
set_option linter.unusedVariables false

theorem below_one {w w' : World} {b : Nat} (hg : w.grownBy w' (some b)) (hb : b < w.heap.size) : Below b w w' := (Below.refl b w).grown hg (Nat.le_of_lt hb) (fun k e => by cases e; exact Nat.le_refl _)
/-- what the reader wants of the variables: whatever lies from block b on -/
def Env (b : Nat) (w : World) : Prop := ∀ w', Below b w w' → MaxL w' ∧ UnitsAt w'
theorem Env.on {b : Nat} {w w' : World} (h : Env b w) (hb : Below b w w') : Env b w' := fun v hv => h v (hb.trans hv)

theorem gap_yes (b : Nat) (s x : Tk) (L : List Tk) (k : Int) (g : Bool) (hs : silP s = true) (hx : silP x = false) (hn : L.length ≤ 1000) (w : World) (h : RdrAt w b (s :: x :: L) k g) :
    Calls Tryz.prog 16 #[.pointer (some ⟨b, 0, none⟩)] w fun e w' => e = .returned (.bool true) ∧ RdrAt w' b (x :: L) k g ∧ w.grownBy w' (some b) := by
  have hd : (s :: x :: L).dropWhile silP = x :: L := by rw [List.dropWhile_cons_of_pos hs, List.dropWhile_cons_of_neg (by rw [hx]; decide)]
  have h1 := gap_ct b (s :: x :: L) k g w h (by simp; omega)
  rw [hd] at h1
  have h2 : decide ((x :: L).length < (s :: x :: L).length) = true := by simp
  rw [h2] at h1
  exact h1
theorem gap_no (b : Nat) (x : Tk) (L : List Tk) (k : Int) (g : Bool) (hx : silP x = false) (hn : L.length ≤ 1000) (w : World) (h : RdrAt w b (x :: L) k g) :
    Calls Tryz.prog 16 #[.pointer (some ⟨b, 0, none⟩)] w fun e w' => e = .returned (.bool false) ∧ RdrAt w' b (x :: L) k g ∧ w.grownBy w' (some b) := by
  have hd : (x :: L).dropWhile silP = x :: L := List.dropWhile_cons_of_neg (by rw [hx]; decide)
  have h1 := gap_ct b (x :: L) k g w h (by simp; omega)
  rw [hd] at h1
  have h2 : decide ((x :: L).length < (x :: L).length) = false := by simp
  rw [h2] at h1
  exact h1
theorem gap_end (b : Nat) (k : Int) (g : Bool) (w : World) (h : RdrAt w b [] k g) :
    Calls Tryz.prog 16 #[.pointer (some ⟨b, 0, none⟩)] w fun e w' => e = .returned (.bool false) ∧ RdrAt w' b [] k g ∧ w.grownBy w' (some b) := gap_ct b [] k g w h (by simp)

theorem Blk_grown {w w' : World} {k b : Nat} {t : TypeId} {cs : Array Value} (h : Blk w k t cs) (hg : w.grownBy w' (some b)) (hk : k ≠ b) : Blk w' k t cs := (hg.block k h.lt (fun e => hk (Option.some.inj e))).trans h
theorem grown_far {w w' : World} {b : Nat} {p : Addr} {v : Value} (h : w.grownBy w' (some b)) (hp : w.heap.size ≤ p.block) : w.grownBy (w'.setCell p v) (some b) :=
  ⟨h.os, h.tape, h.output, by simp [World.setCell]; exact h.size, fun k hk hne => (Below.heap_setCell w' p v k (by omega)).trans (h.block k hk hne)⟩
theorem grown_alloc {w w' : World} {b : Nat} (h : w.grownBy w' (some b)) (o : Obj) : w.grownBy (w'.alloc o) (some b) := h.trans (grown_of_below ((Below.refl _ _).alloc (Nat.le_refl _) _) _)
theorem RdrAt.alloc {w : World} {b : Nat} {L : List Tk} {k : Int} {g : Bool} (h : RdrAt w b L k g) (o : Obj) : RdrAt (w.alloc o) b L k g := h.on ((Below.refl _ _).alloc (Nat.le_refl _) _) h.lt
theorem RdrAt.far {w : World} {b : Nat} {L : List Tk} {k : Int} {g : Bool} (h : RdrAt w b L k g) {p : Addr} (hp : b < p.block) (v : Value) : RdrAt (w.setCell p v) b L k g := h.on ((Below.refl (b + 1) w).setCell hp _) (Nat.lt_succ_self b)

set_option maxRecDepth 100000 in
set_option maxHeartbeats 4000000 in
theorem value_num (b : Nat) (raw u : Bs) (n : Int) (L : List Tk) (k : Int) (g inb : Bool) (hraw : raw.length < 4294967281) (hcut : cutP raw = [⟨7, raw, u, n⟩]) (hu : u ∈ unitsL) (hk0 : 0 ≤ k) (hk : k < 30) (w : World) (h : RdrAt w b (⟨7, raw, u, n⟩ :: L) k g) (hE : Env b w) :
    Calls Tryz.prog 17 #[.pointer (some ⟨b, 0, none⟩), .bool inb] w fun e w' => e = .returned (.agg #[.int .i64 1, .int .i64 n, .string (bs u), .slice none 0 0]) ∧ RdrAt w' b L (k + 1) g ∧ w.grownBy w' (some b) := by
  have cR := Lib.hid (fun w (hm : MaxL w) (hU : UnitsAt w) => read_ct (bs raw) hraw raw u n hcut hu w hm hU)
  have cN := Lib.hid (need_yes b)
  have cM := fun w h => made_yes b L k g ⟨1, n, bs u, none, 0, 0⟩ hk0 hk w h
  dsimp only at cM
  replace cM := Lib.hid cM
  clear hraw hcut hu
  obtain ⟨tb, off, cap, hcp, htb, hlt, hcl, hfr, e0, e1, e2, e3, hnext, hsl⟩ := h.turn
  have hp : 0 < L.length + 1 := by omega
  have htb2 : tb < w.heap.size := by omega
  dsimp only at e0 e1 e2 e3
  have HV0 := Lib.hid (show Below b w (((w.setCell ⟨b, 0, none⟩ (.slice (addrAt 4 (some ⟨tb, off, none⟩) cap 1) L.length (cap - 1))).alloc (.cells #[.int .i64 0, .int .i64 0, .string ⟨#[]⟩, .slice none 0 0] 29)).alloc (.cells #[.int .i64 7, .string (bs raw), .string (bs u), .int .i64 n] 64)) from (((Below.refl b w).setCell (Nat.le_refl _) _).alloc (by simp; omega) _).alloc (by simp; omega) _)
  have HR0 := Lib.hid (show RdrAt (((w.setCell ⟨b, 0, none⟩ (.slice (addrAt 4 (some ⟨tb, off, none⟩) cap 1) L.length (cap - 1))).alloc (.cells #[.int .i64 0, .int .i64 0, .string ⟨#[]⟩, .slice none 0 0] 29)).alloc (.cells #[.int .i64 7, .string (bs raw), .string (bs u), .int .i64 n] 64)) b L k g from (hnext.alloc _).alloc _)
  have HG0 := Lib.hid (show w.grownBy (((w.setCell ⟨b, 0, none⟩ (.slice (addrAt 4 (some ⟨tb, off, none⟩) cap 1) L.length (cap - 1))).alloc (.cells #[.int .i64 0, .int .i64 0, .string ⟨#[]⟩, .slice none 0 0] 29)).alloc (.cells #[.int .i64 7, .string (bs raw), .string (bs u), .int .i64 n] 64)) (some b) from grown_alloc (grown_alloc (grown_set _ _ _ _) _) _)
  have Q0 := Lib.hid (show Blk (((w.setCell ⟨b, 0, none⟩ (.slice (addrAt 4 (some ⟨tb, off, none⟩) cap 1) L.length (cap - 1))).alloc (.cells #[.int .i64 0, .int .i64 0, .string ⟨#[]⟩, .slice none 0 0] 29)).alloc (.cells #[.int .i64 7, .string (bs raw), .string (bs u), .int .i64 n] 64)) w.heap.size 29 #[.int .i64 0, .int .i64 0, .string ⟨#[]⟩, .slice none 0 0] from (Blk.new (by simp)).alloc _)
  have HE0 := Lib.hid (hE _ HV0.out)
  have hz0 := Lib.hid (show w.heap.size + 2 ≤ (((w.setCell ⟨b, 0, none⟩ (.slice (addrAt 4 (some ⟨tb, off, none⟩) cap 1) L.length (cap - 1))).alloc (.cells #[.int .i64 0, .int .i64 0, .string ⟨#[]⟩, .slice none 0 0] 29)).alloc (.cells #[.int .i64 7, .string (bs raw), .string (bs u), .int .i64 n] 64)).heap.size by simp)
  clear h hnext hE HV0
  go_enter Tryz.func17, Tryz.ntmps17
  go_wp2_with (first
    | (go_at_call 18; (with_reducible refine (cN.out _).mono ?_); rintro e W1 ⟨rfl, rfl⟩)
    | (go_at_call 29; (with_reducible refine (cR.out _ HE0.out.1 HE0.out.2).mono ?_); rintro e W1 ⟨rfl, hb1⟩; have HR1 := Lib.hid (HR0.out.on hb1 (by have := hz0.out; omega)); have HG1 := Lib.hid (HG0.out.trans (grown_of_below hb1 _)); have Q1 := Lib.hid (Q0.out.below hb1 (by have := hz0.out; omega)); have hz1 := Nat.le_trans hz0.out hb1.size; clear hb1)
    | (go_at_call 30; (with_reducible refine (cM.out _ (HR1.out.alloc _)).mono ?_); rintro e W2 ⟨rfl, hr2, hg2⟩; have HR2 := Lib.hid hr2; have HG2 := Lib.hid ((grown_alloc HG1.out _).trans hg2); have q2 := Blk_grown (Q1.out.alloc _) hg2 (by omega); have qc := q2.cell; have qf := q2.frozen; have hz2 := hg2.size; rw [World.size_alloc] at hz2; replace q2 := Lib.hid q2; clear hr2 hg2))
  have e := Blk.cell (Blk.four (q2.out) (.int .i64 1) (.int .i64 n) (.string (bs u)) (.slice none 0 0))
  refine bodyPost_ret (v := .agg #[.int .i64 1, .int .i64 n, .string (bs u), .slice none 0 0]) (by simp [results, Tryz.results17, go_sem, e]) rfl ⟨rfl, ?_, ?_⟩
  · exact (((HR2.out.far (by dsimp only; omega) _).far (by dsimp only; omega) _).far (by dsimp only; omega) _).far (by dsimp only; omega) _
  · exact grown_far (grown_far (grown_far (grown_far HG2.out (Nat.le_refl _)) (Nat.le_refl _)) (Nat.le_refl _)) (Nat.le_refl _)

end Go.Proofs.YtaihncbejhnceaaGreatDoor.cal

namespace Go.Proofs.YtaihncbejhnceaaGreatDoor.cal
open Go.RowKit Go.Proofs.YtaihncbejhnceaaGreatDoor.base Go.Proofs.YtaihncbejhnceaaGreatDoor.tok Go.Proofs.YtaihncbejhnceaaGreatDoor.dim Go.Proofs.YtaihncbejhnceaaGreatDoor.rul
set_option linter.unusedVariables false

theorem RdrAt.lenV {w : World} {b : Nat} {L : List Tk} {k : Int} {g : Bool} (h : RdrAt w b L k g) : cal.lenV (w.cell? ⟨b, 0, none⟩) = L.length := by
  obtain ⟨A, cap, hc, hb, hr⟩ := h
  rw [hb.cell 0]
  rfl

theorem tm_two {w : World} {c : Nat} {t : TypeId} {t0 t1 : Tm} (h : Blk w c t #[.int .i64 t0.k, .int .i64 t0.n, .string t0.u, .slice t0.a t0.l t0.c, .int .i64 t1.k, .int .i64 t1.n, .string t1.u, .slice t1.a t1.l t1.c]) : TmAt w c 0 [t0, t1] :=
  ⟨h.lt, fun i t ht => by
    rcases two_at ht with ⟨rfl, rfl⟩ | ⟨rfl, rfl⟩
    · exact ⟨h.cell 0, h.cell 1, h.cell 2, h.cell 3⟩
    · exact ⟨h.cell 4, h.cell 5, h.cell 6, h.cell 7⟩⟩
theorem TmAt.grown {w w' : World} {b c o : Nat} {L : List Tm} (h : TmAt w c o L) (hg : w.grownBy w' (some b)) (hne : c ≠ b) : TmAt w' c o L :=
  ⟨Nat.lt_of_lt_of_le h.1 hg.size, fun i t ht => by
    have e : ∀ j, w'.cell? ⟨c, j, none⟩ = w.cell? ⟨c, j, none⟩ := fun j => by
      simp only [World.cell?]
      rw [hg.block c h.1 (fun e => hne (Option.some.inj e))]
    obtain ⟨a0, a1, a2, a3⟩ := h.2 i t ht
    exact ⟨(e _).trans a0, (e _).trans a1, (e _).trans a2, (e _).trans a3⟩⟩
theorem TmAt.far {w : World} {b o : Nat} {L : List Tm} (h : TmAt w b o L) {p : Addr} (hp : b ≠ p.block) (v : Value) : TmAt (w.setCell p v) b o L :=
  ⟨by simpa [World.setCell] using h.1, fun i t ht => by
    have e : ∀ j, (w.setCell p v).cell? ⟨b, j, none⟩ = w.cell? ⟨b, j, none⟩ := fun j => World.cell?_setCell_other w p ⟨b, j, none⟩ v (by intro e; subst e; exact hp rfl)
    obtain ⟨a0, a1, a2, a3⟩ := h.2 i t ht
    exact ⟨(e _).trans a0, (e _).trans a1, (e _).trans a2, (e _).trans a3⟩⟩

set_option maxRecDepth 100000 in
set_option maxHeartbeats 8000000 in
theorem product_mul (b : Nat) (r1 u1 r2 u2 : Bs) (n1 n2 : Int) (s x s2 t : Tk) (T : List Tk) (k : Int) (g : Bool) (hr1 : r1.length < 4294967281) (hr2 : r2.length < 4294967281) (hcut1 : cutP r1 = [⟨7, r1, u1, n1⟩]) (hcut2 : cutP r2 = [⟨7, r2, u2, n2⟩]) (hu1 : u1 ∈ unitsL) (hu2 : u2 ∈ unitsL)
    (hs : silP s = true) (hs2 : silP s2 = true) (hx : x.raw = [42]) (hxs : silP x = false) (hts : silP t = false) (ht1 : t.raw ≠ [42]) (ht2 : t.raw ≠ [47]) (hT : T.length ≤ 900) (hk0 : 0 ≤ k) (hk : k ≤ 20) (w : World)
    (h : RdrAt w b (⟨7, r1, u1, n1⟩ :: s :: x :: s2 :: ⟨7, r2, u2, n2⟩ :: t :: T) k g) (hE : Env b w) :
    Calls Tryz.prog 56 #[.pointer (some ⟨b, 0, none⟩)] w fun e w' => ∃ c, e = .returned (.agg #[.int .i64 4, .int .i64 0, .string ⟨#[]⟩, .slice (some ⟨c, 0, none⟩) 2 2]) ∧ TmAt w' c 0 [leafT n1 (bs u1), leafT n2 (bs u2)] ∧ w.heap.size ≤ c ∧ RdrAt w' b (t :: T) (k + 3) false ∧ w.grownBy w' (some b) := by
  have c1 := Lib.hid (fun w h => gap_no b ⟨7, r1, u1, n1⟩ (s :: x :: s2 :: ⟨7, r2, u2, n2⟩ :: t :: T) k g rfl (by simp; omega) w h)
  have c2 := Lib.hid (fun w h hE => value_num b r1 u1 n1 (s :: x :: s2 :: ⟨7, r2, u2, n2⟩ :: t :: T) k g true hr1 hcut1 hu1 hk0 (by omega) w h hE)
  have c3 := Lib.hid (fun w h => gap_yes b s x (s2 :: ⟨7, r2, u2, n2⟩ :: t :: T) (k + 1) g hs hxs (by simp; omega) w h)
  have c4 := Lib.hid (fun w h => raw_yes b x (s2 :: ⟨7, r2, u2, n2⟩ :: t :: T) (k + 1) true ⟨#[42]⟩ w h hx)
  have c5 := Lib.hid (fun w h => gap_yes b s2 ⟨7, r2, u2, n2⟩ (t :: T) (k + 1) true hs2 rfl (by simp; omega) w h)
  have c6 := Lib.hid (fun w h hE => value_num b r2 u2 n2 (t :: T) (k + 1) true true hr2 hcut2 hu2 (by omega) (by omega) w h hE)
  have c7 := fun c w h => made_yes b (t :: T) (k + 1 + 1) true ⟨4, 0, ⟨#[]⟩, some ⟨c, 0, none⟩, 2, 2⟩ (by omega) (by omega) w h
  dsimp only at c7
  replace c7 := Lib.hid c7
  have hk3 := Lib.hid (show k + 1 + 1 + 1 = k + 3 by omega)
  have c8 := Lib.hid (fun w h => gap_no b t T (k + 3) true hts (by omega) w h)
  have c9 := Lib.hid (fun w h => raw_no b t T (k + 3) false ⟨#[42]⟩ w h ht1)
  have c10 := Lib.hid (fun w h => raw_no b t T (k + 3) false ⟨#[47]⟩ w h ht2)
  clear hr1 hr2 hcut1 hcut2 hu1 hu2 hs hs2 hx hxs hts ht1 ht2 hT
  have hlt := h.lt
  have HR0 := Lib.hid (h.alloc (.cells #[.int .i64 0, .int .i64 0, .string ⟨#[]⟩, .slice none 0 0] 29))
  have HG0 := Lib.hid (show w.grownBy (w.alloc (.cells #[.int .i64 0, .int .i64 0, .string ⟨#[]⟩, .slice none 0 0] 29)) (some b) from grown_alloc (World.grownBy.refl _ _) _)
  have Q0 := Lib.hid (show Blk (w.alloc (.cells #[.int .i64 0, .int .i64 0, .string ⟨#[]⟩, .slice none 0 0] 29)) w.heap.size 29 #[.int .i64 0, .int .i64 0, .string ⟨#[]⟩, .slice none 0 0] from Blk.new rfl)
  replace hE := Lib.hid hE
  clear h
  go_enter Tryz.func56, Tryz.ntmps56
  go_wp2_with (first
    | (go_at_call 16; (with_reducible refine (c1.out _ HR0.out).mono ?_); rintro e W1 ⟨rfl, hr1, hg1⟩; have HR1 := Lib.hid hr1; have HG1 := Lib.hid (HG0.out.trans hg1); have Q1 := Lib.hid (Blk_grown Q0.out hg1 (by omega)); clear hr1 hg1)
    | (go_at_call 17; (with_reducible refine (c2.out _ HR1.out (hE.out.on (below_one HG1.out hlt))).mono ?_); rintro e W2 ⟨rfl, hr2, hg2⟩; have HR2 := Lib.hid hr2; have HG2 := Lib.hid (HG1.out.trans hg2); have Q2 := Lib.hid (Blk_grown Q1.out hg2 (by omega)); clear hr2 hg2))
  have hz2 := HG2.out.size
  have ho := Q2.out.lt
  go_loopw [] (fun wr => (RdrAt wr b (s :: x :: s2 :: ⟨7, r2, u2, n2⟩ :: t :: T) (k + 1) g ∧ Blk wr W2.heap.size 29 #[.int .i64 1, .int .i64 n1, .string (bs u1), .slice none 0 0] ∧ Blk wr w.heap.size 29 #[.int .i64 0, .int .i64 0, .string ⟨#[]⟩, .slice none 0 0] ∧ w.grownBy wr (some b)) ∨
      (∃ c, RdrAt wr b (t :: T) (k + 3) true ∧ Blk wr W2.heap.size 29 #[.int .i64 4, .int .i64 0, .string ⟨#[]⟩, .slice (some ⟨c, 0, none⟩) 2 2] ∧ Blk wr w.heap.size 29 #[.int .i64 0, .int .i64 0, .string ⟨#[]⟩, .slice none 0 0] ∧ w.grownBy wr (some b) ∧ TmAt wr c 0 [leafT n1 (bs u1), leafT n2 (bs u2)] ∧ W2.heap.size < c)) (fun wr => cal.lenV (wr.cell? ⟨b, 0, none⟩))
  case atStart => exact .inl ⟨HR2.out.alloc _, Blk.new rfl, Q2.out.alloc _, grown_alloc HG2.out _⟩
  case round =>
    rcases hrel with ⟨hr, hq, hz, hg⟩ | ⟨c, hr, hq, hz, hg, ht, hcc⟩
    · replace hr := Lib.hid hr
      replace hq := Lib.hid hq
      replace hz := Lib.hid hz
      replace hg := Lib.hid hg
      go_wp2_with (first
        | (go_at_call 16; (with_reducible refine (c3.out _ hr.out).mono ?_); rintro e W3 ⟨rfl, hr3, hg3⟩; have q3 := Blk_grown hq.out hg3 (by omega); have z3 := Lib.hid (Blk_grown hz.out hg3 (by omega)); have G3 := Lib.hid (hg.out.trans hg3); obtain ⟨tb3, off3, cap3, _, _, _, hcl3, hfr3, _, _, _, _, _, _⟩ := hr3.turn; have HR3 := Lib.hid (hr3.gapped true); have Q3 := Lib.hid (q3.far (p := ⟨b, 2, none⟩) (by dsimp only; omega) (.bool true)); clear hr3 hg3 q3)
        | (go_at_call 32; (with_reducible refine (c4.out _ HR3.out).mono ?_); rintro e W4 ⟨rfl, hr4, hg4⟩; have HR4 := Lib.hid hr4; have G4 := Lib.hid ((G3.out.trans (grown_set _ _ _ _)).trans hg4); have Q4 := Lib.hid (Blk_grown Q3.out hg4 (by omega)); have z4 := Lib.hid (Blk_grown (z3.out.far (p := ⟨b, 2, none⟩) (by dsimp only; omega) (.bool true)) hg4 (by omega)); clear hr4 hg4)
        | (go_at_call 16; (with_reducible refine (c5.out _ HR4.out).mono ?_); rintro e W5 ⟨rfl, hr5, hg5⟩; have HR5 := Lib.hid (hr5.on (Below.refl _ _).drew hr5.lt); have G5 := Lib.hid ((G4.out.trans hg5).trans (grown_of_below (Below.refl _ _).drew _)); have Q5 := Lib.hid (Blk_grown Q4.out hg5 (by omega)).drew; have z5 := Lib.hid (Blk_grown z4.out hg5 (by omega)).drew; clear hr5 hg5))
      have qc5 := Q5.out.cell
      have hz5 := G5.out.size
      go_region_with (first
        | (go_at_call 17; (with_reducible refine (c6.out _ HR5.out (hE.out.on (below_one G5.out hlt))).mono ?_); rintro e W6 ⟨rfl, hr6, hg6⟩; have HR6 := Lib.hid hr6; have G6 := Lib.hid (G5.out.trans hg6); have Q6 := Lib.hid (Blk_grown Q5.out hg6 (by omega)); have z6 := Lib.hid (Blk_grown z5.out hg6 (by omega)); have qc6 := Q6.out.cell; have qf6 := Q6.out.frozen; clear hr6 hg6)
        | (go_at_call 30; (with_reducible refine (c7.out _ _ (HR6.out.alloc _)).mono ?_); rintro e W7 ⟨rfl, hr7, hg7⟩; have hb6 := G6.out.size; rw [hk3.out] at hr7; have HR7 := Lib.hid hr7; have G7 := Lib.hid ((grown_alloc G6.out _).trans hg7); have q7 := Blk_grown (Q6.out.alloc _) hg7 (by omega); have z7 := Lib.hid (Blk_grown (z6.out.alloc _) hg7 (by omega)); have t7 := Lib.hid (Blk_grown (Blk.new (w := W6) (k := W6.heap.size) (t := 29) (cs := #[.int .i64 1, .int .i64 n1, .string (bs u1), .slice none 0 0, .int .i64 1, .int .i64 n2, .string (bs u2), .slice none 0 0]) rfl) hg7 (by omega)); have qc7 := q7.cell; have qf7 := q7.frozen; have Q7 := Lib.hid q7; clear hr7 hg7 q7))
      all_goals
        have hw6 := G6.out.size
        have hq6 := Q6.out.lt
        have HRn := Lib.hid ((((HR7.out.far (p := ⟨W2.heap.size, 0, none⟩) (by dsimp only; omega) (.int .i64 4)).far (p := ⟨W2.heap.size, 1, none⟩) (by dsimp only; omega) (.int .i64 0)).far (p := ⟨W2.heap.size, 2, none⟩) (by dsimp only; omega) (.string ⟨#[]⟩)).far (p := ⟨W2.heap.size, 3, none⟩) (by dsimp only; omega) (.slice (some ⟨W6.heap.size, 0, none⟩) 2 2))
        go_wp2
        go_roundw
        case rel =>
          refine .inr ⟨W6.heap.size, HRn.out, Blk.four Q7.out _ _ _ _, ?_, ?_, ?_, hq6⟩
          · exact ((((z7.out.far (by dsimp only; omega) _).far (by dsimp only; omega) _).far (by dsimp only; omega) _).far (by dsimp only; omega) _)
          · exact grown_far (grown_far (grown_far (grown_far G7.out (by dsimp only; omega)) (by dsimp only; omega)) (by dsimp only; omega)) (by dsimp only; omega)
          · exact (((TmAt.far (TmAt.far (TmAt.far (TmAt.far (tm_two (t0 := leafT n1 (bs u1)) (t1 := leafT n2 (bs u2)) t7.out) (by dsimp only; omega) _) (by dsimp only; omega) _) (by dsimp only; omega) _) (by dsimp only; omega) _)))
        case measure =>
          rw [HRn.out.lenV, hr.out.lenV]
          simp only [List.length_cons]
          omega
    · replace hq := Lib.hid hq
      replace hg := Lib.hid hg
      replace ht := Lib.hid ht
      go_wp2_with (first
        | (go_at_call 16; (with_reducible refine (c8.out _ hr).mono ?_); rintro e W3 ⟨rfl, hr3, hg3⟩; have q3 := (Blk_grown hq.out hg3 (by omega)).far (p := ⟨b, 2, none⟩) (by dsimp only; omega) (.bool false); have z3 := Lib.hid ((Blk_grown hz hg3 (by omega)).far (p := ⟨b, 2, none⟩) (by dsimp only; omega) (.bool false)); have G3 := Lib.hid ((hg.out.trans hg3).trans (grown_set W3 b 2 (.bool false))); have t3 := Lib.hid ((ht.out.grown hg3 (by omega)).far (p := ⟨b, 2, none⟩) (by dsimp only; omega) (.bool false)); obtain ⟨tb3, off3, cap3, _, _, _, hcl3, hfr3, _, _, _, _, _, _⟩ := hr3.turn; have HR3 := Lib.hid (hr3.gapped false); have qc3 := q3.cell; have qf3 := q3.frozen; have zc3 := z3.out.cell; have zf3 := z3.out.frozen; clear hr3 hg3 q3)
        | (go_at_call 32; (with_reducible refine (c9.out _ HR3.out).mono ?_); rintro e W4 ⟨rfl, rfl⟩)
        | (go_at_call 32; (with_reducible refine (c10.out _ HR3.out).mono ?_); rintro e W4 ⟨rfl, rfl⟩))
      have e := Blk.cell (Blk.four (z3.out) (.int .i64 4) (.int .i64 0) (.string ⟨#[]⟩) (.slice (some ⟨c, 0, none⟩) 2 2))
      refine bodyPost_ret (v := .agg #[.int .i64 4, .int .i64 0, .string ⟨#[]⟩, .slice (some ⟨c, 0, none⟩) 2 2]) (by simp [results, Tryz.results56, go_sem, e]) rfl ⟨c, rfl, ?_, by omega, ?_, ?_⟩
      · exact (((t3.out.far (by dsimp only; omega) _).far (by dsimp only; omega) _).far (by dsimp only; omega) _).far (by dsimp only; omega) _
      · exact (((HR3.out.far (by dsimp only; omega) _).far (by dsimp only; omega) _).far (by dsimp only; omega) _).far (by dsimp only; omega) _
      · exact grown_far (grown_far (grown_far (grown_far G3.out (Nat.le_refl _)) (Nat.le_refl _)) (Nat.le_refl _)) (Nat.le_refl _)

end Go.Proofs.YtaihncbejhnceaaGreatDoor.cal

namespace Go.Proofs.YtaihncbejhnceaaGreatDoor.cal
open Go.RowKit Go.Proofs.YtaihncbejhnceaaGreatDoor.base Go.Proofs.YtaihncbejhnceaaGreatDoor.tok Go.Proofs.YtaihncbejhnceaaGreatDoor.dim Go.Proofs.YtaihncbejhnceaaGreatDoor.rul
set_option linter.unusedVariables false

set_option maxRecDepth 100000 in
set_option maxHeartbeats 2000000 in
theorem low_ct (s : ByteArray) (hs : s.size ≤ 140737488355328) (w : World) : Calls Tryz.prog 33 #[.string s] w fun e w' => e = .returned (.string (bs (s.data.toList.map lowB))) ∧ Below w.heap.size w w' := by
  have hz := Lib.hid (Lib.size_eq s)
  go_enter Tryz.func33, Tryz.ntmps33
  go_wp2_with fail
  obtain ⟨cp, W1, hcv, hb1, hz1, hby, hfy⟩ := bytes_of s w
  rw [hcv]
  simp only [Result.andThen]
  rw [Oper.upon_value]
  have hB0 := Lib.hid (show BytesAt W1 w.heap.size s.data.toList from ⟨hby, fun j hj => hfy j (by rw [hz.out]; exact hj)⟩)
  replace hb1 := Lib.hid hb1
  clear hcv hby hfy
  go_wp2_with fail
  go_loopw [10] (fun i wr => ∃ k : Nat, k ≤ s.size ∧ i = .int .i64 k ∧ BytesAt wr w.heap.size (lowAt s.data.toList k) ∧ W1.grownBy wr (some w.heap.size)) (fun i _ => s.size - (intOf i).toNat)
  case atStart => exact ⟨0, by omega, rfl, by simpa [lowAt] using hB0.out, World.grownBy.refl _ _⟩
  case round =>
    obtain ⟨k, hk, rfl, hby, hgr⟩ := hrel
    replace hgr := Lib.hid hgr
    by_cases hlt : k < s.size
    · have hlt' : (k : Int) < (s.size : Int) := by omega
      obtain ⟨c, hc⟩ : ∃ c, s.data.toList[k]? = some c := ⟨s.data.toList[k]'(by rw [← Lib.size_eq]; exact hlt), List.getElem?_eq_getElem _⟩
      have hkl : k < (lowAt s.data.toList k).length := by rw [lowAt_len, ← Lib.size_eq]; exact hlt
      have hcell := hby.1 k c (lowAt_get hc)
      have hfr := hby.2 k hkl
      have hst := Lib.hid (lowAt_step hc)
      have hsm := Lib.hid (set_same (lowAt_get hc))
      have hby' := Lib.hid hby
      have c0 := nv_nn c
      have c1 := nv_lt c
      clear hc hby
      by_cases h1 : 65 ≤ nv c
      · by_cases h2 : nv c ≤ 90
        · have hlo := Lib.hid (lowB_great ⟨h1, h2⟩)
          generalize hx : nv c = x at *
          replace hx := Lib.hid hx
          go_wp2_with fail
          go_roundw
          case rel =>
            refine ⟨k + 1, by omega, by go_num, ?_, hgr.out.trans (grown_set _ _ _ _)⟩
            rw [hst.out]
            exact hby'.out.put hkl hlo.out.symm
          case measure => simp [intOf]; omega
        · have hlo := Lib.hid (lowB_other (c := c) (fun h => h2 h.2))
          generalize hx : nv c = x at *
          replace hx := Lib.hid hx
          go_wp2_with fail
          go_roundw
          case rel => exact ⟨k + 1, by omega, by go_num, by rw [hst.out, hlo.out, hsm.out]; exact hby'.out, hgr.out⟩
          case measure => simp [intOf]; omega
      · have hlo := Lib.hid (lowB_other (c := c) (fun h => h1 h.1))
        generalize hx : nv c = x at *
        replace hx := Lib.hid hx
        go_wp2_with fail
        go_roundw
        case rel => exact ⟨k + 1, by omega, by go_num, by rw [hst.out, hlo.out, hsm.out]; exact hby'.out, hgr.out⟩
        case measure => simp [intOf]; omega
    · obtain rfl : k = s.size := by omega
      have hfin : lowAt s.data.toList s.size = s.data.toList.map lowB := by rw [Lib.size_eq]; exact lowAt_end _
      have hln : (s.data.toList.map lowB).length = s.size := by rw [List.length_map, Lib.size_eq]
      have hcv : ∀ cap, (convert 75 9 (.slice (some ⟨w.heap.size, 0, none⟩) s.size cap)).run Tryz.prog wr = .ok (.string (bs (s.data.toList.map lowB))) wr := fun cap => by
        have := run_convert_bytes_back wr 75 9 5 ⟨w.heap.size, 0, none⟩ cap (s.data.toList.map lowB) Tryz.underlying75 Tryz.underlying5 Tryz.underlying9 (fun j hj => by
          rw [add_zero_block]
          have hb2 := hby.1
          rw [hfin] at hb2
          exact hb2 j _ (List.getElem?_eq_getElem hj))
        rw [hln] at this
        exact this
      have hB := Lib.hid (below_grow hb1.out hgr.out (Nat.le_refl _) (by have := hb1.out.size; omega))
      clear hby hfin hln
      go_wp2
      go_ret
      exact ⟨rfl, hB.out⟩


/-- what product tells of the reader's world -/
def ProdAt (b : Nat) (L : List Tk) (t : Tk) (T : List Tk) (k : Int) (g : Bool) (t0 t1 : Tm) (w : World) : Prop :=
  Calls Tryz.prog 56 #[.pointer (some ⟨b, 0, none⟩)] w fun e w' => ∃ c, e = .returned (.agg #[.int .i64 4, .int .i64 0, .string ⟨#[]⟩, .slice (some ⟨c, 0, none⟩) 2 2]) ∧ TmAt w' c 0 [t0, t1] ∧ w.heap.size ≤ c ∧ RdrAt w' b (t :: T) k g ∧ w.grownBy w' (some b)

set_option maxRecDepth 100000 in
set_option maxHeartbeats 4000000 in
theorem sum_one (b : Nat) (L : List Tk) (t : Tk) (T : List Tk) (k0 k : Int) (g0 g : Bool) (t0 t1 : Tm) (hP : ∀ w, RdrAt w b L k0 g0 → Env b w → ProdAt b L t T k g t0 t1 w) (hn1 : t.raw ≠ [43]) (hn2 : t.raw ≠ [45]) (w : World) (h : RdrAt w b L k0 g0) (hE : Env b w) :
    Calls Tryz.prog 31 #[.pointer (some ⟨b, 0, none⟩)] w fun e w' => ∃ c, e = .returned (.agg #[.int .i64 4, .int .i64 0, .string ⟨#[]⟩, .slice (some ⟨c, 0, none⟩) 2 2]) ∧ TmAt w' c 0 [t0, t1] ∧ w.heap.size ≤ c ∧ RdrAt w' b (t :: T) k g ∧ w.grownBy w' (some b) := by
  have cP := Lib.hid hP
  have q1 : ((bs t.raw).toList == [43]) = false := by rw [bs_toList, beq_eq_false_iff_ne]; exact hn1
  have q2 : ((bs t.raw).toList == [45]) = false := by rw [bs_toList, beq_eq_false_iff_ne]; exact hn2
  have hp : 0 < T.length + 1 := by omega
  clear hP hn1 hn2
  have hlt := h.lt
  have HR0 := Lib.hid (h.alloc (.cells #[.int .i64 0, .int .i64 0, .string ⟨#[]⟩, .slice none 0 0] 29))
  have HG0 := Lib.hid (show w.grownBy (w.alloc (.cells #[.int .i64 0, .int .i64 0, .string ⟨#[]⟩, .slice none 0 0] 29)) (some b) from grown_alloc (World.grownBy.refl _ _) _)
  have Q0 := Lib.hid (show Blk (w.alloc (.cells #[.int .i64 0, .int .i64 0, .string ⟨#[]⟩, .slice none 0 0] 29)) w.heap.size 29 #[.int .i64 0, .int .i64 0, .string ⟨#[]⟩, .slice none 0 0] from Blk.new rfl)
  replace hE := Lib.hid hE
  clear h
  unfold ProdAt at cP
  go_enter Tryz.func31, Tryz.ntmps31
  go_wp2_with (go_at_call 56; (with_reducible refine (cP.out _ HR0.out (hE.out.on (below_one HG0.out hlt))).mono ?_); rintro e W1 ⟨c, rfl, ht1, hcz, hr1, hg1⟩; have HR1 := Lib.hid (hr1.alloc (.cells #[.int .i64 4, .int .i64 0, .string ⟨#[]⟩, .slice (some ⟨c, 0, none⟩) 2 2] 29)); have G1 := Lib.hid (grown_alloc (HG0.out.trans hg1) (.cells #[.int .i64 4, .int .i64 0, .string ⟨#[]⟩, .slice (some ⟨c, 0, none⟩) 2 2] 29)); have Q1 := Lib.hid ((Blk_grown Q0.out hg1 (by omega)).alloc (.cells #[.int .i64 4, .int .i64 0, .string ⟨#[]⟩, .slice (some ⟨c, 0, none⟩) 2 2] 29)); have P1 := Lib.hid (show Blk (W1.alloc (.cells #[.int .i64 4, .int .i64 0, .string ⟨#[]⟩, .slice (some ⟨c, 0, none⟩) 2 2] 29)) W1.heap.size 29 #[.int .i64 4, .int .i64 0, .string ⟨#[]⟩, .slice (some ⟨c, 0, none⟩) 2 2] from Blk.new rfl); have T1 := Lib.hid (ht1.on ((Below.refl _ _).alloc (Nat.le_refl _) (.cells #[.int .i64 4, .int .i64 0, .string ⟨#[]⟩, .slice (some ⟨c, 0, none⟩) 2 2] 29))); clear ht1 hr1 hg1)
  rw [World.size_alloc] at hcz
  have hz1 := G1.out.size
  have hq1 := Q1.out.lt
  obtain ⟨W2, hW2⟩ : ∃ W2, W1.alloc (.cells #[.int .i64 4, .int .i64 0, .string ⟨#[]⟩, .slice (some ⟨c, 0, none⟩) 2 2] 29) = W2 := ⟨_, rfl⟩
  rw [hW2] at HR1 G1 Q1 P1 T1 hz1 hq1
  go_loopw [] (fun wr => wr = W2) (fun _ => 0)
  case atStart => exact hW2
  case round =>
    obtain rfl := hrel.symm
    clear hW2
    obtain ⟨tb, off, cap, hcp, htb, hltb, hcl, hfr, e0, e1, e2, e3, hnext, hsl⟩ := HR1.out.turn
    clear hnext hsl
    have p1 := P1.out.cell
    have z1 := Q1.out.cell
    have z2 := Q1.out.frozen
    go_wp2
    have e := Blk.cell (Blk.four (Q1.out) (.int .i64 4) (.int .i64 0) (.string ⟨#[]⟩) (.slice (some ⟨c, 0, none⟩) 2 2))
    refine bodyPost_ret (v := .agg #[.int .i64 4, .int .i64 0, .string ⟨#[]⟩, .slice (some ⟨c, 0, none⟩) 2 2]) (by simp [results, Tryz.results31, go_sem, e]) rfl ⟨c, rfl, ?_, by omega, ?_, ?_⟩
    · exact (((T1.out.far (by dsimp only; omega) _).far (by dsimp only; omega) _).far (by dsimp only; omega) _).far (by dsimp only; omega) _
    · exact (((HR1.out.far (by dsimp only; omega) _).far (by dsimp only; omega) _).far (by dsimp only; omega) _).far (by dsimp only; omega) _
    · exact grown_far (grown_far (grown_far (grown_far G1.out (Nat.le_refl _)) (Nat.le_refl _)) (Nat.le_refl _)) (Nat.le_refl _)

end Go.Proofs.YtaihncbejhnceaaGreatDoor.cal

namespace Go.Proofs.YtaihncbejhnceaaGreatDoor.cal
open Go.RowKit Go.Proofs.YtaihncbejhnceaaGreatDoor.base Go.Proofs.YtaihncbejhnceaaGreatDoor.tok Go.Proofs.YtaihncbejhnceaaGreatDoor.dim Go.Proofs.YtaihncbejhnceaaGreatDoor.rul
set_option linter.unusedVariables false

set_option maxRecDepth 100000 in
set_option maxHeartbeats 8000000 in
theorem value_calc (b : Nat) (raw val : Bs) (num : Int) (L : List Tk) (t : Tk) (T : List Tk) (k0 k : Int) (g0 g : Bool) (t0 t1 : Tm) (hval : val.map lowB = [99, 97, 108, 99])
    (hS : ∀ w, RdrAt w b L k0 g0 → Env b w → Calls Tryz.prog 31 #[.pointer (some ⟨b, 0, none⟩)] w fun e w' => ∃ c, e = .returned (.agg #[.int .i64 4, .int .i64 0, .string ⟨#[]⟩, .slice (some ⟨c, 0, none⟩) 2 2]) ∧ TmAt w' c 0 [t0, t1] ∧ w.heap.size ≤ c ∧ RdrAt w' b (t :: T) k g ∧ w.grownBy w' (some b))
    (ht : t.raw = [41]) (w : World) (h : RdrAt w b (⟨2, raw, val, num⟩ :: L) k0 g0) (hE : Env b w) :
    Calls Tryz.prog 17 #[.pointer (some ⟨b, 0, none⟩), .bool false] w fun e w' => ∃ c, e = .returned (.agg #[.int .i64 4, .int .i64 0, .string ⟨#[]⟩, .slice (some ⟨c, 0, none⟩) 2 2]) ∧ TmAt w' c 0 [t0, t1] ∧ w.heap.size ≤ c ∧ RdrAt w' b T k g ∧ w.grownBy w' (some b) := by
  have cS := Lib.hid hS
  have hvl : val.length = 4 := by have := congrArg List.length hval; simpa using this
  have cL := fun w => low_ct (bs val) (by rw [bs_size]; omega) w
  rw [show (bs val).data.toList = val from rfl, hval] at cL
  replace cL := Lib.hid cL
  have cN := Lib.hid (need_yes b)
  have cR := Lib.hid (fun w h => raw_yes b t T k g ⟨#[41]⟩ w h ht)
  have hq : ((bs [99, 97, 108, 99]).toList == [99, 97, 108, 99]) = true := by rw [bs_toList]; rfl
  clear hS hval ht hvl
  obtain ⟨tb, off, cap, hcp, htb, hlt, hcl, hfr, e0, e1, e2, e3, hnext, hsl⟩ := h.turn
  have hp : 0 < L.length + 1 := by omega
  have htb2 : tb < w.heap.size := by omega
  dsimp only at e0 e1 e2 e3
  have HV0 := Lib.hid (show Below b w (((w.setCell ⟨b, 0, none⟩ (.slice (addrAt 4 (some ⟨tb, off, none⟩) cap 1) L.length (cap - 1))).alloc (.cells #[.int .i64 0, .int .i64 0, .string ⟨#[]⟩, .slice none 0 0] 29)).alloc (.cells #[.int .i64 2, .string (bs raw), .string (bs val), .int .i64 num] 64)) from (((Below.refl b w).setCell (Nat.le_refl _) _).alloc (by simp; omega) _).alloc (by simp; omega) _)
  have HR0 := Lib.hid (show RdrAt (((w.setCell ⟨b, 0, none⟩ (.slice (addrAt 4 (some ⟨tb, off, none⟩) cap 1) L.length (cap - 1))).alloc (.cells #[.int .i64 0, .int .i64 0, .string ⟨#[]⟩, .slice none 0 0] 29)).alloc (.cells #[.int .i64 2, .string (bs raw), .string (bs val), .int .i64 num] 64)) b L k0 g0 from (hnext.alloc _).alloc _)
  have HG0 := Lib.hid (show w.grownBy (((w.setCell ⟨b, 0, none⟩ (.slice (addrAt 4 (some ⟨tb, off, none⟩) cap 1) L.length (cap - 1))).alloc (.cells #[.int .i64 0, .int .i64 0, .string ⟨#[]⟩, .slice none 0 0] 29)).alloc (.cells #[.int .i64 2, .string (bs raw), .string (bs val), .int .i64 num] 64)) (some b) from grown_alloc (grown_alloc (grown_set _ _ _ _) _) _)
  have Q0 := Lib.hid (show Blk (((w.setCell ⟨b, 0, none⟩ (.slice (addrAt 4 (some ⟨tb, off, none⟩) cap 1) L.length (cap - 1))).alloc (.cells #[.int .i64 0, .int .i64 0, .string ⟨#[]⟩, .slice none 0 0] 29)).alloc (.cells #[.int .i64 2, .string (bs raw), .string (bs val), .int .i64 num] 64)) w.heap.size 29 #[.int .i64 0, .int .i64 0, .string ⟨#[]⟩, .slice none 0 0] from (Blk.new (by simp)).alloc _)
  have P0 := Lib.hid (show Blk (((w.setCell ⟨b, 0, none⟩ (.slice (addrAt 4 (some ⟨tb, off, none⟩) cap 1) L.length (cap - 1))).alloc (.cells #[.int .i64 0, .int .i64 0, .string ⟨#[]⟩, .slice none 0 0] 29)).alloc (.cells #[.int .i64 2, .string (bs raw), .string (bs val), .int .i64 num] 64)) (w.heap.size + 1) 64 #[.int .i64 2, .string (bs raw), .string (bs val), .int .i64 num] from Blk.new (by simp))
  have HE0 := Lib.hid (hE.on HV0.out)
  have hz0 := Lib.hid (show w.heap.size + 2 ≤ (((w.setCell ⟨b, 0, none⟩ (.slice (addrAt 4 (some ⟨tb, off, none⟩) cap 1) L.length (cap - 1))).alloc (.cells #[.int .i64 0, .int .i64 0, .string ⟨#[]⟩, .slice none 0 0] 29)).alloc (.cells #[.int .i64 2, .string (bs raw), .string (bs val), .int .i64 num] 64)).heap.size by simp)
  clear h hnext hE HV0
  go_enter Tryz.func17, Tryz.ntmps17
  go_wp2_with (first
    | (go_at_call 18; (with_reducible refine (cN.out _).mono ?_); rintro e W1 ⟨rfl, rfl⟩)
    | (go_at_call 33; (with_reducible refine (cL.out _).mono ?_); rintro e W1 ⟨rfl, hb1⟩; have HR1 := Lib.hid (HR0.out.on hb1 (by have := hz0.out; omega)); have HG1 := Lib.hid (HG0.out.trans (grown_of_below hb1 _)); have Q1 := Lib.hid (Q0.out.below hb1 (by have := hz0.out; omega)); have HE1 := Lib.hid (HE0.out.on (hb1.mono (by have := hz0.out; omega))); have hz1 := Nat.le_trans hz0.out hb1.size; clear hb1)
    | (go_at_call 31; (with_reducible refine (cS.out _ HR1.out HE1.out).mono ?_); rintro e W2 ⟨c, rfl, ht2, hc2, hr2, hg2⟩; have HR2 := Lib.hid (hr2.alloc (.cells #[.int .i64 4, .int .i64 0, .string ⟨#[]⟩, .slice (some ⟨c, 0, none⟩) 2 2] 29)); have HG2 := Lib.hid (grown_alloc (HG1.out.trans hg2) (.cells #[.int .i64 4, .int .i64 0, .string ⟨#[]⟩, .slice (some ⟨c, 0, none⟩) 2 2] 29)); have Q2 := Lib.hid ((Blk_grown Q1.out hg2 (by omega)).alloc (.cells #[.int .i64 4, .int .i64 0, .string ⟨#[]⟩, .slice (some ⟨c, 0, none⟩) 2 2] 29)); have P2 := Lib.hid (show Blk (W2.alloc (.cells #[.int .i64 4, .int .i64 0, .string ⟨#[]⟩, .slice (some ⟨c, 0, none⟩) 2 2] 29)) W2.heap.size 29 #[.int .i64 4, .int .i64 0, .string ⟨#[]⟩, .slice (some ⟨c, 0, none⟩) 2 2] from Blk.new rfl); have T2 := Lib.hid (ht2.on ((Below.refl _ _).alloc (Nat.le_refl _) (.cells #[.int .i64 4, .int .i64 0, .string ⟨#[]⟩, .slice (some ⟨c, 0, none⟩) 2 2] 29))); have hz2 := hg2.size; clear ht2 hr2 hg2)
    | (go_at_call 32; (with_reducible refine (cR.out _ HR2.out).mono ?_); rintro e W3 ⟨rfl, hr3, hg3⟩; have HR3 := Lib.hid hr3; have HG3 := Lib.hid (HG2.out.trans hg3); have Q3 := Blk_grown Q2.out hg3 (by omega); have P3 := Blk_grown P2.out hg3 (by omega); have T3 := Lib.hid (T2.out.grown hg3 (by omega)); have q3c := Q3.cell; have q3f := Q3.frozen; have p3c := P3.cell; have hz3 := hg3.size; rw [World.size_alloc] at hz3; clear hr3 hg3 P3; replace Q3 := Lib.hid Q3))
  have e := Blk.cell (Blk.four (Q3.out) (.int .i64 4) (.int .i64 0) (.string ⟨#[]⟩) (.slice (some ⟨c, 0, none⟩) 2 2))
  refine bodyPost_ret (v := .agg #[.int .i64 4, .int .i64 0, .string ⟨#[]⟩, .slice (some ⟨c, 0, none⟩) 2 2]) (by simp [results, Tryz.results17, go_sem, e]) rfl ⟨c, rfl, ?_, by omega, ?_, ?_⟩
  · exact (((T3.out.far (by dsimp only; omega) _).far (by dsimp only; omega) _).far (by dsimp only; omega) _).far (by dsimp only; omega) _
  · exact (((HR3.out.far (by dsimp only; omega) _).far (by dsimp only; omega) _).far (by dsimp only; omega) _).far (by dsimp only; omega) _
  · exact grown_far (grown_far (grown_far (grown_far HG3.out (Nat.le_refl _)) (Nat.le_refl _)) (Nat.le_refl _)) (Nat.le_refl _)

end Go.Proofs.YtaihncbejhnceaaGreatDoor.cal

namespace Go.Proofs.YtaihncbejhnceaaGreatDoor.cal
open Go.RowKit Go.Proofs.YtaihncbejhnceaaGreatDoor.base Go.Proofs.YtaihncbejhnceaaGreatDoor.tok Go.Proofs.YtaihncbejhnceaaGreatDoor.dim Go.Proofs.YtaihncbejhnceaaGreatDoor.rul
set_option linter.unusedVariables false

theorem first_calc : firstP [99, 97, 108, 99, 40, 49, 112, 120, 32, 42, 32, 50, 41] = ⟨2, [99, 97, 108, 99, 40], [99, 97, 108, 99], 0⟩ := by
  have hn : nameP [99, 97, 108, 99, 40, 49, 112, 120, 32, 42, 32, 50, 41] = ([99, 97, 108, 99], 4) := by
    rw [nameP, if_neg (by decide), if_pos (by decide), nameP, if_neg (by decide), if_pos (by decide), nameP, if_neg (by decide), if_pos (by decide), nameP, if_neg (by decide), if_pos (by decide), nameP, if_neg (by decide), if_neg (by decide)]
  have hw : wordP [99, 97, 108, 99, 40, 49, 112, 120, 32, 42, 32, 50, 41] = ⟨2, [99, 97, 108, 99, 40], [99, 97, 108, 99], 0⟩ := by
    have h1 : namedP 1 [99, 97, 108, 99, 40, 49, 112, 120, 32, 42, 32, 50, 41] 0 = ⟨1, [99, 97, 108, 99], [99, 97, 108, 99], 0⟩ := by
      simp only [namedP, List.drop_zero, hn]
      rfl
    simp only [wordP, h1]
    decide
  rw [firstP, if_neg (by decide), if_neg (by decide), if_neg (by decide), if_neg (by decide), if_neg (by decide), if_neg (by decide), if_pos (by decide), hw]
theorem num_px (r : Bs) (hr : r = [32, 42, 32, 50, 41] ∨ r = []) : firstP ([49, 112, 120] ++ r) = ⟨7, [49, 112, 120], [112, 120], 1000⟩ := by
  rcases hr with rfl | rfl
  · have hn : nameP [112, 120, 32, 42, 32, 50, 41] = ([112, 120], 2) := by
      rw [nameP, if_neg (by decide), if_pos (by decide), nameP, if_neg (by decide), if_pos (by decide), nameP, if_neg (by decide), if_neg (by decide)]
    have hnum : numberP [49, 112, 120, 32, 42, 32, 50, 41] = (1000, 1) := by decide
    show firstP [49, 112, 120, 32, 42, 32, 50, 41] = _
    rw [firstP, if_neg (by decide), if_neg (by decide), if_neg (by decide), if_neg (by decide), if_neg (by decide), hnum, if_pos (by decide)]
    simp only [numTkP]
    rw [if_neg (by decide), if_pos (by decide)]
    simp only [List.drop_succ_cons, List.drop_zero, hn]
    decide
  · have hn : nameP [112, 120] = ([112, 120], 2) := by
      rw [nameP, if_neg (by decide), if_pos (by decide), nameP, if_pos (by decide)]
    have hnum : numberP [49, 112, 120] = (1000, 1) := by decide
    show firstP [49, 112, 120] = _
    rw [firstP, if_neg (by decide), if_neg (by decide), if_neg (by decide), if_neg (by decide), if_neg (by decide), hnum, if_pos (by decide)]
    simp only [numTkP]
    rw [if_neg (by decide), if_pos (by decide)]
    simp only [List.drop_succ_cons, List.drop_zero, hn]
    decide
theorem first_2 (r : Bs) (hr : r = [41] ∨ r = []) : firstP (50 :: r) = ⟨7, [50], [], 2000⟩ := by
  rcases hr with rfl | rfl
  · have hnum : numberP [50, 41] = (2000, 1) := by decide
    rw [firstP, if_neg (by decide), if_neg (by decide), if_neg (by decide), if_neg (by decide), if_neg (by decide), hnum, if_pos (by decide)]
    simp only [numTkP]
    rw [if_neg (by decide), if_neg (by decide)]
    decide
  · have hnum : numberP [50] = (2000, 1) := by decide
    rw [firstP, if_neg (by decide), if_neg (by decide), if_neg (by decide), if_neg (by decide), if_neg (by decide), hnum, if_pos (by decide)]
    simp only [numTkP]
    rw [if_neg (by decide), if_neg (by decide)]
    decide
theorem first_sp (r : Bs) (hr : r = [42, 32, 50, 41] ∨ r = [50, 41]) : firstP (32 :: r) = ⟨8, [32], [], 0⟩ := by
  rcases hr with rfl | rfl
  · rw [firstP, if_pos (by decide)]
    decide
  · rw [firstP, if_pos (by decide)]
    decide
theorem first_star : firstP [42, 32, 50, 41] = ⟨12, [42], [], 0⟩ := by
  rw [firstP, if_neg (by decide), if_neg (by decide), if_neg (by decide), if_neg (by decide), if_neg (by decide), if_neg (by decide), if_neg (by decide)]
  rfl
theorem first_shut : firstP [41] = ⟨11, [41], [], 0⟩ := by
  rw [firstP, if_neg (by decide), if_neg (by decide), if_neg (by decide), if_neg (by decide), if_neg (by decide), if_neg (by decide), if_neg (by decide)]
  rfl
def twiceT : List Tk := [⟨2, [99, 97, 108, 99, 40], [99, 97, 108, 99], 0⟩, ⟨7, [49, 112, 120], [112, 120], 1000⟩, ⟨8, [32], [], 0⟩, ⟨12, [42], [], 0⟩, ⟨8, [32], [], 0⟩, ⟨7, [50], [], 2000⟩, ⟨11, [41], [], 0⟩]
theorem cut_twice : cutP [99, 97, 108, 99, 40, 49, 112, 120, 32, 42, 32, 50, 41] = twiceT := by
  rw [cutP_cons (by decide), first_calc]
  simp only [List.length_cons, List.length_nil, List.drop_succ_cons, List.drop_zero, Nat.zero_add]
  rw [cutP_cons (by decide), show firstP [49, 112, 120, 32, 42, 32, 50, 41] = _ from num_px [32, 42, 32, 50, 41] (.inl rfl)]
  simp only [List.length_cons, List.length_nil, List.drop_succ_cons, List.drop_zero, Nat.zero_add]
  rw [cutP_cons (by decide), first_sp _ (.inl rfl)]
  simp only [List.length_cons, List.length_nil, List.drop_succ_cons, List.drop_zero, Nat.zero_add]
  rw [cutP_cons (by decide), first_star]
  simp only [List.length_cons, List.length_nil, List.drop_succ_cons, List.drop_zero, Nat.zero_add]
  rw [cutP_cons (by decide), first_sp _ (.inr rfl)]
  simp only [List.length_cons, List.length_nil, List.drop_succ_cons, List.drop_zero, Nat.zero_add]
  rw [cutP_cons (by decide), first_2 _ (.inl rfl)]
  simp only [List.length_cons, List.length_nil, List.drop_succ_cons, List.drop_zero, Nat.zero_add]
  rw [cutP_cons (by decide), first_shut]
  simp only [List.length_cons, List.length_nil, List.drop_succ_cons, List.drop_zero, Nat.zero_add]
  rw [cutP_nil]
  rfl
theorem cut_px : cutP [49, 112, 120] = [⟨7, [49, 112, 120], [112, 120], 1000⟩] := by
  rw [cutP_cons (by decide), show firstP [49, 112, 120] = _ from num_px [] (.inr rfl)]
  simp [cutP_nil]
theorem cut_2 : cutP [50] = [⟨7, [50], [], 2000⟩] := by
  rw [cutP_cons (by decide), first_2 [] (.inr rfl)]
  simp [cutP_nil]

end Go.Proofs.YtaihncbejhnceaaGreatDoor.cal

namespace Go.Proofs.YtaihncbejhnceaaGreatDoor.cal
open Go.RowKit Go.Proofs.YtaihncbejhnceaaGreatDoor.base Go.Proofs.YtaihncbejhnceaaGreatDoor.tok Go.Proofs.YtaihncbejhnceaaGreatDoor.dim Go.Proofs.YtaihncbejhnceaaGreatDoor.rul
set_option linter.unusedVariables false

set_option maxRecDepth 100000 in
set_option maxHeartbeats 4000000 in
theorem catch_idle (p q : Addr) (w : World) :
    CallsD Tryz.prog 14 #[.pointer (some p), .pointer (some q)] .returning w fun e u' w' => e = .returned (.tuple #[]) ∧ u' = .returning ∧ w' = w := by
  refine callsD_of_wpS Tryz.func14 rfl fun c₀ cs hu => ?_
  apply wpS_seq
  apply wpS_region
  simp [wpOpsS, go_sem, recoverD, hu, Tryz.ntmps14, Exit.thenS]
  refine wpS_of_wp ?_
  go_wp2
  cases c₀
  simp_all [bodyPostS, results, Tryz.results14]

end Go.Proofs.YtaihncbejhnceaaGreatDoor.cal

namespace Go.Proofs.YtaihncbejhnceaaGreatDoor.cal
open Go.RowKit Go.Proofs.YtaihncbejhnceaaGreatDoor.base Go.Proofs.YtaihncbejhnceaaGreatDoor.tok Go.Proofs.YtaihncbejhnceaaGreatDoor.dim Go.Proofs.YtaihncbejhnceaaGreatDoor.rul
set_option linter.unusedVariables false

/-- the reader over the law's own text -/
theorem value_twice (b : Nat) (w : World) (h : RdrAt w b twiceT 0 false) (hE : Env b w) :
    Calls Tryz.prog 17 #[.pointer (some ⟨b, 0, none⟩), .bool false] w fun e w' => ∃ c, e = .returned (.agg #[.int .i64 4, .int .i64 0, .string ⟨#[]⟩, .slice (some ⟨c, 0, none⟩) 2 2]) ∧ TmAt w' c 0 [leafT 1000 (bs [112, 120]), leafT 2000 (bs [])] ∧ w.heap.size ≤ c ∧ RdrAt w' b [] 3 false ∧ w.grownBy w' (some b) :=
  value_calc b [99, 97, 108, 99, 40] [99, 97, 108, 99] 0 _ ⟨11, [41], [], 0⟩ [] 0 3 false false (leafT 1000 (bs [112, 120])) (leafT 2000 (bs [])) (by decide)
    (fun w h hE => sum_one b _ ⟨11, [41], [], 0⟩ [] 0 3 false false (leafT 1000 (bs [112, 120])) (leafT 2000 (bs []))
      (fun w h hE => product_mul b [49, 112, 120] [112, 120] [50] [] 1000 2000 ⟨8, [32], [], 0⟩ ⟨12, [42], [], 0⟩ ⟨8, [32], [], 0⟩ ⟨11, [41], [], 0⟩ [] 0 false (by decide) (by decide) cut_px cut_2 (by decide) (by decide) (by decide) (by decide) rfl (by decide) (by decide) (by decide) (by decide) (by decide) (by decide) (by decide) w h hE)
      (by decide) (by decide) w h hE)
    rfl w h hE

theorem RdrAt.farE {w : World} {b : Nat} {k : Int} {g : Bool} (h : RdrAt w b [] k g) {p : Addr} (hp : b ≠ p.block) (v : Value) : RdrAt (w.setCell p v) b [] k g := by
  obtain ⟨A, cap, hc, hb, hr⟩ := h
  exact ⟨A, cap, hc, hb.far hp v, rfl, fun h => absurd h (by decide)⟩

theorem cut_text (w : World) (hm : MaxL w) :
    Calls Tryz.prog 15 #[.string ⟨#[99, 97, 108, 99, 40, 49, 112, 120, 32, 42, 32, 50, 41]⟩] w fun e w' => (∃ A cap, e = .returned (.slice A 7 cap) ∧ 7 ≤ cap ∧ TRd w' w'.heap.size A 7 twiceT) ∧ Below w.heap.size w w' := by
  have h := Go.Proofs.YtaihncbejhnceaaGreatDoor.tok.cut_ct ⟨#[99, 97, 108, 99, 40, 49, 112, 120, 32, 42, 32, 50, 41]⟩ (by decide) w hm
  rw [show (⟨#[99, 97, 108, 99, 40, 49, 112, 120, 32, 42, 32, 50, 41]⟩ : ByteArray).data.toList = [99, 97, 108, 99, 40, 49, 112, 120, 32, 42, 32, 50, 41] from rfl, cut_twice] at h
  exact h

set_option maxRecDepth 100000 in
set_option maxHeartbeats 8000000 in
theorem read_twice (w : World) (hm : MaxL w) (hU : UnitsAt w) :
    Calls Tryz.prog 10 #[.string ⟨#[99, 97, 108, 99, 40, 49, 112, 120, 32, 42, 32, 50, 41]⟩] w fun e w' => (∃ c, e = .returned (.tuple #[.agg #[.int .i64 4, .int .i64 0, .string ⟨#[]⟩, .slice (some ⟨c, 0, none⟩) 2 2], .int .i64 0]) ∧ TmAt w' c 0 [leafT 1000 (bs [112, 120]), leafT 2000 (bs [])]) ∧ Below w.heap.size w w' := by
  have hmf : ∀ (fn : Fn) (first cap : Array Value) (w : World), (Instr.makeFunc fn first cap).run Tryz.prog w = .ok (.func fn first cap) w := fun _ _ _ _ => rfl
  have cC := Lib.hid cut_text
  have cV := Lib.hid value_twice
  have cG := Lib.hid (fun b w h => gap_no b ⟨2, [99, 97, 108, 99, 40], [99, 97, 108, 99], 0⟩ (twiceT.drop 1) 0 false (by decide) (by decide) w h)
  have cE := Lib.hid (fun b w h => gap_end b 3 false w h)
  have cN := Lib.hid need_yes
  have Hm := Lib.hid hm
  have HU := Lib.hid hU
  clear hm hU
  go_enter_defers Tryz.func10, Tryz.ntmps10
  have HB0 := Lib.hid (show Below w.heap.size w ((w.alloc (.cells #[.int .i64 0, .int .i64 0, .string ⟨#[]⟩, .slice none 0 0] 29)).alloc (.cells #[.int .i64 0] 34)) from ((Below.refl _ _).alloc (Nat.le_refl _) _).alloc (by simp) _)
  have Q0 := Lib.hid (show Blk ((w.alloc (.cells #[.int .i64 0, .int .i64 0, .string ⟨#[]⟩, .slice none 0 0] 29)).alloc (.cells #[.int .i64 0] 34)) w.heap.size 29 #[.int .i64 0, .int .i64 0, .string ⟨#[]⟩, .slice none 0 0] from (Blk.new rfl).alloc _)
  have E0 := Lib.hid (show Blk ((w.alloc (.cells #[.int .i64 0, .int .i64 0, .string ⟨#[]⟩, .slice none 0 0] 29)).alloc (.cells #[.int .i64 0] 34)) (w.heap.size + 1) 34 #[.int .i64 0] from Blk.new (by simp))
  go_wp2_with (first
    | (go_at_call 15; (with_reducible refine (cC.out _ (Hm.out.on HB0.out Hm.out.lt)).mono ?_); rintro e W1 ⟨⟨A, cap, rfl, hcap, hrd⟩, hb1⟩; have hz1 := hb1.size; simp only [World.size_alloc] at hz1; have HB1 := Lib.hid (HB0.out.trans (hb1.mono (by simp <;> omega))); have Q1 := Lib.hid ((Q0.out.below hb1 (by simp <;> omega)).alloc (.cells #[.slice A 7 cap, .int .i64 0, .bool false] 53)); have E1 := Lib.hid ((E0.out.below hb1 (by simp <;> omega)).alloc (.cells #[.slice A 7 cap, .int .i64 0, .bool false] 53)); have HR1 := Lib.hid (show RdrAt (W1.alloc (.cells #[.slice A 7 cap, .int .i64 0, .bool false] 53)) W1.heap.size twiceT 0 false from ⟨A, cap, hcap, Blk.new rfl, Rd.keep hrd ((Below.refl _ _).alloc (Nat.le_refl _) _) (Nat.le_refl _)⟩); have HE1 := Lib.hid (show Env W1.heap.size (W1.alloc (.cells #[.slice A 7 cap, .int .i64 0, .bool false] 53)) from fun v hv => have hB := ((HB1.out.alloc (by omega) (.cells #[.slice A 7 cap, .int .i64 0, .bool false] 53)).trans (hv.mono (by omega))); ⟨Hm.out.on hB Hm.out.lt, HU.out.on hB⟩); have HX1 := Lib.hid (HB1.out.alloc (by omega) (.cells #[.slice A 7 cap, .int .i64 0, .bool false] 53)); clear hrd hb1)
    | (go_at_call 16; (with_reducible refine (cG.out _ _ HR1.out).mono ?_); rintro e W2 ⟨rfl, hr2, hg2⟩; have HR2 := Lib.hid (show RdrAt W2 W1.heap.size twiceT 0 false from hr2); have HE2 := Lib.hid (HE1.out.on (below_one hg2 (by simp))); have Q2 := Lib.hid (Blk_grown Q1.out hg2 (by omega)); have E2 := Lib.hid (Blk_grown E1.out hg2 (by omega)); have HX2 := Lib.hid (HX1.out.trans ((below_one hg2 (by simp)).mono (by omega))); have hz2 := hg2.size; rw [World.size_alloc] at hz2; clear hr2 hg2)
    | (go_at_call 17; (with_reducible refine (cV.out _ _ HR2.out HE2.out).mono ?_); rintro e W3 ⟨c, rfl, ht3, hc3, hr3, hg3⟩; have HR3 := Lib.hid ((((hr3.farE (p := ⟨w.heap.size, 0, none⟩) (by dsimp only; omega) (.int .i64 4)).farE (p := ⟨w.heap.size, 1, none⟩) (by dsimp only; omega) (.int .i64 0)).farE (p := ⟨w.heap.size, 2, none⟩) (by dsimp only; omega) (.string ⟨#[]⟩)).farE (p := ⟨w.heap.size, 3, none⟩) (by dsimp only; omega) (.slice (some ⟨c, 0, none⟩) 2 2)); have T3 := Lib.hid ((((ht3.far (p := ⟨w.heap.size, 0, none⟩) (by dsimp only; omega) (.int .i64 4)).far (p := ⟨w.heap.size, 1, none⟩) (by dsimp only; omega) (.int .i64 0)).far (p := ⟨w.heap.size, 2, none⟩) (by dsimp only; omega) (.string ⟨#[]⟩)).far (p := ⟨w.heap.size, 3, none⟩) (by dsimp only; omega) (.slice (some ⟨c, 0, none⟩) 2 2)); have q3 := Blk_grown Q2.out hg3 (by omega); have q3c := q3.cell; have q3f := q3.frozen; have Q3 := Lib.hid (Blk.four q3 (.int .i64 4) (.int .i64 0) (.string ⟨#[]⟩) (.slice (some ⟨c, 0, none⟩) 2 2)); have E3 := Lib.hid (((((Blk_grown E2.out hg3 (by omega)).far (p := ⟨w.heap.size, 0, none⟩) (by dsimp only; omega) (.int .i64 4)).far (p := ⟨w.heap.size, 1, none⟩) (by dsimp only; omega) (.int .i64 0)).far (p := ⟨w.heap.size, 2, none⟩) (by dsimp only; omega) (.string ⟨#[]⟩)).far (p := ⟨w.heap.size, 3, none⟩) (by dsimp only; omega) (.slice (some ⟨c, 0, none⟩) 2 2)); have HX3 := Lib.hid (((((HX2.out.trans ((below_one hg3 (by omega)).mono (by omega))).setCell (p := ⟨w.heap.size, 0, none⟩) (Nat.le_refl _) (.int .i64 4)).setCell (p := ⟨w.heap.size, 1, none⟩) (Nat.le_refl _) (.int .i64 0)).setCell (p := ⟨w.heap.size, 2, none⟩) (Nat.le_refl _) (.string ⟨#[]⟩)).setCell (p := ⟨w.heap.size, 3, none⟩) (Nat.le_refl _) (.slice (some ⟨c, 0, none⟩) 2 2)); have hz3 := hg3.size; clear ht3 hr3 hg3)
    | (go_at_call 16; (with_reducible refine (cE.out _ _ HR3.out).mono ?_); rintro e W4 ⟨rfl, hr4, hg4⟩; obtain ⟨A4, cap4, hlt4, hcl4⟩ := hr4.noneL; have q4 := Blk_grown Q3.out hg4 (by omega); have q4c := q4.cell; have q4f := q4.frozen; have Q4 := Lib.hid q4; have e4 := Blk_grown E3.out hg4 (by omega); have e4c := e4.cell; have e4f := e4.frozen; have E4 := Lib.hid e4; clear e4; have T4 := Lib.hid (T3.out.grown hg4 (by omega)); have HX4 := Lib.hid (HX3.out.trans ((below_one hg4 (by simp [World.setCell]; omega)).mono (by omega))); clear hr4 hg4 q4)
    | (go_at_call 18; (with_reducible refine (cN.out _ _).mono ?_); rintro e W5 ⟨rfl, rfl⟩))
  refine leaves_cons (f := 14) (args := #[.pointer (some ⟨w.heap.size, 0, none⟩), .pointer (some ⟨w.heap.size + 1, 0, none⟩)]) (by simp) (by simp [go_sem]) ?_
  refine (catch_idle ⟨w.heap.size, 0, none⟩ ⟨w.heap.size + 1, 0, none⟩ _).mono ?_
  rintro e u' w'' ⟨rfl, rfl, rfl⟩
  have ec := ((Blk.four Q4.out (.int .i64 4) (.int .i64 0) (.string ⟨#[]⟩) (.slice (some ⟨c, 0, none⟩) 2 2)).far (p := ⟨w.heap.size + 1, 0, none⟩) (by dsimp only; omega) (.int .i64 0)).cell
  have fc := (((((E4.out.far (p := ⟨w.heap.size, 0, none⟩) (by dsimp only; omega) (.int .i64 4)).far (p := ⟨w.heap.size, 1, none⟩) (by dsimp only; omega) (.int .i64 0)).far (p := ⟨w.heap.size, 2, none⟩) (by dsimp only; omega) (.string ⟨#[]⟩)).far (p := ⟨w.heap.size, 3, none⟩) (by dsimp only; omega) (.slice (some ⟨c, 0, none⟩) 2 2)).put 0 (.int .i64 0)).cell
  have TF := TmAt.far (TmAt.far (TmAt.far (TmAt.far (TmAt.far T4.out (p := ⟨w.heap.size, 0, none⟩) (by dsimp only; omega) (.int .i64 4)) (p := ⟨w.heap.size, 1, none⟩) (by dsimp only; omega) (.int .i64 0)) (p := ⟨w.heap.size, 2, none⟩) (by dsimp only; omega) (.string ⟨#[]⟩)) (p := ⟨w.heap.size, 3, none⟩) (by dsimp only; omega) (.slice (some ⟨c, 0, none⟩) 2 2)) (p := ⟨w.heap.size + 1, 0, none⟩) (by dsimp only; omega) (.int .i64 0)
  have HF := ((((HX4.out.setCell (p := ⟨w.heap.size, 0, none⟩) (Nat.le_refl _) (.int .i64 4)).setCell (p := ⟨w.heap.size, 1, none⟩) (Nat.le_refl _) (.int .i64 0)).setCell (p := ⟨w.heap.size, 2, none⟩) (Nat.le_refl _) (.string ⟨#[]⟩)).setCell (p := ⟨w.heap.size, 3, none⟩) (Nat.le_refl _) (.slice (some ⟨c, 0, none⟩) 2 2)).setCell (p := ⟨w.heap.size + 1, 0, none⟩) (by dsimp only; omega) (.int .i64 0)
  generalize (((((W4.setCell ⟨w.heap.size, 0, none⟩ (.int .i64 4)).setCell ⟨w.heap.size, 1, none⟩ (.int .i64 0)).setCell ⟨w.heap.size, 2, none⟩ (.string ⟨#[]⟩)).setCell ⟨w.heap.size, 3, none⟩ (.slice (some ⟨c, 0, none⟩) 2 2)).setCell ⟨w.heap.size + 1, 0, none⟩ (.int .i64 0)) = WF at *
  simp only [Leaves, settle]
  exact ⟨.tuple #[.agg #[.int .i64 4, .int .i64 0, .string ⟨#[]⟩, .slice (some ⟨c, 0, none⟩) 2 2], .int .i64 0], by simp [results, Tryz.results10, go_sem, ec, fc], ⟨c, rfl, TF⟩, HF⟩

end Go.Proofs.YtaihncbejhnceaaGreatDoor.cal

namespace Go.Proofs.YtaihncbejhnceaaGreatDoor.cal
open Go.RowKit Go.Proofs.YtaihncbejhnceaaGreatDoor.base Go.Proofs.YtaihncbejhnceaaGreatDoor.tok Go.Proofs.YtaihncbejhnceaaGreatDoor.dim Go.Proofs.YtaihncbejhnceaaGreatDoor.rul
set_option linter.unusedVariables false

theorem join_app (ts : List Bs) (sep : Bs) : Lib.join ((ts.map bs).map (·.data.toList)) sep = Lib.join ts sep := by
  congr 1
  rw [List.map_map]
  exact (List.map_congr_left fun x _ => rfl).trans (List.map_id ts)

set_option maxRecDepth 100000 in
set_option maxHeartbeats 4000000 in
theorem text_leaf (n : Int) (u : ByteArray) (s : Bs) (hD : ∀ w, PowAt w → Calls Tryz.prog 20 #[.agg #[.int .i64 n, .string u]] w fun e w' => e = .returned (.string (bs s)) ∧ Below w.heap.size w w') (w : World) (hT : PowAt w) :
    Calls Tryz.prog 11 #[.agg #[.int .i64 1, .int .i64 n, .string u, .slice none 0 0]] w fun e w' => e = .returned (.string (bs s)) ∧ Below w.heap.size w w' := by
  have cS := Lib.hid (fun w => shaped_ct 1 n u none 0 0 (.inl ⟨rfl, rfl⟩) w)
  have cD := Lib.hid hD
  have HT := Lib.hid hT
  clear hD hT
  go_enter Tryz.func11, Tryz.ntmps11
  go_wp2_with (first
    | (go_at_call 19; (with_reducible refine (cS.out _).mono ?_); rintro e W1 ⟨rfl, hb1⟩; have HB1 := Lib.hid (((Below.refl w.heap.size w).alloc (Nat.le_refl _) (.cells #[.int .i64 1, .int .i64 n, .string u, .slice none 0 0] 29)).trans (hb1.mono (by simp))); have hblk := (Blk.new (w := w) (t := 29) (cs := #[.int .i64 1, .int .i64 n, .string u, .slice none 0 0]) (k := w.heap.size) (by simp)).below hb1 (by simp); have r2 := hblk.cell; clear hb1)
    | (go_at_call 20; (with_reducible refine (cD.out _ (HT.out.on HB1.out)).mono ?_); rintro e W2 ⟨rfl, hb2⟩; have HB2 := Lib.hid (HB1.out.trans (hb2.mono HB1.out.size)); clear hb2))
  go_ret
  exact ⟨rfl, HB2.out⟩

set_option maxRecDepth 100000 in
set_option maxHeartbeats 8000000 in
theorem text_node (k n : Int) (u : ByteArray) (b o cap : Nat) (L : List Tm) (ts : List Bs) (wd sg : Bs) (hk : k ≠ 1) (hm : 0 < L.length) (hml : L.length ≤ 1000000) (hcap : L.length ≤ cap) (w : World) (hL : TmAt w b o L) (hts : ts.length = L.length)
    (hS : ∀ w, Calls Tryz.prog 19 #[.agg #[.int .i64 k, .int .i64 n, .string u, .slice (some ⟨b, o, none⟩) L.length cap]] w fun e w' => e = .returned (.bool true) ∧ Below w.heap.size w w')
    (hW : ∀ w, Calls Tryz.prog 21 #[.int .i64 k] w fun e w' => e = .returned (.string (bs wd)) ∧ w = w')
    (hG : ∀ w, Calls Tryz.prog 23 #[.int .i64 k] w fun e w' => e = .returned (.string (bs sg)) ∧ w = w')
    (hC : ∀ (i : Nat) (t : Tm) (s : Bs), L[i]? = some t → ts[i]? = some s → ∀ W, Below w.heap.size w W → Calls Tryz.prog 11 #[t.v] W fun e W' => e = .returned (.string (bs s)) ∧ Below W.heap.size W W')
    (hwd : wd.length ≤ 10) (hlen : (Lib.join ts sg).length ≤ 1000000000) :
    Calls Tryz.prog 11 #[.agg #[.int .i64 k, .int .i64 n, .string u, .slice (some ⟨b, o, none⟩) L.length cap]] w fun e w' => e = .returned (.string (bs (wd ++ [40] ++ Lib.join ts sg ++ [41]))) ∧ Below w.heap.size w w' := by
  obtain ⟨i0, hi, hz0, hz1, hz2⟩ := info_parts infoS
  have Hz0 := Lib.hid hz0
  have Hi := Lib.hid hi
  have Hz1 := Lib.hid hz1
  have Hz2 := Lib.hid hz2
  clear hz0 hi hz1 hz2
  have hcat : bs wd ++ ⟨#[40]⟩ ++ bs (Lib.join ts sg) ++ ⟨#[41]⟩ = bs (wd ++ [40] ++ Lib.join ts sg ++ [41]) := by
    apply ByteArray.ext; apply Array.ext'
    simp [bs, ByteArray.data_append]
  rw [← hcat]
  have hz3 : (bs wd).size ≤ 10 := hwd
  have hz4 : (bs (Lib.join ts sg)).size ≤ 1000000000 := hlen
  have a1 : ¬ 9223372036854775807 < (bs wd).size + 1 := by omega
  have a2 : ¬ 9223372036854775807 < (bs wd).size + 1 + (bs (Lib.join ts sg)).size := by omega
  have a3 : ¬ 9223372036854775807 < (bs wd).size + 1 + (bs (Lib.join ts sg)).size + 1 := by omega
  have k1 : (k == 1) = false := by rw [beq_eq_false_iff_ne]; exact hk
  have cJ : ∀ (w : World) (g z c : Nat), (∀ (j : Nat) x, (ts.map bs)[j]? = some x → w.cell? ⟨g, z + j, none⟩ = some (.string x)) → g < w.heap.size → ts.length ≤ c → Calls Tryz.prog 22 #[.slice (some ⟨g, z, none⟩) ts.length c, .string (bs sg)] w fun e w' => e = .returned (.string (bs (Lib.join ts sg))) ∧ Below w.heap.size w w' := fun w g z c h1 h2 h3 => by
    have h := Tryz.strings_Join g z c (ts.map bs) (bs sg) w h1 h2 (by rw [List.length_map]; omega) (by rw [List.length_map]; exact h3) (by rw [show (bs sg).data.toList = sg from rfl, join_app]; omega)
    rw [List.length_map, show (bs sg).data.toList = sg from rfl, join_app] at h
    exact h
  obtain ⟨m, hmm⟩ : ∃ m, L.length = m := ⟨_, rfl⟩
  have hsz := Lib.hid hmm
  rw [hmm] at hm hml hcap hts ⊢
  simp only [hmm] at hS
  rw [hts] at cJ
  have cS := Lib.hid hS
  have cW := Lib.hid hW
  have cG := Lib.hid hG
  replace hC := Lib.hid hC
  replace hL := Lib.hid hL
  replace cJ := Lib.hid cJ
  replace hts := Lib.hid hts
  clear hS hW hG hmm hcat hk
  go_enter Tryz.func11, Tryz.ntmps11
  go_wp2_with (first
    | (go_at_call 19; (with_reducible refine (cS.out _).mono ?_); rintro e W1 ⟨rfl, hb1⟩; have HB1 := Lib.hid (((Below.refl w.heap.size w).alloc (Nat.le_refl _) (.cells #[.int .i64 k, .int .i64 n, .string u, .slice (some ⟨b, o, none⟩) m cap] 29)).trans (hb1.mono (by simp))); have Q1 := (Blk.new (w := w) (t := 29) (cs := #[.int .i64 k, .int .i64 n, .string u, .slice (some ⟨b, o, none⟩) m cap]) (k := w.heap.size) (by simp)).below hb1 (by simp); have r2 := Q1.cell; replace Q1 := Lib.hid Q1; have hz1 := HB1.out.size; have hz2 := Q1.out.lt; clear hb1))
  go_loopw [3, 18] (fun x i wr => ∃ j : Nat, j ≤ m ∧ i = .int .i64 j ∧ wr.ownsRow (w.heap.size + 1) 9 1 x j ((ts.take j).map (fun s => .string (bs s))) ∧ Below (w.heap.size + 1) W1 wr) (fun _ i _ => m - (intOf i).toNat)
  case atStart => exact ⟨0, by omega, rfl, World.ownsRow_nil _ _ _ _, Below.refl _ _⟩
  case round =>
    obtain ⟨j, hj, rfl, hrow, hbw⟩ := hrel
    have HBw := Lib.hid (HB1.out.trans (hbw.mono (by omega)))
    have q1 := Q1.out.below hbw (by omega)
    have hzz := Nat.le_trans (show w.heap.size + 1 ≤ W1.heap.size by omega) hbw.size
    replace hbw := Lib.hid hbw
    replace hrow := Lib.hid hrow
    by_cases hlt : j < m
    · have hlt' : (j : Int) < (m : Int) := by omega
      obtain ⟨t, ht⟩ : ∃ t, L[j]? = some t := ⟨_, List.getElem?_eq_getElem (by rw [hsz.out]; exact hlt)⟩
      obtain ⟨s, hs⟩ : ∃ s, ts[j]? = some s := ⟨_, List.getElem?_eq_getElem (by rw [hts.out]; exact hlt)⟩
      obtain ⟨g0, g1, g2, g3⟩ := (hL.out.on HBw.out).2 j t ht
      have cT := fun W h => hC.out j t s ht hs W h
      have hst := Lib.hid (show ts.take (j + 1) = ts.take j ++ [s] by
        obtain ⟨h1, h2⟩ := List.getElem?_eq_some_iff.1 hs
        rw [List.take_succ_eq_append_getElem h1, h2])
      obtain ⟨tk, tn, tu, ta, tl, tc⟩ := t
      unfold Tm.v at cT
      dsimp only at g0 g1 g2 g3 cT
      replace cT := Lib.hid cT
      clear ht hs
      have HBa := Lib.hid (HBw.out.alloc HBw.out.size (.cells #[.int .i64 tk, .int .i64 tn, .string tu, .slice ta tl tc] 29))
      have HBb := Lib.hid (hbw.out.alloc (by omega) (.cells #[.int .i64 tk, .int .i64 tn, .string tu, .slice ta tl tc] 29))
      replace q1 := Lib.hid q1
      obtain ⟨a, cp, rfl⟩ := row_form hrow.out
      go_wp2_with (first
        | (go_at_call 11; (with_reducible refine (cT.out _ HBa.out).mono ?_); rintro e W2 ⟨rfl, hb2⟩; have hrow2 := Lib.hid (row_on (hrow.out.alloc _) hb2); have HB2 := Lib.hid (HBb.out.trans (hb2.mono (by have := HBb.out.size; simp; omega))); have hz2 := hb2.size; rw [World.size_alloc] at hz2; clear hb2)
        | (at_builtin; refine wpList_append_own _ rfl _ _ 42 rfl (w.heap.size + 1) 9 i0 (.string .empty) 1 16 Tryz.underlying42 Hi.out Hz0.out Hz1.out Hz2.out rfl (by decide) _ _ _ rfl (hrow2.out.alloc _) ⟨W2.heap.size, 0, none⟩ 1 1 [.string (bs s)] rfl rfl ?c1 ?c2 ?c3 ?c4 ?c5 ?_))
      case c1 => exact (Blk.new (w := W2) (t := 9) (cs := #[.string (bs s)]) rfl).news
      case c2 => simp [Value.oneCell']
      case c3 => unfold maxLen; omega
      case c4 => omega
      case c5 => simp; omega
      intro v' w3 hown3 hgrow3 hnil3
      have hb3 := Lib.hid (below_app (HB2.out.alloc (by omega) _) hgrow3 (hrow2.out.alloc _) (Nat.le_refl _) (by simp; omega))
      replace hown3 := Lib.hid hown3
      clear hgrow3 hnil3
      go_wp2
      go_roundw
      case rel =>
        refine ⟨j + 1, by omega, by go_num, ?_, hb3.out⟩
        rw [hst.out, List.map_append, List.map_take]
        exact hown3.out
      case measure => simp [intOf]; omega
    · obtain rfl : j = m := by omega
      have hr := hrow.out
      rw [List.take_of_length_le (by rw [hts.out]; exact Nat.le_refl _)] at hr
      obtain ⟨a, cp, rfl⟩ := row_form hr
      have h0 : ∃ s, (ts.map (fun s => Value.string (bs s)))[0]? = some s := ⟨_, List.getElem?_eq_getElem (by rw [List.length_map, hts.out]; exact hm)⟩
      obtain ⟨x0, hx0⟩ := h0
      obtain ⟨g, rfl, hg, hgb, hcp, _⟩ := owns_at hr hx0
      have hcells : ∀ (j : Nat) x, (ts.map bs)[j]? = some x → wr.cell? ⟨g, 0 + j, none⟩ = some (.string x) := fun i x hx => by
        rw [List.getElem?_map] at hx
        cases hti : ts[i]? with
        | none => rw [hti] at hx; cases hx
        | some s =>
          rw [hti] at hx
          obtain rfl := Option.some.inj hx
          obtain ⟨g', hg', _, _, _, hc⟩ := owns_at hr (i := i) (x := .string (bs s)) (by rw [List.getElem?_map, hti]; rfl)
          cases hg'
          rw [Nat.zero_add]
          exact hc
      have cJ' := Lib.hid (fun (W : World) (hk : ∀ b o, b < wr.heap.size → W.cell? ⟨b, o, none⟩ = wr.cell? ⟨b, o, none⟩) (hz : wr.heap.size ≤ W.heap.size) => cJ.out W g 0 cp (fun i x hx => (hk g _ hg).trans (hcells i x hx)) (by omega) hcp)
      have qc := q1.cell
      have hlt9 : w.heap.size < wr.heap.size := by omega
      have ZR : wr.heap.size ≤ wr.heap.size := Nat.le_refl _
      clear hr hx0 hcells
      go_wp2_with fail
      go_region_held3 (fun w' => (∀ b o, b < wr.heap.size → w'.cell? ⟨b, o, none⟩ = wr.cell? ⟨b, o, none⟩) ∧ Below wr.heap.size wr w')
        (first | exact As.beg | assumption | exact As.on hb3 (by assumption) ZR)
        (first
          | (go_at_call 21; (with_reducible refine (cW.out _).mono ?_); rintro e W2 ⟨rfl, rfl⟩)
          | (go_at_call 23; (with_reducible refine (cG.out _).mono ?_); rintro e W2 ⟨rfl, rfl⟩)
          | (go_at_call 22; (with_reducible refine (cJ'.out wr.drew (fun _ _ _ => rfl) (Nat.le_refl _)).mono ?_); rintro e W2 ⟨rfl, hb3⟩; have HB3 := Lib.hid (HBw.out.drew.trans (hb3.mono (by have := HBw.out.size; simpa using this)))))
      all_goals
        rename_i hHeld
        clear hHeld
        go_wp2
        go_ret
        exact ⟨rfl, HB3.out⟩

end Go.Proofs.YtaihncbejhnceaaGreatDoor.cal

namespace Go.Proofs.YtaihncbejhnceaaGreatDoor.cal
open Go.RowKit Go.Proofs.YtaihncbejhnceaaGreatDoor.base Go.Proofs.YtaihncbejhnceaaGreatDoor.tok Go.Proofs.YtaihncbejhnceaaGreatDoor.dim Go.Proofs.YtaihncbejhnceaaGreatDoor.rul
set_option linter.unusedVariables false

theorem word_4 (w : World) : Calls Tryz.prog 21 #[.int .i64 4] w fun e w' => e = .returned (.string (bs [])) ∧ w = w' := by
  go_enter Tryz.func21, Tryz.ntmps21
  go_wp2
  go_ret
  exact ⟨rfl, rfl⟩
theorem sign_4 (w : World) : Calls Tryz.prog 23 #[.int .i64 4] w fun e w' => e = .returned (.string (bs [32, 42, 32])) ∧ w = w' := by
  go_enter Tryz.func23, Tryz.ntmps23
  go_wp2
  go_ret
  exact ⟨rfl, rfl⟩
theorem text_twice (c : Nat) (w : World) (hT : PowAt w) (hL : TmAt w c 0 [leafT 1000 (bs [112, 120]), leafT 2000 (bs [])]) :
    Calls Tryz.prog 11 #[.agg #[.int .i64 4, .int .i64 0, .string ⟨#[]⟩, .slice (some ⟨c, 0, none⟩) 2 2]] w fun e w' => e = .returned (.string ⟨#[40, 49, 112, 120, 32, 42, 32, 50, 41]⟩) ∧ Below w.heap.size w w' := by
  have h := text_node 4 0 ⟨#[]⟩ c 0 2 [leafT 1000 (bs [112, 120]), leafT 2000 (bs [])] [[49, 112, 120], [50]] [] [32, 42, 32] (by decide) (by decide) (by decide) (by decide) w hL rfl
    (fun w => shaped_ct 4 0 ⟨#[]⟩ (some ⟨c, 0, none⟩) 2 2 (.inr (.inl ⟨by decide, rfl⟩)) w) word_4 sign_4
    (fun i t s ht hs W hW => by
      rcases two_at ht with ⟨rfl, rfl⟩ | ⟨rfl, rfl⟩
      · obtain rfl := Option.some.inj hs
        exact text_leaf 1000 (bs [112, 120]) [49, 112, 120] (fun w hT => by
          have h := text_plain 1000 (by decide) [112, 120] (by decide) w hT
          rwa [show plainP 1000 ++ [112, 120] = [49, 112, 120] by decide +kernel] at h) W (hT.on hW)
      · obtain rfl := Option.some.inj hs
        exact text_leaf 2000 (bs []) [50] (fun w hT => by
          have h := text_plain 2000 (by decide) [] (by decide) w hT
          rwa [show plainP 2000 ++ [] = [50] by decide +kernel] at h) W (hT.on hW))
    (by decide) (by decide)
  exact h

set_option maxRecDepth 100000 in
set_option maxHeartbeats 4000000 in
theorem twice_ct (w : World) (hm : MaxL w) (hU : UnitsAt w) (hT : PowAt w) :
    Calls Tryz.prog 6 #[] w fun e w' => e = .returned (.bool true) ∧ Below w.heap.size w w' := by
  have cR := Lib.hid (read_twice w hm hU)
  have cT := Lib.hid text_twice
  have HT := Lib.hid hT
  clear hm hU hT
  go_enter Tryz.func6, Tryz.ntmps6
  go_wp2_with (first
    | (go_at_call 10; (with_reducible refine cR.out.mono ?_); rintro e W1 ⟨⟨c, rfl, ht1⟩, hb1⟩; have HB1 := Lib.hid (hb1.alloc hb1.size (.cells #[.int .i64 4, .int .i64 0, .string ⟨#[]⟩, .slice (some ⟨c, 0, none⟩) 2 2] 29)); have T1 := Lib.hid (ht1.on ((Below.refl _ _).alloc (Nat.le_refl _) (.cells #[.int .i64 4, .int .i64 0, .string ⟨#[]⟩, .slice (some ⟨c, 0, none⟩) 2 2] 29))); clear ht1 hb1)
    | (go_at_call 11; (with_reducible refine (cT.out _ _ (HT.out.on HB1.out) T1.out).mono ?_); rintro e W2 ⟨rfl, hb2⟩; have HB2 := Lib.hid (HB1.out.trans (hb2.mono HB1.out.size)); clear hb2))
  go_ret
  exact ⟨rfl, HB2.out⟩

set_option maxRecDepth 100000 in
theorem num_ct (n : Int) (u : ByteArray) (w : World) : Calls Tryz.prog 7 #[.int .i64 n, .string u] w fun e w' => e = .returned (.agg #[.int .i64 1, .int .i64 n, .string u, .slice none 0 0]) ∧ Below w.heap.size w w' := by
  go_enter Tryz.func7, Tryz.ntmps7
  go_wp2
  refine bodyPost_ret (v := .agg #[.int .i64 1, .int .i64 n, .string u, .slice none 0 0]) (by simp [results, Tryz.results7, go_sem]) rfl ⟨rfl, ?_⟩
  exact (Below.refl w.heap.size w).alloc (Nat.le_refl _) _

theorem rest7 (a : Int) : ∃ r : Nat, r < 7 ∧ (IntKind.u64.wrap a).tmod 7 = (r : Int) := by
  have h0 : 0 ≤ IntKind.u64.wrap a := by simp [IntKind.wrap, IntKind.bits, IntKind.signed]; omega
  generalize IntKind.u64.wrap a = v at *
  rw [Int.tmod_eq_emod_of_nonneg h0]
  exact ⟨(v % 7).toNat, by omega, by omega⟩
set_option maxRecDepth 100000 in
set_option maxHeartbeats 4000000 in
theorem unitOf_ct (u : Int) : ∃ U, isUnit U ∧ ∀ w, Calls Tryz.prog 8 #[.int .i64 u] w fun e w' => e = .returned (.string U) ∧ Below w.heap.size w w' := by
  obtain ⟨r, hr, hq⟩ := rest7 u
  have hcase : r = 0 ∨ r = 1 ∨ r = 2 ∨ r = 3 ∨ r = 4 ∨ r = 5 ∨ r = 6 := by omega
  clear hr
  rcases hcase with rfl | rfl | rfl | rfl | rfl | rfl | rfl
  · refine ⟨.empty, by simp [isUnit], fun w => ?_⟩
    go_enter Tryz.func8, Tryz.ntmps8
    go_wp2
    go_ret
    exact ⟨rfl, (Below.refl w.heap.size w).alloc (Nat.le_refl _) _⟩
  · refine ⟨⟨#[112, 120]⟩, by simp [isUnit], fun w => ?_⟩
    go_enter Tryz.func8, Tryz.ntmps8
    go_wp2
    go_ret
    exact ⟨rfl, (Below.refl w.heap.size w).alloc (Nat.le_refl _) _⟩
  · refine ⟨⟨#[101, 109]⟩, by simp [isUnit], fun w => ?_⟩
    go_enter Tryz.func8, Tryz.ntmps8
    go_wp2
    go_ret
    exact ⟨rfl, (Below.refl w.heap.size w).alloc (Nat.le_refl _) _⟩
  · refine ⟨⟨#[114, 101, 109]⟩, by simp [isUnit], fun w => ?_⟩
    go_enter Tryz.func8, Tryz.ntmps8
    go_wp2
    go_ret
    exact ⟨rfl, (Below.refl w.heap.size w).alloc (Nat.le_refl _) _⟩
  · refine ⟨⟨#[118, 119]⟩, by simp [isUnit], fun w => ?_⟩
    go_enter Tryz.func8, Tryz.ntmps8
    go_wp2
    go_ret
    exact ⟨rfl, (Below.refl w.heap.size w).alloc (Nat.le_refl _) _⟩
  · refine ⟨⟨#[118, 104]⟩, by simp [isUnit], fun w => ?_⟩
    go_enter Tryz.func8, Tryz.ntmps8
    go_wp2
    go_ret
    exact ⟨rfl, (Below.refl w.heap.size w).alloc (Nat.le_refl _) _⟩
  · refine ⟨⟨#[37]⟩, by simp [isUnit], fun w => ?_⟩
    go_enter Tryz.func8, Tryz.ntmps8
    go_wp2
    go_ret
    exact ⟨rfl, (Below.refl w.heap.size w).alloc (Nat.le_refl _) _⟩

end Go.Proofs.YtaihncbejhnceaaGreatDoor.cal

namespace Go.Proofs.YtaihncbejhnceaaGreatDoor.cal
open Go.RowKit Go.Proofs.YtaihncbejhnceaaGreatDoor.base Go.Proofs.YtaihncbejhnceaaGreatDoor.tok Go.Proofs.YtaihncbejhnceaaGreatDoor.dim Go.Proofs.YtaihncbejhnceaaGreatDoor.rul
set_option linter.unusedVariables false

theorem numP_kind {u : ByteArray} {n m : Int} {k : Sc} {p q : Int × Int} (hp : numP u n k = some p) (hq : numP u m k = some q) : p.1 = q.1 := by
  unfold numP at hp hq
  split at hp
  · rw [if_pos (by assumption)] at hq
    obtain rfl := Option.some.inj hp
    obtain rfl := Option.some.inj hq
    rfl
  · rw [if_neg (by assumption)] at hq
    split at hp
    · rw [if_pos (by assumption)] at hq
      obtain rfl := Option.some.inj hp
      obtain rfl := Option.some.inj hq
      rfl
    · rw [if_neg (by assumption)] at hq
      split at hp
      · split at hq
        · obtain rfl := Option.some.inj hp
          obtain rfl := Option.some.inj hq
          rfl
        · cases hq
      · cases hp
def pt : Option (Int × Int) → Int × Int × Int
  | none => (0, 0, 1)
  | some p => (p.1, p.2, 0)
theorem resV_pt (r : Option (Int × Int)) : resV r = .tuple #[.agg #[.int .i64 (pt r).1, .int .i64 (pt r).2.1], .int .i64 (pt r).2.2] := by
  cases r <;> rfl
theorem pt_or (r : Option (Int × Int)) : (r = none ∧ pt r = (0, 0, 1)) ∨ ∃ p, r = some p ∧ pt r = (p.1, p.2, 0) := by
  cases r with
  | none => exact .inl ⟨rfl, rfl⟩
  | some p => exact .inr ⟨p, rfl, rfl⟩
theorem run_eq_val (a b c d : Int) (w : World) : (binOp .eql 33 (.agg #[.int .i64 a, .int .i64 b]) (.agg #[.int .i64 c, .int .i64 d])).run Tryz.prog w = .ok (.bool (decide (a = c ∧ b = d))) w := by
  rw [run_eql_struct, run_equalIn_agg w _ _ _ _ (by kernel_rfl) (by kernel_rfl)]
  simp only [Program.fieldsOf, Tryz.underlying33]
  simp [Op.eqFields, go_sem, Tryz.underlying3]
  (repeat' split) <;> simp_all
theorem tm_three {w : World} {c : Nat} {t : TypeId} {t0 t1 t2 : Tm} (h : Blk w c t #[.int .i64 t0.k, .int .i64 t0.n, .string t0.u, .slice t0.a t0.l t0.c, .int .i64 t1.k, .int .i64 t1.n, .string t1.u, .slice t1.a t1.l t1.c, .int .i64 t2.k, .int .i64 t2.n, .string t2.u, .slice t2.a t2.l t2.c]) : TmAt w c 0 [t0, t1, t2] :=
  ⟨h.lt, fun i t ht => by
    rcases three_at ht with ⟨rfl, rfl⟩ | ⟨rfl, rfl⟩ | ⟨rfl, rfl⟩
    · exact ⟨h.cell 0, h.cell 1, h.cell 2, h.cell 3⟩
    · exact ⟨h.cell 4, h.cell 5, h.cell 6, h.cell 7⟩
    · exact ⟨h.cell 8, h.cell 9, h.cell 10, h.cell 11⟩⟩

end Go.Proofs.YtaihncbejhnceaaGreatDoor.cal
