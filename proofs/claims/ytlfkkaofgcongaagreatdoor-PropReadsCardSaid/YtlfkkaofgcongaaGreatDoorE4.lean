/- Contracts and plain law, a bundle. -/
import Derived.Deep.RegionWith
import Derived.Deep.QuietTactic
import Derived.BigQuiet
import Derived.Lib.Hide
import Derived.Test.YtlfkkaofgcongaaGreatDoorE3
import Derived.Test.YtlfkkaofgcongaaGreatDoorBD
import Derived.Test.YtlfkkaofgcongaaGreatDoorE0
import Derived.Test.YtlfkkaofgcongaaGreatDoorBC
set_option linter.unusedVariables false
set_option maxRecDepth 100000
set_option maxHeartbeats 16000000
open Go.Lib (hid)
namespace Go.Proofs.YtlfkkaofgcongaaGreatDoor
namespace cal
open Go.RowKit base tok dim rul
def RdrAt (w : World) (b : Nat) (L : List Tk) (k : Int) (g : Bool) : Prop := ∃ A cap, L.length <= cap /\ Blk w b 107 #[.slice A L.length cap, .int .i64 k, .bool g] /\ TRd w b A L.length L
theorem RdrAt.lt {w : World} {b : Nat} {L : List Tk} {k : Int} {g : Bool} (h : RdrAt w b L k g) : b < w.heap.size := by
 obtain ⟨A, cap, _, hb, _⟩ := h
 exact hb.lt
theorem RdrAt.on {B : Nat} {w w' : World} {b : Nat} {L : List Tk} {k : Int} {g : Bool} (h : RdrAt w b L k g) (hb : Below B w w') (hB : b < B) : RdrAt w' b L k g := by
 obtain ⟨A, cap, hc, hk, hr⟩ := h
 exact ⟨A, cap, hc, hk.below hb hB, Rd.keep hr (hb.mono (Nat.le_of_lt hB)) (Nat.le_refl _)⟩
theorem RdrAt.turn {w : World} {b : Nat} {t : Tk} {L : List Tk} {k : Int} {g : Bool} (h : RdrAt w b (t :: L) k g) : ∃ tb off cap, L.length + 1 <= cap /\ tb < b /\ b < w.heap.size /\ (∀ i, w.cell? ⟨b, i, none⟩ = (#[.slice (some ⟨tb, off, none⟩) (L.length + 1) cap, .int .i64 k, .bool g] : Array Value)[i]?) /\ (∀ i, w.frozen? ⟨b, i, none⟩ = false) /\
  w.cell? ⟨tb, off, none⟩ = some (.int .i64 t.k) /\ w.cell? ⟨tb, off + 1, none⟩ = some (.string (bs t.raw)) /\ w.cell? ⟨tb, off + 2, none⟩ = some (.string (bs t.val)) /\ w.cell? ⟨tb, off + 3, none⟩ = some (.int .i64 t.num) /\
  RdrAt (w.setCell ⟨b, 0, none⟩ (.slice (addrAt 4 (some ⟨tb, off, none⟩) cap 1) L.length (cap - 1))) b L k g /\
  ∀ W, (Instr.slice 83 (.slice (some ⟨tb, off, none⟩) (L.length + 1) cap) (some (.int .i64 1)) none none).run Tryz.prog W = .ok (.slice (addrAt 4 (some ⟨tb, off, none⟩) cap 1) L.length (cap - 1)) W := by
 obtain ⟨A, cap, hc, hb, hr⟩ := h
 have hr' : TRd w b A (L.length + 1) (t :: L) := hr
 obtain ⟨tb, off, u, rfl, hlt, hd, e0, e1, e2, e3⟩ := TRd.tok hr' (show 0 < L.length + 1 by omega)
 obtain rfl : t = u := Option.some.inj hd
 simp only [Nat.zero_mul, Nat.add_zero] at e0 e1 e2 e3
 refine ⟨tb, off, cap, hc, hlt, hb.lt, hb.cell, hb.frozen, e0, e1, e2, e3, ⟨addrAt 4 (some ⟨tb, off, none⟩) cap 1, cap - 1, ?_, hb.put 0 _, ?_⟩, fun W => ?_⟩
 ·have : L.length + 1 <= cap := hc
  omega
 ·have h1 := rd_from hr' (i := 1) hc (by omega)
  rw [Nat.add_sub_cancel] at h1
  exact Rd.keep h1 ((Below.refl b w).setCell (Nat.le_refl _) _) (Nat.le_refl _)
 ·have := slice_from (P := Tryz.prog) (k := 4) Tryz.underlying83 Tryz.sizeOf86 (some ⟨tb, off, none⟩) (L.length + 1) cap 1 (by decide) (by omega) W
  rw [this]
  rfl
theorem RdrAt.noneL {w : World} {b : Nat} {k : Int} {g : Bool} (h : RdrAt w b [] k g) : ∃ A cap, b < w.heap.size /\ (∀ i, w.cell? ⟨b, i, none⟩ = (#[.slice A 0 cap, .int .i64 k, .bool g] : Array Value)[i]?) := by
 obtain ⟨A, cap, hc, hb, hr⟩ := h
 exact ⟨A, cap, hb.lt, hb.cell⟩
theorem RdrAt.count {w : World} {b : Nat} {L : List Tk} {k : Int} {g : Bool} (h : RdrAt w b L k g) (j : Int) : RdrAt (w.setCell ⟨b, 1, none⟩ (.int .i64 j)) b L j g := by
 obtain ⟨A, cap, hc, hb, hr⟩ := h
 exact ⟨A, cap, hc, hb.put 1 _, Rd.keep hr ((Below.refl b w).setCell (Nat.le_refl _) _) (Nat.le_refl _)⟩
theorem RdrAt.gapped {w : World} {b : Nat} {L : List Tk} {k : Int} {g : Bool} (h : RdrAt w b L k g) (x : Bool) : RdrAt (w.setCell ⟨b, 2, none⟩ (.bool x)) b L k x := by
 obtain ⟨A, cap, hc, hb, hr⟩ := h
 exact ⟨A, cap, hc, hb.put 2 _, Rd.keep hr ((Below.refl b w).setCell (Nat.le_refl _) _) (Nat.le_refl _)⟩
def lenV : Option Value -> Nat
 | some (.slice _ n _) => n
 | _ => 0
theorem gap_ct (b : Nat) (L : List Tk) (k : Int) (g : Bool) (w : World) (h : RdrAt w b L k g) (hn : L.length <= 1000000) :
  Calls Tryz.prog 61 #[.pointer (some ⟨b, 0, none⟩)] w fun e w' => e = .returned (.bool (decide ((L.dropWhile silP).length < L.length))) /\ RdrAt w' b (L.dropWhile silP) k g /\ w.grownBy w' (some b) := by
 obtain ⟨A, cap, hc, hb, hr⟩ := id h
 have hc0 := hb.cell
 clear hb hr
 go_enter Tryz.func61, Tryz.ntmps61
 go_wp2_with fail
 go_loopw [] (fun wr => ∃ M : List Tk, M.length <= L.length /\ RdrAt wr b M k g /\ M.dropWhile silP = L.dropWhile silP /\ w.grownBy wr (some b)) (fun wr => lenV (wr.cell? ⟨b, 0, none⟩))
 case atStart => exact ⟨L, Nat.le_refl _, h, rfl, World.grownBy.refl _ _⟩
 case round =>
  obtain ⟨M, hM, hrd, hinv, hgr⟩ := hrel
  replace hgr := hid hgr
  clear hc0 h
  cases M with
  | nil =>
   have hfin := hid (show L.dropWhile silP = [] from hinv.symm)
   obtain ⟨A', cap', hlt, hcl⟩ := hrd.noneL
   have HR := hid hrd
   have hx : decide (0 < L.length) = decide (([] : List Tk).length < L.length) := rfl
   clear hinv hrd
   go_wp2
   go_ret
   rw [hfin.out]
   refine ⟨?_, HR.out, hgr.out⟩
   simp
  | cons t M =>
   obtain ⟨tb, off, cap', hcp, htb, hlt, hcl, hfr, e0, e1, e2, e3, hnext, hsl⟩ := hrd.turn
   have HR := hid hrd
   have HN := hid hnext
   clear hrd hnext
   have hml : M.length + 1 <= L.length := hM
   have hp : 0 < M.length + 1 := by omega
   by_cases hs : silP t = true
   ·have hs2 : t.k = 8 ∨ t.k = 9 := by simpa [silP] using hs
    have hi2 := hid (show M.dropWhile silP = L.dropWhile silP by rw [<- hinv, List.dropWhile_cons_of_pos hs])
    clear hs hinv
    rcases hs2 with hk | hk
    all_goals
     rw [hk] at e0
     go_wp2_with fail
     go_roundw
     case rel => exact ⟨M, by omega, HN.out, hi2.out, hgr.out.trans (grown_set _ _ _ _)⟩
     case measure =>
      have m1 := World.cell?_setCell_same' wr ⟨b, 0, none⟩ (.slice (addrAt 4 (some ⟨tb, off, none⟩) cap' 1) M.length (cap' - 1)) (by rw [hcl 0]; rfl)
      rw [m1, hcl 0]
      simp [lenV]
   ·have hs2 : ¬ (t.k = 8 ∨ t.k = 9) := by simpa [silP] using hs
    have n8 : (t.k == 8) = false := by rw [beq_eq_false_iff_ne]; omega
    have n9 : (t.k == 9) = false := by rw [beq_eq_false_iff_ne]; omega
    have hfin := hid (show L.dropWhile silP = t :: M by rw [<- hinv, List.dropWhile_cons_of_neg hs])
    clear hs hinv hs2
    go_wp2
    go_ret
    rw [hfin.out]
    exact ⟨by simp; omega, HR.out, hgr.out⟩
theorem raw_yes (b : Nat) (t : Tk) (L : List Tk) (k : Int) (g : Bool) (s : ByteArray) (w : World) (h : RdrAt w b (t :: L) k g) (hs : t.raw = s.data.toList) :
  Calls Tryz.prog 93 #[.pointer (some ⟨b, 0, none⟩), .string s] w fun e w' => e = .returned (.bool true) /\ RdrAt w' b L k g /\ w.grownBy w' (some b) := by
 obtain ⟨tb, off, cap, hcp, htb, hlt, hcl, hfr, e0, e1, e2, e3, hnext, hsl⟩ := h.turn
 have HN := hid hnext
 have q1 : ((bs t.raw).toList == s.toList) = true := by rw [bs_toList, Lib.toList_data, hs, beq_self_eq_true]
 have q2 : ((bs t.raw).toList != s.toList) = false := by rw [bne, q1]; rfl
 have hp : 0 < L.length + 1 := by omega
 clear h hnext hs
 go_enter Tryz.func93, Tryz.ntmps93
 go_wp2
 go_ret
 exact ⟨rfl, HN.out, grown_set _ _ _ _⟩
theorem raw_no (b : Nat) (t : Tk) (L : List Tk) (k : Int) (g : Bool) (s : ByteArray) (w : World) (h : RdrAt w b (t :: L) k g) (hs : t.raw ≠ s.data.toList) :
  Calls Tryz.prog 93 #[.pointer (some ⟨b, 0, none⟩), .string s] w fun e w' => e = .returned (.bool false) /\ w = w' := by
 obtain ⟨tb, off, cap, hcp, htb, hlt, hcl, hfr, e0, e1, e2, e3, hnext, hsl⟩ := h.turn
 have q1 : ((bs t.raw).toList == s.toList) = false := by rw [bs_toList, Lib.toList_data, beq_eq_false_iff_ne]; exact hs
 have q2 : ((bs t.raw).toList != s.toList) = true := by rw [bne, q1]; rfl
 have hp : 0 < L.length + 1 := by omega
 clear h hnext hs
 go_enter Tryz.func93, Tryz.ntmps93
 go_wp2
 go_ret
 exact ⟨rfl, rfl⟩
theorem raw_end (b : Nat) (k : Int) (g : Bool) (s : ByteArray) (w : World) (h : RdrAt w b [] k g) :
  Calls Tryz.prog 93 #[.pointer (some ⟨b, 0, none⟩), .string s] w fun e w' => e = .returned (.bool false) /\ w = w' := by
 obtain ⟨A, cap, hlt, hcl⟩ := h.noneL
 clear h
 go_enter Tryz.func93, Tryz.ntmps93
 go_wp2
 go_ret
 exact ⟨rfl, rfl⟩
theorem need_yes (b : Nat) (w : World) : Calls Tryz.prog 63 #[.pointer (some ⟨b, 0, none⟩), .bool true] w fun e w' => e = .returned (.tuple #[]) /\ w = w' := by
 go_enter Tryz.func63, Tryz.ntmps63
 go_wp2
 go_end0
 exact ⟨rfl, rfl⟩
theorem made_yes (b : Nat) (L : List Tk) (k : Int) (g : Bool) (t : Tm) (hk0 : 0 <= k) (hk : k < 30) (w : World) (h : RdrAt w b L k g) :
  Calls Tryz.prog 91 #[.pointer (some ⟨b, 0, none⟩), .agg #[.int .i64 t.k, .int .i64 t.n, .string t.u, .slice t.a t.l t.c]] w fun e w' => e = .returned (.agg #[.int .i64 t.k, .int .i64 t.n, .string t.u, .slice t.a t.l t.c]) /\ RdrAt w' b L (k + 1) g /\ w.grownBy w' (some b) := by
 obtain ⟨tk, tn, tu, ta, tl, tc⟩ := t
 dsimp only
 have HR := hid h
 obtain ⟨A, cap, hc, hb, hr⟩ := h
 have hlt := hb.lt
 have c1 := hb.cell
 have c2 := hb.frozen
 have c3 := fun v => (hb.put 1 v).cell
 have hbb := hid hb
 clear hr hb
 go_enter Tryz.func91, Tryz.ntmps91
 go_wp2_with fail
 refine bodyPost_ret (v := .agg #[.int .i64 tk, .int .i64 tn, .string tu, .slice ta tl tc]) (by simp [results, Tryz.results91, go_sem]) rfl ⟨rfl, ?_, ?_⟩
 ·exact (((HR.out.count (k + 1)).on ((Below.refl _ _).alloc (Nat.le_refl _) _) (by simpa using hlt)).on ((Below.refl _ _).alloc (Nat.le_refl _) _) (by simp; omega))
 ·exact ((grown_set _ _ _ _).trans (grown_of_below ((Below.refl _ _).alloc (Nat.le_refl _) _) _)).trans (grown_of_below ((Below.refl _ _).alloc (Nat.le_refl _) _) _)
end cal
namespace cal
open Go.RowKit base tok dim rul
theorem below_one {w w' : World} {b : Nat} (hg : w.grownBy w' (some b)) (hb : b < w.heap.size) : Below b w w' := (Below.refl b w).grown hg (Nat.le_of_lt hb) (fun k e => by cases e; exact Nat.le_refl _)
def Env (b : Nat) (w : World) : Prop := ∀ w', Below b w w' -> MaxL w' /\ UnitsAt w'
theorem Env.on {b : Nat} {w w' : World} (h : Env b w) (hb : Below b w w') : Env b w' := fun v hv => h v (hb.trans hv)
theorem Blk_grown {w w' : World} {k b : Nat} {t : TypeId} {cs : Array Value} (h : Blk w k t cs) (hg : w.grownBy w' (some b)) (hk : k ≠ b) : Blk w' k t cs := (hg.block k h.lt (fun e => hk (Option.some.inj e))).trans h
theorem grown_far {w w' : World} {b : Nat} {p : Addr} {v : Value} (h : w.grownBy w' (some b)) (hp : w.heap.size <= p.block) : w.grownBy (w'.setCell p v) (some b) :=
 ⟨h.os, h.tape, h.output, by simp [World.setCell]; exact h.size, fun k hk hne => (Below.heap_setCell w' p v k (by omega)).trans (h.block k hk hne)⟩
theorem grown_alloc {w w' : World} {b : Nat} (h : w.grownBy w' (some b)) (o : Obj) : w.grownBy (w'.alloc o) (some b) := h.trans (grown_of_below ((Below.refl _ _).alloc (Nat.le_refl _) _) _)
theorem RdrAt.alloc {w : World} {b : Nat} {L : List Tk} {k : Int} {g : Bool} (h : RdrAt w b L k g) (o : Obj) : RdrAt (w.alloc o) b L k g := h.on ((Below.refl _ _).alloc (Nat.le_refl _) _) h.lt
theorem RdrAt.far {w : World} {b : Nat} {L : List Tk} {k : Int} {g : Bool} (h : RdrAt w b L k g) {p : Addr} (hp : b < p.block) (v : Value) : RdrAt (w.setCell p v) b L k g := h.on ((Below.refl (b + 1) w).setCell hp _) (Nat.lt_succ_self b)
theorem value_num (b : Nat) (raw u : Bs) (n : Int) (L : List Tk) (k : Int) (g inb : Bool) (hraw : raw.length < 4294967281) (hcut : cutP raw = [⟨7, raw, u, n⟩]) (hu : u ∈ unitsL) (hk0 : 0 <= k) (hk : k < 30) (w : World) (h : RdrAt w b (⟨7, raw, u, n⟩ :: L) k g) (hE : Env b w) :
  Calls Tryz.prog 62 #[.pointer (some ⟨b, 0, none⟩), .bool inb] w fun e w' => e = .returned (.agg #[.int .i64 1, .int .i64 n, .string (bs u), .slice none 0 0]) /\ RdrAt w' b L (k + 1) g /\ w.grownBy w' (some b) := by
 have cR := hid (fun w (hm : MaxL w) (hU : UnitsAt w) => read_ct (bs raw) hraw raw u n hcut hu w hm hU)
 have cN := hid (need_yes b)
 have cM := fun w h => made_yes b L k g ⟨1, n, bs u, none, 0, 0⟩ hk0 hk w h
 dsimp only at cM
 replace cM := hid cM
 clear hraw hcut hu
 obtain ⟨tb, off, cap, hcp, htb, hlt, hcl, hfr, e0, e1, e2, e3, hnext, hsl⟩ := h.turn
 have hp : 0 < L.length + 1 := by omega
 have htb2 : tb < w.heap.size := by omega
 dsimp only at e0 e1 e2 e3
 have HV0 := hid (show Below b w (((w.setCell ⟨b, 0, none⟩ (.slice (addrAt 4 (some ⟨tb, off, none⟩) cap 1) L.length (cap - 1))).alloc (.cells #[.int .i64 0, .int .i64 0, .string ⟨#[]⟩, .slice none 0 0] 50)).alloc (.cells #[.int .i64 7, .string (bs raw), .string (bs u), .int .i64 n] 86)) from (((Below.refl b w).setCell (Nat.le_refl _) _).alloc (by simp; omega) _).alloc (by simp; omega) _)
 have HR0 := hid (show RdrAt (((w.setCell ⟨b, 0, none⟩ (.slice (addrAt 4 (some ⟨tb, off, none⟩) cap 1) L.length (cap - 1))).alloc (.cells #[.int .i64 0, .int .i64 0, .string ⟨#[]⟩, .slice none 0 0] 50)).alloc (.cells #[.int .i64 7, .string (bs raw), .string (bs u), .int .i64 n] 86)) b L k g from (hnext.alloc _).alloc _)
 have HG0 := hid (show w.grownBy (((w.setCell ⟨b, 0, none⟩ (.slice (addrAt 4 (some ⟨tb, off, none⟩) cap 1) L.length (cap - 1))).alloc (.cells #[.int .i64 0, .int .i64 0, .string ⟨#[]⟩, .slice none 0 0] 50)).alloc (.cells #[.int .i64 7, .string (bs raw), .string (bs u), .int .i64 n] 86)) (some b) from grown_alloc (grown_alloc (grown_set _ _ _ _) _) _)
 have Q0 := hid (show Blk (((w.setCell ⟨b, 0, none⟩ (.slice (addrAt 4 (some ⟨tb, off, none⟩) cap 1) L.length (cap - 1))).alloc (.cells #[.int .i64 0, .int .i64 0, .string ⟨#[]⟩, .slice none 0 0] 50)).alloc (.cells #[.int .i64 7, .string (bs raw), .string (bs u), .int .i64 n] 86)) w.heap.size 50 #[.int .i64 0, .int .i64 0, .string ⟨#[]⟩, .slice none 0 0] from (Blk.new (by simp)).alloc _)
 have HE0 := hid (hE _ HV0.out)
 have hz0 := hid (show w.heap.size + 2 <= (((w.setCell ⟨b, 0, none⟩ (.slice (addrAt 4 (some ⟨tb, off, none⟩) cap 1) L.length (cap - 1))).alloc (.cells #[.int .i64 0, .int .i64 0, .string ⟨#[]⟩, .slice none 0 0] 50)).alloc (.cells #[.int .i64 7, .string (bs raw), .string (bs u), .int .i64 n] 86)).heap.size by simp)
 clear h hnext hE HV0
 go_enter Tryz.func62, Tryz.ntmps62
 go_wp2_with (first
  | (go_at_call 63; (with_reducible refine (cN.out _).mono ?_); rintro e W1 ⟨rfl, rfl⟩)
  | (go_at_call 90; (with_reducible refine (cR.out _ HE0.out.1 HE0.out.2).mono ?_); rintro e W1 ⟨rfl, hb1⟩; have HR1 := hid (HR0.out.on hb1 (by have := hz0.out; omega)); have HG1 := hid (HG0.out.trans (grown_of_below hb1 _)); have Q1 := hid (Q0.out.below hb1 (by have := hz0.out; omega)); have hz1 := Nat.le_trans hz0.out hb1.size; clear hb1)
  | (go_at_call 91; (with_reducible refine (cM.out _ (HR1.out.alloc _)).mono ?_); rintro e W2 ⟨rfl, hr2, hg2⟩; have HR2 := hid hr2; have HG2 := hid ((grown_alloc HG1.out _).trans hg2); have q2 := Blk_grown (Q1.out.alloc _) hg2 (by omega); have qc := q2.cell; have qf := q2.frozen; have hz2 := hg2.size; rw [World.size_alloc] at hz2; replace q2 := hid q2; clear hr2 hg2))
 have e := Blk.cell (Blk.four (q2.out) (.int .i64 1) (.int .i64 n) (.string (bs u)) (.slice none 0 0))
 refine bodyPost_ret (v := .agg #[.int .i64 1, .int .i64 n, .string (bs u), .slice none 0 0]) (by simp [results, Tryz.results62, go_sem, e]) rfl ⟨rfl, ?_, ?_⟩
 ·exact (((HR2.out.far (by dsimp only; omega) _).far (by dsimp only; omega) _).far (by dsimp only; omega) _).far (by dsimp only; omega) _
 ·exact grown_far (grown_far (grown_far (grown_far HG2.out (Nat.le_refl _)) (Nat.le_refl _)) (Nat.le_refl _)) (Nat.le_refl _)
end cal
namespace clb
open Go.RowKit base tok dim rul
mutual
def TeAt (X : Nat -> Prop) (w : World) : Te -> Value -> Prop
 | .num n u, v => v = .agg #[.int .i64 1, .int .i64 n, .string (bs u), .slice none 0 0]
 | .op k l, v => ∃ c o cap, v = .agg #[.int .i64 k, .int .i64 0, .string ⟨#[]⟩, .slice (some ⟨c, o, none⟩) l.length cap] /\ l.length <= cap /\ X c /\ c < w.heap.size /\ TesAt X w c o l
def TesAt (X : Nat -> Prop) (w : World) (c : Nat) : Nat -> List Te -> Prop
 | _, [] => True
 | o, t :: l => (∃ x0 x1 x2 x3, w.cell? ⟨c, o, none⟩ = some x0 /\ w.cell? ⟨c, o + 1, none⟩ = some x1 /\ w.cell? ⟨c, o + 2, none⟩ = some x2 /\ w.cell? ⟨c, o + 3, none⟩ = some x3 /\ TeAt X w t (.agg #[x0, x1, x2, x3])) /\ TesAt X w c (o + 4) l
end
def VsAt (X : Nat -> Prop) (w : World) : List Te -> List Value -> Prop
 | [], xs => xs = []
 | t :: l, xs => ∃ x0 x1 x2 x3 ys, xs = x0 :: x1 :: x2 :: x3 :: ys /\ TeAt X w t (.agg #[x0, x1, x2, x3]) /\ VsAt X w l ys
mutual
theorem TeAt.keep {X Y : Nat -> Prop} {w w' : World} (hs : w.heap.size <= w'.heap.size) (hk : ∀ c, X c -> c < w.heap.size -> Y c /\ w'.heap[c]? = w.heap[c]?) : ∀ (t : Te) (v : Value), TeAt X w t v -> TeAt Y w' t v
 | .num n u, v => fun h => by rw [TeAt] at h ⊢; exact h
 | .op k l, v => fun h => by
  rw [TeAt] at h ⊢
  obtain ⟨c, o, cap, h1, h2, h3, h4, h5⟩ := h
  obtain ⟨k1, k2⟩ := hk c h3 h4
  exact ⟨c, o, cap, h1, h2, k1, Nat.lt_of_lt_of_le h4 hs, TesAt.keep hs hk c k2 l o h5⟩
theorem TesAt.keep {X Y : Nat -> Prop} {w w' : World} (hs : w.heap.size <= w'.heap.size) (hk : ∀ c, X c -> c < w.heap.size -> Y c /\ w'.heap[c]? = w.heap[c]?) (c : Nat) (hc : w'.heap[c]? = w.heap[c]?) : ∀ (l : List Te) (o : Nat), TesAt X w c o l -> TesAt Y w' c o l
 | [], o => fun _ => by rw [TesAt]; trivial
 | t :: l, o => fun h => by
  rw [TesAt] at h ⊢
  obtain ⟨⟨x0, x1, x2, x3, c0, c1, c2, c3, ht⟩, hl⟩ := h
  have hcell : ∀ j, w'.cell? ⟨c, j, none⟩ = w.cell? ⟨c, j, none⟩ := fun j => World.cell?_of_block (w := w) hc
  exact ⟨⟨x0, x1, x2, x3, (hcell _).trans c0, (hcell _).trans c1, (hcell _).trans c2, (hcell _).trans c3, TeAt.keep hs hk t _ ht⟩, TesAt.keep hs hk c hc l _ hl⟩
end
theorem VsAt.keep {X Y : Nat -> Prop} {w w' : World} (hs : w.heap.size <= w'.heap.size) (hk : ∀ c, X c -> c < w.heap.size -> Y c /\ w'.heap[c]? = w.heap[c]?) : ∀ (l : List Te) (xs : List Value), VsAt X w l xs -> VsAt Y w' l xs
 | [], xs => fun h => h
 | t :: l, xs => fun h => by
  obtain ⟨x0, x1, x2, x3, ys, e, h1, h2⟩ := h
  exact ⟨x0, x1, x2, x3, ys, e, TeAt.keep hs hk t _ h1, VsAt.keep hs hk l ys h2⟩
theorem TeAt.on {X : Nat -> Prop} {w w' : World} {t : Te} {v : Value} (h : TeAt X w t v) (hb : Below w.heap.size w w') : TeAt X w' t v :=
 TeAt.keep hb.size (fun c hx hc => ⟨hx, hb.block c hc⟩) t v h
theorem TeAt.grown {X : Nat -> Prop} {w w' : World} {b : Nat} {t : Te} {v : Value} (h : TeAt X w t v) (hg : w.grownBy w' (some b)) (hX : ∀ c, X c -> c ≠ b) : TeAt X w' t v :=
 TeAt.keep hg.size (fun c hx hc => ⟨hx, hg.block c hc (fun e => hX c hx (Option.some.inj e))⟩) t v h
theorem TeAt.far {X : Nat -> Prop} {w : World} {t : Te} {v : Value} (h : TeAt X w t v) {p : Addr} (hp : ∀ c, X c -> c ≠ p.block) (u : Value) : TeAt X (w.setCell p u) t v :=
 TeAt.keep (by simp [World.setCell]) (fun c hx hc => ⟨hx, Below.heap_setCell w p u c (hp c hx)⟩) t v h
theorem TeAt.wide {X Y : Nat -> Prop} {w : World} {t : Te} {v : Value} (h : TeAt X w t v) (hX : ∀ c, X c -> c < w.heap.size -> Y c) : TeAt Y w t v :=
 TeAt.keep (Nat.le_refl _) (fun c hx hc => ⟨hX c hx hc, rfl⟩) t v h
theorem VsAt.len {X : Nat -> Prop} {w : World} : ∀ {l : List Te} {xs : List Value}, VsAt X w l xs -> xs.length = l.length * 4
 | [], xs, h => by rw [show xs = [] from h]; rfl
 | t :: l, xs, h => by
  obtain ⟨x0, x1, x2, x3, ys, rfl, -, h2⟩ := h
  have := VsAt.len h2
  simp only [List.length_cons]
  omega
theorem VsAt.snoc {X : Nat -> Prop} {w : World} {t : Te} {x0 x1 x2 x3 : Value} (ht : TeAt X w t (.agg #[x0, x1, x2, x3])) : ∀ {l : List Te} {xs : List Value}, VsAt X w l xs -> VsAt X w (l ++ [t]) (xs ++ [x0, x1, x2, x3])
 | [], xs, h => by
  rw [show xs = [] from h]
  exact ⟨x0, x1, x2, x3, [], rfl, ht, rfl⟩
 | a :: l, xs, h => by
  obtain ⟨y0, y1, y2, y3, ys, rfl, h1, h2⟩ := h
  exact ⟨y0, y1, y2, y3, ys ++ [x0, x1, x2, x3], rfl, h1, VsAt.snoc ht h2⟩
theorem VsAt.at_ {X : Nat -> Prop} {w : World} {c : Nat} : ∀ {l : List Te} {xs : List Value} {o : Nat}, VsAt X w l xs -> (∀ j u, xs[j]? = some u -> w.cell? ⟨c, o + j, none⟩ = some u) -> TesAt X w c o l
 | [], xs, o, h, _ => by rw [TesAt]; trivial
 | t :: l, xs, o, h, hc => by
  obtain ⟨x0, x1, x2, x3, ys, rfl, h1, h2⟩ := h
  rw [TesAt]
  refine ⟨⟨x0, x1, x2, x3, hc 0 _ rfl, hc 1 _ rfl, hc 2 _ rfl, hc 3 _ rfl, h1⟩, VsAt.at_ h2 (fun j u hj => ?_)⟩
  have := hc (j + 4) u (by simpa using hj)
  rw [<- this]
  congr 2
  omega
theorem TeAt.four {X : Nat -> Prop} {w : World} {t : Te} {v : Value} (h : TeAt X w t v) : ∃ k n s a m cap, v = .agg #[.int .i64 k, .int .i64 n, .string s, .slice a m cap] := by
 cases t with
 | num n u => rw [TeAt] at h; exact ⟨_, _, _, _, _, _, h⟩
 | op k l => rw [TeAt] at h; obtain ⟨c, o, cap, e, -⟩ := h; exact ⟨_, _, _, _, _, _, e⟩
mutual
theorem wf_size : ∀ t : Te, 1 <= t.size
 | .num n u => by rw [size_num]; exact Nat.le_refl _
 | .op k l => by rw [size_op]; omega
end
end clb
namespace clb
open Go.RowKit base tok dim rul cal
def chainP (x : Int) : List PanicEntry := [{ v := .iface 103 (.agg #[.int .i64 x]), recovered := false }]
def IsErr (x : Int) : Prop := x = 2 ∨ x = 4
theorem need_no (b : Nat) (w : World) : Calls Tryz.prog 63 #[.pointer (some ⟨b, 0, none⟩), .bool false] w fun e w' => e = .panicked (chainP 4) /\ w = w' := by
 go_enter Tryz.func63, Tryz.ntmps63
 go_wp2
 exact ⟨rfl, rfl, rfl⟩
theorem made_no (b : Nat) (L : List Tk) (k : Int) (g : Bool) (t : Tm) (hk : k = 30) (w : World) (h : RdrAt w b L k g) :
  Calls Tryz.prog 91 #[.pointer (some ⟨b, 0, none⟩), .agg #[.int .i64 t.k, .int .i64 t.n, .string t.u, .slice t.a t.l t.c]] w fun e w' => e = .panicked (chainP 2) /\ w.grownBy w' (some b) := by
 obtain ⟨tk, tn, tu, ta, tl, tc⟩ := t
 dsimp only
 subst hk
 obtain ⟨A, cap, hc, hb, hr⟩ := h
 have hlt := hb.lt
 have c1 := hb.cell
 have c2 := hb.frozen
 have c3 := fun v => (hb.put 1 v).cell
 have hbb := hid hb
 clear hr hb
 go_enter Tryz.func91, Tryz.ntmps91
 go_wp2_with fail
 refine ⟨rfl, rfl, ?_⟩
 exact ((grown_set _ _ _ _).trans (grown_of_below ((Below.refl _ _).alloc (Nat.le_refl _) _) _)).trans (grown_of_below ((Below.refl _ _).alloc (Nat.le_refl _) _) _)
theorem contains_not (w : World) (R o cap : Nat) (L : List Bs) (s : Bs) (h : StrsAt w R o L) (hc : L.length <= maxLen) (hm : ¬ s ∈ L) :
  Calls Tryz.prog 133 #[.slice (some ⟨R, o, none⟩) L.length cap, .string (bs s)] w fun e w' => e = .returned (.bool false) /\ w' = w := by
 have cI := hid ((index_ct w R o cap L s h hc).mono (R' := fun e w' => ∃ r : Int, e = .returned (.int .i64 r) /\ decide (r ≥ 0) = false /\ w' = w) fun e w' ⟨⟨r, he, hr⟩, hw⟩ => ⟨r, he, decide_eq_false (fun h => hm (hr.1 h)), hw⟩)
 generalize L.length = n at *
 go_enter Tryz.func133, Tryz.ntmps133
 go_wp2_with ((go_at_call 52; (with_reducible refine cI.out.mono ?_); rintro e w1 ⟨r, rfl, hr, rfl⟩))
 go_ret
 exact ⟨rfl, rfl⟩
theorem read_no (s : ByteArray) (hs : s.size < 4294967281) (raw u : Bs) (n : Int) (hcut : cutP s.data.toList = [⟨7, raw, u, n⟩]) (hu : ¬ u ∈ unitsL) (w : World) (hm : MaxL w) (hU : UnitsAt w) :
  Calls Tryz.prog 90 #[.string s] w (rt w (.tuple #[.agg #[.int .i64 0, .string ⟨#[]⟩], .int .i64 4])) := by
 have cC : ∀ w, MaxL w -> Calls Tryz.prog 40 #[.string s] w fun e w' => (∃ b off cap, e = .returned (.slice (some ⟨b, off, none⟩) 1 cap) /\ b < w'.heap.size /\ w'.cell? ⟨b, off, none⟩ = some (.int .i64 7) /\ w'.cell? ⟨b, off + 1, none⟩ = some (.string (bs raw)) /\ w'.cell? ⟨b, off + 2, none⟩ = some (.string (bs u)) /\ w'.cell? ⟨b, off + 3, none⟩ = some (.int .i64 n)) /\ Below w.heap.size w w' := fun w hm =>
  (cut_ct s hs w hm).mono fun e w' ⟨⟨A, cap, he, _, hr⟩, hb⟩ => by
   rw [hcut] at he hr
   obtain ⟨b, off, rfl, hlt, e0, e1, e2, e3⟩ := one_tok hr
   exact ⟨⟨b, off, cap, he, hlt, e0, e1, e2, e3⟩, hb⟩
 replace cC := hid cC
 replace hcut := hid hcut
 replace hU := hid hU
 replace hu := hid hu
 go_enter Tryz.func90, Tryz.ntmps90
 go_wp2_with ((go_at_call 40; (with_reducible refine (cC.out _ (hm.on ((Below.refl w.heap.size w).alloc (Nat.le_refl _) _) hm.lt)).mono ?_); rintro e W1 ⟨⟨b, off, cap, rfl, hlt, e0, e1, e2, e3⟩, hb1⟩; have HB1 := hid (((Below.refl w.heap.size w).alloc (Nat.le_refl _) _).trans (hb1.mono (by simp))); have hblk := (Blk.new (w := w) (t := 47) (cs := #[.int .i64 0, .string .empty]) rfl).below hb1 (by simp)))
 obtain ⟨hg, R, o, ucap, hc, hst⟩ := hU.out.on HB1.out
 have cI : ∀ n, Calls Tryz.prog 133 #[.slice (some ⟨R, o, none⟩) 7 ucap, .string (bs u)] (W1.drewN n) fun e w' => e = .returned (.bool false) /\ W1.drewN n = w' := fun n => (contains_not (W1.drewN n) R o ucap unitsL u hst (by decide) hu.out).mono fun e w' ⟨he, hw⟩ => ⟨he, hw.symm⟩
 replace cI := hid cI
 have hx : (0 : Int) < 1 := by decide
 go_quiet ((go_at_call 133; exact quiet_left (cI.out _)))
 have r1 := hblk.cell
 have r2 := hblk.frozen
 have r3 := fun v => (hblk.put 0 v).cell
 have r4 := fun v => (hblk.put 0 v).frozen
 go_wp2_with fail
 have e := (((hblk.drewN nq).put 0 (.int .i64 0)).put 1 (.string ⟨#[]⟩)).cell
 refine bodyPost_ret (v := .tuple #[.agg #[.int .i64 0, .string ⟨#[]⟩], .int .i64 4]) (by simp [results, Tryz.results90, go_sem, e]) rfl ⟨rfl, ?_⟩
 exact ((base.below_drewN HB1.out nq).setCell (Nat.le_refl _) _).setCell (Nat.le_refl _) _
theorem index_first (w : World) (R o cap : Nat) (L : List Bs) (s : Bs) (h : StrsAt w R o L) (hc : L.length <= maxLen) :
  Calls Tryz.prog 52 #[.slice (some ⟨R, o, none⟩) L.length cap, .string (bs s)] w fun e w' => (∃ r : Int, e = .returned (.int .i64 r) /\ ((∃ i : Nat, r = i /\ L[i]? = some s /\ ¬ s ∈ L.take i) ∨ (r = -1 /\ ¬ s ∈ L))) /\ w = w' := by
 have H := hid h
 unfold maxLen at hc
 obtain ⟨n, hn⟩ : ∃ n, L.length = n := ⟨_, rfl⟩
 rw [hn] at hc
 rw [hn]
 clear h
 go_enter Tryz.func52, Tryz.ntmps52
 go_wp2_with fail
 go_loopw [8] (fun i wr => ∃ k : Nat, k <= n /\ i = .int .i64 k /\ (¬ s ∈ L.take k) /\ wr = w) (fun i _ => n - (intOf i).toNat)
 case atStart => exact ⟨0, by omega, rfl, by simp, rfl⟩
 case round =>
  obtain ⟨k, hk, rfl, hno, rfl⟩ := hrel
  replace hno := hid hno
  by_cases hlt : k < n
  ·have hlt' : (k : Int) < (n : Int) := by omega
   have hkl : k < L.length := by omega
   have hx := List.getElem?_eq_getElem hkl
   generalize hxd : L[k] = x at hx
   have e0 := H.out.2 k x hx
   by_cases hxs : s = x
   ·have hat := hid (show L[k]? = some s by rw [hxs]; exact hx)
    have heq : ((bs s).toList == (bs x).toList) = true := by rw [hxs]; simp
    replace hxs := hid hxs
    clear hx hxd
    go_wp2
    go_ret
    exact ⟨⟨_, rfl, .inl ⟨k, rfl, hat.out, hno.out⟩⟩, rfl⟩
   ·have heq : ((bs s).toList == (bs x).toList) = false := by
     rw [bs_toList, bs_toList]
     simpa using hxs
    have hno2 := hid (show ¬ s ∈ L.take (k + 1) from by
     rw [List.take_succ_eq_append_getElem hkl]
     intro hy
     rcases List.mem_append.1 hy with hy | hy
     ·exact hno.out hy
     ·exact hxs ((List.mem_singleton.1 hy).trans hxd))
    replace hxs := hid hxs
    clear hx hxd
    go_wp2
    go_roundw
    case rel => exact ⟨k + 1, by omega, by go_num, hno2.out, trivial⟩
    case measure => simp [intOf]; omega
  ·obtain rfl : k = n := by omega
   have hnm : ¬ s ∈ L := fun hm => hno.out (by rw [<- hn, List.take_length]; exact hm)
   replace hnm := hid hnm
   go_wp2
   go_ret
   exact ⟨⟨_, rfl, .inr ⟨rfl, hnm.out⟩⟩, rfl⟩
def wordsL : List Bs := [[], [], [], [], [], [], minT, maxT, midT]
theorem words_kind {s : Bs} {r : Int} (h : (∃ i : Nat, r = i /\ wordsL[i]? = some s /\ ¬ s ∈ wordsL.take i) ∨ (r = -1 /\ ¬ s ∈ wordsL)) : (kindI s = 0 /\ r <= 0) ∨ (¬ kindI s = 0 /\ r = kindI s) := by
 rcases h with ⟨i, rfl, hi, hn⟩ | ⟨rfl, hn⟩
 ·have hl := (List.getElem?_eq_some_iff.1 hi).1
  have hl9 : i < 9 := hl
  have hc : i = 0 ∨ i = 1 ∨ i = 2 ∨ i = 3 ∨ i = 4 ∨ i = 5 ∨ i = 6 ∨ i = 7 ∨ i = 8 := by omega
  rcases hc with rfl | rfl | rfl | rfl | rfl | rfl | rfl | rfl | rfl
  ·obtain rfl : [] = s := Option.some.inj hi
   exact .inl ⟨by decide, by decide⟩
  ·obtain rfl : [] = s := Option.some.inj hi
   exact absurd (by decide) hn
  ·obtain rfl : [] = s := Option.some.inj hi
   exact absurd (by decide) hn
  ·obtain rfl : [] = s := Option.some.inj hi
   exact absurd (by decide) hn
  ·obtain rfl : [] = s := Option.some.inj hi
   exact absurd (by decide) hn
  ·obtain rfl : [] = s := Option.some.inj hi
   exact absurd (by decide) hn
  ·obtain rfl : minT = s := Option.some.inj hi
   exact .inr ⟨by decide, by decide⟩
  ·obtain rfl : maxT = s := Option.some.inj hi
   exact .inr ⟨by decide, by decide⟩
  ·obtain rfl : midT = s := Option.some.inj hi
   exact .inr ⟨by decide, by decide⟩
 ·refine .inl ⟨?_, by decide⟩
  unfold kindI
  rw [if_neg (fun e => hn (by rw [e]; decide)), if_neg (fun e => hn (by rw [e]; decide)), if_neg (fun e => hn (by rw [e]; decide))]
def RetV (b : Nat) (w : World) : Option (Te × List Tk × Nat) -> Ending -> World -> Prop
 | some r, e, w' => w.grownBy w' (some b) /\ ∃ v g, e = .returned v /\ TeAt (fun c => w.heap.size <= c) w' r.1 v /\ RdrAt w' b r.2.1 (r.2.2 : Int) g
 | none, e, w' => w.grownBy w' (some b) /\ ∃ x, IsErr x /\ e = .panicked (chainP x)
def RetP (b : Nat) (w : World) : Option (Te × List Tk × Nat × Bool) -> Ending -> World -> Prop
 | some r, e, w' => w.grownBy w' (some b) /\ ∃ v, e = .returned v /\ TeAt (fun c => w.heap.size <= c) w' r.1 v /\ RdrAt w' b r.2.1 (r.2.2.1 : Int) r.2.2.2
 | none, e, w' => w.grownBy w' (some b) /\ ∃ x, IsErr x /\ e = .panicked (chainP x)
def GoodR (L : List Tk) : Prop := L.length <= 400 /\ ∀ t ∈ L, cutP t.raw = [t] /\ t.raw.length <= 400 /\ t.val.length <= 400
theorem GoodR.suf {L M : List Tk} (h : GoodR L) (hs : M <:+ L) : GoodR M := ⟨Nat.le_trans hs.length_le h.1, fun t ht => h.2 t (hs.subset ht)⟩
end clb
end Go.Proofs.YtlfkkaofgcongaaGreatDoor
