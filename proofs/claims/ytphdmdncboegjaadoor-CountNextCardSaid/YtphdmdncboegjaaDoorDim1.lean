/- Contracts: dim.Read of what is one number with a unit; half. -/
import Derived.Test.YtphdmdncboegjaaDoorDim0
import Derived.Deep.QuietTactic
import Derived.BigQuiet
namespace Go.Proofs.YtphdmdncboegjaaDoor.dim
open Go.RowKit Go.Proofs.YtphdmdncboegjaaDoor.base Go.Proofs.YtphdmdncboegjaaDoor.tok
set_option linter.unusedVariables false

def unitsL : List Bs := [[], [112, 120], [101, 109], [114, 101, 109], [118, 119], [118, 104], [37]]

/-- dim.units as it is laid -/
def UnitsAt (w : World) : Prop := 0 < w.heap.size ∧ ∃ R o cap, w.cell? ⟨0, 0, none⟩ = some (.slice (some ⟨R, o, none⟩) 7 cap) ∧ StrsAt w R o unitsL
theorem UnitsAt.on {w w' : World} (h : UnitsAt w) (hb : Below w.heap.size w w') : UnitsAt w' := by
  obtain ⟨h0, R, o, cap, hc, hs⟩ := h
  exact ⟨Nat.lt_of_lt_of_le h0 hb.size, R, o, cap, (hb.cell (p := ⟨_, 0, none⟩) h0).trans hc, hs.on hb⟩

theorem one_tok {w : World} {B : Nat} {A : Option Addr} {t : Tk} (h : TRd w B A 1 [t]) : ∃ b off, A = some ⟨b, off, none⟩ ∧ b < B ∧
    w.cell? ⟨b, off, none⟩ = some (.int .i64 t.k) ∧ w.cell? ⟨b, off + 1, none⟩ = some (.string (bs t.raw)) ∧ w.cell? ⟨b, off + 2, none⟩ = some (.string (bs t.val)) ∧ w.cell? ⟨b, off + 3, none⟩ = some (.int .i64 t.num) := by
  obtain ⟨b, off, u, hA, hlt, hd, e0, e1, e2, e3⟩ := TRd.tok h (show 0 < 1 by decide)
  obtain rfl : t = u := by simpa using hd
  simp only [Nat.zero_mul, Nat.add_zero] at e0 e1 e2 e3
  exact ⟨b, off, hA, hlt, e0, e1, e2, e3⟩

set_option maxRecDepth 100000 in
set_option maxHeartbeats 4000000 in
theorem read_ct (s : ByteArray) (hs : s.size < 4294967281) (raw u : Bs) (n : Int) (hcut : cutP s.data.toList = [⟨7, raw, u, n⟩]) (hu : u ∈ unitsL) (w : World) (hm : MaxL w) (hU : UnitsAt w) :
    Calls Tryd.prog 27 #[.string s] w fun e w' => e = .returned (.tuple #[.agg #[.int .i64 n, .string (bs u)], .int .i64 0]) ∧ Below w.heap.size w w' := by
  have cC : ∀ w, MaxL w → Calls Tryd.prog 16 #[.string s] w fun e w' => (∃ b off cap, e = .returned (.slice (some ⟨b, off, none⟩) 1 cap) ∧ b < w'.heap.size ∧ w'.cell? ⟨b, off, none⟩ = some (.int .i64 7) ∧ w'.cell? ⟨b, off + 1, none⟩ = some (.string (bs raw)) ∧ w'.cell? ⟨b, off + 2, none⟩ = some (.string (bs u)) ∧ w'.cell? ⟨b, off + 3, none⟩ = some (.int .i64 n)) ∧ Below w.heap.size w w' := fun w hm =>
    (cut_ct s hs w hm).mono fun e w' ⟨⟨A, cap, he, _, hr⟩, hb⟩ => by
      rw [hcut] at he hr
      obtain ⟨b, off, rfl, hlt, e0, e1, e2, e3⟩ := one_tok hr
      exact ⟨⟨b, off, cap, he, hlt, e0, e1, e2, e3⟩, hb⟩
  replace cC := Lib.hid cC
  replace hcut := Lib.hid hcut
  replace hU := Lib.hid hU
  replace hu := Lib.hid hu
  go_enter Tryd.func27, Tryd.ntmps27
  go_wp2_with ((go_at_call 16; (with_reducible refine (cC.out _ (hm.on ((Below.refl w.heap.size w).alloc (Nat.le_refl _) _) hm.lt)).mono ?_); rintro e W1 ⟨⟨b, off, cap, rfl, hlt, e0, e1, e2, e3⟩, hb1⟩; have HB1 := Lib.hid (((Below.refl w.heap.size w).alloc (Nat.le_refl _) _).trans (hb1.mono (by simp))); have hblk := (Blk.new (w := w) (t := 40) (cs := #[.int .i64 0, .string .empty]) rfl).below hb1 (by simp)))
  obtain ⟨hg, R, o, ucap, hc, hst⟩ := hU.out.on HB1.out
  have cI : ∀ n, Calls Tryd.prog 46 #[.slice (some ⟨R, o, none⟩) 7 ucap, .string (bs u)] (W1.drewN n) fun e w' => e = .returned (.bool true) ∧ W1.drewN n = w' := fun n => (contains_ct (W1.drewN n) R o ucap unitsL u hst (by decide) hu.out).mono fun e w' ⟨he, hw⟩ => ⟨he, hw.symm⟩
  replace cI := Lib.hid cI
  have hx : (0 : Int) < 1 := by decide
  go_quiet ((go_at_call 46; exact quiet_left (cI.out _)))
  go_wp2_with fail
  have r1 := hblk.cell
  have r2 := hblk.frozen
  have r3 := fun v => (hblk.put 0 v).cell
  have r4 := fun v => (hblk.put 0 v).frozen
  go_region
  go_wp2
  have e := (((hblk.drewN (nq + 1)).put 0 (.int .i64 n)).put 1 (.string (bs u))).cell
  refine bodyPost_ret (v := .tuple #[.agg #[.int .i64 n, .string (bs u)], .int .i64 0]) (by simp [results, Tryd.results27, go_sem, e]) rfl ⟨rfl, ?_⟩
  exact ((Go.Proofs.YtphdmdncboegjaaDoor.base.below_drewN HB1.out (nq + 1)).setCell (Nat.le_refl _) _).setCell (Nat.le_refl _) _

theorem cut_half : cutP [49, 46, 53, 48, 101, 109] = [⟨7, [49, 46, 53, 48, 101, 109], [101, 109], 1500⟩] := by
  have f3 : firstP [49, 46, 53, 48, 101, 109] = ⟨7, [49, 46, 53, 48, 101, 109], [101, 109], 1500⟩ := by
    have hn : nameP [101, 109] = ([101, 109], 2) := by
      rw [nameP, if_neg (by decide), if_pos (by decide), nameP, if_pos (by decide)]
    have hnum : numberP [49, 46, 53, 48, 101, 109] = (1500, 4) := by decide
    rw [firstP, if_neg (by decide), if_neg (by decide), if_neg (by decide), if_neg (by decide), if_neg (by decide), hnum, if_pos (by decide)]
    simp only [numTkP]
    rw [if_neg (by decide), if_pos (by decide)]
    simp only [List.drop_succ_cons, List.drop_zero, hn]
    decide
  rw [cutP_cons (by decide), f3]
  simp [cutP_nil]

theorem run_eq_dim (a b : Int × Bs) (w : World) : (binOp .eql 40 (.agg #[.int .i64 a.1, .string (bs a.2)]) (.agg #[.int .i64 b.1, .string (bs b.2)])).run Tryd.prog w = .ok (.bool (decide (a = b))) w := by
  rw [run_eql_struct, run_equalIn_agg w _ _ _ _ (by kernel_rfl) (by kernel_rfl)]
  simp only [Program.fieldsOf, Tryd.underlying40]
  obtain ⟨k1, r1⟩ := a
  obtain ⟨k2, r2⟩ := b
  simp [Op.eqFields, go_sem, Tryd.underlying9, Tryd.underlying3, bs_toList]
  (repeat' split) <;> simp_all

set_option maxRecDepth 100000 in
set_option maxHeartbeats 4000000 in
theorem half_ct (w : World) (hm : MaxL w) (hU : UnitsAt w) :
    Calls Tryd.prog 20 #[] w fun e w' => e = .returned (.bool true) ∧ Below w.heap.size w w' := by
  have cR : Calls Tryd.prog 27 #[.string ⟨#[49, 46, 53, 48, 101, 109]⟩] w fun e w' => e = .returned (.tuple #[.agg #[.int .i64 1500, .string ⟨#[101, 109]⟩], .int .i64 0]) ∧ Below w.heap.size w w' := (read_ct ⟨#[49, 46, 53, 48, 101, 109]⟩ (by decide) [49, 46, 53, 48, 101, 109] [101, 109] 1500 cut_half (by decide) w hm hU)
  replace cR := Lib.hid cR
  have keq : ∀ W : World, (binOp .eql 40 (.agg #[.int .i64 1500, .string ⟨#[101, 109]⟩]) (.agg #[.int .i64 1500, .string ⟨#[101, 109]⟩])).run Tryd.prog W = .ok (.bool true) W := fun W => run_eq_dim (1500, [101, 109]) (1500, [101, 109]) W
  go_enter Tryd.func20, Tryd.ntmps20
  go_wp2_with ((go_at_call 27; (with_reducible refine (cR.out).mono ?_); rintro e W1 ⟨rfl, hb1⟩; have hz := hb1.size; have HB1 := Lib.hid hb1; clear hb1))
  go_ret
  exact ⟨rfl, HB1.out.alloc HB1.out.size _⟩

end Go.Proofs.YtphdmdncboegjaaDoor.dim
