/- Contracts: count.roman. -/
import Derived.Test.YtphdmdncboegjaaDoorCnt0
import Derived.Test.YtphdmdncboegjaaDoorBuild2
namespace Go.Proofs.YtphdmdncboegjaaDoor.cnt
open Go.RowKit Go.Proofs.YtphdmdncboegjaaDoor.base Go.Proofs.YtphdmdncboegjaaDoor.tok Go.Proofs.YtphdmdncboegjaaDoor.dim
set_option linter.unusedVariables false

theorem rom_at : ∀ k : Fin 13, ∃ p : Nat × Bs, romT[k.val]? = some p ∧ 1 ≤ p.1 ∧ p.1 ≤ 1000 ∧ p.2.length ≤ 2 := by
  intro k
  match k with
  | ⟨0, _⟩ => exact ⟨_, rfl, by decide, by decide, by decide⟩
  | ⟨1, _⟩ => exact ⟨_, rfl, by decide, by decide, by decide⟩
  | ⟨2, _⟩ => exact ⟨_, rfl, by decide, by decide, by decide⟩
  | ⟨3, _⟩ => exact ⟨_, rfl, by decide, by decide, by decide⟩
  | ⟨4, _⟩ => exact ⟨_, rfl, by decide, by decide, by decide⟩
  | ⟨5, _⟩ => exact ⟨_, rfl, by decide, by decide, by decide⟩
  | ⟨6, _⟩ => exact ⟨_, rfl, by decide, by decide, by decide⟩
  | ⟨7, _⟩ => exact ⟨_, rfl, by decide, by decide, by decide⟩
  | ⟨8, _⟩ => exact ⟨_, rfl, by decide, by decide, by decide⟩
  | ⟨9, _⟩ => exact ⟨_, rfl, by decide, by decide, by decide⟩
  | ⟨10, _⟩ => exact ⟨_, rfl, by decide, by decide, by decide⟩
  | ⟨11, _⟩ => exact ⟨_, rfl, by decide, by decide, by decide⟩
  | ⟨12, _⟩ => exact ⟨_, rfl, by decide, by decide, by decide⟩

theorem rom_idx0 : ∀ w, (Instr.index 136 (.agg #[.int .i64 1000, .string ⟨#[109]⟩, .int .i64 900, .string ⟨#[99, 109]⟩, .int .i64 500, .string ⟨#[100]⟩, .int .i64 400, .string ⟨#[99, 100]⟩, .int .i64 100, .string ⟨#[99]⟩, .int .i64 90, .string ⟨#[120, 99]⟩, .int .i64 50, .string ⟨#[108]⟩, .int .i64 40, .string ⟨#[120, 108]⟩, .int .i64 10, .string ⟨#[120]⟩, .int .i64 9, .string ⟨#[105, 120]⟩, .int .i64 5, .string ⟨#[118]⟩, .int .i64 4, .string ⟨#[105, 118]⟩, .int .i64 1, .string ⟨#[105]⟩]) (.int .i64 0)).run Tryd.prog w = .ok (.agg #[.int .i64 1000, .string ⟨#[109]⟩]) w := fun _ => by kernel_rfl
theorem rom_idx1 : ∀ w, (Instr.index 136 (.agg #[.int .i64 1000, .string ⟨#[109]⟩, .int .i64 900, .string ⟨#[99, 109]⟩, .int .i64 500, .string ⟨#[100]⟩, .int .i64 400, .string ⟨#[99, 100]⟩, .int .i64 100, .string ⟨#[99]⟩, .int .i64 90, .string ⟨#[120, 99]⟩, .int .i64 50, .string ⟨#[108]⟩, .int .i64 40, .string ⟨#[120, 108]⟩, .int .i64 10, .string ⟨#[120]⟩, .int .i64 9, .string ⟨#[105, 120]⟩, .int .i64 5, .string ⟨#[118]⟩, .int .i64 4, .string ⟨#[105, 118]⟩, .int .i64 1, .string ⟨#[105]⟩]) (.int .i64 1)).run Tryd.prog w = .ok (.agg #[.int .i64 900, .string ⟨#[99, 109]⟩]) w := fun _ => by kernel_rfl
theorem rom_idx2 : ∀ w, (Instr.index 136 (.agg #[.int .i64 1000, .string ⟨#[109]⟩, .int .i64 900, .string ⟨#[99, 109]⟩, .int .i64 500, .string ⟨#[100]⟩, .int .i64 400, .string ⟨#[99, 100]⟩, .int .i64 100, .string ⟨#[99]⟩, .int .i64 90, .string ⟨#[120, 99]⟩, .int .i64 50, .string ⟨#[108]⟩, .int .i64 40, .string ⟨#[120, 108]⟩, .int .i64 10, .string ⟨#[120]⟩, .int .i64 9, .string ⟨#[105, 120]⟩, .int .i64 5, .string ⟨#[118]⟩, .int .i64 4, .string ⟨#[105, 118]⟩, .int .i64 1, .string ⟨#[105]⟩]) (.int .i64 2)).run Tryd.prog w = .ok (.agg #[.int .i64 500, .string ⟨#[100]⟩]) w := fun _ => by kernel_rfl
theorem rom_idx3 : ∀ w, (Instr.index 136 (.agg #[.int .i64 1000, .string ⟨#[109]⟩, .int .i64 900, .string ⟨#[99, 109]⟩, .int .i64 500, .string ⟨#[100]⟩, .int .i64 400, .string ⟨#[99, 100]⟩, .int .i64 100, .string ⟨#[99]⟩, .int .i64 90, .string ⟨#[120, 99]⟩, .int .i64 50, .string ⟨#[108]⟩, .int .i64 40, .string ⟨#[120, 108]⟩, .int .i64 10, .string ⟨#[120]⟩, .int .i64 9, .string ⟨#[105, 120]⟩, .int .i64 5, .string ⟨#[118]⟩, .int .i64 4, .string ⟨#[105, 118]⟩, .int .i64 1, .string ⟨#[105]⟩]) (.int .i64 3)).run Tryd.prog w = .ok (.agg #[.int .i64 400, .string ⟨#[99, 100]⟩]) w := fun _ => by kernel_rfl
theorem rom_idx4 : ∀ w, (Instr.index 136 (.agg #[.int .i64 1000, .string ⟨#[109]⟩, .int .i64 900, .string ⟨#[99, 109]⟩, .int .i64 500, .string ⟨#[100]⟩, .int .i64 400, .string ⟨#[99, 100]⟩, .int .i64 100, .string ⟨#[99]⟩, .int .i64 90, .string ⟨#[120, 99]⟩, .int .i64 50, .string ⟨#[108]⟩, .int .i64 40, .string ⟨#[120, 108]⟩, .int .i64 10, .string ⟨#[120]⟩, .int .i64 9, .string ⟨#[105, 120]⟩, .int .i64 5, .string ⟨#[118]⟩, .int .i64 4, .string ⟨#[105, 118]⟩, .int .i64 1, .string ⟨#[105]⟩]) (.int .i64 4)).run Tryd.prog w = .ok (.agg #[.int .i64 100, .string ⟨#[99]⟩]) w := fun _ => by kernel_rfl
theorem rom_idx5 : ∀ w, (Instr.index 136 (.agg #[.int .i64 1000, .string ⟨#[109]⟩, .int .i64 900, .string ⟨#[99, 109]⟩, .int .i64 500, .string ⟨#[100]⟩, .int .i64 400, .string ⟨#[99, 100]⟩, .int .i64 100, .string ⟨#[99]⟩, .int .i64 90, .string ⟨#[120, 99]⟩, .int .i64 50, .string ⟨#[108]⟩, .int .i64 40, .string ⟨#[120, 108]⟩, .int .i64 10, .string ⟨#[120]⟩, .int .i64 9, .string ⟨#[105, 120]⟩, .int .i64 5, .string ⟨#[118]⟩, .int .i64 4, .string ⟨#[105, 118]⟩, .int .i64 1, .string ⟨#[105]⟩]) (.int .i64 5)).run Tryd.prog w = .ok (.agg #[.int .i64 90, .string ⟨#[120, 99]⟩]) w := fun _ => by kernel_rfl
theorem rom_idx6 : ∀ w, (Instr.index 136 (.agg #[.int .i64 1000, .string ⟨#[109]⟩, .int .i64 900, .string ⟨#[99, 109]⟩, .int .i64 500, .string ⟨#[100]⟩, .int .i64 400, .string ⟨#[99, 100]⟩, .int .i64 100, .string ⟨#[99]⟩, .int .i64 90, .string ⟨#[120, 99]⟩, .int .i64 50, .string ⟨#[108]⟩, .int .i64 40, .string ⟨#[120, 108]⟩, .int .i64 10, .string ⟨#[120]⟩, .int .i64 9, .string ⟨#[105, 120]⟩, .int .i64 5, .string ⟨#[118]⟩, .int .i64 4, .string ⟨#[105, 118]⟩, .int .i64 1, .string ⟨#[105]⟩]) (.int .i64 6)).run Tryd.prog w = .ok (.agg #[.int .i64 50, .string ⟨#[108]⟩]) w := fun _ => by kernel_rfl
theorem rom_idx7 : ∀ w, (Instr.index 136 (.agg #[.int .i64 1000, .string ⟨#[109]⟩, .int .i64 900, .string ⟨#[99, 109]⟩, .int .i64 500, .string ⟨#[100]⟩, .int .i64 400, .string ⟨#[99, 100]⟩, .int .i64 100, .string ⟨#[99]⟩, .int .i64 90, .string ⟨#[120, 99]⟩, .int .i64 50, .string ⟨#[108]⟩, .int .i64 40, .string ⟨#[120, 108]⟩, .int .i64 10, .string ⟨#[120]⟩, .int .i64 9, .string ⟨#[105, 120]⟩, .int .i64 5, .string ⟨#[118]⟩, .int .i64 4, .string ⟨#[105, 118]⟩, .int .i64 1, .string ⟨#[105]⟩]) (.int .i64 7)).run Tryd.prog w = .ok (.agg #[.int .i64 40, .string ⟨#[120, 108]⟩]) w := fun _ => by kernel_rfl
theorem rom_idx8 : ∀ w, (Instr.index 136 (.agg #[.int .i64 1000, .string ⟨#[109]⟩, .int .i64 900, .string ⟨#[99, 109]⟩, .int .i64 500, .string ⟨#[100]⟩, .int .i64 400, .string ⟨#[99, 100]⟩, .int .i64 100, .string ⟨#[99]⟩, .int .i64 90, .string ⟨#[120, 99]⟩, .int .i64 50, .string ⟨#[108]⟩, .int .i64 40, .string ⟨#[120, 108]⟩, .int .i64 10, .string ⟨#[120]⟩, .int .i64 9, .string ⟨#[105, 120]⟩, .int .i64 5, .string ⟨#[118]⟩, .int .i64 4, .string ⟨#[105, 118]⟩, .int .i64 1, .string ⟨#[105]⟩]) (.int .i64 8)).run Tryd.prog w = .ok (.agg #[.int .i64 10, .string ⟨#[120]⟩]) w := fun _ => by kernel_rfl
theorem rom_idx9 : ∀ w, (Instr.index 136 (.agg #[.int .i64 1000, .string ⟨#[109]⟩, .int .i64 900, .string ⟨#[99, 109]⟩, .int .i64 500, .string ⟨#[100]⟩, .int .i64 400, .string ⟨#[99, 100]⟩, .int .i64 100, .string ⟨#[99]⟩, .int .i64 90, .string ⟨#[120, 99]⟩, .int .i64 50, .string ⟨#[108]⟩, .int .i64 40, .string ⟨#[120, 108]⟩, .int .i64 10, .string ⟨#[120]⟩, .int .i64 9, .string ⟨#[105, 120]⟩, .int .i64 5, .string ⟨#[118]⟩, .int .i64 4, .string ⟨#[105, 118]⟩, .int .i64 1, .string ⟨#[105]⟩]) (.int .i64 9)).run Tryd.prog w = .ok (.agg #[.int .i64 9, .string ⟨#[105, 120]⟩]) w := fun _ => by kernel_rfl
theorem rom_idx10 : ∀ w, (Instr.index 136 (.agg #[.int .i64 1000, .string ⟨#[109]⟩, .int .i64 900, .string ⟨#[99, 109]⟩, .int .i64 500, .string ⟨#[100]⟩, .int .i64 400, .string ⟨#[99, 100]⟩, .int .i64 100, .string ⟨#[99]⟩, .int .i64 90, .string ⟨#[120, 99]⟩, .int .i64 50, .string ⟨#[108]⟩, .int .i64 40, .string ⟨#[120, 108]⟩, .int .i64 10, .string ⟨#[120]⟩, .int .i64 9, .string ⟨#[105, 120]⟩, .int .i64 5, .string ⟨#[118]⟩, .int .i64 4, .string ⟨#[105, 118]⟩, .int .i64 1, .string ⟨#[105]⟩]) (.int .i64 10)).run Tryd.prog w = .ok (.agg #[.int .i64 5, .string ⟨#[118]⟩]) w := fun _ => by kernel_rfl
theorem rom_idx11 : ∀ w, (Instr.index 136 (.agg #[.int .i64 1000, .string ⟨#[109]⟩, .int .i64 900, .string ⟨#[99, 109]⟩, .int .i64 500, .string ⟨#[100]⟩, .int .i64 400, .string ⟨#[99, 100]⟩, .int .i64 100, .string ⟨#[99]⟩, .int .i64 90, .string ⟨#[120, 99]⟩, .int .i64 50, .string ⟨#[108]⟩, .int .i64 40, .string ⟨#[120, 108]⟩, .int .i64 10, .string ⟨#[120]⟩, .int .i64 9, .string ⟨#[105, 120]⟩, .int .i64 5, .string ⟨#[118]⟩, .int .i64 4, .string ⟨#[105, 118]⟩, .int .i64 1, .string ⟨#[105]⟩]) (.int .i64 11)).run Tryd.prog w = .ok (.agg #[.int .i64 4, .string ⟨#[105, 118]⟩]) w := fun _ => by kernel_rfl
theorem rom_idx12 : ∀ w, (Instr.index 136 (.agg #[.int .i64 1000, .string ⟨#[109]⟩, .int .i64 900, .string ⟨#[99, 109]⟩, .int .i64 500, .string ⟨#[100]⟩, .int .i64 400, .string ⟨#[99, 100]⟩, .int .i64 100, .string ⟨#[99]⟩, .int .i64 90, .string ⟨#[120, 99]⟩, .int .i64 50, .string ⟨#[108]⟩, .int .i64 40, .string ⟨#[120, 108]⟩, .int .i64 10, .string ⟨#[120]⟩, .int .i64 9, .string ⟨#[105, 120]⟩, .int .i64 5, .string ⟨#[118]⟩, .int .i64 4, .string ⟨#[105, 118]⟩, .int .i64 1, .string ⟨#[105]⟩]) (.int .i64 12)).run Tryd.prog w = .ok (.agg #[.int .i64 1, .string ⟨#[105]⟩]) w := fun _ => by kernel_rfl
theorem rom_idx (k : Nat) (hk : k < 13) (d : Nat) (s : Bs) (h : romT[k]? = some (d, s)) (w : World) :
    (Instr.index 136 (.agg #[.int .i64 1000, .string ⟨#[109]⟩, .int .i64 900, .string ⟨#[99, 109]⟩, .int .i64 500, .string ⟨#[100]⟩, .int .i64 400, .string ⟨#[99, 100]⟩, .int .i64 100, .string ⟨#[99]⟩, .int .i64 90, .string ⟨#[120, 99]⟩, .int .i64 50, .string ⟨#[108]⟩, .int .i64 40, .string ⟨#[120, 108]⟩, .int .i64 10, .string ⟨#[120]⟩, .int .i64 9, .string ⟨#[105, 120]⟩, .int .i64 5, .string ⟨#[118]⟩, .int .i64 4, .string ⟨#[105, 118]⟩, .int .i64 1, .string ⟨#[105]⟩]) (.int .i64 (k : Int))).run Tryd.prog w = .ok (.agg #[.int .i64 (d : Int), .string (bs s)]) w := by
  match k, hk with
  | 0, _ =>
    obtain ⟨rfl, rfl⟩ : d = 1000 ∧ s = [109] := by simpa [romT, eq_comm] using h
    exact rom_idx0 w
  | 1, _ =>
    obtain ⟨rfl, rfl⟩ : d = 900 ∧ s = [99, 109] := by simpa [romT, eq_comm] using h
    exact rom_idx1 w
  | 2, _ =>
    obtain ⟨rfl, rfl⟩ : d = 500 ∧ s = [100] := by simpa [romT, eq_comm] using h
    exact rom_idx2 w
  | 3, _ =>
    obtain ⟨rfl, rfl⟩ : d = 400 ∧ s = [99, 100] := by simpa [romT, eq_comm] using h
    exact rom_idx3 w
  | 4, _ =>
    obtain ⟨rfl, rfl⟩ : d = 100 ∧ s = [99] := by simpa [romT, eq_comm] using h
    exact rom_idx4 w
  | 5, _ =>
    obtain ⟨rfl, rfl⟩ : d = 90 ∧ s = [120, 99] := by simpa [romT, eq_comm] using h
    exact rom_idx5 w
  | 6, _ =>
    obtain ⟨rfl, rfl⟩ : d = 50 ∧ s = [108] := by simpa [romT, eq_comm] using h
    exact rom_idx6 w
  | 7, _ =>
    obtain ⟨rfl, rfl⟩ : d = 40 ∧ s = [120, 108] := by simpa [romT, eq_comm] using h
    exact rom_idx7 w
  | 8, _ =>
    obtain ⟨rfl, rfl⟩ : d = 10 ∧ s = [120] := by simpa [romT, eq_comm] using h
    exact rom_idx8 w
  | 9, _ =>
    obtain ⟨rfl, rfl⟩ : d = 9 ∧ s = [105, 120] := by simpa [romT, eq_comm] using h
    exact rom_idx9 w
  | 10, _ =>
    obtain ⟨rfl, rfl⟩ : d = 5 ∧ s = [118] := by simpa [romT, eq_comm] using h
    exact rom_idx10 w
  | 11, _ =>
    obtain ⟨rfl, rfl⟩ : d = 4 ∧ s = [105, 118] := by simpa [romT, eq_comm] using h
    exact rom_idx11 w
  | 12, _ =>
    obtain ⟨rfl, rfl⟩ : d = 1 ∧ s = [105] := by simpa [romT, eq_comm] using h
    exact rom_idx12 w

theorem romF_bd : ∀ (T : List (Nat × Bs)), (∀ p ∈ T, 1 ≤ p.1 ∧ p.2.length ≤ 2 * p.1) → ∀ n, (romF T n).length ≤ 2 * n
  | [], _, n => by simp [romF]
  | (d, s) :: T, hT, n => by
    have h1 := romF_bd T (fun p hp => hT p (by simp [hp])) (n % d)
    obtain ⟨h2, h3⟩ := hT (d, s) (by simp)
    simp only at h2 h3
    show ((List.replicate (n / d) s).flatten ++ romF T (n % d)).length ≤ 2 * n
    rw [List.length_append]
    have h4 : (List.replicate (n / d) s).flatten.length = n / d * s.length := by simp [List.length_flatten]
    have h5 := Nat.div_add_mod n d
    have h6 : n / d * s.length ≤ n / d * (2 * d) := Nat.mul_le_mul_left _ h3
    have h7 : n / d * (2 * d) = 2 * (d * (n / d)) := by rw [Nat.mul_comm (n / d), Nat.mul_assoc]
    omega
theorem rom_bd (n : Nat) : (romP n).length ≤ 2 * n := romF_bd romT (by decide) n
theorem drop_at {k : Nat} {p : Nat × Bs} (h : romT[k]? = some p) : romT.drop k = p :: romT.drop (k + 1) := by
  obtain ⟨hl, he⟩ := List.getElem?_eq_some_iff.1 h
  rw [List.drop_eq_getElem_cons hl, he]

set_option maxRecDepth 100000 in
set_option maxHeartbeats 4000000 in
theorem roman_ct (n : Nat) (hn : n ≤ 3999) (w : World) : Calls Tryd.prog 68 #[.int .i64 n] w fun e w' => e = .returned (.string (bs (romP n))) ∧ Below w.heap.size w w' := by
  have hlen := rom_bd n
  go_enter Tryd.func68, Tryd.ntmps68
  go_wp2_with fail
  go_loopw [0, 20] (fun x i wr => ∃ (k m : Nat) (out : Bs), k ≤ 13 ∧ i = .int .i64 k ∧ x = .int .i64 m ∧ m ≤ 3999 ∧ romP n = out ++ romF (romT.drop k) m ∧ IsB w.heap.size w.heap.size out wr ∧ Below w.heap.size w wr ∧ w.heap.size < wr.heap.size) (fun _ i _ => 13 - (intOf i).toNat)
  case atStart => exact ⟨0, n, [], by omega, rfl, rfl, hn, rfl, IsB.new w _ (Nat.le_refl _), (Below.refl _ _).alloc (Nat.le_refl _) _, by simp⟩
  case round =>
    obtain ⟨k, m, out, hk, rfl, rfl, hm, hinv, hib, hbel, hlt⟩ := hrel
    have hol : out.length ≤ 7998 := by have := congrArg List.length hinv; rw [List.length_append] at this; omega
    have HIb := Lib.hid hib
    have HBl := Lib.hid hbel
    have HInv := Lib.hid hinv
    clear hib hbel hinv
    by_cases hk13 : k < 13
    · obtain ⟨⟨d, s⟩, hd, hd1, hd2, hs⟩ := rom_at ⟨k, hk13⟩
      simp only at hd hd1 hd2 hs
      have hidx := rom_idx k hk13 d s hd
      have HD := Lib.hid (drop_at hd)
      obtain ⟨wo, hwo⟩ : ∃ wo, wo = wr := ⟨_, rfl⟩
      subst hwo
      have kb : decide ((k : Int) < 13) = true := decide_eq_true (by omega)
      clear hd
      go_wp2_with fail
      generalize hV : wo.alloc (.cells #[.int .i64 (d : Int), .string (bs s)] 135) = V
      have HV := Lib.hid (show Below w.heap.size w V by subst hV; exact HBl.out.alloc HBl.out.size _)
      have cV := Lib.hid (show Blk V wo.heap.size 135 #[.int .i64 (d : Int), .string (bs s)] by subst hV; exact Blk.new rfl)
      have iV := Lib.hid (show IsB w.heap.size w.heap.size out V by subst hV; exact HIb.out.on ((Below.refl _ _).alloc (Nat.le_refl _) _))
      have zV : wo.heap.size < V.heap.size := by subst hV; simp
      clear hV hidx HIb HBl
      go_loopw [0] (fun x wx => ∃ (m : Nat) (out : Bs), x = .int .i64 m ∧ m ≤ 3999 ∧ romP n = out ++ romF ((d, s) :: romT.drop (k + 1)) m ∧ IsB w.heap.size w.heap.size out wx ∧ Below w.heap.size w wx ∧ Blk wx wo.heap.size 135 #[.int .i64 (d : Int), .string (bs s)]) (fun x _ => (intOf x).toNat)
      case atStart => exact ⟨m, out, rfl, hm, by rw [HInv.out, HD.out], iV.out, HV.out, cV.out⟩
      case round =>
        clear HInv hol iV HV cV zV hm
        obtain ⟨m, out, rfl, hm, hinv, hib, hbel, hblk⟩ := hrel
        have hol : out.length ≤ 7998 := by have := congrArg List.length hinv; rw [List.length_append] at this; omega
        have cx := hblk.cell
        have HBk := Lib.hid hblk
        have HIb := Lib.hid hib
        have HBl := Lib.hid hbel
        have HInv := Lib.hid hinv
        have hzr := hbel.size
        have hzk := hblk.lt
        clear hib hbel hinv hblk
        by_cases hge : d ≤ m
        · have hge' : (d : Int) ≤ m := by omega
          have hdz : (1 : Int) ≤ d := by omega
          have hmz : (m : Int) ≤ 3999 := by omega
          have HM := Lib.hid (romF_more (s := s) (T := romT.drop (k + 1)) (show 0 < d by omega) hge)
          have cW := Lib.hid (writeString_on w.heap.size w.heap.size out (bs s) wr HIb.out (by rw [bs_size]; omega) hzr wo.heap.size 135 #[.int .i64 (d : Int), .string (bs s)] HBk.out (by decide) (by omega))
          go_wp2_with ((go_at_call 35; (with_reducible refine (cW.out).mono ?_); rintro e W2 ⟨rfl, hib2, hb2, hk2⟩; have cx2 := hk2.cell; have HI2 := Lib.hid hib2; have HB2 := Lib.hid (HBl.out.trans hb2); have HK2 := Lib.hid hk2; clear hib2 hb2 hk2 cx))
          go_roundw
          case rel => exact ⟨m - d, out ++ s, by congr 1; omega, by omega, by rw [HInv.out, HM.out, List.append_assoc], HI2.out, HB2.out, HK2.out⟩
          case measure => simp [intOf]; omega
        · have hge' : (m : Int) < d := by omega
          have HL := Lib.hid (romF_less (s := s) (T := romT.drop (k + 1)) (show m < d by omega))
          go_wp2_with fail
          go_roundw
          case rel => exact ⟨k + 1, m, out, by omega, by go_num, rfl, hm, by rw [HInv.out, HL.out], HIb.out, HBl.out, by omega⟩
          case measure => simp [intOf]; omega
    · obtain rfl : k = 13 := by omega
      have hfin : romP n = out := by rw [HInv.out]; simp [romT, romF]
      have cS := Lib.hid (builderString_ct w.heap.size w.heap.size out _ HIb.out (by omega))
      have HF := Lib.hid hfin
      clear hfin
      go_wp2_with ((go_at_call 36; (with_reducible refine (cS.out).mono ?_); rintro e W2 ⟨rfl, hb2⟩; have HB2 := Lib.hid (HBl.out.trans (hb2.mono (by omega))); clear hb2))
      go_ret
      exact ⟨by rw [HF.out]; rfl, HB2.out⟩

end Go.Proofs.YtphdmdncboegjaaDoor.cnt
