/- Slices of declarations, as they come in. -/
import Derived.Test.YtchmpdibbklpfaaWin1
import Derived.Test.YtchmpdibbklpfaaBase3
namespace Go.Proofs.Ytchmpdibbklpfaa.win
open Go.RowKit Go.Proofs.Ytchmpdibbklpfaa.base Go.Proofs.Ytchmpdibbklpfaa.cas Go.ChangeShapes Go.WideShapes Go.ChangeAt
set_option linter.unusedVariables false

section
variable {H : Type} {enc : TypeId × Value → H} {w : World} {base : Nat} {held : Bool}
theorem cells_given {fuel : Nat} {spare : Nat → Bool} {cs : List Value} {x : DataW H × List MemPlace} (h : DataW.trod enc Try.prog w base spare held fuel 23 cs = some x) : ∃ d : GD, cs = d.cells.toList ∧ d.nm.size ≤ maxLen := by
  have k1 : Try.prog.cellsOf 3 = 1 := by kernel_rfl
  have k2 : Try.prog.cellsOf 9 = 1 := by kernel_rfl
  have k3 : Try.prog.cellsOf 4 = 1 := by kernel_rfl
  have k6 : Try.prog.cellsOf 23 = 6 := by kernel_rfl
  obtain ⟨hl, m, hf⟩ := trod_fields Try.underlying23 h
  rw [k6] at hl
  match cs, hl with
  | [a0, a1, a2, a3, a4, a5], _ =>
    obtain ⟨y0, h0⟩ := at_field hf 0 9 0 1 rfl k2
    obtain ⟨y1, h1⟩ := at_field hf 1 9 1 1 rfl k2
    obtain ⟨y2, h2⟩ := at_field hf 2 3 2 1 rfl k1
    obtain ⟨y3, h3⟩ := at_field hf 3 4 3 1 rfl k3
    obtain ⟨y4, h4⟩ := at_field hf 4 3 4 1 rfl k1
    obtain ⟨y5, h5⟩ := at_field hf 5 3 5 1 rfl k1
    obtain ⟨nm, e0, g0, g0'⟩ := DataW.trod_string Try.underlying9 h0
    obtain ⟨vl, e1, _, _⟩ := DataW.trod_string Try.underlying9 h1
    obtain ⟨o, e2, _, _⟩ := DataW.trod_int Try.underlying3 h2
    obtain ⟨i, e3, _⟩ := DataW.trod_bool Try.underlying4 h3
    obtain ⟨wt, e4, _, _⟩ := DataW.trod_int Try.underlying3 h4
    obtain ⟨p, e5, _, _⟩ := DataW.trod_int Try.underlying3 h5
    simp at e0 e1 e2 e3 e4 e5
    exact ⟨⟨nm, vl, o, i, wt, p⟩, by simp [e0, e1, e2, e3, e4, e5], by first | exact g0 | exact g0'⟩

/-- every name is a length -/
def Named (L : List GD) : Prop := ∀ d ∈ L, d.nm.size ≤ maxLen

theorem open_givens {fuel : Nat} {cs : List Value} {x : DataW H × List MemPlace} (h : DataW.trod enc Try.prog w 0 (fun _ => true) held fuel 34 cs = some x) :
    ∃ A n cap L, cs = [.slice A n cap] ∧ n ≤ cap ∧ cap ≤ maxLen ∧ GRd w w.heap.size A n L ∧ Named L := by
  obtain ⟨A, n, c, rfl, h1, h2, h3⟩ := open_rows Try.underlying34 (k := 6) (by kernel_rfl) (by decide) h
  rcases Nat.eq_zero_or_pos n with rfl | h0
  · exact ⟨A, 0, c, [], rfl, by omega, h2, ⟨rfl, fun h0 => by omega⟩, fun d hd => by cases hd⟩
  obtain ⟨b, off, rfl, hb, hi⟩ := h3 h0
  obtain ⟨L, hl, hL⟩ := exists_list (p := fun i (d : GD) => (∀ j, j < 6 → w.cell? ⟨b, off + i * 6 + j, none⟩ = d.cells[j]?) ∧ d.nm.size ≤ maxLen) n (fun i hin => by
    obtain ⟨cs', m, y, _, hat, ht⟩ := hi i hin
    obtain ⟨d, rfl, hd⟩ := cells_given ht
    exact ⟨d, fun j hj => by rw [hat j hj]; simp, hd⟩)
  refine ⟨_, n, c, L, rfl, h1, h2, ⟨hl, fun _ => ⟨b, off, rfl, hb, fun i d hd => (hL i d hd).1⟩⟩, fun d hd => ?_⟩
  obtain ⟨i, hi⟩ := List.mem_iff_getElem?.1 hd
  exact (hL i d hi).2

theorem arg_givens {r : Reach} {b0 : Nat} {v : Value} {d : DataW H} {p : List MemPlace} (hv : Value.okWide Try.prog w r b0 34 v) (h : DataW.Trod enc Try.prog w 0 (fun _ => true) held 34 v d p) :
    ∃ A n cap L, v = .slice A n cap ∧ n ≤ cap ∧ n ≤ maxLen ∧ GRd w w.heap.size A n L ∧ Named L := by
  obtain ⟨a, len, cap, rfl⟩ := okWide_slice Try.underlying34 hv
  obtain ⟨fuel, hf⟩ := h
  obtain ⟨A, n, c, L, e, h1, h2, h3, h4⟩ := open_givens hf
  simp [Value.cells] at e
  obtain ⟨rfl, rfl, rfl⟩ := e
  exact ⟨_, _, _, L, rfl, h1, by omega, h3, h4⟩
end

end Go.Proofs.Ytchmpdibbklpfaa.win
