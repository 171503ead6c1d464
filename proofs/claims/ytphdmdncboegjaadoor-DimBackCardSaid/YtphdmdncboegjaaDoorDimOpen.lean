/- A scale as it comes in; dim.units as the row lists it; plain words on clipping. -/
import Derived.Test.YtphdmdncboegjaaDoorDim2
import Derived.Test.YtphdmdncboegjaaDoorDoor
import Derived.Test.YtphdmdncboegjaaDoorRows
namespace Go.Proofs.YtphdmdncboegjaaDoor.dim
open Go.RowKit Go.Proofs.YtphdmdncboegjaaDoor.base Go.Proofs.YtphdmdncboegjaaDoor.tok Go.ChangeShapes Go.WideShapes Go.ChangeAt
set_option linter.unusedVariables false

/-- the number of a unit -/
theorem five (u : Int) : ∃ r : Nat, r < 5 ∧ (IntKind.u64.wrap u).tmod 5 = (r : Int) := by
  have h0 : 0 ≤ IntKind.u64.wrap u := by simp [IntKind.wrap, IntKind.bits, IntKind.signed]; omega
  generalize IntKind.u64.wrap u = v at *
  rw [Int.tmod_eq_emod_of_nonneg h0]
  exact ⟨(v % 5).toNat, by omega, by omega⟩
theorem clip_mono {x y : Int} (h : x ≤ y) : clipI x ≤ clipI y := by unfold clipI; omega
theorem more_of {n m f d : Int} (h : n ≤ m) (hf : 0 ≤ f) (hd : 0 < d) : clipI (n * f / d) ≤ clipI (m * f / d) :=
  clip_mono (Int.ediv_le_ediv hd (Int.mul_le_mul_of_nonneg_right h hf))


section
variable {H : Type} {enc : TypeId × Value → H} {w : World} {base : Nat} {spare : Nat → Bool} {held : Bool}
set_option maxRecDepth 100000 in
/-- a scale, as it comes in -/
theorem open_scale {r : Reach} {b0 : Nat} {v : Value} {d : DataW H} {p : List MemPlace} (hv : Value.okWide Tryd.prog w r b0 33 v) (h : DataW.Trod enc Tryd.prog w base spare held 33 v d p) :
    ∃ em rem vw vh : Int, v = .agg #[.int .i64 em, .int .i64 rem, .int .i64 vw, .int .i64 vh] := by
  obtain ⟨cs, rfl, hsz, hf⟩ := open_flat Tryd.underlying33 (by kernel_rfl) (by kernel_rfl) hv h
  obtain ⟨u0, y0, n0, g0, h0⟩ := hf 0 _ rfl
  obtain ⟨u1, y1, n1, g1, h1⟩ := hf 1 _ rfl
  obtain ⟨u2, y2, n2, g2, h2⟩ := hf 2 _ rfl
  obtain ⟨u3, y3, n3, g3, h3⟩ := hf 3 _ rfl
  obtain ⟨i0, e0, _, _⟩ := DataW.trod_int Tryd.underlying3 h0
  obtain ⟨i1, e1, _, _⟩ := DataW.trod_int Tryd.underlying3 h1
  obtain ⟨i2, e2, _, _⟩ := DataW.trod_int Tryd.underlying3 h2
  obtain ⟨i3, e3, _, _⟩ := DataW.trod_int Tryd.underlying3 h3
  simp only [List.cons.injEq, and_true] at e0 e1 e2 e3
  subst e0 e1 e2 e3
  obtain ⟨l⟩ := cs
  match l, hsz with
  | [a0, a1, a2, a3], _ =>
    simp at g0 g1 g2 g3
    subst g0 g1 g2 g3
    exact ⟨_, _, _, _, rfl⟩
end

set_option maxRecDepth 100000 in
theorem units_of {w : World} {l : List (String × DataW Unit)} (h : laidMet Tryd.prog l w) (hm : ("clerestory/dim.units", Rows.laid_clerestory_dim_units) ∈ l) : UnitsAt w := by
  obtain ⟨R, o, cap, hc, hs⟩ := strs_of_reads (P := Tryd.prog) (g := 0) (L := unitsL) (by kernel_rfl) (by kernel_rfl) Tryd.underlying34 Tryd.underlying9 (by kernel_rfl) (by decide) (Lib.laidMet.reads h hm)
  exact ⟨World.block_lt_of_cell? w _ hc, R, o, cap, hc, hs⟩

end Go.Proofs.YtphdmdncboegjaaDoor.dim
