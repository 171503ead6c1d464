/- Contracts and plain law, a bundle: LaidE. -/
import Derived.Test.YtmjbaimccbkmpaaGreatDoorBE
import Derived.Test.YtmjbaimccbkmpaaGreatDoorBI

namespace Go.Proofs.YtmjbaimccbkmpaaGreatDoor.med
open Go.RowKit Go.Proofs.YtmjbaimccbkmpaaGreatDoor.base Go.Proofs.YtmjbaimccbkmpaaGreatDoor.tok Go.ChangeShapes Go.WideShapes Go.ChangeAt
set_option linter.unusedVariables false

section
variable {H : Type} {enc : TypeId × Value → H} {w : World} {base : Nat} {spare : Nat → Bool} {held : Bool}
set_option maxRecDepth 100000 in
theorem open_env {r : Reach} {b0 : Nat} {v : Value} {d : DataW H} {p : List MemPlace} (hv : Value.okWide Tryz.prog w r b0 48 v) (h : DataW.Trod enc Tryz.prog w base spare held 48 v d p) :
    ∃ e : En, v = e.v := by
  obtain ⟨cs, rfl, hsz, hf⟩ := open_flat Tryz.underlying48 (by kernel_rfl) (by kernel_rfl) hv h
  obtain ⟨u0, y0, n0, g0, h0⟩ := hf 0 _ rfl
  obtain ⟨u1, y1, n1, g1, h1⟩ := hf 1 _ rfl
  obtain ⟨u2, y2, n2, g2, h2⟩ := hf 2 _ rfl
  obtain ⟨u3, y3, n3, g3, h3⟩ := hf 3 _ rfl
  obtain ⟨i0, e0, _, _⟩ := DataW.trod_int Tryz.underlying3 h0
  obtain ⟨i1, e1, _, _⟩ := DataW.trod_int Tryz.underlying3 h1
  obtain ⟨i2, e2, _⟩ := DataW.trod_bool Tryz.underlying4 h2
  obtain ⟨i3, e3, _⟩ := DataW.trod_bool Tryz.underlying4 h3
  simp only [List.cons.injEq, and_true] at e0 e1 e2 e3
  subst e0 e1 e2 e3
  obtain ⟨l⟩ := cs
  match l, hsz with
  | [a0, a1, a2, a3], _ =>
    simp at g0 g1 g2 g3
    subst g0 g1 g2 g3
    exact ⟨⟨_, _, _, _⟩, rfl⟩
end

end Go.Proofs.YtmjbaimccbkmpaaGreatDoor.med
