/- Contracts and plain law, a bundle. -/
import Derived.Lib.Hide
import Derived.Test.YthgffoanecknoaaGreatDoorJ5
import Derived.Test.YthgffoanecknoaaGreatDoorI7
import Derived.Test.YthgffoanecknoaaGreatDoorH1
set_option linter.unusedVariables false
set_option maxRecDepth 100000
set_option maxHeartbeats 16000000
open Go.Lib (hid)
namespace Go.Proofs.YthgffoanecknoaaGreatDoor
namespace doc
open Go.RowKit base tok cnt
set_option linter.unusedSimpArgs false
theorem DocAt.more {w : World} {A : Option Addr} {cap : Nat} {D : List Nd} (h : DocAt w w.heap.size A cap D) (o : Obj) : DocAt (w.alloc o) (w.alloc o).heap.size A cap D :=
 h.keep ((Below.refl _ w).alloc (Nat.le_refl _) o) (by rw [World.size_alloc]; exact Nat.le_succ _)
theorem more_none (D : List Nd) (L : List Sy) (A B : Option Addr) (cap capL : Nat) (q : Bool) (z : Int) (nm : Bs) (hnm : nm.length <= maxLen) (w : World) (hD : DocAt w w.heap.size A cap D) (hL : StyAt w w.heap.size B capL L) (hM : MaxL w) (hT : LibAt w) (hno : fitsF D L ≠ 0) :
  Calls Tryz.prog 5 #[dcV A D.length cap q, .slice B L.length capL, .int .i64 z, .string (bs nm)] w fun e w' => e = .returned (.bool true) /\ Below w.heap.size w w' := by
 have hK0 := hid (BSt.beg (w := w) (n := D.length) (A := A) (cap := cap) (q := q))
 have c4 := hid (fun W' (h : Below w.heap.size w W') => fourth_ct W' (hT.on h).pow)
 have cN := hid (fun W' (h : Below w.heap.size w W') => (Numbers_ct D L A B cap capL q W' (hD.keep h h.size) (hL.keep h h.size) (hM.on h hM.lt) (hT.on h)).mono (R' := fun e w' => e = .returned (.tuple #[.slice none 0 0, .int .i64 (fitsF D L)]) /\ Below W'.heap.size W' w') fun e w' ⟨hor, hb⟩ => ⟨by
  rcases hor with ⟨_, g⟩ | ⟨g, _⟩
  ·exact g
  ·exact absurd g hno, hb⟩)
 have cA := hid (fun W' (h : Below w.heap.size w W') => make_u D A cap q nm hnm W' (hD.keep h h.size))
 have cP := hid (fun X A1 c1 q1 md k (hX : First D nm X md k) W' => put_u D X A1 c1 q1 z md k nm hX W')
 obtain ⟨F, hF⟩ : ∃ F, fitsF D L = F := ⟨_, rfl⟩
 rw [hF] at cN hno
 have hF' : (F != 0) = true := by simpa using hno
 obtain ⟨n, hn⟩ : ∃ n, D.length = n := ⟨_, rfl⟩
 rw [hn] at hK0 cN cA ⊢
 clear hD hL hM hT hno hF hn hnm
 go_enter Tryz.func5, Tryz.ntmps5
 go_wp2_with (first
  | (go_at_call 6; refine (c4.out _ hK0.out.2).mono ?_; rintro e W1 ⟨rfl, hb1⟩; have HS1 := hid (hK0.out.on hb1); have b1 := HS1.out.1.cell; clear hb1)
  | (go_at_call 8; refine (cN.out _ HS1.out.2).mono ?_; rintro e W2 ⟨rfl, hb1⟩; have HS2 := hid (HS1.out.on hb1); have b2 := HS2.out.1.cell; clear hb1)
  | (go_at_call 13; refine (cA.out _ HS2.out.2).mono ?_; rintro e W3 ⟨⟨X, A1, c1, q1, md, k, rfl, hX, hfst⟩, hb1⟩; have HX3 := hid hX; have HFst := hid hfst; have HS3 := hid (HS2.out.on hb1); have b3 := HS3.out.1.cell; have HX4 := hid (hX.more (.cells #[.slice A1 X.length c1, .bool q1] 24)); clear hb1 hX hfst cA)
  | (go_at_call 13; refine (cP.out _ _ _ _ _ _ HFst.out _ HX4.out).mono ?_; rintro e W5 ⟨⟨Y, A2, c2, q2, m2, k2, rfl, hY, hsnd⟩, hb1⟩; have HS5 := hid ((HS3.out.alloc _).on hb1); clear hb1 hY hsnd cP))
 go_ret
 exact ⟨rfl, HS5.out.2.alloc HS5.out.2.size _⟩
end doc
end Go.Proofs.YthgffoanecknoaaGreatDoor
