/- Contracts and plain law, a bundle. -/
import Derived.Shelf.SlicesE.Reverse
import Derived.Test.YthgffoanecknoaaGreatDoorProg
/- The shelf's contracts of library functions, laid at this translation, in plain declarations. -/
namespace Go.Proofs
open Go.Shelf
def Tryz.rev_ren : Go.Shelf.Ren := ⟨fun | 35 => 77 | n => n, fun | 22 => 114 | 23 => 5 | 3 => 3 | 4 => 4 | 0 => 0 | n => n, fun | n => n⟩
theorem Tryz.rev : Go.Proofs.SlLaysE.n35 Tryz.prog Tryz.rev_ren := {
  mixed := by kernel_rfl
  f35 := ⟨Tryz.f77.name, by decide, Tryz.func77.trans (congrArg some (by kernel_rfl))⟩
  t0 := Tryz.underlying0
  a0 := Tryz.isAgg0
  z0 := Tryz.sizeOf0
  v0 := Tryz.zeroValue0
  t3 := Tryz.underlying3
  a3 := Tryz.isAgg3
  z3 := Tryz.sizeOf3
  v3 := Tryz.zeroValue3
  t4 := Tryz.underlying4
  a4 := Tryz.isAgg4
  z4 := Tryz.sizeOf4
  v4 := Tryz.zeroValue4
  t22 := Tryz.underlying114
  a22 := Tryz.isAgg114
  z22 := Tryz.sizeOf114
  v22 := Tryz.zeroValue114
  a23 := Tryz.isAgg5
  z23 := Tryz.sizeOf5 }
theorem Tryz.slices_Reverse_bytes {α : Type} [Inhabited α] (enc : α → Value) (h1 : OneCell enc) (blk off cap : Nat) (zs : List α) (w : World) (hH : Go.Sort.Holds enc w blk off zs.toArray) (hsz : zs.length ≤ 9223372036854775807) :
    Calls Tryz.prog 77 #[.slice (some ⟨blk, off, none⟩) zs.length cap] w fun e w' => e = .returned (.tuple #[]) ∧ ∃ n, w' = Go.Sort.putRow enc (Go.Sort.ahead w n) blk off zs.reverse.toArray := AnyE.slices_Reverse Tryz.rev enc h1 blk off cap zs w hH hsz
end Go.Proofs

