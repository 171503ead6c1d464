/- The shelf's contracts of library functions, laid at this translation, in plain declarations. -/
import Derived.Shelf.SlicesE.Reverse
import Derived.Test.YtaihncbejhnceaaDoorProg
namespace Go.Proofs
open Go.Shelf
def Tryd.rev_ren : Go.Shelf.Ren := ⟨fun | 35 => 122 | n => n, fun | 22 => 62 | 23 => 5 | 3 => 3 | 4 => 4 | 0 => 0 | n => n, fun | n => n⟩
theorem Tryd.rev : Go.Proofs.SlLaysE.n35 Tryd.prog Tryd.rev_ren := {
  mixed := by kernel_rfl
  f35 := ⟨Tryd.f122.name, by decide, Tryd.func122.trans (congrArg some (by kernel_rfl))⟩
  t0 := Tryd.underlying0
  a0 := Tryd.isAgg0
  z0 := Tryd.sizeOf0
  v0 := Tryd.zeroValue0
  t3 := Tryd.underlying3
  a3 := Tryd.isAgg3
  z3 := Tryd.sizeOf3
  v3 := Tryd.zeroValue3
  t4 := Tryd.underlying4
  a4 := Tryd.isAgg4
  z4 := Tryd.sizeOf4
  v4 := Tryd.zeroValue4
  t22 := Tryd.underlying62
  a22 := Tryd.isAgg62
  z22 := Tryd.sizeOf62
  v22 := Tryd.zeroValue62
  a23 := Tryd.isAgg5
  z23 := Tryd.sizeOf5 }
theorem Tryd.slices_Reverse_bytes {α : Type} [Inhabited α] (enc : α → Value) (h1 : OneCell enc) (blk off cap : Nat) (zs : List α) (w : World) (hH : Go.Sort.Holds enc w blk off zs.toArray) (hsz : zs.length ≤ 9223372036854775807) :
    Calls Tryd.prog 122 #[.slice (some ⟨blk, off, none⟩) zs.length cap] w fun e w' => e = .returned (.tuple #[]) ∧ ∃ n, w' = Go.Sort.putRow enc (Go.Sort.ahead w n) blk off zs.reverse.toArray := AnyE.slices_Reverse Tryd.rev enc h1 blk off cap zs w hH hsz
end Go.Proofs
