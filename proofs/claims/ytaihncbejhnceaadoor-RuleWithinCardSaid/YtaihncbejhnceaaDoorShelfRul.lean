/- The shelf's contracts of library functions, laid at this translation, in plain declarations. -/
import Derived.Shelf.SlicesQ.IndexFunc
import Derived.Test.YtaihncbejhnceaaDoorProg
namespace Go.Proofs
open Go.Shelf
def Tryd.cft_ren : Go.Shelf.Ren := ⟨fun | 8 => 105 | 6 => 155 | n => n, fun | 22 => 67 | 23 => 104 | 25 => 106 | 4 => 4 | 3 => 3 | 0 => 0 | n => n, fun | n => n⟩
theorem Tryd.cft : Go.Proofs.SlLaysH0.n8 Tryd.prog Tryd.cft_ren := {
  mixed := by kernel_rfl
  f6 := ⟨Tryd.f155.name, by decide, Tryd.func155.trans (congrArg some (by kernel_rfl))⟩
  f8 := ⟨Tryd.f105.name, by decide, Tryd.func105.trans (congrArg some (by kernel_rfl))⟩
  t0 := Tryd.underlying0
  a0 := Tryd.isAgg0
  z0 := Tryd.sizeOf0
  v0 := Tryd.zeroValue0
  t3 := Tryd.underlying3
  a3 := Tryd.isAgg3
  z3 := Tryd.sizeOf3
  v3 := Tryd.zeroValue3
  t4 := Tryd.underlying4
  a4 := Tryd.isAgg4
  z4 := Tryd.sizeOf4
  v4 := Tryd.zeroValue4
  t22 := Tryd.underlying67
  a22 := Tryd.isAgg67
  z22 := Tryd.sizeOf67
  v22 := Tryd.zeroValue67
  t25 := Tryd.underlying106
  a25 := Tryd.isAgg106
  z25 := Tryd.sizeOf106
  v25 := Tryd.zeroValue106 }
theorem Tryd.slices_ContainsFunc_tok {α : Type} [Inhabited α] (enc : α → List Value) (hk : ∀ x, (enc x).length = 4)
    (p : α → Bool) (g : Nat) (lb : Array Value) (eg : ∀ args w, (callFunc g args).run Tryd.prog w = .ok (.enter g args) w) (b off n c : Nat) (zs : List α) (w : World)
    (hp : PredBelow Tryd.prog g lb (fun x => .agg (enc x).toArray) p w) (hz : n ≤ zs.length) (hbig : n ≤ 9223372036854775807) (hb : b < w.heap.size)
    (hc : ∀ j, j < zs.length → ∀ i v, (enc zs[j]!)[i]? = some v → w.cell? ⟨b, off + j * 4 + i, none⟩ = some v) :
    Calls Tryd.prog 105 #[.slice (some ⟨b, off, none⟩) n c, .func (.func g) #[] lb] w fun e w' => e = .returned (.bool ((zs.take n).any p)) ∧ Go.RowKit.Below w.heap.size w w' := AnyQ.slices_ContainsFunc Tryd.cft 4 Tryd.isAgg104 Tryd.sizeOf104 enc hk p g lb eg b off n c zs w hp hz hbig hb hc
end Go.Proofs
