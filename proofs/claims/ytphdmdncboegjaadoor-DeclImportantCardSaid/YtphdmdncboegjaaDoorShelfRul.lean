/- The shelf's contracts of library functions, laid at this translation, in plain declarations. -/
import Derived.Shelf.SlicesQ.IndexFunc
import Derived.Test.YtphdmdncboegjaaDoorProg
namespace Go.Proofs
open Go.Shelf
def Tryd.cft_ren : Go.Shelf.Ren := ⟨fun | 8 => 118 | 6 => 144 | n => n, fun | 22 => 23 | 23 => 28 | 25 => 81 | 4 => 4 | 3 => 3 | 0 => 0 | n => n, fun | n => n⟩
theorem Tryd.cft : Go.Proofs.SlLaysH0.n8 Tryd.prog Tryd.cft_ren := {
  mixed := by kernel_rfl
  f6 := ⟨Tryd.f144.name, by decide, Tryd.func144.trans (congrArg some (by kernel_rfl))⟩
  f8 := ⟨Tryd.f118.name, by decide, Tryd.func118.trans (congrArg some (by kernel_rfl))⟩
  t0 := Tryd.underlying0
  a0 := Tryd.isAgg0
  z0 := Tryd.sizeOf0
  v0 := Tryd.zeroValue0
  t3 := Tryd.underlying3
  a3 := Tryd.isAgg3
  z3 := Tryd.sizeOf3
  v3 := Tryd.zeroValue3
  t4 := Tryd.underlying4
  a4 := Tryd.isAgg4
  z4 := Tryd.sizeOf4
  v4 := Tryd.zeroValue4
  t22 := Tryd.underlying23
  a22 := Tryd.isAgg23
  z22 := Tryd.sizeOf23
  v22 := Tryd.zeroValue23
  t25 := Tryd.underlying81
  a25 := Tryd.isAgg81
  z25 := Tryd.sizeOf81
  v25 := Tryd.zeroValue81 }
theorem Tryd.slices_ContainsFunc_tok {α : Type} [Inhabited α] (enc : α → List Value) (hk : ∀ x, (enc x).length = 4)
    (p : α → Bool) (g : Nat) (lb : Array Value) (eg : ∀ args w, (callFunc g args).run Tryd.prog w = .ok (.enter g args) w) (b off n c : Nat) (zs : List α) (w : World)
    (hp : PredBelow Tryd.prog g lb (fun x => .agg (enc x).toArray) p w) (hz : n ≤ zs.length) (hbig : n ≤ 9223372036854775807) (hb : b < w.heap.size)
    (hc : ∀ j, j < zs.length → ∀ i v, (enc zs[j]!)[i]? = some v → w.cell? ⟨b, off + j * 4 + i, none⟩ = some v) :
    Calls Tryd.prog 118 #[.slice (some ⟨b, off, none⟩) n c, .func (.func g) #[] lb] w fun e w' => e = .returned (.bool ((zs.take n).any p)) ∧ Go.RowKit.Below w.heap.size w w' := AnyQ.slices_ContainsFunc Tryd.cft 4 Tryd.isAgg28 Tryd.sizeOf28 enc hk p g lb eg b off n c zs w hp hz hbig hb hc
end Go.Proofs
