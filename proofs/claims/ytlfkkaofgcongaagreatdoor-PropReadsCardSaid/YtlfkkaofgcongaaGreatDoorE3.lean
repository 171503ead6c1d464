/- Contracts and plain law, a bundle. -/
import Derived.Lib.Hide
import Derived.Test.YtlfkkaofgcongaaGreatDoorE1
set_option linter.unusedVariables false
set_option maxRecDepth 100000
set_option maxHeartbeats 16000000
open Go.Lib (hid)
namespace Go.Proofs.YtlfkkaofgcongaaGreatDoor
namespace cal
open Go.RowKit base tok dim
theorem G_beg {h g : Nat} {w : World} : (∀ o, w.drew.cell? ⟨g, o, none⟩ = w.cell? ⟨g, o, none⟩) /\ Below h w w.drew := ⟨fun _ => rfl, (Below.refl _ _).drew⟩
theorem G_on {h g : Nat} {W0 w w' : World} (k : Below w.heap.size w w') (hS : (∀ o, w.cell? ⟨g, o, none⟩ = W0.cell? ⟨g, o, none⟩) /\ Below h W0 w) (hg : g < W0.heap.size) (hh : h <= W0.heap.size) : (∀ o, w'.cell? ⟨g, o, none⟩ = W0.cell? ⟨g, o, none⟩) /\ Below h W0 w' :=
 ⟨fun o => (k.cell (p := ⟨g, o, none⟩) (Nat.lt_of_lt_of_le hg hS.2.size)).trans (hS.1 o), hS.2.trans (k.mono (Nat.le_trans hh hS.2.size))⟩
theorem G_store {h g : Nat} {W0 w : World} {p : Addr} {v : Value} (hS : (∀ o, w.cell? ⟨g, o, none⟩ = W0.cell? ⟨g, o, none⟩) /\ Below h W0 w) (hp : h <= p.block) (hne : p.block ≠ g) : (∀ o, (w.setCell p v).cell? ⟨g, o, none⟩ = W0.cell? ⟨g, o, none⟩) /\ Below h W0 (w.setCell p v) :=
 ⟨fun o => (World.cell?_setCell_other w p ⟨g, o, none⟩ v (by intro e; subst e; exact hne rfl)).trans (hS.1 o), hS.2.setCell hp v⟩
end cal
namespace cal
open Go.RowKit base tok dim
def Knows (w : World) (sc : Sc) (t : Tm) (c : Nat) (r : Option (Int × Int)) : Prop :=
 (∀ W, Below w.heap.size w W -> Calls Tryz.prog 37 #[t.v] W fun e W' => e = .returned (.tuple #[.int .i64 c, .bool true]) /\ Below W.heap.size W W') /\
 (∀ W, Below w.heap.size w W -> Calls Tryz.prog 38 #[t.v, .agg #[.int .i64 sc.em, .int .i64 sc.rem, .int .i64 sc.vw, .int .i64 sc.vh]] W fun e W' => e = .returned (resV r) /\ Below W.heap.size W W') /\
 (∀ p, r = some p -> -16777216 <= p.2 /\ p.2 <= 16777216)
theorem Knows.on {w w' : World} {sc : Sc} {t : Tm} {c : Nat} {r : Option (Int × Int)} (h : Knows w sc t c r) (hb : Below w.heap.size w w') : Knows w' sc t c r :=
 ⟨fun W hW => h.1 W (hb.trans (hW.mono hb.size)), fun W hW => h.2.1 W (hb.trans (hW.mono hb.size)), h.2.2⟩
end cal
end Go.Proofs.YtlfkkaofgcongaaGreatDoor
