/- Contracts and plain law, a bundle. -/
import Derived.Lib.Hide
import Derived.Test.YtaobpkffcolobaaGreatDoorBD
import Derived.Test.YtaobpkffcolobaaGreatDoorBC
import Derived.Test.YtaobpkffcolobaaGreatDoorBH
import Derived.Test.YtaobpkffcolobaaGreatDoorBM6
import Derived.Test.YtaobpkffcolobaaGreatDoorBF3
set_option linter.unusedVariables false
set_option maxRecDepth 100000
set_option maxHeartbeats 16000000
open Go.Lib (hid)
namespace Go.Proofs.YtaobpkffcolobaaGreatDoor
namespace sel
open Go.RowKit base tok dim rul
def listedT : Bs := [97, 32, 62, 32, 46, 98]
theorem read_listed : readS 20 listedT = some [.mk [[ts 2 [97]], [ts 4 [98]]] [62]] := by
 unfold readS
 rw [if_neg (by decide), cut_is (l := listedT) rfl]
 rfl
end sel
namespace sel
open Go.RowKit base tok dim rul
theorem listed_ct (w : World) (hE : SEnv w) : Calls Tryz.prog 8 #[] w (rt w (.bool true)) := by
 have cR := sread_ok listedT 20 _ read_listed w hE
 have cR2 : Calls Tryz.prog 9 #[.string ⟨#[97, 32, 62, 32, 46, 98]⟩] w fun e w' => (∃ A cap, e = .returned (.tuple #[.slice A 1 cap, .int .i64 0]) /\ PasV (fun c => w.heap.size <= c) w' [.mk [[ts 2 [97]], [ts 4 [98]]] [62]] A cap) /\ Below w.heap.size w w' := cR
 replace cR2 := hid cR2
 clear cR hE
 go_enter Tryz.func8, Tryz.ntmps8
 go_wp2_with (go_at_call 9; (with_reducible refine cR2.out.mono ?_); rintro e W1 ⟨⟨A, cap, rfl, hv⟩, hb1⟩; obtain ⟨hcap, hv2⟩ := hv; obtain ⟨c, o, rfl, -, hcl, hpa⟩ := hv2 (by simp); obtain ⟨x0, x1, c0, c1, hp⟩ := pas_at hpa (i := 0) rfl; obtain ⟨A1, cap1, J1, jc1, rfl, rfl, -, -, -, hjs⟩ := pa_open hp; have hcv := fun W hW => str_of hjs (jc := jc1) W hW; have hcv2 := hcv W1 (Below.refl _ _); have hcap2 : 1 <= cap := hcap; (try simp only [Nat.zero_mul, Nat.add_zero] at c0); (try simp only [Nat.zero_mul, Nat.add_zero] at c1); (try simp only [List.length_cons, List.length_nil] at c0); (try simp only [List.length_cons, List.length_nil] at c1); (try simp only [List.length_cons, List.length_nil] at hcv2); have hjq : ((bs [62]).toList == [62]) = true := (by rw [bs_toList]; rfl); have HB1 := hid hb1; clear hb1 hpa hp hjs hcv hv2)
 go_ret
 exact ⟨rfl, HB1.out⟩
end sel
end Go.Proofs.YtaobpkffcolobaaGreatDoor
