/- Contracts and plain law, a bundle. -/
import Derived.Lib.Hide
import Derived.Test.YtlfkkaofgcongaaGreatDoorCD
import Derived.Test.YtlfkkaofgcongaaGreatDoorCE
import Derived.Test.YtlfkkaofgcongaaGreatDoorE0
import Derived.Test.YtlfkkaofgcongaaGreatDoorCC2
import Derived.Test.YtlfkkaofgcongaaGreatDoorD0
import Derived.Test.YtlfkkaofgcongaaGreatDoorE3
import Derived.Test.YtlfkkaofgcongaaGreatDoorEC
set_option linter.unusedVariables false
set_option maxRecDepth 100000
set_option maxHeartbeats 16000000
open Go.Lib (hid)
namespace Go.Proofs.YtlfkkaofgcongaaGreatDoor
namespace prp
open Go.RowKit base tok dim
set_option linter.unusedSimpArgs false
theorem pcs_few : ∀ p : Fin 59, (pcsB (rowP p.val).keys).length <= 12 := by decide +kernel
def noDig (l : Bs) : Bool := l.all fun c => !(decide (48 <= c.toNat) && decide (c.toNat <= 57))
end prp
namespace prp
open Go.RowKit base tok dim
set_option linter.unusedSimpArgs false
theorem noDig_mem {l : Bs} {c : UInt8} (h : c ∈ l) (h1 : 48 <= c.toNat) (h2 : c.toNat <= 57) : noDig l = false := by
 unfold noDig
 rw [List.all_eq_false]
 exact ⟨c, h, by simp [h1, h2]⟩
theorem num_dig (n : Int) (u : Bs) : noDig (clb.numT n u) = false := by
 unfold clb.numT plainP
 obtain ⟨c, hc⟩ := List.exists_mem_of_ne_nil _ (dec_ne (n.natAbs / 1000))
 have hd := dec_digs _ c hc
 have hb : 48 <= c.toNat /\ c.toNat <= 57 := by
  unfold digI nv at hd
  simp only [Bool.and_eq_true, decide_eq_true_eq] at hd
  omega
 exact noDig_mem (c := c) (by simp [hc]) hb.1 hb.2
end prp
namespace prp
open Go.RowKit base tok dim
set_option linter.unusedSimpArgs false
theorem one_ct (p : Nat) (hp : p < 59) (c : UInt8) (w : World) : Calls Tryz.prog 33 #[.string (bs (rowP p).kinds), .string ⟨#[c]⟩] w fun e w' => e = .returned (.bool (decide (0 <= Lib.indexByte (rowP p).kinds c))) /\ w' = w :=
 Tryz.strings_Contains_one (bs (rowP p).kinds) c w
theorem row_ct (p : Nat) (hp : p < 59) (w : World) : Calls Tryz.prog 25 #[.int .i64 p] w (rt w (.agg #[.string (bs (rowP p).name), .string (bs (rowP p).kinds), .string (bs (rowP p).keys), .string (bs (rowP p).auto), .bool (rowP p).above])) := at_ct p hp w
theorem tenv (p : Nat) (hp : p < 59) : TEnv p (rowP p).name (rowP p).kinds (rowP p).keys (rowP p).auto (rowP p).above (decide (0 <= Lib.indexByte (rowP p).kinds 108)) (decide (0 <= Lib.indexByte (rowP p).kinds 110)) :=
 ⟨fun w => row_ct p hp w, fun w => one_ct p hp 108 w, fun w => one_ct p hp 110 w⟩
theorem low_ct (s : Bs) (hs : s.length <= 1000) (w : World) : Calls Tryz.prog 32 #[.string (bs s)] w (rt w (.string (bs (s.map lowB)))) :=
 lower_ct (bs s) (by rw [bs_size]; omega) w
theorem word_off (p : Nat) (hp : p < 59) (s : Bs) (h : (wordP p s).2.2 = false) (w : World) (hm : MaxL w) : Calls Tryz.prog 31 #[.int .i64 p, .string (bs s)] w (rt w (.tuple #[.agg #[.int .i64 (wordP p s).1, .int .i64 (wordP p s).2.1], .bool false])) := by
 have c := word_ct p hp s w hm
 rw [h] at c
 exact c
theorem fit_at (p : Nat) (hp : p < 59) (k n : Int) (hn : -9223372036854775808 <= n /\ n <= 9223372036854775807) (hf : fitsP p k n = true) (w : World) (hm : MaxL w) : Calls Tryz.prog 15 #[.int .i64 p, .agg #[.int .i64 k, .int .i64 n]] w (rt w (.bool true)) := by
 have c := fits_ct p hp k n hn w hm
 rw [hf] at c
 exact c
end prp
end Go.Proofs.YtlfkkaofgcongaaGreatDoor
