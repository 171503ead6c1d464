/- Contracts and plain law, a bundle: SelLi SelM0. -/
import Derived.Test.YtaobpkffcolobaaGreatDoorBG3
import Derived.Test.YtaobpkffcolobaaGreatDoorBF3
import Derived.Test.YtaobpkffcolobaaGreatDoorBH1
import Derived.Test.YtaobpkffcolobaaGreatDoorBH2

namespace Go.Proofs.YtaobpkffcolobaaGreatDoor.sel
open Go.RowKit Go.Proofs.YtaobpkffcolobaaGreatDoor.base Go.Proofs.YtaobpkffcolobaaGreatDoor.tok Go.Proofs.YtaobpkffcolobaaGreatDoor.dim Go.Proofs.YtaobpkffcolobaaGreatDoor.rul
set_option linter.unusedVariables false

set_option maxRecDepth 100000 in
set_option maxHeartbeats 4000000 in
theorem listed_ct (w : World) (hE : SEnv w) : Calls Tryz.prog 8 #[] w fun e w' => e = .returned (.bool true) ∧ Below w.heap.size w w' := by
  have cR := sread_ok listedT 20 _ read_listed w hE
  have cR2 : Calls Tryz.prog 9 #[.string ⟨#[97, 32, 62, 32, 46, 98]⟩] w fun e w' => (∃ A cap, e = .returned (.tuple #[.slice A 1 cap, .int .i64 0]) ∧ PasV (fun c => w.heap.size ≤ c) w' [.mk [[ts 2 [97]], [ts 4 [98]]] [62]] A cap) ∧ Below w.heap.size w w' := cR
  replace cR2 := Lib.hid cR2
  clear cR hE
  go_enter Tryz.func8, Tryz.ntmps8
  go_wp2_with (go_at_call 9; (with_reducible refine cR2.out.mono ?_); rintro e W1 ⟨⟨A, cap, rfl, hv⟩, hb1⟩; obtain ⟨hcap, hv2⟩ := hv; obtain ⟨c, o, rfl, -, hcl, hpa⟩ := hv2 (by simp); obtain ⟨x0, x1, c0, c1, hp⟩ := pas_at hpa (i := 0) rfl; obtain ⟨A1, cap1, J1, jc1, rfl, rfl, -, -, -, hjs⟩ := pa_open hp; have hcv := fun W hW => str_of hjs (jc := jc1) W hW; have hcv2 := hcv W1 (Below.refl _ _); have hcap2 : 1 ≤ cap := hcap; (try simp only [Nat.zero_mul, Nat.add_zero] at c0); (try simp only [Nat.zero_mul, Nat.add_zero] at c1); (try simp only [List.length_cons, List.length_nil] at c0); (try simp only [List.length_cons, List.length_nil] at c1); (try simp only [List.length_cons, List.length_nil] at hcv2); have hjq : ((bs [62]).toList == [62]) = true := (by rw [bs_toList]; rfl); have HB1 := Lib.hid hb1; clear hb1 hpa hp hjs hcv hv2)
  go_ret
  exact ⟨rfl, HB1.out⟩

end Go.Proofs.YtaobpkffcolobaaGreatDoor.sel

namespace Go.Proofs.YtaobpkffcolobaaGreatDoor.sel
open Go.RowKit Go.Proofs.YtaobpkffcolobaaGreatDoor.base Go.Proofs.YtaobpkffcolobaaGreatDoor.tok Go.Proofs.YtaobpkffcolobaaGreatDoor.dim Go.Proofs.YtaobpkffcolobaaGreatDoor.rul
set_option linter.unusedVariables false

theorem rest_of (a : Int) (m : Nat) (hm : 0 < m) (hb : m ≤ 10000) : ∃ r : Nat, r < m ∧ (IntKind.u64.wrap a).tmod m = (r : Int) := by
  have h0 : 0 ≤ IntKind.u64.wrap a := by simp [IntKind.wrap, IntKind.bits, IntKind.signed]; omega
  generalize IntKind.u64.wrap a = v at *
  rw [Int.tmod_eq_emod_of_nonneg h0]
  have h1 := Int.emod_nonneg v (show (m : Int) ≠ 0 by omega)
  have h2 := Int.emod_lt_of_pos v (show (0 : Int) < m by omega)
  exact ⟨(v % m).toNat, by omega, by omega⟩
theorem small_nth (k a c : Int) (hk : 1 ≤ k ∧ k ≤ 11) (ha : I64 a) (hc : I64 c) : SmL [.mk [[nthTs k a c]] []] := by
  rw [SmL, SmP, SmSS, SmS, SmS, SmSS, SmL]
  exact ⟨⟨by simp, rfl, by simp, ⟨(smT_of hk (Nat.zero_le _) (Nat.zero_le _) ha hc).1, trivial⟩, trivial⟩, trivial⟩
theorem cnt_nth (k a c : Int) : cntL [.mk [[nthTs k a c]] []] = 1 := by
  rw [cntL, cntP, cntSS, cntS, cntS, cntSS, cntL, nthTs, cntT, cntL]
/-- the law's own path of one test -/
theorem own_nth (k a c : Int) (V : World) : PasV (fun _ => True) (((V.alloc (.cells #[.int .i64 k, .string ⟨#[]⟩, .int .u8 0, .string ⟨#[]⟩, .int .i64 a, .int .i64 c, .slice none 0 0] 26)).alloc (.cells #[.slice (some ⟨V.heap.size, 0, none⟩) 1 1] 27)).alloc (.cells #[.slice (some ⟨V.heap.size + 1, 0, none⟩) 1 1, .slice none 0 0] 36)) [.mk [[nthTs k a c]] []] (some ⟨V.heap.size + 2, 0, none⟩) 1 := by
  have b1 : Blk (((V.alloc (.cells #[.int .i64 k, .string ⟨#[]⟩, .int .u8 0, .string ⟨#[]⟩, .int .i64 a, .int .i64 c, .slice none 0 0] 26)).alloc (.cells #[.slice (some ⟨V.heap.size, 0, none⟩) 1 1] 27)).alloc (.cells #[.slice (some ⟨V.heap.size + 1, 0, none⟩) 1 1, .slice none 0 0] 36)) V.heap.size 26 #[.int .i64 k, .string ⟨#[]⟩, .int .u8 0, .string ⟨#[]⟩, .int .i64 a, .int .i64 c, .slice none 0 0] := ((Blk.new rfl).alloc _).alloc _
  have b2 : Blk (((V.alloc (.cells #[.int .i64 k, .string ⟨#[]⟩, .int .u8 0, .string ⟨#[]⟩, .int .i64 a, .int .i64 c, .slice none 0 0] 26)).alloc (.cells #[.slice (some ⟨V.heap.size, 0, none⟩) 1 1] 27)).alloc (.cells #[.slice (some ⟨V.heap.size + 1, 0, none⟩) 1 1, .slice none 0 0] 36)) (V.heap.size + 1) 27 #[.slice (some ⟨V.heap.size, 0, none⟩) 1 1] := Blk.alloc (Blk.new (by simp)) _
  have b3 : Blk (((V.alloc (.cells #[.int .i64 k, .string ⟨#[]⟩, .int .u8 0, .string ⟨#[]⟩, .int .i64 a, .int .i64 c, .slice none 0 0] 26)).alloc (.cells #[.slice (some ⟨V.heap.size, 0, none⟩) 1 1] 27)).alloc (.cells #[.slice (some ⟨V.heap.size + 1, 0, none⟩) 1 1, .slice none 0 0] 36)) (V.heap.size + 2) 36 #[.slice (some ⟨V.heap.size + 1, 0, none⟩) 1 1, .slice none 0 0] := Blk.new (by simp)
  refine ⟨Nat.le_refl _, fun _ => ⟨V.heap.size + 2, 0, rfl, trivial, b3.lt, ?_⟩⟩
  rw [PasAt, PasAt]
  refine ⟨⟨_, _, b3.cell 0, b3.cell 1, ?_⟩, trivial⟩
  rw [PaAt]
  refine ⟨some ⟨V.heap.size + 1, 0, none⟩, 1, .slice none 0 0, rfl, Nat.le_refl _, ⟨none, 0, rfl, Nat.le_refl _, fun h => absurd h (Nat.not_lt_zero _)⟩, fun _ => ⟨V.heap.size + 1, 0, rfl, trivial, b2.lt, ?_⟩⟩
  rw [SssAt, SssAt]
  refine ⟨⟨some ⟨V.heap.size, 0, none⟩, 1, b2.cell 0, Nat.le_refl _, fun _ => ⟨V.heap.size, 0, rfl, trivial, b1.lt, ?_⟩⟩, trivial⟩
  rw [SsAt, SsAt]
  refine ⟨⟨[.int .i64 k, .string ⟨#[]⟩, .int .u8 0, .string ⟨#[]⟩, .int .i64 a, .int .i64 c, .slice none 0 0], rfl, fun j hj => ?_, ?_⟩, trivial⟩
  · rw [Nat.zero_add, b1.cell j]
    simp
  · exact ts_leaf _ _ k [] 0 [] a c
theorem same_nth (k a c : Int) (hk : 1 ≤ k ∧ k ≤ 11) (ha : I64 a) (hc : I64 c) (A : Option Addr) (cap : Nat) (X : Nat → Prop) (V : World) (hv : PasV X V [.mk [[nthTs k a c]] []] A cap) :
    Calls Tryz.prog 10 #[.slice A 1 cap, .slice (some ⟨V.heap.size + 2, 0, none⟩) 1 1] (((V.alloc (.cells #[.int .i64 k, .string ⟨#[]⟩, .int .u8 0, .string ⟨#[]⟩, .int .i64 a, .int .i64 c, .slice none 0 0] 26)).alloc (.cells #[.slice (some ⟨V.heap.size, 0, none⟩) 1 1] 27)).alloc (.cells #[.slice (some ⟨V.heap.size + 1, 0, none⟩) 1 1, .slice none 0 0] 36)) fun e w' => e = .returned (.bool true) ∧ Below (((V.alloc (.cells #[.int .i64 k, .string ⟨#[]⟩, .int .u8 0, .string ⟨#[]⟩, .int .i64 a, .int .i64 c, .slice none 0 0] 26)).alloc (.cells #[.slice (some ⟨V.heap.size, 0, none⟩) 1 1] 27)).alloc (.cells #[.slice (some ⟨V.heap.size + 1, 0, none⟩) 1 1, .slice none 0 0] 36)).heap.size (((V.alloc (.cells #[.int .i64 k, .string ⟨#[]⟩, .int .u8 0, .string ⟨#[]⟩, .int .i64 a, .int .i64 c, .slice none 0 0] 26)).alloc (.cells #[.slice (some ⟨V.heap.size, 0, none⟩) 1 1] 27)).alloc (.cells #[.slice (some ⟨V.heap.size + 1, 0, none⟩) 1 1, .slice none 0 0] 36)) w' :=
  same_all 40 (by omega) [.mk [[nthTs k a c]] []] (by rw [cnt_nth]; omega) (small_nth k a c hk ha hc) A _ cap 1 X _ _
    (hv.on ((((Below.refl V.heap.size V).alloc (Nat.le_refl _) _).alloc (by rw [World.size_alloc]; omega) _).alloc (by rw [World.size_alloc, World.size_alloc]; omega) _)) (own_nth k a c V)
/-- a number without a unit, told -/
theorem num_text (b : Int) (h0 : -1000 ≤ b) (h1 : b ≤ 1000) (w : World) (hT : PowAt w) :
    Calls Tryz.prog 11 #[.agg #[.int .i64 (1000 * b), .string ⟨#[]⟩]] w fun e w' => e = .returned (.string (bs (numB b))) ∧ Below w.heap.size w w' := by
  unfold numB
  by_cases hb : b < 0
  · have h := text_minus (1000 * b.natAbs) (by omega) (by omega) [] (by decide) w hT
    rw [show (-((1000 * b.natAbs : Nat) : Int)) = 1000 * b by omega, List.append_nil] at h
    rw [if_pos hb]
    exact h
  · have h := text_plain (1000 * b.natAbs) (by omega) [] (by decide) w hT
    rw [show ((1000 * b.natAbs : Nat) : Int) = 1000 * b by omega, List.append_nil] at h
    rw [if_neg hb, List.nil_append]
    exact h
theorem form_len (b : Int) (h0 : -1000 ≤ b) (h1 : b ≤ 1000) : (formB b).length ≤ 400 := (read_open (read_b h0 h1)).1


end Go.Proofs.YtaobpkffcolobaaGreatDoor.sel
