/- Contracts: moved. -/
import Derived.Test.YtchmpdibbklpfaaAnim10
import Derived.Test.YtchmpdibbklpfaaBase2
import Derived.Deep.AppendLies
namespace Go.Proofs.Ytchmpdibbklpfaa.anim
open Go.RowKit Go.Proofs.Ytchmpdibbklpfaa.base
set_option linter.unusedVariables false

def AnimD.shift (d : AnimD) (by' : Int) : AnimD := { d with from_ := d.from_ + by' }
theorem infoA : (Try.prog.info? 50).map (fun i => (i.zero, i.size, i.bytes)) = some (some (.agg #[.int .i64 0, .int .i64 0, .int .i64 0, .bool false, .bool false, .int .i64 0, .int .i64 0, .int .i64 0, .int .i64 0, .int .i64 0, .int .i64 0, .slice none 0 0]), 12, 104) := by kernel_rfl

/-- the cells of changes, one behind the other -/
def flat (L : List AnimD) : List Value := L.flatMap fun d => d.cells.toList
theorem flat_snoc (L : List AnimD) (d : AnimD) : flat (L ++ [d]) = flat L ++ d.cells.toList := by simp [flat]

set_option maxRecDepth 100000 in
set_option maxHeartbeats 4000000 in
theorem moved_row (A : Option Addr) (n cap : Nat) (L : List AnimD) (m : Int) (w : World) (hn : n ≤ 10) (hL : LRd w w.heap.size A n L) (hf : ∀ d ∈ L, 0 ≤ d.from_ ∧ d.from_ ≤ 100000000) (m0 : 0 ≤ m) (m1 : m < 100000) :
    Calls Try.prog 19 #[.slice A n cap, .int .i64 m] w fun e w' => (∃ v, e = .returned v ∧ w'.ownsRow w.heap.size 50 12 v n (flat (L.map (·.shift m)))) ∧ Below w.heap.size w w' := by
  obtain ⟨i0, hi, hz0, hz1, hz2⟩ := info_parts infoA
  have HL := Lib.hid hL
  have hlen := Lib.hid hL.1
  have HF := Lib.hid hf
  have Hz0 := Lib.hid hz0
  have Hi := Lib.hid hi
  have Hz1 := Lib.hid hz1
  have Hz2 := Lib.hid hz2
  clear hL hf hz0 hi hz1 hz2
  go_enter Try.func19, Try.ntmps19
  go_wp2_with fail
  go_loopw [5, 6] (fun v i wr => ∃ k : Nat, k ≤ n ∧ i = .int .i64 k ∧ Below w.heap.size w wr ∧ wr.ownsRow w.heap.size 50 12 v k (flat ((L.map (·.shift m)).take k))) (fun _ i _ => n - (intOf i).toNat)
  case atStart => exact ⟨0, by omega, rfl, Below.refl _ _, World.ownsRow_nil _ _ _ _⟩
  case round =>
    obtain ⟨k, hk, rfl, hbel, hown⟩ := hrel
    replace hown := Lib.hid hown
    by_cases hlt : k < n
    · obtain ⟨b, off, d, rfl, hb, hd, hrd, e0, e1, e2, e3, e4, e5, e6, e7, e8, e9, e10, e11⟩ := (HL.out.keep hbel hbel.size).at_ hlt
      obtain ⟨f0, f1⟩ := HF.out d (List.mem_of_getElem? hd)
      replace hd := Lib.hid hd
      replace hrd := Lib.hid hrd
      have HBel := Lib.hid hbel
      clear hbel
      have i1 : (k : Int) < (n : Int) := by omega
      go_wp2_with (at_builtin; refine wpList_append_own _ rfl _ _ 43 rfl w.heap.size 50 i0 _ 12 104 Try.underlying43 Hi.out Hz0.out Hz1.out Hz2.out rfl (by decide) _ k _ rfl ((hown.out.alloc _).alloc _) ⟨wr.heap.size + 1, 0, none⟩ 1 1 (d.shift m).cells.toList rfl rfl ?c1 ?c2 ?c3 ?c4 ?c5 ?_)
      case c1 => exact fun j u h => h
      case c2 => simp [Value.oneCell']
      case c3 => unfold maxLen; omega
      case c4 => omega
      case c5 => simp; have := HBel.out.size; omega
      intro v' w1 hown1 hgrow hnil
      have hb1 := Lib.hid (below_grown ((HBel.out.alloc HBel.out.size _).alloc (by simp; have := HBel.out.size; omega) _) hgrow ((hown.out.alloc _).alloc _) (Nat.le_refl _) (by simp; have := HBel.out.size; omega))
      replace hown1 := Lib.hid hown1
      clear hgrow hnil e0 e1 e2 e3 e4 e5 e6 e7 e8 e9 e10 e11
      go_wp2
      go_roundw
      case rel =>
        refine ⟨k + 1, by omega, by go_num, hb1.out, ?_⟩
        obtain ⟨hkl, hde⟩ := List.getElem?_eq_some_iff.1 hd.out
        have e : flat ((L.map (·.shift m)).take (k + 1)) = flat ((L.map (·.shift m)).take k) ++ (d.shift m).cells.toList := by
          rw [List.take_succ_eq_append_getElem (by simpa using hkl)]
          simp [flat, hde]
        rw [e]
        exact hown1.out
      case measure => simp [intOf]; omega
    · obtain rfl : k = n := by omega
      have ht : (L.map (·.shift m)).take k = L.map (·.shift m) := List.take_of_length_le (by simp [hlen.out])
      rw [ht] at hown
      clear ht
      have HBel := Lib.hid hbel
      clear hbel
      go_wp2
      go_ret
      exact ⟨⟨_, rfl, hown.out⟩, HBel.out⟩

end Go.Proofs.Ytchmpdibbklpfaa.anim
