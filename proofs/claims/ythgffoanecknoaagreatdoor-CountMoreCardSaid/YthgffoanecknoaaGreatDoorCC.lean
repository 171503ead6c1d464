/- Contracts and plain law, a bundle. -/
import Derived.Lib.Hide
import Derived.Test.YthgffoanecknoaaGreatDoorC8
set_option linter.unusedVariables false
set_option maxRecDepth 100000
set_option maxHeartbeats 16000000
open Go.Lib (hid)
namespace Go.Proofs.YthgffoanecknoaaGreatDoor
namespace prp
open Go.RowKit base tok
set_option linter.unusedSimpArgs false
theorem letter_any (k : Int) (w : World) : Calls Tryz.prog 40 #[.int .i64 k] w fun e w' => e = .returned (.string (bs (letterP k))) /\ Below w.heap.size w w' := by
 by_cases h1 : 1 <= k
 ·by_cases h2 : k <= 6
  ·exact letter_ct k h1 h2 w
  ·have g : letterP k = [63] := by unfold letterP; repeat rw [if_neg (by omega)]
   rw [g]
   have q1 : ¬ k < 1 := by omega
   have q2 : 6 < k := by omega
   go_enter Tryz.func40, Tryz.ntmps40
   go_wp2
   exact bodyPost_ret (v := .string (bs [63])) (by simp [results, Tryz.results40, go_sem]; rfl) rfl ⟨rfl, Below.refl _ _⟩
 ·have g : letterP k = [63] := by unfold letterP; repeat rw [if_neg (by omega)]
  rw [g]
  have q1 : k < 1 := by omega
  go_enter Tryz.func40, Tryz.ntmps40
  go_wp2
  exact bodyPost_ret (v := .string (bs [63])) (by simp [results, Tryz.results40, go_sem]; rfl) rfl ⟨rfl, Below.refl _ _⟩
def pcsB (s : Bs) : List ByteArray := Lib.splitB ⟨#[32]⟩ 0 (Lib.countB (bs s) ⟨#[32]⟩) (bs s)
def keyV (s : Bs) (n : Int) : ByteArray := if n < 0 then ⟨#[]⟩ else if (pcsB s).getD n.toNat ⟨#[]⟩ = ⟨#[45]⟩ then ⟨#[]⟩ else (pcsB s).getD n.toNat ⟨#[]⟩
theorem split_ct (s : Bs) (hs : s.length < 4294967281) (w : World) (hm : MaxL w) : Calls Tryz.prog 63 #[.string (bs s), .string ⟨#[32]⟩] w fun e w' => e = .returned (.slice (some ⟨w.heap.size, 0, none⟩) (pcsB s).length (pcsB s).length) /\ w' = w.alloc (.cells ((pcsB s).map Value.string).toArray 9) := by
 obtain ⟨m, hm⟩ := hm
 have h := Tryz.strings_Split (bs s) ⟨#[32]⟩ m w (by rw [bs_size]; exact hs) hm (by decide)
 have hl : (pcsB s).length = Lib.countB (bs s) ⟨#[32]⟩ + 1 := Lib.splitB_all _ (by decide) 0 _ _ rfl
 rw [hl]
 exact h
theorem bs_back (a : ByteArray) : bs a.toList = a := by
 obtain ⟨⟨l⟩⟩ := a
 rw [ByteArray.toList_mk]
 rfl
theorem key_ct (a b d : ByteArray) (s : Bs) (e : Bool) (n : Int) (hs : s.length < 4294967281) (w : World) (hm : MaxL w) : Calls Tryz.prog 41 #[.agg #[.string a, .string b, .string (bs s), .string d, .bool e], .int .i64 n] w fun r w' => r = .returned (.string (keyV s n)) /\ Below w.heap.size w w' := by
 obtain ⟨W1, hW1⟩ : ∃ W1, w.alloc (.cells #[.string a, .string b, .string (bs s), .string d, .bool e] 73) = W1 := ⟨_, rfl⟩
 have Q1 := hid (show Blk W1 w.heap.size 73 #[.string a, .string b, .string (bs s), .string d, .bool e] by rw [<- hW1]; exact Blk.new rfl)
 have HB1 := hid (show Below w.heap.size w W1 by rw [<- hW1]; exact ba _ _)
 have hz1 := HB1.out.size
 have k2 : W1.cell? ⟨w.heap.size, 2, none⟩ = some (.string (bs s)) := Q1.out.cell 2
 have cS := hid (split_ct s hs W1 (hm.on HB1.out hm.lt))
 have HB2 := hid (HB1.out.alloc hz1 (.cells ((pcsB s).map Value.string).toArray 9))
 have hc2 : ∀ k : Nat, (W1.alloc (.cells ((pcsB s).map Value.string).toArray 9)).cell? ⟨W1.heap.size, k, none⟩ = ((pcsB s).map Value.string).toArray[k]? := fun k => (Blk.new rfl).cell k
 have hk : keyV s n = if n < 0 then ⟨#[]⟩ else if (pcsB s).getD n.toNat ⟨#[]⟩ = ⟨#[45]⟩ then ⟨#[]⟩ else (pcsB s).getD n.toNat ⟨#[]⟩ := rfl
 generalize keyV s n = R at *
 generalize pcsB s = L at *
 by_cases h0 : n < 0
 ·rw [if_pos h0] at hk
  subst hk
  go_enter Tryz.func41, Tryz.ntmps41
  go_wp2_with (first
   | (go_at_call 63; (with_reducible refine cS.out.mono ?_); rintro e W2 ⟨rfl, rfl⟩))
  go_ret
  exact ⟨rfl, HB2.out⟩
 ·rw [if_neg h0] at hk
  obtain ⟨k, rfl⟩ : ∃ k : Nat, n = k := ⟨n.toNat, by omega⟩
  rw [Int.toNat_natCast] at hk
  by_cases h1 : (L.length : Int) <= (k : Int)
  ·rw [List.getD_eq_getElem?_getD, List.getElem?_eq_none (by omega)] at hk
   rw [if_neg (by decide)] at hk
   subst hk
   go_enter Tryz.func41, Tryz.ntmps41
   go_wp2_with (first
    | (go_at_call 63; (with_reducible refine cS.out.mono ?_); rintro e W2 ⟨rfl, rfl⟩))
   go_ret
   exact ⟨rfl, HB2.out⟩
  ·have hlt : k < L.length := by omega
   have hg : L[k]? = some L[k] := List.getElem?_eq_getElem hlt
   rw [List.getD_eq_getElem?_getD, hg, Option.getD_some] at hk
   generalize L[k] = t at *
   have h2 := hc2 k
   have h3 : ((L.map Value.string).toArray)[k]? = some (.string t) := by rw [List.getElem?_toArray, List.getElem?_map, hg]; rfl
   rw [h3] at h2
   have h4 : (k : Int) < L.length := by omega
   by_cases h5 : t = ⟨#[45]⟩
   ·rw [if_pos h5] at hk
    subst hk
    subst h5
    clear hc2
    go_enter Tryz.func41, Tryz.ntmps41
    go_wp2_with (first
     | (go_at_call 63; (with_reducible refine cS.out.mono ?_); rintro e W2 ⟨rfl, rfl⟩))
    go_ret
    exact ⟨rfl, HB2.out⟩
   ·rw [if_neg h5] at hk
    subst hk
    have h6 : (R.toList == [45]) = false := by
     rw [beq_eq_false_iff_ne]
     intro e
     apply h5
     have := congrArg bs e
     rw [bs_back] at this
     exact this
    clear hc2
    go_enter Tryz.func41, Tryz.ntmps41
    go_wp2_with (first
     | (go_at_call 63; (with_reducible refine cS.out.mono ?_); rintro e W2 ⟨rfl, rfl⟩))
    exact bodyPost_ret (v := .string R) (by simp [results, Tryz.results41, go_sem]) rfl ⟨rfl, HB2.out⟩
end prp
end Go.Proofs.YthgffoanecknoaaGreatDoor
