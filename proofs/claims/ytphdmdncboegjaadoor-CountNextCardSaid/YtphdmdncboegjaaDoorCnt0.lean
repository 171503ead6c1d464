/- Contracts: slices.Reverse of bytes that the call owns, count.letters. -/
import Derived.Test.YtphdmdncboegjaaDoorCntL
import Derived.Test.YtphdmdncboegjaaDoorShelfCnt
import Derived.Test.YtphdmdncboegjaaDoorBuild
import Derived.Test.YtphdmdncboegjaaDoorRd
namespace Go.Proofs.YtphdmdncboegjaaDoor.cnt
open Go.RowKit Go.Proofs.YtphdmdncboegjaaDoor.base Go.Proofs.YtphdmdncboegjaaDoor.tok Go.Proofs.YtphdmdncboegjaaDoor.dim
set_option linter.unusedVariables false

theorem below_put {α : Type} [Inhabited α] (enc : α → Value) (w : World) (n blk off : Nat) (d : Array α) (B : Nat) (hB : B ≤ blk) : Below B w (Go.Sort.putRow enc (Go.Sort.ahead w n) blk off d) := by
  refine ⟨rfl, rfl, rfl, by rw [Go.Sort.size_putRow]; exact Nat.le_refl _, fun i hi => ?_⟩
  simp only [Go.Sort.putRow, Go.Sort.mapBlock, Go.Sort.ahead]
  rw [Array.getElem?_modify, if_neg (by omega)]

abbrev encB (b : UInt8) : Value := .int .u8 (b.toNat : Int)
theorem reverse_ct (blk cap : Nat) (l : Bs) (w : World) (hl : l.length ≤ 9223372036854775807) (h : ∀ (j : Nat) (u : UInt8), l[j]? = some u → w.cell? ⟨blk, j, none⟩ = some (.int .u8 (u.toNat : Int)) ∧ w.frozen? ⟨blk, j, none⟩ = false) :
    Calls Tryd.prog 102 #[.slice (some ⟨blk, 0, none⟩) l.length cap] w fun e w' => e = .returned (.tuple #[]) ∧ (∀ (j : Nat) (u : UInt8), l.reverse[j]? = some u → w'.cell? ⟨blk, j, none⟩ = some (.int .u8 (u.toNat : Int))) ∧ w.heap.size ≤ w'.heap.size ∧ ∀ B, B ≤ blk → Below B w w' := by
  have hH : Go.Sort.Holds encB w blk 0 l.toArray := fun j hj => by
    have hj' : j < l.length := by simpa using hj
    have := h j l[j] (List.getElem?_eq_getElem hj')
    rw [Nat.zero_add]
    rw [getElem!_pos l.toArray j hj]
    simpa using this
  refine (Tryd.slices_Reverse_bytes encB (fun _ => rfl) blk 0 cap l w hH hl).mono fun e w' ⟨he, n, hw⟩ => ⟨he, fun j u hu => ?_, ?_, fun B hB => ?_⟩
  · subst hw
    have hj := (List.getElem?_eq_some_iff.1 hu).1
    have h0 : Go.Sort.Holds encB (Go.Sort.ahead w n) blk 0 l.toArray := hH
    have := Go.Sort.cell?_putRow encB (Go.Sort.ahead w n) blk 0 l.toArray l.reverse.toArray h0 (by simp) j (by simpa using hj)
    rw [Nat.zero_add] at this
    rw [this, getElem!_pos l.reverse.toArray j (by simpa using hj)]
    obtain ⟨_, hq⟩ := List.getElem?_eq_some_iff.1 hu
    simp only [List.getElem_toArray, hq]
  · rw [hw, Go.Sort.size_putRow]; exact Nat.le_refl _
  · rw [hw]; exact below_put _ _ _ _ _ _ _ hB

theorem conv_back (blk cap : Nat) (l : Bs) (w : World) (h : ∀ (j : Nat) (u : UInt8), l[j]? = some u → w.cell? ⟨blk, j, none⟩ = some (.int .u8 (u.toNat : Int))) :
    (convert 70 9 (.slice (some ⟨blk, 0, none⟩) l.length cap)).run Tryd.prog w = .ok (.string (bs l)) w :=
  run_convert_bytes_back w 70 9 5 ⟨blk, 0, none⟩ cap l Tryd.underlying70 Tryd.underlying5 Tryd.underlying9 (fun j hj => by
    rw [add_zero_block]
    exact h j _ (List.getElem?_eq_getElem hj))
theorem conv_rev (blk cap : Nat) (l : Bs) (w : World) (h : ∀ (j : Nat) (u : UInt8), l.reverse[j]? = some u → w.cell? ⟨blk, j, none⟩ = some (.int .u8 (u.toNat : Int))) :
    (convert 70 9 (.slice (some ⟨blk, 0, none⟩) l.length cap)).run Tryd.prog w = .ok (.string (bs l.reverse)) w := by
  have := conv_back blk cap l.reverse w h
  rwa [List.length_reverse] at this

theorem letR_bd : ∀ (f n : Nat), n ≤ f → (letR f n).length ≤ n
  | 0, n, h => by simp [letR]
  | f + 1, n, h => by
    unfold letR
    by_cases h0 : n = 0
    · rw [if_pos h0]; simp
    · rw [if_neg h0, List.length_cons]
      have := letR_bd f ((n - 1) / 26) (by omega)
      omega

set_option maxRecDepth 100000 in
set_option maxHeartbeats 4000000 in
theorem letters_ct (n : Nat) (h0 : 1 ≤ n) (hn : n ≤ 1000000) (w : World) : Calls Tryd.prog 66 #[.int .i64 n] w fun e w' => e = .returned (.string (bs (letP n))) ∧ Below w.heap.size w w' := by
  obtain ⟨i0, hi, hz0, hz1, hz2⟩ := info_parts infoByte
  have Hz0 := Lib.hid hz0
  have Hi := Lib.hid hi
  have Hz1 := Lib.hid hz1
  have Hz2 := Lib.hid hz2
  have hlen := letR_bd n n (Nat.le_refl _)
  have hpos : 0 < (letR n n).length := by rw [letR_step (by omega)]; simp
  clear hz0 hi hz1 hz2
  go_enter Tryd.func66, Tryd.ntmps66
  go_wp2_with fail
  go_loopw [0, 3] (fun x v wr => ∃ (m : Nat) (acc : Bs), x = .int .i64 m ∧ m ≤ n ∧ letR n n = acc ++ letR m m ∧ wr.ownsRow w.heap.size 5 1 v acc.length (Lib.byteCells acc) ∧ Below w.heap.size w wr) (fun x _ _ => (intOf x).toNat)
  case atStart => exact ⟨n, [], rfl, Nat.le_refl _, rfl, World.ownsRow_nil _ _ _ _, Below.refl _ _⟩
  case round =>
    obtain ⟨m, acc, rfl, hmn, hinv, hrow, hbel⟩ := hrel
    have hz := hbel.size
    have hacc : acc.length ≤ n := by have := congrArg List.length hinv; rw [List.length_append] at this; omega
    have HBl := Lib.hid hbel
    replace hrow := Lib.hid hrow
    replace hinv := Lib.hid hinv
    clear hbel
    by_cases hm0 : m = 0
    · subst hm0
      have hfin := Lib.hid (show letR n n = acc by rw [hinv.out]; simp [letR])
      have hl : acc.length = (letR n n).length := by rw [hfin.out]
      have hrow' := hrow.out
      rcases hrow'.2 with ⟨hv, hz'⟩ | ⟨g, cap, cur, hv, hg0, hcs, hc, hb⟩
      · exact absurd hz' (by omega)
      subst hv
      have hgB := hg0
      have hcf : ∀ (j : Nat) (u : UInt8), acc[j]? = some u → wr.cell? ⟨g, j, none⟩ = some (.int .u8 (u.toNat : Int)) ∧ wr.frozen? ⟨g, j, none⟩ = false := fun j u hu => by
        have hj := (List.getElem?_eq_some_iff.1 hu).1
        exact ⟨(hrow'.cellAt j (by omega)).trans (by simp [Lib.byteCells, hu]), hrow'.frozenAt j⟩
      have cR := Lib.hid (reverse_ct g cap acc wr (by omega) hcf)
      clear hcf hrow' hg0 hcs hc hb hl hrow
      go_wp2_with ((go_at_call 102; (with_reducible refine (cR.out).mono ?_); rintro e W2 ⟨rfl, hc2, hz2, hb2⟩; have hcv := conv_rev g cap acc W2 hc2; have HB2 := Lib.hid (HBl.out.trans (hb2 _ hgB)); clear hc2 hb2))
      go_ret
      exact ⟨by rw [letP, hfin.out]; rfl, HB2.out⟩
    · have hmz : (1 : Int) ≤ m := by omega
      have hmx : (m : Int) ≤ 1000000 := by omega
      have hst := Lib.hid (letR_step (n := m) (by omega))
      obtain ⟨a, cp, rfl⟩ := row_form hrow.out
      go_wp2_with ((at_builtin; refine wpList_append_own _ rfl _ _ 70 rfl w.heap.size 5 i0 (.int .u8 0) 1 1 Tryd.underlying70 Hi.out Hz0.out Hz1.out Hz2.out rfl (by decide) _ _ _ rfl (hrow.out.alloc _) ⟨wr.heap.size, 0, none⟩ 1 1 [.int .u8 (97 + ((m : Int) - 1) % 26)] rfl rfl ?c1 ?c2 ?c3 ?c4 ?c5 ?_))
      case c1 => exact (Blk.new (w := wr) (t := 5) (cs := #[.int .u8 (97 + ((m : Int) - 1) % 26)]) rfl).news
      case c2 => simp [Value.oneCell']
      case c3 => unfold maxLen; omega
      case c4 => omega
      case c5 => simp; omega
      intro v' w3 hown3 hgrow3 hnil3
      have hb3 := Lib.hid (below_app (HBl.out.alloc HBl.out.size _) hgrow3 (hrow.out.alloc _) (Nat.le_refl _) (by simp; omega))
      replace hown3 := Lib.hid hown3
      clear hgrow3 hnil3
      go_wp2
      go_roundw
      case rel =>
        refine ⟨(m - 1) / 26, acc ++ [UInt8.ofNat (97 + (m - 1) % 26)], by congr 1; omega, by omega, ?_, ?_, hb3.out⟩
        · rw [hinv.out, hst.out]; simp
        · have he : (97 : Int) + ((m : Int) - 1) % 26 = (((UInt8.ofNat (97 + (m - 1) % 26)).toNat : Nat) : Int) := by
            rw [UInt8.toNat_ofNat']
            omega
          have h3 := hown3.out
          rw [he] at h3
          simpa [Lib.byteCells] using h3
      case measure => simp [intOf]; omega

end Go.Proofs.YtphdmdncboegjaaDoor.cnt
