/- Contracts of a strings.Builder that the call has made itself, beside a block of another type that stays as it is. -/
import Derived.Test.YtphdmdncboegjaaDoorBuild
namespace Go.Proofs.YtphdmdncboegjaaDoor.base
open Go.RowKit
set_option linter.unusedVariables false

theorem copyCheck_far (B b : Nat) (bs : List Value) (w : World) (h : Lib.IsBuilder 72 5 B b bs w) :
    Calls Tryd.prog 65 #[.pointer (some ⟨b, 0, none⟩)] w fun e w' => e = .returned (.tuple #[]) ∧ (Lib.BuilderAt 72 5 B b (.pointer (some ⟨b, 0, none⟩)) bs w' ∧ Below B w w' ∧ w.heap.size = w'.heap.size ∧ ∀ k, k ≠ b → w'.heap[k]? = w.heap[k]?) := by
  rcases h with h | h
  · refine (copyCheck_fresh b w h.cell0 h.shape h.frozen0).mono ?_
    rintro e w' ⟨rfl, rfl⟩
    exact ⟨rfl, h.used _, (Below.refl B w).setCell (p := ⟨b, 0, none⟩) h.1 _, (size_setCell _ _ _).symm, fun k hk => Below.heap_setCell w ⟨b, 0, none⟩ _ k hk⟩
  · refine (copyCheck_used b w h.cell0).mono ?_
    rintro e w' ⟨rfl, rfl⟩
    exact ⟨rfl, h, Below.refl B _, rfl, fun k hk => rfl⟩

/-- a row of another type lies in another block -/
theorem not_row {w : World} {base : Nat} {e : TypeId} {size n k : Nat} {v : Value} {xs : List Value} {t : TypeId} {cs : Array Value} (h : w.ownsRow base e size v n xs) (hk : Blk w k t cs) (ht : t ≠ e) : v.ownBlock ≠ some k := by
  intro hv
  rcases h.2 with ⟨rfl, _⟩ | ⟨g, cap, cur, rfl, _, hg, _⟩
  · simp [Value.ownBlock] at hv
  · simp [Value.ownBlock] at hv
    subst hv
    unfold Blk at hk
    rw [hg] at hk
    simp at hk
    exact ht hk.2.symm

set_option maxHeartbeats 2000000 in
set_option maxRecDepth 100000 in
theorem writeByte_far (B b : Nat) (bs : List Value) (c : Int) (w : World) (h : Lib.IsBuilder 72 5 B b bs w) (hlen : bs.length + 1 ≤ 140737488355328) (hBw : B ≤ w.heap.size) (kx : Nat) (tx : TypeId) (cx : Array Value) (hx : Blk w kx tx cx) (htx : tx ≠ 5) (hkx : kx ≠ b) :
    Calls Tryd.prog 93 #[.pointer (some ⟨b, 0, none⟩), .int .u8 c] w fun e w' => e = .returned .nilIface ∧ (Lib.BuilderAt 72 5 B b (.pointer (some ⟨b, 0, none⟩)) (bs ++ [.int .u8 c]) w' ∧ Below B w w' ∧ Blk w' kx tx cx) := by
  obtain ⟨i0, hi, hz0, hz1, hz2⟩ := info_parts infoByte
  go_enter Tryd.func93, Tryd.ntmps93
  go_wp2_with (go_at_call 65; refine (copyCheck_far B b bs _ h).mono ?_)
  rintro e w1 ⟨rfl, h1, hb1, hsz, hfar⟩
  have hx1 : Blk w1 kx tx cx := (hfar kx hkx).trans hx
  clear hfar
  obtain ⟨hB, v, hbk, hown, hne⟩ := h1
  have HX := Lib.hid hx1
  have HN := Lib.hid (not_row hown hx1 htx)
  have HS := Lib.hid hsz
  clear hx hx1 hsz
  have c0 : w1.cell? ⟨b, 0, none⟩ = some (.pointer (some ⟨b, 0, none⟩)) := by rw [Lib.cell_of_heap hbk]; rfl
  have c1 : w1.cell? ⟨b, 1, none⟩ = some v := by rw [Lib.cell_of_heap hbk]; rfl
  go_wp2_with (at_builtin; refine wpList_append_own _ rfl _ _ 70 rfl B 5 i0 (.int .u8 0) 1 1 Tryd.underlying70 hi hz0 hz1 hz2 rfl (by decide) _ _ _ rfl (hown.alloc _) ⟨w1.heap.size, 0, none⟩ 1 1 [.int .u8 c] rfl rfl ?c1 ?c2 ?c3 ?c4 ?c5 ?_)
  case c1 =>
    intro j u hj
    match j, hj with
    | 0, hj => simp at hj; subst hj; simp [Addr.add]
  case c2 => intro u hu; simp at hu; subst hu; rfl
  case c3 => unfold maxLen; omega
  case c4 => omega
  case c5 => have := hb1.size; simp; omega
  intro v' w2 hown' hgrow _
  have hlt : b < w1.heap.size := by
    rcases Nat.lt_or_ge b w1.heap.size with h' | h'
    · exact h'
    · simp [Array.getElem?_eq_none h'] at hbk
  have hb2 : w2.heap[b]? = some (.cells #[.pointer (some ⟨b, 0, none⟩), v] 72 (0, 0)) := by
    rw [hgrow.block b (by simp; omega) (fun e => hne e.symm), Lib.alloc_old w1 _ b hlt]
    exact hbk
  have d0 : w2.cell? ⟨b, 0, none⟩ = some (.pointer (some ⟨b, 0, none⟩)) := by rw [Lib.cell_of_heap hb2]; rfl
  have d1 : w2.cell? ⟨b, 1, none⟩ = some v := by rw [Lib.cell_of_heap hb2]; rfl
  have f1 : w2.frozen? ⟨b, 1, none⟩ = false := Lib.frozen_of_heap hb2 1
  obtain ⟨g, cap, rfl⟩ : ∃ g cap, v' = .slice (some ⟨g, 0, none⟩) (bs.length + 1) cap := by
    rcases hown'.2 with ⟨_, h0⟩ | ⟨g, cap, cur, hv, _⟩
    · omega
    · exact ⟨g, cap, hv⟩
  go_wp2
  go_ret
  refine ⟨rfl, ?_, ?_, ?_⟩
  · exact Lib.BuilderAt.put (T := 72) (e := 5) hB hb2 (bs' := bs ++ [.int .u8 c]) (by simpa using hown') (by decide)
  · exact ((hb1.alloc (by have := hb1.size; omega) _).grown hgrow (by have := hb1.size; simp; omega) (fun k hk => (hown.lt k hk).1)).setCell (p := ⟨b, 1, none⟩) hB _
  · have h2 : Blk w2 kx tx cx := (hgrow.block kx (by have := HX.out.lt; simp; omega) (fun e => HN.out e.symm)).trans (HX.out.alloc _)
    exact h2.far hkx _

set_option maxHeartbeats 2000000 in
set_option maxRecDepth 100000 in
theorem writeString_far (B b : Nat) (bs : List Value) (s : ByteArray) (w : World) (h : Lib.IsBuilder 72 5 B b bs w) (hlen : bs.length + s.size ≤ 140737488355328) (hBw : B ≤ w.heap.size) (kx : Nat) (tx : TypeId) (cx : Array Value) (hx : Blk w kx tx cx) (htx : tx ≠ 5) (hkx : kx ≠ b) :
    Calls Tryd.prog 35 #[.pointer (some ⟨b, 0, none⟩), .string s] w fun e w' => e = .returned (.tuple #[.int .i64 s.size, .nilIface]) ∧ (Lib.BuilderAt 72 5 B b (.pointer (some ⟨b, 0, none⟩)) (bs ++ Lib.strCells s) w' ∧ Below B w w' ∧ Blk w' kx tx cx) := by
  obtain ⟨i0, hi, hz0, hz1, hz2⟩ := info_parts infoByte
  go_enter Tryd.func35, Tryd.ntmps35
  go_wp2_with (go_at_call 65; refine (copyCheck_far B b bs _ h).mono ?_)
  rintro e w1 ⟨rfl, h1, hb1, hsz, hfar⟩
  have hx1 : Blk w1 kx tx cx := (hfar kx hkx).trans hx
  clear hfar
  obtain ⟨hB, v, hbk, hown, hne⟩ := h1
  have HX := Lib.hid hx1
  have HN := Lib.hid (not_row hown hx1 htx)
  have HS := Lib.hid hsz
  clear hx hx1 hsz
  have c0 : w1.cell? ⟨b, 0, none⟩ = some (.pointer (some ⟨b, 0, none⟩)) := by rw [Lib.cell_of_heap hbk]; rfl
  have c1 : w1.cell? ⟨b, 1, none⟩ = some v := by rw [Lib.cell_of_heap hbk]; rfl
  go_wp2_with (at_builtin; refine Lib.wpList_append_own_string _ rfl _ _ 70 9 rfl B 5 i0 Tryd.underlying70 Tryd.underlying9 hi hz0 hz1 hz2 _ _ _ rfl hown s rfl ?c3 ?c4 ?c5 ?_)
  case c3 => unfold maxLen; omega
  case c4 => omega
  case c5 => have := hb1.size; omega
  intro v' w2 hown' hgrow _
  have hlt : b < w1.heap.size := by
    rcases Nat.lt_or_ge b w1.heap.size with h' | h'
    · exact h'
    · simp [Array.getElem?_eq_none h'] at hbk
  have hb2 : w2.heap[b]? = some (.cells #[.pointer (some ⟨b, 0, none⟩), v] 72 (0, 0)) := by
    rw [hgrow.block b hlt (fun e => hne e.symm)]
    exact hbk
  have d0 : w2.cell? ⟨b, 0, none⟩ = some (.pointer (some ⟨b, 0, none⟩)) := by rw [Lib.cell_of_heap hb2]; rfl
  have d1 : w2.cell? ⟨b, 1, none⟩ = some v := by rw [Lib.cell_of_heap hb2]; rfl
  have f1 : w2.frozen? ⟨b, 1, none⟩ = false := Lib.frozen_of_heap hb2 1
  obtain ⟨ao, n', cap, rfl⟩ : ∃ ao n' cap, v' = .slice ao n' cap := by
    rcases hown'.2 with ⟨hv, _⟩ | ⟨g, cap, cur, hv, _⟩
    · exact ⟨_, _, _, hv⟩
    · exact ⟨_, _, _, hv⟩
  go_wp2
  go_ret2
  refine ⟨rfl, ?_, ?_, ?_⟩
  · exact Lib.BuilderAt.put (T := 72) (e := 5) hB hb2 (bs' := bs ++ Lib.strCells s) (by simpa [Lib.strCells_length] using hown') (by decide)
  · exact (hb1.grown hgrow (by have := hb1.size; omega) (fun k hk => (hown.lt k hk).1)).setCell (p := ⟨b, 1, none⟩) hB _
  · have h2 : Blk w2 kx tx cx := (hgrow.block kx HX.out.lt (fun e => HN.out e.symm)).trans HX.out
    exact h2.far hkx _

/-- WriteByte, on lists of bytes -/
theorem writeByte_on (B b : Nat) (l : List UInt8) (c : UInt8) (w : World) (h : IsB B b l w) (hlen : l.length + 1 ≤ 140737488355328) (hBw : B ≤ w.heap.size) (kx : Nat) (tx : TypeId) (cx : Array Value) (hx : Blk w kx tx cx) (htx : tx ≠ 5) (hkx : kx ≠ b) :
    Calls Tryd.prog 93 #[.pointer (some ⟨b, 0, none⟩), .int .u8 (c.toNat : Int)] w fun e w' => e = .returned .nilIface ∧ IsB B b (l ++ [c]) w' ∧ Below B w w' ∧ Blk w' kx tx cx :=
  (writeByte_far B b _ _ w h (by rw [Lib.byteCells_length]; exact hlen) hBw kx tx cx hx htx hkx).mono fun e w' ⟨he, h1, h2, h3⟩ => ⟨he, Or.inr (by simpa [Lib.byteCells] using h1), h2, h3⟩
/-- WriteString, on lists of bytes -/
theorem writeString_on (B b : Nat) (l : List UInt8) (s : ByteArray) (w : World) (h : IsB B b l w) (hlen : l.length + s.size ≤ 140737488355328) (hBw : B ≤ w.heap.size) (kx : Nat) (tx : TypeId) (cx : Array Value) (hx : Blk w kx tx cx) (htx : tx ≠ 5) (hkx : kx ≠ b) :
    Calls Tryd.prog 35 #[.pointer (some ⟨b, 0, none⟩), .string s] w fun e w' => e = .returned (.tuple #[.int .i64 s.size, .nilIface]) ∧ IsB B b (l ++ s.data.toList) w' ∧ Below B w w' ∧ Blk w' kx tx cx :=
  (writeString_far B b _ s w h (by rw [Lib.byteCells_length]; exact hlen) hBw kx tx cx hx htx hkx).mono fun e w' ⟨he, h1, h2, h3⟩ => ⟨he, Or.inr (by simpa [Lib.byteCells, Lib.strCells] using h1), h2, h3⟩

end Go.Proofs.YtphdmdncboegjaaDoor.base
