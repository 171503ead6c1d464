/- Contracts and plain law, a bundle: Build2 Rul0 Rul1 Rul2 Rul3 Rul4 Rul5 Rul6 Fold0 Fold Rul7 Rul8 Rul9. -/
import Derived.Shelf.Abstract
import Derived.Lib.LaidTab
import Derived.Lib.Fold
import Derived.ScopeJumps
import Derived.WalkMore
import Derived.Laws.RangeAny
import Derived.Lib.OthersKept
import Derived.Deep.LoopGhost
import Derived.Test.YtaihncbejhnceaaDoorBA
import Derived.Test.YtaihncbejhnceaaDoorBB

namespace Go.Proofs.YtaihncbejhnceaaDoor.base
open Go.RowKit
set_option linter.unusedVariables false

theorem copyCheck_far (B b : Nat) (bs : List Value) (w : World) (h : Lib.IsBuilder 73 5 B b bs w) :
    Calls Tryd.prog 121 #[.pointer (some ⟨b, 0, none⟩)] w fun e w' => e = .returned (.tuple #[]) ∧ (Lib.BuilderAt 73 5 B b (.pointer (some ⟨b, 0, none⟩)) bs w' ∧ Below B w w' ∧ w.heap.size = w'.heap.size ∧ ∀ k, k ≠ b → w'.heap[k]? = w.heap[k]?) := by
  rcases h with h | h
  · refine (copyCheck_fresh b w h.cell0 h.shape h.frozen0).mono ?_
    rintro e w' ⟨rfl, rfl⟩
    exact ⟨rfl, h.used _, (Below.refl B w).setCell (p := ⟨b, 0, none⟩) h.1 _, (size_setCell _ _ _).symm, fun k hk => Below.heap_setCell w ⟨b, 0, none⟩ _ k hk⟩
  · refine (copyCheck_used b w h.cell0).mono ?_
    rintro e w' ⟨rfl, rfl⟩
    exact ⟨rfl, h, Below.refl B _, rfl, fun k hk => rfl⟩

/-- a row of another type lies in another block -/
theorem not_row {w : World} {base : Nat} {e : TypeId} {size n k : Nat} {v : Value} {xs : List Value} {t : TypeId} {cs : Array Value} (h : w.ownsRow base e size v n xs) (hk : Blk w k t cs) (ht : t ≠ e) : v.ownBlock ≠ some k := by
  intro hv
  rcases h.2 with ⟨rfl, _⟩ | ⟨g, cap, cur, rfl, _, hg, _⟩
  · simp [Value.ownBlock] at hv
  · simp [Value.ownBlock] at hv
    subst hv
    unfold Blk at hk
    rw [hg] at hk
    simp at hk
    exact ht hk.2.symm

set_option maxHeartbeats 2000000 in
set_option maxRecDepth 100000 in
theorem writeByte_far (B b : Nat) (bs : List Value) (c : Int) (w : World) (h : Lib.IsBuilder 73 5 B b bs w) (hlen : bs.length + 1 ≤ 140737488355328) (hBw : B ≤ w.heap.size) (kx : Nat) (tx : TypeId) (cx : Array Value) (hx : Blk w kx tx cx) (htx : tx ≠ 5) (hkx : kx ≠ b) :
    Calls Tryd.prog 72 #[.pointer (some ⟨b, 0, none⟩), .int .u8 c] w fun e w' => e = .returned .nilIface ∧ (Lib.BuilderAt 73 5 B b (.pointer (some ⟨b, 0, none⟩)) (bs ++ [.int .u8 c]) w' ∧ Below B w w' ∧ Blk w' kx tx cx) := by
  obtain ⟨i0, hi, hz0, hz1, hz2⟩ := info_parts infoByte
  go_enter Tryd.func72, Tryd.ntmps72
  go_wp2_with (go_at_call 121; refine (copyCheck_far B b bs _ h).mono ?_)
  rintro e w1 ⟨rfl, h1, hb1, hsz, hfar⟩
  have hx1 : Blk w1 kx tx cx := (hfar kx hkx).trans hx
  clear hfar
  obtain ⟨hB, v, hbk, hown, hne⟩ := h1
  have HX := Lib.hid hx1
  have HN := Lib.hid (not_row hown hx1 htx)
  have HS := Lib.hid hsz
  clear hx hx1 hsz
  have c0 : w1.cell? ⟨b, 0, none⟩ = some (.pointer (some ⟨b, 0, none⟩)) := by rw [Lib.cell_of_heap hbk]; rfl
  have c1 : w1.cell? ⟨b, 1, none⟩ = some v := by rw [Lib.cell_of_heap hbk]; rfl
  go_wp2_with (at_builtin; refine wpList_append_own _ rfl _ _ 62 rfl B 5 i0 (.int .u8 0) 1 1 Tryd.underlying62 hi hz0 hz1 hz2 rfl (by decide) _ _ _ rfl (hown.alloc _) ⟨w1.heap.size, 0, none⟩ 1 1 [.int .u8 c] rfl rfl ?c1 ?c2 ?c3 ?c4 ?c5 ?_)
  case c1 =>
    intro j u hj
    match j, hj with
    | 0, hj => simp at hj; subst hj; simp [Addr.add]
  case c2 => intro u hu; simp at hu; subst hu; rfl
  case c3 => unfold maxLen; omega
  case c4 => omega
  case c5 => have := hb1.size; simp; omega
  intro v' w2 hown' hgrow _
  have hlt : b < w1.heap.size := by
    rcases Nat.lt_or_ge b w1.heap.size with h' | h'
    · exact h'
    · simp [Array.getElem?_eq_none h'] at hbk
  have hb2 : w2.heap[b]? = some (.cells #[.pointer (some ⟨b, 0, none⟩), v] 73 (0, 0)) := by
    rw [hgrow.block b (by simp; omega) (fun e => hne e.symm), Lib.alloc_old w1 _ b hlt]
    exact hbk
  have d0 : w2.cell? ⟨b, 0, none⟩ = some (.pointer (some ⟨b, 0, none⟩)) := by rw [Lib.cell_of_heap hb2]; rfl
  have d1 : w2.cell? ⟨b, 1, none⟩ = some v := by rw [Lib.cell_of_heap hb2]; rfl
  have f1 : w2.frozen? ⟨b, 1, none⟩ = false := Lib.frozen_of_heap hb2 1
  obtain ⟨g, cap, rfl⟩ : ∃ g cap, v' = .slice (some ⟨g, 0, none⟩) (bs.length + 1) cap := by
    rcases hown'.2 with ⟨_, h0⟩ | ⟨g, cap, cur, hv, _⟩
    · omega
    · exact ⟨g, cap, hv⟩
  go_wp2
  go_ret
  refine ⟨rfl, ?_, ?_, ?_⟩
  · exact Lib.BuilderAt.put (T := 73) (e := 5) hB hb2 (bs' := bs ++ [.int .u8 c]) (by simpa using hown') (by decide)
  · exact ((hb1.alloc (by have := hb1.size; omega) _).grown hgrow (by have := hb1.size; simp; omega) (fun k hk => (hown.lt k hk).1)).setCell (p := ⟨b, 1, none⟩) hB _
  · have h2 : Blk w2 kx tx cx := (hgrow.block kx (by have := HX.out.lt; simp; omega) (fun e => HN.out e.symm)).trans (HX.out.alloc _)
    exact h2.far hkx _

set_option maxHeartbeats 2000000 in
set_option maxRecDepth 100000 in
theorem writeString_far (B b : Nat) (bs : List Value) (s : ByteArray) (w : World) (h : Lib.IsBuilder 73 5 B b bs w) (hlen : bs.length + s.size ≤ 140737488355328) (hBw : B ≤ w.heap.size) (kx : Nat) (tx : TypeId) (cx : Array Value) (hx : Blk w kx tx cx) (htx : tx ≠ 5) (hkx : kx ≠ b) :
    Calls Tryd.prog 71 #[.pointer (some ⟨b, 0, none⟩), .string s] w fun e w' => e = .returned (.tuple #[.int .i64 s.size, .nilIface]) ∧ (Lib.BuilderAt 73 5 B b (.pointer (some ⟨b, 0, none⟩)) (bs ++ Lib.strCells s) w' ∧ Below B w w' ∧ Blk w' kx tx cx) := by
  obtain ⟨i0, hi, hz0, hz1, hz2⟩ := info_parts infoByte
  go_enter Tryd.func71, Tryd.ntmps71
  go_wp2_with (go_at_call 121; refine (copyCheck_far B b bs _ h).mono ?_)
  rintro e w1 ⟨rfl, h1, hb1, hsz, hfar⟩
  have hx1 : Blk w1 kx tx cx := (hfar kx hkx).trans hx
  clear hfar
  obtain ⟨hB, v, hbk, hown, hne⟩ := h1
  have HX := Lib.hid hx1
  have HN := Lib.hid (not_row hown hx1 htx)
  have HS := Lib.hid hsz
  clear hx hx1 hsz
  have c0 : w1.cell? ⟨b, 0, none⟩ = some (.pointer (some ⟨b, 0, none⟩)) := by rw [Lib.cell_of_heap hbk]; rfl
  have c1 : w1.cell? ⟨b, 1, none⟩ = some v := by rw [Lib.cell_of_heap hbk]; rfl
  go_wp2_with (at_builtin; refine Lib.wpList_append_own_string _ rfl _ _ 62 9 rfl B 5 i0 Tryd.underlying62 Tryd.underlying9 hi hz0 hz1 hz2 _ _ _ rfl hown s rfl ?c3 ?c4 ?c5 ?_)
  case c3 => unfold maxLen; omega
  case c4 => omega
  case c5 => have := hb1.size; omega
  intro v' w2 hown' hgrow _
  have hlt : b < w1.heap.size := by
    rcases Nat.lt_or_ge b w1.heap.size with h' | h'
    · exact h'
    · simp [Array.getElem?_eq_none h'] at hbk
  have hb2 : w2.heap[b]? = some (.cells #[.pointer (some ⟨b, 0, none⟩), v] 73 (0, 0)) := by
    rw [hgrow.block b hlt (fun e => hne e.symm)]
    exact hbk
  have d0 : w2.cell? ⟨b, 0, none⟩ = some (.pointer (some ⟨b, 0, none⟩)) := by rw [Lib.cell_of_heap hb2]; rfl
  have d1 : w2.cell? ⟨b, 1, none⟩ = some v := by rw [Lib.cell_of_heap hb2]; rfl
  have f1 : w2.frozen? ⟨b, 1, none⟩ = false := Lib.frozen_of_heap hb2 1
  obtain ⟨ao, n', cap, rfl⟩ : ∃ ao n' cap, v' = .slice ao n' cap := by
    rcases hown'.2 with ⟨hv, _⟩ | ⟨g, cap, cur, hv, _⟩
    · exact ⟨_, _, _, hv⟩
    · exact ⟨_, _, _, hv⟩
  go_wp2
  go_ret2
  refine ⟨rfl, ?_, ?_, ?_⟩
  · exact Lib.BuilderAt.put (T := 73) (e := 5) hB hb2 (bs' := bs ++ Lib.strCells s) (by simpa [Lib.strCells_length] using hown') (by decide)
  · exact (hb1.grown hgrow (by have := hb1.size; omega) (fun k hk => (hown.lt k hk).1)).setCell (p := ⟨b, 1, none⟩) hB _
  · have h2 : Blk w2 kx tx cx := (hgrow.block kx HX.out.lt (fun e => HN.out e.symm)).trans HX.out
    exact h2.far hkx _

/-- WriteByte, on lists of bytes -/
theorem writeByte_on (B b : Nat) (l : List UInt8) (c : UInt8) (w : World) (h : IsB B b l w) (hlen : l.length + 1 ≤ 140737488355328) (hBw : B ≤ w.heap.size) (kx : Nat) (tx : TypeId) (cx : Array Value) (hx : Blk w kx tx cx) (htx : tx ≠ 5) (hkx : kx ≠ b) :
    Calls Tryd.prog 72 #[.pointer (some ⟨b, 0, none⟩), .int .u8 (c.toNat : Int)] w fun e w' => e = .returned .nilIface ∧ IsB B b (l ++ [c]) w' ∧ Below B w w' ∧ Blk w' kx tx cx :=
  (writeByte_far B b _ _ w h (by rw [Lib.byteCells_length]; exact hlen) hBw kx tx cx hx htx hkx).mono fun e w' ⟨he, h1, h2, h3⟩ => ⟨he, Or.inr (by simpa [Lib.byteCells] using h1), h2, h3⟩
/-- WriteString, on lists of bytes -/
theorem writeString_on (B b : Nat) (l : List UInt8) (s : ByteArray) (w : World) (h : IsB B b l w) (hlen : l.length + s.size ≤ 140737488355328) (hBw : B ≤ w.heap.size) (kx : Nat) (tx : TypeId) (cx : Array Value) (hx : Blk w kx tx cx) (htx : tx ≠ 5) (hkx : kx ≠ b) :
    Calls Tryd.prog 71 #[.pointer (some ⟨b, 0, none⟩), .string s] w fun e w' => e = .returned (.tuple #[.int .i64 s.size, .nilIface]) ∧ IsB B b (l ++ s.data.toList) w' ∧ Below B w w' ∧ Blk w' kx tx cx :=
  (writeString_far B b _ s w h (by rw [Lib.byteCells_length]; exact hlen) hBw kx tx cx hx htx hkx).mono fun e w' ⟨he, h1, h2, h3⟩ => ⟨he, Or.inr (by simpa [Lib.byteCells, Lib.strCells] using h1), h2, h3⟩

end Go.Proofs.YtaihncbejhnceaaDoor.base

namespace Go.Proofs.YtaihncbejhnceaaDoor.rul
open Go.RowKit Go.Proofs.YtaihncbejhnceaaDoor.base Go.Proofs.YtaihncbejhnceaaDoor.tok
set_option linter.unusedVariables false

def silP (t : Tk) : Bool := decide (t.k = 8) || decide (t.k = 9)
def opensP (t : Tk) : Bool := decide (t.k = 10) || decide (t.k = 2)
def rawP (t : Tk) (k : Int) (s : Bs) : Bool := decide (t.k = k) && decide (t.raw = s)
def semiP (t : Tk) : Bool := rawP t 12 [59]
def colonP (t : Tk) : Bool := rawP t 12 [58]
def markP (t : Tk) : Bool := rawP t 12 [33]
def braceP (t : Tk) : Bool := rawP t 10 [123]
def badP (t : Tk) : Bool := decide (t.k = 6)
def closerP (r : Bs) : Bs := if r.getLast? = some 91 then [93] else if r.getLast? = some 123 then [125] else [41]

/-- one that is asked of a token's kind: it is one of two -/
abbrev Asks (f : FuncId) (p : Tk → Bool) : Prop := ∀ (t : Tk) (w : World), Calls Tryd.prog f #[.agg t.cells] w fun e w' => e = .returned (.bool (p t)) ∧ Below w.heap.size w w'

set_option maxRecDepth 100000 in
theorem silent_ct : Asks 101 silP := by
  intro ⟨k, r, v, n⟩ w
  have hb := Lib.hid (show Below w.heap.size w (w.alloc (.cells #[.int .i64 k, .string (bs r), .string (bs v), .int .i64 n] 104)) from (Below.refl _ _).alloc (Nat.le_refl _) _)
  simp only [Tk.cells, silP]
  by_cases h1 : k = 8
  · subst h1
    go_enter Tryd.func101, Tryd.ntmps101
    go_wp2
    go_ret
    exact ⟨rfl, hb.out⟩
  · have b1 : (k == 8) = false := by simpa using h1
    rw [decide_eq_false h1, Bool.false_or]
    by_cases h2 : k = 9
    · subst h2
      go_enter Tryd.func101, Tryd.ntmps101
      go_wp2
      go_ret
      exact ⟨rfl, hb.out⟩
    · have b2 : (k == 9) = false := by simpa using h2
      rw [decide_eq_false h2]
      go_enter Tryd.func101, Tryd.ntmps101
      go_wp2
      go_ret
      exact ⟨rfl, hb.out⟩


set_option maxRecDepth 100000 in
theorem opens_ct : Asks 102 opensP := by
  intro ⟨k, r, v, n⟩ w
  have hb := Lib.hid (show Below w.heap.size w (w.alloc (.cells #[.int .i64 k, .string (bs r), .string (bs v), .int .i64 n] 104)) from (Below.refl _ _).alloc (Nat.le_refl _) _)
  simp only [Tk.cells, opensP]
  by_cases h1 : k = 10
  · subst h1
    go_enter Tryd.func102, Tryd.ntmps102
    go_wp2
    go_ret
    exact ⟨rfl, hb.out⟩
  · have b1 : (k == 10) = false := by simpa using h1
    rw [decide_eq_false h1, Bool.false_or]
    by_cases h2 : k = 2
    · subst h2
      go_enter Tryd.func102, Tryd.ntmps102
      go_wp2
      go_ret
      exact ⟨rfl, hb.out⟩
    · have b2 : (k == 2) = false := by simpa using h2
      rw [decide_eq_false h2]
      go_enter Tryd.func102, Tryd.ntmps102
      go_wp2
      go_ret
      exact ⟨rfl, hb.out⟩



set_option maxRecDepth 100000 in
theorem bad_ct : Asks 106 badP := by
  intro ⟨k, r, v, n⟩ w
  have hb := Lib.hid (show Below w.heap.size w (w.alloc (.cells #[.int .i64 k, .string (bs r), .string (bs v), .int .i64 n] 104)) from (Below.refl _ _).alloc (Nat.le_refl _) _)
  simp only [Tk.cells, badP]
  by_cases h1 : k = 6
  · subst h1
    go_enter Tryd.func106, Tryd.ntmps106
    go_wp2
    go_ret
    exact ⟨rfl, hb.out⟩
  · have b1 : (k == 6) = false := by simpa using h1
    rw [decide_eq_false h1]
    go_enter Tryd.func106, Tryd.ntmps106
    go_wp2
    go_ret
    exact ⟨rfl, hb.out⟩

set_option maxRecDepth 100000 in
theorem raw_ct (t : Tk) (k' : Int) (s : Bs) (w : World) : Calls Tryd.prog 103 #[.agg t.cells, .int .i64 k', .string (bs s)] w fun e w' => e = .returned (.bool (rawP t k' s)) ∧ Below w.heap.size w w' := by
  obtain ⟨k, r, v, n⟩ := t
  have hb := Lib.hid (show Below w.heap.size w (w.alloc (.cells #[.int .i64 k, .string (bs r), .string (bs v), .int .i64 n] 104)) from (Below.refl _ _).alloc (Nat.le_refl _) _)
  simp only [Tk.cells, rawP]
  by_cases h1 : k = k'
  · subst h1
    by_cases h2 : r = s
    · subst h2
      go_enter Tryd.func103, Tryd.ntmps103
      go_wp2
      go_ret
      exact ⟨by simp, hb.out⟩
    · have b2 : ((bs r).toList == (bs s).toList) = false := by rw [bs_toList, bs_toList]; simpa using h2
      rw [decide_eq_false h2]
      go_enter Tryd.func103, Tryd.ntmps103
      go_wp2
      go_ret
      exact ⟨by simp, hb.out⟩
  · have b1 : (k == k') = false := by simpa using h1
    rw [decide_eq_false h1]
    go_enter Tryd.func103, Tryd.ntmps103
    go_wp2
    go_ret
    exact ⟨by simp, hb.out⟩

set_option maxRecDepth 100000 in
theorem semi_ct : Asks 67 semiP := by
  intro t w
  have cR := Lib.hid (fun w => raw_ct t 12 [59] w)
  obtain ⟨k, r, v, n⟩ := t
  simp only [Tk.cells] at cR ⊢
  replace cR := Lib.hid (show ∀ w, Calls Tryd.prog 103 #[.agg #[.int .i64 k, .string (bs r), .string (bs v), .int .i64 n], .int .i64 12, .string ⟨#[59]⟩] w fun e w' => e = .returned (.bool (semiP ⟨k, r, v, n⟩)) ∧ Below w.heap.size w w' from cR.out)
  go_enter Tryd.func67, Tryd.ntmps67
  go_wp2_with ((go_at_call 103; (with_reducible refine (cR.out _).mono ?_); rintro e W1 ⟨rfl, hb1⟩; have HB1 := Lib.hid (((Below.refl w.heap.size w).alloc (Nat.le_refl _) _).trans (hb1.mono (by simp))); clear hb1))
  go_ret
  exact ⟨rfl, HB1.out⟩

set_option maxRecDepth 100000 in
theorem colon_ct : Asks 189 colonP := by
  intro t w
  have cR := Lib.hid (fun w => raw_ct t 12 [58] w)
  obtain ⟨k, r, v, n⟩ := t
  simp only [Tk.cells] at cR ⊢
  replace cR := Lib.hid (show ∀ w, Calls Tryd.prog 103 #[.agg #[.int .i64 k, .string (bs r), .string (bs v), .int .i64 n], .int .i64 12, .string ⟨#[58]⟩] w fun e w' => e = .returned (.bool (colonP ⟨k, r, v, n⟩)) ∧ Below w.heap.size w w' from cR.out)
  go_enter Tryd.func189, Tryd.ntmps189
  go_wp2_with ((go_at_call 103; (with_reducible refine (cR.out _).mono ?_); rintro e W1 ⟨rfl, hb1⟩; have HB1 := Lib.hid (((Below.refl w.heap.size w).alloc (Nat.le_refl _) _).trans (hb1.mono (by simp))); clear hb1))
  go_ret
  exact ⟨rfl, HB1.out⟩

set_option maxRecDepth 100000 in
theorem mark_ct : Asks 205 markP := by
  intro t w
  have cR := Lib.hid (fun w => raw_ct t 12 [33] w)
  obtain ⟨k, r, v, n⟩ := t
  simp only [Tk.cells] at cR ⊢
  replace cR := Lib.hid (show ∀ w, Calls Tryd.prog 103 #[.agg #[.int .i64 k, .string (bs r), .string (bs v), .int .i64 n], .int .i64 12, .string ⟨#[33]⟩] w fun e w' => e = .returned (.bool (markP ⟨k, r, v, n⟩)) ∧ Below w.heap.size w w' from cR.out)
  go_enter Tryd.func205, Tryd.ntmps205
  go_wp2_with ((go_at_call 103; (with_reducible refine (cR.out _).mono ?_); rintro e W1 ⟨rfl, hb1⟩; have HB1 := Lib.hid (((Below.refl w.heap.size w).alloc (Nat.le_refl _) _).trans (hb1.mono (by simp))); clear hb1))
  go_ret
  exact ⟨rfl, HB1.out⟩

set_option maxRecDepth 100000 in
theorem brace_ct : Asks 66 braceP := by
  intro t w
  have cR := Lib.hid (fun w => raw_ct t 10 [123] w)
  obtain ⟨k, r, v, n⟩ := t
  simp only [Tk.cells] at cR ⊢
  replace cR := Lib.hid (show ∀ w, Calls Tryd.prog 103 #[.agg #[.int .i64 k, .string (bs r), .string (bs v), .int .i64 n], .int .i64 10, .string ⟨#[123]⟩] w fun e w' => e = .returned (.bool (braceP ⟨k, r, v, n⟩)) ∧ Below w.heap.size w w' from cR.out)
  go_enter Tryd.func66, Tryd.ntmps66
  go_wp2_with ((go_at_call 103; (with_reducible refine (cR.out _).mono ?_); rintro e W1 ⟨rfl, hb1⟩; have HB1 := Lib.hid (((Below.refl w.heap.size w).alloc (Nat.le_refl _) _).trans (hb1.mono (by simp))); clear hb1))
  go_ret
  exact ⟨rfl, HB1.out⟩


theorem last_at {r : Bs} (h : r ≠ []) : ∃ hlt : (bs r).size - 1 < (bs r).size, r.getLast? = some ((bs r)[(bs r).size - 1]'hlt) := by
  have hp := List.length_pos_iff.2 h
  have h1 : (bs r).size - 1 < (bs r).size := by rw [bs_size]; omega
  refine ⟨h1, ?_⟩
  rw [List.getLast?_eq_some_getLast h, List.getLast_eq_getElem h]
  rfl
theorem byte_is {c : UInt8} {n : Nat} (hn : n < 256) : ((c.toNat : Int) == (n : Int)) = decide (c = UInt8.ofNat n) := by
  rw [Bool.eq_iff_iff]
  simp only [beq_iff_eq, decide_eq_true_eq]
  constructor
  · intro h
    apply UInt8.toNat_inj.1
    rw [UInt8.toNat_ofNat']
    omega
  · rintro rfl
    rw [UInt8.toNat_ofNat']
    omega

set_option maxRecDepth 100000 in
theorem closer_ct (t : Tk) (h : t.raw ≠ []) (hl : t.raw.length ≤ 9223372036854775807) (w : World) : Calls Tryd.prog 104 #[.agg t.cells] w fun e w' => e = .returned (.string (bs (closerP t.raw))) ∧ Below w.heap.size w w' := by
  obtain ⟨k, r, v, n⟩ := t
  have hb := Lib.hid (show Below w.heap.size w (w.alloc (.cells #[.int .i64 k, .string (bs r), .string (bs v), .int .i64 n] 104)) from (Below.refl _ _).alloc (Nat.le_refl _) _)
  simp only at h hl
  obtain ⟨hlt, hc⟩ := last_at h
  have hp : 0 < (bs r).size := List.length_pos_iff.2 h
  have hsz : (bs r).size ≤ 9223372036854775807 := hl
  simp only [Tk.cells, closerP, hc]
  have c1 := byte_is (c := (bs r)[(bs r).size - 1]'hlt) (n := 91) (by decide)
  have c2 := byte_is (c := (bs r)[(bs r).size - 1]'hlt) (n := 123) (by decide)
  clear hc h hl
  by_cases h1 : ((bs r)[(bs r).size - 1]'hlt) = 91
  · have b1 : ((((bs r)[(bs r).size - 1]'hlt).toNat : Int) == 91) = true := c1.trans (by rw [h1]; rfl)
    rw [show (if some ((bs r)[(bs r).size - 1]'hlt) = some 91 then [93] else if some ((bs r)[(bs r).size - 1]'hlt) = some 123 then [125] else [41] : Bs) = [93] from if_pos (congrArg some h1)]
    clear c1 c2 h1
    go_enter Tryd.func104, Tryd.ntmps104
    go_wp2
    go_ret
    exact ⟨rfl, hb.out⟩
  · have b1 : ((((bs r)[(bs r).size - 1]'hlt).toNat : Int) == 91) = false := c1.trans (decide_eq_false h1)
    by_cases h2 : ((bs r)[(bs r).size - 1]'hlt) = 123
    · have b2 : ((((bs r)[(bs r).size - 1]'hlt).toNat : Int) == 123) = true := c2.trans (by rw [h2]; rfl)
      rw [show (if some ((bs r)[(bs r).size - 1]'hlt) = some 91 then [93] else if some ((bs r)[(bs r).size - 1]'hlt) = some 123 then [125] else [41] : Bs) = [125] from (if_neg (fun e => h1 (Option.some.inj e))).trans (if_pos (congrArg some h2))]
      clear c1 c2 h1 h2
      go_enter Tryd.func104, Tryd.ntmps104
      go_wp2
      go_ret
      exact ⟨rfl, hb.out⟩
    · have b2 : ((((bs r)[(bs r).size - 1]'hlt).toNat : Int) == 123) = false := c2.trans (decide_eq_false h2)
      rw [show (if some ((bs r)[(bs r).size - 1]'hlt) = some 91 then [93] else if some ((bs r)[(bs r).size - 1]'hlt) = some 123 then [125] else [41] : Bs) = [41] from (if_neg (fun e => h1 (Option.some.inj e))).trans (if_neg (fun e => h2 (Option.some.inj e)))]
      clear c1 c2 h1 h2
      go_enter Tryd.func104, Tryd.ntmps104
      go_wp2
      go_ret
      exact ⟨rfl, hb.out⟩

end Go.Proofs.YtaihncbejhnceaaDoor.rul

namespace Go.Proofs.YtaihncbejhnceaaDoor.rul
open Go.RowKit Go.Proofs.YtaihncbejhnceaaDoor.base Go.Proofs.YtaihncbejhnceaaDoor.tok
set_option linter.unusedVariables false

theorem add0 (a : Addr) : a.add 0 = a := rfl
/-- where a slice that is cut from i on begins -/
def addrAt (k : Nat) (A : Option Addr) (cap i : Nat) : Option Addr := if cap = i then A else A.map (·.add (i * k))
theorem addr_zero (k : Nat) (A : Option Addr) (cap : Nat) : addrAt k A cap 0 = A := by
  unfold addrAt
  split
  · rfl
  · rw [Nat.zero_mul]; cases A <;> rfl

section
variable {P : Program} {T e : TypeId} {k : Nat}
theorem slice_from (hT : P.underlying T = some (.slice e)) (hs : ∀ w, (sizeOf e).run P w = .ok k w) (A : Option Addr) (n cap : Nat) (i : Int) (h0 : 0 ≤ i) (h1 : i ≤ n) (w : World) :
    (Instr.slice T (.slice A n cap) (some (.int .i64 i)) none none).run P w = .ok (.slice (addrAt k A cap i.toNat) (n - i.toNat) (cap - i.toNat)) w := by
  simp [Instr.slice, Instr.sliceBounds, Instr.sliceBound, run_underlying hT, hs, asIntOf, h0, h1, go_sem, addrAt]
theorem slice_upto (hT : P.underlying T = some (.slice e)) (hs : ∀ w, (sizeOf e).run P w = .ok k w) (A : Option Addr) (n cap : Nat) (j : Int) (h0 : 0 ≤ j) (h1 : j ≤ cap) (w : World) :
    (Instr.slice T (.slice A n cap) none (some (.int .i64 j)) none).run P w = .ok (.slice A j.toNat cap) w := by
  simp [Instr.slice, Instr.sliceBounds, Instr.sliceBound, run_underlying hT, hs, asIntOf, h0, h1, go_sem]
theorem slice_both (hT : P.underlying T = some (.slice e)) (hs : ∀ w, (sizeOf e).run P w = .ok k w) (A : Option Addr) (n cap : Nat) (i j : Int) (h0 : 0 ≤ i) (h1 : i ≤ j) (h2 : j ≤ cap) (w : World) :
    (Instr.slice T (.slice A n cap) (some (.int .i64 i)) (some (.int .i64 j)) none).run P w = .ok (.slice (addrAt k A cap i.toNat) (j.toNat - i.toNat) (cap - i.toNat)) w := by
  have h3 : 0 ≤ j := by omega
  have h5 : ¬ max j 0 < i := by omega
  simp [Instr.slice, Instr.sliceBounds, Instr.sliceBound, run_underlying hT, hs, asIntOf, h2, h3, go_sem, addrAt]
  simp [h0, h5]
end

theorem rd_cut {α : Type} {k : Nat} {f : α → List Value} {w : World} {B : Nat} {A : Option Addr} {n cap i m : Nat} {L : List α} (h : Rd k f w B A n L) (hc : n ≤ cap) (hm : i + m ≤ n) : Rd k f w B (addrAt k A cap i) m ((L.drop i).take m) := by
  refine ⟨by rw [List.length_take, List.length_drop, h.1]; omega, fun h0 => ?_⟩
  obtain ⟨b, off, rfl, hlt, hx⟩ := h.2 (by omega)
  refine ⟨b, off + i * k, ?_, hlt, fun j d hd x hx2 => ?_⟩
  · unfold addrAt
    rw [if_neg (by omega)]
    simp only [Option.map_some, Option.some.injEq]
    unfold Addr.add
    split
    · rename_i hz; rw [hz]; rfl
    · rfl
  · have hj := (List.getElem?_eq_some_iff.1 hd).1
    rw [List.length_take, List.length_drop] at hj
    rw [List.getElem?_take_of_lt (by omega), List.getElem?_drop] at hd
    rw [← hx (i + j) d hd x hx2, Nat.add_mul]
    congr 2
    omega
theorem rd_from {α : Type} {k : Nat} {f : α → List Value} {w : World} {B : Nat} {A : Option Addr} {n cap i : Nat} {L : List α} (h : Rd k f w B A n L) (hc : n ≤ cap) (hi : i ≤ n) : Rd k f w B (addrAt k A cap i) (n - i) (L.drop i) := by
  have := rd_cut h (i := i) (m := n - i) hc (by omega)
  rwa [List.take_of_length_le (by rw [List.length_drop, h.1]; omega)] at this

/-! ### A stack of texts -/
abbrev strV (l : Bs) : Value := .string (bs l)
theorem infoS : (Tryd.prog.info? 9).map (fun i => (i.zero, i.size, i.bytes)) = some (some (.string .empty), 1, 16) := by kernel_rfl
/-- the row without its last ones -/
theorem owns_less {w : World} {base : Nat} {e : TypeId} {a : Option Addr} {n m cap : Nat} {xs : List Value} (h : w.ownsRow base e 1 (.slice a n cap) n xs) (hm : m ≤ n) (h0 : 0 < n) : w.ownsRow base e 1 (.slice a m cap) m (xs.take m) := by
  refine ⟨by rw [List.length_take, h.1]; omega, ?_⟩
  rcases h.2 with ⟨hv, hz⟩ | ⟨g, cap', cur, hv, hb, hg, hc, hcm, hs, ht⟩
  · omega
  · injection hv with h1 h2 h3
    subst h1 h3
    refine .inr ⟨g, cap, cur, rfl, hb, hg, by omega, hcm, hs, ?_⟩
    rw [← ht, List.take_take]
    congr 1
    omega
/-- a row that was just built -/
theorem owns_new {w : World} {base : Nat} {e : TypeId} {x : Value} (hb : base ≤ w.heap.size) : (w.alloc (.cells #[x] e)).ownsRow base e 1 (.slice (some ⟨w.heap.size, 0, none⟩) 1 1) 1 [x] :=
  ⟨rfl, .inr ⟨w.heap.size, 1, #[x], rfl, hb, heap_alloc_new w _, Nat.le_refl _, by decide, rfl, rfl⟩⟩
theorem owns_at {w : World} {base : Nat} {e : TypeId} {a : Option Addr} {n cap : Nat} {xs : List Value} {i : Nat} {x : Value} (h : w.ownsRow base e 1 (.slice a n cap) n xs) (hx : xs[i]? = some x) : ∃ g, a = some ⟨g, 0, none⟩ ∧ g < w.heap.size ∧ base ≤ g ∧ n ≤ cap ∧ w.cell? ⟨g, i, none⟩ = some x := by
  have hi := (List.getElem?_eq_some_iff.1 hx).1
  rw [h.1] at hi
  rcases h.2 with ⟨hv, hz⟩ | ⟨g, cap', cur, hv, hb, hg, hc, _⟩
  · omega
  · injection hv with h1 h2 h3
    subst h1 h3
    have hl := h.lt g rfl
    exact ⟨g, rfl, hl.2, hb, hc, (h.cellAt i hi).trans hx⟩

end Go.Proofs.YtaihncbejhnceaaDoor.rul

namespace Go.Proofs.YtaihncbejhnceaaDoor.rul
open Go.RowKit Go.Proofs.YtaihncbejhnceaaDoor.base Go.Proofs.YtaihncbejhnceaaDoor.tok
set_option linter.unusedVariables false

/-- where what is open closes (the one on top stands last): behind which token -/
def blkP : List Bs → List Tk → Nat → Option Nat
  | _, [], _ => none
  | st, t :: L, i => if opensP t then blkP (st ++ [closerP t.raw]) L (i + 1)
    else if t.k = 11 ∧ st.getLast? = some t.raw then (if st.dropLast = [] then some (i + 1) else blkP st.dropLast L (i + 1))
    else blkP st L (i + 1)
def blkR (n : Nat) : Option Nat → Nat × Bool
  | some e => (e, true)
  | none => (n, false)
/-- the block that begins at a place -/
def blockP (L : List Tk) (i : Nat) : Nat × Bool := blkR L.length (match L[i]? with | some t => blkP [closerP t.raw] (L.drop (i + 1)) (i + 1) | none => none)

theorem blk_open {st : List Bs} {L : List Tk} {i : Nat} {t : Tk} (h : L[i]? = some t) (ho : opensP t = true) : blkP st (L.drop i) i = blkP (st ++ [closerP t.raw]) (L.drop (i + 1)) (i + 1) := by
  obtain ⟨hl, he⟩ := List.getElem?_eq_some_iff.1 h
  rw [List.drop_eq_getElem_cons hl, he, blkP, if_pos ho]
theorem blk_pop {st : List Bs} {L : List Tk} {i : Nat} {t : Tk} (h : L[i]? = some t) (ho : opensP t = false) (hk : t.k = 11) (hr : st.getLast? = some t.raw) : blkP st (L.drop i) i = if st.dropLast = [] then some (i + 1) else blkP st.dropLast (L.drop (i + 1)) (i + 1) := by
  obtain ⟨hl, he⟩ := List.getElem?_eq_some_iff.1 h
  rw [List.drop_eq_getElem_cons hl, he, blkP, if_neg (by simp [ho]), if_pos ⟨hk, hr⟩]
theorem blk_skip {st : List Bs} {L : List Tk} {i : Nat} {t : Tk} (h : L[i]? = some t) (ho : opensP t = false) (hk : ¬ (t.k = 11 ∧ st.getLast? = some t.raw)) : blkP st (L.drop i) i = blkP st (L.drop (i + 1)) (i + 1) := by
  obtain ⟨hl, he⟩ := List.getElem?_eq_some_iff.1 h
  rw [List.drop_eq_getElem_cons hl, he, blkP, if_neg (by simp [ho]), if_neg hk]

def BlkRel (w : World) (L : List Tk) (R : Option Nat) (v x : Value) (wr : World) : Prop :=
  ∃ (i : Nat) (st : List Bs) (top : Bs), i ≤ L.length ∧ x = .int .i64 i ∧ st.length ≤ i ∧ blkP (st ++ [top]) (L.drop i) i = R ∧ wr.ownsRow w.heap.size 9 1 v (st.length + 1) ((st ++ [top]).map strV) ∧ Below w.heap.size w wr

/-- the cells of a token, while others make memory -/
theorem tok_on {w w' : World} {b o : Nat} {k n : Int} {r v : Bs} (hb : Below w.heap.size w w') (hlt : b < w.heap.size) (e0 : w.cell? ⟨b, o, none⟩ = some (.int .i64 k)) (e1 : w.cell? ⟨b, o + 1, none⟩ = some (.string (bs r))) (e2 : w.cell? ⟨b, o + 2, none⟩ = some (.string (bs v))) (e3 : w.cell? ⟨b, o + 3, none⟩ = some (.int .i64 n)) :
    w'.cell? ⟨b, o, none⟩ = some (.int .i64 k) ∧ w'.cell? ⟨b, o + 1, none⟩ = some (.string (bs r)) ∧ w'.cell? ⟨b, o + 2, none⟩ = some (.string (bs v)) ∧ w'.cell? ⟨b, o + 3, none⟩ = some (.int .i64 n) :=
  ⟨(hb.cell (p := ⟨b, o, none⟩) hlt).trans e0, (hb.cell (p := ⟨b, o + 1, none⟩) hlt).trans e1, (hb.cell (p := ⟨b, o + 2, none⟩) hlt).trans e2, (hb.cell (p := ⟨b, o + 3, none⟩) hlt).trans e3⟩

theorem owns_drewN {w : World} {base : Nat} {e : TypeId} {size : Nat} {v : Value} {n : Nat} {xs : List Value} (h : w.ownsRow base e size v n xs) (k : Nat) : (w.drewN k).ownsRow base e size v n xs := h
/-- what is asked of a token, field by field -/
theorem asks_at {f : FuncId} {p : Tk → Bool} (h : Asks f p) {k n : Int} {r v : Bs} {c : Bool} (hc : p ⟨k, r, v, n⟩ = c) (w : World) : Calls Tryd.prog f #[.agg #[.int .i64 k, .string (bs r), .string (bs v), .int .i64 n]] w fun e w' => e = .returned (.bool c) ∧ Below w.heap.size w w' := by
  subst hc
  exact h ⟨k, r, v, n⟩ w
theorem closer_at {k n : Int} {r v : Bs} (h : r ≠ []) (hl : r.length ≤ 1000000) (w : World) : Calls Tryd.prog 104 #[.agg #[.int .i64 k, .string (bs r), .string (bs v), .int .i64 n]] w fun e w' => e = .returned (.string (bs (closerP r))) ∧ Below w.heap.size w w' :=
  closer_ct ⟨k, r, v, n⟩ h (by simp only; omega) w

set_option maxRecDepth 100000 in
set_option maxHeartbeats 4000000 in
theorem block_ct (A : Option Addr) (cap : Nat) (L : List Tk) (a : Nat) (ha : a < L.length) (w : World) (hn : L.length ≤ 1000000) (hL : TRd w w.heap.size A L.length L) (hr : ∀ t ∈ L, t.raw ≠ [] ∧ t.raw.length ≤ 1000000) :
    Calls Tryd.prog 68 #[.slice A L.length cap, .int .i64 a] w fun e w' => e = .returned (.tuple #[.int .i64 ((blockP L a).1 : Nat), .bool (blockP L a).2]) ∧ Below w.heap.size w w' := by
  obtain ⟨i0, hi, hz0, hz1, hz2⟩ := info_parts infoS
  have Hz0 := Lib.hid hz0
  have Hi := Lib.hid hi
  have Hz1 := Lib.hid hz1
  have Hz2 := Lib.hid hz2
  clear hz0 hi hz1 hz2
  have HL := Lib.hid hL
  have HR := Lib.hid hr
  obtain ⟨b, off, t, rfl, hb, hd, e0, e1, e2, e3⟩ := TRd.tok hL ha
  have hbl : blockP L a = blkR L.length (blkP [closerP t.raw] (L.drop (a + 1)) (a + 1)) := by unfold blockP; rw [hd]
  rw [hbl]
  have ht := hr t (List.mem_of_getElem? hd)
  have cC := Lib.hid (fun w => closer_at (k := t.k) (v := t.val) (n := t.num) ht.1 ht.2 w)
  clear hL hr hbl hd ht
  generalize hR : blkP [closerP t.raw] (L.drop (a + 1)) (a + 1) = R
  have HRR := Lib.hid hR
  clear hR
  obtain ⟨tk, tr, tv, tn⟩ := t
  simp only at e0 e1 e2 e3 cC HRR
  have ha1 : (a : Int) < L.length := by omega
  have ha2 : (a : Int) + 1 ≤ 1000000 := by omega
  go_enter Tryd.func68, Tryd.ntmps68
  go_wp2_with ((go_at_call 104; (with_reducible refine (cC.out _).mono ?_); rintro e W0 ⟨rfl, hb0⟩; have HB0 := Lib.hid hb0; clear hb0 e0 e1 e2 e3))
  go_loopw [6, 7] (fun v x wr => BlkRel w L R v x wr) (fun _ x _ => L.length - (intOf x).toNat)
  case atStart => exact ⟨a + 1, [], closerP tr, by omega, by go_num, by simp, HRR.out, owns_new HB0.out.size, HB0.out.alloc HB0.out.size _⟩
  case round =>
    obtain ⟨i, st, top, hil, rfl, hst, hinv, hrow, hbel⟩ := hrel
    have hz := hbel.size
    have HBl := Lib.hid hbel
    have HInv := Lib.hid hinv
    replace hrow := Lib.hid hrow
    obtain ⟨av, cp, rfl⟩ := row_form hrow.out
    clear hinv HRR cC
    by_cases hlt : i < L.length
    · have hlt' : (i : Int) < (L.length : Int) := by omega
      have hi1 : (i : Int) + 1 ≤ 1000000 := by omega
      obtain ⟨b', off', t, hA, hbb, hd, e0, e1, e2, e3⟩ := TRd.tok (HL.out.keep hbel hbel.size) hlt
      obtain ⟨rfl, rfl⟩ : b = b' ∧ off = off' := by simpa using hA
      have ht := HR.out t (List.mem_of_getElem? hd)
      have ht2 : t.raw.length ≤ 1000000 := ht.2
      have HD := Lib.hid hd
      clear hbel hA hd
      obtain ⟨tk, tr, tv, tn⟩ := t
      simp only at e0 e1 e2 e3 ht ht2
      have cK := Lib.hid (fun w => closer_at (k := tk) (v := tv) (n := tn) ht.1 ht2 w)
      cases ho : opensP ⟨tk, tr, tv, tn⟩
      · have cO := Lib.hid (fun w => asks_at opens_ct ho w)
        obtain ⟨g, hg, hgl, hgb, hcp, hgc⟩ := owns_at (i := st.length) (x := strV top) hrow.out (by simp)
        subst hg
        have hq1 : (st.length : Int) + 1 ≤ 1000001 := by omega
        have HGc := Lib.hid hgc
        clear hgc
        by_cases hk : tk = 11
        · subst hk
          by_cases hrt : tr = top
          · subst hrt
            have HStep := Lib.hid (HInv.out.symm.trans (blk_pop (st := st ++ [tr]) HD.out ho rfl (by simp)))
            have Hst := Lib.hid hst
            have HRow := Lib.hid (show st.length + 1 ≤ cp from hcp)
            have p1 := IntWalk.i64_in (st.length : Int) (by omega)
            have p2 := IntWalk.i64_in ((st.length : Int) + 1) (by omega)
            have p3 : IntKind.i64.wrap ((st.length : Int) + 1 - 1) = st.length := by rw [Int.add_sub_cancel]; exact p1
            by_cases hs0 : st = []
            · have HFin := Lib.hid (show R = some (i + 1) by rw [HStep.out, hs0]; rfl)
              have z0 : ((st.length : Int) == 0) = true := by rw [hs0]; rfl
              have hsl := fun w => slice_upto (P := Tryd.prog) (k := 1) Tryd.underlying34 Tryd.sizeOf9 (some ⟨g, 0, none⟩) (st.length + 1) cp (st.length : Int) (by omega) (by omega) w
              simp only [Int.toNat_natCast] at hsl
              clear HD cK ho HStep hs0
              go_wp2_with (go_at_call 102; (with_reducible refine (cO.out _).mono ?_); rintro e W1 ⟨rfl, hb1⟩; have HB1 := Lib.hid (HBl.out.trans (hb1.mono HBl.out.size)); have hrow1 := Lib.hid (row_on hrow.out hb1); obtain ⟨f0, f1, f2, f3⟩ := tok_on hb1 hbb e0 e1 e2 e3; have g1 := (hb1.cell (p := ⟨g, st.length, none⟩) hgl).trans HGc.out; clear hb1 e0 e1 e2 e3)
              clear ht ht2 hn hst hz hil hq1 ha2
              go_quiet (fail)
              go_wp2_with fail
              go_ret2
              exact ⟨by rw [HFin.out]; rfl, below_drewN HB1.out _⟩
            · have z0 : ((st.length : Int) == 0) = false := by simpa using hs0
              have hdl : st.dropLast ++ [st.getLast hs0] = st := List.dropLast_concat_getLast hs0
              have HNew := Lib.hid (show blkP (st.dropLast ++ [st.getLast hs0]) (L.drop (i + 1)) (i + 1) = R by rw [HStep.out, hdl, List.dropLast_concat, if_neg hs0])
              have HLen := Lib.hid (show st.dropLast.length + 1 = st.length by rw [List.length_dropLast]; have := List.length_pos_iff.2 hs0; omega)
              have HDl := Lib.hid hdl
              have hsl := fun w => slice_upto (P := Tryd.prog) (k := 1) Tryd.underlying34 Tryd.sizeOf9 (some ⟨g, 0, none⟩) (st.length + 1) cp (st.length : Int) (by omega) (by omega) w
              simp only [Int.toNat_natCast] at hsl
              generalize hgl0 : st.getLast hs0 = nt at *
              clear HD cK ho HStep hs0 hgl0 hdl
              go_wp2_with (go_at_call 102; (with_reducible refine (cO.out _).mono ?_); rintro e W1 ⟨rfl, hb1⟩; have HB1 := Lib.hid (HBl.out.trans (hb1.mono HBl.out.size)); have hrow1 := Lib.hid (row_on hrow.out hb1); obtain ⟨f0, f1, f2, f3⟩ := tok_on hb1 hbb e0 e1 e2 e3; have g1 := (hb1.cell (p := ⟨g, st.length, none⟩) hgl).trans HGc.out; clear hb1 e0 e1 e2 e3)
              clear ht ht2 hn hst hz hil hq1 ha2
              go_quiet (fail)
              go_wp2_with fail
              go_roundw
              case rel =>
                refine ⟨i + 1, st.dropLast, nt, by omega, by go_num, by have := HLen.out; have := Hst.out; omega, HNew.out, ?_, below_drewN HB1.out _⟩
                have h2 := owns_less hrow1.out (m := st.length) (Nat.le_succ _) (Nat.succ_pos _)
                rw [HDl.out, HLen.out]
                exact owns_drewN (by simpa using h2) _
              case measure => simp [intOf]; omega
          · have b2 : ((bs tr).toList == (bs top).toList) = false := by rw [bs_toList, bs_toList]; simpa using hrt
            have HStep := Lib.hid ((blk_skip (st := st ++ [top]) HD.out ho (by simp; exact fun e => hrt e.symm)).symm.trans HInv.out)
            have Hst := Lib.hid hst
            have p1 := IntWalk.i64_in (st.length : Int) (by omega)
            have p2 := IntWalk.i64_in ((st.length : Int) + 1) (by omega)
            have p3 : IntKind.i64.wrap ((st.length : Int) + 1 - 1) = st.length := by rw [Int.add_sub_cancel]; exact p1
            clear HD cK ho hrt
            go_wp2_with (go_at_call 102; (with_reducible refine (cO.out _).mono ?_); rintro e W1 ⟨rfl, hb1⟩; have HB1 := Lib.hid (HBl.out.trans (hb1.mono HBl.out.size)); have hrow1 := Lib.hid (row_on hrow.out hb1); obtain ⟨f0, f1, f2, f3⟩ := tok_on hb1 hbb e0 e1 e2 e3; have g1 := (hb1.cell (p := ⟨g, st.length, none⟩) hgl).trans HGc.out; clear hb1 e0 e1 e2 e3)
            clear ht ht2 hn hst hz hil hq1 ha2
            go_quiet (fail)
            go_wp2_with fail
            go_roundw
            case rel => exact ⟨i + 1, st, top, by omega, by go_num, by have := Hst.out; omega, HStep.out, owns_drewN hrow1.out _, below_drewN HB1.out _⟩
            case measure => simp [intOf]; omega
        · have b1 : (tk == 11) = false := by simpa using hk
          have HStep := Lib.hid ((blk_skip (st := st ++ [top]) HD.out ho (by simp [hk])).symm.trans HInv.out)
          have Hst := Lib.hid hst
          clear HD cK ho hk
          go_wp2_with (go_at_call 102; (with_reducible refine (cO.out _).mono ?_); rintro e W1 ⟨rfl, hb1⟩; have HB1 := Lib.hid (HBl.out.trans (hb1.mono HBl.out.size)); have hrow1 := Lib.hid (row_on hrow.out hb1); obtain ⟨f0, f1, f2, f3⟩ := tok_on hb1 hbb e0 e1 e2 e3; have g1 := (hb1.cell (p := ⟨g, st.length, none⟩) hgl).trans HGc.out; clear hb1 e0 e1 e2 e3)
          clear ht ht2 hn hst hz hil hq1 ha2
          go_quiet (fail)
          go_wp2_with fail
          go_roundw
          case rel => exact ⟨i + 1, st, top, by omega, by go_num, by have := Hst.out; omega, HStep.out, owns_drewN hrow1.out _, below_drewN HB1.out _⟩
          case measure => simp [intOf]; omega
      · have cO := Lib.hid (fun w => asks_at opens_ct ho w)
        have HStep := Lib.hid ((blk_open (st := st ++ [top]) HD.out ho).symm.trans HInv.out)
        have Hst := Lib.hid hst
        clear HD ho
        go_wp2_with (first
          | (go_at_call 102; (with_reducible refine (cO.out _).mono ?_); rintro e W1 ⟨rfl, hb1⟩; have HB1 := Lib.hid (HBl.out.trans (hb1.mono HBl.out.size)); have hrow1 := Lib.hid (row_on hrow.out hb1); obtain ⟨f0, f1, f2, f3⟩ := tok_on hb1 hbb e0 e1 e2 e3; clear hb1 e0 e1 e2 e3)
          | (go_at_call 104; (with_reducible refine (cK.out _).mono ?_); rintro e W2 ⟨rfl, hb2⟩; have HB2 := Lib.hid (HB1.out.trans (hb2.mono HB1.out.size)); have hrow2 := Lib.hid (row_on hrow1.out hb2); clear hb2 f0 f1 f2 f3)
          | (at_builtin; refine wpList_append_own _ rfl _ _ 34 rfl w.heap.size 9 i0 (.string .empty) 1 16 Tryd.underlying34 Hi.out Hz0.out Hz1.out Hz2.out rfl (by decide) _ _ _ rfl (hrow2.out.alloc _) ⟨W2.heap.size, 0, none⟩ 1 1 [.string (bs (closerP tr))] rfl rfl ?c1 ?c2 ?c3 ?c4 ?c5 ?_))
        case c1 => exact (Blk.new (w := W2) (t := 9) (cs := #[.string (bs (closerP tr))]) rfl).news
        case c2 => simp [Value.oneCell']
        case c3 => unfold maxLen; omega
        case c4 => omega
        case c5 => have := HB2.out.size; simp; omega
        intro v' w3 hown3 hgrow3 hnil3
        have hb3 := Lib.hid (below_app (HB2.out.alloc HB2.out.size _) hgrow3 (hrow2.out.alloc _) (Nat.le_refl _) (by have := HB2.out.size; simp; omega))
        replace hown3 := Lib.hid hown3
        clear hgrow3 hnil3
        go_wp2
        go_roundw
        case rel => exact ⟨i + 1, st ++ [top], closerP tr, by omega, by go_num, by have := Hst.out; simp; omega, HStep.out, by simpa using hown3.out, hb3.out⟩
        case measure => simp [intOf]; omega
    · obtain rfl : i = L.length := by omega
      have hfin := Lib.hid (show R = none by rw [← HInv.out, List.drop_length]; rfl)
      clear hbel
      go_wp2
      go_ret2
      exact ⟨by rw [hfin.out]; rfl, HBl.out⟩

end Go.Proofs.YtaihncbejhnceaaDoor.rul

namespace Go.Proofs.YtaihncbejhnceaaDoor.rul
open Go.RowKit Go.Proofs.YtaihncbejhnceaaDoor.base Go.Proofs.YtaihncbejhnceaaDoor.tok
set_option linter.unusedVariables false

/-- how many tokens close what is open -/
def closeP : List Bs → List Tk → Option Nat
  | _, [] => none
  | st, t :: L => if opensP t then (closeP (st ++ [closerP t.raw]) L).map (· + 1)
    else if t.k = 11 ∧ st.getLast? = some t.raw then (if st.dropLast = [] then some 1 else (closeP st.dropLast L).map (· + 1))
    else (closeP st L).map (· + 1)
theorem blk_close : ∀ (L : List Tk) (st : List Bs) (i : Nat), blkP st L i = (closeP st L).map (i + ·)
  | [], st, i => by simp [blkP, closeP]
  | t :: L, st, i => by
    unfold blkP closeP
    split
    · rw [blk_close L]; cases closeP (st ++ [closerP t.raw]) L <;> simp; omega
    · split
      · split
        · simp
        · rw [blk_close L]; cases closeP st.dropLast L <;> simp; omega
      · rw [blk_close L]; cases closeP st L <;> simp; omega
theorem close_le : ∀ (L : List Tk) (st : List Bs) (e : Nat), closeP st L = some e → 1 ≤ e ∧ e ≤ L.length
  | [], st, e, h => by simp [closeP] at h
  | t :: L, st, e, h => by
    unfold closeP at h
    split at h
    · obtain ⟨x, hx, rfl⟩ := Option.map_eq_some_iff.1 h
      have := close_le L _ x hx
      simp; omega
    · split at h
      · split at h
        · simp at h; subst h; simp
        · obtain ⟨x, hx, rfl⟩ := Option.map_eq_some_iff.1 h
          have := close_le L _ x hx
          simp; omega
      · obtain ⟨x, hx, rfl⟩ := Option.map_eq_some_iff.1 h
        have := close_le L _ x hx
        simp; omega
/-- how many tokens a block has that a token begins; does it end? -/
def blkLen (t : Tk) (L : List Tk) : Nat := match closeP [closerP t.raw] L with | some e => e + 1 | none => L.length + 1
def blkOk (t : Tk) (L : List Tk) : Bool := (closeP [closerP t.raw] L).isSome
theorem blkLen_bd (t : Tk) (L : List Tk) : 1 ≤ blkLen t L ∧ blkLen t L ≤ L.length + 1 := by
  unfold blkLen
  cases h : closeP [closerP t.raw] L with
  | none => simp
  | some e => have := close_le L _ e h; simp; omega
theorem block_is {L : List Tk} {i : Nat} {t : Tk} (h : L[i]? = some t) : blockP L i = (i + blkLen t (L.drop (i + 1)), blkOk t (L.drop (i + 1))) := by
  have hl := (List.getElem?_eq_some_iff.1 h).1
  unfold blockP blkLen blkOk
  rw [h]
  simp only [blk_close]
  cases closeP [closerP t.raw] (L.drop (i + 1)) with
  | none => simp [blkR, List.length_drop]; omega
  | some e => simp [blkR]; omega

/-- the first token outside of blocks for which it is so -/
def findP (p : Tk → Bool) : List Tk → Nat
  | [] => 0
  | t :: L => if p t then 0 else if opensP t then blkLen t L + findP p ((t :: L).drop (blkLen t L)) else 1 + findP p L
termination_by L => L.length
decreasing_by
  · have := blkLen_bd t L; simp; omega
  · simp
theorem findP_nil (p : Tk → Bool) : findP p [] = 0 := by rw [findP]
theorem findP_cons (p : Tk → Bool) (t : Tk) (L : List Tk) : findP p (t :: L) = if p t then 0 else if opensP t then blkLen t L + findP p ((t :: L).drop (blkLen t L)) else 1 + findP p L := by rw [findP]
theorem findP_le (p : Tk → Bool) : ∀ (n : Nat) (L : List Tk), L.length ≤ n → findP p L ≤ L.length
  | 0, L, h => by
    obtain rfl := List.eq_nil_of_length_eq_zero (Nat.le_zero.1 h)
    rw [findP_nil]; exact Nat.le_refl _
  | n + 1, [], h => by rw [findP_nil]; exact Nat.le_refl _
  | n + 1, t :: L, h => by
    rw [findP_cons]
    have hb := blkLen_bd t L
    simp only [List.length_cons] at h ⊢
    split
    · omega
    · split
      · have := findP_le p n ((t :: L).drop (blkLen t L)) (by rw [List.length_drop, List.length_cons]; omega)
        rw [List.length_drop, List.length_cons] at this
        omega
      · have := findP_le p n L (by omega)
        omega
theorem drop_at {L : List Tk} {i : Nat} {t : Tk} (h : L[i]? = some t) : L.drop i = t :: L.drop (i + 1) := by
  obtain ⟨hl, he⟩ := List.getElem?_eq_some_iff.1 h
  rw [List.drop_eq_getElem_cons hl, he]

set_option maxRecDepth 100000 in
set_option maxHeartbeats 4000000 in
theorem find_ct (p : Tk → Bool) (g : Nat) (lb : Array Value) (eg : ∀ args w, (callFunc g args).run Tryd.prog w = .ok (.enter g args) w) (A : Option Addr) (cap : Nat) (L : List Tk) (i : Nat) (hi : i ≤ L.length) (w : World) (hn : L.length ≤ 1000000) (hL : TRd w w.heap.size A L.length L) (hr : ∀ t ∈ L, t.raw ≠ [] ∧ t.raw.length ≤ 1000000)
    (hp : ∀ W, Below w.heap.size w W → ∀ (k n : Int) (r v : Bs), Calls Tryd.prog g (#[.agg #[.int .i64 k, .string (bs r), .string (bs v), .int .i64 n]] ++ lb) W fun e w' => e = .returned (.bool (p ⟨k, r, v, n⟩)) ∧ Below W.heap.size W w') :
    Calls Tryd.prog 64 #[.slice A L.length cap, .int .i64 i, .func (.func g) #[] lb] w fun e w' => e = .returned (.int .i64 ((i + findP p (L.drop i) : Nat) : Int)) ∧ Below w.heap.size w w' := by
  have HL := Lib.hid hL
  have HR := Lib.hid hr
  have HP := Lib.hid hp
  generalize hR : i + findP p (L.drop i) = R
  have HRR := Lib.hid hR
  clear hL hr hp hR
  go_enter Tryd.func64, Tryd.ntmps64
  go_wp2_with fail
  go_loopw [1] (fun x wr => ∃ j : Nat, j ≤ L.length ∧ x = .int .i64 j ∧ j + findP p (L.drop j) = R ∧ Below w.heap.size w wr) (fun x _ => L.length - (intOf x).toNat)
  case atStart => exact ⟨i, hi, rfl, HRR.out, Below.refl _ _⟩
  case round =>
    obtain ⟨j, hj, rfl, hinv, hbel⟩ := hrel
    have HBl := Lib.hid hbel
    have HInv := Lib.hid hinv
    have hz := hbel.size
    clear hinv HRR hi
    by_cases hlt : j < L.length
    · have hlt' : (j : Int) < (L.length : Int) := by omega
      have hj1 : (j : Int) + 1 ≤ 1000000 := by omega
      obtain ⟨b, off, t, rfl, hbb, hd, e0, e1, e2, e3⟩ := TRd.tok (HL.out.keep hbel hbel.size) hlt
      have HLk := Lib.hid (HL.out.keep hbel hbel.size)
      have HD := Lib.hid hd
      have hcons := findP_cons p t (L.drop (j + 1))
      rw [← drop_at hd] at hcons
      have hblk := block_is hd
      have hbd := blkLen_bd t (L.drop (j + 1))
      rw [List.length_drop] at hbd
      clear hbel hd
      have cP := fun W hW => HP.out W hW t.k t.num t.raw t.val
      obtain ⟨tk, tr, tv, tn⟩ := t
      simp only at e0 e1 e2 e3 cP
      cases hpt : p ⟨tk, tr, tv, tn⟩
      · rw [hpt] at cP hcons
        replace cP := Lib.hid cP
        have cB := Lib.hid (fun (W : World) (hW : TRd W W.heap.size (some ⟨b, off, none⟩) L.length L) => block_ct (some ⟨b, off, none⟩) cap L j hlt W hn hW HR.out)
        rw [hblk] at cB
        simp only at cB
        cases ho : opensP ⟨tk, tr, tv, tn⟩
        · have cO := Lib.hid (fun w => asks_at opens_ct ho w)
          rw [ho] at hcons
          have HNew := Lib.hid (show j + 1 + findP p (L.drop (j + 1)) = R by rw [← HInv.out, hcons]; simp; omega)
          clear hcons hblk hbd ho hpt
          go_wp2_with (first
            | (go_at_fn g; (with_reducible refine (cP.out _ HBl.out).mono ?_); rintro e W1 ⟨rfl, hb1⟩; have HB1 := Lib.hid (HBl.out.trans (hb1.mono HBl.out.size)); have hz1 := hb1.size; obtain ⟨f0, f1, f2, f3⟩ := tok_on hb1 hbb e0 e1 e2 e3; clear hb1 e0 e1 e2 e3)
            | (go_at_call 102; (with_reducible refine (cO.out _).mono ?_); rintro e W2 ⟨rfl, hb2⟩; have HB2 := Lib.hid (HB1.out.trans (hb2.mono HB1.out.size)); clear hb2 f0 f1 f2 f3))
          go_roundw
          case rel => exact ⟨j + 1, by omega, by go_num, HNew.out, HB2.out⟩
          case measure => simp [intOf]; omega
        · have cO := Lib.hid (fun w => asks_at opens_ct ho w)
          rw [ho] at hcons
          generalize hq : blkLen ⟨tk, tr, tv, tn⟩ (L.drop (j + 1)) = q at *
          generalize hok : blkOk ⟨tk, tr, tv, tn⟩ (L.drop (j + 1)) = ok at *
          have HNew := Lib.hid (show j + q + findP p (L.drop (j + q)) = R by rw [← HInv.out, hcons]; simp only [if_true, Bool.false_eq_true, if_false, List.drop_drop]; omega)
          have hq1 : 1 ≤ q := hbd.1
          have hq2 : j + q ≤ L.length := by omega
          clear hcons hblk hbd ho hpt hq hok
          go_wp2_with (first
            | (go_at_fn g; (with_reducible refine (cP.out _ HBl.out).mono ?_); rintro e W1 ⟨rfl, hb1⟩; have HB1 := Lib.hid (HBl.out.trans (hb1.mono HBl.out.size)); have hz1 := hb1.size; obtain ⟨f0, f1, f2, f3⟩ := tok_on hb1 hbb e0 e1 e2 e3; clear hb1 e0 e1 e2 e3)
            | (go_at_call 102; (with_reducible refine (cO.out _).mono ?_); rintro e W2 ⟨rfl, hb2⟩; have HB2 := Lib.hid (HB1.out.trans (hb2.mono HB1.out.size)); clear hb2 f0 f1 f2 f3)
            | (go_at_call 68; (with_reducible refine (cB.out _ (HL.out.keep HB2.out HB2.out.size)).mono ?_); rintro e W3 ⟨rfl, hb3⟩; have HB3 := Lib.hid (HB2.out.trans (hb3.mono HB2.out.size)); clear hb3))
          go_roundw
          case rel => exact ⟨j + q, hq2, by go_num, HNew.out, HB3.out⟩
          case measure => simp [intOf]; omega
      · rw [hpt] at cP hcons
        replace cP := Lib.hid cP
        have HFin := Lib.hid (show R = j by rw [← HInv.out, hcons]; simp)
        clear hcons hblk hbd hpt
        go_wp2_with (first
          | (go_at_fn g; (with_reducible refine (cP.out _ HBl.out).mono ?_); rintro e W1 ⟨rfl, hb1⟩; have HB1 := Lib.hid (HBl.out.trans (hb1.mono HBl.out.size)); clear hb1 e0 e1 e2 e3))
        go_ret
        exact ⟨by rw [HFin.out]; rfl, HB1.out⟩
    · obtain rfl : j = L.length := by omega
      have hfin := Lib.hid (show R = L.length by rw [← HInv.out, List.drop_length, findP_nil]; rfl)
      clear hbel
      go_wp2
      go_ret
      exact ⟨by rw [hfin.out]; rfl, HBl.out⟩

end Go.Proofs.YtaihncbejhnceaaDoor.rul

namespace Go.Proofs.YtaihncbejhnceaaDoor.rul
open Go.RowKit Go.Proofs.YtaihncbejhnceaaDoor.base Go.Proofs.YtaihncbejhnceaaDoor.tok
set_option linter.unusedVariables false

/-- a slice of tokens -/
def TS (w : World) (v : Value) (L : List Tk) : Prop := ∃ A cap, v = .slice A L.length cap ∧ L.length ≤ cap ∧ TRd w w.heap.size A L.length L
theorem TS.on {w w' : World} {v : Value} {L : List Tk} (h : TS w v L) (hb : Below w.heap.size w w') : TS w' v L := by
  obtain ⟨A, cap, rfl, hc, hr⟩ := h
  exact ⟨A, cap, rfl, hc, Rd.keep hr hb hb.size⟩
theorem ts_cut {w : World} {A : Option Addr} {cap n i m : Nat} {L : List Tk} (h : TRd w w.heap.size A n L) (hc : n ≤ cap) (hm : i + m ≤ n) : TS w (.slice (addrAt 4 A cap i) m (cap - i)) ((L.drop i).take m) := by
  have hl : ((L.drop i).take m).length = m := by rw [List.length_take, List.length_drop, h.1]; omega
  refine ⟨addrAt 4 A cap i, cap - i, by rw [hl], by omega, ?_⟩
  rw [hl]
  exact rd_cut h hc hm
theorem ts_upto {w : World} {A : Option Addr} {cap n m : Nat} {L : List Tk} (h : TRd w w.heap.size A n L) (hc : n ≤ cap) (hm : m ≤ n) : TS w (.slice A m cap) (L.take m) := by
  have := ts_cut h hc (i := 0) (m := m) (by omega)
  rwa [addr_zero, Nat.sub_zero, List.drop_zero] at this
theorem ts_from {w : World} {A : Option Addr} {cap n i : Nat} {L : List Tk} (h : TRd w w.heap.size A n L) (hc : n ≤ cap) (hi : i ≤ n) : TS w (.slice (addrAt 4 A cap i) (n - i) (cap - i)) (L.drop i) := by
  have := ts_cut h hc (i := i) (m := n - i) (by omega)
  rwa [List.take_of_length_le (by rw [List.length_drop, h.1]; omega)] at this

/-- without what is silent at both ends -/
def endP (L : List Tk) : List Tk := (L.reverse.dropWhile silP).reverse
def solidP (L : List Tk) : List Tk := endP (L.dropWhile silP)
theorem endP_snoc (L : List Tk) (t : Tk) : endP (L ++ [t]) = if silP t then endP L else L ++ [t] := by
  unfold endP
  rw [List.reverse_append]
  simp only [List.reverse_cons, List.reverse_nil, List.nil_append, List.singleton_append, List.dropWhile_cons]
  split <;> simp
theorem endP_nil : endP [] = [] := rfl

def lenOf : Value → Nat
  | .slice _ n _ => n
  | _ => 0

set_option maxRecDepth 100000 in
set_option maxHeartbeats 4000000 in
theorem solid_ct (v : Value) (L : List Tk) (w0 w : World) (hn : L.length ≤ 1000000) (hL : TS w0 v L) (hb0 : Below w0.heap.size w0 w) :
    Calls Tryd.prog 63 #[v] w fun e w' => (∃ v', e = .returned v' ∧ TS w0 v' (solidP L)) ∧ Below w.heap.size w w' := by
  have HL := Lib.hid hL
  have HB0 := Lib.hid hb0
  clear hL hb0
  go_enter Tryd.func63, Tryd.ntmps63
  go_wp2_with fail
  go_loopw [0] (fun x wr => ∃ M : List Tk, M.length ≤ 1000000 ∧ TS w0 x M ∧ M.dropWhile silP = L.dropWhile silP ∧ Below w.heap.size w wr) (fun x _ => lenOf x)
  case atStart => exact ⟨L, hn, HL.out, rfl, Below.refl _ _⟩
  case round =>
    obtain ⟨M, hM, hts, hinv, hbel⟩ := hrel
    obtain ⟨A, cap, rfl, hc, hrd0⟩ := hts
    have hB0 := HB0.out.trans (hbel.mono HB0.out.size)
    have hrd := Rd.keep hrd0 hB0 hB0.size
    have HRd0 := Lib.hid hrd0
    clear hB0 hrd0
    have HBl := Lib.hid hbel
    have HInv := Lib.hid hinv
    have HRd := Lib.hid hrd
    clear hbel hinv HL hn
    by_cases hex : 0 < M.length ∧ ∃ t, M[0]? = some t ∧ silP t = true
    · obtain ⟨h0, t, hd, hs⟩ := hex
      obtain ⟨b, off, t', rfl, hbb, hd', e0, e1, e2, e3⟩ := TRd.tok hrd h0
      obtain rfl : t = t' := Option.some.inj (hd.symm.trans hd')
      simp only [Nat.zero_mul, Nat.add_zero] at e0 e1 e2 e3
      have hz : (0 : Int) < M.length := by omega
      have HTs := Lib.hid (ts_from HRd0.out hc (i := 1) h0)
      have hsl := fun w => slice_from (P := Tryd.prog) (k := 4) Tryd.underlying67 Tryd.sizeOf104 (some ⟨b, off, none⟩) M.length cap 1 (by omega) (by omega) w
      simp only [show (1 : Int).toNat = 1 from rfl] at hsl
      have HNew := Lib.hid (show (M.drop 1).dropWhile silP = L.dropWhile silP by
        have hM : M = t :: M.drop 1 := by simpa using drop_at hd
        rw [← HInv.out, hM, List.dropWhile_cons, if_pos hs]
        rfl)
      have hln : (M.drop 1).length = M.length - 1 := List.length_drop
      obtain ⟨tk, tr, tv, tn⟩ := t
      have cS := Lib.hid (fun w => asks_at silent_ct hs w)
      simp only at e0 e1 e2 e3
      clear hd hd' hs hrd
      go_wp2_with (first
        | (go_at_call 101; (with_reducible refine (cS.out _).mono ?_); rintro e W1 ⟨rfl, hb1⟩; have HB1 := Lib.hid (HBl.out.trans (hb1.mono HBl.out.size)); clear hb1 e0 e1 e2 e3))
      go_roundw
      case rel => exact ⟨M.drop 1, by omega, HTs.out, HNew.out, HB1.out⟩
      case measure => simp only [lenOf]; omega
    · have HM := Lib.hid (show L.dropWhile silP = M by
        rw [← HInv.out]
        cases M with
        | nil => rfl
        | cons t M =>
          rw [List.dropWhile_cons, if_neg]
          exact fun h => hex ⟨by simp, t, rfl, h⟩)
      have HStart : TS w0 (.slice A M.length cap) M := ⟨A, cap, rfl, hc, HRd0.out⟩
      by_cases h0 : M.length = 0
      · have hz : ¬ (0 : Int) < M.length := by omega
        obtain ⟨W1, hW1⟩ : ∃ W1, W1 = wr := ⟨_, rfl⟩
        subst hW1
        have HT1 := Lib.hid HStart
        have HB1 := HBl
        clear HStart hex hrd HRd HInv h0
        go_wp2_with fail
        go_loopw [0] (fun x wx => ∃ N : List Tk, N.length ≤ 1000000 ∧ TS w0 x N ∧ endP N = solidP L ∧ Below w.heap.size w wx) (fun x _ => lenOf x)
        case atStart => exact ⟨M, hM, HT1.out, by unfold solidP; rw [HM.out], HB1.out⟩
        case round =>
          obtain ⟨N, hN, hts, hinv, hbel⟩ := hrel
          obtain ⟨A2, cap2, rfl, hc2, hrd20⟩ := hts
          have hB2 := HB0.out.trans (hbel.mono HB0.out.size)
          have hrd2 := Rd.keep hrd20 hB2 hB2.size
          have HRd20 := Lib.hid hrd20
          clear hB2 hrd20
          have HBl2 := Lib.hid hbel
          have HInv2 := Lib.hid hinv
          clear hbel hinv HM HT1 HB1 HBl hM hc hz
          rcases List.eq_nil_or_concat N with rfl | ⟨K, t, hK⟩
          · have HFin := Lib.hid (show solidP L = [] from HInv2.out.symm)
            have HTf := Lib.hid (show TS w0 (.slice A2 ([] : List Tk).length cap2) [] from ⟨A2, cap2, rfl, hc2, HRd20.out⟩)
            simp only [List.length_nil] at HTf ⊢
            clear hrd2 hc2
            go_wp2_with fail
            go_ret
            exact ⟨⟨_, rfl, by rw [HFin.out]; exact HTf.out⟩, HBl2.out⟩
          · rw [List.concat_eq_append] at hK
            subst hK
            have hlen : (K ++ [t]).length = K.length + 1 := by simp
            rw [hlen] at hrd2 hc2 hN ⊢
            obtain ⟨b2, off2, t', rfl, hbb2, hd2, e0, e1, e2, e3⟩ := TRd.tok hrd2 (k := K.length) (by omega)
            obtain rfl : t = t' := by simpa using hd2
            have hz2 : (0 : Int) < (K.length : Int) + 1 := by omega
            have hz3 : (K.length : Int) + 1 ≤ 1000001 := by omega
            have HFull := Lib.hid (show TS w0 (.slice (some ⟨b2, off2, none⟩) (K.length + 1) cap2) (K ++ [t]) from ⟨_, cap2, by rw [hlen], by omega, HRd20.out⟩)
            have HCut := Lib.hid (show TS w0 (.slice (some ⟨b2, off2, none⟩) K.length cap2) K by
              have := ts_upto HRd20.out (cap := cap2) (by omega) (m := K.length) (by omega)
              rwa [List.take_left] at this)
            have HEnd := Lib.hid (endP_snoc K t)
            have hsl := fun w => slice_upto (P := Tryd.prog) (k := 4) Tryd.underlying67 Tryd.sizeOf104 (some ⟨b2, off2, none⟩) (K.length + 1) cap2 (K.length : Int) (by omega) (by omega) w
            simp only [Int.toNat_natCast] at hsl
            obtain ⟨tk, tr, tv, tn⟩ := t
            simp only at e0 e1 e2 e3
            clear hd2 hrd2 hlen
            cases hs : silP ⟨tk, tr, tv, tn⟩
            · have cS := Lib.hid (fun w => asks_at silent_ct hs w)
              have HFin := Lib.hid (show solidP L = K ++ [⟨tk, tr, tv, tn⟩] by rw [← HInv2.out, HEnd.out, hs]; rfl)
              clear hs
              go_wp2_with (first
                | (go_at_call 101; (with_reducible refine (cS.out _).mono ?_); rintro e W3 ⟨rfl, hb3⟩; have HB3 := Lib.hid (HBl2.out.trans (hb3.mono HBl2.out.size)); have HT3 := HFull; clear hb3 e0 e1 e2 e3))
              go_ret
              exact ⟨⟨_, rfl, by rw [HFin.out]; exact HT3.out⟩, HB3.out⟩
            · have cS := Lib.hid (fun w => asks_at silent_ct hs w)
              have HNew := Lib.hid (show endP K = solidP L by rw [← HInv2.out, HEnd.out, hs]; rfl)
              clear hs
              go_wp2_with (first
                | (go_at_call 101; (with_reducible refine (cS.out _).mono ?_); rintro e W3 ⟨rfl, hb3⟩; have HB3 := Lib.hid (HBl2.out.trans (hb3.mono HBl2.out.size)); have HT3 := HCut; clear hb3 e0 e1 e2 e3))
              go_roundw
              case rel => exact ⟨K, by omega, HT3.out, HNew.out, HB3.out⟩
              case measure => simp only [lenOf]; omega
      · obtain ⟨b, off, t, rfl, hbb, hd, e0, e1, e2, e3⟩ := TRd.tok hrd (k := 0) (by omega)
        simp only [Nat.zero_mul, Nat.add_zero] at e0 e1 e2 e3
        have hz : (0 : Int) < M.length := by omega
        have hs : silP t = false := by
          cases hh : silP t
          · rfl
          · exact absurd ⟨by omega, t, hd, hh⟩ hex
        obtain ⟨tk, tr, tv, tn⟩ := t
        have cS := Lib.hid (fun w => asks_at silent_ct hs w)
        simp only at e0 e1 e2 e3
        have HSt := Lib.hid HStart
        clear hd hs hrd hex HStart HRd HInv
        go_wp2_with (first
          | (go_at_call 101; (with_reducible refine (cS.out _).mono ?_); rintro e W1 ⟨rfl, hb1⟩; have HB1 := Lib.hid (HBl.out.trans (hb1.mono HBl.out.size)); have HT1 := HSt; clear hb1 e0 e1 e2 e3))
        go_loopw [0] (fun x wx => ∃ N : List Tk, N.length ≤ 1000000 ∧ TS w0 x N ∧ endP N = solidP L ∧ Below w.heap.size w wx) (fun x _ => lenOf x)
        case atStart => exact ⟨M, hM, HT1.out, by unfold solidP; rw [HM.out], HB1.out⟩
        case round =>
          obtain ⟨N, hN, hts, hinv, hbel⟩ := hrel
          obtain ⟨A2, cap2, rfl, hc2, hrd20⟩ := hts
          have hB2 := HB0.out.trans (hbel.mono HB0.out.size)
          have hrd2 := Rd.keep hrd20 hB2 hB2.size
          have HRd20 := Lib.hid hrd20
          clear hB2 hrd20
          have HBl2 := Lib.hid hbel
          have HInv2 := Lib.hid hinv
          clear hbel hinv HM HT1 HB1 HBl hM hc hz
          rcases List.eq_nil_or_concat N with rfl | ⟨K, t, hK⟩
          · have HFin := Lib.hid (show solidP L = [] from HInv2.out.symm)
            have HTf := Lib.hid (show TS w0 (.slice A2 ([] : List Tk).length cap2) [] from ⟨A2, cap2, rfl, hc2, HRd20.out⟩)
            simp only [List.length_nil] at HTf ⊢
            clear hrd2 hc2
            go_wp2_with fail
            go_ret
            exact ⟨⟨_, rfl, by rw [HFin.out]; exact HTf.out⟩, HBl2.out⟩
          · rw [List.concat_eq_append] at hK
            subst hK
            have hlen : (K ++ [t]).length = K.length + 1 := by simp
            rw [hlen] at hrd2 hc2 hN ⊢
            obtain ⟨b2, off2, t', rfl, hbb2, hd2, e0, e1, e2, e3⟩ := TRd.tok hrd2 (k := K.length) (by omega)
            obtain rfl : t = t' := by simpa using hd2
            have hz2 : (0 : Int) < (K.length : Int) + 1 := by omega
            have hz3 : (K.length : Int) + 1 ≤ 1000001 := by omega
            have HFull := Lib.hid (show TS w0 (.slice (some ⟨b2, off2, none⟩) (K.length + 1) cap2) (K ++ [t]) from ⟨_, cap2, by rw [hlen], by omega, HRd20.out⟩)
            have HCut := Lib.hid (show TS w0 (.slice (some ⟨b2, off2, none⟩) K.length cap2) K by
              have := ts_upto HRd20.out (cap := cap2) (by omega) (m := K.length) (by omega)
              rwa [List.take_left] at this)
            have HEnd := Lib.hid (endP_snoc K t)
            have hsl := fun w => slice_upto (P := Tryd.prog) (k := 4) Tryd.underlying67 Tryd.sizeOf104 (some ⟨b2, off2, none⟩) (K.length + 1) cap2 (K.length : Int) (by omega) (by omega) w
            simp only [Int.toNat_natCast] at hsl
            obtain ⟨tk, tr, tv, tn⟩ := t
            simp only at e0 e1 e2 e3
            clear hd2 hrd2 hlen
            cases hs : silP ⟨tk, tr, tv, tn⟩
            · have cS := Lib.hid (fun w => asks_at silent_ct hs w)
              have HFin := Lib.hid (show solidP L = K ++ [⟨tk, tr, tv, tn⟩] by rw [← HInv2.out, HEnd.out, hs]; rfl)
              clear hs
              go_wp2_with (first
                | (go_at_call 101; (with_reducible refine (cS.out _).mono ?_); rintro e W3 ⟨rfl, hb3⟩; have HB3 := Lib.hid (HBl2.out.trans (hb3.mono HBl2.out.size)); have HT3 := HFull; clear hb3 e0 e1 e2 e3))
              go_ret
              exact ⟨⟨_, rfl, by rw [HFin.out]; exact HT3.out⟩, HB3.out⟩
            · have cS := Lib.hid (fun w => asks_at silent_ct hs w)
              have HNew := Lib.hid (show endP K = solidP L by rw [← HInv2.out, HEnd.out, hs]; rfl)
              clear hs
              go_wp2_with (first
                | (go_at_call 101; (with_reducible refine (cS.out _).mono ?_); rintro e W3 ⟨rfl, hb3⟩; have HB3 := Lib.hid (HBl2.out.trans (hb3.mono HBl2.out.size)); have HT3 := HCut; clear hb3 e0 e1 e2 e3))
              go_roundw
              case rel => exact ⟨K, by omega, HT3.out, HNew.out, HB3.out⟩
              case measure => simp only [lenOf]; omega

end Go.Proofs.YtaihncbejhnceaaDoor.rul

namespace Go.Proofs.YtaihncbejhnceaaDoor.rul
open Go.RowKit Go.Proofs.YtaihncbejhnceaaDoor.base Go.Proofs.YtaihncbejhnceaaDoor.tok
set_option linter.unusedVariables false

set_option maxRecDepth 100000 in
set_option maxHeartbeats 2000000 in
theorem lower_ct (s : ByteArray) (hs : s.size ≤ 140737488355328) (w : World) : Calls Tryd.prog 188 #[.string s] w fun e w' => e = .returned (.string (bs (s.data.toList.map lowB))) ∧ Below w.heap.size w w' := by
  have hz := Lib.hid (Lib.size_eq s)
  go_enter Tryd.func188, Tryd.ntmps188
  go_wp2_with fail
  obtain ⟨cp, W1, hcv, hb1, hz1, hby, hfy⟩ := bytes_of s w
  rw [hcv]
  simp only [Result.andThen]
  rw [Oper.upon_value]
  have hB0 := Lib.hid (show BytesAt W1 w.heap.size s.data.toList from ⟨hby, fun j hj => hfy j (by rw [hz.out]; exact hj)⟩)
  replace hb1 := Lib.hid hb1
  clear hcv hby hfy
  go_wp2_with fail
  go_loopw [10] (fun i wr => ∃ k : Nat, k ≤ s.size ∧ i = .int .i64 k ∧ BytesAt wr w.heap.size (lowAt s.data.toList k) ∧ W1.grownBy wr (some w.heap.size)) (fun i _ => s.size - (intOf i).toNat)
  case atStart => exact ⟨0, by omega, rfl, by simpa [lowAt] using hB0.out, World.grownBy.refl _ _⟩
  case round =>
    obtain ⟨k, hk, rfl, hby, hgr⟩ := hrel
    replace hgr := Lib.hid hgr
    by_cases hlt : k < s.size
    · have hlt' : (k : Int) < (s.size : Int) := by omega
      obtain ⟨c, hc⟩ : ∃ c, s.data.toList[k]? = some c := ⟨s.data.toList[k]'(by rw [← Lib.size_eq]; exact hlt), List.getElem?_eq_getElem _⟩
      have hkl : k < (lowAt s.data.toList k).length := by rw [lowAt_len, ← Lib.size_eq]; exact hlt
      have hcell := hby.1 k c (lowAt_get hc)
      have hfr := hby.2 k hkl
      have hst := Lib.hid (lowAt_step hc)
      have hsm := Lib.hid (set_same (lowAt_get hc))
      have hby' := Lib.hid hby
      have c0 := nv_nn c
      have c1 := nv_lt c
      clear hc hby
      by_cases h1 : 65 ≤ nv c
      · by_cases h2 : nv c ≤ 90
        · have hlo := Lib.hid (lowB_great ⟨h1, h2⟩)
          generalize hx : nv c = x at *
          replace hx := Lib.hid hx
          go_wp2_with fail
          go_roundw
          case rel =>
            refine ⟨k + 1, by omega, by go_num, ?_, hgr.out.trans (grown_set _ _ _ _)⟩
            rw [hst.out]
            exact hby'.out.put hkl hlo.out.symm
          case measure => simp [intOf]; omega
        · have hlo := Lib.hid (lowB_other (c := c) (fun h => h2 h.2))
          generalize hx : nv c = x at *
          replace hx := Lib.hid hx
          go_wp2_with fail
          go_roundw
          case rel => exact ⟨k + 1, by omega, by go_num, by rw [hst.out, hlo.out, hsm.out]; exact hby'.out, hgr.out⟩
          case measure => simp [intOf]; omega
      · have hlo := Lib.hid (lowB_other (c := c) (fun h => h1 h.1))
        generalize hx : nv c = x at *
        replace hx := Lib.hid hx
        go_wp2_with fail
        go_roundw
        case rel => exact ⟨k + 1, by omega, by go_num, by rw [hst.out, hlo.out, hsm.out]; exact hby'.out, hgr.out⟩
        case measure => simp [intOf]; omega
    · obtain rfl : k = s.size := by omega
      have hfin : lowAt s.data.toList s.size = s.data.toList.map lowB := by rw [Lib.size_eq]; exact lowAt_end _
      have hln : (s.data.toList.map lowB).length = s.size := by rw [List.length_map, Lib.size_eq]
      have hcv : ∀ cap, (convert 62 9 (.slice (some ⟨w.heap.size, 0, none⟩) s.size cap)).run Tryd.prog wr = .ok (.string (bs (s.data.toList.map lowB))) wr := fun cap => by
        have := run_convert_bytes_back wr 62 9 5 ⟨w.heap.size, 0, none⟩ cap (s.data.toList.map lowB) Tryd.underlying62 Tryd.underlying5 Tryd.underlying9 (fun j hj => by
          rw [add_zero_block]
          have hb2 := hby.1
          rw [hfin] at hb2
          exact hb2 j _ (List.getElem?_eq_getElem hj))
        rw [hln] at this
        exact this
      have hB := Lib.hid (below_grow hb1.out hgr.out (Nat.le_refl _) (by have := hb1.out.size; omega))
      clear hby hfin hln
      go_wp2
      go_ret
      exact ⟨rfl, hB.out⟩


/-- is a name one token that says it? -/
def oneP (s : Bs) : List Tk → Bool
  | [t] => decide (t.k = 1) && decide (t.val = s) && decide (t.raw = s)
  | _ => false
def plainP (s : Bs) : Bool := oneP s (cutP s)

set_option maxRecDepth 100000 in
set_option maxHeartbeats 4000000 in
theorem plain_ct (s : Bs) (hs : s.length ≤ 1000000) (w : World) (hm : MaxL w) :
    Calls Tryd.prog 190 #[.string (bs s)] w fun e w' => e = .returned (.bool (plainP s)) ∧ Below w.heap.size w w' := by
  have cC := fun w hm => cut_ct (bs s) (by rw [bs_size]; omega) w hm
  unfold plainP
  rw [show (bs s).data.toList = s from rfl] at cC
  generalize cutP s = L at *
  replace cC := Lib.hid cC
  by_cases hl : L.length = 1
  · obtain ⟨⟨k, r, v, n⟩, rfl⟩ : ∃ t, L = [t] := List.length_eq_one_iff.1 hl
    simp only [oneP, List.length_cons, List.length_nil, Nat.zero_add] at cC ⊢
    clear hl
    have cD : ∀ w, MaxL w → Calls Tryd.prog 32 #[.string (bs s)] w fun e w' => (∃ b off cap, e = .returned (.slice (some ⟨b, off, none⟩) 1 cap) ∧ b < w'.heap.size ∧ w'.cell? ⟨b, off, none⟩ = some (.int .i64 k) ∧ w'.cell? ⟨b, off + 1, none⟩ = some (.string (bs r)) ∧ w'.cell? ⟨b, off + 2, none⟩ = some (.string (bs v)) ∧ w'.cell? ⟨b, off + 3, none⟩ = some (.int .i64 n)) ∧ Below w.heap.size w w' := fun w hm =>
      (cC.out w hm).mono fun e w' ⟨⟨A, cap, he, _, hr⟩, hb⟩ => by
        obtain ⟨b, off, t, rfl, hlt, hd, e0, e1, e2, e3⟩ := TRd.tok hr (k := 0) (by decide)
        obtain rfl : (⟨k, r, v, n⟩ : Tk) = t := by simpa using hd
        simp only [Nat.zero_mul, Nat.add_zero] at e0 e1 e2 e3
        exact ⟨⟨b, off, cap, he, hlt, e0, e1, e2, e3⟩, hb⟩
    replace cD := Lib.hid cD
    have HM := Lib.hid hm
    clear cC hm
    by_cases h1 : k = 1
    · subst h1
      by_cases h2 : v = s
      · subst h2
        by_cases h3 : r = v
        · subst h3
          go_enter Tryd.func190, Tryd.ntmps190
          go_wp2_with ((go_at_call 32; (with_reducible refine (cD.out _ HM.out).mono ?_); rintro e W1 ⟨⟨b, off, cap, rfl, hlt, e0, e1, e2, e3⟩, hb1⟩; have HB1 := Lib.hid hb1; clear hb1))
          go_ret
          exact ⟨by simp, HB1.out⟩
        · have b3 : ((bs r).toList == (bs v).toList) = false := by rw [bs_toList, bs_toList]; simpa using h3
          rw [decide_eq_false h3]
          go_enter Tryd.func190, Tryd.ntmps190
          go_wp2_with ((go_at_call 32; (with_reducible refine (cD.out _ HM.out).mono ?_); rintro e W1 ⟨⟨b, off, cap, rfl, hlt, e0, e1, e2, e3⟩, hb1⟩; have HB1 := Lib.hid hb1; clear hb1))
          go_ret
          exact ⟨by simp, HB1.out⟩
      · have b2 : ((bs v).toList == (bs s).toList) = false := by rw [bs_toList, bs_toList]; simpa using h2
        rw [decide_eq_false h2]
        go_enter Tryd.func190, Tryd.ntmps190
        go_wp2_with ((go_at_call 32; (with_reducible refine (cD.out _ HM.out).mono ?_); rintro e W1 ⟨⟨b, off, cap, rfl, hlt, e0, e1, e2, e3⟩, hb1⟩; have HB1 := Lib.hid hb1; clear hb1))
        go_ret
        exact ⟨by simp, HB1.out⟩
    · have b1 : (k == 1) = false := by simpa using h1
      rw [decide_eq_false h1]
      go_enter Tryd.func190, Tryd.ntmps190
      go_wp2_with ((go_at_call 32; (with_reducible refine (cD.out _ HM.out).mono ?_); rintro e W1 ⟨⟨b, off, cap, rfl, hlt, e0, e1, e2, e3⟩, hb1⟩; have HB1 := Lib.hid hb1; clear hb1))
      go_ret
      exact ⟨by simp, HB1.out⟩
  · have hno : oneP s L = false := by
      match L, hl with
      | [], _ => rfl
      | [t], hl => exact absurd rfl hl
      | a :: b :: r, _ => rfl
    rw [hno]
    have b0 : ((L.length : Int) == 1) = false := by simp; omega
    have HM := Lib.hid hm
    clear hm hl hno
    go_enter Tryd.func190, Tryd.ntmps190
    go_wp2_with ((go_at_call 32; (with_reducible refine (cC.out _ HM.out).mono ?_); rintro e W1 ⟨⟨A, cap, rfl, hcap, hrd⟩, hb1⟩; have HB1 := Lib.hid hb1; clear hb1 hrd))
    go_ret
    exact ⟨rfl, HB1.out⟩

end Go.Proofs.YtaihncbejhnceaaDoor.rul

namespace Go.Proofs.YtaihncbejhnceaaDoor.rul
open Go.RowKit Go.Proofs.YtaihncbejhnceaaDoor.base Go.Proofs.YtaihncbejhnceaaDoor.tok
set_option linter.unusedVariables false

/-- the text of tokens, with one blank for all that is silent in a row -/
def headF : List Tk → Bs → Bool → Bs
  | [], out, _ => out
  | t :: L, out, gap => if silP t then headF L out (decide (0 < out.length)) else headF L ((if gap then out ++ [32] else out) ++ t.raw) false
def headP (L : List Tk) : Bs := headF L [] false

theorem len_ct (B b : Nat) (l : Bs) (w : World) (h : IsB B b l w) :
    Calls Tryd.prog 35 #[.pointer (some ⟨b, 0, none⟩)] w fun e w' => e = .returned (.int .i64 l.length) ∧ w = w' :=
  (Tryd.Builder_Len B b _ w h).mono fun e w' ⟨he, hw⟩ => ⟨by rw [he, Lib.byteCells_length], hw.symm⟩

theorem wb32 (B b : Nat) (l : List UInt8) (w : World) (h : IsB B b l w) (hlen : l.length + 1 ≤ 140737488355328) (hBw : B ≤ w.heap.size) (kx : Nat) (tx : TypeId) (cx : Array Value) (hx : Blk w kx tx cx) (htx : tx ≠ 5) (hkx : kx ≠ b) :
    Calls Tryd.prog 72 #[.pointer (some ⟨b, 0, none⟩), .int .u8 32] w fun e w' => e = .returned .nilIface ∧ IsB B b (l ++ [32]) w' ∧ Below B w w' ∧ Blk w' kx tx cx := writeByte_on B b l 32 w h hlen hBw kx tx cx hx htx hkx

def HeadRel (L : List Tk) (R : Bs) (w : World) (g i : Value) (wr : World) : Prop :=
  ∃ (k : Nat) (out : Bs) (gap : Bool), k ≤ L.length ∧ g = .bool gap ∧ i = .int .i64 k ∧ headF (L.drop k) out gap = R ∧ out.length ≤ (textOf (L.take k)).length + k ∧ IsB w.heap.size w.heap.size out wr ∧ Below w.heap.size w wr ∧ w.heap.size < wr.heap.size

set_option maxRecDepth 100000 in
set_option maxHeartbeats 4000000 in
theorem head_ct (v : Value) (L : List Tk) (w : World) (hn : L.length ≤ 1000000) (hL : TS w v L) (hT : (textOf L).length ≤ 1000000) :
    Calls Tryd.prog 107 #[v] w fun e w' => e = .returned (.string (bs (headP L))) ∧ Below w.heap.size w w' := by
  obtain ⟨A, cap, rfl, hc, hrd⟩ := hL
  have HL := Lib.hid hrd
  clear hrd
  generalize hR : headP L = R
  have HR := Lib.hid hR
  clear hR
  go_enter Tryd.func107, Tryd.ntmps107
  go_wp2_with fail
  go_loopw [4, 9] (fun g i wr => HeadRel L R w g i wr) (fun _ i _ => L.length - (intOf i).toNat)
  case atStart => exact ⟨0, [], false, by omega, rfl, rfl, HR.out, by simp, IsB.new w _ (Nat.le_refl _), (Below.refl _ _).alloc (Nat.le_refl _) _, by simp⟩
  case round =>
    obtain ⟨k, out, gap, hk, rfl, rfl, hinv, hol, hib, hbel, hwz⟩ := hrel
    obtain ⟨wo, hwo⟩ : ∃ wo, wo = wr := ⟨_, rfl⟩
    subst hwo
    have HBl := Lib.hid hbel
    have HIb := Lib.hid hib
    have HInv := Lib.hid hinv
    have hpart := text_part (L := L) k
    have hol2 : out.length ≤ 2000000 := by omega
    clear hib hinv HR
    by_cases hlt : k < L.length
    · have hlt' : (k : Int) < (L.length : Int) := by omega
      obtain ⟨b, off, t, rfl, hb, hd, e0, e1, e2, e3⟩ := TRd.tok (HL.out.keep hbel hbel.size) hlt
      have hst := text_step hd
      have hpart2 := text_part (L := L) (k + 1)
      have hcons : L.drop k = t :: L.drop (k + 1) := drop_at hd
      have HC := Lib.hid hcons
      have Hst := Lib.hid (show (textOf (L.take (k + 1))).length = (textOf (L.take k)).length + t.raw.length by rw [hst, List.length_append])
      have hrl : t.raw.length ≤ 1000000 := by have := Hst.out; omega
      have Hol := Lib.hid hol
      obtain ⟨tk, tr, tv, tn⟩ := t
      simp only at e0 e1 e2 e3 hrl
      clear hbel hd hst hcons hpart hpart2 hol
      go_wp2_with fail
      generalize hV : wo.alloc (.cells #[.int .i64 tk, .string (bs tr), .string (bs tv), .int .i64 tn] 104) = V
      have HV := Lib.hid (show Below w.heap.size w V by subst hV; exact HBl.out.alloc HBl.out.size _)
      have hV1 := (show Blk V wo.heap.size 104 #[.int .i64 tk, .string (bs tr), .string (bs tv), .int .i64 tn] by subst hV; exact Blk.new rfl)
      have cV := hV1.cell
      have HBk := Lib.hid hV1
      have HIV := Lib.hid (show IsB w.heap.size w.heap.size out V by subst hV; exact HIb.out.on ((Below.refl _ _).alloc (Nat.le_refl _) _))
      have zV : wo.heap.size < V.heap.size := by subst hV; simp
      clear hV hV1 e0 e1 e2 e3 HIb HBl
      cases hs : silP ⟨tk, tr, tv, tn⟩
      · have cS := Lib.hid (fun w => asks_at silent_ct hs w)
        cases gap
        · have HNew := Lib.hid (show headF (L.drop (k + 1)) (out ++ tr) false = R by rw [← HInv.out, HC.out]; simp only [headF, hs]; rfl)
          clear hs
          go_wp2_with (first
            | (go_at_call 101; (with_reducible refine (cS.out _).mono ?_); rintro e W1 ⟨rfl, hb1⟩; have HB1 := Lib.hid (HV.out.trans (hb1.mono HV.out.size)); have hk1 := HBk.out.below hb1 HBk.out.lt; have c1 := hk1.cell; have HK1 := Lib.hid hk1; have HI1 := Lib.hid (HIV.out.on hb1); clear hb1 hk1 cV)
            | (go_at_call 71; (with_reducible refine (writeString_on w.heap.size w.heap.size out (bs tr) _ HI1.out (by rw [bs_size]; omega) HB1.out.size wo.heap.size 104 _ HK1.out (by decide) (by omega)).mono ?_); rintro e W2 ⟨rfl, hi2, hb2, hk2⟩; have HI2 := Lib.hid hi2; have HB2 := Lib.hid (HB1.out.trans hb2); have hz2 := hk2.lt; clear hi2 hb2 hk2))
          go_roundw
          case rel => exact ⟨k + 1, out ++ tr, false, by omega, rfl, by go_num, HNew.out, by rw [Hst.out, List.length_append]; have := Hol.out; omega, HI2.out, HB2.out, by omega⟩
          case measure => simp [intOf]; omega
        · have HNew := Lib.hid (show headF (L.drop (k + 1)) ((out ++ [32]) ++ tr) false = R by rw [← HInv.out, HC.out]; simp only [headF, hs]; rfl)
          clear hs
          go_wp2_with (first
            | (go_at_call 101; (with_reducible refine (cS.out _).mono ?_); rintro e W1 ⟨rfl, hb1⟩; have HB1 := Lib.hid (HV.out.trans (hb1.mono HV.out.size)); have hk1 := HBk.out.below hb1 HBk.out.lt; have HK1 := Lib.hid hk1; have HI1 := Lib.hid (HIV.out.on hb1); clear hb1 hk1 cV)
            | (go_at_call 72; (with_reducible refine (wb32 w.heap.size w.heap.size out _ HI1.out (by omega) HB1.out.size wo.heap.size 104 _ HK1.out (by decide) (by omega)).mono ?_); rintro e W3 ⟨rfl, hi3, hb3, hk3⟩; have HI3 := Lib.hid hi3; have HB3 := Lib.hid (HB1.out.trans hb3); have c3 := hk3.cell; have HK3 := Lib.hid hk3; clear hi3 hb3 hk3)
            | (go_at_call 71; (with_reducible refine (writeString_on w.heap.size w.heap.size (out ++ [32]) (bs tr) _ HI3.out (by rw [bs_size]; simp; omega) HB3.out.size wo.heap.size 104 _ HK3.out (by decide) (by omega)).mono ?_); rintro e W2 ⟨rfl, hi2, hb2, hk2⟩; have HI2 := Lib.hid hi2; have HB2 := Lib.hid (HB3.out.trans hb2); have hz2 := hk2.lt; clear hi2 hb2 hk2))
          go_roundw
          case rel => exact ⟨k + 1, (out ++ [32]) ++ tr, false, by omega, rfl, by go_num, HNew.out, by rw [Hst.out, List.length_append, List.length_append]; have := Hol.out; simp; omega, HI2.out, HB2.out, by omega⟩
          case measure => simp [intOf]; omega
      · have cS := Lib.hid (fun w => asks_at silent_ct hs w)
        have HNew := Lib.hid (show headF (L.drop (k + 1)) out (decide (0 < out.length)) = R by rw [← HInv.out, HC.out]; simp only [headF, hs]; rfl)
        clear hs
        go_wp2_with (first
          | (go_at_call 101; (with_reducible refine (cS.out _).mono ?_); rintro e W1 ⟨rfl, hb1⟩; have HB1 := Lib.hid (HV.out.trans (hb1.mono HV.out.size)); have HI1 := Lib.hid (HIV.out.on hb1); have hz1 := hb1.size; clear hb1 cV)
          | (go_at_call 35; (with_reducible refine (len_ct w.heap.size w.heap.size out _ HI1.out).mono ?_); rintro e W2 ⟨rfl, rfl⟩))
        go_roundw
        case rel => exact ⟨k + 1, out, decide (0 < out.length), by omega, by simp, by go_num, HNew.out, by rw [Hst.out]; have := Hol.out; omega, HI1.out, HB1.out, by omega⟩
        case measure => simp [intOf]; omega
    · obtain rfl : k = L.length := by omega
      have HFin := Lib.hid (show R = out by rw [← HInv.out, List.drop_length]; rfl)
      clear hbel hpart hol
      go_wp2_with ((go_at_call 36; (with_reducible refine (builderString_ct _ _ _ _ HIb.out HBl.out.size).mono ?_); rintro e w1 ⟨rfl, hb1⟩; have HB1 := Lib.hid (HBl.out.trans hb1); clear hb1))
      go_ret
      exact ⟨by rw [HFin.out]; rfl, HB1.out⟩

end Go.Proofs.YtaihncbejhnceaaDoor.rul

namespace Go.Proofs.YtaihncbejhnceaaDoor.base
open Go.RowKit Go.Proofs.YtaihncbejhnceaaDoor.tok
set_option linter.unusedVariables false

/-- the library's table of folds of the first signs -/
def foldTab : List Int := (List.range 128).map fun (c : Nat) => if 65 ≤ c ∧ c ≤ 90 then (c : Int) + 32 else if c = 107 then 8490 else if c = 115 then 383 else if 97 ≤ c ∧ c ≤ 122 then (c : Int) - 32 else (c : Int)
def FoldAt (w : World) : Prop := 5 < w.heap.size ∧ Lib.TabIs Tryd.prog w "unicode.asciiFold" .u16 foldTab
theorem FoldAt.on {w w' : World} (h : FoldAt w) (hb : Below w.heap.size w w') : FoldAt w' := by
  refine ⟨Nat.lt_of_lt_of_le h.1 hb.size, ?_⟩
  have hg : Tryd.prog.globalNamed "unicode.asciiFold" = some 5 := by kernel_rfl
  have h2 := h.2
  unfold Lib.TabIs World.var? at h2 ⊢
  rw [hg] at h2 ⊢
  simp only [Option.bind_some] at h2 ⊢
  rw [hb.block _ h.1]
  exact h2
theorem fold_at : ∀ c : Fin 128, 0 ≤ foldTab.getD c.val 0 ∧ foldTab.getD c.val 0 ≤ 65535 := by decide +kernel

set_option maxRecDepth 100000 in
set_option maxHeartbeats 1000000 in
theorem simple_ct (c : Nat) (hc : c < 128) (w : World) (hF : FoldAt w) :
    Calls Tryd.prog 157 #[.int .i32 c] w fun e w' => e = .returned (.int .i32 (foldTab.getD c 0)) ∧ w = w' := by
  have hcell := hF.2.cell (g := 5) (by kernel_rfl) c (by simpa [foldTab] using hc)
  have hbd := fold_at ⟨c, hc⟩
  simp only at hbd
  generalize foldTab.getD c 0 = r at *
  obtain ⟨r0, r1⟩ := hbd
  have hc' : (c : Int) < 128 := by omega
  clear hF
  go_enter Tryd.func157, Tryd.ntmps157
  go_wp2_with fail
  go_ret
  exact ⟨rfl, rfl⟩

set_option maxRecDepth 100000 in
theorem decode_ct (s : ByteArray) (h : 0 < s.size) (hl : (s[0]'h).toNat < 128) (w : World) :
    Calls Tryd.prog 131 #[.string s] w fun e w' => e = .returned (.tuple #[.int .i32 ((s[0]'h).toNat : Int), .int .i64 1]) ∧ w = w' := by
  have he := empty_no h
  have hl' : (((s[0]'h).toNat : Nat) : Int) < 128 := by omega
  go_enter Tryd.func131, Tryd.ntmps131
  go_wp2_with fail
  go_ret2
  exact ⟨rfl, rfl⟩

end Go.Proofs.YtaihncbejhnceaaDoor.base

namespace Go.Proofs.YtaihncbejhnceaaDoor.base
open Go.RowKit Go.Proofs.YtaihncbejhnceaaDoor.tok
set_option linter.unusedVariables false

def Word (T : Bs) : Prop := T.length ≤ 20 ∧ ∀ c ∈ T, 97 ≤ c.toNat ∧ c.toNat ≤ 122 ∧ c.toNat ≠ 107 ∧ c.toNat ≠ 115
theorem or_is (x y : UInt8) (hy : y.toNat < 128) : decide (128 ≤ bits BinOp.or IntKind.u8 (x.toNat : Int) (y.toNat : Int)) = decide (128 ≤ x.toNat) := by
  rw [u8_or_nat _ _ (by have := x.toNat_lt; omega) (by omega)]
  apply decide_eq_decide.2
  have h1 := Nat.left_le_or (n := x.toNat) (m := y.toNat)
  constructor
  · intro h
    rcases Nat.lt_or_ge x.toNat 128 with hx | hx
    · have := Nat.or_lt_two_pow (n := 7) hx hy
      omega
    · exact hx
  · intro h
    omega
theorem fold_letter : ∀ c : Fin 123, 97 ≤ c.val → c.val ≠ 107 → c.val ≠ 115 → foldTab.getD c.val 0 = (c.val : Int) - 32 ∧ foldTab.getD (c.val - 32) 0 = (c.val : Int) := by decide +kernel
theorem fold_drop {l : Bs} {i : Nat} {x : UInt8} (h : l[i]? = some x) : l.drop i = x :: l.drop (i + 1) := by
  obtain ⟨hl, he⟩ := List.getElem?_eq_some_iff.1 h
  rw [List.drop_eq_getElem_cons hl, he]
theorem fold_high {x y : UInt8} (hx : 128 ≤ x.toNat) (hy : y.toNat < 123) (h0 : 97 ≤ y.toNat) : Lib.foldEq x y = false := by
  unfold Lib.foldEq
  exact decide_eq_false (by omega)

theorem below_iter (w : World) (k : Nat) (s : ByteArray) (p B : Nat) (h : B ≤ k) : Below B w (w.iterAt k s p) := by
  refine ⟨rfl, rfl, rfl, by simp [World.iterAt], fun j hj => ?_⟩
  simp only [World.iterAt]
  rw [Array.getElem?_setIfInBounds, if_neg (by omega)]
def lits (U : Nat → Value) : Nat → Nat → List Value
  | 0, _ => []
  | n + 1, k => U k :: lits U n (k + 1)
theorem lits_of (U : Nat → Value) : ∀ (n k : Nat) (l : List Value), l.length = n → (∀ i, i < n → l[i]? = some (U (k + i))) → l = lits U n k
  | 0, k, l, h, _ => List.eq_nil_of_length_eq_zero h
  | n + 1, k, [], h, _ => by cases h
  | n + 1, k, x :: l, h, hx => by
    have h0 := hx 0 (by omega)
    simp at h0
    rw [lits, h0, lits_of U n (k + 1) l (by simpa using h) (fun i hi => by have := hx (i + 1) (by omega); rw [show k + 1 + i = k + (i + 1) by omega]; simpa using this)]
set_option maxRecDepth 100000 in
theorem frame_lit (f : Array Value) (h : f.size = 123) : ∃ U : Nat → Value, f = #[U 0, U 1, U 2, U 3, U 4, U 5, U 6, U 7, U 8, U 9, U 10, U 11, U 12, U 13, U 14, U 15, U 16, U 17, U 18, U 19, U 20, U 21, U 22, U 23, U 24, U 25, U 26, U 27, U 28, U 29, U 30, U 31, U 32, U 33, U 34, U 35, U 36, U 37, U 38, U 39, U 40, U 41, U 42, U 43, U 44, U 45, U 46, U 47, U 48, U 49, U 50, U 51, U 52, U 53, U 54, U 55, U 56, U 57, U 58, U 59, U 60, U 61, U 62, U 63, U 64, U 65, U 66, U 67, U 68, U 69, U 70, U 71, U 72, U 73, U 74, U 75, U 76, U 77, U 78, U 79, U 80, U 81, U 82, U 83, U 84, U 85, U 86, U 87, U 88, U 89, U 90, U 91, U 92, U 93, U 94, U 95, U 96, U 97, U 98, U 99, U 100, U 101, U 102, U 103, U 104, U 105, U 106, U 107, U 108, U 109, U 110, U 111, U 112, U 113, U 114, U 115, U 116, U 117, U 118, U 119, U 120, U 121, U 122] := by
  refine ⟨fun k => f.getD k undef, ?_⟩
  generalize hU : (fun k => f.getD k undef) = U
  have e : f.toList = lits U 123 0 := lits_of U 123 0 f.toList (by simpa using h) (fun i hi => by
    subst hU
    simp [h, hi, Array.getD])
  apply Array.toList_inj.1
  rw [e]
  simp only [lits, Nat.zero_add, Nat.reduceAdd]

set_option maxRecDepth 100000 in
set_option maxHeartbeats 8000000 in
theorem fold_ct (s : ByteArray) (hs : s.size < 4294967281) (T : Bs) (hT : Word T) (w : World) (hF : FoldAt w) :
    Calls Tryd.prog 109 #[.string s, .string (bs T)] w fun e w' => e = .returned (.bool (Lib.equalFold s.data.toList T)) ∧ Below w.heap.size w w' := by
  have HF := Lib.hid hF
  have HT := Lib.hid hT
  have hTl : (bs T).size ≤ 20 := hT.1
  obtain ⟨M, hM⟩ : ∃ M : Nat, min (s.size : Int) ((bs T).size : Int) = (M : Int) := ⟨min s.size (bs T).size, by omega⟩
  have hMs : M ≤ s.size := by omega
  have hMt : M ≤ (bs T).size := by omega
  have hMe : M = s.size ∨ M = (bs T).size := by omega
  clear hF hT
  go_enter Tryd.func109, Tryd.ntmps109
  go_wp2_with fail
  refine wp_scope_jumps 0 (fun a' w' => w = w' ∧ a'.defers = [] ∧ a'.tmps.size = 123 ∧ a'.tmps[0]? = some (.string s) ∧ a'.tmps[1]? = some (.string (bs T)) ∧ ∃ i : Nat, a'.tmps[5]? = some (.int .i64 i) ∧ i < M ∧ (∃ x : UInt8, s.data.toList[i]? = some x ∧ 128 ≤ x.toNat) ∧ Lib.equalFold s.data.toList T = false) (fun _ _ => 0) rfl ?_ ?_
  · go_wp2_with fail
    go_loopg [5] M (fun g s5 wx => w = wx ∧ ∃ i : Nat, i + g = M ∧ s5 = .int .i64 i ∧ Lib.equalFold (s.data.toList.drop i) (T.drop i) = Lib.equalFold s.data.toList T)
    case atStart => exact ⟨rfl, 0, by omega, rfl, rfl⟩
    case round =>
      obtain ⟨rfl, i, hig, rfl, hinv⟩ := hrel
      have HI := Lib.hid hinv
      clear hinv hM
      cases gk with
      | zero =>
        obtain rfl : i = M := by omega
        have hiM : ¬ ((i : Int) < (i : Int)) := by omega
        have hE : Lib.equalFold s.data.toList T = decide (s.size = (bs T).size) := by
          have l1 := Lib.size_eq s
          have l2 : (bs T).size = T.length := rfl
          rw [← HI.out, Lib.equalFold_end _ _ (by
            rcases hMe with h | h
            · exact Or.inl (List.drop_eq_nil_of_le (by omega))
            · exact Or.inr (List.drop_eq_nil_of_le (by omega))), List.length_drop, List.length_drop]
          exact decide_eq_decide.2 (by omega)
        by_cases hst : s.size = (bs T).size
        · have hb : ((s.size : Int) == ((bs T).size : Int)) = true := beq_iff_eq.2 (by omega)
          have HE := Lib.hid (hE.trans (decide_eq_true hst))
          clear hE hst
          go_wp2_with fail
          simp only [Exit.jump]
          go_ret
          exact ⟨by rw [HE.out]; rfl, Below.refl _ _⟩
        · have hb : ((s.size : Int) == ((bs T).size : Int)) = false := beq_eq_false_iff_ne.2 (by omega)
          have HE := Lib.hid (hE.trans (decide_eq_false hst))
          clear hE hst
          go_wp2_with fail
          simp only [Exit.jump]
          go_ret
          exact ⟨by rw [HE.out]; rfl, Below.refl _ _⟩
      | succ g =>
        have hiM : (i : Int) < (M : Int) := by omega
        have hisz : (i : Int) < (s.size : Int) := by omega
        have hitz : (i : Int) < ((bs T).size : Int) := by omega
        obtain ⟨x, hx⟩ : ∃ x : UInt8, s[i]'(by omega) = x := ⟨_, rfl⟩
        obtain ⟨y, hy⟩ : ∃ y : UInt8, (bs T)[i]'(by omega) = y := ⟨_, rfl⟩
        have hxl : s.data.toList[i]? = some x := by rw [← hx]; exact Lib.data_getElem? s i (by omega)
        have hyl : T[i]? = some y := by rw [← hy]; exact Lib.data_getElem? (bs T) i (by omega)
        obtain ⟨hy1, hy2, hy3, hy4⟩ := HT.out.2 y (List.mem_of_getElem? hyl)
        have hor := or_is x y (by omega)
        have HX := Lib.hid (fold_drop hxl)
        have HY := Lib.hid (fold_drop hyl)
        have Hg := Lib.hid hxl
        clear hxl hyl
        by_cases hx1 : 128 ≤ x.toNat
        · rw [decide_eq_true hx1] at hor
          have HN := Lib.hid (show Lib.equalFold s.data.toList T = false by rw [← HI.out, HX.out, HY.out, Lib.equalFold_no _ _ _ _ (fold_high hx1 (by omega) hy1)])
          go_wp2_with fail
          go_step3
          exact ⟨rfl, rfl, rfl, rfl, rfl, rfl, i, rfl, by omega, ⟨x, Hg.out, hx1⟩, HN.out⟩
        · rw [decide_eq_false hx1] at hor
          go_wp2_with fail
          all_goals (try simp only [beq_iff_eq, beq_eq_false_iff_ne, ne_eq] at *)
          all_goals first
            | (go_roundg g
               case measure => omega
               case rel => exact ⟨rfl, i + 1, by omega, by first | rfl | simp, by rw [← HI.out, HX.out, HY.out, Lib.equalFold_yes _ _ _ _ (decide_eq_true (by omega))]⟩)
            | (simp only [Exit.jump]
               go_ret
               refine ⟨?_, Below.refl _ _⟩
               rw [← HI.out, HX.out, HY.out, Lib.equalFold_no _ _ _ _ (decide_eq_false (by omega))]
               rfl)
  · rintro ⟨f, d⟩ w' ⟨rfl, hd, hsz, f0, f1, i, f5, hi, ⟨x, hx, hhi⟩, hno⟩
    simp only at hd hsz f0 f1 f5
    subst hd
    obtain ⟨U, rfl⟩ := frame_lit f hsz
    obtain ⟨e0, e1, e5⟩ : U 0 = .string s ∧ U 1 = .string (bs T) ∧ U 5 = .int .i64 i := ⟨Option.some.inj f0, Option.some.inj f1, Option.some.inj f5⟩
    rw [e0, e1, e5]
    clear f0 f1 f5 e0 e1 e5 hsz
    have hyl : ∃ y : UInt8, T[i]? = some y := ⟨T[i]'(by have : (bs T).size = T.length := rfl; omega), List.getElem?_eq_getElem _⟩
    obtain ⟨y, hy⟩ := hyl
    obtain ⟨hy1, hy2, hy3, hy4⟩ := HT.out.2 y (List.mem_of_getElem? hy)
    have hi1 : (i : Int) ≤ (s.size : Int) := by omega
    have hi2 : (i : Int) ≤ ((bs T).size : Int) := by omega
    have hi3 : (0 : Int) ≤ (i : Int) := by omega
    have hfl := fold_letter ⟨y.toNat, by omega⟩ hy1 hy3 hy4
    simp only at hfl
    have c1 := fun W hW => simple_ct y.toNat (by omega) W hW
    have c2 := fun W hW => simple_ct (y.toNat - 32) (by omega) W hW
    rw [hfl.1] at c1
    rw [hfl.2, show ((y.toNat - 32 : Nat) : Int) = (y.toNat : Int) - 32 by omega] at c2
    replace c1 := Lib.hid c1
    replace c2 := Lib.hid c2
    have hS0 : 0 < (s.extract i s.size).size := by simp only [ByteArray.size_extract]; omega
    have hT0 : 0 < ((bs T).extract i (bs T).size).size := by simp only [ByteArray.size_extract]; omega
    have hSx : (s.extract i s.size)[0]'hS0 = x := by
      have h1 := Lib.data_getElem? (s.extract i s.size) 0 hS0
      rw [Lib.extract_to_end, List.getElem?_drop, Nat.add_zero, hx] at h1
      exact (Option.some.inj h1).symm
    have hTy : ((bs T).extract i (bs T).size)[0]'hT0 = y := by
      have h1 := Lib.data_getElem? ((bs T).extract i (bs T).size) 0 hT0
      rw [Lib.extract_to_end, List.getElem?_drop, Nat.add_zero] at h1
      exact (Option.some.inj (h1.symm.trans hy))
    have hdec := decode_high (s.extract i s.size) 0 hS0 (by rw [hSx]; exact hhi)
    have hdle := decode_le (s.extract i s.size) 0
    have cD := decode_ct ((bs T).extract i (bs T).size) hT0 (by rw [hTy]; omega)
    rw [hTy] at cD
    replace cD := Lib.hid cD
    have hempty := empty_no hT0
    have hl0 : (((bs T).extract i (bs T).size).size : Int) ≥ 1 := by omega
    have hn0 : ((((bs T).extract i (bs T).size).size : Int) == 0) = false := by simp; omega
    have HNo := Lib.hid hno
    clear hfl hSx hTy hx hhi hy hno
    go_wp2_with fail
    generalize s.extract i s.size = s1 at *
    generalize (bs T).extract i (bs T).size = t1 at *
    generalize hV : w.iter s1 0 = V
    have HV := Lib.hid (show V.heap[w.heap.size]? = some (.stringIter s1 0) by subst hV; exact heap_alloc_new w _)
    have HB := Lib.hid (show Below w.heap.size w V by subst hV; exact (Below.refl _ _).alloc (Nat.le_refl _) _)
    clear hV
    go_loopw [1] (fun v wr => v = .string t1 ∧ wr = V) (fun _ _ => 0)
    case atStart => exact ⟨rfl, rfl⟩
    case round =>
      obtain ⟨rfl, rfl⟩ := hrel
      have hnx : ∀ ty, (Instr.next (.pointer (some ⟨w.heap.size, 0, none⟩)) true ty).run Tryd.prog wr = _ := fun ty => Lib.run_next_any_at wr w.heap.size s1 0 ty HV.out hS0
      generalize hrn : (Utf8.decode s1 0).1 = r at *
      generalize hwn : wr.iterAt w.heap.size s1 (0 + (Utf8.decode s1 0).2) = WN at *
      have HBN := Lib.hid (show Below w.heap.size w WN by rw [← hwn]; exact HB.out.trans (below_iter _ _ _ _ _ (Nat.le_refl _)))
      obtain ⟨hr1, -⟩ := hdec
      have e1 : ((y.toNat : Int) == (r : Int)) = false := by simp; omega
      have e2 : (y.toNat : Int) < (r : Int) := by omega
      have e3 : ¬ ((r : Int) < 128) := by omega
      clear hrn hwn
      go_wp2_with (first
        | (go_at_call 131; (with_reducible refine (cD.out _).mono ?_); rintro e W3 ⟨rfl, rfl⟩)
        | (go_at_call 157; (with_reducible refine (c1.out _ (HF.out.on HBN.out)).mono ?_); rintro e W4 ⟨rfl, rfl⟩))
      go_loopg [13] 1 (fun g v wx => WN = wx ∧ ((g = 1 ∧ v = .int .i32 ((y.toNat : Int) - 32)) ∨ (g = 0 ∧ v = .int .i32 (y.toNat : Int))))
      case atStart => exact ⟨rfl, .inl ⟨rfl, rfl⟩⟩
      case round =>
        obtain ⟨rfl, hv⟩ := hrel
        rcases hv with ⟨rfl, rfl⟩ | ⟨rfl, rfl⟩
        · have e4 : (((y.toNat : Int) - 32) == (y.toNat : Int)) = false := by simp; omega
          have e5 : (y.toNat : Int) - 32 < (r : Int) := by omega
          go_wp2_with (first
            | (go_at_call 157; (with_reducible refine (c2.out _ (HF.out.on HBN.out)).mono ?_); rintro e W4 ⟨rfl, rfl⟩))
          go_roundg 0
          case rel => exact ⟨rfl, .inr ⟨rfl, rfl⟩⟩
          case measure => omega
        · go_wp2_with fail
          simp only [Exit.jump]
          go_ret
          exact ⟨by rw [HNo.out]; rfl, HBN.out⟩

end Go.Proofs.YtaihncbejhnceaaDoor.base

namespace Go.Proofs.YtaihncbejhnceaaDoor.rul
open Go.RowKit Go.Proofs.YtaihncbejhnceaaDoor.base Go.Proofs.YtaihncbejhnceaaDoor.tok
set_option linter.unusedVariables false

/-- tokens that are few and short -/
def Fit (L : List Tk) : Prop := L.length ≤ 1000000 ∧ (textOf L).length ≤ 1000000 ∧ ∀ t ∈ L, t.raw ≠ [] ∧ t.raw.length ≤ 1000000 ∧ t.val.length ≤ 1000000
theorem text_sub {M L : List Tk} (h : M.Sublist L) : (textOf M).length ≤ (textOf L).length := by
  induction h with
  | slnil => exact Nat.le_refl _
  | cons a _ ih => simp only [textOf, List.flatMap_cons, List.length_append] at ih ⊢; omega
  | cons_cons a _ ih => simp only [textOf, List.flatMap_cons, List.length_append] at ih ⊢; omega
theorem Fit.sub {M L : List Tk} (h : Fit L) (hs : M.Sublist L) : Fit M :=
  ⟨Nat.le_trans hs.length_le h.1, Nat.le_trans (text_sub hs) h.2.1, fun t ht => h.2.2 t (hs.subset ht)⟩
theorem Fit.raws {L : List Tk} (h : Fit L) : ∀ t ∈ L, t.raw ≠ [] ∧ t.raw.length ≤ 1000000 := fun t ht => ⟨(h.2.2 t ht).1, (h.2.2 t ht).2.1⟩
theorem end_sub (L : List Tk) : (endP L).Sublist L := by
  unfold endP
  have := (List.dropWhile_sublist silP (l := L.reverse)).reverse
  rwa [List.reverse_reverse] at this
theorem solid_sub (L : List Tk) : (solidP L).Sublist L := (end_sub _).trans (List.dropWhile_sublist _)

/-! ### a value without what says that it is important -/
def impW : Bs := [105, 109, 112, 111, 114, 116, 97, 110, 116]
def impM (M : List Tk) : List Tk × Bool :=
  match M.getLast? with
  | none => (M, false)
  | some t => if M.length < 2 then (M, false) else if t.k = 1 ∧ Lib.equalFold t.val impW = true then
      (match (solidP M.dropLast).getLast? with
      | none => (M, false)
      | some m => if markP m then (solidP (solidP M.dropLast).dropLast, true) else (M, false))
    else (M, false)
def impP (L : List Tk) : List Tk × Bool := impM (solidP L)
theorem imp_few {M : List Tk} (h : M.length < 2) : impM M = (M, false) := by
  unfold impM
  split
  · rfl
  · rw [if_pos h]
theorem imp_snoc (K : List Tk) (t : Tk) (h : 0 < K.length) : impM (K ++ [t]) = if t.k = 1 ∧ Lib.equalFold t.val impW = true then
      (match (solidP K).getLast? with
      | none => (K ++ [t], false)
      | some m => if markP m then (solidP (solidP K).dropLast, true) else (K ++ [t], false))
    else (K ++ [t], false) := by
  unfold impM
  simp only [List.getLast?_append, List.getLast?_singleton, Option.some_or, List.dropLast_concat]
  rw [if_neg (by simp; omega)]

theorem word_imp : Word impW := by
  refine ⟨by decide, ?_⟩
  intro c hc
  revert c
  decide
theorem foldI_ct (s : Bs) (hs : s.length ≤ 1000000) (w : World) (hF : FoldAt w) : Calls Tryd.prog 109 #[.string (bs s), .string ⟨#[105, 109, 112, 111, 114, 116, 97, 110, 116]⟩] w fun e w' => e = .returned (.bool (Lib.equalFold s impW)) ∧ Below w.heap.size w w' :=
  fold_ct (bs s) (by rw [bs_size]; omega) impW word_imp w hF

set_option maxRecDepth 100000 in
set_option maxHeartbeats 4000000 in
theorem imp_ct (v : Value) (L : List Tk) (w0 w : World) (hf : Fit L) (hL : TS w0 v L) (hb0 : Below w0.heap.size w0 w) (hF : FoldAt w) :
    Calls Tryd.prog 191 #[v] w fun e w' => (∃ v', e = .returned (.tuple #[v', .bool (impP L).2]) ∧ TS w0 v' (impP L).1) ∧ Below w.heap.size w w' := by
  have cS1 := Lib.hid (solid_ct v L w0 w hf.1 hL hb0)
  have HB0 := Lib.hid hb0
  have hfM := hf.sub (solid_sub L)
  have HF := Lib.hid hF
  unfold impP
  generalize solidP L = M at *
  clear hL hF hf hb0
  have hML := hfM.1
  have HfM := Lib.hid hfM
  clear hfM
  by_cases hfew : M.length < 2
  · have hfz : (M.length : Int) - 1 < 1 := by omega
    have HI := Lib.hid (imp_few hfew)
    rw [HI.out]
    clear HI
    clear hfew
    go_enter Tryd.func191, Tryd.ntmps191
    go_wp2_with (go_at_call 63; (with_reducible refine (cS1.out).mono ?_); rintro e W1 ⟨⟨v1, rfl, hts1⟩, hb1⟩; have HT1 := Lib.hid hts1; have HB1 := Lib.hid hb1; obtain ⟨A1, cap1, rfl, hc1, hr1⟩ := hts1; clear hb1 hr1)
    go_ret2
    exact ⟨⟨_, rfl, HT1.out⟩, HB1.out⟩
  · rcases List.eq_nil_or_concat M with rfl | ⟨K, t, hK⟩
    · exact absurd (by simp) hfew
    · rw [List.concat_eq_append] at hK
      subst hK
      have hlen : (K ++ [t]).length = K.length + 1 := by simp
      have hK0 : 0 < K.length := by omega
      have hKz : (1 : Int) ≤ (K.length : Int) := by omega
      have hKx : (K.length : Int) ≤ 1000000 := by omega
      rw [imp_snoc K t hK0]
      have HTok := Lib.hid (show ∀ (w : World) (A : Option Addr) (cap : Nat), TRd w w.heap.size A (K ++ [t]).length (K ++ [t]) → ∃ b off, A = some ⟨b, off, none⟩ ∧ b < w.heap.size ∧ w.cell? ⟨b, off + K.length * 4, none⟩ = some (.int .i64 t.k) ∧ w.cell? ⟨b, off + K.length * 4 + 1, none⟩ = some (.string (bs t.raw)) ∧ w.cell? ⟨b, off + K.length * 4 + 2, none⟩ = some (.string (bs t.val)) ∧ w.cell? ⟨b, off + K.length * 4 + 3, none⟩ = some (.int .i64 t.num) from fun w A cap h => by
        obtain ⟨b, off, t', rfl, hb, hd, e0, e1, e2, e3⟩ := TRd.tok h (k := K.length) (by omega)
        obtain rfl : t = t' := by simpa using hd
        exact ⟨b, off, rfl, hb, e0, e1, e2, e3⟩)
      have hft := HfM.out.2.2 t (by simp)
      have hfK : Fit K := HfM.out.sub (List.sublist_append_left K [t])
      have HfK := Lib.hid hfK
      have hKc : (K ++ [t]).dropLast = K := by simp
      obtain ⟨tk, tr, tv, tn⟩ := t
      simp only at hft HTok
      have hv := hft.2.2
      clear hfK hfew hML hft hKc
      by_cases hk : tk = 1
      · subst hk
        have cF := fun w hF => foldI_ct tv hv w hF
        cases hfo : Lib.equalFold tv impW
        · rw [hfo] at cF
          replace cF := Lib.hid cF
          clear hfo
          rw [if_neg (by simp)]
          go_enter Tryd.func191, Tryd.ntmps191
          go_wp2_with (first
            | (go_at_call 63; (with_reducible refine (cS1.out).mono ?_); rintro e W1 ⟨⟨v1, rfl, hts1⟩, hb1⟩; have HT1 := Lib.hid hts1; have HB1 := Lib.hid hb1; obtain ⟨A1, cap1, rfl, hc1, hr1⟩ := hts1; have HR1 := Lib.hid hr1; have hB1 := HB0.out.trans (HB1.out.mono HB0.out.size); obtain ⟨b1, o1, rfl, hb1l, e0, e1, e2, e3⟩ := HTok.out _ A1 cap1 (Rd.keep hr1 hB1 hB1.size); clear hB1; rw [hlen] at hc1 HT1 HR1 ⊢; clear hb1 hr1)
            | (go_at_call 109; (with_reducible refine (cF.out _ (HF.out.on HB1.out)).mono ?_); rintro e W2 ⟨rfl, hb2⟩; have HBF := Lib.hid (HB1.out.trans (hb2.mono HB1.out.size)); have HTF := HT1; clear hb2 e0 e1 e2 e3))
          go_ret2
          exact ⟨⟨_, rfl, HTF.out⟩, HBF.out⟩
        · rw [hfo] at cF
          replace cF := Lib.hid cF
          clear hfo
          rw [if_pos ⟨rfl, rfl⟩]
          have cS2 := Lib.hid (fun (w : World) (v : Value) (h : TS w0 v K) (hb : Below w0.heap.size w0 w) => solid_ct v K w0 w HfK.out.1 h hb)
          have hfR := HfK.out.sub (solid_sub K)
          generalize solidP K = R at *
          have hsl := fun (b off cap : Nat) (hc : K.length ≤ cap) w => slice_upto (P := Tryd.prog) (k := 4) Tryd.underlying67 Tryd.sizeOf104 (some ⟨b, off, none⟩) (K.length + 1) cap (K.length : Int) (by omega) (by omega) w
          simp only [Int.toNat_natCast] at hsl
          replace hsl := Lib.hid hsl
          rcases List.eq_nil_or_concat R with rfl | ⟨Q, m, hQ⟩
          · simp only [List.getLast?_nil]
            clear hfR
            go_enter Tryd.func191, Tryd.ntmps191
            go_wp2_with (first
              | (go_at_call 63; (with_reducible refine (cS1.out).mono ?_); rintro e W1 ⟨⟨v1, rfl, hts1⟩, hb1⟩; have HT1 := Lib.hid hts1; have HB1 := Lib.hid hb1; obtain ⟨A1, cap1, rfl, hc1, hr1⟩ := hts1; have HR1 := Lib.hid hr1; have hB1 := HB0.out.trans (HB1.out.mono HB0.out.size); obtain ⟨b1, o1, rfl, hb1l, e0, e1, e2, e3⟩ := HTok.out _ A1 cap1 (Rd.keep hr1 hB1 hB1.size); clear hB1; rw [hlen] at hc1 HT1 HR1 ⊢; clear hb1 hr1)
              | (go_at_call 109; (with_reducible refine (cF.out _ (HF.out.on HB1.out)).mono ?_); rintro e W2 ⟨rfl, hb2⟩; have HBF := Lib.hid (HB1.out.trans (hb2.mono HB1.out.size)); have HTF := HT1; have hslF := hsl.out b1 o1 cap1 (by omega); have HCut := Lib.hid (show TS w0 (.slice (some ⟨b1, o1, none⟩) K.length cap1) K from by have := ts_upto HR1.out hc1 (m := K.length) (by omega); rwa [List.take_left] at this); clear hb2 e0 e1 e2 e3)
              | (go_at_call 63; (with_reducible refine (cS2.out _ _ HCut.out (HB0.out.trans (HBF.out.mono HB0.out.size))).mono ?_); rintro e W3 ⟨⟨v3, rfl, hts3⟩, hb3⟩; have HBG := Lib.hid (HBF.out.trans (hb3.mono HBF.out.size)); have HTG := HTF; obtain ⟨A3, cap3, rfl, hc3, hr3⟩ := hts3; clear hb3 hr3))
            go_ret2
            exact ⟨⟨_, rfl, HTG.out⟩, HBG.out⟩
          · rw [List.concat_eq_append] at hQ
            subst hQ
            have hQl : (Q ++ [m]).length = Q.length + 1 := by simp
            have hQx : (Q.length : Int) ≤ 1000000 := by have := hfR.1; omega
            have hQn : ((Q.length : Int) + 1 == 0) = false := by simp; omega
            have HTokQ := Lib.hid (show ∀ (w : World) (A : Option Addr) (cap : Nat), TRd w w.heap.size A (Q ++ [m]).length (Q ++ [m]) → ∃ b off, A = some ⟨b, off, none⟩ ∧ b < w.heap.size ∧ w.cell? ⟨b, off + Q.length * 4, none⟩ = some (.int .i64 m.k) ∧ w.cell? ⟨b, off + Q.length * 4 + 1, none⟩ = some (.string (bs m.raw)) ∧ w.cell? ⟨b, off + Q.length * 4 + 2, none⟩ = some (.string (bs m.val)) ∧ w.cell? ⟨b, off + Q.length * 4 + 3, none⟩ = some (.int .i64 m.num) from fun w A cap h => by
              obtain ⟨b, off, t', rfl, hb, hd, e0, e1, e2, e3⟩ := TRd.tok h (k := Q.length) (by omega)
              obtain rfl : m = t' := by simpa using hd
              exact ⟨b, off, rfl, hb, e0, e1, e2, e3⟩)
            simp only [List.getLast?_append, List.getLast?_singleton, Option.some_or, List.dropLast_concat]
            have hfQ : Fit Q := hfR.sub (List.sublist_append_left Q [m])
            have cS3 := Lib.hid (fun (w : World) (v : Value) (h : TS w0 v Q) (hb : Below w0.heap.size w0 w) => solid_ct v Q w0 w hfQ.1 h hb)
            have hsq := fun (b off cap : Nat) (hc : Q.length ≤ cap) w => slice_upto (P := Tryd.prog) (k := 4) Tryd.underlying67 Tryd.sizeOf104 (some ⟨b, off, none⟩) (Q.length + 1) cap (Q.length : Int) (by omega) (by omega) w
            simp only [Int.toNat_natCast] at hsq
            replace hsq := Lib.hid hsq
            obtain ⟨mk, mr, mv, mn⟩ := m
            simp only at HTokQ
            clear hfR hfQ hv
            cases hmk : markP ⟨mk, mr, mv, mn⟩
            · have cM := Lib.hid (fun w => asks_at mark_ct hmk w)
              simp only [Bool.false_eq_true, if_false]
              clear hmk
              go_enter Tryd.func191, Tryd.ntmps191
              go_wp2_with (first
                | (go_at_call 63; (with_reducible refine (cS1.out).mono ?_); rintro e W1 ⟨⟨v1, rfl, hts1⟩, hb1⟩; have HT1 := Lib.hid hts1; have HB1 := Lib.hid hb1; obtain ⟨A1, cap1, rfl, hc1, hr1⟩ := hts1; have HR1 := Lib.hid hr1; have hB1 := HB0.out.trans (HB1.out.mono HB0.out.size); obtain ⟨b1, o1, rfl, hb1l, e0, e1, e2, e3⟩ := HTok.out _ A1 cap1 (Rd.keep hr1 hB1 hB1.size); clear hB1; rw [hlen] at hc1 HT1 HR1 ⊢; clear hb1 hr1)
                | (go_at_call 109; (with_reducible refine (cF.out _ (HF.out.on HB1.out)).mono ?_); rintro e W2 ⟨rfl, hb2⟩; have HBF := Lib.hid (HB1.out.trans (hb2.mono HB1.out.size)); have HTF := HT1; have hslF := hsl.out b1 o1 cap1 (by omega); have HCut := Lib.hid (show TS w0 (.slice (some ⟨b1, o1, none⟩) K.length cap1) K from by have := ts_upto HR1.out hc1 (m := K.length) (by omega); rwa [List.take_left] at this); clear hb2 e0 e1 e2 e3)
                | (go_at_call 63; (with_reducible refine (cS2.out _ _ HCut.out (HB0.out.trans (HBF.out.mono HB0.out.size))).mono ?_); rintro e W3 ⟨⟨v3, rfl, hts3⟩, hb3⟩; have HBG := Lib.hid (HBF.out.trans (hb3.mono HBF.out.size)); have HTG := HTF; obtain ⟨A3, cap3, rfl, hc3, hr3⟩ := hts3; have hB3 := HB0.out.trans (HBG.out.mono HB0.out.size); obtain ⟨b3, o3, rfl, hb3l, f0, f1, f2, f3⟩ := HTokQ.out _ A3 cap3 (Rd.keep hr3 hB3 hB3.size); clear hB3; rw [hQl] at hc3 hr3 ⊢; have hsqF := hsq.out b3 o3 cap3 (by omega); have HR3 := Lib.hid hr3; clear hb3 hr3)
                | (go_at_call 205; (with_reducible refine (cM.out _).mono ?_); rintro e W4 ⟨rfl, hb4⟩; have HBM := Lib.hid (HBG.out.trans (hb4.mono HBG.out.size)); have HTM := HTG; have HCutQ := Lib.hid (show TS w0 (.slice (some ⟨b3, o3, none⟩) Q.length cap3) Q from by have := ts_upto HR3.out hc3 (m := Q.length) (by omega); rwa [List.take_left] at this); clear hb4 f0 f1 f2 f3))
              go_ret2
              exact ⟨⟨_, rfl, HTM.out⟩, HBM.out⟩
            · have cM := Lib.hid (fun w => asks_at mark_ct hmk w)
              simp only [if_true]
              clear hmk
              go_enter Tryd.func191, Tryd.ntmps191
              go_wp2_with (first
                | (go_at_call 63; (with_reducible refine (cS1.out).mono ?_); rintro e W1 ⟨⟨v1, rfl, hts1⟩, hb1⟩; have HT1 := Lib.hid hts1; have HB1 := Lib.hid hb1; obtain ⟨A1, cap1, rfl, hc1, hr1⟩ := hts1; have HR1 := Lib.hid hr1; have hB1 := HB0.out.trans (HB1.out.mono HB0.out.size); obtain ⟨b1, o1, rfl, hb1l, e0, e1, e2, e3⟩ := HTok.out _ A1 cap1 (Rd.keep hr1 hB1 hB1.size); clear hB1; rw [hlen] at hc1 HT1 HR1 ⊢; clear hb1 hr1)
                | (go_at_call 109; (with_reducible refine (cF.out _ (HF.out.on HB1.out)).mono ?_); rintro e W2 ⟨rfl, hb2⟩; have HBF := Lib.hid (HB1.out.trans (hb2.mono HB1.out.size)); have HTF := HT1; have hslF := hsl.out b1 o1 cap1 (by omega); have HCut := Lib.hid (show TS w0 (.slice (some ⟨b1, o1, none⟩) K.length cap1) K from by have := ts_upto HR1.out hc1 (m := K.length) (by omega); rwa [List.take_left] at this); clear hb2 e0 e1 e2 e3)
                | (go_at_call 63; (with_reducible refine (cS2.out _ _ HCut.out (HB0.out.trans (HBF.out.mono HB0.out.size))).mono ?_); rintro e W3 ⟨⟨v3, rfl, hts3⟩, hb3⟩; have HBG := Lib.hid (HBF.out.trans (hb3.mono HBF.out.size)); have HTG := HTF; obtain ⟨A3, cap3, rfl, hc3, hr3⟩ := hts3; have hB3 := HB0.out.trans (HBG.out.mono HB0.out.size); obtain ⟨b3, o3, rfl, hb3l, f0, f1, f2, f3⟩ := HTokQ.out _ A3 cap3 (Rd.keep hr3 hB3 hB3.size); clear hB3; rw [hQl] at hc3 hr3 ⊢; have hsqF := hsq.out b3 o3 cap3 (by omega); have HR3 := Lib.hid hr3; clear hb3 hr3)
                | (go_at_call 205; (with_reducible refine (cM.out _).mono ?_); rintro e W4 ⟨rfl, hb4⟩; have HBM := Lib.hid (HBG.out.trans (hb4.mono HBG.out.size)); have HTM := HTG; have HCutQ := Lib.hid (show TS w0 (.slice (some ⟨b3, o3, none⟩) Q.length cap3) Q from by have := ts_upto HR3.out hc3 (m := Q.length) (by omega); rwa [List.take_left] at this); clear hb4 f0 f1 f2 f3)
                | (go_at_call 63; (with_reducible refine (cS3.out _ _ HCutQ.out (HB0.out.trans (HBM.out.mono HB0.out.size))).mono ?_); rintro e W5 ⟨⟨v5, rfl, hts5⟩, hb5⟩; have HBZ := Lib.hid (HBM.out.trans (hb5.mono HBM.out.size)); have HTZ := Lib.hid hts5; clear hb5 hts5))
              go_ret2
              exact ⟨⟨_, rfl, HTZ.out⟩, HBZ.out⟩
      · have b1 : (tk != 1) = true := by simpa using hk
        rw [if_neg (fun h => hk h.1)]
        clear hk
        go_enter Tryd.func191, Tryd.ntmps191
        go_wp2_with (go_at_call 63; (with_reducible refine (cS1.out).mono ?_); rintro e W1 ⟨⟨v1, rfl, hts1⟩, hb1⟩; have HT1 := Lib.hid hts1; have HB1 := Lib.hid hb1; obtain ⟨A1, cap1, rfl, hc1, hr1⟩ := hts1; have HR1 := Lib.hid hr1; have hB1 := HB0.out.trans (HB1.out.mono HB0.out.size); obtain ⟨b1, o1, rfl, hb1l, e0, e1, e2, e3⟩ := HTok.out _ A1 cap1 (Rd.keep hr1 hB1 hB1.size); clear hB1; rw [hlen] at hc1 HT1 HR1 ⊢; clear hb1 hr1)
        go_ret2
        exact ⟨⟨_, rfl, HT1.out⟩, HB1.out⟩

end Go.Proofs.YtaihncbejhnceaaDoor.rul

namespace Go.Proofs.YtaihncbejhnceaaDoor.rul
open Go.RowKit Go.Proofs.YtaihncbejhnceaaDoor.base Go.Proofs.YtaihncbejhnceaaDoor.tok
set_option linter.unusedVariables false

theorem blk_two {t : Tk} {L : List Tk} (h : blkOk t L = true) : 2 ≤ blkLen t L := by
  unfold blkOk at h
  unfold blkLen
  cases hc : closeP [closerP t.raw] L with
  | none => rw [hc] at h; cases h
  | some e => have := close_le L _ e hc; simp; omega
/-- may a value be so? -/
def fairP : List Tk → Bool
  | [] => true
  | t :: L => if badP t || braceP t || decide (t.k = 11) then false
    else if opensP t then (if blkOk t L then fairP (L.take (blkLen t L - 2)) && fairP ((t :: L).drop (blkLen t L)) else false)
    else fairP L
termination_by L => L.length
decreasing_by
  · simp; omega
  · have := blkLen_bd t L; simp; omega
  · simp
theorem fairP_nil : fairP [] = true := by rw [fairP]
theorem fairP_cons (t : Tk) (L : List Tk) : fairP (t :: L) = if badP t || braceP t || decide (t.k = 11) then false
    else if opensP t then (if blkOk t L then fairP (L.take (blkLen t L - 2)) && fairP ((t :: L).drop (blkLen t L)) else false)
    else fairP L := by rw [fairP]

set_option maxRecDepth 100000 in
set_option maxHeartbeats 8000000 in
theorem fair_ct : ∀ (n : Nat) (v : Value) (L : List Tk) (w : World), L.length ≤ n → Fit L → TS w v L →
    Calls Tryd.prog 192 #[v] w fun e w' => e = .returned (.bool (fairP L)) ∧ Below w.heap.size w w' := by
  intro n
  induction n with
  | zero =>
    intro v L w hn hf hL
    obtain rfl := List.eq_nil_of_length_eq_zero (Nat.le_zero.1 hn)
    obtain ⟨A, cap, rfl, hc, hrd⟩ := hL
    rw [fairP_nil]
    clear hn hf hrd
    simp only [List.length_nil]
    go_enter Tryd.func192, Tryd.ntmps192
    go_wp2_with fail
    go_loopw [3] (fun x wr => x = .int .i64 0 ∧ wr = w) (fun _ _ => 0)
    case atStart => exact ⟨rfl, rfl⟩
    case round =>
      obtain ⟨rfl, rfl⟩ := hrel
      go_wp2_with fail
      go_ret
      exact ⟨rfl, Below.refl _ _⟩
  | succ n ih =>
  intro v L w hn hf hL
  obtain ⟨A, cap, rfl, hc, hrd⟩ := hL
  have HL := Lib.hid hrd
  have HFit := Lib.hid hf
  have IH := Lib.hid ih
  have hn6 := hf.1
  generalize hR : fairP L = R
  have HR := Lib.hid hR
  clear hrd hf ih hR
  go_enter Tryd.func192, Tryd.ntmps192
  go_wp2_with fail
  go_loopw [3] (fun x wr => ∃ i : Nat, i ≤ L.length ∧ x = .int .i64 i ∧ fairP (L.drop i) = R ∧ Below w.heap.size w wr) (fun x _ => L.length - (intOf x).toNat)
  case atStart => exact ⟨0, by omega, rfl, HR.out, Below.refl _ _⟩
  case round =>
    obtain ⟨i, hi, rfl, hinv, hbel⟩ := hrel
    obtain ⟨wo, hwo⟩ : ∃ wo, wo = wr := ⟨_, rfl⟩
    subst hwo
    have HBl := Lib.hid hbel
    have HInv := Lib.hid hinv
    have hz := hbel.size
    clear hinv HR
    by_cases hlt : i < L.length
    · have hlt' : (i : Int) < (L.length : Int) := by omega
      have hix : (i : Int) ≤ 1000000 := by omega
      obtain ⟨b, off, t, rfl, hb, hd, e0, e1, e2, e3⟩ := TRd.tok (HL.out.keep hbel hbel.size) hlt
      have hcons := fairP_cons t (L.drop (i + 1))
      rw [← drop_at hd, HInv.out] at hcons
      have hblk := block_is hd
      have hbd := blkLen_bd t (L.drop (i + 1))
      rw [List.length_drop] at hbd
      have htwo := fun h => blk_two (t := t) (L := L.drop (i + 1)) h
      have cB := Lib.hid (fun (W : World) (hW : TRd W W.heap.size (some ⟨b, off, none⟩) L.length L) => block_ct (some ⟨b, off, none⟩) cap L i hlt W hn6 hW HFit.out.raws)
      rw [hblk] at cB
      obtain ⟨tk, tr, tv, tn⟩ := t
      simp only at e0 e1 e2 e3 hcons cB
      clear hbel hd hblk
      go_wp2_with fail
      generalize hV : wo.alloc (.cells #[.int .i64 tk, .string (bs tr), .string (bs tv), .int .i64 tn] 104) = V
      have HV := Lib.hid (show Below w.heap.size w V by subst hV; exact HBl.out.alloc HBl.out.size _)
      have hV1 := (show Blk V wo.heap.size 104 #[.int .i64 tk, .string (bs tr), .string (bs tv), .int .i64 tn] by subst hV; exact Blk.new rfl)
      have cV := hV1.cell
      have HBk := Lib.hid hV1
      clear hV hV1 e0 e1 e2 e3
      cases hb6 : badP ⟨tk, tr, tv, tn⟩
      · have c1 := Lib.hid (fun w => asks_at bad_ct hb6 w)
        cases hbr : braceP ⟨tk, tr, tv, tn⟩
        · have c2 := Lib.hid (fun w => asks_at brace_ct hbr w)
          rw [hb6, hbr] at hcons
          clear hb6 hbr
          by_cases h11 : tk = 11
          · subst h11
            have HFin := Lib.hid (show R = false by simpa using hcons)
            clear hcons htwo hbd
            go_wp2_with (first
              | (go_at_call 106; (with_reducible refine (c1.out _).mono ?_); rintro e W1 ⟨rfl, hb1⟩; have HB1 := Lib.hid (HV.out.trans (hb1.mono HV.out.size)); have hk1 := HBk.out.below hb1 HBk.out.lt; have c1V := hk1.cell; have HK1 := Lib.hid hk1; clear hb1 hk1 cV)
              | (go_at_call 66; (with_reducible refine (c2.out _).mono ?_); rintro e W2 ⟨rfl, hb2⟩; have HB2 := Lib.hid (HB1.out.trans (hb2.mono HB1.out.size)); have hk2 := HK1.out.below hb2 HK1.out.lt; have c2V := hk2.cell; have HK2 := Lib.hid hk2; clear hb2 hk2 c1V))
            go_ret
            exact ⟨by rw [HFin.out]; rfl, HB2.out⟩
          · have b11 : (tk == 11) = false := by simpa using h11
            simp only [Bool.false_or, decide_eq_false h11, Bool.false_eq_true, if_false] at hcons
            cases ho : opensP ⟨tk, tr, tv, tn⟩
            · have c3 := Lib.hid (fun w => asks_at opens_ct ho w)
              rw [ho] at hcons
              have HNew := Lib.hid (show fairP (L.drop (i + 1)) = R by simpa using hcons.symm)
              clear hcons ho h11 htwo hbd
              go_wp2_with (first
                | (go_at_call 106; (with_reducible refine (c1.out _).mono ?_); rintro e W1 ⟨rfl, hb1⟩; have HB1 := Lib.hid (HV.out.trans (hb1.mono HV.out.size)); have hk1 := HBk.out.below hb1 HBk.out.lt; have c1V := hk1.cell; have HK1 := Lib.hid hk1; clear hb1 hk1 cV)
                | (go_at_call 66; (with_reducible refine (c2.out _).mono ?_); rintro e W2 ⟨rfl, hb2⟩; have HB2 := Lib.hid (HB1.out.trans (hb2.mono HB1.out.size)); have hk2 := HK1.out.below hb2 HK1.out.lt; have c2V := hk2.cell; have HK2 := Lib.hid hk2; clear hb2 hk2 c1V)
                | (go_at_call 102; (with_reducible refine (c3.out _).mono ?_); rintro e W3 ⟨rfl, hb3⟩; have HB3 := Lib.hid (HB2.out.trans (hb3.mono HB2.out.size)); have hk3 := HK2.out.below hb3 HK2.out.lt; have c3V := hk3.cell; have HK3 := Lib.hid hk3; clear hb3 hk3 c2V))
              go_roundw
              case rel => exact ⟨i + 1, by omega, by go_num, HNew.out, HB3.out⟩
              case measure => simp [intOf]; omega
            · have c3 := Lib.hid (fun w => asks_at opens_ct ho w)
              rw [ho, if_pos rfl] at hcons
              cases hok : blkOk ⟨tk, tr, tv, tn⟩ (L.drop (i + 1))
              · rw [hok] at hcons cB
                have HFin := Lib.hid (show R = false by simpa using hcons)
                generalize blkLen ⟨tk, tr, tv, tn⟩ (L.drop (i + 1)) = q at *
                clear hcons ho h11 hok htwo hbd
                go_wp2_with (first
                  | (go_at_call 106; (with_reducible refine (c1.out _).mono ?_); rintro e W1 ⟨rfl, hb1⟩; have HB1 := Lib.hid (HV.out.trans (hb1.mono HV.out.size)); have hk1 := HBk.out.below hb1 HBk.out.lt; have c1V := hk1.cell; have HK1 := Lib.hid hk1; clear hb1 hk1 cV)
                  | (go_at_call 66; (with_reducible refine (c2.out _).mono ?_); rintro e W2 ⟨rfl, hb2⟩; have HB2 := Lib.hid (HB1.out.trans (hb2.mono HB1.out.size)); have hk2 := HK1.out.below hb2 HK1.out.lt; have c2V := hk2.cell; have HK2 := Lib.hid hk2; clear hb2 hk2 c1V)
                  | (go_at_call 102; (with_reducible refine (c3.out _).mono ?_); rintro e W3 ⟨rfl, hb3⟩; have HB3 := Lib.hid (HB2.out.trans (hb3.mono HB2.out.size)); have hk3 := HK2.out.below hb3 HK2.out.lt; have c3V := hk3.cell; have HK3 := Lib.hid hk3; clear hb3 hk3 c2V)
                  | (go_at_call 68; (with_reducible refine (cB.out _ (HL.out.keep HB3.out HB3.out.size)).mono ?_); rintro e W4 ⟨rfl, hb4⟩; have HB4 := Lib.hid (HB3.out.trans (hb4.mono HB3.out.size)); have hz4 := HB4.out.size; clear hb4 c3V))
                go_ret
                exact ⟨by rw [HFin.out]; rfl, HB4.out⟩
              · rw [hok] at hcons cB
                have h2 := htwo hok
                rw [if_pos rfl] at hcons
                generalize hq : blkLen ⟨tk, tr, tv, tn⟩ (L.drop (i + 1)) = q at *
                have hqn : i + q ≤ L.length := by omega
                have hq2z : (2 : Int) ≤ q := by omega
                have hqx : (q : Int) ≤ 1000000 := by omega
                have hdr : (L.drop i).drop q = L.drop (i + q) := List.drop_drop
                have hinl : ((L.drop (i + 1)).take (q - 2)).length = q - 2 := by rw [List.length_take, List.length_drop]; omega
                have hins : ((L.drop (i + 1)).take (q - 2)).Sublist L := (List.take_sublist _ _).trans (List.drop_sublist _ _)
                have cI := fun (W : World) (v : Value) (h : TS W v ((L.drop (i + 1)).take (q - 2))) => IH.out v ((L.drop (i + 1)).take (q - 2)) W (by omega) (HFit.out.sub hins) h
                have hcut := fun (W : World) (h : TRd W W.heap.size (some ⟨b, off, none⟩) L.length L) => ts_cut h hc (i := i + 1) (m := q - 2) (by omega)
                have hsl : ∀ w, (Instr.slice 67 (.slice (some ⟨b, off, none⟩) L.length cap) (some (.int .i64 ((i : Int) + 1))) (some (.int .i64 ((i : Int) + q - 1))) none).run Tryd.prog w = .ok (.slice (addrAt 4 (some ⟨b, off, none⟩) cap (i + 1)) (q - 2) (cap - (i + 1))) w := fun w => by
                  have := slice_both (P := Tryd.prog) (k := 4) Tryd.underlying67 Tryd.sizeOf104 (some ⟨b, off, none⟩) L.length cap ((i : Int) + 1) ((i : Int) + q - 1) (by omega) (by omega) (by omega) w
                  rw [this, show ((i : Int) + 1).toNat = i + 1 by omega, show ((i : Int) + q - 1).toNat - (i + 1) = q - 2 by omega]
                rw [hdr] at hcons
                generalize (L.drop (i + 1)).take (q - 2) = M at *
                replace hcut := Lib.hid hcut
                have HHin := Lib.hid hinl
                cases hfi : fairP M
                · rw [hfi] at cI hcons
                  replace cI := Lib.hid cI
                  have HFin := Lib.hid (show R = false by simpa using hcons)
                  clear hcons ho h11 hok htwo hbd hq hdr hinl hins hfi h2 hqn
                  go_wp2_with (first
                    | (go_at_call 106; (with_reducible refine (c1.out _).mono ?_); rintro e W1 ⟨rfl, hb1⟩; have HB1 := Lib.hid (HV.out.trans (hb1.mono HV.out.size)); have hk1 := HBk.out.below hb1 HBk.out.lt; have c1V := hk1.cell; have HK1 := Lib.hid hk1; clear hb1 hk1 cV)
                    | (go_at_call 66; (with_reducible refine (c2.out _).mono ?_); rintro e W2 ⟨rfl, hb2⟩; have HB2 := Lib.hid (HB1.out.trans (hb2.mono HB1.out.size)); have hk2 := HK1.out.below hb2 HK1.out.lt; have c2V := hk2.cell; have HK2 := Lib.hid hk2; clear hb2 hk2 c1V)
                    | (go_at_call 102; (with_reducible refine (c3.out _).mono ?_); rintro e W3 ⟨rfl, hb3⟩; have HB3 := Lib.hid (HB2.out.trans (hb3.mono HB2.out.size)); have hk3 := HK2.out.below hb3 HK2.out.lt; have c3V := hk3.cell; have HK3 := Lib.hid hk3; clear hb3 hk3 c2V)
                    | (go_at_call 68; (with_reducible refine (cB.out _ (HL.out.keep HB3.out HB3.out.size)).mono ?_); rintro e W4 ⟨rfl, hb4⟩; have HB4 := Lib.hid (HB3.out.trans (hb4.mono HB3.out.size)); have hz4 := HB4.out.size; clear hb4 c3V)
                    | (go_at_call 192; (with_reducible refine (cI.out _ _ (hcut.out _ (HL.out.keep HB4.out HB4.out.size))).mono ?_); rintro e W5 ⟨rfl, hb5⟩; have HB5 := Lib.hid (HB4.out.trans (hb5.mono HB4.out.size)); clear hb5))
                  go_ret
                  exact ⟨by rw [HFin.out]; rfl, HB5.out⟩
                · rw [hfi] at cI hcons
                  replace cI := Lib.hid cI
                  have HNew := Lib.hid (show fairP (L.drop (i + q)) = R by simpa using hcons.symm)
                  have Hqn := Lib.hid (show i + q ≤ L.length ∧ 2 ≤ q from ⟨hqn, h2⟩)
                  clear hcons ho h11 hok htwo hbd hq hdr hinl hins hfi h2 hqn
                  go_wp2_with (first
                    | (go_at_call 106; (with_reducible refine (c1.out _).mono ?_); rintro e W1 ⟨rfl, hb1⟩; have HB1 := Lib.hid (HV.out.trans (hb1.mono HV.out.size)); have hk1 := HBk.out.below hb1 HBk.out.lt; have c1V := hk1.cell; have HK1 := Lib.hid hk1; clear hb1 hk1 cV)
                    | (go_at_call 66; (with_reducible refine (c2.out _).mono ?_); rintro e W2 ⟨rfl, hb2⟩; have HB2 := Lib.hid (HB1.out.trans (hb2.mono HB1.out.size)); have hk2 := HK1.out.below hb2 HK1.out.lt; have c2V := hk2.cell; have HK2 := Lib.hid hk2; clear hb2 hk2 c1V)
                    | (go_at_call 102; (with_reducible refine (c3.out _).mono ?_); rintro e W3 ⟨rfl, hb3⟩; have HB3 := Lib.hid (HB2.out.trans (hb3.mono HB2.out.size)); have hk3 := HK2.out.below hb3 HK2.out.lt; have c3V := hk3.cell; have HK3 := Lib.hid hk3; clear hb3 hk3 c2V)
                    | (go_at_call 68; (with_reducible refine (cB.out _ (HL.out.keep HB3.out HB3.out.size)).mono ?_); rintro e W4 ⟨rfl, hb4⟩; have HB4 := Lib.hid (HB3.out.trans (hb4.mono HB3.out.size)); have hz4 := HB4.out.size; clear hb4 c3V)
                    | (go_at_call 192; (with_reducible refine (cI.out _ _ (hcut.out _ (HL.out.keep HB4.out HB4.out.size))).mono ?_); rintro e W5 ⟨rfl, hb5⟩; have HB5 := Lib.hid (HB4.out.trans (hb5.mono HB4.out.size)); clear hb5))
                  go_roundw
                  case rel => exact ⟨i + q, Hqn.out.1, by go_num, HNew.out, HB5.out⟩
                  case measure => have := Hqn.out; simp [intOf]; omega
        · have c2 := Lib.hid (fun w => asks_at brace_ct hbr w)
          have HFin := Lib.hid (show R = false by rw [hcons, hbr]; simp)
          clear hcons hb6 hbr htwo hbd
          go_wp2_with (first
            | (go_at_call 106; (with_reducible refine (c1.out _).mono ?_); rintro e W1 ⟨rfl, hb1⟩; have HB1 := Lib.hid (HV.out.trans (hb1.mono HV.out.size)); have hk1 := HBk.out.below hb1 HBk.out.lt; have c1V := hk1.cell; have HK1 := Lib.hid hk1; clear hb1 hk1 cV)
            | (go_at_call 66; (with_reducible refine (c2.out _).mono ?_); rintro e W2 ⟨rfl, hb2⟩; have HB2 := Lib.hid (HB1.out.trans (hb2.mono HB1.out.size)); have hk2 := HK1.out.below hb2 HK1.out.lt; have c2V := hk2.cell; have HK2 := Lib.hid hk2; clear hb2 hk2 c1V))
          go_ret
          exact ⟨by rw [HFin.out]; rfl, HB2.out⟩
      · have c1 := Lib.hid (fun w => asks_at bad_ct hb6 w)
        have HFin := Lib.hid (show R = false by rw [hcons, hb6]; simp)
        clear hcons hb6 htwo hbd
        go_wp2_with (first
          | (go_at_call 106; (with_reducible refine (c1.out _).mono ?_); rintro e W1 ⟨rfl, hb1⟩; have HB1 := Lib.hid (HV.out.trans (hb1.mono HV.out.size)); have hk1 := HBk.out.below hb1 HBk.out.lt; have c1V := hk1.cell; have HK1 := Lib.hid hk1; clear hb1 hk1 cV))
        go_ret
        exact ⟨by rw [HFin.out]; rfl, HB1.out⟩
    · obtain rfl : i = L.length := by omega
      have hfin := Lib.hid (show R = true by rw [← HInv.out, List.drop_length, fairP_nil])
      clear hbel
      go_wp2
      go_ret
      exact ⟨by rw [hfin.out]; rfl, HBl.out⟩

end Go.Proofs.YtaihncbejhnceaaDoor.rul

namespace Go.Proofs.YtaihncbejhnceaaDoor.rul
open Go.RowKit Go.Proofs.YtaihncbejhnceaaDoor.base Go.Proofs.YtaihncbejhnceaaDoor.tok
set_option linter.unusedVariables false

/-- a declaration -/
structure Dc where
  name : Bs
  val : Bs
  imp : Bool
deriving DecidableEq
abbrev Dc.cells (d : Dc) : Array Value := #[.string (bs d.name), .string (bs d.val), .bool d.imp]
def noDc : Dc := ⟨[], [], false⟩
def ownP (l : Bs) : Bool := Lib.hasPrefix l [45, 45]
def nameD (l : Bs) : Bs := if ownP l then l else l.map lowB
/-- behind the name -/
def declB (own : Bool) (nm : Bs) : List Tk → Dc × Bool
  | [] => (noDc, false)
  | c :: r => if colonP c && plainP nm then (⟨nm, headP (impP r).1, (impP r).2⟩, fairP (impP r).1 && (own || decide (headP (impP r).1 ≠ []))) else (noDc, false)
def declM : List Tk → Dc × Bool
  | [] => (noDc, false)
  | t :: r => if t.k = 1 then declB (ownP t.val) (nameD t.val) (solidP r) else (noDc, false)
def declP (L : List Tk) : Dc × Bool := declM (solidP L)

/-- the first token of a slice -/
theorem tok_zero {w : World} {A : Option Addr} {t : Tk} {r : List Tk} {n : Nat} (h : TRd w w.heap.size A n (t :: r)) (hn : 0 < n) : ∃ b off, A = some ⟨b, off, none⟩ ∧ b < w.heap.size ∧ w.cell? ⟨b, off, none⟩ = some (.int .i64 t.k) ∧ w.cell? ⟨b, off + 1, none⟩ = some (.string (bs t.raw)) ∧ w.cell? ⟨b, off + 2, none⟩ = some (.string (bs t.val)) ∧ w.cell? ⟨b, off + 3, none⟩ = some (.int .i64 t.num) := by
  obtain ⟨b, off, t', rfl, hb, hd, e0, e1, e2, e3⟩ := TRd.tok h (k := 0) hn
  obtain rfl : t = t' := by simpa using hd
  simp only [Nat.zero_mul, Nat.add_zero] at e0 e1 e2 e3
  exact ⟨b, off, rfl, hb, e0, e1, e2, e3⟩

/-- a world of decl's: from W1 on its two blocks -/
def DI (w W1 X : World) (nm vl im : Value) : Prop := Below w.heap.size w X ∧ Below W1.heap.size W1 X ∧ Blk X w.heap.size 65 #[.string .empty, .string .empty, .bool false] ∧ Blk X W1.heap.size 65 #[nm, vl, im] ∧ w.heap.size < W1.heap.size
theorem DI.bel {w W1 X : World} {nm vl im : Value} (h : DI w W1 X nm vl im) : Below w.heap.size w X := h.1
theorem DI.on {w W1 X X' : World} {nm vl im : Value} (h : DI w W1 X nm vl im) (hb : Below X.heap.size X X') : DI w W1 X' nm vl im := by
  obtain ⟨h1, h2, h3, h4, h5⟩ := h
  exact ⟨h1.trans (hb.mono h1.size), h2.trans (hb.mono h2.size), h3.below hb h3.lt, h4.below hb h4.lt, h5⟩
theorem DI.put0 {w W1 X : World} {nm vl im : Value} (h : DI w W1 X nm vl im) (v : Value) : DI w W1 (X.setCell ⟨W1.heap.size, 0, none⟩ v) v vl im := by
  obtain ⟨h1, h2, h3, h4, h5⟩ := h
  exact ⟨h1.setCell (Nat.le_of_lt h5) v, h2.setCell (Nat.le_refl _) v, h3.far (Nat.ne_of_lt h5) v, h4.put 0 v, h5⟩
theorem DI.put1 {w W1 X : World} {nm vl im : Value} (h : DI w W1 X nm vl im) (v : Value) : DI w W1 (X.setCell ⟨W1.heap.size, 1, none⟩ v) nm v im := by
  obtain ⟨h1, h2, h3, h4, h5⟩ := h
  exact ⟨h1.setCell (Nat.le_of_lt h5) v, h2.setCell (Nat.le_refl _) v, h3.far (Nat.ne_of_lt h5) v, h4.put 1 v, h5⟩
theorem DI.put2 {w W1 X : World} {nm vl im : Value} (h : DI w W1 X nm vl im) (v : Value) : DI w W1 (X.setCell ⟨W1.heap.size, 2, none⟩ v) nm vl v := by
  obtain ⟨h1, h2, h3, h4, h5⟩ := h
  exact ⟨h1.setCell (Nat.le_of_lt h5) v, h2.setCell (Nat.le_refl _) v, h3.far (Nat.ne_of_lt h5) v, h4.put 2 v, h5⟩
/-- .. its result is laid -/
theorem DI.fin {w W1 X : World} {nm vl im : Value} (h : DI w W1 X nm vl im) (a b c : Value) : (∀ i, (((X.setCell ⟨w.heap.size, 0, none⟩ a).setCell ⟨w.heap.size, 1, none⟩ b).setCell ⟨w.heap.size, 2, none⟩ c).cell? ⟨w.heap.size, i, none⟩ = (#[a, b, c] : Array Value)[i]?) ∧ Below w.heap.size w (((X.setCell ⟨w.heap.size, 0, none⟩ a).setCell ⟨w.heap.size, 1, none⟩ b).setCell ⟨w.heap.size, 2, none⟩ c) := by
  obtain ⟨h1, h2, h3, h4, h5⟩ := h
  exact ⟨(((h3.put 0 a).put 1 b).put 2 c).cell, ((h1.setCell (Nat.le_refl _) a).setCell (Nat.le_refl _) b).setCell (Nat.le_refl _) c⟩
theorem DI.cells {w W1 X : World} {nm vl im : Value} (h : DI w W1 X nm vl im) : (∀ i, X.cell? ⟨W1.heap.size, i, none⟩ = (#[nm, vl, im] : Array Value)[i]?) ∧ (∀ i, X.frozen? ⟨W1.heap.size, i, none⟩ = false) ∧ (∀ i, X.frozen? ⟨w.heap.size, i, none⟩ = false) ∧ ∀ i, X.cell? ⟨w.heap.size, i, none⟩ = (#[.string .empty, .string .empty, .bool false] : Array Value)[i]? := by
  obtain ⟨h1, h2, h3, h4, h5⟩ := h
  exact ⟨h4.cell, h4.frozen, h3.frozen, h3.cell⟩

set_option maxRecDepth 100000 in
set_option maxHeartbeats 4000000 in
theorem decl_none (v : Value) (L : List Tk) (w : World) (hM : solidP L = []) (hf : Fit L) (hL : TS w v L) (hF : FoldAt w) (hm : MaxL w) :
    Calls Tryd.prog 156 #[v] w fun e w' => e = .returned (.tuple #[.agg noDc.cells, .bool false]) ∧ Below w.heap.size w w' := by
  have cS1 := Lib.hid (fun X hX => solid_ct v L w X hf.1 hL hX)
  rw [hM] at cS1
  clear hL hF hf hm hM
  go_enter Tryd.func156, Tryd.ntmps156
  go_wp2_with (go_at_call 63; (with_reducible refine (cS1.out _ ((Below.refl _ _).alloc (Nat.le_refl _) _)).mono ?_); rintro e W1 ⟨⟨v1, rfl, hts1⟩, hb1⟩; have HB1 := Lib.hid (((Below.refl w.heap.size w).alloc (Nat.le_refl _) _).trans (hb1.mono (by simp))); have hR1 := (Blk.new (w := w) (t := 65) (cs := #[.string .empty, .string .empty, .bool false]) rfl).below hb1 (by simp); have fR1 := hR1.frozen; have cR1 := hR1.cell; have HR1 := Lib.hid hR1; obtain ⟨A1, cap1, rfl, hc1, hr1⟩ := hts1; clear hr1; clear hb1 hR1)
  have e := (((HR1.out.put 0 (.string ⟨#[]⟩)).put 1 (.string ⟨#[]⟩)).put 2 (.bool false)).cell
  refine bodyPost_ret (v := .tuple #[.agg #[.string ⟨#[]⟩, .string ⟨#[]⟩, .bool false], .bool false]) (by simp [results, Tryd.results156, go_sem, e]) rfl ⟨rfl, ?_⟩
  exact ((HB1.out.setCell (Nat.le_refl _) _).setCell (Nat.le_refl _) _).setCell (Nat.le_refl _) _

set_option maxRecDepth 100000 in
set_option maxHeartbeats 4000000 in
theorem decl_other (v : Value) (L : List Tk) (w : World) (t : Tk) (r : List Tk) (hM : solidP L = t :: r) (hk : ¬ t.k = 1) (hf : Fit L) (hL : TS w v L) (hF : FoldAt w) (hm : MaxL w) :
    Calls Tryd.prog 156 #[v] w fun e w' => e = .returned (.tuple #[.agg noDc.cells, .bool false]) ∧ Below w.heap.size w w' := by
  have cS1 := Lib.hid (fun X hX => solid_ct v L w X hf.1 hL hX)
  rw [hM] at cS1
  clear hL hF hf hm hM
  go_enter Tryd.func156, Tryd.ntmps156
  obtain ⟨tk, tr, tv, tn⟩ := t
  simp only at hk
  have b1 : (tk != 1) = true := by simpa using hk
  have hz : ((r.length : Int) + 1 == 0) = false := by simp; omega
  have hz2 : (0 : Int) < (r.length : Int) + 1 := by omega
  clear hk
  go_wp2_with (go_at_call 63; (with_reducible refine (cS1.out _ ((Below.refl _ _).alloc (Nat.le_refl _) _)).mono ?_); rintro e W1 ⟨⟨v1, rfl, hts1⟩, hb1⟩; have HB1 := Lib.hid (((Below.refl w.heap.size w).alloc (Nat.le_refl _) _).trans (hb1.mono (by simp))); have hR1 := (Blk.new (w := w) (t := 65) (cs := #[.string .empty, .string .empty, .bool false]) rfl).below hb1 (by simp); have fR1 := hR1.frozen; have cR1 := hR1.cell; have HR1 := Lib.hid hR1; obtain ⟨A1, cap1, rfl, hc1, hr1⟩ := hts1; obtain ⟨b1l, o1, rfl, hbl1, e0, e1, e2, e3⟩ := tok_zero (Rd.keep hr1 HB1.out HB1.out.size) (by simp); clear hr1; clear hb1 hR1)
  have e := (((HR1.out.put 0 (.string ⟨#[]⟩)).put 1 (.string ⟨#[]⟩)).put 2 (.bool false)).cell
  refine bodyPost_ret (v := .tuple #[.agg #[.string ⟨#[]⟩, .string ⟨#[]⟩, .bool false], .bool false]) (by simp [results, Tryd.results156, go_sem, e]) rfl ⟨rfl, ?_⟩
  exact ((HB1.out.setCell (Nat.le_refl _) _).setCell (Nat.le_refl _) _).setCell (Nat.le_refl _) _

theorem slice_one (A : Option Addr) (n cap : Nat) (w : World) : (Instr.slice 67 (.slice A (n + 1) cap) (some (.int .i64 1)) none none).run Tryd.prog w = .ok (.slice (addrAt 4 A cap 1) n (cap - 1)) w := by
  have := slice_from (P := Tryd.prog) (k := 4) Tryd.underlying67 Tryd.sizeOf104 A (n + 1) cap 1 (by omega) (by omega) w
  rw [this]
  rfl
theorem DI.new {w W1 : World} (hb : Below w.heap.size w W1) (h : Blk W1 w.heap.size 65 #[.string .empty, .string .empty, .bool false]) (nm vl im : Value) : DI w W1 (W1.alloc (.cells #[nm, vl, im] 65)) nm vl im :=
  ⟨hb.alloc hb.size _, (Below.refl _ _).alloc (Nat.le_refl _) _, h.alloc _, Blk.new rfl, h.lt⟩
theorem hasP_ct (l : Bs) (w : World) : Calls Tryd.prog 120 #[.string (bs l), .string ⟨#[45, 45]⟩] w fun e w' => e = .returned (.bool (ownP l)) ∧ w = w' :=
  (Tryd.strings_HasPrefix (bs l) ⟨#[45, 45]⟩ w).mono fun e w' ⟨h1, h2⟩ => ⟨h1, h2.symm⟩

set_option maxRecDepth 100000 in
set_option maxHeartbeats 4000000 in
theorem decl_C_true (v : Value) (L : List Tk) (w : World) (tr tv : Bs) (tn : Int) (r : List Tk) (hM : solidP L = ⟨1, tr, tv, tn⟩ :: r) (ho : ownP tv = true) (hR : solidP r = []) (hf : Fit L) (hL : TS w v L) (hF : FoldAt w) (hm : MaxL w) :
    Calls Tryd.prog 156 #[v] w fun e w' => e = .returned (.tuple #[.agg noDc.cells, .bool false]) ∧ Below w.heap.size w w' := by
  have cS1 := Lib.hid (fun X hX => solid_ct v L w X hf.1 hL hX)
  rw [hM] at cS1
  have hfM := hf.sub (solid_sub L)
  rw [hM] at hfM
  have hfr : Fit r := hfM.sub (List.sublist_cons_self _ _)
  have ht3 := (hfM.2.2 _ (List.mem_cons_self ..)).2.2
  simp only at ht3
  have cS2 := Lib.hid (fun (X : World) (v2 : Value) (h2 : TS w v2 r) (hX : Below w.heap.size w X) => solid_ct v2 r w X hfr.1 h2 hX)
  have cH := fun X => hasP_ct tv X
  rw [ho] at cH
  replace cH := Lib.hid cH
  have HM := Lib.hid hm
  have HF := Lib.hid hF
  have hz : ((r.length : Int) + 1 == 0) = false := by simp; omega
  have hz2 : (0 : Int) < (r.length : Int) + 1 := by omega
  rw [hR] at cS2
  clear hL hF hf hm hM hfM hfr ho ht3 hR
  go_enter Tryd.func156, Tryd.ntmps156
  go_wp2_with (first
    | (go_at_call 63; (with_reducible refine (cS1.out _ ((Below.refl _ _).alloc (Nat.le_refl _) _)).mono ?_); rintro e W1 ⟨⟨v1, rfl, hts1⟩, hb1⟩; have HB1 := Lib.hid (((Below.refl w.heap.size w).alloc (Nat.le_refl _) _).trans (hb1.mono (by simp))); have hR1 := (Blk.new (w := w) (t := 65) (cs := #[.string .empty, .string .empty, .bool false]) rfl).below hb1 (by simp); have fR1 := hR1.frozen; have cR1 := hR1.cell; have HR1 := Lib.hid hR1; obtain ⟨A1, cap1, rfl, hc1, hr1⟩ := hts1; obtain ⟨b1l, o1, rfl, hbl1, e0, e1, e2, e3⟩ := tok_zero (Rd.keep hr1 HB1.out HB1.out.size) (by simp); have HT2 := Lib.hid (show TS w (.slice (addrAt 4 (some ⟨b1l, o1, none⟩) cap1 1) r.length (cap1 - 1)) r from ts_from hr1 hc1 (i := 1) (by simp)); have hsl1 := slice_one (some ⟨b1l, o1, none⟩) r.length cap1; have D1 := Lib.hid (DI.new HB1.out HR1.out (.string (bs tv)) (.string ⟨#[]⟩) (.bool false)); have d1c := D1.out.cells.1; have d1f := D1.out.cells.2.1; have d1r := D1.out.cells.2.2.1; have d1q := D1.out.cells.2.2.2; clear hr1; clear hb1 hR1)
    | (go_at_call 120; (with_reducible refine (cH.out _).mono ?_); rintro e Wh ⟨rfl, rfl⟩)
    | (go_at_call 63; (with_reducible refine (cS2.out _ _ HT2.out D1.out.bel).mono ?_); rintro e W3 ⟨⟨v3, rfl, hts3⟩, hb3⟩; have D3 := Lib.hid (D1.out.on hb3); have d3c := D3.out.cells.1; have d3f := D3.out.cells.2.1; have d3r := D3.out.cells.2.2.1; have d3q := D3.out.cells.2.2.2; obtain ⟨A3, cap3, rfl, hc3, hr3⟩ := hts3;  clear hb3 hr3 d1c d1f d1r d1q))
  have e := (D3.out.fin (.string ⟨#[]⟩) (.string ⟨#[]⟩) (.bool false)).1
  refine bodyPost_ret (v := .tuple #[.agg #[.string ⟨#[]⟩, .string ⟨#[]⟩, .bool false], .bool false]) (by simp [results, Tryd.results156, go_sem, e]) rfl ⟨rfl, ?_⟩
  exact (D3.out.fin (.string ⟨#[]⟩) (.string ⟨#[]⟩) (.bool false)).2

set_option maxRecDepth 100000 in
set_option maxHeartbeats 4000000 in
theorem decl_D_true (v : Value) (L : List Tk) (w : World) (tr tv : Bs) (tn : Int) (r : List Tk) (hM : solidP L = ⟨1, tr, tv, tn⟩ :: r) (ho : ownP tv = true) (c : Tk) (r2 : List Tk) (hR : solidP r = c :: r2) (hc : colonP c = false) (hf : Fit L) (hL : TS w v L) (hF : FoldAt w) (hm : MaxL w) :
    Calls Tryd.prog 156 #[v] w fun e w' => e = .returned (.tuple #[.agg noDc.cells, .bool false]) ∧ Below w.heap.size w w' := by
  have cS1 := Lib.hid (fun X hX => solid_ct v L w X hf.1 hL hX)
  rw [hM] at cS1
  have hfM := hf.sub (solid_sub L)
  rw [hM] at hfM
  have hfr : Fit r := hfM.sub (List.sublist_cons_self _ _)
  have ht3 := (hfM.2.2 _ (List.mem_cons_self ..)).2.2
  simp only at ht3
  have cS2 := Lib.hid (fun (X : World) (v2 : Value) (h2 : TS w v2 r) (hX : Below w.heap.size w X) => solid_ct v2 r w X hfr.1 h2 hX)
  have cH := fun X => hasP_ct tv X
  rw [ho] at cH
  replace cH := Lib.hid cH
  have HM := Lib.hid hm
  have HF := Lib.hid hF
  have hz : ((r.length : Int) + 1 == 0) = false := by simp; omega
  have hz2 : (0 : Int) < (r.length : Int) + 1 := by omega
  rw [hR] at cS2
  have hfR := hfr.sub (solid_sub r)
  rw [hR] at hfR
  have hfr2 : Fit r2 := hfR.sub (List.sublist_cons_self _ _)
  have hy : ((r2.length : Int) + 1 == 0) = false := by simp; omega
  have hy2 : (0 : Int) < (r2.length : Int) + 1 := by omega
  obtain ⟨ck, cr, cv, cn⟩ := c
  have cC := Lib.hid (fun X => asks_at colon_ct hc X)
  clear hL hF hf hm hM hfM hfr ho ht3 hR hfR hfr2 hc
  go_enter Tryd.func156, Tryd.ntmps156
  go_wp2_with (first
    | (go_at_call 63; (with_reducible refine (cS1.out _ ((Below.refl _ _).alloc (Nat.le_refl _) _)).mono ?_); rintro e W1 ⟨⟨v1, rfl, hts1⟩, hb1⟩; have HB1 := Lib.hid (((Below.refl w.heap.size w).alloc (Nat.le_refl _) _).trans (hb1.mono (by simp))); have hR1 := (Blk.new (w := w) (t := 65) (cs := #[.string .empty, .string .empty, .bool false]) rfl).below hb1 (by simp); have fR1 := hR1.frozen; have cR1 := hR1.cell; have HR1 := Lib.hid hR1; obtain ⟨A1, cap1, rfl, hc1, hr1⟩ := hts1; obtain ⟨b1l, o1, rfl, hbl1, e0, e1, e2, e3⟩ := tok_zero (Rd.keep hr1 HB1.out HB1.out.size) (by simp); have HT2 := Lib.hid (show TS w (.slice (addrAt 4 (some ⟨b1l, o1, none⟩) cap1 1) r.length (cap1 - 1)) r from ts_from hr1 hc1 (i := 1) (by simp)); have hsl1 := slice_one (some ⟨b1l, o1, none⟩) r.length cap1; have D1 := Lib.hid (DI.new HB1.out HR1.out (.string (bs tv)) (.string ⟨#[]⟩) (.bool false)); have d1c := D1.out.cells.1; have d1f := D1.out.cells.2.1; have d1r := D1.out.cells.2.2.1; have d1q := D1.out.cells.2.2.2; clear hr1; clear hb1 hR1)
    | (go_at_call 120; (with_reducible refine (cH.out _).mono ?_); rintro e Wh ⟨rfl, rfl⟩)
    | (go_at_call 63; (with_reducible refine (cS2.out _ _ HT2.out D1.out.bel).mono ?_); rintro e W3 ⟨⟨v3, rfl, hts3⟩, hb3⟩; have D3 := Lib.hid (D1.out.on hb3); have d3c := D3.out.cells.1; have d3f := D3.out.cells.2.1; have d3r := D3.out.cells.2.2.1; have d3q := D3.out.cells.2.2.2; obtain ⟨A3, cap3, rfl, hc3, hr3⟩ := hts3; obtain ⟨b3l, o3, rfl, hbl3, f0, f1, f2, f3⟩ := tok_zero (Rd.keep hr3 D3.out.bel D3.out.bel.size) (by simp); have HT3 := Lib.hid (show TS w (.slice (addrAt 4 (some ⟨b3l, o3, none⟩) cap3 1) r2.length (cap3 - 1)) r2 from ts_from hr3 hc3 (i := 1) (by simp)); have hsl3 := slice_one (some ⟨b3l, o3, none⟩) r2.length cap3; clear hb3 hr3 d1c d1f d1r d1q)
    | (go_at_call 189; (with_reducible refine (cC.out _).mono ?_); rintro e W4 ⟨rfl, hb4⟩; have D4 := Lib.hid (D3.out.on hb4); have d4c := D4.out.cells.1; have d4f := D4.out.cells.2.1; have d4r := D4.out.cells.2.2.1; have d4q := D4.out.cells.2.2.2; clear hb4 f0 f1 f2 f3 d3c d3f d3r d3q))
  have e := (D4.out.fin (.string ⟨#[]⟩) (.string ⟨#[]⟩) (.bool false)).1
  refine bodyPost_ret (v := .tuple #[.agg #[.string ⟨#[]⟩, .string ⟨#[]⟩, .bool false], .bool false]) (by simp [results, Tryd.results156, go_sem, e]) rfl ⟨rfl, ?_⟩
  exact (D4.out.fin (.string ⟨#[]⟩) (.string ⟨#[]⟩) (.bool false)).2

set_option maxRecDepth 100000 in
set_option maxHeartbeats 4000000 in
theorem decl_E_true (v : Value) (L : List Tk) (w : World) (tr tv : Bs) (tn : Int) (r : List Tk) (hM : solidP L = ⟨1, tr, tv, tn⟩ :: r) (ho : ownP tv = true) (c : Tk) (r2 : List Tk) (hR : solidP r = c :: r2) (hc : colonP c = true) (hp : plainP tv = false) (hf : Fit L) (hL : TS w v L) (hF : FoldAt w) (hm : MaxL w) :
    Calls Tryd.prog 156 #[v] w fun e w' => e = .returned (.tuple #[.agg noDc.cells, .bool false]) ∧ Below w.heap.size w w' := by
  have cS1 := Lib.hid (fun X hX => solid_ct v L w X hf.1 hL hX)
  rw [hM] at cS1
  have hfM := hf.sub (solid_sub L)
  rw [hM] at hfM
  have hfr : Fit r := hfM.sub (List.sublist_cons_self _ _)
  have ht3 := (hfM.2.2 _ (List.mem_cons_self ..)).2.2
  simp only at ht3
  have cS2 := Lib.hid (fun (X : World) (v2 : Value) (h2 : TS w v2 r) (hX : Below w.heap.size w X) => solid_ct v2 r w X hfr.1 h2 hX)
  have cH := fun X => hasP_ct tv X
  rw [ho] at cH
  replace cH := Lib.hid cH
  have HM := Lib.hid hm
  have HF := Lib.hid hF
  have hz : ((r.length : Int) + 1 == 0) = false := by simp; omega
  have hz2 : (0 : Int) < (r.length : Int) + 1 := by omega
  rw [hR] at cS2
  have hfR := hfr.sub (solid_sub r)
  rw [hR] at hfR
  have hfr2 : Fit r2 := hfR.sub (List.sublist_cons_self _ _)
  have hy : ((r2.length : Int) + 1 == 0) = false := by simp; omega
  have hy2 : (0 : Int) < (r2.length : Int) + 1 := by omega
  obtain ⟨ck, cr, cv, cn⟩ := c
  have cC := Lib.hid (fun X => asks_at colon_ct hc X)
  have cP := fun X hX => plain_ct tv (by omega) X hX
  rw [hp] at cP
  replace cP := Lib.hid cP
  clear hL hF hf hm hM hfM hfr ho ht3 hR hfR hfr2 hc hp
  go_enter Tryd.func156, Tryd.ntmps156
  go_wp2_with (first
    | (go_at_call 63; (with_reducible refine (cS1.out _ ((Below.refl _ _).alloc (Nat.le_refl _) _)).mono ?_); rintro e W1 ⟨⟨v1, rfl, hts1⟩, hb1⟩; have HB1 := Lib.hid (((Below.refl w.heap.size w).alloc (Nat.le_refl _) _).trans (hb1.mono (by simp))); have hR1 := (Blk.new (w := w) (t := 65) (cs := #[.string .empty, .string .empty, .bool false]) rfl).below hb1 (by simp); have fR1 := hR1.frozen; have cR1 := hR1.cell; have HR1 := Lib.hid hR1; obtain ⟨A1, cap1, rfl, hc1, hr1⟩ := hts1; obtain ⟨b1l, o1, rfl, hbl1, e0, e1, e2, e3⟩ := tok_zero (Rd.keep hr1 HB1.out HB1.out.size) (by simp); have HT2 := Lib.hid (show TS w (.slice (addrAt 4 (some ⟨b1l, o1, none⟩) cap1 1) r.length (cap1 - 1)) r from ts_from hr1 hc1 (i := 1) (by simp)); have hsl1 := slice_one (some ⟨b1l, o1, none⟩) r.length cap1; have D1 := Lib.hid (DI.new HB1.out HR1.out (.string (bs tv)) (.string ⟨#[]⟩) (.bool false)); have d1c := D1.out.cells.1; have d1f := D1.out.cells.2.1; have d1r := D1.out.cells.2.2.1; have d1q := D1.out.cells.2.2.2; clear hr1; clear hb1 hR1)
    | (go_at_call 120; (with_reducible refine (cH.out _).mono ?_); rintro e Wh ⟨rfl, rfl⟩)
    | (go_at_call 63; (with_reducible refine (cS2.out _ _ HT2.out D1.out.bel).mono ?_); rintro e W3 ⟨⟨v3, rfl, hts3⟩, hb3⟩; have D3 := Lib.hid (D1.out.on hb3); have d3c := D3.out.cells.1; have d3f := D3.out.cells.2.1; have d3r := D3.out.cells.2.2.1; have d3q := D3.out.cells.2.2.2; obtain ⟨A3, cap3, rfl, hc3, hr3⟩ := hts3; obtain ⟨b3l, o3, rfl, hbl3, f0, f1, f2, f3⟩ := tok_zero (Rd.keep hr3 D3.out.bel D3.out.bel.size) (by simp); have HT3 := Lib.hid (show TS w (.slice (addrAt 4 (some ⟨b3l, o3, none⟩) cap3 1) r2.length (cap3 - 1)) r2 from ts_from hr3 hc3 (i := 1) (by simp)); have hsl3 := slice_one (some ⟨b3l, o3, none⟩) r2.length cap3; clear hb3 hr3 d1c d1f d1r d1q)
    | (go_at_call 189; (with_reducible refine (cC.out _).mono ?_); rintro e W4 ⟨rfl, hb4⟩; have D4 := Lib.hid (D3.out.on hb4); have d4c := D4.out.cells.1; have d4f := D4.out.cells.2.1; have d4r := D4.out.cells.2.2.1; have d4q := D4.out.cells.2.2.2; clear hb4 f0 f1 f2 f3 d3c d3f d3r d3q)
    | (go_at_call 190; (with_reducible refine (cP.out _ (HM.out.on D4.out.bel HM.out.lt)).mono ?_); rintro e W5 ⟨rfl, hb5⟩; have D5 := Lib.hid (D4.out.on hb5); have d5c := D5.out.cells.1; have d5f := D5.out.cells.2.1; have d5r := D5.out.cells.2.2.1; have d5q := D5.out.cells.2.2.2; clear hb5 d4c d4f d4r d4q))
  have e := (D5.out.fin (.string ⟨#[]⟩) (.string ⟨#[]⟩) (.bool false)).1
  refine bodyPost_ret (v := .tuple #[.agg #[.string ⟨#[]⟩, .string ⟨#[]⟩, .bool false], .bool false]) (by simp [results, Tryd.results156, go_sem, e]) rfl ⟨rfl, ?_⟩
  exact (D5.out.fin (.string ⟨#[]⟩) (.string ⟨#[]⟩) (.bool false)).2

set_option maxRecDepth 100000 in
set_option maxHeartbeats 4000000 in
theorem decl_C_false (v : Value) (L : List Tk) (w : World) (tr tv : Bs) (tn : Int) (r : List Tk) (hM : solidP L = ⟨1, tr, tv, tn⟩ :: r) (ho : ownP tv = false) (hR : solidP r = []) (hf : Fit L) (hL : TS w v L) (hF : FoldAt w) (hm : MaxL w) :
    Calls Tryd.prog 156 #[v] w fun e w' => e = .returned (.tuple #[.agg noDc.cells, .bool false]) ∧ Below w.heap.size w w' := by
  have cS1 := Lib.hid (fun X hX => solid_ct v L w X hf.1 hL hX)
  rw [hM] at cS1
  have hfM := hf.sub (solid_sub L)
  rw [hM] at hfM
  have hfr : Fit r := hfM.sub (List.sublist_cons_self _ _)
  have ht3 := (hfM.2.2 _ (List.mem_cons_self ..)).2.2
  simp only at ht3
  have cS2 := Lib.hid (fun (X : World) (v2 : Value) (h2 : TS w v2 r) (hX : Below w.heap.size w X) => solid_ct v2 r w X hfr.1 h2 hX)
  have cH := fun X => hasP_ct tv X
  rw [ho] at cH
  replace cH := Lib.hid cH
  have HM := Lib.hid hm
  have HF := Lib.hid hF
  have cL := Lib.hid (fun X => show Calls Tryd.prog 188 #[.string (bs tv)] X fun e w' => e = .returned (.string (bs (tv.map lowB))) ∧ Below X.heap.size X w' from lower_ct (bs tv) (by rw [bs_size]; omega) X)
  have hz : ((r.length : Int) + 1 == 0) = false := by simp; omega
  have hz2 : (0 : Int) < (r.length : Int) + 1 := by omega
  rw [hR] at cS2
  clear hL hF hf hm hM hfM hfr ho ht3 hR
  go_enter Tryd.func156, Tryd.ntmps156
  go_wp2_with (first
    | (go_at_call 63; (with_reducible refine (cS1.out _ ((Below.refl _ _).alloc (Nat.le_refl _) _)).mono ?_); rintro e W1 ⟨⟨v1, rfl, hts1⟩, hb1⟩; have HB1 := Lib.hid (((Below.refl w.heap.size w).alloc (Nat.le_refl _) _).trans (hb1.mono (by simp))); have hR1 := (Blk.new (w := w) (t := 65) (cs := #[.string .empty, .string .empty, .bool false]) rfl).below hb1 (by simp); have fR1 := hR1.frozen; have cR1 := hR1.cell; have HR1 := Lib.hid hR1; obtain ⟨A1, cap1, rfl, hc1, hr1⟩ := hts1; obtain ⟨b1l, o1, rfl, hbl1, e0, e1, e2, e3⟩ := tok_zero (Rd.keep hr1 HB1.out HB1.out.size) (by simp); have HT2 := Lib.hid (show TS w (.slice (addrAt 4 (some ⟨b1l, o1, none⟩) cap1 1) r.length (cap1 - 1)) r from ts_from hr1 hc1 (i := 1) (by simp)); have hsl1 := slice_one (some ⟨b1l, o1, none⟩) r.length cap1; have D1 := Lib.hid (DI.new HB1.out HR1.out (.string (bs tv)) (.string ⟨#[]⟩) (.bool false)); have d1c := D1.out.cells.1; have d1f := D1.out.cells.2.1; have d1r := D1.out.cells.2.2.1; have d1q := D1.out.cells.2.2.2; clear hr1; clear hb1 hR1)
    | (go_at_call 120; (with_reducible refine (cH.out _).mono ?_); rintro e Wh ⟨rfl, rfl⟩)
    | (go_at_call 188; (with_reducible refine (cL.out _).mono ?_); rintro e W2 ⟨rfl, hb2⟩; have D2 := Lib.hid (D1.out.on hb2); have d2c := D2.out.cells.1; have d2f := D2.out.cells.2.1; have d2r := D2.out.cells.2.2.1; have d2q := D2.out.cells.2.2.2; clear hb2 d1c d1f d1r d1q)
    | (go_at_call 63; (with_reducible refine (cS2.out _ _ HT2.out (D2.out.put0 _).bel).mono ?_); rintro e W3 ⟨⟨v3, rfl, hts3⟩, hb3⟩; have D3 := Lib.hid ((D2.out.put0 _).on hb3); have d3c := D3.out.cells.1; have d3f := D3.out.cells.2.1; have d3r := D3.out.cells.2.2.1; have d3q := D3.out.cells.2.2.2; obtain ⟨A3, cap3, rfl, hc3, hr3⟩ := hts3;  clear hb3 hr3 d2c d2f d2r d2q))
  have e := (D3.out.fin (.string ⟨#[]⟩) (.string ⟨#[]⟩) (.bool false)).1
  refine bodyPost_ret (v := .tuple #[.agg #[.string ⟨#[]⟩, .string ⟨#[]⟩, .bool false], .bool false]) (by simp [results, Tryd.results156, go_sem, e]) rfl ⟨rfl, ?_⟩
  exact (D3.out.fin (.string ⟨#[]⟩) (.string ⟨#[]⟩) (.bool false)).2

set_option maxRecDepth 100000 in
set_option maxHeartbeats 4000000 in
theorem decl_D_false (v : Value) (L : List Tk) (w : World) (tr tv : Bs) (tn : Int) (r : List Tk) (hM : solidP L = ⟨1, tr, tv, tn⟩ :: r) (ho : ownP tv = false) (c : Tk) (r2 : List Tk) (hR : solidP r = c :: r2) (hc : colonP c = false) (hf : Fit L) (hL : TS w v L) (hF : FoldAt w) (hm : MaxL w) :
    Calls Tryd.prog 156 #[v] w fun e w' => e = .returned (.tuple #[.agg noDc.cells, .bool false]) ∧ Below w.heap.size w w' := by
  have cS1 := Lib.hid (fun X hX => solid_ct v L w X hf.1 hL hX)
  rw [hM] at cS1
  have hfM := hf.sub (solid_sub L)
  rw [hM] at hfM
  have hfr : Fit r := hfM.sub (List.sublist_cons_self _ _)
  have ht3 := (hfM.2.2 _ (List.mem_cons_self ..)).2.2
  simp only at ht3
  have cS2 := Lib.hid (fun (X : World) (v2 : Value) (h2 : TS w v2 r) (hX : Below w.heap.size w X) => solid_ct v2 r w X hfr.1 h2 hX)
  have cH := fun X => hasP_ct tv X
  rw [ho] at cH
  replace cH := Lib.hid cH
  have HM := Lib.hid hm
  have HF := Lib.hid hF
  have cL := Lib.hid (fun X => show Calls Tryd.prog 188 #[.string (bs tv)] X fun e w' => e = .returned (.string (bs (tv.map lowB))) ∧ Below X.heap.size X w' from lower_ct (bs tv) (by rw [bs_size]; omega) X)
  have hz : ((r.length : Int) + 1 == 0) = false := by simp; omega
  have hz2 : (0 : Int) < (r.length : Int) + 1 := by omega
  rw [hR] at cS2
  have hfR := hfr.sub (solid_sub r)
  rw [hR] at hfR
  have hfr2 : Fit r2 := hfR.sub (List.sublist_cons_self _ _)
  have hy : ((r2.length : Int) + 1 == 0) = false := by simp; omega
  have hy2 : (0 : Int) < (r2.length : Int) + 1 := by omega
  obtain ⟨ck, cr, cv, cn⟩ := c
  have cC := Lib.hid (fun X => asks_at colon_ct hc X)
  clear hL hF hf hm hM hfM hfr ho ht3 hR hfR hfr2 hc
  go_enter Tryd.func156, Tryd.ntmps156
  go_wp2_with (first
    | (go_at_call 63; (with_reducible refine (cS1.out _ ((Below.refl _ _).alloc (Nat.le_refl _) _)).mono ?_); rintro e W1 ⟨⟨v1, rfl, hts1⟩, hb1⟩; have HB1 := Lib.hid (((Below.refl w.heap.size w).alloc (Nat.le_refl _) _).trans (hb1.mono (by simp))); have hR1 := (Blk.new (w := w) (t := 65) (cs := #[.string .empty, .string .empty, .bool false]) rfl).below hb1 (by simp); have fR1 := hR1.frozen; have cR1 := hR1.cell; have HR1 := Lib.hid hR1; obtain ⟨A1, cap1, rfl, hc1, hr1⟩ := hts1; obtain ⟨b1l, o1, rfl, hbl1, e0, e1, e2, e3⟩ := tok_zero (Rd.keep hr1 HB1.out HB1.out.size) (by simp); have HT2 := Lib.hid (show TS w (.slice (addrAt 4 (some ⟨b1l, o1, none⟩) cap1 1) r.length (cap1 - 1)) r from ts_from hr1 hc1 (i := 1) (by simp)); have hsl1 := slice_one (some ⟨b1l, o1, none⟩) r.length cap1; have D1 := Lib.hid (DI.new HB1.out HR1.out (.string (bs tv)) (.string ⟨#[]⟩) (.bool false)); have d1c := D1.out.cells.1; have d1f := D1.out.cells.2.1; have d1r := D1.out.cells.2.2.1; have d1q := D1.out.cells.2.2.2; clear hr1; clear hb1 hR1)
    | (go_at_call 120; (with_reducible refine (cH.out _).mono ?_); rintro e Wh ⟨rfl, rfl⟩)
    | (go_at_call 188; (with_reducible refine (cL.out _).mono ?_); rintro e W2 ⟨rfl, hb2⟩; have D2 := Lib.hid (D1.out.on hb2); have d2c := D2.out.cells.1; have d2f := D2.out.cells.2.1; have d2r := D2.out.cells.2.2.1; have d2q := D2.out.cells.2.2.2; clear hb2 d1c d1f d1r d1q)
    | (go_at_call 63; (with_reducible refine (cS2.out _ _ HT2.out (D2.out.put0 _).bel).mono ?_); rintro e W3 ⟨⟨v3, rfl, hts3⟩, hb3⟩; have D3 := Lib.hid ((D2.out.put0 _).on hb3); have d3c := D3.out.cells.1; have d3f := D3.out.cells.2.1; have d3r := D3.out.cells.2.2.1; have d3q := D3.out.cells.2.2.2; obtain ⟨A3, cap3, rfl, hc3, hr3⟩ := hts3; obtain ⟨b3l, o3, rfl, hbl3, f0, f1, f2, f3⟩ := tok_zero (Rd.keep hr3 D3.out.bel D3.out.bel.size) (by simp); have HT3 := Lib.hid (show TS w (.slice (addrAt 4 (some ⟨b3l, o3, none⟩) cap3 1) r2.length (cap3 - 1)) r2 from ts_from hr3 hc3 (i := 1) (by simp)); have hsl3 := slice_one (some ⟨b3l, o3, none⟩) r2.length cap3; clear hb3 hr3 d2c d2f d2r d2q)
    | (go_at_call 189; (with_reducible refine (cC.out _).mono ?_); rintro e W4 ⟨rfl, hb4⟩; have D4 := Lib.hid (D3.out.on hb4); have d4c := D4.out.cells.1; have d4f := D4.out.cells.2.1; have d4r := D4.out.cells.2.2.1; have d4q := D4.out.cells.2.2.2; clear hb4 f0 f1 f2 f3 d3c d3f d3r d3q))
  have e := (D4.out.fin (.string ⟨#[]⟩) (.string ⟨#[]⟩) (.bool false)).1
  refine bodyPost_ret (v := .tuple #[.agg #[.string ⟨#[]⟩, .string ⟨#[]⟩, .bool false], .bool false]) (by simp [results, Tryd.results156, go_sem, e]) rfl ⟨rfl, ?_⟩
  exact (D4.out.fin (.string ⟨#[]⟩) (.string ⟨#[]⟩) (.bool false)).2

set_option maxRecDepth 100000 in
set_option maxHeartbeats 4000000 in
theorem decl_E_false (v : Value) (L : List Tk) (w : World) (tr tv : Bs) (tn : Int) (r : List Tk) (hM : solidP L = ⟨1, tr, tv, tn⟩ :: r) (ho : ownP tv = false) (c : Tk) (r2 : List Tk) (hR : solidP r = c :: r2) (hc : colonP c = true) (hp : plainP (tv.map lowB) = false) (hf : Fit L) (hL : TS w v L) (hF : FoldAt w) (hm : MaxL w) :
    Calls Tryd.prog 156 #[v] w fun e w' => e = .returned (.tuple #[.agg noDc.cells, .bool false]) ∧ Below w.heap.size w w' := by
  have cS1 := Lib.hid (fun X hX => solid_ct v L w X hf.1 hL hX)
  rw [hM] at cS1
  have hfM := hf.sub (solid_sub L)
  rw [hM] at hfM
  have hfr : Fit r := hfM.sub (List.sublist_cons_self _ _)
  have ht3 := (hfM.2.2 _ (List.mem_cons_self ..)).2.2
  simp only at ht3
  have cS2 := Lib.hid (fun (X : World) (v2 : Value) (h2 : TS w v2 r) (hX : Below w.heap.size w X) => solid_ct v2 r w X hfr.1 h2 hX)
  have cH := fun X => hasP_ct tv X
  rw [ho] at cH
  replace cH := Lib.hid cH
  have HM := Lib.hid hm
  have HF := Lib.hid hF
  have cL := Lib.hid (fun X => show Calls Tryd.prog 188 #[.string (bs tv)] X fun e w' => e = .returned (.string (bs (tv.map lowB))) ∧ Below X.heap.size X w' from lower_ct (bs tv) (by rw [bs_size]; omega) X)
  have hz : ((r.length : Int) + 1 == 0) = false := by simp; omega
  have hz2 : (0 : Int) < (r.length : Int) + 1 := by omega
  rw [hR] at cS2
  have hfR := hfr.sub (solid_sub r)
  rw [hR] at hfR
  have hfr2 : Fit r2 := hfR.sub (List.sublist_cons_self _ _)
  have hy : ((r2.length : Int) + 1 == 0) = false := by simp; omega
  have hy2 : (0 : Int) < (r2.length : Int) + 1 := by omega
  obtain ⟨ck, cr, cv, cn⟩ := c
  have cC := Lib.hid (fun X => asks_at colon_ct hc X)
  have cP := fun X hX => plain_ct (tv.map lowB) (by rw [List.length_map]; omega) X hX
  rw [hp] at cP
  replace cP := Lib.hid cP
  clear hL hF hf hm hM hfM hfr ho ht3 hR hfR hfr2 hc hp
  go_enter Tryd.func156, Tryd.ntmps156
  go_wp2_with (first
    | (go_at_call 63; (with_reducible refine (cS1.out _ ((Below.refl _ _).alloc (Nat.le_refl _) _)).mono ?_); rintro e W1 ⟨⟨v1, rfl, hts1⟩, hb1⟩; have HB1 := Lib.hid (((Below.refl w.heap.size w).alloc (Nat.le_refl _) _).trans (hb1.mono (by simp))); have hR1 := (Blk.new (w := w) (t := 65) (cs := #[.string .empty, .string .empty, .bool false]) rfl).below hb1 (by simp); have fR1 := hR1.frozen; have cR1 := hR1.cell; have HR1 := Lib.hid hR1; obtain ⟨A1, cap1, rfl, hc1, hr1⟩ := hts1; obtain ⟨b1l, o1, rfl, hbl1, e0, e1, e2, e3⟩ := tok_zero (Rd.keep hr1 HB1.out HB1.out.size) (by simp); have HT2 := Lib.hid (show TS w (.slice (addrAt 4 (some ⟨b1l, o1, none⟩) cap1 1) r.length (cap1 - 1)) r from ts_from hr1 hc1 (i := 1) (by simp)); have hsl1 := slice_one (some ⟨b1l, o1, none⟩) r.length cap1; have D1 := Lib.hid (DI.new HB1.out HR1.out (.string (bs tv)) (.string ⟨#[]⟩) (.bool false)); have d1c := D1.out.cells.1; have d1f := D1.out.cells.2.1; have d1r := D1.out.cells.2.2.1; have d1q := D1.out.cells.2.2.2; clear hr1; clear hb1 hR1)
    | (go_at_call 120; (with_reducible refine (cH.out _).mono ?_); rintro e Wh ⟨rfl, rfl⟩)
    | (go_at_call 188; (with_reducible refine (cL.out _).mono ?_); rintro e W2 ⟨rfl, hb2⟩; have D2 := Lib.hid (D1.out.on hb2); have d2c := D2.out.cells.1; have d2f := D2.out.cells.2.1; have d2r := D2.out.cells.2.2.1; have d2q := D2.out.cells.2.2.2; clear hb2 d1c d1f d1r d1q)
    | (go_at_call 63; (with_reducible refine (cS2.out _ _ HT2.out (D2.out.put0 _).bel).mono ?_); rintro e W3 ⟨⟨v3, rfl, hts3⟩, hb3⟩; have D3 := Lib.hid ((D2.out.put0 _).on hb3); have d3c := D3.out.cells.1; have d3f := D3.out.cells.2.1; have d3r := D3.out.cells.2.2.1; have d3q := D3.out.cells.2.2.2; obtain ⟨A3, cap3, rfl, hc3, hr3⟩ := hts3; obtain ⟨b3l, o3, rfl, hbl3, f0, f1, f2, f3⟩ := tok_zero (Rd.keep hr3 D3.out.bel D3.out.bel.size) (by simp); have HT3 := Lib.hid (show TS w (.slice (addrAt 4 (some ⟨b3l, o3, none⟩) cap3 1) r2.length (cap3 - 1)) r2 from ts_from hr3 hc3 (i := 1) (by simp)); have hsl3 := slice_one (some ⟨b3l, o3, none⟩) r2.length cap3; clear hb3 hr3 d2c d2f d2r d2q)
    | (go_at_call 189; (with_reducible refine (cC.out _).mono ?_); rintro e W4 ⟨rfl, hb4⟩; have D4 := Lib.hid (D3.out.on hb4); have d4c := D4.out.cells.1; have d4f := D4.out.cells.2.1; have d4r := D4.out.cells.2.2.1; have d4q := D4.out.cells.2.2.2; clear hb4 f0 f1 f2 f3 d3c d3f d3r d3q)
    | (go_at_call 190; (with_reducible refine (cP.out _ (HM.out.on D4.out.bel HM.out.lt)).mono ?_); rintro e W5 ⟨rfl, hb5⟩; have D5 := Lib.hid (D4.out.on hb5); have d5c := D5.out.cells.1; have d5f := D5.out.cells.2.1; have d5r := D5.out.cells.2.2.1; have d5q := D5.out.cells.2.2.2; clear hb5 d4c d4f d4r d4q))
  have e := (D5.out.fin (.string ⟨#[]⟩) (.string ⟨#[]⟩) (.bool false)).1
  refine bodyPost_ret (v := .tuple #[.agg #[.string ⟨#[]⟩, .string ⟨#[]⟩, .bool false], .bool false]) (by simp [results, Tryd.results156, go_sem, e]) rfl ⟨rfl, ?_⟩
  exact (D5.out.fin (.string ⟨#[]⟩) (.string ⟨#[]⟩) (.bool false)).2

end Go.Proofs.YtaihncbejhnceaaDoor.rul
