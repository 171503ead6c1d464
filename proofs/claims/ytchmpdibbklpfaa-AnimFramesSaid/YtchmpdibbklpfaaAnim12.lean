/- moved, as a slice that reads; how changes and values come in. -/
import Derived.Test.YtchmpdibbklpfaaAnim11
import Derived.Test.YtchmpdibbklpfaaBase3
namespace Go.Proofs.Ytchmpdibbklpfaa.anim
open Go.RowKit Go.Proofs.Ytchmpdibbklpfaa.base Go.ChangeShapes Go.WideShapes Go.ChangeAt Go.Deep
set_option linter.unusedVariables false

theorem flat_at : ∀ (L : List AnimD) (i : Nat) (d : AnimD) (j : Nat), L[i]? = some d → j < 12 → (flat L)[i * 12 + j]? = d.cells[j]?
  | [], i, d, j, h, _ => by simp at h
  | e :: L, 0, d, j, h, hj => by
    simp at h
    subst h
    simp only [flat, List.flatMap_cons, Nat.zero_mul, Nat.zero_add]
    rw [List.getElem?_append_left (by simpa [AnimD.cells] using hj)]
    simp
  | e :: L, i + 1, d, j, h, hj => by
    have ih := flat_at L i d j (by simpa using h) hj
    simp only [flat, List.flatMap_cons]
    rw [List.getElem?_append_right (by simp; omega)]
    have e : (i + 1) * 12 + j - e.cells.toList.length = i * 12 + j := by simp; omega
    rw [e]
    exact ih

theorem row_LRd {w : World} {base n : Nat} {v : Value} {L : List AnimD} (h : w.ownsRow base 50 12 v n (flat L)) (hl : L.length = n) (hr : ∀ d ∈ L, AnRd w w.heap.size d) :
    ∃ A cap, v = .slice A n cap ∧ LRd w w.heap.size A n L := by
  rcases h.2 with ⟨rfl, hn⟩ | ⟨g, cap, cur, rfl, _, hh, _, _⟩
  · subst hn
    exact ⟨none, 0, rfl, hl, fun h0 => by omega⟩
  · refine ⟨_, cap, rfl, hl, fun h0 => ⟨g, 0, rfl, (h.lt g rfl).2, fun i d hd => ⟨fun j hj => ?_, hr d (List.mem_of_getElem? hd)⟩⟩⟩
    have hi : i < n := by have := (List.getElem?_eq_some_iff.1 hd).1; omega
    have h1 := h.cellAt (i * 12 + j) (by omega)
    rw [flat_at L i d j hd hj] at h1
    simpa using h1

theorem moved_ct (A : Option Addr) (n cap : Nat) (L : List AnimD) (m : Int) (w : World) (hn : n ≤ 10) (hL : LRd w w.heap.size A n L) (hf : ∀ d ∈ L, 0 ≤ d.from_ ∧ d.from_ ≤ 100000000) (m0 : 0 ≤ m) (m1 : m < 100000) :
    Calls Try.prog 19 #[.slice A n cap, .int .i64 m] w fun e w' => (∃ A' cap', e = .returned (.slice A' n cap') ∧ LRd w' w'.heap.size A' n (L.map (·.shift m))) ∧ Below w.heap.size w w' := by
  refine (moved_row A n cap L m w hn hL hf m0 m1).mono ?_
  rintro e w' ⟨⟨v, rfl, hown⟩, hb⟩
  obtain ⟨A', cap', rfl, h⟩ := row_LRd hown (by simp [hL.1]) (fun d hd => by
    obtain ⟨d0, hd0, rfl⟩ := List.mem_map.1 hd
    obtain ⟨i, hi, hie⟩ := List.mem_iff_getElem.1 hd0
    obtain ⟨b, off, _, _, hc⟩ := hL.2 (by have := hL.1; omega)
    have := (hc i d0 (by rw [← hie]; exact List.getElem?_eq_getElem hi)).2
    exact this.keep hb hb.size)
  exact ⟨⟨A', cap', rfl, h⟩, hb⟩

theorem tells_shift (d : AnimD) (m now : Int) : tellsP (d.shift m) (now + m) = tellsP d now := by
  have e1 : endI (d.shift m) = endI d + m := by simp [endI, AnimD.shift]; omega
  have e2 : placeI (d.shift m) (now + m) = placeI d now := by
    have e : now + m - (d.from_ + m) = now - d.from_ := by omega
    simp only [placeI, AnimD.shift, e]
  have e3 : ∀ r, framesP (d.shift m) r = framesP d r := fun r => rfl
  have c1 : (now + m < (d.shift m).from_) = (now < d.from_) := by simp [AnimD.shift]
  have c2 : (endI d + m ≤ now + m) = (endI d ≤ now) := by simp
  simp only [tellsP, e1, e2, e3, c1, c2]
  rfl

theorem at_shift {L : List AnimD} {m now : Int} (base : Int × Int) (h1 : rightE L now = 0) (h2 : rightE (L.map (·.shift m)) (now + m) = 0) : atV (L.map (·.shift m)) base (now + m) = atV L base now := by
  rw [atV, atV, if_pos h1, if_pos h2]
  clear h1 h2
  induction L generalizing base with
  | nil => rfl
  | cons d L ih =>
    simp only [List.map_cons, List.foldl_cons]
    rw [show stepP (now + m) base (d.shift m) = stepP now base d by simp only [stepP, tells_shift]]
    exact ih _

theorem shift_by (x : Int) : ∃ m, wrap64 ((IntKind.u64.wrap x).tmod 100000) = m ∧ 0 ≤ m ∧ m < 100000 := by
  have h0 : 0 ≤ IntKind.u64.wrap x := by simp [IntKind.wrap, IntKind.bits, IntKind.signed]; omega
  generalize IntKind.u64.wrap x = u at *
  rw [Int.tmod_eq_emod_of_nonneg h0, IntWalk.wrap64_in (u % 100000) (by omega)]
  exact ⟨_, rfl, by omega, by omega⟩

section
variable {H : Type} {enc : TypeId × Value → H} {w : World} {base : Nat} {held : Bool}
theorem cells_val {fuel : Nat} {spare : Nat → Bool} {cs : List Value} {x : DataW H × List MemPlace} (h : DataW.trod enc Try.prog w base spare held fuel 39 cs = some x) : ∃ k n : Int, cs = [.int .i64 k, .int .i64 n] := by
  have k1 : Try.prog.cellsOf 3 = 1 := by kernel_rfl
  have k2 : Try.prog.cellsOf 39 = 2 := by kernel_rfl
  obtain ⟨hl, m, hf⟩ := trod_fields Try.underlying39 h
  rw [k2] at hl
  match cs, hl with
  | [a0, a1], _ =>
    obtain ⟨y0, h0⟩ := at_field hf 0 3 0 1 rfl k1
    obtain ⟨y1, h1⟩ := at_field hf 1 3 1 1 rfl k1
    obtain ⟨k, e0, _, _⟩ := DataW.trod_int Try.underlying3 h0
    obtain ⟨n, e1, _, _⟩ := DataW.trod_int Try.underlying3 h1
    simp at e0 e1
    exact ⟨k, n, by simp [e0, e1]⟩

theorem cells_frame {fuel : Nat} {spare : Nat → Bool} {cs : List Value} {x : DataW H × List MemPlace} (h : DataW.trod enc Try.prog w base spare held fuel 53 cs = some x) : ∃ f : FrameD, cs = [.int .i64 f.pl, .int .i64 f.k, .int .i64 f.n] := by
  have k1 : Try.prog.cellsOf 3 = 1 := by kernel_rfl
  have k2 : Try.prog.cellsOf 39 = 2 := by kernel_rfl
  have k3 : Try.prog.cellsOf 53 = 3 := by kernel_rfl
  obtain ⟨hl, m, hf⟩ := trod_fields Try.underlying53 h
  rw [k3] at hl
  match cs, hl with
  | [a0, a1, a2], _ =>
    obtain ⟨y0, h0⟩ := at_field hf 0 3 0 1 rfl k1
    obtain ⟨y1, h1⟩ := at_field hf 1 39 1 2 rfl k2
    obtain ⟨p, e0, _, _⟩ := DataW.trod_int Try.underlying3 h0
    obtain ⟨k, n, e1⟩ := cells_val h1
    simp at e0 e1
    exact ⟨⟨p, k, n⟩, by simp [e0, e1]⟩

/-- a slice of frames that came in -/
theorem open_frames {fuel : Nat} {cs : List Value} {x : DataW H × List MemPlace} (h : DataW.trod enc Try.prog w 0 (fun _ => true) held fuel 48 cs = some x) :
    ∃ A fl fc F, cs = [.slice A fl fc] ∧ fl ≤ fc ∧ fc ≤ maxLen ∧ FrRd w w.heap.size A fl F := by
  obtain ⟨A, n, c, rfl, h1, h2, h3⟩ := open_rows Try.underlying48 (k := 3) (by kernel_rfl) (by decide) h
  rcases Nat.eq_zero_or_pos n with rfl | h0
  · exact ⟨A, 0, c, [], rfl, h1, h2, rfl, fun h0 => by omega⟩
  obtain ⟨b, off, rfl, hb, hi⟩ := h3 h0
  obtain ⟨F, hl, hF⟩ := exists_list (p := fun i (f : FrameD) => w.cell? ⟨b, off + i * 3, none⟩ = some (.int .i64 f.pl) ∧ w.cell? ⟨b, off + i * 3 + 1, none⟩ = some (.int .i64 f.k) ∧ w.cell? ⟨b, off + i * 3 + 2, none⟩ = some (.int .i64 f.n)) n (fun i hin => by
    obtain ⟨cs', m, y, _, hat, ht⟩ := hi i hin
    obtain ⟨f, rfl⟩ := cells_frame ht
    exact ⟨f, hat 0 (by decide), hat 1 (by decide), hat 2 (by decide)⟩)
  exact ⟨_, n, c, F, rfl, h1, h2, hl, fun _ => ⟨b, off, rfl, hb, hF⟩⟩

/-- a change that came in: its cells, its frames -/
theorem cells_anim {fuel : Nat} {cs : List Value} {x : DataW H × List MemPlace} (h : DataW.trod enc Try.prog w 0 (fun _ => true) held fuel 50 cs = some x) : ∃ d : AnimD, cs = d.cells.toList ∧ AnRd w w.heap.size d := by
  have k1 : Try.prog.cellsOf 3 = 1 := by kernel_rfl
  have kb : Try.prog.cellsOf 4 = 1 := by kernel_rfl
  have k6 : Try.prog.cellsOf 29 = 6 := by kernel_rfl
  have ks : Try.prog.cellsOf 48 = 1 := by kernel_rfl
  have k12 : Try.prog.cellsOf 50 = 12 := by kernel_rfl
  obtain ⟨hl, m, hf⟩ := trod_fields Try.underlying50 h
  rw [k12] at hl
  match cs, hl with
  | [a0, a1, a2, a3, a4, a5, a6, a7, a8, a9, a10, a11], _ =>
    obtain ⟨y0, h0⟩ := at_field hf 0 3 0 1 rfl k1
    obtain ⟨y1, h1⟩ := at_field hf 1 3 1 1 rfl k1
    obtain ⟨y2, h2⟩ := at_field hf 2 3 2 1 rfl k1
    obtain ⟨y3, h3⟩ := at_field hf 3 4 3 1 rfl kb
    obtain ⟨y4, h4⟩ := at_field hf 4 4 4 1 rfl kb
    obtain ⟨y5, h5⟩ := at_field hf 5 29 5 6 rfl k6
    obtain ⟨y6, h6⟩ := at_field hf 6 48 11 1 rfl ks
    obtain ⟨fr, e0, _, _⟩ := DataW.trod_int Try.underlying3 h0
    obtain ⟨ln, e1, _, _⟩ := DataW.trod_int Try.underlying3 h1
    obtain ⟨tm, e2, _, _⟩ := DataW.trod_int Try.underlying3 h2
    obtain ⟨tu, e3, _⟩ := DataW.trod_bool Try.underlying4 h3
    obtain ⟨st, e4, _⟩ := DataW.trod_bool Try.underlying4 h4
    obtain ⟨k, c0, c1, c2, c3, n, e5⟩ := cells_ease h5
    obtain ⟨A, fl, fc, F, e6, f1, f2, f3⟩ := open_frames h6
    simp at e0 e1 e2 e3 e4 e5 e6
    obtain ⟨rfl, rfl, rfl, rfl, rfl, rfl⟩ := e5
    subst e0 e1 e2 e3 e4 e6
    exact ⟨⟨fr, ln, tm, tu, st, k, c0, c1, c2, c3, n, A, fl, fc, F⟩, rfl, f1, f2, f3⟩

/-- a slice of changes that came in -/
theorem open_anims {fuel : Nat} {cs : List Value} {x : DataW H × List MemPlace} (h : DataW.trod enc Try.prog w 0 (fun _ => true) held fuel 43 cs = some x) :
    ∃ A n cap L, cs = [.slice A n cap] ∧ n ≤ maxLen ∧ LRd w w.heap.size A n L := by
  obtain ⟨A, n, c, rfl, h1, h2, h3⟩ := open_rows Try.underlying43 (k := 12) (by kernel_rfl) (by decide) h
  rcases Nat.eq_zero_or_pos n with rfl | h0
  · exact ⟨A, 0, c, [], rfl, by omega, rfl, fun h0 => by omega⟩
  obtain ⟨b, off, rfl, hb, hi⟩ := h3 h0
  obtain ⟨L, hl, hL⟩ := exists_list (p := fun i (d : AnimD) => (∀ j, j < 12 → w.cell? ⟨b, off + i * 12 + j, none⟩ = d.cells[j]?) ∧ AnRd w w.heap.size d) n (fun i hin => by
    obtain ⟨cs', m, y, _, hat, ht⟩ := hi i hin
    obtain ⟨d, rfl, hd⟩ := cells_anim ht
    exact ⟨d, fun j hj => by rw [hat j hj]; simp, hd⟩)
  exact ⟨_, n, c, L, rfl, by omega, hl, fun _ => ⟨b, off, rfl, hb, hL⟩⟩

/-- .. as arguments -/
theorem arg_anims {r : Reach} {b0 : Nat} {v : Value} {d : DataW H} {p : List MemPlace} (hv : Value.okWide Try.prog w r b0 43 v) (h : DataW.Trod enc Try.prog w 0 (fun _ => true) held 43 v d p) :
    ∃ A n cap L, v = .slice A n cap ∧ n ≤ maxLen ∧ LRd w w.heap.size A n L := by
  obtain ⟨a, len, cap, rfl⟩ := okWide_slice Try.underlying43 hv
  obtain ⟨fuel, hf⟩ := h
  obtain ⟨A, n, c, L, e, h1, h2⟩ := open_anims hf
  simp [Value.cells] at e
  obtain ⟨rfl, rfl, rfl⟩ := e
  exact ⟨_, _, _, L, rfl, h1, h2⟩
theorem arg_anim {r : Reach} {b0 : Nat} {v : Value} {d : DataW H} {p : List MemPlace} (hv : Value.okWide Try.prog w r b0 50 v) (h : DataW.Trod enc Try.prog w 0 (fun _ => true) held 50 v d p) :
    ∃ d : AnimD, v = .agg d.cells ∧ AnRd w w.heap.size d := by
  obtain ⟨cs, rfl, fuel, ht⟩ := agg_trod Try.underlying50 hv h
  obtain ⟨d, e, hd⟩ := cells_anim ht
  exact ⟨d, by rw [Array.toList_inj.1 e], hd⟩
theorem arg_val {r : Reach} {b0 : Nat} {v : Value} {d : DataW H} {p : List MemPlace} (hv : Value.okWide Try.prog w r b0 39 v) (h : DataW.Trod enc Try.prog w 0 (fun _ => true) held 39 v d p) :
    ∃ k n : Int, v = .agg #[.int .i64 k, .int .i64 n] := by
  obtain ⟨cs, rfl, fuel, ht⟩ := agg_trod Try.underlying39 hv h
  obtain ⟨k, n, e⟩ := cells_val ht
  exact ⟨k, n, by congr 1; exact Array.toList_inj.1 e⟩
end

end Go.Proofs.Ytchmpdibbklpfaa.anim
