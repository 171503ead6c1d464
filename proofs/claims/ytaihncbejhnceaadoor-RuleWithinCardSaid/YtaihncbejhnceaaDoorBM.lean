/- Contracts and plain law, a bundle: Build3 Show0 Show1 Show2 Show3 Show4. -/
import Derived.Test.YtaihncbejhnceaaDoorBD
import Derived.Test.YtaihncbejhnceaaDoorBJ
import Derived.Test.YtaihncbejhnceaaDoorBF

namespace Go.Proofs.YtaihncbejhnceaaDoor.base
open Go.RowKit
set_option linter.unusedVariables false

/-- blocks of other types than bytes, but for the builder's own, stay -/
def Keeps (b : Nat) (w w' : World) : Prop := ∀ (kx : Nat) (tx : TypeId) (cx : Array Value), Blk w kx tx cx → tx ≠ 5 → kx ≠ b → Blk w' kx tx cx
theorem Keeps.trans {b : Nat} {w w1 w2 : World} (h : Keeps b w w1) (h2 : Keeps b w1 w2) : Keeps b w w2 := fun k t c hx ht hk => h2 k t c (h k t c hx ht hk) ht hk
theorem Keeps.alloc {b : Nat} {w w1 : World} (h : Keeps b w w1) (o : Obj) : Keeps b w (w1.alloc o) := fun k t c hx ht hk => (h k t c hx ht hk).alloc o
theorem Keeps.refl (b : Nat) (w : World) : Keeps b w w := fun k t c hx ht hk => hx

set_option maxHeartbeats 2000000 in
set_option maxRecDepth 100000 in
theorem writeByte_all (B b : Nat) (bs : List Value) (c : Int) (w : World) (h : Lib.IsBuilder 73 5 B b bs w) (hlen : bs.length + 1 ≤ 140737488355328) (hBw : B ≤ w.heap.size) :
    Calls Tryd.prog 72 #[.pointer (some ⟨b, 0, none⟩), .int .u8 c] w fun e w' => e = .returned .nilIface ∧ (Lib.BuilderAt 73 5 B b (.pointer (some ⟨b, 0, none⟩)) (bs ++ [.int .u8 c]) w' ∧ Below B w w' ∧ Keeps b w w') := by
  obtain ⟨i0, hi, hz0, hz1, hz2⟩ := info_parts infoByte
  go_enter Tryd.func72, Tryd.ntmps72
  go_wp2_with (go_at_call 121; refine (copyCheck_far B b bs _ h).mono ?_)
  rintro e w1 ⟨rfl, h1, hb1, hsz, hfar⟩
  obtain ⟨hB, v, hbk, hown, hne⟩ := h1
  have HFar := Lib.hid hfar
  have HOwn := Lib.hid hown
  have HS := Lib.hid hsz
  clear hfar hsz
  have c0 : w1.cell? ⟨b, 0, none⟩ = some (.pointer (some ⟨b, 0, none⟩)) := by rw [Lib.cell_of_heap hbk]; rfl
  have c1 : w1.cell? ⟨b, 1, none⟩ = some v := by rw [Lib.cell_of_heap hbk]; rfl
  go_wp2_with (at_builtin; refine wpList_append_own _ rfl _ _ 62 rfl B 5 i0 (.int .u8 0) 1 1 Tryd.underlying62 hi hz0 hz1 hz2 rfl (by decide) _ _ _ rfl (hown.alloc _) ⟨w1.heap.size, 0, none⟩ 1 1 [.int .u8 c] rfl rfl ?c1 ?c2 ?c3 ?c4 ?c5 ?_)
  case c1 =>
    intro j u hj
    match j, hj with
    | 0, hj => simp at hj; subst hj; simp [Addr.add]
  case c2 => intro u hu; simp at hu; subst hu; rfl
  case c3 => unfold maxLen; omega
  case c4 => omega
  case c5 => have := hb1.size; simp; omega
  intro v' w2 hown' hgrow _
  have hlt : b < w1.heap.size := by
    rcases Nat.lt_or_ge b w1.heap.size with h' | h'
    · exact h'
    · simp [Array.getElem?_eq_none h'] at hbk
  have hb2 : w2.heap[b]? = some (.cells #[.pointer (some ⟨b, 0, none⟩), v] 73 (0, 0)) := by
    rw [hgrow.block b (by simp; omega) (fun e => hne e.symm), Lib.alloc_old w1 _ b hlt]
    exact hbk
  have d0 : w2.cell? ⟨b, 0, none⟩ = some (.pointer (some ⟨b, 0, none⟩)) := by rw [Lib.cell_of_heap hb2]; rfl
  have d1 : w2.cell? ⟨b, 1, none⟩ = some v := by rw [Lib.cell_of_heap hb2]; rfl
  have f1 : w2.frozen? ⟨b, 1, none⟩ = false := Lib.frozen_of_heap hb2 1
  obtain ⟨g, cap, rfl⟩ : ∃ g cap, v' = .slice (some ⟨g, 0, none⟩) (bs.length + 1) cap := by
    rcases hown'.2 with ⟨_, h0⟩ | ⟨g, cap, cur, hv, _⟩
    · omega
    · exact ⟨g, cap, hv⟩
  go_wp2
  go_ret
  refine ⟨rfl, ?_, ?_, ?_⟩
  · exact Lib.BuilderAt.put (T := 73) (e := 5) hB hb2 (bs' := bs ++ [.int .u8 c]) (by simpa using hown') (by decide)
  · exact ((hb1.alloc (by have := hb1.size; omega) _).grown hgrow (by have := hb1.size; simp; omega) (fun k hk => (hown.lt k hk).1)).setCell (p := ⟨b, 1, none⟩) hB _
  · intro kx tx cx hx htx hkx
    have hx1 : Blk w1 kx tx cx := (HFar.out kx hkx).trans hx
    have h2 : Blk w2 kx tx cx := (hgrow.block kx (by have := hx1.lt; simp; omega) (fun e => not_row HOwn.out hx1 htx e.symm)).trans (hx1.alloc _)
    exact h2.far hkx _

set_option maxHeartbeats 2000000 in
set_option maxRecDepth 100000 in
theorem writeString_all (B b : Nat) (bs : List Value) (s : ByteArray) (w : World) (h : Lib.IsBuilder 73 5 B b bs w) (hlen : bs.length + s.size ≤ 140737488355328) (hBw : B ≤ w.heap.size) :
    Calls Tryd.prog 71 #[.pointer (some ⟨b, 0, none⟩), .string s] w fun e w' => e = .returned (.tuple #[.int .i64 s.size, .nilIface]) ∧ (Lib.BuilderAt 73 5 B b (.pointer (some ⟨b, 0, none⟩)) (bs ++ Lib.strCells s) w' ∧ Below B w w' ∧ Keeps b w w') := by
  obtain ⟨i0, hi, hz0, hz1, hz2⟩ := info_parts infoByte
  go_enter Tryd.func71, Tryd.ntmps71
  go_wp2_with (go_at_call 121; refine (copyCheck_far B b bs _ h).mono ?_)
  rintro e w1 ⟨rfl, h1, hb1, hsz, hfar⟩
  obtain ⟨hB, v, hbk, hown, hne⟩ := h1
  have HFar := Lib.hid hfar
  have HOwn := Lib.hid hown
  have HS := Lib.hid hsz
  clear hfar hsz
  have c0 : w1.cell? ⟨b, 0, none⟩ = some (.pointer (some ⟨b, 0, none⟩)) := by rw [Lib.cell_of_heap hbk]; rfl
  have c1 : w1.cell? ⟨b, 1, none⟩ = some v := by rw [Lib.cell_of_heap hbk]; rfl
  go_wp2_with (at_builtin; refine Lib.wpList_append_own_string _ rfl _ _ 62 9 rfl B 5 i0 Tryd.underlying62 Tryd.underlying9 hi hz0 hz1 hz2 _ _ _ rfl hown s rfl ?c3 ?c4 ?c5 ?_)
  case c3 => unfold maxLen; omega
  case c4 => omega
  case c5 => have := hb1.size; omega
  intro v' w2 hown' hgrow _
  have hlt : b < w1.heap.size := by
    rcases Nat.lt_or_ge b w1.heap.size with h' | h'
    · exact h'
    · simp [Array.getElem?_eq_none h'] at hbk
  have hb2 : w2.heap[b]? = some (.cells #[.pointer (some ⟨b, 0, none⟩), v] 73 (0, 0)) := by
    rw [hgrow.block b hlt (fun e => hne e.symm)]
    exact hbk
  have d0 : w2.cell? ⟨b, 0, none⟩ = some (.pointer (some ⟨b, 0, none⟩)) := by rw [Lib.cell_of_heap hb2]; rfl
  have d1 : w2.cell? ⟨b, 1, none⟩ = some v := by rw [Lib.cell_of_heap hb2]; rfl
  have f1 : w2.frozen? ⟨b, 1, none⟩ = false := Lib.frozen_of_heap hb2 1
  obtain ⟨ao, n', cap, rfl⟩ : ∃ ao n' cap, v' = .slice ao n' cap := by
    rcases hown'.2 with ⟨hv, _⟩ | ⟨g, cap, cur, hv, _⟩
    · exact ⟨_, _, _, hv⟩
    · exact ⟨_, _, _, hv⟩
  go_wp2
  go_ret2
  refine ⟨rfl, ?_, ?_, ?_⟩
  · exact Lib.BuilderAt.put (T := 73) (e := 5) hB hb2 (bs' := bs ++ Lib.strCells s) (by simpa [Lib.strCells_length] using hown') (by decide)
  · exact (hb1.grown hgrow (by have := hb1.size; omega) (fun k hk => (hown.lt k hk).1)).setCell (p := ⟨b, 1, none⟩) hB _
  · intro kx tx cx hx htx hkx
    have hx1 : Blk w1 kx tx cx := (HFar.out kx hkx).trans hx
    have h2 : Blk w2 kx tx cx := (hgrow.block kx hx1.lt (fun e => not_row HOwn.out hx1 htx e.symm)).trans hx1
    exact h2.far hkx _

/-- WriteByte, on lists of bytes -/
theorem writeByte_keep (B b : Nat) (l : List UInt8) (c : UInt8) (w : World) (h : IsB B b l w) (hlen : l.length + 1 ≤ 140737488355328) (hBw : B ≤ w.heap.size) :
    Calls Tryd.prog 72 #[.pointer (some ⟨b, 0, none⟩), .int .u8 (c.toNat : Int)] w fun e w' => e = .returned .nilIface ∧ IsB B b (l ++ [c]) w' ∧ Below B w w' ∧ Keeps b w w' :=
  (writeByte_all B b _ _ w h (by rw [Lib.byteCells_length]; exact hlen) hBw).mono fun e w' ⟨he, h1, h2, h3⟩ => ⟨he, Or.inr (by simpa [Lib.byteCells] using h1), h2, h3⟩
/-- WriteString, on lists of bytes -/
theorem writeString_keep (B b : Nat) (l : List UInt8) (s : ByteArray) (w : World) (h : IsB B b l w) (hlen : l.length + s.size ≤ 140737488355328) (hBw : B ≤ w.heap.size) :
    Calls Tryd.prog 71 #[.pointer (some ⟨b, 0, none⟩), .string s] w fun e w' => e = .returned (.tuple #[.int .i64 s.size, .nilIface]) ∧ IsB B b (l ++ s.data.toList) w' ∧ Below B w w' ∧ Keeps b w w' :=
  (writeString_all B b _ s w h (by rw [Lib.byteCells_length]; exact hlen) hBw).mono fun e w' ⟨he, h1, h2, h3⟩ => ⟨he, Or.inr (by simpa [Lib.byteCells, Lib.strCells] using h1), h2, h3⟩

end Go.Proofs.YtaihncbejhnceaaDoor.base

namespace Go.Proofs.YtaihncbejhnceaaDoor.rul
open Go.RowKit Go.Proofs.YtaihncbejhnceaaDoor.base Go.Proofs.YtaihncbejhnceaaDoor.tok
set_option linter.unusedVariables false

/-- ahead of what is in a rule's block -/
def preT (md : Bool) (h : Bs) : Bs := (if md then mediaT ++ [32] else []) ++ (h ++ if h = [] then [] else [32]) ++ [123, 10]
mutual
/-- rules behind what is there; no more, if that is too long -/
def showF : Bs → List Rl → Bs
  | out, [] => out
  | out, r :: rs => if 3000 < out.length then out else showF (showRF out r) rs
def showRF : Bs → Rl → Bs
  | out, .mk md h ds rs => showF (out ++ preT md h ++ dShows ds) rs ++ [125, 10]
end
theorem showR_is (md : Bool) (h : Bs) (ds : List Dc) (rs : List Rl) : showR (.mk md h ds rs) = preT md h ++ dShows ds ++ showG rs ++ [125, 10] := by simp [showR, preT]
mutual
theorem showF_or : ∀ (rs : List Rl) (out : Bs), showF out rs = out ++ showG rs ∨ 3000 < (showF out rs).length
  | [], out => .inl (by simp [showF, showG])
  | r :: rs, out => by
    rw [showF]
    by_cases h : 3000 < out.length
    · rw [if_pos h]; exact .inr h
    · rw [if_neg h]
      rcases showRF_or r out with h1 | h1
      · rw [h1]
        rcases showF_or rs (out ++ showR r) with h2 | h2
        · exact .inl (by rw [h2]; simp [showG])
        · exact .inr h2
      · right
        cases rs with
        | nil => rw [showF]; exact h1
        | cons r' rs' => rw [showF, if_pos h1]; exact h1
theorem showRF_or : ∀ (r : Rl) (out : Bs), showRF out r = out ++ showR r ∨ 3000 < (showRF out r).length
  | .mk md h ds rs, out => by
    rw [showRF, showR_is]
    rcases showF_or rs (out ++ preT md h ++ dShows ds) with h1 | h1
    · exact .inl (by rw [h1]; simp)
    · exact .inr (by rw [List.length_append]; omega)
end
mutual
theorem showF_len : ∀ (rs : List Rl) (out : Bs), (showF out rs).length ≤ out.length + (showG rs).length
  | [], out => by simp [showF]
  | r :: rs, out => by
    rw [showF]
    have h1 := showRF_len r out
    have h2 := showF_len rs (showRF out r)
    simp only [showG, List.length_append]
    split <;> omega
theorem showRF_len : ∀ (r : Rl) (out : Bs), (showRF out r).length ≤ out.length + (showR r).length
  | .mk md h ds rs, out => by
    rw [showRF, showR_is]
    have := showF_len rs (out ++ preT md h ++ dShows ds)
    simp only [List.length_append] at this ⊢
    omega
end
theorem dShows_len {N : Nat} : ∀ (ds : List Dc), (∀ d ∈ ds, Told N d) → (dShows ds).length ≤ ds.length * (2 * N + 40)
  | [], _ => by simp [dShows]
  | d :: ds, h => by
    obtain ⟨_, _, _, _, _, _, _, _, _, _, h1, h2⟩ := h d (by simp)
    have ih := dShows_len ds (fun x hx => h x (by simp [hx]))
    have e : dShows (d :: ds) = dShow d ++ dShows ds := by simp [dShows]
    have hd : (dShow d).length ≤ 2 * N + 40 := by
      unfold dShow
      split <;> simp [impW] <;> omega
    rw [e, List.length_append, List.length_cons, Nat.succ_mul]
    omega
mutual
theorem showG_len {N : Nat} : ∀ (rs : List Rl) (m : Nat) (nst : Bool), GoodG N m nst rs → (showG rs).length ≤ fullG rs * (2 * N + 40)
  | [], m, nst, _ => by simp [showG]
  | r :: rs, m, nst, hg => by
    unfold GoodG at hg
    have h1 := showR_len r m nst hg.1
    have h2 := showG_len rs m nst hg.2
    simp only [showG, fullG, List.length_append, Nat.add_mul]
    omega
theorem showR_len {N : Nat} : ∀ (r : Rl) (m : Nat) (nst : Bool), GoodR N m nst r → (showR r).length ≤ fullR r * (2 * N + 40)
  | .mk md h ds rs, m, nst, hg => by
    unfold GoodR at hg
    obtain ⟨⟨V, hc, hs, hb, rfl, hV, h3, hN⟩, hd1, hd2⟩ := hg
    have hh : (headP V).length ≤ N := by
      rw [head_is hs hc.raw]
      exact Nat.le_trans (sq_len V false hc.raw) hN
    have hp : (preT md (headP V)).length ≤ N + 12 := by
      have e1 : (if headP V = [] then ([] : Bs) else [32]).length ≤ 1 := by split <;> simp
      have e2 : (if md = true then mediaT ++ [32] else []).length ≤ 7 := by cases md <;> decide
      unfold preT
      simp only [List.length_append, List.length_cons, List.length_nil] at e1 e2 ⊢
      omega
    rw [showR_is]
    simp only [List.length_append, fullR, Nat.add_mul, List.length_cons, List.length_nil]
    cases md with
    | true =>
      obtain ⟨rfl, m', rfl, hG⟩ := hd1 rfl
      have h2 := showG_len rs m' true hG
      simp only [dShows, List.flatMap_nil, List.length_nil]
      omega
    | false =>
      obtain ⟨hT, rfl⟩ := hd2 rfl
      have h2 := dShows_len ds hT
      simp only [showG, List.length_nil, fullG]
      omega
end
theorem show_small {s : Bs} {R : List Rl} (h : ParseP s = some R) (hf : fullG R ≤ 3000) : (showG R).length ≤ 20000000 := by
  have := showG_len R 3 false (parse_good h).1
  have h2 := Nat.mul_le_mul_right (2 * 3000 + 40) hf
  omega

end Go.Proofs.YtaihncbejhnceaaDoor.rul

namespace Go.Proofs.YtaihncbejhnceaaDoor.rul
open Go.RowKit Go.Proofs.YtaihncbejhnceaaDoor.base Go.Proofs.YtaihncbejhnceaaDoor.tok
set_option linter.unusedVariables false

/-- a world of show's: what the builder holds, and which blocks stand -/
def SW (b : Nat) (w0 w : World) (Ls : List (Nat × TypeId × Array Value)) (out : Bs) (X : World) : Prop :=
  IsB w0.heap.size b out X ∧ Below w0.heap.size w0 X ∧ Keeps b w X ∧ (∀ p ∈ Ls, Blk X p.1 p.2.1 p.2.2 ∧ p.2.1 ≠ 5 ∧ p.1 ≠ b) ∧ b < X.heap.size ∧ w.heap.size ≤ X.heap.size
theorem SW.ws {b : Nat} {w0 w X : World} {Ls : List (Nat × TypeId × Array Value)} {out : Bs} (h : SW b w0 w Ls out X) (s : Bs) (hl : out.length + s.length ≤ 1000000000) :
    Calls Tryd.prog 71 #[.pointer (some ⟨b, 0, none⟩), .string (bs s)] X fun e w' => e = .returned (.tuple #[.int .i64 (bs s).size, .nilIface]) ∧ SW b w0 w Ls (out ++ s) w' ∧ X.heap.size ≤ w'.heap.size := by
  obtain ⟨h1, h2, h3, h4, h5⟩ := h
  refine (writeString_keep w0.heap.size b out (bs s) X h1 (by rw [bs_size]; omega) h2.size).mono fun e w' ⟨he, hb, hw, hk⟩ => ⟨he, ?_, ?_⟩
  · refine ⟨hb, h2.trans hw, h3.trans hk, fun p hp => ⟨hk _ _ _ (h4 p hp).1 (h4 p hp).2.1 (h4 p hp).2.2, (h4 p hp).2⟩, Nat.lt_of_lt_of_le h5.1 hw.size, Nat.le_trans h5.2 hw.size⟩
  · exact hw.size
/-- .. of any string -/
theorem SW.wsB {b : Nat} {w0 w X : World} {Ls : List (Nat × TypeId × Array Value)} {out : Bs} (h : SW b w0 w Ls out X) (s : ByteArray) (hl : out.length + s.data.toList.length ≤ 1000000000) :
    Calls Tryd.prog 71 #[.pointer (some ⟨b, 0, none⟩), .string s] X fun e w' => e = .returned (.tuple #[.int .i64 s.size, .nilIface]) ∧ SW b w0 w Ls (out ++ s.data.toList) w' ∧ X.heap.size ≤ w'.heap.size :=
  h.ws s.data.toList hl
theorem SW.wb {b : Nat} {w0 w X : World} {Ls : List (Nat × TypeId × Array Value)} {out : Bs} (h : SW b w0 w Ls out X) (hl : out.length + 1 ≤ 1000000000) :
    Calls Tryd.prog 72 #[.pointer (some ⟨b, 0, none⟩), .int .u8 32] X fun e w' => e = .returned .nilIface ∧ SW b w0 w Ls (out ++ [32]) w' ∧ X.heap.size ≤ w'.heap.size := by
  obtain ⟨h1, h2, h3, h4, h5⟩ := h
  refine (writeByte_keep w0.heap.size b out 32 X h1 (by omega) h2.size).mono fun e w' ⟨he, hb, hw, hk⟩ => ⟨he, ?_, hw.size⟩
  exact ⟨hb, h2.trans hw, h3.trans hk, fun p hp => ⟨hk _ _ _ (h4 p hp).1 (h4 p hp).2.1 (h4 p hp).2.2, (h4 p hp).2⟩, Nat.lt_of_lt_of_le h5.1 hw.size, Nat.le_trans h5.2 hw.size⟩
theorem SW.alloc {b : Nat} {w0 w X : World} {Ls : List (Nat × TypeId × Array Value)} {out : Bs} (h : SW b w0 w Ls out X) (cs : Array Value) (t : TypeId) (ht : t ≠ 5) : SW b w0 w ((X.heap.size, t, cs) :: Ls) out (X.alloc (.cells cs t)) := by
  obtain ⟨h1, h2, h3, h4, h5⟩ := h
  refine ⟨h1.on ((Below.refl _ _).alloc (Nat.le_refl _) _), h2.alloc h2.size _, h3.alloc _, fun p hp => ?_, by simp; omega, by simp; omega⟩
  rcases List.mem_cons.1 hp with rfl | hp
  · exact ⟨Blk.new rfl, ht, by show X.heap.size ≠ b; omega⟩
  · exact ⟨(h4 p hp).1.alloc _, (h4 p hp).2⟩
theorem SW.drop {b : Nat} {w0 w X : World} {p : Nat × TypeId × Array Value} {Ls : List (Nat × TypeId × Array Value)} {out : Bs} (h : SW b w0 w (p :: Ls) out X) : SW b w0 w Ls out X :=
  ⟨h.1, h.2.1, h.2.2.1, fun q hq => h.2.2.2.1 q (List.mem_cons_of_mem _ hq), h.2.2.2.2⟩
theorem SW.blk {b : Nat} {w0 w X : World} {p : Nat × TypeId × Array Value} {Ls : List (Nat × TypeId × Array Value)} {out : Bs} (h : SW b w0 w Ls out X) (hp : p ∈ Ls) : Blk X p.1 p.2.1 p.2.2 := (h.2.2.2.1 p hp).1
theorem SW.len {b : Nat} {w0 w X : World} {Ls : List (Nat × TypeId × Array Value)} {out : Bs} (h : SW b w0 w Ls out X) : Calls Tryd.prog 35 #[.pointer (some ⟨b, 0, none⟩)] X fun e w' => e = .returned (.int .i64 out.length) ∧ X = w' := len_ct _ _ _ _ h.1
/-- a call that writes, too -/
theorem SW.call {b : Nat} {w0 w X X' : World} {Ls : List (Nat × TypeId × Array Value)} {out out' : Bs} (h : SW b w0 w Ls out X) (h1 : IsB w0.heap.size b out' X') (h2 : Below w0.heap.size w0 X') (h3 : Keeps b X X') (h4 : X.heap.size ≤ X'.heap.size) : SW b w0 w Ls out' X' :=
  ⟨h1, h2, h.2.2.1.trans h3, fun p hp => ⟨h3 _ _ _ (h.2.2.2.1 p hp).1 (h.2.2.2.1 p hp).2.1 (h.2.2.2.1 p hp).2.2, (h.2.2.2.1 p hp).2⟩, Nat.lt_of_lt_of_le h.2.2.2.2.1 h4, Nat.le_trans h.2.2.2.2.2 h4⟩
theorem SW.start {b : Nat} {w0 w : World} {out : Bs} (h1 : IsB w0.heap.size b out w) (h2 : Below w0.heap.size w0 w) (h3 : b < w.heap.size) : SW b w0 w [] out w := ⟨h1, h2, Keeps.refl b w, fun p hp => (by cases hp), h3, Nat.le_refl _⟩

/-! ### a builder that was read -/
abbrev IsBF (B b : Nat) (l : Bs) (w : World) : Prop := Lib.IsBuilderF 73 5 B b (Lib.byteCells l) w
theorem bf_on {B b : Nat} {l : Bs} {w w' : World} (h : IsBF B b l w) (hb : Below w.heap.size w w') : IsBF B b l w' := by
  have key : ∀ p, Lib.BuilderAtF 73 5 B b p (Lib.byteCells l) w → Lib.BuilderAtF 73 5 B b p (Lib.byteCells l) w' := by
    intro p hx
    obtain ⟨hB, v, hbk, hown, hne⟩ := hx
    have hlt : b < w.heap.size := by
      rcases Nat.lt_or_ge b w.heap.size with h' | h'
      · exact h'
      · simp [Array.getElem?_eq_none h'] at hbk
    exact ⟨hB, v, (hb.block b hlt).trans hbk, hown.kept ⟨hb.os, hb.tape, hb.output, hb.size, fun k hk _ => hb.block k hk⟩ (row := none) (by cases hv : v.ownBlock with | none => exact .inl rfl | some g => exact .inr (by simp)), hne⟩
  exact h.elim (fun x => .inl (key _ x)) (fun x => .inr (key _ x))
theorem bf_str (B b : Nat) (l : Bs) (w : World) (h : IsBF B b l w) (hBw : B ≤ w.heap.size) :
    Calls Tryd.prog 36 #[.pointer (some ⟨b, 0, none⟩)] w fun e w' => e = .returned (.string (bs l)) ∧ IsBF B b l w' ∧ Below B w w' := Tryd.Builder_String_any_f B b l w h hBw

end Go.Proofs.YtaihncbejhnceaaDoor.rul

namespace Go.Proofs.YtaihncbejhnceaaDoor.rul
open Go.RowKit Go.Proofs.YtaihncbejhnceaaDoor.base Go.Proofs.YtaihncbejhnceaaDoor.tok
set_option linter.unusedVariables false

theorem dShows_step {L : List Dc} {k : Nat} {d : Dc} (h : L[k]? = some d) : dShows (L.take (k + 1)) = dShows (L.take k) ++ dShow d := by
  obtain ⟨hl, he⟩ := List.getElem?_eq_some_iff.1 h
  rw [List.take_succ_eq_append_getElem hl, dShows, List.flatMap_append, he]
  simp [dShows]
theorem dShows_part {L : List Dc} (k : Nat) : (dShows (L.take k)).length ≤ (dShows L).length := by
  conv => rhs; rw [← List.take_append_drop k L]
  simp only [dShows, List.flatMap_append, List.length_append]
  omega
/-- what a call of show leaves -/
def ShowPost (b : Nat) (w0 w : World) (out : Bs) (e : Ending) (w' : World) : Prop := e = .returned (.tuple #[]) ∧ IsB w0.heap.size b out w' ∧ Below w0.heap.size w0 w' ∧ Keeps b w w' ∧ w.heap.size ≤ w'.heap.size
def ShowPre (b : Nat) (out : Bs) (v : Value) (rs : List Rl) (w0 w : World) : Prop := RSl w0 v rs ∧ Below w0.heap.size w0 w ∧ IsB w0.heap.size b out w ∧ b < w.heap.size ∧ out.length + (showG rs).length ≤ 100000000

theorem bs_data (l : Bs) : (bs l).data.toList = l := rfl
theorem show_grow {b : Nat} {w0 w X : World} {Ls : List (Nat × TypeId × Array Value)} {out : Bs} (h : SW b w0 w Ls out X) : w.heap.size ≤ X.heap.size := h.2.2.2.2.2
set_option maxRecDepth 100000 in
set_option maxHeartbeats 8000000 in
theorem show_step (rs : List Rl) (hN1 : fullG rs ≤ 1000000)
    (hIH : ∀ (sub : List Rl), fullG sub < fullG rs → ∀ (b : Nat) (out : Bs) (v : Value) (w0 w : World), ShowPre b out v sub w0 w → Calls Tryd.prog 34 #[.pointer (some ⟨b, 0, none⟩), v] w fun e w' => ShowPost b w0 w (showF out sub) e w')
    (b : Nat) (out : Bs) (v : Value) (w0 w : World) (h : ShowPre b out v rs w0 w) : Calls Tryd.prog 34 #[.pointer (some ⟨b, 0, none⟩), v] w fun e w' => ShowPost b w0 w (showF out rs) e w' := by
  obtain ⟨h1, h2, h3, h4, h5⟩ := h
  have HS := Lib.hid h1
  have IH := Lib.hid hIH
  obtain ⟨A, cap, rfl, g1, g2⟩ := h1
  have hlen := Nat.le_trans (fullG_len rs) hN1
  generalize hR : showF out rs = R
  have HR := Lib.hid hR
  have HSt := Lib.hid (SW.start h3 h2 h4)
  have H5 := Lib.hid h5
  clear g1 g2 h2 h3 h4 h5 hIH hR
  go_enter Tryd.func34, Tryd.ntmps34
  go_wp2_with fail
  go_loopw [10] (fun i wr => ∃ (k : Nat) (o : Bs), k ≤ rs.length ∧ i = .int .i64 k ∧ showF o (rs.drop k) = R ∧ o.length + (showG (rs.drop k)).length ≤ 100000000 ∧ SW b w0 w [] o wr) (fun i _ => rs.length - (intOf i).toNat)
  case atStart => exact ⟨0, out, by omega, rfl, by simpa using HR.out, by simpa using H5.out, HSt.out⟩
  case round =>
    obtain ⟨k, o, hk, rfl, hrest, hol, hw⟩ := hrel
    obtain ⟨wo, hwo⟩ : ∃ wo, wo = wr := ⟨_, rfl⟩
    subst hwo
    have HW := Lib.hid hw
    by_cases hlt : k < rs.length
    · have hlt' : (k : Int) < (rs.length : Int) := by omega
      have hki : (k : Int) ≤ 1000000 := by omega
      obtain ⟨bb, off, m, hd, ds, sub, A1, c1, A2, c2, rfl, hb, hg, e0, e1, e2, e3, hc1, hD, hSub⟩ := HS.out.rule hlt
      obtain ⟨f1, f2, f3⟩ := fullG_drop rs k _ hg
      rw [f3, showF] at hrest
      rw [f3] at hol
      simp only [showG, List.length_append, showR_is] at hol
      have d0 : wo.cell? ⟨bb, off + k * 4, none⟩ = some (.bool m) := (hw.2.1.cell (p := ⟨bb, off + k * 4, none⟩) hb).trans e0
      have d1 : wo.cell? ⟨bb, off + k * 4 + 1, none⟩ = some (.string (bs hd)) := (hw.2.1.cell (p := ⟨bb, off + k * 4 + 1, none⟩) hb).trans e1
      have d2 : wo.cell? ⟨bb, off + k * 4 + 2, none⟩ = some (.slice A1 ds.length c1) := (hw.2.1.cell (p := ⟨bb, off + k * 4 + 2, none⟩) hb).trans e2
      have d3 : wo.cell? ⟨bb, off + k * 4 + 3, none⟩ = some (.slice A2 sub.length c2) := (hw.2.1.cell (p := ⟨bb, off + k * 4 + 3, none⟩) hb).trans e3
      have HA := Lib.hid (fun (cs : Array Value) => hw.alloc cs 41 (by decide))
      have HSub := Lib.hid hSub
      have HD := Lib.hid (drd_of hD)
      have HF := Lib.hid (show fullG sub < fullG rs by simp only [fullR] at f2; omega)
      have hdl : ds.length ≤ 1000000 := by simp only [fullR] at f2; omega
      have hdc := hc1
      replace hg := Lib.hid hg
      clear e0 e1 e2 e3 hD hSub f1 f2 f3 hc1 hw
      go_wp2_with fail
      have hw1 := HA.out #[.bool m, .string (bs hd), .slice A1 ds.length c1, .slice A2 sub.length c2]
      generalize hV : wo.alloc (.cells #[.bool m, .string (bs hd), .slice A1 ds.length c1, .slice A2 sub.length c2] 41) = V at *
      replace hw1 := Lib.hid hw1
      obtain ⟨Lb, hLb⟩ : ∃ Lb, Lb = o.length := ⟨_, rfl⟩
      by_cases h3 : 3000 < o.length
      · have h3i : (3000 : Int) < (o.length : Int) := by omega
        rw [if_pos h3] at hrest
        subst hrest
        go_wp2_with ((go_at_call 35; (with_reducible refine (hw1.out.len).mono ?_); rintro e X1 ⟨rfl, rfl⟩))
        refine bodyPost_ret (v := .tuple #[]) (by simp [results, Tryd.results34, go_sem]) rfl ?_
        exact ⟨rfl, hw1.out.1, hw1.out.2.1, hw1.out.2.2.1, show_grow hw1.out⟩
      · have h3i : ¬ (3000 : Int) < (o.length : Int) := by omega
        rw [if_neg h3, showRF] at hrest
        have Hrest := Lib.hid hrest
        have HOl := Lib.hid hol
        have y1 : (bs hd).size = hd.length := rfl
        have hpre : hd.length ≤ (preT m hd).length ∧ (preT m hd).length ≤ hd.length + 12 := by
          have e1 : (if hd = [] then ([] : Bs) else [32]).length ≤ 1 := by split <;> simp
          have e2 : (if m = true then mediaT ++ [32] else []).length ≤ 7 := by cases m <;> decide
          unfold preT
          simp only [List.length_append, List.length_cons, List.length_nil] at e1 e2 ⊢
          omega
        have ho1 : o.length ≤ 3000 := by omega
        have hh1 : hd.length ≤ 100000000 := by omega
        have cR := (hw1.out.blk (List.mem_cons_self ..)).cell
        have hz1 : wo.heap.size < V.heap.size := by subst_vars; simp
        have HBd := Lib.hid (show (preT m hd).length ≤ 100000012 by omega)
        clear hrest hol hpre d0 d1 d2 d3 HA hV
        replace hlen := Lib.hid hlen
        have HC := hw1
        clear hw1
        have hbt : (bs hd).toList = hd := bs_toList hd
        have hb1 : hd = [] ∨ ((bs hd).toList.isEmpty = false ∧ hd ≠ []) := by
          rw [hbt]
          cases hd with
          | nil => exact .inl rfl
          | cons a l => exact .inr ⟨rfl, by simp⟩
        have hbe : (bs ([] : Bs)).toList.isEmpty = true := by rw [bs_toList]; rfl
        clear hbt
        cases m <;> rcases hb1 with rfl | ⟨hb1, hnil⟩
        · go_wp2_with (first
            | (go_at_call 35; (with_reducible refine (HC.out.len).mono ?_); rintro e X1 ⟨rfl, rfl⟩)
            | (go_at_call 71; (with_reducible refine (HC.out.wsB _ (by first | (simp; done) | (simp; omega) | (simp [bs_data]; done) | (simp [bs_data]; omega))).mono ?_); rintro e X1 ⟨rfl, hw2, hz2⟩; clear cR; have cR := (hw2.blk (List.mem_cons_self ..)).cell; replace HC := Lib.hid hw2; clear hw2 hz2))
          have HC0 := Lib.hid (show SW b w0 w [(wo.heap.size, 41, #[.bool false, .string (bs []), .slice A1 ds.length c1, .slice A2 sub.length c2])] (o ++ preT false []) X1 by have := HC.out; simpa [preT, mediaT, bs_data] using this)
          clear HC
          generalize preT false [] = pt at *
          go_loopw [35] (fun i wr2 => ∃ j : Nat, j ≤ ds.length ∧ i = .int .i64 j ∧ SW b w0 w [(wo.heap.size, 41, #[.bool false, .string (bs []), .slice A1 ds.length c1, .slice A2 sub.length c2])] (o ++ pt ++ dShows (ds.take j)) wr2) (fun i _ => ds.length - (intOf i).toNat)
          case atStart => exact ⟨0, by omega, rfl, by simpa [dShows] using HC0.out⟩
          case round =>
            obtain ⟨j, hj, rfl, hwj⟩ := hrel
            obtain ⟨wp, hwp⟩ : ∃ wp, wp = wr := ⟨_, rfl⟩
            subst hwp
            have HWj := Lib.hid hwj
            by_cases hjt : j < ds.length
            · have hjt' : (j : Int) < (ds.length : Int) := by omega
              obtain ⟨b3, off3, d, rfl, hb3, hg3, q0, q1, q2⟩ := DRd.tok (HD.out.keep hwj.2.1 hwj.2.1.size) hjt
              have HStp := Lib.hid (dShows_step hg3)
              have hpt2 := dShows_part (L := ds) (j + 1)
              rw [HStp.out, List.length_append] at hpt2
              have hdl2 : (dShow d).length = d.name.length + d.val.length + 4 + (if d.imp then 11 else 0) := by
                unfold dShow
                split <;> simp [impW] <;> omega
              have HA2 := Lib.hid (fun (cs : Array Value) => hwj.alloc cs 65 (by decide))
              obtain ⟨dn, dv, di⟩ := d
              simp only at q0 q1 q2 hdl2
              have hX : (dShows (ds.take j)).length + dn.length + dv.length + 15 ≤ 100000100 := by have := HOl.out; split at hdl2 <;> omega
              have HLen := Lib.hid (show o.length + pt.length + (dShows (ds.take j)).length + dn.length + dv.length ≤ 300000000 by have := HBd.out; omega)
              have x1 : (bs dn).size = dn.length := rfl
              have x2 : (bs dv).size = dv.length := rfl
              have z1 : ¬ 9223372036854775807 < (bs dn).size + 2 := by omega
              have z2 : ¬ 9223372036854775807 < (bs dn).size + 2 + (bs dv).size := by omega
              replace hg3 := Lib.hid hg3
              have hjk : (j : Int) ≤ 1000000 := by omega
              clear hpt2 hdl2 hX x1 x2 hwj
              cases di
              · go_wp2_with fail
                have hw3 := HA2.out #[.string (bs dn), .string (bs dv), .bool false]
                generalize hV2 : wp.alloc (.cells #[.string (bs dn), .string (bs dv), .bool false] 65) = V2 at *
                have HC := Lib.hid hw3
                have cD := (hw3.blk (List.mem_cons_self ..)).cell
                clear hw3 q0 q1 q2 HA2 hV2
                go_wp2_with (first
                  | (go_at_call 71; (with_reducible refine (HC.out.wsB _ (by have := HLen.out; first | (simp; omega) | (simp [bs_data]; omega) | (simp [bs_data, ByteArray.data_append]; omega))).mono ?_); rintro e X1 ⟨rfl, hw2, hz2⟩; clear cD; have cD := (hw2.blk (List.mem_cons_self ..)).cell; replace HC := Lib.hid hw2; clear hw2 hz2))
                have HFin := Lib.hid (show SW b w0 w [(wo.heap.size, 41, #[.bool false, .string (bs []), .slice (some ⟨b3, off3, none⟩) ds.length c1, .slice A2 sub.length c2])] (o ++ pt ++ dShows (ds.take (j + 1))) X1 by rw [HStp.out]; have := HC.out.drop; simpa [dShow, impW, bs_data] using this)
                go_roundw
                case rel => exact ⟨j + 1, by omega, by go_num, HFin.out⟩
                case measure => simp [intOf]; omega
              · go_wp2_with fail
                have hw3 := HA2.out #[.string (bs dn), .string (bs dv), .bool true]
                generalize hV2 : wp.alloc (.cells #[.string (bs dn), .string (bs dv), .bool true] 65) = V2 at *
                have HC := Lib.hid hw3
                have cD := (hw3.blk (List.mem_cons_self ..)).cell
                clear hw3 q0 q1 q2 HA2 hV2
                go_wp2_with (first
                  | (go_at_call 71; (with_reducible refine (HC.out.wsB _ (by have := HLen.out; first | (simp; omega) | (simp [bs_data]; omega) | (simp [bs_data, ByteArray.data_append]; omega))).mono ?_); rintro e X1 ⟨rfl, hw2, hz2⟩; clear cD; have cD := (hw2.blk (List.mem_cons_self ..)).cell; replace HC := Lib.hid hw2; clear hw2 hz2))
                have HFin := Lib.hid (show SW b w0 w [(wo.heap.size, 41, #[.bool false, .string (bs []), .slice (some ⟨b3, off3, none⟩) ds.length c1, .slice A2 sub.length c2])] (o ++ pt ++ dShows (ds.take (j + 1))) X1 by rw [HStp.out]; have := HC.out.drop; simpa [dShow, impW, bs_data] using this)
                go_roundw
                case rel => exact ⟨j + 1, by omega, by go_num, HFin.out⟩
                case measure => simp [intOf]; omega
            · obtain rfl : j = ds.length := by omega
              rw [List.take_length] at HWj hwj
              have HP := Lib.hid (show ShowPre b (o ++ pt ++ dShows ds) (.slice A2 sub.length c2) sub w0 wp from ⟨HSub.out, hwj.2.1, hwj.1, hwj.2.2.2.2.1, by have := HOl.out; simp only [List.length_append]; omega⟩)
              have hF1 : (showF (o ++ pt ++ dShows ds) sub).length + 2 + (showG (rs.drop (k + 1))).length ≤ 100000000 := by
                have h1 := showF_len sub (o ++ pt ++ dShows ds)
                have h2 := HOl.out
                simp only [List.length_append, List.length_cons, List.length_nil] at h1 h2
                omega
              have cR := (hwj.blk (List.mem_cons_self ..)).cell
              clear hwj
              go_wp2_with (first
                | (go_at_call 34; (with_reducible refine (IH.out sub HF.out b _ _ w0 _ HP.out).mono ?_); rintro e X2 ⟨rfl, i1, i2, i3, i4⟩; clear cR; have HC := Lib.hid (HWj.out.call i1 i2 i3 i4); have cR := (HC.out.blk (List.mem_cons_self ..)).cell; clear i1 i2 i3 i4)
                | (go_at_call 71; (with_reducible refine (HC.out.wsB _ (by have e : (⟨#[125, 10]⟩ : ByteArray).data.toList.length = 2 := rfl; omega)).mono ?_); rintro e X1 ⟨rfl, hw2, hz2⟩; clear cR; have cR := (hw2.blk (List.mem_cons_self ..)).cell; replace HC := Lib.hid hw2; clear hw2 hz2))
              go_roundw
              case rel => exact ⟨k + 1, showF (o ++ pt ++ dShows ds) sub ++ [125, 10], by omega, by go_num, Hrest.out, by simp only [List.length_append, List.length_cons, List.length_nil]; omega, by have := HC.out.drop; simpa using this⟩
              case measure => simp [intOf]; omega
        · replace hnil := Lib.hid hnil
          go_wp2_with (first
            | (go_at_call 35; (with_reducible refine (HC.out.len).mono ?_); rintro e X1 ⟨rfl, rfl⟩)
            | (go_at_call 71; (with_reducible refine (HC.out.wsB _ (by first | (simp; done) | (simp; omega) | (simp [bs_data]; done) | (simp [bs_data]; omega))).mono ?_); rintro e X1 ⟨rfl, hw2, hz2⟩; clear cR; have cR := (hw2.blk (List.mem_cons_self ..)).cell; replace HC := Lib.hid hw2; clear hw2 hz2)
            | (go_at_call 72; (with_reducible refine (HC.out.wb (by first | (simp; omega) | (simp [bs_data]; omega))).mono ?_); rintro e X1 ⟨rfl, hw2, hz2⟩; clear cR; have cR := (hw2.blk (List.mem_cons_self ..)).cell; replace HC := Lib.hid hw2; clear hw2 hz2))
          have HC0 := Lib.hid (show SW b w0 w [(wo.heap.size, 41, #[.bool false, .string (bs hd), .slice A1 ds.length c1, .slice A2 sub.length c2])] (o ++ preT false hd) X1 by have := HC.out; simpa [preT, mediaT, bs_data, hnil.out] using this)
          clear HC
          generalize preT false hd = pt at *
          go_loopw [35] (fun i wr2 => ∃ j : Nat, j ≤ ds.length ∧ i = .int .i64 j ∧ SW b w0 w [(wo.heap.size, 41, #[.bool false, .string (bs hd), .slice A1 ds.length c1, .slice A2 sub.length c2])] (o ++ pt ++ dShows (ds.take j)) wr2) (fun i _ => ds.length - (intOf i).toNat)
          case atStart => exact ⟨0, by omega, rfl, by simpa [dShows] using HC0.out⟩
          case round =>
            obtain ⟨j, hj, rfl, hwj⟩ := hrel
            obtain ⟨wp, hwp⟩ : ∃ wp, wp = wr := ⟨_, rfl⟩
            subst hwp
            have HWj := Lib.hid hwj
            by_cases hjt : j < ds.length
            · have hjt' : (j : Int) < (ds.length : Int) := by omega
              obtain ⟨b3, off3, d, rfl, hb3, hg3, q0, q1, q2⟩ := DRd.tok (HD.out.keep hwj.2.1 hwj.2.1.size) hjt
              have HStp := Lib.hid (dShows_step hg3)
              have hpt2 := dShows_part (L := ds) (j + 1)
              rw [HStp.out, List.length_append] at hpt2
              have hdl2 : (dShow d).length = d.name.length + d.val.length + 4 + (if d.imp then 11 else 0) := by
                unfold dShow
                split <;> simp [impW] <;> omega
              have HA2 := Lib.hid (fun (cs : Array Value) => hwj.alloc cs 65 (by decide))
              obtain ⟨dn, dv, di⟩ := d
              simp only at q0 q1 q2 hdl2
              have hX : (dShows (ds.take j)).length + dn.length + dv.length + 15 ≤ 100000100 := by have := HOl.out; split at hdl2 <;> omega
              have HLen := Lib.hid (show o.length + pt.length + (dShows (ds.take j)).length + dn.length + dv.length ≤ 300000000 by have := HBd.out; omega)
              have x1 : (bs dn).size = dn.length := rfl
              have x2 : (bs dv).size = dv.length := rfl
              have z1 : ¬ 9223372036854775807 < (bs dn).size + 2 := by omega
              have z2 : ¬ 9223372036854775807 < (bs dn).size + 2 + (bs dv).size := by omega
              replace hg3 := Lib.hid hg3
              have hjk : (j : Int) ≤ 1000000 := by omega
              clear hpt2 hdl2 hX x1 x2 hwj
              cases di
              · go_wp2_with fail
                have hw3 := HA2.out #[.string (bs dn), .string (bs dv), .bool false]
                generalize hV2 : wp.alloc (.cells #[.string (bs dn), .string (bs dv), .bool false] 65) = V2 at *
                have HC := Lib.hid hw3
                have cD := (hw3.blk (List.mem_cons_self ..)).cell
                clear hw3 q0 q1 q2 HA2 hV2
                go_wp2_with (first
                  | (go_at_call 71; (with_reducible refine (HC.out.wsB _ (by have := HLen.out; first | (simp; omega) | (simp [bs_data]; omega) | (simp [bs_data, ByteArray.data_append]; omega))).mono ?_); rintro e X1 ⟨rfl, hw2, hz2⟩; clear cD; have cD := (hw2.blk (List.mem_cons_self ..)).cell; replace HC := Lib.hid hw2; clear hw2 hz2))
                have HFin := Lib.hid (show SW b w0 w [(wo.heap.size, 41, #[.bool false, .string (bs hd), .slice (some ⟨b3, off3, none⟩) ds.length c1, .slice A2 sub.length c2])] (o ++ pt ++ dShows (ds.take (j + 1))) X1 by rw [HStp.out]; have := HC.out.drop; simpa [dShow, impW, bs_data] using this)
                go_roundw
                case rel => exact ⟨j + 1, by omega, by go_num, HFin.out⟩
                case measure => simp [intOf]; omega
              · go_wp2_with fail
                have hw3 := HA2.out #[.string (bs dn), .string (bs dv), .bool true]
                generalize hV2 : wp.alloc (.cells #[.string (bs dn), .string (bs dv), .bool true] 65) = V2 at *
                have HC := Lib.hid hw3
                have cD := (hw3.blk (List.mem_cons_self ..)).cell
                clear hw3 q0 q1 q2 HA2 hV2
                go_wp2_with (first
                  | (go_at_call 71; (with_reducible refine (HC.out.wsB _ (by have := HLen.out; first | (simp; omega) | (simp [bs_data]; omega) | (simp [bs_data, ByteArray.data_append]; omega))).mono ?_); rintro e X1 ⟨rfl, hw2, hz2⟩; clear cD; have cD := (hw2.blk (List.mem_cons_self ..)).cell; replace HC := Lib.hid hw2; clear hw2 hz2))
                have HFin := Lib.hid (show SW b w0 w [(wo.heap.size, 41, #[.bool false, .string (bs hd), .slice (some ⟨b3, off3, none⟩) ds.length c1, .slice A2 sub.length c2])] (o ++ pt ++ dShows (ds.take (j + 1))) X1 by rw [HStp.out]; have := HC.out.drop; simpa [dShow, impW, bs_data] using this)
                go_roundw
                case rel => exact ⟨j + 1, by omega, by go_num, HFin.out⟩
                case measure => simp [intOf]; omega
            · obtain rfl : j = ds.length := by omega
              rw [List.take_length] at HWj hwj
              have HP := Lib.hid (show ShowPre b (o ++ pt ++ dShows ds) (.slice A2 sub.length c2) sub w0 wp from ⟨HSub.out, hwj.2.1, hwj.1, hwj.2.2.2.2.1, by have := HOl.out; simp only [List.length_append]; omega⟩)
              have hF1 : (showF (o ++ pt ++ dShows ds) sub).length + 2 + (showG (rs.drop (k + 1))).length ≤ 100000000 := by
                have h1 := showF_len sub (o ++ pt ++ dShows ds)
                have h2 := HOl.out
                simp only [List.length_append, List.length_cons, List.length_nil] at h1 h2
                omega
              have cR := (hwj.blk (List.mem_cons_self ..)).cell
              clear hwj
              go_wp2_with (first
                | (go_at_call 34; (with_reducible refine (IH.out sub HF.out b _ _ w0 _ HP.out).mono ?_); rintro e X2 ⟨rfl, i1, i2, i3, i4⟩; clear cR; have HC := Lib.hid (HWj.out.call i1 i2 i3 i4); have cR := (HC.out.blk (List.mem_cons_self ..)).cell; clear i1 i2 i3 i4)
                | (go_at_call 71; (with_reducible refine (HC.out.wsB _ (by have e : (⟨#[125, 10]⟩ : ByteArray).data.toList.length = 2 := rfl; omega)).mono ?_); rintro e X1 ⟨rfl, hw2, hz2⟩; clear cR; have cR := (hw2.blk (List.mem_cons_self ..)).cell; replace HC := Lib.hid hw2; clear hw2 hz2))
              go_roundw
              case rel => exact ⟨k + 1, showF (o ++ pt ++ dShows ds) sub ++ [125, 10], by omega, by go_num, Hrest.out, by simp only [List.length_append, List.length_cons, List.length_nil]; omega, by have := HC.out.drop; simpa using this⟩
              case measure => simp [intOf]; omega
        · go_wp2_with (first
            | (go_at_call 35; (with_reducible refine (HC.out.len).mono ?_); rintro e X1 ⟨rfl, rfl⟩)
            | (go_at_call 71; (with_reducible refine (HC.out.wsB _ (by first | (simp; done) | (simp; omega) | (simp [bs_data]; done) | (simp [bs_data]; omega))).mono ?_); rintro e X1 ⟨rfl, hw2, hz2⟩; clear cR; have cR := (hw2.blk (List.mem_cons_self ..)).cell; replace HC := Lib.hid hw2; clear hw2 hz2))
          have HC0 := Lib.hid (show SW b w0 w [(wo.heap.size, 41, #[.bool true, .string (bs []), .slice A1 ds.length c1, .slice A2 sub.length c2])] (o ++ preT true []) X1 by have := HC.out; simpa [preT, mediaT, bs_data] using this)
          clear HC
          generalize preT true [] = pt at *
          go_loopw [35] (fun i wr2 => ∃ j : Nat, j ≤ ds.length ∧ i = .int .i64 j ∧ SW b w0 w [(wo.heap.size, 41, #[.bool true, .string (bs []), .slice A1 ds.length c1, .slice A2 sub.length c2])] (o ++ pt ++ dShows (ds.take j)) wr2) (fun i _ => ds.length - (intOf i).toNat)
          case atStart => exact ⟨0, by omega, rfl, by simpa [dShows] using HC0.out⟩
          case round =>
            obtain ⟨j, hj, rfl, hwj⟩ := hrel
            obtain ⟨wp, hwp⟩ : ∃ wp, wp = wr := ⟨_, rfl⟩
            subst hwp
            have HWj := Lib.hid hwj
            by_cases hjt : j < ds.length
            · have hjt' : (j : Int) < (ds.length : Int) := by omega
              obtain ⟨b3, off3, d, rfl, hb3, hg3, q0, q1, q2⟩ := DRd.tok (HD.out.keep hwj.2.1 hwj.2.1.size) hjt
              have HStp := Lib.hid (dShows_step hg3)
              have hpt2 := dShows_part (L := ds) (j + 1)
              rw [HStp.out, List.length_append] at hpt2
              have hdl2 : (dShow d).length = d.name.length + d.val.length + 4 + (if d.imp then 11 else 0) := by
                unfold dShow
                split <;> simp [impW] <;> omega
              have HA2 := Lib.hid (fun (cs : Array Value) => hwj.alloc cs 65 (by decide))
              obtain ⟨dn, dv, di⟩ := d
              simp only at q0 q1 q2 hdl2
              have hX : (dShows (ds.take j)).length + dn.length + dv.length + 15 ≤ 100000100 := by have := HOl.out; split at hdl2 <;> omega
              have HLen := Lib.hid (show o.length + pt.length + (dShows (ds.take j)).length + dn.length + dv.length ≤ 300000000 by have := HBd.out; omega)
              have x1 : (bs dn).size = dn.length := rfl
              have x2 : (bs dv).size = dv.length := rfl
              have z1 : ¬ 9223372036854775807 < (bs dn).size + 2 := by omega
              have z2 : ¬ 9223372036854775807 < (bs dn).size + 2 + (bs dv).size := by omega
              replace hg3 := Lib.hid hg3
              have hjk : (j : Int) ≤ 1000000 := by omega
              clear hpt2 hdl2 hX x1 x2 hwj
              cases di
              · go_wp2_with fail
                have hw3 := HA2.out #[.string (bs dn), .string (bs dv), .bool false]
                generalize hV2 : wp.alloc (.cells #[.string (bs dn), .string (bs dv), .bool false] 65) = V2 at *
                have HC := Lib.hid hw3
                have cD := (hw3.blk (List.mem_cons_self ..)).cell
                clear hw3 q0 q1 q2 HA2 hV2
                go_wp2_with (first
                  | (go_at_call 71; (with_reducible refine (HC.out.wsB _ (by have := HLen.out; first | (simp; omega) | (simp [bs_data]; omega) | (simp [bs_data, ByteArray.data_append]; omega))).mono ?_); rintro e X1 ⟨rfl, hw2, hz2⟩; clear cD; have cD := (hw2.blk (List.mem_cons_self ..)).cell; replace HC := Lib.hid hw2; clear hw2 hz2))
                have HFin := Lib.hid (show SW b w0 w [(wo.heap.size, 41, #[.bool true, .string (bs []), .slice (some ⟨b3, off3, none⟩) ds.length c1, .slice A2 sub.length c2])] (o ++ pt ++ dShows (ds.take (j + 1))) X1 by rw [HStp.out]; have := HC.out.drop; simpa [dShow, impW, bs_data] using this)
                go_roundw
                case rel => exact ⟨j + 1, by omega, by go_num, HFin.out⟩
                case measure => simp [intOf]; omega
              · go_wp2_with fail
                have hw3 := HA2.out #[.string (bs dn), .string (bs dv), .bool true]
                generalize hV2 : wp.alloc (.cells #[.string (bs dn), .string (bs dv), .bool true] 65) = V2 at *
                have HC := Lib.hid hw3
                have cD := (hw3.blk (List.mem_cons_self ..)).cell
                clear hw3 q0 q1 q2 HA2 hV2
                go_wp2_with (first
                  | (go_at_call 71; (with_reducible refine (HC.out.wsB _ (by have := HLen.out; first | (simp; omega) | (simp [bs_data]; omega) | (simp [bs_data, ByteArray.data_append]; omega))).mono ?_); rintro e X1 ⟨rfl, hw2, hz2⟩; clear cD; have cD := (hw2.blk (List.mem_cons_self ..)).cell; replace HC := Lib.hid hw2; clear hw2 hz2))
                have HFin := Lib.hid (show SW b w0 w [(wo.heap.size, 41, #[.bool true, .string (bs []), .slice (some ⟨b3, off3, none⟩) ds.length c1, .slice A2 sub.length c2])] (o ++ pt ++ dShows (ds.take (j + 1))) X1 by rw [HStp.out]; have := HC.out.drop; simpa [dShow, impW, bs_data] using this)
                go_roundw
                case rel => exact ⟨j + 1, by omega, by go_num, HFin.out⟩
                case measure => simp [intOf]; omega
            · obtain rfl : j = ds.length := by omega
              rw [List.take_length] at HWj hwj
              have HP := Lib.hid (show ShowPre b (o ++ pt ++ dShows ds) (.slice A2 sub.length c2) sub w0 wp from ⟨HSub.out, hwj.2.1, hwj.1, hwj.2.2.2.2.1, by have := HOl.out; simp only [List.length_append]; omega⟩)
              have hF1 : (showF (o ++ pt ++ dShows ds) sub).length + 2 + (showG (rs.drop (k + 1))).length ≤ 100000000 := by
                have h1 := showF_len sub (o ++ pt ++ dShows ds)
                have h2 := HOl.out
                simp only [List.length_append, List.length_cons, List.length_nil] at h1 h2
                omega
              have cR := (hwj.blk (List.mem_cons_self ..)).cell
              clear hwj
              go_wp2_with (first
                | (go_at_call 34; (with_reducible refine (IH.out sub HF.out b _ _ w0 _ HP.out).mono ?_); rintro e X2 ⟨rfl, i1, i2, i3, i4⟩; clear cR; have HC := Lib.hid (HWj.out.call i1 i2 i3 i4); have cR := (HC.out.blk (List.mem_cons_self ..)).cell; clear i1 i2 i3 i4)
                | (go_at_call 71; (with_reducible refine (HC.out.wsB _ (by have e : (⟨#[125, 10]⟩ : ByteArray).data.toList.length = 2 := rfl; omega)).mono ?_); rintro e X1 ⟨rfl, hw2, hz2⟩; clear cR; have cR := (hw2.blk (List.mem_cons_self ..)).cell; replace HC := Lib.hid hw2; clear hw2 hz2))
              go_roundw
              case rel => exact ⟨k + 1, showF (o ++ pt ++ dShows ds) sub ++ [125, 10], by omega, by go_num, Hrest.out, by simp only [List.length_append, List.length_cons, List.length_nil]; omega, by have := HC.out.drop; simpa using this⟩
              case measure => simp [intOf]; omega
        · replace hnil := Lib.hid hnil
          go_wp2_with (first
            | (go_at_call 35; (with_reducible refine (HC.out.len).mono ?_); rintro e X1 ⟨rfl, rfl⟩)
            | (go_at_call 71; (with_reducible refine (HC.out.wsB _ (by first | (simp; done) | (simp; omega) | (simp [bs_data]; done) | (simp [bs_data]; omega))).mono ?_); rintro e X1 ⟨rfl, hw2, hz2⟩; clear cR; have cR := (hw2.blk (List.mem_cons_self ..)).cell; replace HC := Lib.hid hw2; clear hw2 hz2)
            | (go_at_call 72; (with_reducible refine (HC.out.wb (by first | (simp; omega) | (simp [bs_data]; omega))).mono ?_); rintro e X1 ⟨rfl, hw2, hz2⟩; clear cR; have cR := (hw2.blk (List.mem_cons_self ..)).cell; replace HC := Lib.hid hw2; clear hw2 hz2))
          have HC0 := Lib.hid (show SW b w0 w [(wo.heap.size, 41, #[.bool true, .string (bs hd), .slice A1 ds.length c1, .slice A2 sub.length c2])] (o ++ preT true hd) X1 by have := HC.out; simpa [preT, mediaT, bs_data, hnil.out] using this)
          clear HC
          generalize preT true hd = pt at *
          go_loopw [35] (fun i wr2 => ∃ j : Nat, j ≤ ds.length ∧ i = .int .i64 j ∧ SW b w0 w [(wo.heap.size, 41, #[.bool true, .string (bs hd), .slice A1 ds.length c1, .slice A2 sub.length c2])] (o ++ pt ++ dShows (ds.take j)) wr2) (fun i _ => ds.length - (intOf i).toNat)
          case atStart => exact ⟨0, by omega, rfl, by simpa [dShows] using HC0.out⟩
          case round =>
            obtain ⟨j, hj, rfl, hwj⟩ := hrel
            obtain ⟨wp, hwp⟩ : ∃ wp, wp = wr := ⟨_, rfl⟩
            subst hwp
            have HWj := Lib.hid hwj
            by_cases hjt : j < ds.length
            · have hjt' : (j : Int) < (ds.length : Int) := by omega
              obtain ⟨b3, off3, d, rfl, hb3, hg3, q0, q1, q2⟩ := DRd.tok (HD.out.keep hwj.2.1 hwj.2.1.size) hjt
              have HStp := Lib.hid (dShows_step hg3)
              have hpt2 := dShows_part (L := ds) (j + 1)
              rw [HStp.out, List.length_append] at hpt2
              have hdl2 : (dShow d).length = d.name.length + d.val.length + 4 + (if d.imp then 11 else 0) := by
                unfold dShow
                split <;> simp [impW] <;> omega
              have HA2 := Lib.hid (fun (cs : Array Value) => hwj.alloc cs 65 (by decide))
              obtain ⟨dn, dv, di⟩ := d
              simp only at q0 q1 q2 hdl2
              have hX : (dShows (ds.take j)).length + dn.length + dv.length + 15 ≤ 100000100 := by have := HOl.out; split at hdl2 <;> omega
              have HLen := Lib.hid (show o.length + pt.length + (dShows (ds.take j)).length + dn.length + dv.length ≤ 300000000 by have := HBd.out; omega)
              have x1 : (bs dn).size = dn.length := rfl
              have x2 : (bs dv).size = dv.length := rfl
              have z1 : ¬ 9223372036854775807 < (bs dn).size + 2 := by omega
              have z2 : ¬ 9223372036854775807 < (bs dn).size + 2 + (bs dv).size := by omega
              replace hg3 := Lib.hid hg3
              have hjk : (j : Int) ≤ 1000000 := by omega
              clear hpt2 hdl2 hX x1 x2 hwj
              cases di
              · go_wp2_with fail
                have hw3 := HA2.out #[.string (bs dn), .string (bs dv), .bool false]
                generalize hV2 : wp.alloc (.cells #[.string (bs dn), .string (bs dv), .bool false] 65) = V2 at *
                have HC := Lib.hid hw3
                have cD := (hw3.blk (List.mem_cons_self ..)).cell
                clear hw3 q0 q1 q2 HA2 hV2
                go_wp2_with (first
                  | (go_at_call 71; (with_reducible refine (HC.out.wsB _ (by have := HLen.out; first | (simp; omega) | (simp [bs_data]; omega) | (simp [bs_data, ByteArray.data_append]; omega))).mono ?_); rintro e X1 ⟨rfl, hw2, hz2⟩; clear cD; have cD := (hw2.blk (List.mem_cons_self ..)).cell; replace HC := Lib.hid hw2; clear hw2 hz2))
                have HFin := Lib.hid (show SW b w0 w [(wo.heap.size, 41, #[.bool true, .string (bs hd), .slice (some ⟨b3, off3, none⟩) ds.length c1, .slice A2 sub.length c2])] (o ++ pt ++ dShows (ds.take (j + 1))) X1 by rw [HStp.out]; have := HC.out.drop; simpa [dShow, impW, bs_data] using this)
                go_roundw
                case rel => exact ⟨j + 1, by omega, by go_num, HFin.out⟩
                case measure => simp [intOf]; omega
              · go_wp2_with fail
                have hw3 := HA2.out #[.string (bs dn), .string (bs dv), .bool true]
                generalize hV2 : wp.alloc (.cells #[.string (bs dn), .string (bs dv), .bool true] 65) = V2 at *
                have HC := Lib.hid hw3
                have cD := (hw3.blk (List.mem_cons_self ..)).cell
                clear hw3 q0 q1 q2 HA2 hV2
                go_wp2_with (first
                  | (go_at_call 71; (with_reducible refine (HC.out.wsB _ (by have := HLen.out; first | (simp; omega) | (simp [bs_data]; omega) | (simp [bs_data, ByteArray.data_append]; omega))).mono ?_); rintro e X1 ⟨rfl, hw2, hz2⟩; clear cD; have cD := (hw2.blk (List.mem_cons_self ..)).cell; replace HC := Lib.hid hw2; clear hw2 hz2))
                have HFin := Lib.hid (show SW b w0 w [(wo.heap.size, 41, #[.bool true, .string (bs hd), .slice (some ⟨b3, off3, none⟩) ds.length c1, .slice A2 sub.length c2])] (o ++ pt ++ dShows (ds.take (j + 1))) X1 by rw [HStp.out]; have := HC.out.drop; simpa [dShow, impW, bs_data] using this)
                go_roundw
                case rel => exact ⟨j + 1, by omega, by go_num, HFin.out⟩
                case measure => simp [intOf]; omega
            · obtain rfl : j = ds.length := by omega
              rw [List.take_length] at HWj hwj
              have HP := Lib.hid (show ShowPre b (o ++ pt ++ dShows ds) (.slice A2 sub.length c2) sub w0 wp from ⟨HSub.out, hwj.2.1, hwj.1, hwj.2.2.2.2.1, by have := HOl.out; simp only [List.length_append]; omega⟩)
              have hF1 : (showF (o ++ pt ++ dShows ds) sub).length + 2 + (showG (rs.drop (k + 1))).length ≤ 100000000 := by
                have h1 := showF_len sub (o ++ pt ++ dShows ds)
                have h2 := HOl.out
                simp only [List.length_append, List.length_cons, List.length_nil] at h1 h2
                omega
              have cR := (hwj.blk (List.mem_cons_self ..)).cell
              clear hwj
              go_wp2_with (first
                | (go_at_call 34; (with_reducible refine (IH.out sub HF.out b _ _ w0 _ HP.out).mono ?_); rintro e X2 ⟨rfl, i1, i2, i3, i4⟩; clear cR; have HC := Lib.hid (HWj.out.call i1 i2 i3 i4); have cR := (HC.out.blk (List.mem_cons_self ..)).cell; clear i1 i2 i3 i4)
                | (go_at_call 71; (with_reducible refine (HC.out.wsB _ (by have e : (⟨#[125, 10]⟩ : ByteArray).data.toList.length = 2 := rfl; omega)).mono ?_); rintro e X1 ⟨rfl, hw2, hz2⟩; clear cR; have cR := (hw2.blk (List.mem_cons_self ..)).cell; replace HC := Lib.hid hw2; clear hw2 hz2))
              go_roundw
              case rel => exact ⟨k + 1, showF (o ++ pt ++ dShows ds) sub ++ [125, 10], by omega, by go_num, Hrest.out, by simp only [List.length_append, List.length_cons, List.length_nil]; omega, by have := HC.out.drop; simpa using this⟩
              case measure => simp [intOf]; omega
    · obtain rfl : k = rs.length := by omega
      have hfin : R = o := by rw [← hrest, List.drop_length, showF]
      subst hfin
      go_wp2
      refine bodyPost_ret (v := .tuple #[]) (by simp [results, Tryd.results34, go_sem]) rfl ?_
      exact ⟨rfl, hw.1, hw.2.1, hw.2.2.1, show_grow hw⟩

end Go.Proofs.YtaihncbejhnceaaDoor.rul

namespace Go.Proofs.YtaihncbejhnceaaDoor.rul
open Go.RowKit Go.Proofs.YtaihncbejhnceaaDoor.base Go.Proofs.YtaihncbejhnceaaDoor.tok
set_option linter.unusedVariables false

set_option maxRecDepth 100000 in
set_option maxHeartbeats 4000000 in
theorem equal_ct (A1 A2 : Option Addr) (n1 n2 c1 c2 : Nat) (L1 L2 : List Dc) (w : World) (hn : n1 ≤ maxLen) (hn2 : n2 ≤ maxLen) (h1 : DRd w w.heap.size A1 n1 L1) (h2 : DRd w w.heap.size A2 n2 L2) :
    Calls Tryd.prog 75 #[.slice A1 n1 c1, .slice A2 n2 c2] w fun e w' => e = .returned (.bool (decide (L1 = L2))) ∧ ∃ m, w' = w.drewN m := by
  have H1 := Lib.hid h1
  have H2 := Lib.hid h2
  have l1 := Lib.hid h1.1
  have l2 := Lib.hid h2.1
  unfold maxLen at hn hn2
  clear h1 h2
  by_cases hne : n1 = n2
  · subst hne
    go_enter Tryd.func75, Tryd.ntmps75
    go_wp2_with fail
    go_loopw [13] (fun i wr => ∃ k : Nat, k ≤ n1 ∧ i = .int .i64 k ∧ L1.take k = L2.take k ∧ ∃ m, wr = w.drewN m) (fun i _ => n1 - (intOf i).toNat)
    case atStart => exact ⟨0, by omega, rfl, by simp, 0, rfl⟩
    case round =>
      obtain ⟨k, hk, rfl, heq, m0, rfl⟩ := hrel
      replace heq := Lib.hid heq
      by_cases hlt : k < n1
      · have hlt' : (k : Int) < (n1 : Int) := by omega
        obtain ⟨b, off, t, rfl, hb, hd, e0, e1, e2⟩ := DRd.tok H1.out hlt
        obtain ⟨b2, off2, u, rfl, hb2, hd2, f0, f1, f2⟩ := DRd.tok H2.out hlt
        replace hd := Lib.hid hd
        replace hd2 := Lib.hid hd2
        by_cases htu : t = u
        · have keq : ∀ W : World, (binOp .neq 65 (.agg #[.string (bs t.name), .string (bs t.val), .bool t.imp]) (.agg #[.string (bs u.name), .string (bs u.val), .bool u.imp])).run Tryd.prog W = .ok (.bool false) W := fun W => by rw [run_ne_dc t u W, decide_eq_false (by simp [htu])]
          replace htu := Lib.hid htu
          go_wp2_with fail
          go_quiet (fail)
          go_wp2
          go_roundw
          case rel =>
            refine ⟨k + 1, by omega, by go_num, ?_, _, rfl⟩
            obtain ⟨p1, p2⟩ := List.getElem?_eq_some_iff.1 hd.out
            obtain ⟨q1, q2⟩ := List.getElem?_eq_some_iff.1 hd2.out
            rw [List.take_succ_eq_append_getElem p1, List.take_succ_eq_append_getElem q1, p2, q2, heq.out, htu.out]
          case measure => simp [intOf]; omega
        · have keq : ∀ W : World, (binOp .neq 65 (.agg #[.string (bs t.name), .string (bs t.val), .bool t.imp]) (.agg #[.string (bs u.name), .string (bs u.val), .bool u.imp])).run Tryd.prog W = .ok (.bool true) W := fun W => by rw [run_ne_dc t u W, decide_eq_true htu]
          have hno : ¬ L1 = L2 := fun e => by
            rw [e, hd2.out] at hd
            exact htu (Option.some.inj hd.out).symm
          replace htu := Lib.hid htu
          replace hno := Lib.hid hno
          go_wp2_with fail
          go_quiet (fail)
          go_wp2
          go_ret
          exact ⟨ret_b (decide_eq_false hno.out).symm, _, by rw [World.drewN_drewN]⟩
      · obtain rfl : k = n1 := by omega
        have hyes : L1 = L2 := by
          have := heq.out
          rwa [List.take_of_length_le (by rw [l1.out]; exact Nat.le_refl _), List.take_of_length_le (by rw [l2.out]; exact Nat.le_refl _)] at this
        replace hyes := Lib.hid hyes
        go_wp2
        go_ret
        exact ⟨ret_b (decide_eq_true hyes.out).symm, _, rfl⟩
  · have hno : ¬ L1 = L2 := fun e => hne (by rw [← l1.out, ← l2.out, e])
    have hni : ((n1 : Int) != (n2 : Int)) = true := by simp; omega
    replace hno := Lib.hid hno
    replace hne := Lib.hid hne
    go_enter Tryd.func75, Tryd.ntmps75
    go_wp2
    go_ret
    exact ⟨ret_b (decide_eq_false hno.out).symm, 0, rfl⟩


/-- what lies in memory of a rule -/
def RuleIn (w : World) (vs : Array Value) (r : Rl) : Prop := ∃ m hd ds sub A1 c1 A2 c2, r = .mk m hd ds sub ∧ vs = #[.bool m, .string (bs hd), .slice A1 ds.length c1, .slice A2 sub.length c2] ∧ DRd w w.heap.size A1 ds.length ds ∧ RSl w (.slice A2 sub.length c2) sub
theorem RuleIn.on {w w' : World} {vs : Array Value} {r : Rl} (h : RuleIn w vs r) (hb : Below w.heap.size w w') : RuleIn w' vs r := by
  obtain ⟨m, hd, ds, sub, A1, c1, A2, c2, h1, h2, h3, h4⟩ := h
  exact ⟨m, hd, ds, sub, A1, c1, A2, c2, h1, h2, h3.keep hb hb.size, h4.on hb⟩

set_option maxRecDepth 100000 in
set_option maxHeartbeats 4000000 in
theorem clo_ct (m m' : Bool) (hd hd' : Bs) (ds ds' : List Dc) (sub sub' : List Rl) (A1 A2 A3 A4 : Option Addr) (c1 c2 c3 c4 : Nat) (w : World) (hl : ds.length ≤ 1000000) (hl' : ds'.length ≤ 1000000)
    (d1 : DRd w w.heap.size A1 ds.length ds) (d2 : DRd w w.heap.size A3 ds'.length ds') (s1 : RSl w (.slice A2 sub.length c2) sub) (s2 : RSl w (.slice A4 sub'.length c4) sub')
    (hIH : ∀ v1 v2 w, RSl w v1 sub → RSl w v2 sub' → Calls Tryd.prog 37 #[v1, v2] w fun e w' => e = .returned (.bool (sameG sub sub')) ∧ Below w.heap.size w w') :
    Calls Tryd.prog 74 #[.agg #[.bool m, .string (bs hd), .slice A1 ds.length c1, .slice A2 sub.length c2], .agg #[.bool m', .string (bs hd'), .slice A3 ds'.length c3, .slice A4 sub'.length c4]] w fun e w' => e = .returned (.bool (sameR (.mk m hd ds sub) (.mk m' hd' ds' sub'))) ∧ Below w.heap.size w w' := by
  have cE := fun (W : World) (hb : Below w.heap.size w W) => equal_ct A1 A3 ds.length ds'.length c1 c3 ds ds' W (by unfold maxLen; omega) (by unfold maxLen; omega) (d1.keep hb hb.size) (d2.keep hb hb.size)
  have cS := fun (W : World) (hb : Below w.heap.size w W) => hIH (.slice A2 sub.length c2) (.slice A4 sub'.length c4) W (s1.on hb) (s2.on hb)
  have HB := Lib.hid (fun (o1 o2 : Obj) => ((Below.refl w.heap.size w).alloc (Nat.le_refl _) o1).alloc (by simp) o2)
  simp only [sameR]
  generalize decide (ds = ds') = q1 at *
  generalize sameG sub sub' = q2 at *
  replace cE := Lib.hid cE
  replace cS := Lib.hid cS
  clear d1 d2 s1 s2 hIH hl hl'
  by_cases hm : m = m'
  · subst hm
    have hmt : (m == m) = true := by simp
    by_cases hh : hd = hd'
    · subst hh
      rw [hmt, decide_eq_true rfl]
      simp only [Bool.true_and]
      cases q1 with
      | false =>
        go_enter Tryd.func74, Tryd.ntmps74
        go_wp2_with ((go_at_call 75; (with_reducible refine (cE.out _ (HB.out _ _)).mono ?_); rintro e W1 ⟨rfl, n1, rfl⟩))
        go_ret
        exact ⟨rfl, below_drewN (HB.out _ _) n1⟩
      | true =>
        go_enter Tryd.func74, Tryd.ntmps74
        go_wp2_with (first
          | (go_at_call 75; (with_reducible refine (cE.out _ (HB.out _ _)).mono ?_); rintro e W1 ⟨rfl, n1, rfl⟩)
          | (go_at_call 37; (with_reducible refine (cS.out _ (below_drewN (HB.out _ _) n1)).mono ?_); rintro e W2 ⟨rfl, hb2⟩))
        go_ret
        exact ⟨by simp, (below_drewN (HB.out _ _) n1).trans (hb2.mono (by simp; omega))⟩
    · have hbs : ((bs hd).toList == (bs hd').toList) = false := by simpa [bs_toList] using hh
      rw [decide_eq_false hh]
      simp only [Bool.and_false, Bool.false_and]
      replace hh := Lib.hid hh
      go_enter Tryd.func74, Tryd.ntmps74
      go_wp2
      go_ret
      exact ⟨rfl, HB.out _ _⟩
  · have hmb : (m == m') = false := by simpa using hm
    rw [hmb]
    simp only [Bool.false_and]
    replace hm := Lib.hid hm
    go_enter Tryd.func74, Tryd.ntmps74
    go_wp2
    go_ret
    exact ⟨rfl, HB.out _ _⟩

end Go.Proofs.YtaihncbejhnceaaDoor.rul

namespace Go.Proofs.YtaihncbejhnceaaDoor.rul
open Go.RowKit Go.Proofs.YtaihncbejhnceaaDoor.base Go.Proofs.YtaihncbejhnceaaDoor.tok
set_option linter.unusedVariables false

set_option maxRecDepth 100000 in
set_option maxHeartbeats 4000000 in
theorem eqf_ct (L1 L2 : List Rl) (g : Nat) (eg : ∀ args w, (callFunc g args).run Tryd.prog w = .ok (.enter g args) w) (v1 v2 : Value) (w : World) (h1 : RSl w v1 L1) (h2 : RSl w v2 L2) (hn : L1.length ≤ 1000000) (hn2 : L2.length ≤ 1000000)
    (hp : ∀ (k : Nat) (r r' : Rl) (vs vs' : Array Value), L1[k]? = some r → L2[k]? = some r' → ∀ W, Below w.heap.size w W → RuleIn W vs r → RuleIn W vs' r' → Calls Tryd.prog g #[.agg vs, .agg vs'] W fun e w' => e = .returned (.bool (sameR r r')) ∧ Below W.heap.size W w') :
    Calls Tryd.prog 73 #[v1, v2, .func (.func g) #[] #[]] w fun e w' => e = .returned (.bool (sameG L1 L2)) ∧ Below w.heap.size w w' := by
  have HS1 := Lib.hid h1
  have HS2 := Lib.hid h2
  have HP := Lib.hid hp
  obtain ⟨A1, c1, rfl, g1, g2⟩ := h1
  obtain ⟨A2, c2, rfl, g3, g4⟩ := h2
  clear g2 g4 hp
  by_cases heq : L1.length = L2.length
  · generalize hR : sameG L1 L2 = R
    have HR := Lib.hid hR
    clear hR
    rw [← heq] at HS2 g3 ⊢
    replace heq := Lib.hid heq
    go_enter Tryd.func73, Tryd.ntmps73
    go_wp2_with fail
    go_loopw [17] (fun i wr => ∃ k : Nat, k ≤ L1.length ∧ i = .int .i64 k ∧ sameG (L1.drop k) (L2.drop k) = R ∧ Below w.heap.size w wr) (fun i _ => L1.length - (intOf i).toNat)
    case atStart => exact ⟨0, by omega, rfl, by simpa using HR.out, Below.refl _ _⟩
    case round =>
      obtain ⟨k, hk, rfl, hrest, hb⟩ := hrel
      obtain ⟨wo, hwo⟩ : ∃ wo, wo = wr := ⟨_, rfl⟩
      subst hwo
      have HBl := Lib.hid hb
      by_cases hlt : k < L1.length
      · have hlt' : (k : Int) < (L1.length : Int) := by omega
        have Z2 := HS2.out.on hb
        rw [heq.out] at Z2
        obtain ⟨b1, off1, m, hd, ds, sub, A3, c3, A4, c4, rfl, hb1, hg, e0, e1, e2, e3, hc1, hDa, hSub⟩ := (HS1.out.on hb).rule hlt
        obtain ⟨b2, off2, m', hd', ds', sub', A5, c5, A6, c6, rfl, hb2, hg', f0, f1, f2, f3, hc2, hDb, hSub'⟩ := Z2.rule (k := k) (by rw [← heq.out]; exact hlt)
        rw [sameG_drop hg hg'] at hrest
        have r1 : RuleIn wo #[.bool m, .string (bs hd), .slice A3 ds.length c3, .slice A4 sub.length c4] (.mk m hd ds sub) := ⟨m, hd, ds, sub, A3, c3, A4, c4, rfl, rfl, drd_of hDa, hSub⟩
        have r2 : RuleIn wo #[.bool m', .string (bs hd'), .slice A5 ds'.length c5, .slice A6 sub'.length c6] (.mk m' hd' ds' sub') := ⟨m', hd', ds', sub', A5, c5, A6, c6, rfl, rfl, drd_of hDb, hSub'⟩
        have HB2 := Lib.hid (fun (o1 o2 : Obj) => ((Below.refl wo.heap.size wo).alloc (Nat.le_refl _) o1).alloc (by simp) o2)
        have cP := fun (o1 o2 : Obj) => HP.out k _ _ _ _ hg hg' ((wo.alloc o1).alloc o2) (hb.trans ((HB2.out o1 o2).mono hb.size)) (r1.on (HB2.out o1 o2)) (r2.on (HB2.out o1 o2))
        have k0 : ∀ o, (wo.alloc o).cell? ⟨b2, off2 + k * 4, none⟩ = some (.bool m') := fun o => (((Below.refl wo.heap.size wo).alloc (Nat.le_refl _) o).cell (p := ⟨b2, _, none⟩) hb2).trans f0
        have k1 : ∀ o, (wo.alloc o).cell? ⟨b2, off2 + k * 4 + 1, none⟩ = some (.string (bs hd')) := fun o => (((Below.refl wo.heap.size wo).alloc (Nat.le_refl _) o).cell (p := ⟨b2, _, none⟩) hb2).trans f1
        have k2 : ∀ o, (wo.alloc o).cell? ⟨b2, off2 + k * 4 + 2, none⟩ = some (.slice A5 ds'.length c5) := fun o => (((Below.refl wo.heap.size wo).alloc (Nat.le_refl _) o).cell (p := ⟨b2, _, none⟩) hb2).trans f2
        have k3 : ∀ o, (wo.alloc o).cell? ⟨b2, off2 + k * 4 + 3, none⟩ = some (.slice A6 sub'.length c6) := fun o => (((Below.refl wo.heap.size wo).alloc (Nat.le_refl _) o).cell (p := ⟨b2, _, none⟩) hb2).trans f3
        generalize sameR (.mk m hd ds sub) (.mk m' hd' ds' sub') = q at *
        have HRest := Lib.hid hrest
        replace cP := Lib.hid cP
        replace hg := Lib.hid hg
        replace hg' := Lib.hid hg'
        clear Z2 hc1 hc2 hDa hDb hSub hSub' r1 r2 hrest hb f0 f1 f2 f3
        cases q with
        | false =>
          have hr : R = false := by have := HRest.out; simpa using this.symm
          subst hr
          go_wp2_with (first
            | (go_at_fn g; (with_reducible refine (cP.out _ _).mono ?_); rintro e W1 ⟨rfl, hb3⟩))
          go_ret
          exact ⟨rfl, HBl.out.trans (((HB2.out _ _).trans (hb3.mono (by simp; omega))).mono HBl.out.size)⟩
        | true =>
          go_wp2_with (first
            | (go_at_fn g; (with_reducible refine (cP.out _ _).mono ?_); rintro e W1 ⟨rfl, hb3⟩; have HB3 := Lib.hid (HBl.out.trans (((HB2.out _ _).trans (hb3.mono (by simp; omega))).mono HBl.out.size)); clear hb3))
          go_roundw
          case rel => exact ⟨k + 1, by omega, by go_num, by have := HRest.out; simpa using this, HB3.out⟩
          case measure => simp [intOf]; omega
      · obtain rfl : k = L1.length := by omega
        have hr : R = true := by have := hrest; rw [List.drop_eq_nil_of_le (Nat.le_refl _), List.drop_eq_nil_of_le (by rw [heq.out]; exact Nat.le_refl _), sameG] at this; exact this.symm
        subst hr
        go_wp2
        go_ret
        exact ⟨rfl, HBl.out⟩
  · have hni : ((L1.length : Int) != (L2.length : Int)) = true := by simp; omega
    rw [sameG_len L1 L2 heq]
    clear heq g1 g3
    go_enter Tryd.func73, Tryd.ntmps73
    go_wp2
    go_ret
    exact ⟨rfl, Below.refl _ _⟩

theorem enters_clo : ∀ args w, (callFunc 74 args).run Tryd.prog w = .ok (.enter 74 args) w := Go.Proofs.enters_of Tryd.func74 (by kernel_rfl) rfl

set_option maxRecDepth 100000 in
set_option maxHeartbeats 4000000 in
theorem same_step (L1 L2 : List Rl) (v1 v2 : Value) (w : World) (hf : Calls Tryd.prog 73 #[v1, v2, .func (.func 74) #[] #[]] w fun e w' => e = .returned (.bool (sameG L1 L2)) ∧ Below w.heap.size w w') :
    Calls Tryd.prog 37 #[v1, v2] w fun e w' => e = .returned (.bool (sameG L1 L2)) ∧ Below w.heap.size w w' := by
  have HF := Lib.hid hf
  clear hf
  go_enter Tryd.func37, Tryd.ntmps37
  go_wp2_with ((go_at_call 73; (with_reducible refine (HF.out).mono ?_); rintro e W1 ⟨rfl, hb1⟩))
  go_ret
  exact ⟨rfl, hb1⟩
theorem rules_same_ct : ∀ (n : Nat) (L1 L2 : List Rl), fullG L1 ≤ n → fullG L1 ≤ 1000000 → fullG L2 ≤ 1000000 → ∀ (v1 v2 : Value) (w : World), RSl w v1 L1 → RSl w v2 L2 →
    Calls Tryd.prog 37 #[v1, v2] w fun e w' => e = .returned (.bool (sameG L1 L2)) ∧ Below w.heap.size w w'
  | n, L1, L2, hn, h1, h2, v1, v2, w, r1, r2 => by
    refine same_step L1 L2 v1 v2 w (eqf_ct L1 L2 _ enters_clo v1 v2 w r1 r2 (Nat.le_trans (fullG_len L1) h1) (Nat.le_trans (fullG_len L2) h2) ?_)
    intro k r r' vs vs' hg hg' W hb hr hr'
    obtain ⟨m, hd, ds, sub, A1, c1, A2, c2, rfl, rfl, d1, s1⟩ := hr
    obtain ⟨m', hd', ds', sub', A3, c3, A4, c4, rfl, rfl, d2, s2⟩ := hr'
    obtain ⟨_, q1, _⟩ := fullG_drop L1 k _ hg
    obtain ⟨_, q2, _⟩ := fullG_drop L2 k _ hg'
    simp only [fullR] at q1 q2
    cases n with
    | zero => omega
    | succ n => exact clo_ct m m' hd hd' ds ds' sub sub' A1 A2 A3 A4 c1 c2 c3 c4 W (by omega) (by omega) d1 d2 s1 s2 (fun u1 u2 X x1 x2 => rules_same_ct n sub sub' (by omega) (by omega) (by omega) u1 u2 X x1 x2)

theorem show_ct : ∀ (n : Nat) (rs : List Rl), fullG rs ≤ n → fullG rs ≤ 1000000 → ∀ (b : Nat) (out : Bs) (v : Value) (w0 w : World), ShowPre b out v rs w0 w →
    Calls Tryd.prog 34 #[.pointer (some ⟨b, 0, none⟩), v] w fun e w' => ShowPost b w0 w (showF out rs) e w'
  | 0, rs, hn, h1, b, out, v, w0, w, hp => show_step rs h1 (fun sub hs => absurd hs (by omega)) b out v w0 w hp
  | n + 1, rs, hn, h1, b, out, v, w0, w, hp => show_step rs h1 (fun sub hs b out v w0 w hp => show_ct n sub (by omega) (by omega) b out v w0 w hp) b out v w0 w hp

theorem show_pre {w : World} {v : Value} {R : List Rl} (hv : RSl w v R) (hl : ([] : Bs).length + (showG R).length ≤ 100000000) : ShowPre w.heap.size [] v R w (w.alloc (.cells #[.pointer none, .slice none 0 0] 73)) := by
  exact ⟨hv, (Below.refl _ _).alloc (Nat.le_refl _) _, IsB.new w _ (Nat.le_refl _), by simp, hl⟩
/-- what Show tells of rules that were read -/
def ShowS (R : List Rl) : Bs := if 3000 < (showG R).length ∨ 3000 < (showF [] R).length then [] else showG R
def ShowE (R : List Rl) : Int := if 3000 < (showG R).length ∨ 3000 < (showF [] R).length then 2 else 0

set_option maxRecDepth 100000 in
set_option maxHeartbeats 4000000 in
theorem Show_ct (s : Bs) (R : List Rl) (hP : ParseP s = some R) (hf : fullG R ≤ 3000) (v : Value) (w : World) (hv : RSl w v R) (hF : FoldAt w) (hm : MaxL w) :
    Calls Tryd.prog 14 #[v] w fun e w' => e = .returned (.tuple #[.string (bs (ShowS R)), .int .i64 (ShowE R)]) ∧ Below w.heap.size w w' := by
  have hsm := show_small hP hf
  have hsh := rule_shown hP
  have hlen := showF_len R []
  simp only [List.length_nil, Nat.zero_add] at hlen
  have cSh := fun (b : Nat) (W : World) (hp : ShowPre b [] v R w W) => show_ct 3000 R hf (by omega) b [] v w W hp
  have HV := Lib.hid hv
  have HF := Lib.hid hF
  have HM := Lib.hid hm
  have hor := showF_or R []
  rw [List.nil_append] at hor
  unfold ShowS ShowE
  by_cases hbig : 3000 < (showF [] R).length
  · have hbi : (3000 : Int) < ((showF [] R).length : Int) := by omega
    rw [if_pos (.inr hbig), if_pos (.inr hbig)]
    generalize showF [] R = O at *
    have HPre := Lib.hid (show_pre hv (show ([] : Bs).length + (showG R).length ≤ 100000000 by simp only [List.length_nil]; omega))
    replace cSh := Lib.hid cSh
    clear hv hF hm hsh hor hlen hsm hP hf hbig
    go_enter Tryd.func14, Tryd.ntmps14
    go_wp2_with (first
      | (go_at_call 34; (with_reducible refine (cSh.out _ _ HPre.out).mono ?_); rintro e X1 ⟨rfl, i1, i2, i3, i4⟩; have HI := Lib.hid i1; have HB := Lib.hid i2; clear i1 i2 i3 i4)
      | (go_at_call 35; (with_reducible refine (len_ct _ _ _ _ HI.out).mono ?_); rintro e X2 ⟨rfl, rfl⟩))
    go_ret2
    exact ⟨rfl, HB.out⟩
  · have hbi : ¬ (3000 : Int) < ((showF [] R).length : Int) := by omega
    have he : showF [] R = showG R := hor.resolve_right hbig
    rw [he] at hbig hbi
    rw [if_neg (by rw [he]; omega), if_neg (by rw [he]; omega)]
    rw [if_neg hbig] at hsh
    simp only [he] at cSh
    have cP := fun W hF hm => Parse_all (showG R) W hF hm
    rw [show parseL (showG R) = R by unfold parseL; rw [hsh]; rfl, show parseE (showG R) = 0 by unfold parseE; rw [hsh]; rfl] at cP
    have cS := fun u1 u2 W (h1 : RSl W u1 R) (h2 : RSl W u2 R) => rules_same_ct 3000 R R hf (by omega) (by omega) u1 u2 W h1 h2
    rw [sameG_refl] at cS
    have HPre := Lib.hid (show_pre hv (show ([] : Bs).length + (showG R).length ≤ 100000000 by simp only [List.length_nil]; omega))
    generalize showG R = O at *
    replace cSh := Lib.hid cSh
    replace cP := Lib.hid cP
    replace cS := Lib.hid cS
    clear hv hF hm hsh hor hlen hsm hP hf hbig he
    go_enter Tryd.func14, Tryd.ntmps14
    go_wp2_with (first
      | (go_at_call 34; (with_reducible refine (cSh.out _ _ HPre.out).mono ?_); rintro e X1 ⟨rfl, i1, i2, i3, i4⟩; have HI := Lib.hid i1; have HB := Lib.hid i2; clear i1 i2 i3 i4)
      | (go_at_call 35; (with_reducible refine (len_ct _ _ _ _ HI.out).mono ?_); rintro e X2 ⟨rfl, rfl⟩)
      | (go_at_call 36; (with_reducible refine (bf_str _ _ _ _ (Lib.IsBuilderF.of HI.out) HB.out.size).mono ?_); rintro e X2 ⟨rfl, hi2, hb2⟩; have HB2 := Lib.hid (HB.out.trans hb2); have HI2 := Lib.hid hi2; clear hb2 hi2)
      | (go_at_call 13; (with_reducible refine (cP.out _ (HF.out.on HB2.out) (HM.out.on HB2.out HM.out.lt)).mono ?_); rintro e X3 ⟨⟨A3, c3, rfl, hg3, hf3⟩, hb3⟩; have HB3 := Lib.hid (HB2.out.trans (hb3.mono HB2.out.size)); have HI3 := Lib.hid (bf_on HI2.out hb3); have HR3 := Lib.hid (RS.sl hg3.rs); clear hb3 hg3 hf3)
      | (go_at_call 37; (with_reducible refine (cS.out _ _ _ HR3.out (HV.out.on HB3.out)).mono ?_); rintro e X4 ⟨rfl, hb4⟩; have HB4 := Lib.hid (HB3.out.trans (hb4.mono HB3.out.size)); have HI4 := Lib.hid (bf_on HI3.out hb4); clear hb4)
      | (go_at_call 36; (with_reducible refine (bf_str _ _ _ _ HI4.out HB4.out.size).mono ?_); rintro e X5 ⟨rfl, hi5, hb5⟩; have HB5 := Lib.hid (HB4.out.trans hb5)))
    go_ret2
    exact ⟨rfl, HB5.out⟩

end Go.Proofs.YtaihncbejhnceaaDoor.rul
