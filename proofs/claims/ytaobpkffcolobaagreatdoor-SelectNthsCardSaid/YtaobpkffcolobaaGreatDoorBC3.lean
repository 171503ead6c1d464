/- Contracts and plain law, a bundle: Rul0 Rul1 Rul2 Rul3 Rul4 Rul6 Fold0 Fold Rul7 RulL0. -/
import Derived.Shelf.Abstract
import Derived.Lib.LaidTab
import Derived.Lib.Fold
import Derived.ScopeJumps
import Derived.WalkMore
import Derived.Laws.RangeAny
import Derived.Lib.OthersKept
import Derived.Deep.LoopGhost
import Derived.Test.YtaobpkffcolobaaGreatDoorBC
import Derived.Test.YtaobpkffcolobaaGreatDoorBA

namespace Go.Proofs.YtaobpkffcolobaaGreatDoor.rul
open Go.RowKit Go.Proofs.YtaobpkffcolobaaGreatDoor.base Go.Proofs.YtaobpkffcolobaaGreatDoor.tok
set_option linter.unusedVariables false

def silP (t : Tk) : Bool := decide (t.k = 8) || decide (t.k = 9)
def opensP (t : Tk) : Bool := decide (t.k = 10) || decide (t.k = 2)
def rawP (t : Tk) (k : Int) (s : Bs) : Bool := decide (t.k = k) && decide (t.raw = s)
def semiP (t : Tk) : Bool := rawP t 12 [59]
def colonP (t : Tk) : Bool := rawP t 12 [58]
def markP (t : Tk) : Bool := rawP t 12 [33]
def braceP (t : Tk) : Bool := rawP t 10 [123]
def badP (t : Tk) : Bool := decide (t.k = 6)
def closerP (r : Bs) : Bs := if r.getLast? = some 91 then [93] else if r.getLast? = some 123 then [125] else [41]

/-- one that is asked of a token's kind: it is one of two -/
abbrev Asks (f : FuncId) (p : Tk → Bool) : Prop := ∀ (t : Tk) (w : World), Calls Tryz.prog f #[.agg t.cells] w fun e w' => e = .returned (.bool (p t)) ∧ Below w.heap.size w w'

theorem last_at {r : Bs} (h : r ≠ []) : ∃ hlt : (bs r).size - 1 < (bs r).size, r.getLast? = some ((bs r)[(bs r).size - 1]'hlt) := by
  have hp := List.length_pos_iff.2 h
  have h1 : (bs r).size - 1 < (bs r).size := by rw [bs_size]; omega
  refine ⟨h1, ?_⟩
  rw [List.getLast?_eq_some_getLast h, List.getLast_eq_getElem h]
  rfl
theorem byte_is {c : UInt8} {n : Nat} (hn : n < 256) : ((c.toNat : Int) == (n : Int)) = decide (c = UInt8.ofNat n) := by
  rw [Bool.eq_iff_iff]
  simp only [beq_iff_eq, decide_eq_true_eq]
  constructor
  · intro h
    apply UInt8.toNat_inj.1
    rw [UInt8.toNat_ofNat']
    omega
  · rintro rfl
    rw [UInt8.toNat_ofNat']
    omega

end Go.Proofs.YtaobpkffcolobaaGreatDoor.rul

namespace Go.Proofs.YtaobpkffcolobaaGreatDoor.rul
open Go.RowKit Go.Proofs.YtaobpkffcolobaaGreatDoor.base Go.Proofs.YtaobpkffcolobaaGreatDoor.tok
set_option linter.unusedVariables false

theorem add0 (a : Addr) : a.add 0 = a := rfl
/-- where a slice that is cut from i on begins -/
def addrAt (k : Nat) (A : Option Addr) (cap i : Nat) : Option Addr := if cap = i then A else A.map (·.add (i * k))
theorem addr_zero (k : Nat) (A : Option Addr) (cap : Nat) : addrAt k A cap 0 = A := by
  unfold addrAt
  split
  · rfl
  · rw [Nat.zero_mul]; cases A <;> rfl

section
variable {P : Program} {T e : TypeId} {k : Nat}
theorem slice_from (hT : P.underlying T = some (.slice e)) (hs : ∀ w, (sizeOf e).run P w = .ok k w) (A : Option Addr) (n cap : Nat) (i : Int) (h0 : 0 ≤ i) (h1 : i ≤ n) (w : World) :
    (Instr.slice T (.slice A n cap) (some (.int .i64 i)) none none).run P w = .ok (.slice (addrAt k A cap i.toNat) (n - i.toNat) (cap - i.toNat)) w := by
  simp [Instr.slice, Instr.sliceBounds, Instr.sliceBound, run_underlying hT, hs, asIntOf, h0, h1, go_sem, addrAt]
theorem slice_upto (hT : P.underlying T = some (.slice e)) (hs : ∀ w, (sizeOf e).run P w = .ok k w) (A : Option Addr) (n cap : Nat) (j : Int) (h0 : 0 ≤ j) (h1 : j ≤ cap) (w : World) :
    (Instr.slice T (.slice A n cap) none (some (.int .i64 j)) none).run P w = .ok (.slice A j.toNat cap) w := by
  simp [Instr.slice, Instr.sliceBounds, Instr.sliceBound, run_underlying hT, hs, asIntOf, h0, h1, go_sem]
theorem slice_both (hT : P.underlying T = some (.slice e)) (hs : ∀ w, (sizeOf e).run P w = .ok k w) (A : Option Addr) (n cap : Nat) (i j : Int) (h0 : 0 ≤ i) (h1 : i ≤ j) (h2 : j ≤ cap) (w : World) :
    (Instr.slice T (.slice A n cap) (some (.int .i64 i)) (some (.int .i64 j)) none).run P w = .ok (.slice (addrAt k A cap i.toNat) (j.toNat - i.toNat) (cap - i.toNat)) w := by
  have h3 : 0 ≤ j := by omega
  have h5 : ¬ max j 0 < i := by omega
  simp [Instr.slice, Instr.sliceBounds, Instr.sliceBound, run_underlying hT, hs, asIntOf, h2, h3, go_sem, addrAt]
  simp [h0, h5]
end

theorem rd_cut {α : Type} {k : Nat} {f : α → List Value} {w : World} {B : Nat} {A : Option Addr} {n cap i m : Nat} {L : List α} (h : Rd k f w B A n L) (hc : n ≤ cap) (hm : i + m ≤ n) : Rd k f w B (addrAt k A cap i) m ((L.drop i).take m) := by
  refine ⟨by rw [List.length_take, List.length_drop, h.1]; omega, fun h0 => ?_⟩
  obtain ⟨b, off, rfl, hlt, hx⟩ := h.2 (by omega)
  refine ⟨b, off + i * k, ?_, hlt, fun j d hd x hx2 => ?_⟩
  · unfold addrAt
    rw [if_neg (by omega)]
    simp only [Option.map_some, Option.some.injEq]
    unfold Addr.add
    split
    · rename_i hz; rw [hz]; rfl
    · rfl
  · have hj := (List.getElem?_eq_some_iff.1 hd).1
    rw [List.length_take, List.length_drop] at hj
    rw [List.getElem?_take_of_lt (by omega), List.getElem?_drop] at hd
    rw [← hx (i + j) d hd x hx2, Nat.add_mul]
    congr 2
    omega
theorem rd_from {α : Type} {k : Nat} {f : α → List Value} {w : World} {B : Nat} {A : Option Addr} {n cap i : Nat} {L : List α} (h : Rd k f w B A n L) (hc : n ≤ cap) (hi : i ≤ n) : Rd k f w B (addrAt k A cap i) (n - i) (L.drop i) := by
  have := rd_cut h (i := i) (m := n - i) hc (by omega)
  rwa [List.take_of_length_le (by rw [List.length_drop, h.1]; omega)] at this

/-! ### A stack of texts -/
abbrev strV (l : Bs) : Value := .string (bs l)
theorem infoS : (Tryz.prog.info? 9).map (fun i => (i.zero, i.size, i.bytes)) = some (some (.string .empty), 1, 16) := by kernel_rfl
/-- the row without its last ones -/
theorem owns_less {w : World} {base : Nat} {e : TypeId} {a : Option Addr} {n m cap : Nat} {xs : List Value} (h : w.ownsRow base e 1 (.slice a n cap) n xs) (hm : m ≤ n) (h0 : 0 < n) : w.ownsRow base e 1 (.slice a m cap) m (xs.take m) := by
  refine ⟨by rw [List.length_take, h.1]; omega, ?_⟩
  rcases h.2 with ⟨hv, hz⟩ | ⟨g, cap', cur, hv, hb, hg, hc, hcm, hs, ht⟩
  · omega
  · injection hv with h1 h2 h3
    subst h1 h3
    refine .inr ⟨g, cap, cur, rfl, hb, hg, by omega, hcm, hs, ?_⟩
    rw [← ht, List.take_take]
    congr 1
    omega
/-- a row that was just built -/
theorem owns_new {w : World} {base : Nat} {e : TypeId} {x : Value} (hb : base ≤ w.heap.size) : (w.alloc (.cells #[x] e)).ownsRow base e 1 (.slice (some ⟨w.heap.size, 0, none⟩) 1 1) 1 [x] :=
  ⟨rfl, .inr ⟨w.heap.size, 1, #[x], rfl, hb, heap_alloc_new w _, Nat.le_refl _, by decide, rfl, rfl⟩⟩
theorem owns_at {w : World} {base : Nat} {e : TypeId} {a : Option Addr} {n cap : Nat} {xs : List Value} {i : Nat} {x : Value} (h : w.ownsRow base e 1 (.slice a n cap) n xs) (hx : xs[i]? = some x) : ∃ g, a = some ⟨g, 0, none⟩ ∧ g < w.heap.size ∧ base ≤ g ∧ n ≤ cap ∧ w.cell? ⟨g, i, none⟩ = some x := by
  have hi := (List.getElem?_eq_some_iff.1 hx).1
  rw [h.1] at hi
  rcases h.2 with ⟨hv, hz⟩ | ⟨g, cap', cur, hv, hb, hg, hc, _⟩
  · omega
  · injection hv with h1 h2 h3
    subst h1 h3
    have hl := h.lt g rfl
    exact ⟨g, rfl, hl.2, hb, hc, (h.cellAt i hi).trans hx⟩

end Go.Proofs.YtaobpkffcolobaaGreatDoor.rul

namespace Go.Proofs.YtaobpkffcolobaaGreatDoor.rul
open Go.RowKit Go.Proofs.YtaobpkffcolobaaGreatDoor.base Go.Proofs.YtaobpkffcolobaaGreatDoor.tok
set_option linter.unusedVariables false

/-- where what is open closes (the one on top stands last): behind which token -/
def blkP : List Bs → List Tk → Nat → Option Nat
  | _, [], _ => none
  | st, t :: L, i => if opensP t then blkP (st ++ [closerP t.raw]) L (i + 1)
    else if t.k = 11 ∧ st.getLast? = some t.raw then (if st.dropLast = [] then some (i + 1) else blkP st.dropLast L (i + 1))
    else blkP st L (i + 1)
def blkR (n : Nat) : Option Nat → Nat × Bool
  | some e => (e, true)
  | none => (n, false)
/-- the block that begins at a place -/
def blockP (L : List Tk) (i : Nat) : Nat × Bool := blkR L.length (match L[i]? with | some t => blkP [closerP t.raw] (L.drop (i + 1)) (i + 1) | none => none)

theorem blk_open {st : List Bs} {L : List Tk} {i : Nat} {t : Tk} (h : L[i]? = some t) (ho : opensP t = true) : blkP st (L.drop i) i = blkP (st ++ [closerP t.raw]) (L.drop (i + 1)) (i + 1) := by
  obtain ⟨hl, he⟩ := List.getElem?_eq_some_iff.1 h
  rw [List.drop_eq_getElem_cons hl, he, blkP, if_pos ho]
theorem blk_pop {st : List Bs} {L : List Tk} {i : Nat} {t : Tk} (h : L[i]? = some t) (ho : opensP t = false) (hk : t.k = 11) (hr : st.getLast? = some t.raw) : blkP st (L.drop i) i = if st.dropLast = [] then some (i + 1) else blkP st.dropLast (L.drop (i + 1)) (i + 1) := by
  obtain ⟨hl, he⟩ := List.getElem?_eq_some_iff.1 h
  rw [List.drop_eq_getElem_cons hl, he, blkP, if_neg (by simp [ho]), if_pos ⟨hk, hr⟩]
theorem blk_skip {st : List Bs} {L : List Tk} {i : Nat} {t : Tk} (h : L[i]? = some t) (ho : opensP t = false) (hk : ¬ (t.k = 11 ∧ st.getLast? = some t.raw)) : blkP st (L.drop i) i = blkP st (L.drop (i + 1)) (i + 1) := by
  obtain ⟨hl, he⟩ := List.getElem?_eq_some_iff.1 h
  rw [List.drop_eq_getElem_cons hl, he, blkP, if_neg (by simp [ho]), if_neg hk]

def BlkRel (w : World) (L : List Tk) (R : Option Nat) (v x : Value) (wr : World) : Prop :=
  ∃ (i : Nat) (st : List Bs) (top : Bs), i ≤ L.length ∧ x = .int .i64 i ∧ st.length ≤ i ∧ blkP (st ++ [top]) (L.drop i) i = R ∧ wr.ownsRow w.heap.size 9 1 v (st.length + 1) ((st ++ [top]).map strV) ∧ Below w.heap.size w wr

/-- the cells of a token, while others make memory -/
theorem tok_on {w w' : World} {b o : Nat} {k n : Int} {r v : Bs} (hb : Below w.heap.size w w') (hlt : b < w.heap.size) (e0 : w.cell? ⟨b, o, none⟩ = some (.int .i64 k)) (e1 : w.cell? ⟨b, o + 1, none⟩ = some (.string (bs r))) (e2 : w.cell? ⟨b, o + 2, none⟩ = some (.string (bs v))) (e3 : w.cell? ⟨b, o + 3, none⟩ = some (.int .i64 n)) :
    w'.cell? ⟨b, o, none⟩ = some (.int .i64 k) ∧ w'.cell? ⟨b, o + 1, none⟩ = some (.string (bs r)) ∧ w'.cell? ⟨b, o + 2, none⟩ = some (.string (bs v)) ∧ w'.cell? ⟨b, o + 3, none⟩ = some (.int .i64 n) :=
  ⟨(hb.cell (p := ⟨b, o, none⟩) hlt).trans e0, (hb.cell (p := ⟨b, o + 1, none⟩) hlt).trans e1, (hb.cell (p := ⟨b, o + 2, none⟩) hlt).trans e2, (hb.cell (p := ⟨b, o + 3, none⟩) hlt).trans e3⟩

theorem owns_drewN {w : World} {base : Nat} {e : TypeId} {size : Nat} {v : Value} {n : Nat} {xs : List Value} (h : w.ownsRow base e size v n xs) (k : Nat) : (w.drewN k).ownsRow base e size v n xs := h
/-- what is asked of a token, field by field -/
theorem asks_at {f : FuncId} {p : Tk → Bool} (h : Asks f p) {k n : Int} {r v : Bs} {c : Bool} (hc : p ⟨k, r, v, n⟩ = c) (w : World) : Calls Tryz.prog f #[.agg #[.int .i64 k, .string (bs r), .string (bs v), .int .i64 n]] w fun e w' => e = .returned (.bool c) ∧ Below w.heap.size w w' := by
  subst hc
  exact h ⟨k, r, v, n⟩ w
end Go.Proofs.YtaobpkffcolobaaGreatDoor.rul

namespace Go.Proofs.YtaobpkffcolobaaGreatDoor.rul
open Go.RowKit Go.Proofs.YtaobpkffcolobaaGreatDoor.base Go.Proofs.YtaobpkffcolobaaGreatDoor.tok
set_option linter.unusedVariables false

/-- how many tokens close what is open -/
def closeP : List Bs → List Tk → Option Nat
  | _, [] => none
  | st, t :: L => if opensP t then (closeP (st ++ [closerP t.raw]) L).map (· + 1)
    else if t.k = 11 ∧ st.getLast? = some t.raw then (if st.dropLast = [] then some 1 else (closeP st.dropLast L).map (· + 1))
    else (closeP st L).map (· + 1)
theorem blk_close : ∀ (L : List Tk) (st : List Bs) (i : Nat), blkP st L i = (closeP st L).map (i + ·)
  | [], st, i => by simp [blkP, closeP]
  | t :: L, st, i => by
    unfold blkP closeP
    split
    · rw [blk_close L]; cases closeP (st ++ [closerP t.raw]) L <;> simp; omega
    · split
      · split
        · simp
        · rw [blk_close L]; cases closeP st.dropLast L <;> simp; omega
      · rw [blk_close L]; cases closeP st L <;> simp; omega
theorem close_le : ∀ (L : List Tk) (st : List Bs) (e : Nat), closeP st L = some e → 1 ≤ e ∧ e ≤ L.length
  | [], st, e, h => by simp [closeP] at h
  | t :: L, st, e, h => by
    unfold closeP at h
    split at h
    · obtain ⟨x, hx, rfl⟩ := Option.map_eq_some_iff.1 h
      have := close_le L _ x hx
      simp; omega
    · split at h
      · split at h
        · simp at h; subst h; simp
        · obtain ⟨x, hx, rfl⟩ := Option.map_eq_some_iff.1 h
          have := close_le L _ x hx
          simp; omega
      · obtain ⟨x, hx, rfl⟩ := Option.map_eq_some_iff.1 h
        have := close_le L _ x hx
        simp; omega
/-- how many tokens a block has that a token begins; does it end? -/
def blkLen (t : Tk) (L : List Tk) : Nat := match closeP [closerP t.raw] L with | some e => e + 1 | none => L.length + 1
def blkOk (t : Tk) (L : List Tk) : Bool := (closeP [closerP t.raw] L).isSome
theorem blkLen_bd (t : Tk) (L : List Tk) : 1 ≤ blkLen t L ∧ blkLen t L ≤ L.length + 1 := by
  unfold blkLen
  cases h : closeP [closerP t.raw] L with
  | none => simp
  | some e => have := close_le L _ e h; simp; omega
theorem block_is {L : List Tk} {i : Nat} {t : Tk} (h : L[i]? = some t) : blockP L i = (i + blkLen t (L.drop (i + 1)), blkOk t (L.drop (i + 1))) := by
  have hl := (List.getElem?_eq_some_iff.1 h).1
  unfold blockP blkLen blkOk
  rw [h]
  simp only [blk_close]
  cases closeP [closerP t.raw] (L.drop (i + 1)) with
  | none => simp [blkR, List.length_drop]; omega
  | some e => simp [blkR]; omega

/-- the first token outside of blocks for which it is so -/
def findP (p : Tk → Bool) : List Tk → Nat
  | [] => 0
  | t :: L => if p t then 0 else if opensP t then blkLen t L + findP p ((t :: L).drop (blkLen t L)) else 1 + findP p L
termination_by L => L.length
decreasing_by
  · have := blkLen_bd t L; simp; omega
  · simp
theorem findP_nil (p : Tk → Bool) : findP p [] = 0 := by rw [findP]
theorem findP_cons (p : Tk → Bool) (t : Tk) (L : List Tk) : findP p (t :: L) = if p t then 0 else if opensP t then blkLen t L + findP p ((t :: L).drop (blkLen t L)) else 1 + findP p L := by rw [findP]
theorem findP_le (p : Tk → Bool) : ∀ (n : Nat) (L : List Tk), L.length ≤ n → findP p L ≤ L.length
  | 0, L, h => by
    obtain rfl := List.eq_nil_of_length_eq_zero (Nat.le_zero.1 h)
    rw [findP_nil]; exact Nat.le_refl _
  | n + 1, [], h => by rw [findP_nil]; exact Nat.le_refl _
  | n + 1, t :: L, h => by
    rw [findP_cons]
    have hb := blkLen_bd t L
    simp only [List.length_cons] at h ⊢
    split
    · omega
    · split
      · have := findP_le p n ((t :: L).drop (blkLen t L)) (by rw [List.length_drop, List.length_cons]; omega)
        rw [List.length_drop, List.length_cons] at this
        omega
      · have := findP_le p n L (by omega)
        omega
theorem drop_at {L : List Tk} {i : Nat} {t : Tk} (h : L[i]? = some t) : L.drop i = t :: L.drop (i + 1) := by
  obtain ⟨hl, he⟩ := List.getElem?_eq_some_iff.1 h
  rw [List.drop_eq_getElem_cons hl, he]

end Go.Proofs.YtaobpkffcolobaaGreatDoor.rul

namespace Go.Proofs.YtaobpkffcolobaaGreatDoor.rul
open Go.RowKit Go.Proofs.YtaobpkffcolobaaGreatDoor.base Go.Proofs.YtaobpkffcolobaaGreatDoor.tok
set_option linter.unusedVariables false

/-- a slice of tokens -/
def TS (w : World) (v : Value) (L : List Tk) : Prop := ∃ A cap, v = .slice A L.length cap ∧ L.length ≤ cap ∧ TRd w w.heap.size A L.length L
theorem TS.on {w w' : World} {v : Value} {L : List Tk} (h : TS w v L) (hb : Below w.heap.size w w') : TS w' v L := by
  obtain ⟨A, cap, rfl, hc, hr⟩ := h
  exact ⟨A, cap, rfl, hc, Rd.keep hr hb hb.size⟩
theorem ts_cut {w : World} {A : Option Addr} {cap n i m : Nat} {L : List Tk} (h : TRd w w.heap.size A n L) (hc : n ≤ cap) (hm : i + m ≤ n) : TS w (.slice (addrAt 4 A cap i) m (cap - i)) ((L.drop i).take m) := by
  have hl : ((L.drop i).take m).length = m := by rw [List.length_take, List.length_drop, h.1]; omega
  refine ⟨addrAt 4 A cap i, cap - i, by rw [hl], by omega, ?_⟩
  rw [hl]
  exact rd_cut h hc hm
theorem ts_upto {w : World} {A : Option Addr} {cap n m : Nat} {L : List Tk} (h : TRd w w.heap.size A n L) (hc : n ≤ cap) (hm : m ≤ n) : TS w (.slice A m cap) (L.take m) := by
  have := ts_cut h hc (i := 0) (m := m) (by omega)
  rwa [addr_zero, Nat.sub_zero, List.drop_zero] at this
theorem ts_from {w : World} {A : Option Addr} {cap n i : Nat} {L : List Tk} (h : TRd w w.heap.size A n L) (hc : n ≤ cap) (hi : i ≤ n) : TS w (.slice (addrAt 4 A cap i) (n - i) (cap - i)) (L.drop i) := by
  have := ts_cut h hc (i := i) (m := n - i) (by omega)
  rwa [List.take_of_length_le (by rw [List.length_drop, h.1]; omega)] at this

/-- without what is silent at both ends -/
def endP (L : List Tk) : List Tk := (L.reverse.dropWhile silP).reverse
def solidP (L : List Tk) : List Tk := endP (L.dropWhile silP)
theorem endP_snoc (L : List Tk) (t : Tk) : endP (L ++ [t]) = if silP t then endP L else L ++ [t] := by
  unfold endP
  rw [List.reverse_append]
  simp only [List.reverse_cons, List.reverse_nil, List.nil_append, List.singleton_append, List.dropWhile_cons]
  split <;> simp
theorem endP_nil : endP [] = [] := rfl

def lenOf : Value → Nat
  | .slice _ n _ => n
  | _ => 0

end Go.Proofs.YtaobpkffcolobaaGreatDoor.rul

namespace Go.Proofs.YtaobpkffcolobaaGreatDoor.rul
open Go.RowKit Go.Proofs.YtaobpkffcolobaaGreatDoor.base Go.Proofs.YtaobpkffcolobaaGreatDoor.tok
set_option linter.unusedVariables false

/-- the text of tokens, with one blank for all that is silent in a row -/
def headF : List Tk → Bs → Bool → Bs
  | [], out, _ => out
  | t :: L, out, gap => if silP t then headF L out (decide (0 < out.length)) else headF L ((if gap then out ++ [32] else out) ++ t.raw) false
def headP (L : List Tk) : Bs := headF L [] false

theorem wb32 (B b : Nat) (l : List UInt8) (w : World) (h : IsB B b l w) (hlen : l.length + 1 ≤ 140737488355328) (hBw : B ≤ w.heap.size) (kx : Nat) (tx : TypeId) (cx : Array Value) (hx : Blk w kx tx cx) (htx : tx ≠ 5) (hkx : kx ≠ b) :
    Calls Tryz.prog 36 #[.pointer (some ⟨b, 0, none⟩), .int .u8 32] w fun e w' => e = .returned .nilIface ∧ IsB B b (l ++ [32]) w' ∧ Below B w w' ∧ Blk w' kx tx cx := writeByte_on B b l 32 w h hlen hBw kx tx cx hx htx hkx

def HeadRel (L : List Tk) (R : Bs) (w : World) (g i : Value) (wr : World) : Prop :=
  ∃ (k : Nat) (out : Bs) (gap : Bool), k ≤ L.length ∧ g = .bool gap ∧ i = .int .i64 k ∧ headF (L.drop k) out gap = R ∧ out.length ≤ (textOf (L.take k)).length + k ∧ IsB w.heap.size w.heap.size out wr ∧ Below w.heap.size w wr ∧ w.heap.size < wr.heap.size

end Go.Proofs.YtaobpkffcolobaaGreatDoor.rul

namespace Go.Proofs.YtaobpkffcolobaaGreatDoor.base
open Go.RowKit Go.Proofs.YtaobpkffcolobaaGreatDoor.tok
set_option linter.unusedVariables false

/-- the library's table of folds of the first signs -/
def foldTab : List Int := (List.range 128).map fun (c : Nat) => if 65 ≤ c ∧ c ≤ 90 then (c : Int) + 32 else if c = 107 then 8490 else if c = 115 then 383 else if 97 ≤ c ∧ c ≤ 122 then (c : Int) - 32 else (c : Int)
theorem fold_at : ∀ c : Fin 128, 0 ≤ foldTab.getD c.val 0 ∧ foldTab.getD c.val 0 ≤ 65535 := by decide +kernel

set_option maxRecDepth 100000 in
theorem decode_ct (s : ByteArray) (h : 0 < s.size) (hl : (s[0]'h).toNat < 128) (w : World) :
    Calls Tryz.prog 93 #[.string s] w fun e w' => e = .returned (.tuple #[.int .i32 ((s[0]'h).toNat : Int), .int .i64 1]) ∧ w = w' := by
  have he := empty_no h
  have hl' : (((s[0]'h).toNat : Nat) : Int) < 128 := by omega
  go_enter Tryz.func93, Tryz.ntmps93
  go_wp2_with fail
  go_ret2
  exact ⟨rfl, rfl⟩

end Go.Proofs.YtaobpkffcolobaaGreatDoor.base

namespace Go.Proofs.YtaobpkffcolobaaGreatDoor.base
open Go.RowKit Go.Proofs.YtaobpkffcolobaaGreatDoor.tok
set_option linter.unusedVariables false

def Word (T : Bs) : Prop := T.length ≤ 20 ∧ ∀ c ∈ T, 97 ≤ c.toNat ∧ c.toNat ≤ 122 ∧ c.toNat ≠ 107 ∧ c.toNat ≠ 115
theorem or_is (x y : UInt8) (hy : y.toNat < 128) : decide (128 ≤ bits BinOp.or IntKind.u8 (x.toNat : Int) (y.toNat : Int)) = decide (128 ≤ x.toNat) := by
  rw [u8_or_nat _ _ (by have := x.toNat_lt; omega) (by omega)]
  apply decide_eq_decide.2
  have h1 := Nat.left_le_or (n := x.toNat) (m := y.toNat)
  constructor
  · intro h
    rcases Nat.lt_or_ge x.toNat 128 with hx | hx
    · have := Nat.or_lt_two_pow (n := 7) hx hy
      omega
    · exact hx
  · intro h
    omega
theorem fold_letter : ∀ c : Fin 123, 97 ≤ c.val → c.val ≠ 107 → c.val ≠ 115 → foldTab.getD c.val 0 = (c.val : Int) - 32 ∧ foldTab.getD (c.val - 32) 0 = (c.val : Int) := by decide +kernel
theorem fold_drop {l : Bs} {i : Nat} {x : UInt8} (h : l[i]? = some x) : l.drop i = x :: l.drop (i + 1) := by
  obtain ⟨hl, he⟩ := List.getElem?_eq_some_iff.1 h
  rw [List.drop_eq_getElem_cons hl, he]
theorem fold_high {x y : UInt8} (hx : 128 ≤ x.toNat) (hy : y.toNat < 123) (h0 : 97 ≤ y.toNat) : Lib.foldEq x y = false := by
  unfold Lib.foldEq
  exact decide_eq_false (by omega)

theorem below_iter (w : World) (k : Nat) (s : ByteArray) (p B : Nat) (h : B ≤ k) : Below B w (w.iterAt k s p) := by
  refine ⟨rfl, rfl, rfl, by simp [World.iterAt], fun j hj => ?_⟩
  simp only [World.iterAt]
  rw [Array.getElem?_setIfInBounds, if_neg (by omega)]
def lits (U : Nat → Value) : Nat → Nat → List Value
  | 0, _ => []
  | n + 1, k => U k :: lits U n (k + 1)
theorem lits_of (U : Nat → Value) : ∀ (n k : Nat) (l : List Value), l.length = n → (∀ i, i < n → l[i]? = some (U (k + i))) → l = lits U n k
  | 0, k, l, h, _ => List.eq_nil_of_length_eq_zero h
  | n + 1, k, [], h, _ => by cases h
  | n + 1, k, x :: l, h, hx => by
    have h0 := hx 0 (by omega)
    simp at h0
    rw [lits, h0, lits_of U n (k + 1) l (by simpa using h) (fun i hi => by have := hx (i + 1) (by omega); rw [show k + 1 + i = k + (i + 1) by omega]; simpa using this)]
set_option maxRecDepth 100000 in
theorem frame_lit (f : Array Value) (h : f.size = 123) : ∃ U : Nat → Value, f = #[U 0, U 1, U 2, U 3, U 4, U 5, U 6, U 7, U 8, U 9, U 10, U 11, U 12, U 13, U 14, U 15, U 16, U 17, U 18, U 19, U 20, U 21, U 22, U 23, U 24, U 25, U 26, U 27, U 28, U 29, U 30, U 31, U 32, U 33, U 34, U 35, U 36, U 37, U 38, U 39, U 40, U 41, U 42, U 43, U 44, U 45, U 46, U 47, U 48, U 49, U 50, U 51, U 52, U 53, U 54, U 55, U 56, U 57, U 58, U 59, U 60, U 61, U 62, U 63, U 64, U 65, U 66, U 67, U 68, U 69, U 70, U 71, U 72, U 73, U 74, U 75, U 76, U 77, U 78, U 79, U 80, U 81, U 82, U 83, U 84, U 85, U 86, U 87, U 88, U 89, U 90, U 91, U 92, U 93, U 94, U 95, U 96, U 97, U 98, U 99, U 100, U 101, U 102, U 103, U 104, U 105, U 106, U 107, U 108, U 109, U 110, U 111, U 112, U 113, U 114, U 115, U 116, U 117, U 118, U 119, U 120, U 121, U 122] := by
  refine ⟨fun k => f.getD k undef, ?_⟩
  generalize hU : (fun k => f.getD k undef) = U
  have e : f.toList = lits U 123 0 := lits_of U 123 0 f.toList (by simpa using h) (fun i hi => by
    subst hU
    simp [h, hi, Array.getD])
  apply Array.toList_inj.1
  rw [e]
  simp only [lits, Nat.zero_add, Nat.reduceAdd]

end Go.Proofs.YtaobpkffcolobaaGreatDoor.base

namespace Go.Proofs.YtaobpkffcolobaaGreatDoor.rul
open Go.RowKit Go.Proofs.YtaobpkffcolobaaGreatDoor.base Go.Proofs.YtaobpkffcolobaaGreatDoor.tok
set_option linter.unusedVariables false

/-- tokens that are few and short -/
def Fit (L : List Tk) : Prop := L.length ≤ 1000000 ∧ (textOf L).length ≤ 1000000 ∧ ∀ t ∈ L, t.raw ≠ [] ∧ t.raw.length ≤ 1000000 ∧ t.val.length ≤ 1000000
theorem text_sub {M L : List Tk} (h : M.Sublist L) : (textOf M).length ≤ (textOf L).length := by
  induction h with
  | slnil => exact Nat.le_refl _
  | cons a _ ih => simp only [textOf, List.flatMap_cons, List.length_append] at ih ⊢; omega
  | cons_cons a _ ih => simp only [textOf, List.flatMap_cons, List.length_append] at ih ⊢; omega
theorem Fit.sub {M L : List Tk} (h : Fit L) (hs : M.Sublist L) : Fit M :=
  ⟨Nat.le_trans hs.length_le h.1, Nat.le_trans (text_sub hs) h.2.1, fun t ht => h.2.2 t (hs.subset ht)⟩
theorem Fit.raws {L : List Tk} (h : Fit L) : ∀ t ∈ L, t.raw ≠ [] ∧ t.raw.length ≤ 1000000 := fun t ht => ⟨(h.2.2 t ht).1, (h.2.2 t ht).2.1⟩
theorem end_sub (L : List Tk) : (endP L).Sublist L := by
  unfold endP
  have := (List.dropWhile_sublist silP (l := L.reverse)).reverse
  rwa [List.reverse_reverse] at this
theorem solid_sub (L : List Tk) : (solidP L).Sublist L := (end_sub _).trans (List.dropWhile_sublist _)

/-! ### a value without what says that it is important -/
def impW : Bs := [105, 109, 112, 111, 114, 116, 97, 110, 116]
def impM (M : List Tk) : List Tk × Bool :=
  match M.getLast? with
  | none => (M, false)
  | some t => if M.length < 2 then (M, false) else if t.k = 1 ∧ Lib.equalFold t.val impW = true then
      (match (solidP M.dropLast).getLast? with
      | none => (M, false)
      | some m => if markP m then (solidP (solidP M.dropLast).dropLast, true) else (M, false))
    else (M, false)
def impP (L : List Tk) : List Tk × Bool := impM (solidP L)
theorem imp_few {M : List Tk} (h : M.length < 2) : impM M = (M, false) := by
  unfold impM
  split
  · rfl
  · rw [if_pos h]
theorem imp_snoc (K : List Tk) (t : Tk) (h : 0 < K.length) : impM (K ++ [t]) = if t.k = 1 ∧ Lib.equalFold t.val impW = true then
      (match (solidP K).getLast? with
      | none => (K ++ [t], false)
      | some m => if markP m then (solidP (solidP K).dropLast, true) else (K ++ [t], false))
    else (K ++ [t], false) := by
  unfold impM
  simp only [List.getLast?_append, List.getLast?_singleton, Option.some_or, List.dropLast_concat]
  rw [if_neg (by simp; omega)]

theorem word_imp : Word impW := by
  refine ⟨by decide, ?_⟩
  intro c hc
  revert c
  decide
end Go.Proofs.YtaobpkffcolobaaGreatDoor.rul

namespace Go.Proofs.YtaobpkffcolobaaGreatDoor.rul
open Go.RowKit Go.Proofs.YtaobpkffcolobaaGreatDoor.base Go.Proofs.YtaobpkffcolobaaGreatDoor.tok
set_option linter.unusedVariables false

theorem textR_val (q : UInt8) : ∀ (n : Nat) (l : Bs), l.length ≤ n → (textR q l).2.2.length ≤ l.length
  | 0, l, h => by
    obtain rfl := List.eq_nil_of_length_eq_zero (Nat.le_zero.1 h)
    simp [textR]
  | n + 1, [], h => by simp [textR]
  | n + 1, [c], h => by
    rw [textR]
    (repeat' split) <;> simp
  | n + 1, c :: d :: r, h => by
    have h1 := textR_val q n (d :: r) (by simp at h ⊢; omega)
    have h2 := textR_val q n r (by simp at h; omega)
    rw [textR]
    simp only [List.length_cons] at h1 h2 ⊢
    (repeat' split) <;> simp <;> omega
theorem first_val (l : Bs) (h0 : l ≠ []) : (firstP l).val.length ≤ l.length := by
  have hl : 0 < l.length := List.length_pos_iff.2 h0
  have hn : ∀ a, (nameP (l.drop a)).1.length ≤ l.length := fun a => Nat.le_trans (nameP_val _) (by rw [List.length_drop]; omega)
  unfold firstP
  split
  · simp
  · split
    · unfold noteP; simp
    · split
      · unfold textP
        cases l with
        | nil => simp
        | cons q r =>
          simp only
          split
          · have := textR_val q _ r (Nat.le_refl _); simp; omega
          · simp
      · split
        · exact hn 1
        · split
          · exact hn 1
          · split
            · unfold numTkP
              split
              · simp; omega
              · split
                · simp only [List.length_map]; exact hn _
                · simp
            · split
              · unfold wordP
                split
                · exact hn 0
                · exact hn 0
              · simp
theorem cut_vals : ∀ (n : Nat) (l : Bs), l.length ≤ n → ∀ t ∈ cutP l, t.raw ≠ [] ∧ t.raw.length ≤ l.length ∧ t.val.length ≤ l.length
  | 0, l, h, t, ht => by
    obtain rfl := List.eq_nil_of_length_eq_zero (Nat.le_zero.1 h)
    rw [cutP_nil] at ht
    cases ht
  | n + 1, l, h, t, ht => by
    by_cases h0 : l = []
    · subst h0; rw [cutP_nil] at ht; cases ht
    · rw [cutP_cons h0] at ht
      have hp := (first_pre l h0).2
      have hr := first_raw l h0
      have hv := first_val l h0
      rcases List.mem_cons.1 ht with rfl | ht
      · refine ⟨fun e => by rw [e] at hp; simp at hp, ?_, hv⟩
        rw [hr, List.length_take]
        omega
      · obtain ⟨h1, h2, h3⟩ := cut_vals n (l.drop (firstP l).raw.length) (by rw [List.length_drop]; omega) t ht
        rw [List.length_drop] at h2 h3
        exact ⟨h1, by omega, by omega⟩
theorem fit_cut {l : Bs} (h : l.length ≤ 1000000) : Fit (cutP l) :=
  ⟨Nat.le_trans (cut_few l) h, by rw [cut_text]; exact h, fun t ht => by
    obtain ⟨h1, h2, h3⟩ := cut_vals _ l (Nat.le_refl _) t ht
    exact ⟨h1, by omega, by omega⟩⟩

end Go.Proofs.YtaobpkffcolobaaGreatDoor.rul
