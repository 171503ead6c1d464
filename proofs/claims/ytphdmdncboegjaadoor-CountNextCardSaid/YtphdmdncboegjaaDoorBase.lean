/- Words for all laws of this seat: a law's call that returns true and changes nothing that was there meets its given statement; worlds in which all below a block is as it was; struct arguments opened field by field. -/
import Derived.Test.YtphdmdncboegjaaDoorRows
import Derived.WalkKit
import Derived.WalkSpells
import Derived.WalkLawsBesides
import Derived.ProofKit
import Derived.OpenShut
import Derived.ShutString
import Derived.ChangeOld
import Derived.Deep.Fields
import Derived.Deep.Slices
import Derived.Deep.RegionHeld3
import Derived.Deep.DrawnRows
import Derived.Deep.DeepFit
import Derived.Lib.Hide
import Derived.Deep.QuietTactic
import Derived.BigQuiet
namespace Go.Proofs.YtphdmdncboegjaaDoor.base
open Go.RowKit Go.ChangeShapes Go.WideShapes Go.ChangeAt Go.Deep

/-! ### Worlds -/

/-- the worlds in which all below block B is as it was in W0, with the rule that the walk uses -/
def AsWas (B : Nat) (W0 w' : World) : Prop := (∀ b o, b < B → w'.cell? ⟨b, o, none⟩ = W0.cell? ⟨b, o, none⟩) ∧ Below B W0 w'
theorem As.beg {B : Nat} {W0 : World} : (∀ b o, b < B → W0.drew.cell? ⟨b, o, none⟩ = W0.cell? ⟨b, o, none⟩) ∧ Below B W0 W0.drew := ⟨fun _ _ _ => rfl, (Below.refl _ _).drew⟩
theorem As.beg0 {B : Nat} {W0 : World} : (∀ b o, b < B → W0.cell? ⟨b, o, none⟩ = W0.cell? ⟨b, o, none⟩) ∧ Below B W0 W0 := ⟨fun _ _ _ => rfl, Below.refl _ _⟩
theorem As.on {B : Nat} {W0 w w' : World} (k : Below w.heap.size w w') (h : (∀ b o, b < B → w.cell? ⟨b, o, none⟩ = W0.cell? ⟨b, o, none⟩) ∧ Below B W0 w) (hB : B ≤ W0.heap.size) : (∀ b o, b < B → w'.cell? ⟨b, o, none⟩ = W0.cell? ⟨b, o, none⟩) ∧ Below B W0 w' :=
  have t := h.2.trans (k.mono (Nat.le_trans hB h.2.size))
  ⟨fun b o hb => t.cell (p := ⟨b, o, none⟩) hb, t⟩
theorem As.alloc {B : Nat} {W0 w : World} {o : Obj} (h : (∀ b o, b < B → w.cell? ⟨b, o, none⟩ = W0.cell? ⟨b, o, none⟩) ∧ Below B W0 w) (hB : B ≤ W0.heap.size) : (∀ b p, b < B → (w.alloc o).cell? ⟨b, p, none⟩ = W0.cell? ⟨b, p, none⟩) ∧ Below B W0 (w.alloc o) :=
  As.on ((Below.refl _ _).alloc (Nat.le_refl _) _) h hB
theorem As.fin {b B : Nat} {w W0 w' : World} (h : Below b w W0) (k : (∀ b o, b < B → w'.cell? ⟨b, o, none⟩ = W0.cell? ⟨b, o, none⟩) ∧ Below B W0 w') (hb : b ≤ B) : Below b w w' := h.trans (k.2.mono hb)

theorem As.store {B : Nat} {W0 w : World} {p : Addr} {v : Value} (h : (∀ b o, b < B → w.cell? ⟨b, o, none⟩ = W0.cell? ⟨b, o, none⟩) ∧ Below B W0 w) (hp : B ≤ p.block) : (∀ b o, b < B → (w.setCell p v).cell? ⟨b, o, none⟩ = W0.cell? ⟨b, o, none⟩) ∧ Below B W0 (w.setCell p v) :=
  have t := h.2.setCell hp v
  ⟨fun b o hb => t.cell (p := ⟨b, o, none⟩) hb, t⟩

theorem As.drew {B : Nat} {W0 w : World} (h : (∀ b o, b < B → w.cell? ⟨b, o, none⟩ = W0.cell? ⟨b, o, none⟩) ∧ Below B W0 w) : (∀ b o, b < B → w.drew.cell? ⟨b, o, none⟩ = W0.cell? ⟨b, o, none⟩) ∧ Below B W0 w.drew := ⟨h.1, h.2.drew⟩

/-- quiet, by a contract that keeps the caller's world -/
theorem quiet_left {P : Program} {f : FuncId} {args : Array Value} {w : World} {n : Nat} {v : Value}
    (h : Calls P f args (w.drewN n) fun e w' => e = .returned v ∧ w.drewN n = w') : Calls P f args (w.drewN n) fun e w'' => e = .returned v ∧ ∃ m, w'' = w.drewN m :=
  h.mono fun _ _ ⟨he, hm⟩ => ⟨he, n, hm.symm⟩
/-- .. behind another quiet region -/
theorem quiet_more {P : Program} {f : FuncId} {args : Array Value} {w : World} {a n : Nat} {v : Value}
    (h : Calls P f args (w.drewN (a + n)) fun e w' => e = .returned v ∧ w.drewN (a + n) = w') : Calls P f args (w.drewN (a + n)) fun e w'' => e = .returned v ∧ ∃ m, w'' = w.drewN (a + m) :=
  h.mono fun _ _ ⟨he, hm⟩ => ⟨he, n, hm.symm⟩
theorem below_drewN {B : Nat} {a w : World} (h : Below B a w) (n : Nat) : Below B a (w.drewN n) := ⟨h.os, h.tape, h.output, h.size, h.block⟩

theorem bcell {W w1 : World} (hb : Below W.heap.size W w1) : (∀ b o, b < W.heap.size → w1.cell? ⟨b, o, none⟩ = W.cell? ⟨b, o, none⟩) ∧ (∀ b o, b < W.heap.size → w1.frozen? ⟨b, o, none⟩ = W.frozen? ⟨b, o, none⟩) :=
  ⟨fun b o h => hb.cell (p := ⟨b, o, none⟩) h, fun b o h => hb.frozen (p := ⟨b, o, none⟩) h⟩

/-- block k holds just these cells -/
def Blk (w : World) (k : Nat) (t : TypeId) (cs : Array Value) : Prop := w.heap[k]? = some (.cells cs t (0, 0))
theorem Blk.cell {w : World} {k : Nat} {t : TypeId} {cs : Array Value} (h : Blk w k t cs) : ∀ i, w.cell? ⟨k, i, none⟩ = cs[i]? := by
  intro i
  unfold Blk at h
  simp [World.cell?, h]
theorem Blk.frozen {w : World} {k : Nat} {t : TypeId} {cs : Array Value} (h : Blk w k t cs) : ∀ i, w.frozen? ⟨k, i, none⟩ = false := by
  intro i
  unfold Blk at h
  simp [World.frozen?, h]
theorem Blk.lt {w : World} {k : Nat} {t : TypeId} {cs : Array Value} (h : Blk w k t cs) : k < w.heap.size := by
  unfold Blk at h
  rcases Nat.lt_or_ge k w.heap.size with hlt | hge
  · exact hlt
  · rw [Array.getElem?_eq_none hge] at h; cases h
theorem Blk.new {w : World} {k : Nat} {t : TypeId} {cs : Array Value} (h : k = w.heap.size) : Blk (w.alloc (.cells cs t)) k t cs := by
  subst h
  show (w.heap.push _)[w.heap.size]? = _
  simp
theorem Blk.alloc {w : World} {k : Nat} {t : TypeId} {cs : Array Value} (h : Blk w k t cs) (o : Obj) : Blk (w.alloc o) k t cs := (Below.heap_alloc w o k h.lt).trans h
theorem Blk.below {B : Nat} {w w' : World} {k : Nat} {t : TypeId} {cs : Array Value} (h : Blk w k t cs) (hb : Below B w w') (hk : k < B) : Blk w' k t cs := (hb.block k hk).trans h
theorem Blk.drewN {w : World} {k : Nat} {t : TypeId} {cs : Array Value} (h : Blk w k t cs) (n : Nat) : Blk (w.drewN n) k t cs := h
theorem Blk.drew {w : World} {k : Nat} {t : TypeId} {cs : Array Value} (h : Blk w k t cs) : Blk w.drew k t cs := h
theorem Blk.put {w : World} {k : Nat} {t : TypeId} {cs : Array Value} (h : Blk w k t cs) (i : Nat) (u : Value) : Blk (w.setCell ⟨k, i, none⟩ u) k t (cs.setIfInBounds i u) := by
  unfold Blk at h ⊢
  simp [World.setCell, Array.getElem?_modify, h]
theorem Blk.far {w : World} {k : Nat} {t : TypeId} {cs : Array Value} (h : Blk w k t cs) {p : Addr} (hp : k ≠ p.block) (u : Value) : Blk (w.setCell p u) k t cs := (Below.heap_setCell w p u k hp).trans h

/-! ### What is read stays read -/
section
variable {H : Type} {enc : TypeId × Value → H} {P : Program}

theorem trodAll_below (hl : laidOutB P = true) {W W' : World} (hb : Below W.heap.size W W') : ∀ {ts : List TypeId} {vs : List Value} {ds : List (DataW H)} {ps : List MemPlace},
    (∀ t ∈ ts, P.readableRec t = true ∧ t < P.types.size) → DataW.TrodAll enc P W 0 (fun _ => true) true ts vs ds ps → DataW.TrodAll enc P W' 0 (fun b => decide (b < W.heap.size)) true ts vs ds ps := by
  intro ts
  induction ts with
  | nil =>
    intro vs ds ps _ h
    obtain ⟨rfl, rfl, rfl⟩ := trodAll_nil h
    exact trodAll_mk0
  | cons t ts ih =>
    intro vs ds ps hr h
    obtain ⟨v, vs', d, ds', p, q, rfl, rfl, rfl, h1, h2⟩ := trodAll_cons h
    obtain ⟨r1, r2⟩ := hr t (by simp)
    have hlt : ∀ x ∈ p, x.block < W.heap.size := by obtain ⟨m, hm⟩ := h1; exact DataW.trod_lt m _ _ _ hm
    exact trodAll_cons_mk (Below.trod hl r1 r2 h1 hb hlt) (ih (fun t ht => hr t (by simp [ht])) h2)

/-- A law's end: it returned true and changed nothing that was there. -/
theorem law_post {f : Func} {s : ChangeSpec} {args : Array Value} {ds gs : List (DataW H)} {before : List MemPlace} {W W' : World} {tb : TypeId}
    (hl : laidOutB P = true) (hv : s.vars = []) (hb : P.underlying tb = some .bool) (hrt : f.resultTypes = #[tb])
    (hr : ∀ t ∈ f.params.toList, P.readableRec t = true ∧ t < P.types.size)
    (hfn : s.fn H (ds ++ gs) = { results := [.lit (.bool true)], args := ds })
    (hW : DataW.Whole enc P f.params.toList s.vars false W args.toList ds gs before) (bel : Below W.heap.size W W') :
    s.post enc P f false true false false W args (.bool true) W' := by
  have hW' := hW
  obtain ⟨p, q, hA, hV, rfl, hfz, hnd⟩ := hW
  rw [hv] at hV
  obtain ⟨rfl, rfl⟩ := trodVars_none hV
  refine ⟨ds, [], _, [], p, [], hW', ?_, ?_, ?_, bel.frame _, fun h => by cases h⟩
  · rw [hfn, hrt]
    exact trodAll_mk1 (shut_bool hb _)
  · rw [hfn]
    exact trodAll_below hl bel hr hA
  · rw [hfn, hv]
    rfl
end

/-! ### Structs by value -/
section
variable {H : Type} {enc : TypeId × Value → H} {P : Program} {w : World} {base : Nat} {spare : Nat → Bool} {held : Bool}

/-- a struct's cells, field by field -/
theorem trod_fields {t : TypeId} {fs : Array Field} {fuel : Nat} {cs : List Value} {x : DataW H × List MemPlace} (ht : P.underlying t = some (.struct fs)) (h : DataW.trod enc P w base spare held fuel t cs = some x) :
    cs.length = P.cellsOf t ∧ ∃ n, ∀ (i : Nat) (f : Field), fs[i]? = some f → ∃ y, DataW.trod enc P w base spare held n f.type ((cs.drop f.offset).take (P.cellsOf f.type)) = some y := by
  obtain ⟨xs, n, _, _, hl, hx, hf⟩ := DataW.trod_struct ht h
  refine ⟨hl, n, fun i f hi => ?_⟩
  have hlt : i < xs.length := by have := (Array.getElem?_eq_some_iff.1 hi).1; omega
  exact ⟨xs[i], by rw [hf i f hi, List.getElem?_eq_getElem hlt]⟩

theorem at_field {fs : Array Field} {n : Nat} {cs : List Value} (hf : ∀ (i : Nat) (f : Field), fs[i]? = some f → ∃ y, DataW.trod enc P w base spare held n f.type ((cs.drop f.offset).take (P.cellsOf f.type)) = some y)
    (i T off k : Nat) (hi : (fs[i]?).map (fun f => (f.type, f.offset)) = some (T, off)) (hk : P.cellsOf T = k) : ∃ y, DataW.trod enc P w base spare held n T ((cs.drop off).take k) = some y := by
  cases h : fs[i]? with
  | none => rw [h] at hi; cases hi
  | some f =>
    rw [h] at hi
    simp only [Option.map_some, Option.some.injEq, Prod.mk.injEq] at hi
    obtain ⟨rfl, rfl⟩ := hi
    rw [← hk]
    exact hf i f h

/-- an array's cells, item by item -/
theorem trod_items {t e : TypeId} {k fuel : Nat} {cs : List Value} {x : DataW H × List MemPlace} (ht : P.underlying t = some (.array k e)) (h : DataW.trod enc P w base spare held fuel t cs = some x) :
    cs.length = P.cellsOf t ∧ ∃ n, ∀ i, i < k → ∃ y, DataW.trod enc P w base spare held n e ((cs.drop (i * P.cellsOf e)).take (P.cellsOf e)) = some y := by
  obtain ⟨xs, n, _, _, hl, hx, hf⟩ := DataW.trod_array ht h
  refine ⟨hl, n, fun i hi => ?_⟩
  have hlt : i < xs.length := by omega
  exact ⟨xs[i], by rw [hf i hi, List.getElem?_eq_getElem hlt]⟩

/-- an argument that is a struct: its cells -/
theorem agg_trod {r : Reach} {b0 : Nat} {t : TypeId} {fs : Array Field} {v : Value} {d : DataW H} {p : List MemPlace} (hs : P.underlying t = some (.struct fs)) (hv : Value.okWide P w r b0 t v) (h : DataW.Trod enc P w base spare held t v d p) :
    ∃ cs : Array Value, v = .agg cs ∧ ∃ fuel, DataW.trod enc P w base spare held fuel t cs.toList = some (d, p) := by
  obtain ⟨cs, rfl, _⟩ := okWide_struct hs hv
  obtain ⟨fuel, hf⟩ := h
  exact ⟨cs, rfl, fuel, by simpa [Value.cells] using hf⟩

/-- a struct of one-cell fields, by value: its cells, each with its own reading -/
theorem open_flat {r : Reach} {b0 : Nat} {t : TypeId} {fs : Array Field} {v : Value} {d : DataW H} {p : List MemPlace} (hs : P.underlying t = some (.struct fs)) (hone : oneCellFields P fs = true) (hC : P.cellsOf t = fs.size)
    (hv : Value.okWide P w r b0 t v) (h : DataW.Trod enc P w base spare held t v d p) :
    ∃ (cs : Array Value), v = .agg cs ∧ cs.size = fs.size ∧ ∀ (j : Nat) (f : Field), fs[j]? = some f → ∃ u y n, cs[j]? = some u ∧ DataW.trod enc P w base spare held n f.type [u] = some y := by
  obtain ⟨cs, rfl, hsz⟩ := okWide_struct hs hv
  refine ⟨cs, rfl, hsz.trans hC, fun j f hj => ?_⟩
  obtain ⟨fuel, hf⟩ := h
  obtain ⟨xs, n, _, _, _, _, hg⟩ := DataW.trod_struct hs hf
  obtain ⟨ho, hk⟩ := hone_of hone j f hj
  have hjl : j < cs.size := by have := (Array.getElem?_eq_some_iff.1 hj).1; omega
  have h1 := hg j f hj
  rw [ho, hk] at h1
  have e : (((Value.agg cs).cells.toList).drop j).take 1 = [cs[j]] := by
    simp only [Value.cells]
    rw [List.drop_eq_getElem_cons (by simpa using hjl)]
    simp
  rw [e] at h1
  cases hx : xs[j]? with
  | none =>
    rw [hx] at h1
    have hjx : j < xs.length := by
      have := (Array.getElem?_eq_some_iff.1 hj).1
      omega
    simp [List.getElem?_eq_getElem hjx] at hx
  | some y => exact ⟨cs[j], y, n, by simp [hjl], h1.trans hx⟩

end
end Go.Proofs.YtphdmdncboegjaaDoor.base
