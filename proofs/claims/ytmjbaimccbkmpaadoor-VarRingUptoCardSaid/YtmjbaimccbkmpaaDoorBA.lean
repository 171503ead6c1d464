/- Contracts and plain law, a bundle: Base LaidG Tok0 Tok1 Base2 Build Tok2 Base4 Tok3 Fold0 Fold LaidF Door Num0. -/
import Derived.WalkKit
import Derived.WalkSpells
import Derived.WalkLawsBesides
import Derived.ProofKit
import Derived.OpenShut
import Derived.ShutString
import Derived.ChangeOld
import Derived.Deep.Fields
import Derived.Deep.Slices
import Derived.Deep.RegionHeld3
import Derived.Deep.DrawnRows
import Derived.Deep.DeepFit
import Derived.Lib.Hide
import Derived.Deep.QuietTactic
import Derived.BigQuiet
import Derived.Lib.LaidU8
import Derived.Lib.LaidTab
import Derived.Lib.IndexBytes
import Derived.Laws.Externs
import Derived.Shelf.Strings.SlTrimAscii
import Derived.Maps.AppendAt
import Derived.Deep.AppendLies
import Derived.Laws.IdiomStrings
import Derived.Lib.Fold
import Derived.ScopeJumps
import Derived.WalkMore
import Derived.Laws.RangeAny
import Derived.Lib.OthersKept
import Derived.Deep.LoopGhost
import Derived.HandedShaped
import Derived.Shelf.Vars
import Derived.Lay
import Derived.LaidOnce
import Derived.SevenTiedAt
import Derived.Test.YtmjbaimccbkmpaaDoorRows
import Derived.Test.YtmjbaimccbkmpaaDoorShelf

namespace Go.Proofs.YtmjbaimccbkmpaaDoor.base
open Go.RowKit Go.ChangeShapes Go.WideShapes Go.ChangeAt Go.Deep

/-! ### Worlds -/

/-- the worlds in which all below block B is as it was in W0, with the rule that the walk uses -/
def AsWas (B : Nat) (W0 w' : World) : Prop := (∀ b o, b < B → w'.cell? ⟨b, o, none⟩ = W0.cell? ⟨b, o, none⟩) ∧ Below B W0 w'
theorem As.beg {B : Nat} {W0 : World} : (∀ b o, b < B → W0.drew.cell? ⟨b, o, none⟩ = W0.cell? ⟨b, o, none⟩) ∧ Below B W0 W0.drew := ⟨fun _ _ _ => rfl, (Below.refl _ _).drew⟩
theorem As.beg0 {B : Nat} {W0 : World} : (∀ b o, b < B → W0.cell? ⟨b, o, none⟩ = W0.cell? ⟨b, o, none⟩) ∧ Below B W0 W0 := ⟨fun _ _ _ => rfl, Below.refl _ _⟩
theorem As.on {B : Nat} {W0 w w' : World} (k : Below w.heap.size w w') (h : (∀ b o, b < B → w.cell? ⟨b, o, none⟩ = W0.cell? ⟨b, o, none⟩) ∧ Below B W0 w) (hB : B ≤ W0.heap.size) : (∀ b o, b < B → w'.cell? ⟨b, o, none⟩ = W0.cell? ⟨b, o, none⟩) ∧ Below B W0 w' :=
  have t := h.2.trans (k.mono (Nat.le_trans hB h.2.size))
  ⟨fun b o hb => t.cell (p := ⟨b, o, none⟩) hb, t⟩
theorem As.alloc {B : Nat} {W0 w : World} {o : Obj} (h : (∀ b o, b < B → w.cell? ⟨b, o, none⟩ = W0.cell? ⟨b, o, none⟩) ∧ Below B W0 w) (hB : B ≤ W0.heap.size) : (∀ b p, b < B → (w.alloc o).cell? ⟨b, p, none⟩ = W0.cell? ⟨b, p, none⟩) ∧ Below B W0 (w.alloc o) :=
  As.on ((Below.refl _ _).alloc (Nat.le_refl _) _) h hB
theorem As.fin {b B : Nat} {w W0 w' : World} (h : Below b w W0) (k : (∀ b o, b < B → w'.cell? ⟨b, o, none⟩ = W0.cell? ⟨b, o, none⟩) ∧ Below B W0 w') (hb : b ≤ B) : Below b w w' := h.trans (k.2.mono hb)

theorem As.store {B : Nat} {W0 w : World} {p : Addr} {v : Value} (h : (∀ b o, b < B → w.cell? ⟨b, o, none⟩ = W0.cell? ⟨b, o, none⟩) ∧ Below B W0 w) (hp : B ≤ p.block) : (∀ b o, b < B → (w.setCell p v).cell? ⟨b, o, none⟩ = W0.cell? ⟨b, o, none⟩) ∧ Below B W0 (w.setCell p v) :=
  have t := h.2.setCell hp v
  ⟨fun b o hb => t.cell (p := ⟨b, o, none⟩) hb, t⟩

theorem As.drew {B : Nat} {W0 w : World} (h : (∀ b o, b < B → w.cell? ⟨b, o, none⟩ = W0.cell? ⟨b, o, none⟩) ∧ Below B W0 w) : (∀ b o, b < B → w.drew.cell? ⟨b, o, none⟩ = W0.cell? ⟨b, o, none⟩) ∧ Below B W0 w.drew := ⟨h.1, h.2.drew⟩

/-- quiet, by a contract that keeps the caller's world -/
theorem quiet_left {P : Program} {f : FuncId} {args : Array Value} {w : World} {n : Nat} {v : Value}
    (h : Calls P f args (w.drewN n) fun e w' => e = .returned v ∧ w.drewN n = w') : Calls P f args (w.drewN n) fun e w'' => e = .returned v ∧ ∃ m, w'' = w.drewN m :=
  h.mono fun _ _ ⟨he, hm⟩ => ⟨he, n, hm.symm⟩
/-- .. behind another quiet region -/
theorem quiet_more {P : Program} {f : FuncId} {args : Array Value} {w : World} {a n : Nat} {v : Value}
    (h : Calls P f args (w.drewN (a + n)) fun e w' => e = .returned v ∧ w.drewN (a + n) = w') : Calls P f args (w.drewN (a + n)) fun e w'' => e = .returned v ∧ ∃ m, w'' = w.drewN (a + m) :=
  h.mono fun _ _ ⟨he, hm⟩ => ⟨he, n, hm.symm⟩
theorem below_drewN {B : Nat} {a w : World} (h : Below B a w) (n : Nat) : Below B a (w.drewN n) := ⟨h.os, h.tape, h.output, h.size, h.block⟩

theorem bcell {W w1 : World} (hb : Below W.heap.size W w1) : (∀ b o, b < W.heap.size → w1.cell? ⟨b, o, none⟩ = W.cell? ⟨b, o, none⟩) ∧ (∀ b o, b < W.heap.size → w1.frozen? ⟨b, o, none⟩ = W.frozen? ⟨b, o, none⟩) :=
  ⟨fun b o h => hb.cell (p := ⟨b, o, none⟩) h, fun b o h => hb.frozen (p := ⟨b, o, none⟩) h⟩

/-- block k holds just these cells -/
def Blk (w : World) (k : Nat) (t : TypeId) (cs : Array Value) : Prop := w.heap[k]? = some (.cells cs t (0, 0))
theorem Blk.cell {w : World} {k : Nat} {t : TypeId} {cs : Array Value} (h : Blk w k t cs) : ∀ i, w.cell? ⟨k, i, none⟩ = cs[i]? := by
  intro i
  unfold Blk at h
  simp [World.cell?, h]
theorem Blk.frozen {w : World} {k : Nat} {t : TypeId} {cs : Array Value} (h : Blk w k t cs) : ∀ i, w.frozen? ⟨k, i, none⟩ = false := by
  intro i
  unfold Blk at h
  simp [World.frozen?, h]
theorem Blk.lt {w : World} {k : Nat} {t : TypeId} {cs : Array Value} (h : Blk w k t cs) : k < w.heap.size := by
  unfold Blk at h
  rcases Nat.lt_or_ge k w.heap.size with hlt | hge
  · exact hlt
  · rw [Array.getElem?_eq_none hge] at h; cases h
theorem Blk.new {w : World} {k : Nat} {t : TypeId} {cs : Array Value} (h : k = w.heap.size) : Blk (w.alloc (.cells cs t)) k t cs := by
  subst h
  show (w.heap.push _)[w.heap.size]? = _
  simp
theorem Blk.alloc {w : World} {k : Nat} {t : TypeId} {cs : Array Value} (h : Blk w k t cs) (o : Obj) : Blk (w.alloc o) k t cs := (Below.heap_alloc w o k h.lt).trans h
theorem Blk.below {B : Nat} {w w' : World} {k : Nat} {t : TypeId} {cs : Array Value} (h : Blk w k t cs) (hb : Below B w w') (hk : k < B) : Blk w' k t cs := (hb.block k hk).trans h
theorem Blk.drewN {w : World} {k : Nat} {t : TypeId} {cs : Array Value} (h : Blk w k t cs) (n : Nat) : Blk (w.drewN n) k t cs := h
theorem Blk.drew {w : World} {k : Nat} {t : TypeId} {cs : Array Value} (h : Blk w k t cs) : Blk w.drew k t cs := h
theorem Blk.put {w : World} {k : Nat} {t : TypeId} {cs : Array Value} (h : Blk w k t cs) (i : Nat) (u : Value) : Blk (w.setCell ⟨k, i, none⟩ u) k t (cs.setIfInBounds i u) := by
  unfold Blk at h ⊢
  simp [World.setCell, Array.getElem?_modify, h]
theorem Blk.far {w : World} {k : Nat} {t : TypeId} {cs : Array Value} (h : Blk w k t cs) {p : Addr} (hp : k ≠ p.block) (u : Value) : Blk (w.setCell p u) k t cs := (Below.heap_setCell w p u k hp).trans h

/-! ### What is read stays read -/
section
variable {H : Type} {enc : TypeId × Value → H} {P : Program}

theorem trodAll_below (hl : laidOutB P = true) {W W' : World} (hb : Below W.heap.size W W') : ∀ {ts : List TypeId} {vs : List Value} {ds : List (DataW H)} {ps : List MemPlace},
    (∀ t ∈ ts, P.readableRec t = true ∧ t < P.types.size) → DataW.TrodAll enc P W 0 (fun _ => true) true ts vs ds ps → DataW.TrodAll enc P W' 0 (fun b => decide (b < W.heap.size)) true ts vs ds ps := by
  intro ts
  induction ts with
  | nil =>
    intro vs ds ps _ h
    obtain ⟨rfl, rfl, rfl⟩ := trodAll_nil h
    exact trodAll_mk0
  | cons t ts ih =>
    intro vs ds ps hr h
    obtain ⟨v, vs', d, ds', p, q, rfl, rfl, rfl, h1, h2⟩ := trodAll_cons h
    obtain ⟨r1, r2⟩ := hr t (by simp)
    have hlt : ∀ x ∈ p, x.block < W.heap.size := by obtain ⟨m, hm⟩ := h1; exact DataW.trod_lt m _ _ _ hm
    exact trodAll_cons_mk (Below.trod hl r1 r2 h1 hb hlt) (ih (fun t ht => hr t (by simp [ht])) h2)

/-- A law's end: it returned true and changed nothing that was there. -/
theorem law_post {f : Func} {s : ChangeSpec} {args : Array Value} {ds gs : List (DataW H)} {before : List MemPlace} {W W' : World} {tb : TypeId}
    (hl : laidOutB P = true) (hv : s.vars = []) (hb : P.underlying tb = some .bool) (hrt : f.resultTypes = #[tb])
    (hr : ∀ t ∈ f.params.toList, P.readableRec t = true ∧ t < P.types.size)
    (hfn : s.fn H (ds ++ gs) = { results := [.lit (.bool true)], args := ds })
    (hW : DataW.Whole enc P f.params.toList s.vars false W args.toList ds gs before) (bel : Below W.heap.size W W') :
    s.post enc P f false true false false W args (.bool true) W' := by
  have hW' := hW
  obtain ⟨p, q, hA, hV, rfl, hfz, hnd⟩ := hW
  rw [hv] at hV
  obtain ⟨rfl, rfl⟩ := trodVars_none hV
  refine ⟨ds, [], _, [], p, [], hW', ?_, ?_, ?_, bel.frame _, fun h => by cases h⟩
  · rw [hfn, hrt]
    exact trodAll_mk1 (shut_bool hb _)
  · rw [hfn]
    exact trodAll_below hl bel hr hA
  · rw [hfn, hv]
    rfl
end

/-! ### Structs by value -/
section
variable {H : Type} {enc : TypeId × Value → H} {P : Program} {w : World} {base : Nat} {spare : Nat → Bool} {held : Bool}

/-- a struct's cells, field by field -/
theorem trod_fields {t : TypeId} {fs : Array Field} {fuel : Nat} {cs : List Value} {x : DataW H × List MemPlace} (ht : P.underlying t = some (.struct fs)) (h : DataW.trod enc P w base spare held fuel t cs = some x) :
    cs.length = P.cellsOf t ∧ ∃ n, ∀ (i : Nat) (f : Field), fs[i]? = some f → ∃ y, DataW.trod enc P w base spare held n f.type ((cs.drop f.offset).take (P.cellsOf f.type)) = some y := by
  obtain ⟨xs, n, _, _, hl, hx, hf⟩ := DataW.trod_struct ht h
  refine ⟨hl, n, fun i f hi => ?_⟩
  have hlt : i < xs.length := by have := (Array.getElem?_eq_some_iff.1 hi).1; omega
  exact ⟨xs[i], by rw [hf i f hi, List.getElem?_eq_getElem hlt]⟩

theorem at_field {fs : Array Field} {n : Nat} {cs : List Value} (hf : ∀ (i : Nat) (f : Field), fs[i]? = some f → ∃ y, DataW.trod enc P w base spare held n f.type ((cs.drop f.offset).take (P.cellsOf f.type)) = some y)
    (i T off k : Nat) (hi : (fs[i]?).map (fun f => (f.type, f.offset)) = some (T, off)) (hk : P.cellsOf T = k) : ∃ y, DataW.trod enc P w base spare held n T ((cs.drop off).take k) = some y := by
  cases h : fs[i]? with
  | none => rw [h] at hi; cases hi
  | some f =>
    rw [h] at hi
    simp only [Option.map_some, Option.some.injEq, Prod.mk.injEq] at hi
    obtain ⟨rfl, rfl⟩ := hi
    rw [← hk]
    exact hf i f h

/-- an array's cells, item by item -/
theorem trod_items {t e : TypeId} {k fuel : Nat} {cs : List Value} {x : DataW H × List MemPlace} (ht : P.underlying t = some (.array k e)) (h : DataW.trod enc P w base spare held fuel t cs = some x) :
    cs.length = P.cellsOf t ∧ ∃ n, ∀ i, i < k → ∃ y, DataW.trod enc P w base spare held n e ((cs.drop (i * P.cellsOf e)).take (P.cellsOf e)) = some y := by
  obtain ⟨xs, n, _, _, hl, hx, hf⟩ := DataW.trod_array ht h
  refine ⟨hl, n, fun i hi => ?_⟩
  have hlt : i < xs.length := by omega
  exact ⟨xs[i], by rw [hf i hi, List.getElem?_eq_getElem hlt]⟩

/-- an argument that is a struct: its cells -/
theorem agg_trod {r : Reach} {b0 : Nat} {t : TypeId} {fs : Array Field} {v : Value} {d : DataW H} {p : List MemPlace} (hs : P.underlying t = some (.struct fs)) (hv : Value.okWide P w r b0 t v) (h : DataW.Trod enc P w base spare held t v d p) :
    ∃ cs : Array Value, v = .agg cs ∧ ∃ fuel, DataW.trod enc P w base spare held fuel t cs.toList = some (d, p) := by
  obtain ⟨cs, rfl, _⟩ := okWide_struct hs hv
  obtain ⟨fuel, hf⟩ := h
  exact ⟨cs, rfl, fuel, by simpa [Value.cells] using hf⟩

/-- a struct of one-cell fields, by value: its cells, each with its own reading -/
theorem open_flat {r : Reach} {b0 : Nat} {t : TypeId} {fs : Array Field} {v : Value} {d : DataW H} {p : List MemPlace} (hs : P.underlying t = some (.struct fs)) (hone : oneCellFields P fs = true) (hC : P.cellsOf t = fs.size)
    (hv : Value.okWide P w r b0 t v) (h : DataW.Trod enc P w base spare held t v d p) :
    ∃ (cs : Array Value), v = .agg cs ∧ cs.size = fs.size ∧ ∀ (j : Nat) (f : Field), fs[j]? = some f → ∃ u y n, cs[j]? = some u ∧ DataW.trod enc P w base spare held n f.type [u] = some y := by
  obtain ⟨cs, rfl, hsz⟩ := okWide_struct hs hv
  refine ⟨cs, rfl, hsz.trans hC, fun j f hj => ?_⟩
  obtain ⟨fuel, hf⟩ := h
  obtain ⟨xs, n, _, _, _, _, hg⟩ := DataW.trod_struct hs hf
  obtain ⟨ho, hk⟩ := hone_of hone j f hj
  have hjl : j < cs.size := by have := (Array.getElem?_eq_some_iff.1 hj).1; omega
  have h1 := hg j f hj
  rw [ho, hk] at h1
  have e : (((Value.agg cs).cells.toList).drop j).take 1 = [cs[j]] := by
    simp only [Value.cells]
    rw [List.drop_eq_getElem_cons (by simpa using hjl)]
    simp
  rw [e] at h1
  cases hx : xs[j]? with
  | none =>
    rw [hx] at h1
    have hjx : j < xs.length := by
      have := (Array.getElem?_eq_some_iff.1 hj).1
      omega
    simp [List.getElem?_eq_getElem hjx] at hx
  | some y => exact ⟨cs[j], y, n, by simp [hjl], h1.trans hx⟩

end
end Go.Proofs.YtmjbaimccbkmpaaDoor.base

namespace Go.Proofs.YtmjbaimccbkmpaaDoor.base
open Go.RowKit Go.ChangeShapes Go.WideShapes Go.ChangeAt
set_option linter.unusedVariables false

theorem tab_of_reads {P : Program} {w : World} {name : String} {g : Nat} {t e : TypeId} {n : Nat} {k : IntKind} {zs : List Int} (hn : P.globalNamed name = some g) (hy : (P.globals[g]?).map (·.type) = some t)
    (ht : P.underlying t = some (.array n e)) (he : P.underlying e = some (.int k)) (hce : P.cellsOf e = 1) (hct : P.cellsOf t = n) (h : Lib.VarReads P w name (Lib.tabData k zs)) : Lib.TabIs P w name k zs := by
  obtain ⟨g', t', cs, fuel, p, hg, hty, hvar, hd⟩ := h
  obtain rfl := Option.some.inj (hn.symm.trans hg)
  obtain rfl := Option.some.inj (hy.symm.trans hty)
  unfold Lib.TabIs
  rw [hvar, ← Lib.cells_of_tab ht he hce hct hd]

end Go.Proofs.YtmjbaimccbkmpaaDoor.base

namespace Go.Proofs.YtmjbaimccbkmpaaDoor.tok
open Go.RowKit

abbrev Bs := List UInt8
/-- the string of bytes -/
def bs (l : Bs) : ByteArray := ⟨l.toArray⟩

def digI (n : Int) : Bool := decide (48 ≤ n ∧ n ≤ 57)
def startsI (n : Int) : Bool := decide (128 ≤ n ∨ n = 95 ∨ (65 ≤ n ∧ n ≤ 90) ∨ (97 ≤ n ∧ n ≤ 122))
def signI (n : Int) : Bool := startsI n || digI n || decide (n = 45)

abbrev nv (c : UInt8) : Int := (c.toNat : Int)

/-- does an escape begin it? -/
def escP : Bs → Bool
  | c :: d :: _ => decide (nv c = 92) && decide (nv d ≠ 10)
  | _ => false

/-- does a name begin it? -/
def beginsP : Bs → Bool
  | [] => false
  | [c] => startsI (nv c)
  | c :: d :: r => if nv c = 45 then decide (nv d = 45) || startsI (nv d) || escP (d :: r) else startsI (nv c) || escP (c :: d :: r)

/-- what a name at the beginning says, and how many bytes it is -/
def nameP : Bs → Bs × Nat
  | c :: d :: r => if escP (c :: d :: r) then (d :: (nameP r).1, (nameP r).2 + 2) else if signI (nv c) then (c :: (nameP (d :: r)).1, (nameP (d :: r)).2 + 1) else ([], 0)
  | [c] => if signI (nv c) then ([c], 1) else ([], 0)
  | [] => ([], 0)
termination_by l => l.length

theorem nv_lt (c : UInt8) : nv c < 256 := by have := c.toNat_lt; simp only [nv]; omega
theorem nv_nn (c : UInt8) : 0 ≤ nv c := by simp only [nv]; omega

theorem or_fact : ∀ n : Fin 128, (97 ≤ bits BinOp.or IntKind.u8 (n.val : Int) 32 ∧ bits BinOp.or IntKind.u8 (n.val : Int) 32 ≤ 122) ↔ ((65 ≤ n.val ∧ n.val ≤ 90) ∨ (97 ≤ n.val ∧ n.val ≤ 122)) := by decide +kernel
theorem or_letter (n : Int) (h0 : 0 ≤ n) (h1 : n < 128) : (97 ≤ bits BinOp.or IntKind.u8 n 32 ∧ bits BinOp.or IntKind.u8 n 32 ≤ 122) ↔ ((65 ≤ n ∧ n ≤ 90) ∨ (97 ≤ n ∧ n ≤ 122)) := by
  obtain ⟨k, rfl⟩ := Int.eq_ofNat_of_zero_le h0
  have h := or_fact ⟨k, by omega⟩
  simp only at h
  rw [h]
  omega

end Go.Proofs.YtmjbaimccbkmpaaDoor.tok

namespace Go.Proofs.YtmjbaimccbkmpaaDoor.tok
open Go.RowKit Go.Proofs.YtmjbaimccbkmpaaDoor.base
set_option linter.unusedVariables false

theorem digit_ct (n : Int) (w : World) : Calls Tryd.prog 68 #[.int .u8 n] w fun e w' => e = .returned (.bool (digI n)) ∧ w = w' := by
  by_cases h1 : 48 ≤ n
  · by_cases h2 : n ≤ 57
    · have hd : digI n = true := by simp [digI, h1, h2]
      replace hd := Lib.hid hd
      go_enter Tryd.func68, Tryd.ntmps68
      go_wp2
      go_ret
      exact ⟨by rw [hd.out]; rfl, rfl⟩
    · have hd : digI n = false := by simp [digI, h1, h2]
      replace hd := Lib.hid hd
      go_enter Tryd.func68, Tryd.ntmps68
      go_wp2
      go_ret
      exact ⟨by rw [hd.out]; rfl, rfl⟩
  · have hd : digI n = false := by simp [digI, h1]
    replace hd := Lib.hid hd
    go_enter Tryd.func68, Tryd.ntmps68
    go_wp2
    go_ret
    exact ⟨by rw [hd.out]; rfl, rfl⟩

set_option maxHeartbeats 400000 in
theorem starts_ct (n : Int) (h0 : 0 ≤ n) (hh : n < 256) (w : World) : Calls Tryd.prog 67 #[.int .u8 n] w fun e w' => e = .returned (.bool (startsI n)) ∧ w = w' := by
  by_cases h1 : 128 ≤ n
  · have hd : startsI n = true := by simp [startsI, h1]
    replace hd := Lib.hid hd
    go_enter Tryd.func67, Tryd.ntmps67
    go_wp2
    go_ret
    exact ⟨by rw [hd.out]; rfl, rfl⟩
  · by_cases h2 : n = 95
    · subst h2
      go_enter Tryd.func67, Tryd.ntmps67
      go_wp2
      go_ret
      exact ⟨rfl, rfl⟩
    · have h2' : (n == 95) = false := by simp [h2]
      have hor := or_letter n h0 (by omega)
      have hd : startsI n = decide (97 ≤ bits BinOp.or IntKind.u8 n 32 ∧ bits BinOp.or IntKind.u8 n 32 ≤ 122) := by
        rw [startsI, decide_eq_decide, hor]
        omega
      replace hd := Lib.hid hd
      clear hor
      by_cases h3 : 97 ≤ bits BinOp.or IntKind.u8 n 32
      · by_cases h4 : bits BinOp.or IntKind.u8 n 32 ≤ 122
        all_goals
          go_enter Tryd.func67, Tryd.ntmps67
          go_wp2
          go_ret
          exact ⟨by rw [hd.out]; simp [h3, h4]; try rfl, rfl⟩
      · go_enter Tryd.func67, Tryd.ntmps67
        go_wp2
        go_ret
        exact ⟨by rw [hd.out, decide_eq_false (fun h => absurd h.1 (by omega))]; rfl, rfl⟩

set_option maxHeartbeats 400000 in
theorem sign_ct (n : Int) (h0 : 0 ≤ n) (hh : n < 256) (w : World) : Calls Tryd.prog 48 #[.int .u8 n] w fun e w' => e = .returned (.bool (signI n)) ∧ w = w' := by
  have hs : signI n = (startsI n || digI n || decide (n = 45)) := rfl
  replace hs := Lib.hid hs
  have c1 := fun w => starts_ct n h0 hh w
  have c2 := fun w => digit_ct n w
  generalize startsI n = a at *
  generalize digI n = b at *
  cases a
  · cases b
    all_goals
      go_enter Tryd.func48, Tryd.ntmps48
      go_wp2_with (first | (go_at_call 67; refine (c1 _).mono ?_; rintro e w' ⟨rfl, rfl⟩) | (go_at_call 68; refine (c2 _).mono ?_; rintro e w' ⟨rfl, rfl⟩))
      go_ret
      exact ⟨by rw [hs.out]; rfl, rfl⟩
  · go_enter Tryd.func48, Tryd.ntmps48
    go_wp2_with (first | (go_at_call 67; refine (c1 _).mono ?_; rintro e w' ⟨rfl, rfl⟩) | (go_at_call 68; refine (c2 _).mono ?_; rintro e w' ⟨rfl, rfl⟩))
    go_ret
    exact ⟨by rw [hs.out]; rfl, rfl⟩

theorem esc_short {s : ByteArray} (h : s.size < 2) : escP s.data.toList = false := by
  obtain ⟨⟨l⟩⟩ := s
  match l, h with
  | [], _ => rfl
  | [_], _ => rfl
theorem esc_long {s : ByteArray} (h : 1 < s.size) : escP s.data.toList = (decide (nv (s[0]'(by omega)) = 92) && decide (nv (s[1]'h) ≠ 10)) := by
  obtain ⟨⟨l⟩⟩ := s
  match l, h with
  | a :: b :: r, _ => rfl

theorem ret_bool {a b : Bool} (h : a = b) : Ending.returned (.bool a) = .returned (.bool b) := by rw [h]

set_option maxHeartbeats 400000 in
theorem escape_ct (s : ByteArray) (hs : s.size ≤ maxLen) (w : World) : Calls Tryd.prog 49 #[.string s] w fun e w' => e = .returned (.bool (escP s.data.toList)) ∧ w = w' := by
  unfold maxLen at hs
  by_cases h1 : 1 < s.size
  · have hl := Lib.hid (esc_long h1)
    have h1' : 0 < s.size := by omega
    go_enter Tryd.func49, Tryd.ntmps49
    go_wp2
    all_goals
      go_ret
      refine ⟨ret_bool ?_, rfl⟩
      rw [hl.out]
      simp [*]
      try rfl
  · have hd : escP s.data.toList = false := esc_short (by omega)
    replace hd := Lib.hid hd
    go_enter Tryd.func49, Tryd.ntmps49
    go_wp2
    go_ret
    exact ⟨by rw [hd.out]; rfl, rfl⟩

theorem beg_nil {s : ByteArray} (h : s.size = 0) : beginsP s.data.toList = false := by
  obtain ⟨⟨l⟩⟩ := s
  match l, h with
  | [], _ => rfl
theorem beg_one {s : ByteArray} (h : s.size = 1) : beginsP s.data.toList = (startsI (nv (s[0]'(by omega))) || escP s.data.toList) := by
  obtain ⟨⟨l⟩⟩ := s
  match l, h with
  | [a], _ => simp [beginsP, escP]; rfl
theorem beg_dash {s : ByteArray} (h : 1 < s.size) (hd : nv (s[0]'(by omega)) = 45) : beginsP s.data.toList = (decide (nv (s[1]'h) = 45) || startsI (nv (s[1]'h)) || escP (s.extract 1 s.size).data.toList) := by
  rw [Lib.extract_to_end]
  obtain ⟨⟨l⟩⟩ := s
  match l, h, hd with
  | a :: b :: r, _, hd => exact if_pos hd
theorem beg_two {s : ByteArray} (h : 1 < s.size) (hd : ¬ nv (s[0]'(by omega)) = 45) : beginsP s.data.toList = (startsI (nv (s[0]'(by omega))) || escP s.data.toList) := by
  obtain ⟨⟨l⟩⟩ := s
  match l, h, hd with
  | a :: b :: r, _, hd => exact if_neg hd
theorem empty_no {s : ByteArray} (h : 0 < s.size) : s.toList.isEmpty = false := by
  rw [ByteArray.toList_eq]
  obtain ⟨⟨l⟩⟩ := s
  match l, h with
  | a :: r, _ => rfl
theorem empty_yes {s : ByteArray} (h : s.size = 0) : s.toList.isEmpty = true := by
  rw [ByteArray.toList_eq]
  obtain ⟨⟨l⟩⟩ := s
  match l, h with
  | [], _ => rfl
theorem sub_len {s : ByteArray} (a b : Nat) (h : s.size ≤ maxLen) : (s.extract a b).size ≤ maxLen := by
  simp only [ByteArray.size_extract]
  omega

set_option maxRecDepth 100000 in
set_option maxHeartbeats 1000000 in
theorem begins_ct (s : ByteArray) (hs : s.size ≤ maxLen) (w : World) : Calls Tryd.prog 51 #[.string s] w fun e w' => e = .returned (.bool (beginsP s.data.toList)) ∧ w = w' := by
  have HS := Lib.hid hs
  unfold maxLen at hs
  rcases Nat.lt_trichotomy s.size 1 with h0 | h0 | h0
  · have hd := Lib.hid (beg_nil (s := s) (by omega))
    have he := empty_yes (s := s) (by omega)
    go_enter Tryd.func51, Tryd.ntmps51
    go_wp2
    go_ret
    exact ⟨by rw [hd.out]; rfl, rfl⟩
  · have hd := Lib.hid (beg_one (s := s) h0)
    have he := empty_no (s := s) (by omega)
    have h1 : 0 < s.size := by omega
    have h2 : ¬ (1 < s.size) := by omega
    replace h0 := Lib.hid h0
    have c1 := Lib.hid (fun w => starts_ct (nv s[0]) (nv_nn _) (nv_lt _) w)
    have c2 := fun w => escape_ct s HS.out w
    rw [esc_short (s := s) (by omega)] at hd c2
    have hq : ∃ q, ((s[0].toNat : Int) == 45) = q := ⟨_, rfl⟩
    obtain ⟨q, hq⟩ := hq
    replace c2 := Lib.hid c2
    cases hb : startsI (nv s[0]) <;> rw [hb] at hd c1 <;> clear hb <;> cases q
    all_goals
      go_enter Tryd.func51, Tryd.ntmps51
      go_wp2_with (first | (go_at_call 67; (with_reducible refine (c1.out _).mono ?_); rintro e w' ⟨rfl, rfl⟩) | (go_at_call 49; (with_reducible refine (c2.out _).mono ?_); rintro e w' ⟨rfl, rfl⟩))
      all_goals
        go_ret
        exact ⟨by rw [hd.out]; rfl, rfl⟩
  · have he := empty_no (s := s) (by omega)
    have h1 : 0 < s.size := by omega
    by_cases hd : nv s[0] = 45
    · have hb := beg_dash h0 hd
      have hd1 : ((s[0].toNat : Int) == 45) = true := by simpa using hd
      replace hd := Lib.hid hd
      have c1 := Lib.hid (fun w => starts_ct (nv s[1]) (nv_nn _) (nv_lt _) w)
      have c2 := fun w => escape_ct (s.extract 1 s.size) (sub_len _ _ HS.out) w
      generalize escP (s.extract 1 s.size).data.toList = z at *
      replace hb := Lib.hid hb
      replace c2 := Lib.hid c2
      by_cases h5 : nv s[1] = 45
      · have h6 : ((s[1].toNat : Int) == 45) = true := by simpa using h5
        rw [decide_eq_true h5] at hb
        replace h5 := Lib.hid h5
        go_enter Tryd.func51, Tryd.ntmps51
        go_wp2_with fail
        go_ret
        exact ⟨by rw [hb.out]; rfl, rfl⟩
      · have h6 : ((s[1].toNat : Int) == 45) = false := by simpa using h5
        rw [decide_eq_false h5] at hb
        replace h5 := Lib.hid h5
        cases hs1 : startsI (nv s[1]) <;> rw [hs1] at hb c1 <;> clear hs1
        all_goals
          go_enter Tryd.func51, Tryd.ntmps51
          go_wp2_with (first | (go_at_call 67; refine (c1.out _).mono ?_; rintro e w' ⟨rfl, rfl⟩) | (go_at_call 49; refine (c2.out _).mono ?_; rintro e w' ⟨rfl, rfl⟩))
          all_goals
            go_ret
            exact ⟨by rw [hb.out]; rfl, rfl⟩
    · have hb := Lib.hid (beg_two h0 hd)
      have hd1 : ((s[0].toNat : Int) == 45) = false := by simpa using hd
      replace hd := Lib.hid hd
      have c1 := Lib.hid (fun w => starts_ct (nv s[0]) (nv_nn _) (nv_lt _) w)
      have c2 := Lib.hid (fun w => escape_ct s HS.out w)
      cases hs1 : startsI (nv s[0]) <;> rw [hs1] at hb c1 <;> clear hs1
      all_goals
        go_enter Tryd.func51, Tryd.ntmps51
        go_wp2_with (first | (go_at_call 67; refine (c1.out _).mono ?_; rintro e w' ⟨rfl, rfl⟩) | (go_at_call 49; refine (c2.out _).mono ?_; rintro e w' ⟨rfl, rfl⟩))
        all_goals
          go_ret
          exact ⟨by rw [hb.out]; rfl, rfl⟩

end Go.Proofs.YtmjbaimccbkmpaaDoor.tok

namespace Go.Proofs.YtmjbaimccbkmpaaDoor.base
open Go.RowKit

theorem own_below {w w' : World} {k : Nat} {cs : Array Value} (hb : Below w.heap.size w w') (h : ∀ i, w.cell? ⟨k, i, none⟩ = cs[i]?) (hk : k < w.heap.size) : ∀ i, w'.cell? ⟨k, i, none⟩ = cs[i]? :=
  fun i => (hb.cell (p := ⟨k, i, none⟩) hk).trans (h i)
theorem own_put {w : World} {k : Nat} {cs : Array Value} {p : Addr} {v : Value} (h : ∀ i, w.cell? ⟨k, i, none⟩ = cs[i]?) (hk : p.block ≠ k) : ∀ i, (w.setCell p v).cell? ⟨k, i, none⟩ = cs[i]? :=
  fun i => (World.cell?_setCell_other w p ⟨k, i, none⟩ v (fun e => hk (by rw [e]))).trans (h i)
/-- three blocks of one's own, while calls only make memory -/
theorem own3_on {w w' : World} {a b c N : Nat} {us vs cs : Array Value} (hb : Below w.heap.size w w') (h : (∀ i, w.cell? ⟨a, i, none⟩ = us[i]?) ∧ (∀ i, w.cell? ⟨b, i, none⟩ = vs[i]?) ∧ (∀ i, w.cell? ⟨c, i, none⟩ = cs[i]?) ∧ N ≤ w.heap.size)
    (ha : a < N) (hb' : b < N) (hc : c < N) : (∀ i, w'.cell? ⟨a, i, none⟩ = us[i]?) ∧ (∀ i, w'.cell? ⟨b, i, none⟩ = vs[i]?) ∧ (∀ i, w'.cell? ⟨c, i, none⟩ = cs[i]?) ∧ N ≤ w'.heap.size :=
  ⟨own_below hb h.1 (by omega), own_below hb h.2.1 (by omega), own_below hb h.2.2.1 (by omega), Nat.le_trans h.2.2.2 hb.size⟩
theorem size_setCell (w : World) (p : Addr) (v : Value) : (w.setCell p v).heap.size = w.heap.size := by simp [World.setCell]
theorem own3_put {w : World} {a b c N : Nat} {us vs cs : Array Value} {p : Addr} {v : Value} (h : (∀ i, w.cell? ⟨a, i, none⟩ = us[i]?) ∧ (∀ i, w.cell? ⟨b, i, none⟩ = vs[i]?) ∧ (∀ i, w.cell? ⟨c, i, none⟩ = cs[i]?) ∧ N ≤ w.heap.size)
    (ha : p.block ≠ a) (hb' : p.block ≠ b) (hc : p.block ≠ c) : (∀ i, (w.setCell p v).cell? ⟨a, i, none⟩ = us[i]?) ∧ (∀ i, (w.setCell p v).cell? ⟨b, i, none⟩ = vs[i]?) ∧ (∀ i, (w.setCell p v).cell? ⟨c, i, none⟩ = cs[i]?) ∧ N ≤ (w.setCell p v).heap.size :=
  ⟨own_put h.1 ha, own_put h.2.1 hb', own_put h.2.2.1 hc, by rw [size_setCell]; exact h.2.2.2⟩

/-! ### Rows of the call's own that are appended to -/
theorem add_zero_block (k j : Nat) : ((⟨k, 0, none⟩ : Addr).add j) = ⟨k, j, none⟩ := by
  unfold Addr.add
  by_cases h : j = 0 <;> simp [h]
/-- what is appended: a block that is known whole -/
theorem Blk.news {w : World} {k : Nat} {t : TypeId} {cs : Array Value} (h : Blk w k t cs) : ∀ (j : Nat) (u : Value), cs.toList[j]? = some u → w.cell? ((⟨k, 0, none⟩ : Addr).add j) = some u := by
  intro j u hu
  rw [add_zero_block, h.cell j]
  simpa using hu
/-- behind an append onto a row of the call's own -/
theorem below_grown {B : Nat} {a w w' : World} {base : Nat} {e : TypeId} {size n : Nat} {v : Value} {xs : List Value} (h : Below B a w) (hg : w.grownBy w' v.ownBlock) (hown : w.ownsRow base e size v n xs) (hB : B ≤ base) (hz : B ≤ w.heap.size) : Below B a w' :=
  h.grown hg hz (fun k hk => Nat.le_trans hB (hown.lt k hk).1)

end Go.Proofs.YtmjbaimccbkmpaaDoor.base

namespace Go.Proofs.YtmjbaimccbkmpaaDoor.base
open Go.RowKit
set_option linter.unusedVariables false

theorem sizeBuilder : (Tryd.prog.info? 40).map (·.size) = some 2 := by kernel_rfl
theorem liesBuilder : liesAt Tryd.prog Tryd.prog.depth 40 (2 / Tryd.prog.cellsOf 40) 0 40 1 = true := by kernel_rfl
theorem infoByte : (Tryd.prog.info? 5).map (fun i => (i.zero, i.size, i.bytes)) = some (some (.int .u8 0), 1, 1) := by kernel_rfl

abbrev IsB (B b : Nat) (l : List UInt8) (w : World) : Prop := Lib.IsBuilder 40 5 B b (Lib.byteCells l) w

set_option maxHeartbeats 1000000 in
set_option maxRecDepth 100000 in
theorem copyCheck_used (b : Nat) (w : World) (h0 : w.cell? ⟨b, 0, none⟩ = some (.pointer (some ⟨b, 0, none⟩))) :
    Calls Tryd.prog 33 #[.pointer (some ⟨b, 0, none⟩)] w fun e w' => e = .returned (.tuple #[]) ∧ w' = w := by
  obtain ⟨j, hj, _⟩ := Option.map_eq_some_iff.1 sizeBuilder
  go_enter Tryd.func33, Tryd.ntmps33
  go_wp2
  rw [Lib.run_neq_ptr_same w _ Tryd.underlying38 hj]
  go_wp2
  go_end0
  exact ⟨rfl, rfl⟩

set_option maxHeartbeats 1000000 in
set_option maxRecDepth 100000 in
theorem copyCheck_fresh (b : Nat) (w : World) (h0 : w.cell? ⟨b, 0, none⟩ = some (.pointer none)) (hsh : w.shape? b = some (40, 2)) (hfz : w.frozen? ⟨b, 0, none⟩ = false) :
    Calls Tryd.prog 33 #[.pointer (some ⟨b, 0, none⟩)] w fun e w' => e = .returned (.tuple #[]) ∧ w' = w.setCell ⟨b, 0, none⟩ (.pointer (some ⟨b, 0, none⟩)) := by
  obtain ⟨j, hj, hjs⟩ := Option.map_eq_some_iff.1 sizeBuilder
  go_enter Tryd.func33, Tryd.ntmps33
  go_wp2
  rw [Lib.run_to_unsafe w ⟨b, 0, none⟩ Tryd.underlying38 Tryd.underlying87 hj (by rw [hjs]; decide) hsh (Nat.zero_lt_succ 1)]
  simp only [Result.andThen]
  rw [Oper.upon_value]
  go_wp2
  rw [run_callFunc_extern Tryd.func56 (by kernel_rfl) (by kernel_rfl) (by kernel_rfl) (e := Extern.AbiNoEscape.same) (by kernel_rfl)]
  rw [Lib.run_noEscape]
  simp only [Result.andThen]
  rw [Oper.upon_value]
  go_wp2
  rw [Lib.run_from_unsafe w ⟨b, 0, none⟩ Tryd.underlying87 Tryd.underlying38 hj hsh liesBuilder]
  simp only [Result.andThen]
  rw [Oper.upon_value]
  go_wp2
  go_end0
  exact ⟨rfl, rfl⟩

theorem copyCheck_ct (B b : Nat) (bs : List Value) (w : World) (h : Lib.IsBuilder 40 5 B b bs w) :
    Calls Tryd.prog 33 #[.pointer (some ⟨b, 0, none⟩)] w fun e w' => e = .returned (.tuple #[]) ∧ (Lib.BuilderAt 40 5 B b (.pointer (some ⟨b, 0, none⟩)) bs w' ∧ Below B w w') := by
  rcases h with h | h
  · refine (copyCheck_fresh b w h.cell0 h.shape h.frozen0).mono ?_
    rintro e w' ⟨rfl, rfl⟩
    exact ⟨rfl, h.used _, (Below.refl B w).setCell (p := ⟨b, 0, none⟩) h.1 _⟩
  · refine (copyCheck_used b w h.cell0).mono ?_
    rintro e w' ⟨rfl, rfl⟩
    exact ⟨rfl, h, Below.refl B _⟩

set_option maxHeartbeats 2000000 in
set_option maxRecDepth 100000 in
theorem writeByte_raw (B b : Nat) (bs : List Value) (c : Int) (w : World) (h : Lib.IsBuilder 40 5 B b bs w) (hlen : bs.length + 1 ≤ 140737488355328) (hBw : B ≤ w.heap.size) :
    Calls Tryd.prog 58 #[.pointer (some ⟨b, 0, none⟩), .int .u8 c] w fun e w' => e = .returned .nilIface ∧ (Lib.BuilderAt 40 5 B b (.pointer (some ⟨b, 0, none⟩)) (bs ++ [.int .u8 c]) w' ∧ Below B w w') := by
  obtain ⟨i0, hi, hz0, hz1, hz2⟩ := info_parts infoByte
  go_enter Tryd.func58, Tryd.ntmps58
  go_wp2_with (go_at_call 33; refine (copyCheck_ct B b bs _ h).mono ?_)
  rintro e w1 ⟨rfl, h1, hb1⟩
  obtain ⟨hB, v, hbk, hown, hne⟩ := h1
  have c0 : w1.cell? ⟨b, 0, none⟩ = some (.pointer (some ⟨b, 0, none⟩)) := by rw [Lib.cell_of_heap hbk]; rfl
  have c1 : w1.cell? ⟨b, 1, none⟩ = some v := by rw [Lib.cell_of_heap hbk]; rfl
  go_wp2_with (at_builtin; refine wpList_append_own _ rfl _ _ 34 rfl B 5 i0 (.int .u8 0) 1 1 Tryd.underlying34 hi hz0 hz1 hz2 rfl (by decide) _ _ _ rfl (hown.alloc _) ⟨w1.heap.size, 0, none⟩ 1 1 [.int .u8 c] rfl rfl ?c1 ?c2 ?c3 ?c4 ?c5 ?_)
  case c1 =>
    intro j u hj
    match j, hj with
    | 0, hj => simp at hj; subst hj; simp [Addr.add]
  case c2 => intro u hu; simp at hu; subst hu; rfl
  case c3 => unfold maxLen; omega
  case c4 => omega
  case c5 => have := hb1.size; simp; omega
  intro v' w2 hown' hgrow _
  have hlt : b < w1.heap.size := by
    rcases Nat.lt_or_ge b w1.heap.size with h' | h'
    · exact h'
    · simp [Array.getElem?_eq_none h'] at hbk
  have hb2 : w2.heap[b]? = some (.cells #[.pointer (some ⟨b, 0, none⟩), v] 40 (0, 0)) := by
    rw [hgrow.block b (by simp; omega) (fun e => hne e.symm), Lib.alloc_old w1 _ b hlt]
    exact hbk
  have d0 : w2.cell? ⟨b, 0, none⟩ = some (.pointer (some ⟨b, 0, none⟩)) := by rw [Lib.cell_of_heap hb2]; rfl
  have d1 : w2.cell? ⟨b, 1, none⟩ = some v := by rw [Lib.cell_of_heap hb2]; rfl
  have f1 : w2.frozen? ⟨b, 1, none⟩ = false := Lib.frozen_of_heap hb2 1
  obtain ⟨g, cap, rfl⟩ : ∃ g cap, v' = .slice (some ⟨g, 0, none⟩) (bs.length + 1) cap := by
    rcases hown'.2 with ⟨_, h0⟩ | ⟨g, cap, cur, hv, _⟩
    · omega
    · exact ⟨g, cap, hv⟩
  go_wp2
  go_ret
  refine ⟨rfl, ?_, ?_⟩
  · exact Lib.BuilderAt.put (T := 40) (e := 5) hB hb2 (bs' := bs ++ [.int .u8 c]) (by simpa using hown') (by decide)
  · exact ((hb1.alloc (by have := hb1.size; omega) _).grown hgrow (by have := hb1.size; simp; omega) (fun k hk => (hown.lt k hk).1)).setCell (p := ⟨b, 1, none⟩) hB _

set_option maxHeartbeats 2000000 in
set_option maxRecDepth 100000 in
theorem writeString_raw (B b : Nat) (bs : List Value) (s : ByteArray) (w : World) (h : Lib.IsBuilder 40 5 B b bs w) (hlen : bs.length + s.size ≤ 140737488355328) (hBw : B ≤ w.heap.size) :
    Calls Tryd.prog 14 #[.pointer (some ⟨b, 0, none⟩), .string s] w fun e w' => e = .returned (.tuple #[.int .i64 s.size, .nilIface]) ∧ (Lib.BuilderAt 40 5 B b (.pointer (some ⟨b, 0, none⟩)) (bs ++ Lib.strCells s) w' ∧ Below B w w') := by
  obtain ⟨i0, hi, hz0, hz1, hz2⟩ := info_parts infoByte
  go_enter Tryd.func14, Tryd.ntmps14
  go_wp2_with (go_at_call 33; refine (copyCheck_ct B b bs _ h).mono ?_)
  rintro e w1 ⟨rfl, h1, hb1⟩
  obtain ⟨hB, v, hbk, hown, hne⟩ := h1
  have c0 : w1.cell? ⟨b, 0, none⟩ = some (.pointer (some ⟨b, 0, none⟩)) := by rw [Lib.cell_of_heap hbk]; rfl
  have c1 : w1.cell? ⟨b, 1, none⟩ = some v := by rw [Lib.cell_of_heap hbk]; rfl
  go_wp2_with (at_builtin; refine Lib.wpList_append_own_string _ rfl _ _ 34 9 rfl B 5 i0 Tryd.underlying34 Tryd.underlying9 hi hz0 hz1 hz2 _ _ _ rfl hown s rfl ?c3 ?c4 ?c5 ?_)
  case c3 => unfold maxLen; omega
  case c4 => omega
  case c5 => have := hb1.size; omega
  intro v' w2 hown' hgrow _
  have hlt : b < w1.heap.size := by
    rcases Nat.lt_or_ge b w1.heap.size with h' | h'
    · exact h'
    · simp [Array.getElem?_eq_none h'] at hbk
  have hb2 : w2.heap[b]? = some (.cells #[.pointer (some ⟨b, 0, none⟩), v] 40 (0, 0)) := by
    rw [hgrow.block b hlt (fun e => hne e.symm)]
    exact hbk
  have d0 : w2.cell? ⟨b, 0, none⟩ = some (.pointer (some ⟨b, 0, none⟩)) := by rw [Lib.cell_of_heap hb2]; rfl
  have d1 : w2.cell? ⟨b, 1, none⟩ = some v := by rw [Lib.cell_of_heap hb2]; rfl
  have f1 : w2.frozen? ⟨b, 1, none⟩ = false := Lib.frozen_of_heap hb2 1
  obtain ⟨ao, n', cap, rfl⟩ : ∃ ao n' cap, v' = .slice ao n' cap := by
    rcases hown'.2 with ⟨hv, _⟩ | ⟨g, cap, cur, hv, _⟩
    · exact ⟨_, _, _, hv⟩
    · exact ⟨_, _, _, hv⟩
  go_wp2
  go_ret2
  refine ⟨rfl, ?_, ?_⟩
  · exact Lib.BuilderAt.put (T := 40) (e := 5) hB hb2 (bs' := bs ++ Lib.strCells s) (by simpa [Lib.strCells_length] using hown') (by decide)
  · exact (hb1.grown hgrow (by have := hb1.size; omega) (fun k hk => (hown.lt k hk).1)).setCell (p := ⟨b, 1, none⟩) hB _

/-- WriteByte, on lists of bytes -/
theorem writeByte_ct (B b : Nat) (l : List UInt8) (c : UInt8) (w : World) (h : IsB B b l w) (hlen : l.length + 1 ≤ 140737488355328) (hBw : B ≤ w.heap.size) :
    Calls Tryd.prog 58 #[.pointer (some ⟨b, 0, none⟩), .int .u8 (c.toNat : Int)] w fun e w' => e = .returned .nilIface ∧ IsB B b (l ++ [c]) w' ∧ Below B w w' :=
  (writeByte_raw B b _ _ w h (by rw [Lib.byteCells_length]; exact hlen) hBw).mono fun e w' ⟨he, h1, h2⟩ => ⟨he, Or.inr (by simpa [Lib.byteCells] using h1), h2⟩
/-- WriteString, on lists of bytes -/
theorem writeString_ct (B b : Nat) (l : List UInt8) (s : ByteArray) (w : World) (h : IsB B b l w) (hlen : l.length + s.size ≤ 140737488355328) (hBw : B ≤ w.heap.size) :
    Calls Tryd.prog 14 #[.pointer (some ⟨b, 0, none⟩), .string s] w fun e w' => e = .returned (.tuple #[.int .i64 s.size, .nilIface]) ∧ IsB B b (l ++ s.data.toList) w' ∧ Below B w w' :=
  (writeString_raw B b _ s w h (by rw [Lib.byteCells_length]; exact hlen) hBw).mono fun e w' ⟨he, h1, h2⟩ => ⟨he, Or.inr (by simpa [Lib.byteCells, Lib.strCells] using h1), h2⟩
/-- String, on lists of bytes -/
theorem builderString_ct (B b : Nat) (l : List UInt8) (w : World) (h : IsB B b l w) (hBw : B ≤ w.heap.size) :
    Calls Tryd.prog 18 #[.pointer (some ⟨b, 0, none⟩)] w fun e w' => e = .returned (.string ⟨l.toArray⟩) ∧ Below B w w' := Tryd.Builder_String_any B b l w h hBw

/-- a builder that was just laid -/
theorem IsB.new (w : World) (B : Nat) (hB : B ≤ w.heap.size) : IsB B w.heap.size [] (w.alloc (.cells #[.pointer none, .slice none 0 0] 40)) :=
  Or.inl ⟨hB, .slice none 0 0, heap_alloc_new w _, World.ownsRow_nil _ _ _ _, by simp [Value.ownBlock]⟩
/-- .. it stays while others make memory -/
theorem builderAt_on {B b : Nat} {p : Value} {l : List Value} {w w' : World} (h : Lib.BuilderAt 40 5 B b p l w) (hb : Below w.heap.size w w') : Lib.BuilderAt 40 5 B b p l w' := by
  have hlt := h.lt
  obtain ⟨hB, v, hbk, hown, hne⟩ := h
  exact ⟨hB, v, (hb.block b hlt).trans hbk, hown.kept ⟨hb.os, hb.tape, hb.output, hb.size, fun k hk _ => hb.block k hk⟩ (row := none) (by cases hv : v.ownBlock with | none => exact .inl rfl | some g => exact .inr (by simp)), hne⟩
theorem IsB.on {B b : Nat} {l : List UInt8} {w w' : World} (h : IsB B b l w) (hb : Below w.heap.size w w') : IsB B b l w' := h.elim (fun x => .inl (builderAt_on x hb)) (fun x => .inr (builderAt_on x hb))

end Go.Proofs.YtmjbaimccbkmpaaDoor.base

namespace Go.Proofs.YtmjbaimccbkmpaaDoor.tok
open Go.RowKit Go.Proofs.YtmjbaimccbkmpaaDoor.base
set_option linter.unusedVariables false

theorem drop_cons {s : ByteArray} {k : Nat} (h : k < s.size) : s.data.toList.drop k = s[k] :: s.data.toList.drop (k + 1) := by
  obtain ⟨⟨l⟩⟩ := s
  exact List.drop_eq_getElem_cons h
theorem drop_nil {s : ByteArray} {k : Nat} (h : s.size ≤ k) : s.data.toList.drop k = [] := by
  obtain ⟨⟨l⟩⟩ := s
  exact List.drop_eq_nil_of_le h
theorem esc_room {s : ByteArray} {k : Nat} (he : escP (s.data.toList.drop k) = true) : k + 1 < s.size := by
  rcases Nat.lt_or_ge (k + 1) s.size with h | h
  · exact h
  · rcases Nat.lt_or_ge k s.size with h1 | h1
    · rw [drop_cons h1, drop_nil h] at he
      simp [escP] at he
    · rw [drop_nil h1] at he
      simp [escP] at he
theorem name_esc {s : ByteArray} {k : Nat} (h : k + 1 < s.size) (he : escP (s.data.toList.drop k) = true) : nameP (s.data.toList.drop k) = (s[k + 1] :: (nameP (s.data.toList.drop (k + 2))).1, (nameP (s.data.toList.drop (k + 2))).2 + 2) := by
  rw [drop_cons (k := k) (by omega), drop_cons (k := k + 1) h] at he ⊢
  rw [nameP, if_pos he]
theorem name_sign {s : ByteArray} {k : Nat} (h : k < s.size) (he : escP (s.data.toList.drop k) = false) (hs : signI (nv s[k]) = true) : nameP (s.data.toList.drop k) = (s[k] :: (nameP (s.data.toList.drop (k + 1))).1, (nameP (s.data.toList.drop (k + 1))).2 + 1) := by
  rcases Nat.lt_or_ge (k + 1) s.size with h1 | h1
  · rw [drop_cons (k := k) (by omega), drop_cons (k := k + 1) h1] at he ⊢
    rw [nameP, if_neg (by rw [he]; simp), if_pos hs]
  · rw [drop_cons h, drop_nil h1]
    rw [nameP, if_pos hs]
    simp [nameP]
theorem name_stop {s : ByteArray} {k : Nat} (h : k < s.size) (he : escP (s.data.toList.drop k) = false) (hs : signI (nv s[k]) = false) : nameP (s.data.toList.drop k) = ([], 0) := by
  rcases Nat.lt_or_ge (k + 1) s.size with h1 | h1
  · rw [drop_cons (k := k) (by omega), drop_cons (k := k + 1) h1] at he ⊢
    rw [nameP, if_neg (by rw [he]; simp), if_neg (by rw [hs]; simp)]
  · rw [drop_cons h, drop_nil h1]
    rw [nameP, if_neg (by rw [hs]; simp)]

/-- what is known of a name that is read up to byte k -/
def NameRel (s : ByteArray) (B : Nat) (w : World) (i : Value) (wr : World) : Prop :=
  ∃ (k : Nat) (acc : Bs), k ≤ s.size ∧ i = .int .i64 k ∧ acc.length ≤ k ∧ nameP s.data.toList = (acc ++ (nameP (s.data.toList.drop k)).1, k + (nameP (s.data.toList.drop k)).2) ∧ IsB B B acc wr ∧ Below B w wr

theorem ret_name {a b : Bs} {m n : Nat} (h1 : a = b) (h2 : m = n) : Ending.returned (.tuple #[.string (bs a), .int .i64 (m : Int)]) = Ending.returned (.tuple #[.string (bs b), .int .i64 (n : Int)]) := by rw [h1, h2]

set_option maxRecDepth 100000 in
set_option maxHeartbeats 2000000 in
theorem name_ct (s : ByteArray) (hs : s.size ≤ 140737488355328) (w : World) : Calls Tryd.prog 69 #[.string s] w fun e w' => e = .returned (.tuple #[.string (bs (nameP s.data.toList).1), .int .i64 ((nameP s.data.toList).2 : Int)]) ∧ Below w.heap.size w w' := by
  have HS := Lib.hid (show s.size ≤ maxLen by unfold maxLen; omega)
  go_enter Tryd.func69, Tryd.ntmps69
  go_wp2_with fail
  go_loopw [5] (fun i wr => NameRel s w.heap.size w i wr) (fun i _ => s.size - (intOf i).toNat)
  case atStart => exact ⟨0, [], by omega, rfl, by simp, by simp, IsB.new w _ (Nat.le_refl _), (Below.refl _ _).alloc (Nat.le_refl _) _⟩
  case round =>
    obtain ⟨k, acc, hk, rfl, hal, hinv, hB, hbel⟩ := hrel
    have hz := hbel.size
    have HBl := Lib.hid hbel
    replace hB := Lib.hid hB
    replace hinv := Lib.hid hinv
    clear hbel
    by_cases hlt : k < s.size
    · have hlt' : (k : Int) < (s.size : Int) := by omega
      have c2 := fun w => escape_ct (s.extract k s.size) (sub_len _ _ HS.out) w
      simp only [Lib.extract_to_end] at c2
      cases he : escP (s.data.toList.drop k)
      · simp only [he] at c2
        replace c2 := Lib.hid c2
        have c1 := fun w => sign_ct (nv s[k]) (nv_nn _) (nv_lt _) w
        cases hg : signI (nv s[k])
        · simp only [hg] at c1
          replace c1 := Lib.hid c1
          have hst := Lib.hid (name_stop hlt he hg)
          clear he hg
          go_wp2_with (first | (go_at_call 49; (with_reducible refine (c2.out _).mono ?_); rintro e w' ⟨rfl, rfl⟩) | (go_at_call 48; (with_reducible refine (c1.out _).mono ?_); rintro e w' ⟨rfl, rfl⟩) | (go_at_call 18; (with_reducible refine (builderString_ct _ _ acc _ hB.out hz).mono ?_); rintro e w1 ⟨rfl, hb1⟩))
          go_ret2
          refine ⟨?_, HBl.out.trans hb1⟩
          rw [hinv.out, hst.out]
          exact ret_name (by simp) (by simp)
        · simp only [hg] at c1
          replace c1 := Lib.hid c1
          have hst := Lib.hid (name_sign hlt he hg)
          clear he hg
          go_wp2_with (first | (go_at_call 49; (with_reducible refine (c2.out _).mono ?_); rintro e w' ⟨rfl, rfl⟩) | (go_at_call 48; (with_reducible refine (c1.out _).mono ?_); rintro e w' ⟨rfl, rfl⟩) | (go_at_call 58; (with_reducible refine (writeByte_ct _ _ acc s[k] _ hB.out (by omega) hz).mono ?_); rintro e w1 ⟨rfl, hb0, hb1⟩; replace hb0 := Lib.hid hb0; replace hb1 := Lib.hid hb1))
          go_roundw
          case rel =>
            refine ⟨k + 1, acc ++ [s[k]], by omega, by go_num, by simp; omega, ?_, hb0.out, HBl.out.trans hb1.out⟩
            rw [hinv.out, hst.out]
            simp
            omega
          case measure => simp [intOf]; omega
      · simp only [he] at c2
        replace c2 := Lib.hid c2
        have hrm := esc_room he
        have hst := Lib.hid (name_esc hrm he)
        clear he
        have hrm' : (k : Int) + 1 < (s.size : Int) := by omega
        go_wp2_with (first | (go_at_call 49; (with_reducible refine (c2.out _).mono ?_); rintro e w' ⟨rfl, rfl⟩) | (go_at_call 58; (with_reducible refine (writeByte_ct _ _ acc s[k + 1] _ hB.out (by omega) hz).mono ?_); rintro e w1 ⟨rfl, hb0, hb1⟩; replace hb0 := Lib.hid hb0; replace hb1 := Lib.hid hb1))
        go_roundw
        case rel =>
          refine ⟨k + 2, acc ++ [s[k + 1]], by omega, by go_num, by simp; omega, ?_, hb0.out, HBl.out.trans hb1.out⟩
          rw [hinv.out, hst.out]
          simp
          omega
        case measure => simp [intOf]; omega
    · obtain rfl : k = s.size := by omega
      have hst := Lib.hid (show nameP (s.data.toList.drop s.size) = ([], 0) by rw [drop_nil (Nat.le_refl _)]; simp [nameP])
      go_wp2_with ((go_at_call 18; (with_reducible refine (builderString_ct _ _ acc _ hB.out hz).mono ?_); rintro e w1 ⟨rfl, hb1⟩))
      go_ret2
      refine ⟨?_, HBl.out.trans hb1⟩
      rw [hinv.out, hst.out]
      exact ret_name (by simp) (by simp)

end Go.Proofs.YtmjbaimccbkmpaaDoor.tok

namespace Go.Proofs.YtmjbaimccbkmpaaDoor.base
open Go.RowKit

section
variable {W w w' : World} {a b N B : Nat} {us vs : Array Value}
theorem own2_on (k : Below w.heap.size w w') (h : (∀ i, w.cell? ⟨a, i, none⟩ = us[i]?) ∧ (∀ i, w.cell? ⟨b, i, none⟩ = vs[i]?) ∧ N ≤ w.heap.size ∧ Below B W w) (ha : a < N) (hb : b < N) (hB : B ≤ N) :
    (∀ i, w'.cell? ⟨a, i, none⟩ = us[i]?) ∧ (∀ i, w'.cell? ⟨b, i, none⟩ = vs[i]?) ∧ N ≤ w'.heap.size ∧ Below B W w' :=
  have hN := h.2.2.1
  ⟨own_below k h.1 (by omega), own_below k h.2.1 (by omega), Nat.le_trans hN k.size, h.2.2.2.trans (k.mono (by omega))⟩
theorem own2_alloc {o : Obj} (h : (∀ i, w.cell? ⟨a, i, none⟩ = us[i]?) ∧ (∀ i, w.cell? ⟨b, i, none⟩ = vs[i]?) ∧ N ≤ w.heap.size ∧ Below B W w) (ha : a < N) (hb : b < N) (hB : B ≤ N) :
    (∀ i, (w.alloc o).cell? ⟨a, i, none⟩ = us[i]?) ∧ (∀ i, (w.alloc o).cell? ⟨b, i, none⟩ = vs[i]?) ∧ N ≤ (w.alloc o).heap.size ∧ Below B W (w.alloc o) :=
  own2_on ((Below.refl _ _).alloc (Nat.le_refl _) o) h ha hb hB
theorem own2_drew (h : (∀ i, w.cell? ⟨a, i, none⟩ = us[i]?) ∧ (∀ i, w.cell? ⟨b, i, none⟩ = vs[i]?) ∧ N ≤ w.heap.size ∧ Below B W w) :
    (∀ i, w.drew.cell? ⟨a, i, none⟩ = us[i]?) ∧ (∀ i, w.drew.cell? ⟨b, i, none⟩ = vs[i]?) ∧ N ≤ w.drew.heap.size ∧ Below B W w.drew := ⟨h.1, h.2.1, h.2.2.1, h.2.2.2.drew⟩
theorem own2_put {p : Addr} {v : Value} (h : (∀ i, w.cell? ⟨a, i, none⟩ = us[i]?) ∧ (∀ i, w.cell? ⟨b, i, none⟩ = vs[i]?) ∧ N ≤ w.heap.size ∧ Below B W w) (ha : a < N) (hb : b < N) (hB : B ≤ N) (hp : N ≤ p.block) :
    (∀ i, (w.setCell p v).cell? ⟨a, i, none⟩ = us[i]?) ∧ (∀ i, (w.setCell p v).cell? ⟨b, i, none⟩ = vs[i]?) ∧ N ≤ (w.setCell p v).heap.size ∧ Below B W (w.setCell p v) :=
  ⟨own_put h.1 (by omega), own_put h.2.1 (by omega), by rw [size_setCell]; exact h.2.2.1, h.2.2.2.setCell (by omega) v⟩
end
end Go.Proofs.YtmjbaimccbkmpaaDoor.base

namespace Go.Proofs.YtmjbaimccbkmpaaDoor.tok
open Go.RowKit Go.Proofs.YtmjbaimccbkmpaaDoor.base
set_option linter.unusedVariables false

theorem all_bytes {P : UInt8 → Prop} (h : ∀ n : Fin 256, P (UInt8.ofNat n.val)) (b : UInt8) : P b := by
  have := h ⟨b.toNat, b.toNat_lt⟩
  simpa using this

/-- how many digits begin it -/
def digitsP (l : Bs) : Nat := (l.takeWhile fun c => digI (nv c)).length

theorem cut_len (p : UInt8 → Bool) (l : Bs) : l.length = (l.takeWhile p).length + (l.dropWhile p).length := by
  have := congrArg List.length (List.takeWhile_append_dropWhile (p := p) (l := l))
  rw [List.length_append] at this
  omega
theorem digits_set (b : UInt8) : ([48, 49, 50, 51, 52, 53, 54, 55, 56, 57] : List UInt8).contains b = digI (nv b) := by
  revert b
  refine fun b => all_bytes (P := fun b => ([48, 49, 50, 51, 52, 53, 54, 55, 56, 57] : List UInt8).contains b = digI (nv b)) ?_ b
  decide +kernel
theorem digits_len (l : Bs) : ((l.length : Nat) : Int) - ((Lib.trimLeftS l [48, 49, 50, 51, 52, 53, 54, 55, 56, 57]).length : Int) = (digitsP l : Int) := by
  have h := cut_len (fun c => digI (nv c)) l
  have e : Lib.trimLeftS l [48, 49, 50, 51, 52, 53, 54, 55, 56, 57] = l.dropWhile fun c => digI (nv c) := by
    unfold Lib.trimLeftS
    congr 1
    funext b
    exact digits_set b
  rw [e]
  unfold digitsP
  omega
theorem digits_le (l : Bs) : digitsP l ≤ l.length := by
  have h := cut_len (fun c => digI (nv c)) l
  unfold digitsP
  omega
theorem bs_size (l : Bs) : (bs l).size = l.length := rfl

theorem ret_i64 {a b : Int} (h : a = b) : Ending.returned (.int .i64 a) = .returned (.int .i64 b) := by rw [h]

theorem trimL_ct (s : ByteArray) (cs : Bs) (hcs : cs.length < 4294967281) (hascii : cs.all (fun b => decide (b.toNat < 128)) = true) (w : World) :
    Calls Tryd.prog 44 #[.string s, .string ⟨cs.toArray⟩] w fun e w' => e = .returned (.string ⟨(Lib.trimLeftS s.data.toList cs).toArray⟩) ∧ Below w.heap.size w w' :=
  Any.strings_TrimLeft_laid Tryd.lays161 (by kernel_rfl) s ⟨cs.toArray⟩ w (by simpa [ByteArray.size] using hcs) (ascii_of_all (by simpa using hascii))

set_option maxHeartbeats 1000000 in
theorem digits_ct (s : ByteArray) (hs : s.size ≤ maxLen) (w : World) : Calls Tryd.prog 70 #[.string s] w fun e w' => e = .returned (.int .i64 (digitsP s.data.toList : Int)) ∧ Below w.heap.size w w' := by
  unfold maxLen at hs
  have hl := Lib.hid (digits_len s.data.toList)
  have hz := Lib.size_eq s
  have hle := digits_le s.data.toList
  have ht : (Lib.trimLeftS s.data.toList [48, 49, 50, 51, 52, 53, 54, 55, 56, 57]).length ≤ s.size := by have := hl.out; omega
  replace hz := Lib.hid hz
  have c1 := Lib.hid (fun w => trimL_ct s [48, 49, 50, 51, 52, 53, 54, 55, 56, 57] (by decide) (by decide) w)
  generalize Lib.trimLeftS s.data.toList [48, 49, 50, 51, 52, 53, 54, 55, 56, 57] = T at *
  go_enter Tryd.func70, Tryd.ntmps70
  go_wp2_with ((go_at_call 44; (with_reducible refine (c1.out _).mono ?_); rintro e w1 ⟨rfl, hb1⟩))
  go_ret
  refine ⟨ret_i64 ?_, hb1⟩
  rw [← hl.out, ← hz.out]

/-- one digit more -/
def addD (n : Int) (c : UInt8) : Int := min (10 * n + (nv c - 48)) 1000000000
theorem addD_bd (n : Int) (c : UInt8) (h0 : 0 ≤ n) (hc : digI (nv c) = true) : 0 ≤ addD n c ∧ addD n c ≤ 1000000000 := by
  simp [digI] at hc
  unfold addD
  omega

theorem grown_set (w : World) (b : Nat) (i : Nat) (u : Value) : w.grownBy (w.setCell ⟨b, i, none⟩ u) (some b) :=
  ⟨rfl, rfl, rfl, by simp [World.setCell], fun k _ hk => Below.heap_setCell _ _ _ _ (fun e => hk (by simp [e]))⟩

set_option maxHeartbeats 1000000 in
theorem add_ct (c : UInt8) (n : Int) (b : Nat) (w : World) (hc : digI (nv c) = true) (h0 : 0 ≤ n) (h1 : n ≤ 1000000000) (h : Blk w b 3 #[.int .i64 n]) :
    Calls Tryd.prog 71 #[.int .u8 (nv c), .pointer (some ⟨b, 0, none⟩)] w fun e w' => e = .returned (.tuple #[]) ∧ Blk w' b 3 #[.int .i64 (addD n c)] ∧ w.grownBy w' (some b) := by
  have hc1 : 48 ≤ nv c ∧ nv c ≤ 57 := by simpa [digI] using hc
  have hd : addD n c = min (10 * n + (nv c - 48)) 1000000000 := rfl
  have c0 := h.cell
  have f0 := h.frozen
  replace h := Lib.hid h
  replace hd := Lib.hid hd
  obtain ⟨hc2, hc3⟩ := hc1
  generalize nv c = x at *
  clear hc
  go_enter Tryd.func71, Tryd.ntmps71
  go_wp2
  go_end0
  rw [hd.out]
  exact ⟨rfl, by simpa using h.out.put 0 _, grown_set _ _ _ _⟩

theorem add48 (n : Int) (b : Nat) (w : World) (h0 : 0 ≤ n) (h1 : n ≤ 1000000000) (h : Blk w b 3 #[.int .i64 n]) :
    Calls Tryd.prog 71 #[.int .u8 48, .pointer (some ⟨b, 0, none⟩)] w fun e w' => e = .returned (.tuple #[]) ∧ Blk w' b 3 #[.int .i64 (addD n 48)] ∧ w.grownBy w' (some b) := add_ct 48 n b w rfl h0 h1 h

/-- []byte(s): a new row -/
theorem bytes_of (s : ByteArray) (w : World) : ∃ cap w', (convert 9 34 (.string s)).run Tryd.prog w = .ok (.slice (some ⟨w.heap.size, 0, none⟩) s.size cap) w' ∧ Below w.heap.size w w' ∧ w.heap.size + 1 ≤ w'.heap.size ∧
    (∀ (j : Nat) (u : UInt8), s.data.toList[j]? = some u → w'.cell? ⟨w.heap.size, j, none⟩ = some (.int .u8 (nv u))) ∧ ∀ j, j < s.size → w'.frozen? ⟨w.heap.size, j, none⟩ = false := by
  refine ⟨_, _, run_bytes_of_string w 9 34 5 s Tryd.underlying9 Tryd.underlying34 Tryd.underlying5, ((Below.refl _ _).drew).alloc (Nat.le_refl _) _, by simp, fun j u hu => ?_, fun j hj => ?_⟩
  · have hj : j < s.data.size := by
      have := (List.getElem?_eq_some_iff.1 hu).1
      simpa using this
    have hb := bytesRow_at s (grownCap w s.size 0 5) j hj
    have hnew : (w.drew.alloc (.cells (bytesRow s (grownCap w s.size 0 5)) 5 ((bytesRow s (grownCap w s.size 0 5)).size, (bytesRow s (grownCap w s.size 0 5)).size + 1))).heap[w.heap.size]? = some (.cells (bytesRow s (grownCap w s.size 0 5)) 5 ((bytesRow s (grownCap w s.size 0 5)).size, (bytesRow s (grownCap w s.size 0 5)).size + 1)) := heap_alloc_new w.drew _
    rw [Lib.cell_of_heap hnew, hb]
    have hu2 : s.data[j] = u := by
      obtain ⟨h1, h2⟩ := List.getElem?_eq_some_iff.1 hu
      simpa using h2
    rw [hu2]
  · have hnew : (w.drew.alloc (.cells (bytesRow s (grownCap w s.size 0 5)) 5 ((bytesRow s (grownCap w s.size 0 5)).size, (bytesRow s (grownCap w s.size 0 5)).size + 1))).heap[w.heap.size]? = some (.cells (bytesRow s (grownCap w s.size 0 5)) 5 ((bytesRow s (grownCap w s.size 0 5)).size, (bytesRow s (grownCap w s.size 0 5)).size + 1)) := heap_alloc_new w.drew _
    have hsz : j < (bytesRow s (grownCap w s.size 0 5)).size := by
      have hj2 : j < s.data.size := hj
      have := bytesRow_at s (grownCap w s.size 0 5) j hj2
      exact (Array.getElem?_eq_some_iff.1 this).1
    simp only [World.frozen?, hnew]
    simp
    omega

theorem take_digits (l : Bs) : ∀ c ∈ l.take (digitsP l), digI (nv c) = true := by
  have h : l.take (digitsP l) = l.takeWhile fun c => digI (nv c) := by
    have h1 := List.takeWhile_append_dropWhile (p := fun c => digI (nv c)) (l := l)
    have h2 := congrArg (List.take (digitsP l)) h1
    rw [← h2, digitsP, List.take_left]
  rw [h]
  intro c hc
  exact (List.all_eq_true.1 (List.all_takeWhile (p := fun c => digI (nv c)) (l := l))) c hc
theorem fold_bd : ∀ (l : Bs) (n : Int), (∀ c ∈ l, digI (nv c) = true) → 0 ≤ n → n ≤ 1000000000 → 0 ≤ l.foldl addD n ∧ l.foldl addD n ≤ 1000000000
  | [], n, _, h0, h1 => ⟨h0, h1⟩
  | c :: l, n, h, h0, h1 => by
    obtain ⟨a, b⟩ := addD_bd n c h0 (h c (by simp))
    exact fold_bd l (addD n c) (fun d hd => h d (by simp [hd])) a b
theorem fold_take {l : Bs} {k : Nat} {c : UInt8} (h : l[k]? = some c) (n : Int) : (l.take (k + 1)).foldl addD n = addD ((l.take k).foldl addD n) c := by
  obtain ⟨hl, he⟩ := List.getElem?_eq_some_iff.1 h
  rw [List.take_succ_eq_append_getElem hl, List.foldl_append, he]
  rfl

end Go.Proofs.YtmjbaimccbkmpaaDoor.tok

namespace Go.Proofs.YtmjbaimccbkmpaaDoor.base
open Go.RowKit Go.Proofs.YtmjbaimccbkmpaaDoor.tok
set_option linter.unusedVariables false

/-- the library's table of folds of the first signs -/
def foldTab : List Int := (List.range 128).map fun (c : Nat) => if 65 ≤ c ∧ c ≤ 90 then (c : Int) + 32 else if c = 107 then 8490 else if c = 115 then 383 else if 97 ≤ c ∧ c ≤ 122 then (c : Int) - 32 else (c : Int)
def FoldAt (w : World) : Prop := 0 < w.heap.size ∧ Lib.TabIs Tryd.prog w "unicode.asciiFold" .u16 foldTab
theorem FoldAt.on {w w' : World} (h : FoldAt w) (hb : Below w.heap.size w w') : FoldAt w' := by
  refine ⟨Nat.lt_of_lt_of_le h.1 hb.size, ?_⟩
  have hg : Tryd.prog.globalNamed "unicode.asciiFold" = some 0 := by kernel_rfl
  have h2 := h.2
  unfold Lib.TabIs World.var? at h2 ⊢
  rw [hg] at h2 ⊢
  simp only [Option.bind_some] at h2 ⊢
  rw [hb.block _ h.1]
  exact h2
theorem fold_at : ∀ c : Fin 128, 0 ≤ foldTab.getD c.val 0 ∧ foldTab.getD c.val 0 ≤ 65535 := by decide +kernel

set_option maxRecDepth 100000 in
set_option maxHeartbeats 1000000 in
theorem simple_ct (c : Nat) (hc : c < 128) (w : World) (hF : FoldAt w) :
    Calls Tryd.prog 55 #[.int .i32 c] w fun e w' => e = .returned (.int .i32 (foldTab.getD c 0)) ∧ w = w' := by
  have hcell := hF.2.cell (g := 0) (by kernel_rfl) c (by simpa [foldTab] using hc)
  have hbd := fold_at ⟨c, hc⟩
  simp only at hbd
  generalize foldTab.getD c 0 = r at *
  obtain ⟨r0, r1⟩ := hbd
  have hc' : (c : Int) < 128 := by omega
  clear hF
  go_enter Tryd.func55, Tryd.ntmps55
  go_wp2_with fail
  go_ret
  exact ⟨rfl, rfl⟩

set_option maxRecDepth 100000 in
theorem decode_ct (s : ByteArray) (h : 0 < s.size) (hl : (s[0]'h).toNat < 128) (w : World) :
    Calls Tryd.prog 54 #[.string s] w fun e w' => e = .returned (.tuple #[.int .i32 ((s[0]'h).toNat : Int), .int .i64 1]) ∧ w = w' := by
  have he := empty_no h
  have hl' : (((s[0]'h).toNat : Nat) : Int) < 128 := by omega
  go_enter Tryd.func54, Tryd.ntmps54
  go_wp2_with fail
  go_ret2
  exact ⟨rfl, rfl⟩

end Go.Proofs.YtmjbaimccbkmpaaDoor.base

namespace Go.Proofs.YtmjbaimccbkmpaaDoor.base
open Go.RowKit Go.Proofs.YtmjbaimccbkmpaaDoor.tok
set_option linter.unusedVariables false

def Word (T : Bs) : Prop := T.length ≤ 20 ∧ ∀ c ∈ T, 97 ≤ c.toNat ∧ c.toNat ≤ 122 ∧ c.toNat ≠ 107 ∧ c.toNat ≠ 115
theorem or_is (x y : UInt8) (hy : y.toNat < 128) : decide (128 ≤ bits BinOp.or IntKind.u8 (x.toNat : Int) (y.toNat : Int)) = decide (128 ≤ x.toNat) := by
  rw [u8_or_nat _ _ (by have := x.toNat_lt; omega) (by omega)]
  apply decide_eq_decide.2
  have h1 := Nat.left_le_or (n := x.toNat) (m := y.toNat)
  constructor
  · intro h
    rcases Nat.lt_or_ge x.toNat 128 with hx | hx
    · have := Nat.or_lt_two_pow (n := 7) hx hy
      omega
    · exact hx
  · intro h
    omega
theorem fold_letter : ∀ c : Fin 123, 97 ≤ c.val → c.val ≠ 107 → c.val ≠ 115 → foldTab.getD c.val 0 = (c.val : Int) - 32 ∧ foldTab.getD (c.val - 32) 0 = (c.val : Int) := by decide +kernel
theorem fold_drop {l : Bs} {i : Nat} {x : UInt8} (h : l[i]? = some x) : l.drop i = x :: l.drop (i + 1) := by
  obtain ⟨hl, he⟩ := List.getElem?_eq_some_iff.1 h
  rw [List.drop_eq_getElem_cons hl, he]
theorem fold_high {x y : UInt8} (hx : 128 ≤ x.toNat) (hy : y.toNat < 123) (h0 : 97 ≤ y.toNat) : Lib.foldEq x y = false := by
  unfold Lib.foldEq
  exact decide_eq_false (by omega)

theorem below_iter (w : World) (k : Nat) (s : ByteArray) (p B : Nat) (h : B ≤ k) : Below B w (w.iterAt k s p) := by
  refine ⟨rfl, rfl, rfl, by simp [World.iterAt], fun j hj => ?_⟩
  simp only [World.iterAt]
  rw [Array.getElem?_setIfInBounds, if_neg (by omega)]
def lits (U : Nat → Value) : Nat → Nat → List Value
  | 0, _ => []
  | n + 1, k => U k :: lits U n (k + 1)
theorem lits_of (U : Nat → Value) : ∀ (n k : Nat) (l : List Value), l.length = n → (∀ i, i < n → l[i]? = some (U (k + i))) → l = lits U n k
  | 0, k, l, h, _ => List.eq_nil_of_length_eq_zero h
  | n + 1, k, [], h, _ => by cases h
  | n + 1, k, x :: l, h, hx => by
    have h0 := hx 0 (by omega)
    simp at h0
    rw [lits, h0, lits_of U n (k + 1) l (by simpa using h) (fun i hi => by have := hx (i + 1) (by omega); rw [show k + 1 + i = k + (i + 1) by omega]; simpa using this)]
set_option maxRecDepth 100000 in
theorem frame_lit (f : Array Value) (h : f.size = 123) : ∃ U : Nat → Value, f = #[U 0, U 1, U 2, U 3, U 4, U 5, U 6, U 7, U 8, U 9, U 10, U 11, U 12, U 13, U 14, U 15, U 16, U 17, U 18, U 19, U 20, U 21, U 22, U 23, U 24, U 25, U 26, U 27, U 28, U 29, U 30, U 31, U 32, U 33, U 34, U 35, U 36, U 37, U 38, U 39, U 40, U 41, U 42, U 43, U 44, U 45, U 46, U 47, U 48, U 49, U 50, U 51, U 52, U 53, U 54, U 55, U 56, U 57, U 58, U 59, U 60, U 61, U 62, U 63, U 64, U 65, U 66, U 67, U 68, U 69, U 70, U 71, U 72, U 73, U 74, U 75, U 76, U 77, U 78, U 79, U 80, U 81, U 82, U 83, U 84, U 85, U 86, U 87, U 88, U 89, U 90, U 91, U 92, U 93, U 94, U 95, U 96, U 97, U 98, U 99, U 100, U 101, U 102, U 103, U 104, U 105, U 106, U 107, U 108, U 109, U 110, U 111, U 112, U 113, U 114, U 115, U 116, U 117, U 118, U 119, U 120, U 121, U 122] := by
  refine ⟨fun k => f.getD k undef, ?_⟩
  generalize hU : (fun k => f.getD k undef) = U
  have e : f.toList = lits U 123 0 := lits_of U 123 0 f.toList (by simpa using h) (fun i hi => by
    subst hU
    simp [h, hi, Array.getD])
  apply Array.toList_inj.1
  rw [e]
  simp only [lits, Nat.zero_add, Nat.reduceAdd]

set_option maxRecDepth 100000 in
set_option maxHeartbeats 8000000 in
theorem fold_ct (s : ByteArray) (hs : s.size < 4294967281) (T : Bs) (hT : Word T) (w : World) (hF : FoldAt w) :
    Calls Tryd.prog 32 #[.string s, .string (bs T)] w fun e w' => e = .returned (.bool (Lib.equalFold s.data.toList T)) ∧ Below w.heap.size w w' := by
  have HF := Lib.hid hF
  have HT := Lib.hid hT
  have hTl : (bs T).size ≤ 20 := hT.1
  obtain ⟨M, hM⟩ : ∃ M : Nat, min (s.size : Int) ((bs T).size : Int) = (M : Int) := ⟨min s.size (bs T).size, by omega⟩
  have hMs : M ≤ s.size := by omega
  have hMt : M ≤ (bs T).size := by omega
  have hMe : M = s.size ∨ M = (bs T).size := by omega
  clear hF hT
  go_enter Tryd.func32, Tryd.ntmps32
  go_wp2_with fail
  refine wp_scope_jumps 0 (fun a' w' => w = w' ∧ a'.defers = [] ∧ a'.tmps.size = 123 ∧ a'.tmps[0]? = some (.string s) ∧ a'.tmps[1]? = some (.string (bs T)) ∧ ∃ i : Nat, a'.tmps[5]? = some (.int .i64 i) ∧ i < M ∧ (∃ x : UInt8, s.data.toList[i]? = some x ∧ 128 ≤ x.toNat) ∧ Lib.equalFold s.data.toList T = false) (fun _ _ => 0) rfl ?_ ?_
  · go_wp2_with fail
    go_loopg [5] M (fun g s5 wx => w = wx ∧ ∃ i : Nat, i + g = M ∧ s5 = .int .i64 i ∧ Lib.equalFold (s.data.toList.drop i) (T.drop i) = Lib.equalFold s.data.toList T)
    case atStart => exact ⟨rfl, 0, by omega, rfl, rfl⟩
    case round =>
      obtain ⟨rfl, i, hig, rfl, hinv⟩ := hrel
      have HI := Lib.hid hinv
      clear hinv hM
      cases gk with
      | zero =>
        obtain rfl : i = M := by omega
        have hiM : ¬ ((i : Int) < (i : Int)) := by omega
        have hE : Lib.equalFold s.data.toList T = decide (s.size = (bs T).size) := by
          have l1 := Lib.size_eq s
          have l2 : (bs T).size = T.length := rfl
          rw [← HI.out, Lib.equalFold_end _ _ (by
            rcases hMe with h | h
            · exact Or.inl (List.drop_eq_nil_of_le (by omega))
            · exact Or.inr (List.drop_eq_nil_of_le (by omega))), List.length_drop, List.length_drop]
          exact decide_eq_decide.2 (by omega)
        by_cases hst : s.size = (bs T).size
        · have hb : ((s.size : Int) == ((bs T).size : Int)) = true := beq_iff_eq.2 (by omega)
          have HE := Lib.hid (hE.trans (decide_eq_true hst))
          clear hE hst
          go_wp2_with fail
          simp only [Exit.jump]
          go_ret
          exact ⟨by rw [HE.out]; rfl, Below.refl _ _⟩
        · have hb : ((s.size : Int) == ((bs T).size : Int)) = false := beq_eq_false_iff_ne.2 (by omega)
          have HE := Lib.hid (hE.trans (decide_eq_false hst))
          clear hE hst
          go_wp2_with fail
          simp only [Exit.jump]
          go_ret
          exact ⟨by rw [HE.out]; rfl, Below.refl _ _⟩
      | succ g =>
        have hiM : (i : Int) < (M : Int) := by omega
        have hisz : (i : Int) < (s.size : Int) := by omega
        have hitz : (i : Int) < ((bs T).size : Int) := by omega
        obtain ⟨x, hx⟩ : ∃ x : UInt8, s[i]'(by omega) = x := ⟨_, rfl⟩
        obtain ⟨y, hy⟩ : ∃ y : UInt8, (bs T)[i]'(by omega) = y := ⟨_, rfl⟩
        have hxl : s.data.toList[i]? = some x := by rw [← hx]; exact Lib.data_getElem? s i (by omega)
        have hyl : T[i]? = some y := by rw [← hy]; exact Lib.data_getElem? (bs T) i (by omega)
        obtain ⟨hy1, hy2, hy3, hy4⟩ := HT.out.2 y (List.mem_of_getElem? hyl)
        have hor := or_is x y (by omega)
        have HX := Lib.hid (fold_drop hxl)
        have HY := Lib.hid (fold_drop hyl)
        have Hg := Lib.hid hxl
        clear hxl hyl
        by_cases hx1 : 128 ≤ x.toNat
        · rw [decide_eq_true hx1] at hor
          have HN := Lib.hid (show Lib.equalFold s.data.toList T = false by rw [← HI.out, HX.out, HY.out, Lib.equalFold_no _ _ _ _ (fold_high hx1 (by omega) hy1)])
          go_wp2_with fail
          go_step3
          exact ⟨rfl, rfl, rfl, rfl, rfl, rfl, i, rfl, by omega, ⟨x, Hg.out, hx1⟩, HN.out⟩
        · rw [decide_eq_false hx1] at hor
          go_wp2_with fail
          all_goals (try simp only [beq_iff_eq, beq_eq_false_iff_ne, ne_eq] at *)
          all_goals first
            | (go_roundg g
               case measure => omega
               case rel => exact ⟨rfl, i + 1, by omega, by first | rfl | simp, by rw [← HI.out, HX.out, HY.out, Lib.equalFold_yes _ _ _ _ (decide_eq_true (by omega))]⟩)
            | (simp only [Exit.jump]
               go_ret
               refine ⟨?_, Below.refl _ _⟩
               rw [← HI.out, HX.out, HY.out, Lib.equalFold_no _ _ _ _ (decide_eq_false (by omega))]
               rfl)
  · rintro ⟨f, d⟩ w' ⟨rfl, hd, hsz, f0, f1, i, f5, hi, ⟨x, hx, hhi⟩, hno⟩
    simp only at hd hsz f0 f1 f5
    subst hd
    obtain ⟨U, rfl⟩ := frame_lit f hsz
    obtain ⟨e0, e1, e5⟩ : U 0 = .string s ∧ U 1 = .string (bs T) ∧ U 5 = .int .i64 i := ⟨Option.some.inj f0, Option.some.inj f1, Option.some.inj f5⟩
    rw [e0, e1, e5]
    clear f0 f1 f5 e0 e1 e5 hsz
    have hyl : ∃ y : UInt8, T[i]? = some y := ⟨T[i]'(by have : (bs T).size = T.length := rfl; omega), List.getElem?_eq_getElem _⟩
    obtain ⟨y, hy⟩ := hyl
    obtain ⟨hy1, hy2, hy3, hy4⟩ := HT.out.2 y (List.mem_of_getElem? hy)
    have hi1 : (i : Int) ≤ (s.size : Int) := by omega
    have hi2 : (i : Int) ≤ ((bs T).size : Int) := by omega
    have hi3 : (0 : Int) ≤ (i : Int) := by omega
    have hfl := fold_letter ⟨y.toNat, by omega⟩ hy1 hy3 hy4
    simp only at hfl
    have c1 := fun W hW => simple_ct y.toNat (by omega) W hW
    have c2 := fun W hW => simple_ct (y.toNat - 32) (by omega) W hW
    rw [hfl.1] at c1
    rw [hfl.2, show ((y.toNat - 32 : Nat) : Int) = (y.toNat : Int) - 32 by omega] at c2
    replace c1 := Lib.hid c1
    replace c2 := Lib.hid c2
    have hS0 : 0 < (s.extract i s.size).size := by simp only [ByteArray.size_extract]; omega
    have hT0 : 0 < ((bs T).extract i (bs T).size).size := by simp only [ByteArray.size_extract]; omega
    have hSx : (s.extract i s.size)[0]'hS0 = x := by
      have h1 := Lib.data_getElem? (s.extract i s.size) 0 hS0
      rw [Lib.extract_to_end, List.getElem?_drop, Nat.add_zero, hx] at h1
      exact (Option.some.inj h1).symm
    have hTy : ((bs T).extract i (bs T).size)[0]'hT0 = y := by
      have h1 := Lib.data_getElem? ((bs T).extract i (bs T).size) 0 hT0
      rw [Lib.extract_to_end, List.getElem?_drop, Nat.add_zero] at h1
      exact (Option.some.inj (h1.symm.trans hy))
    have hdec := decode_high (s.extract i s.size) 0 hS0 (by rw [hSx]; exact hhi)
    have hdle := decode_le (s.extract i s.size) 0
    have cD := decode_ct ((bs T).extract i (bs T).size) hT0 (by rw [hTy]; omega)
    rw [hTy] at cD
    replace cD := Lib.hid cD
    have hempty := empty_no hT0
    have hl0 : (((bs T).extract i (bs T).size).size : Int) ≥ 1 := by omega
    have hn0 : ((((bs T).extract i (bs T).size).size : Int) == 0) = false := by simp; omega
    have HNo := Lib.hid hno
    clear hfl hSx hTy hx hhi hy hno
    go_wp2_with fail
    generalize s.extract i s.size = s1 at *
    generalize (bs T).extract i (bs T).size = t1 at *
    generalize hV : w.iter s1 0 = V
    have HV := Lib.hid (show V.heap[w.heap.size]? = some (.stringIter s1 0) by subst hV; exact heap_alloc_new w _)
    have HB := Lib.hid (show Below w.heap.size w V by subst hV; exact (Below.refl _ _).alloc (Nat.le_refl _) _)
    clear hV
    go_loopw [1] (fun v wr => v = .string t1 ∧ wr = V) (fun _ _ => 0)
    case atStart => exact ⟨rfl, rfl⟩
    case round =>
      obtain ⟨rfl, rfl⟩ := hrel
      have hnx : ∀ ty, (Instr.next (.pointer (some ⟨w.heap.size, 0, none⟩)) true ty).run Tryd.prog wr = _ := fun ty => Lib.run_next_any_at wr w.heap.size s1 0 ty HV.out hS0
      generalize hrn : (Utf8.decode s1 0).1 = r at *
      generalize hwn : wr.iterAt w.heap.size s1 (0 + (Utf8.decode s1 0).2) = WN at *
      have HBN := Lib.hid (show Below w.heap.size w WN by rw [← hwn]; exact HB.out.trans (below_iter _ _ _ _ _ (Nat.le_refl _)))
      obtain ⟨hr1, -⟩ := hdec
      have e1 : ((y.toNat : Int) == (r : Int)) = false := by simp; omega
      have e2 : (y.toNat : Int) < (r : Int) := by omega
      have e3 : ¬ ((r : Int) < 128) := by omega
      clear hrn hwn
      go_wp2_with (first
        | (go_at_call 54; (with_reducible refine (cD.out _).mono ?_); rintro e W3 ⟨rfl, rfl⟩)
        | (go_at_call 55; (with_reducible refine (c1.out _ (HF.out.on HBN.out)).mono ?_); rintro e W4 ⟨rfl, rfl⟩))
      go_loopg [13] 1 (fun g v wx => WN = wx ∧ ((g = 1 ∧ v = .int .i32 ((y.toNat : Int) - 32)) ∨ (g = 0 ∧ v = .int .i32 (y.toNat : Int))))
      case atStart => exact ⟨rfl, .inl ⟨rfl, rfl⟩⟩
      case round =>
        obtain ⟨rfl, hv⟩ := hrel
        rcases hv with ⟨rfl, rfl⟩ | ⟨rfl, rfl⟩
        · have e4 : (((y.toNat : Int) - 32) == (y.toNat : Int)) = false := by simp; omega
          have e5 : (y.toNat : Int) - 32 < (r : Int) := by omega
          go_wp2_with (first
            | (go_at_call 55; (with_reducible refine (c2.out _ (HF.out.on HBN.out)).mono ?_); rintro e W4 ⟨rfl, rfl⟩))
          go_roundg 0
          case rel => exact ⟨rfl, .inr ⟨rfl, rfl⟩⟩
          case measure => omega
        · go_wp2_with fail
          simp only [Exit.jump]
          go_ret
          exact ⟨by rw [HNo.out]; rfl, HBN.out⟩

end Go.Proofs.YtmjbaimccbkmpaaDoor.base

namespace Go.Proofs.YtmjbaimccbkmpaaDoor.base
open Go.RowKit Go.ChangeShapes Go.WideShapes Go.ChangeAt
set_option linter.unusedVariables false

set_option maxRecDepth 100000 in
theorem fold_of {w : World} {l : List (String × DataW Unit)} (h : laidMet Tryd.prog l w) (hm : ("unicode.asciiFold", Rows.laid_unicode_asciiFold) ∈ l) : FoldAt w := by
  have ht := tab_of_reads (P := Tryd.prog) (g := 0) (k := .u16) (zs := foldTab) (by kernel_rfl) (by kernel_rfl) Tryd.underlying104 Tryd.underlying103 (by kernel_rfl) (by kernel_rfl) (Lib.laidMet.reads h hm)
  refine ⟨?_, ht⟩
  have hc := ht.cell (g := 0) (by kernel_rfl) 0 (by decide)
  exact World.block_lt_of_cell? w _ hc

end Go.Proofs.YtmjbaimccbkmpaaDoor.base

namespace Go.Proofs.YtmjbaimccbkmpaaDoor.base
open Go.RowKit Go.ChangeShapes Go.WideShapes Go.ChangeAt
set_option linter.unusedVariables false

theorem ownD : ownKnob Tryd.prog.godebug = none := by kernel_rfl
theorem laidOutD : laidOutB Tryd.prog = true := by kernel_rfl

/-- the library's MaxLen holds some number -/
theorem maxLen_of {W : World} (h : W.ShapedOpen Tryd.prog) : ∃ m, W.cell? ⟨3, 0, none⟩ = some (.int .i64 m) :=
  cell_of_shapedOpen_int (zero := #[.int .i64 0]) (t := 3) h (of_decide_eq_true (by kernel_rfl)) (by kernel_rfl) rfl (by kernel_rfl) (by kernel_rfl) Tryd.underlying3

section
variable {H : Type} {enc : TypeId × Value → H}
/-- the wrap: what is listed, and the world's shape -/
theorem returns_door {a : Assume} {C : Checked} {os : Os} {f : FuncId} {fn : Func} {s : ChangeSpec} {conds : List PathCond} {apart fresh handsOn again : Bool} {X : World → Array Value → Prop}
    (hX : ∀ (w w' : World) (args : Array Value), w.heap = w'.heap → X w args → X w' args)
    (own : ownKnob C.prog.godebug = none) (started : os.Started) (noInit : C.prog.inits.idxOf? f = none) (hfn : C.prog.funcs[f]? = some fn)
    (witness : ∃ (w : World) (tape : Tape) (i : Input), w.os = os ∧ (w.forCall tape i).Shaped C.prog ∧ i.vars = [] ∧ Input.okWide C.prog (w.forCall tape i) .any w.heap.size f i ∧
      ((s.pre enc C.prog fn conds apart (w.forCall tape i).memory i.args ∧ X (w.forCall tape i).memory i.args) ∧ sizedMet enc C.prog fn (OpenSpec.ofChange s) apart (w.forCall tape i).memory i.args) ∧ a.holds C.prog (lone (Frame.enter C.prog f i.args .normal) [] (w.forCall tape i)))
    (contract : ∀ (W : World) (base : Nat) (args : Array Value) (ds gs : List (DataW H)) (before : List MemPlace),
      (∀ (j : Nat) t v, fn.params[j]? = some t → args[j]? = some v → Value.okWide C.prog W .any base t v) →
      DataW.Whole enc C.prog fn.params.toList s.vars apart W args.toList ds gs before →
      (DataW.weightsEach C.prog (fn.params.toList ++ s.plain.varTypes C.prog) (ds ++ gs)).all (· ≤ reachBytes) = true → X W args →
      W.ShapedOpen C.prog →
      Calls C.prog f args W fun e W' => ∃ v, e = .returned v ∧ s.post enc C.prog fn apart fresh handsOn again W args v W') :
    ReturnsInHanded a C os f .any (fun w args => (s.pre enc C.prog fn conds apart w args ∧ X w args) ∧ sizedMet enc C.prog fn (OpenSpec.ofChange s) apart w args) (s.post enc C.prog fn apart fresh handsOn again) := by
  refine returnsInHanded_of_calls own started noInit witness ?_
  intro w tape i _ hsh _ hok hpre hholds
  obtain ⟨_, _, _, fn', hfn', _, _, _, _, hval⟩ := hok
  have e : fn' = fn := Option.some.inj (hfn'.symm.trans hfn)
  subst e
  obtain ⟨⟨⟨ds, gs, before, hw, hc⟩, hx⟩, hz⟩ := hpre
  have hw' := DataW.Whole.of_heap (w' := w.forCall tape i) (by rfl) hw
  refine (contract (w.forCall tape i) w.heap.size i.args ds gs before hval hw' (hz.weights hw) (hX _ _ _ (by rfl) hx) hsh).mono fun e W' ⟨v, he, hp⟩ => ?_
  subst he
  exact ChangeSpec.post_blind hp
end

end Go.Proofs.YtmjbaimccbkmpaaDoor.base

namespace Go.Proofs.YtmjbaimccbkmpaaDoor.tok
open Go.RowKit Go.Proofs.YtmjbaimccbkmpaaDoor.base
set_option linter.unusedVariables false

def signAt (l : Bs) : Nat := match l with
  | c :: _ => if nv c = 43 ∨ nv c = 45 then 1 else 0
  | [] => 0
def behindP (r : Bs) : Nat := match r with
  | c :: t => if nv c = 46 then digitsP t else 0
  | [] => 0
def negP (l : Bs) : Bool := match l with
  | c :: _ => decide (nv c = 45)
  | [] => false
/-- the sum of its digits, before its sign -/
def sumP (l : Bs) (f wh be : Nat) : Int :=
  addD (addD (addD (((l.drop f).take wh).foldl addD 0) (((l.drop (f + wh + 1)).take be).getD 0 48)) (((l.drop (f + wh + 1)).take be).getD 1 48)) (((l.drop (f + wh + 1)).take be).getD 2 48)
def numAt (l : Bs) (f wh be : Nat) (neg : Bool) : Int × Nat :=
  if wh + be = 0 then (0, 0) else (if neg then - sumP l f wh be else sumP l f wh be, f + wh + if be = 0 then 0 else 1 + be)
/-- the number at the beginning, in thousandths, and how many bytes it is -/
def numberP (l : Bs) : Int × Nat := numAt l (signAt l) (digitsP (l.drop (signAt l))) (behindP (l.drop (signAt l + digitsP (l.drop (signAt l))))) (negP l)

/-- three more digits, of those behind the point or noughts -/
def loop3 (fr : Bs) (n : Int) (k : Nat) : Int := (List.range k).foldl (fun m i => addD m (fr.getD i 48)) n
theorem bytes_of2 (s : ByteArray) (w : World) (n B : Nat) (D : Bs) (hn : s.size = n) (hB : w.heap.size = B) (hD : s.data.toList = D) : ∃ cap w', (convert 9 34 (.string s)).run Tryd.prog w = .ok (.slice (some ⟨B, 0, none⟩) n cap) w' ∧ Below B w w' ∧ B + 1 ≤ w'.heap.size ∧
    (∀ (j : Nat) (u : UInt8), D[j]? = some u → w'.cell? ⟨B, j, none⟩ = some (.int .u8 (nv u))) := by
  subst hn hB hD
  obtain ⟨c, w', h1, h2, h3, h4, _⟩ := bytes_of s w
  exact ⟨c, w', h1, h2, h3, h4⟩
theorem Blk.grow {w w' : World} {k : Nat} {t : TypeId} {cs : Array Value} {b : Nat} (h : Blk w k t cs) (hg : w.grownBy w' (some b)) (hk : k ≠ b) : Blk w' k t cs := (hg.block k h.lt (by simp [hk])).trans h
theorem below_grow {B b : Nat} {a w w' : World} (h : Below B a w) (hg : w.grownBy w' (some b)) (hb : B ≤ b) (hz : B ≤ w.heap.size) : Below B a w' := h.grown hg hz (fun k hk => by cases hk; exact hb)
theorem take_extract (s : ByteArray) (a n : Nat) : (s.extract a (a + n)).data.toList = (s.data.toList.drop a).take n := by rw [Lib.extract_data, Nat.add_sub_cancel_left]
theorem ret_num {a b m n : Int} (h1 : a = b) (h2 : m = n) : Ending.returned (.tuple #[.int .i64 a, .int .i64 m]) = Ending.returned (.tuple #[.int .i64 b, .int .i64 n]) := by rw [h1, h2]
theorem hp_room {l : Bs} {k : Nat} (h : Lib.hasPrefix (l.drop k) [46] = true) : k + 1 ≤ l.length := by
  rcases Nat.lt_or_ge k l.length with h1 | h1
  · omega
  · rw [List.drop_eq_nil_of_le h1] at h
    exact absurd h (by decide)
theorem getD_byte {t : ByteArray} {m : Nat} (h : m < t.size) (d : UInt8) : t.data.toList.getD m d = t[m] := by
  obtain ⟨⟨l⟩⟩ := t
  have hl : m < l.length := h
  show l.getD m d = l[m]
  rw [List.getD_eq_getElem?_getD, List.getElem?_eq_getElem hl]
  rfl
theorem loop3_step (fr : Bs) (n : Int) (k : Nat) : loop3 fr n (k + 1) = addD (loop3 fr n k) (fr.getD k 48) := by simp [loop3, List.range_succ]
theorem loop3_end (fr : Bs) (n : Int) : loop3 fr n 3 = addD (addD (addD n (fr.getD 0 48)) (fr.getD 1 48)) (fr.getD 2 48) := rfl
theorem getD_dig {fr : Bs} (h : ∀ c ∈ fr, digI (nv c) = true) (k : Nat) : digI (nv (fr.getD k 48)) = true := by
  rw [List.getD_eq_getElem?_getD]
  cases hk : fr[k]? with
  | none => rfl
  | some c => exact h c (List.mem_of_getElem? hk)
theorem loop3_bd (fr : Bs) (n : Int) (h : ∀ c ∈ fr, digI (nv c) = true) (h0 : 0 ≤ n) (h1 : n ≤ 1000000000) : ∀ k, 0 ≤ loop3 fr n k ∧ loop3 fr n k ≤ 1000000000
  | 0 => ⟨h0, h1⟩
  | k + 1 => by
    rw [loop3_step]
    exact addD_bd _ _ (loop3_bd fr n h h0 h1 k).1 (getD_dig h k)

end Go.Proofs.YtmjbaimccbkmpaaDoor.tok
