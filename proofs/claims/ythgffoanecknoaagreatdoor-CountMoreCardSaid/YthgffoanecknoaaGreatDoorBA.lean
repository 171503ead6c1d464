/- Contracts and plain law, a bundle. -/
import Derived.WalkKit
import Derived.WalkSpells
import Derived.WalkLawsBesides
import Derived.ProofKit
import Derived.OpenShut
import Derived.ShutString
import Derived.ChangeOld
import Derived.Deep.Fields
import Derived.Deep.Slices
import Derived.Deep.RegionHeld3
import Derived.Deep.DrawnRows
import Derived.Deep.DeepFit
import Derived.Lib.Hide
import Derived.Deep.QuietTactic
import Derived.BigQuiet
import Derived.Lib.IndexBytes
import Derived.Laws.Externs
import Derived.Shelf.Strings.SlTrimAscii
import Derived.Maps.AppendAt
import Derived.Deep.AppendLies
import Derived.Laws.IdiomStrings
import Derived.Test.YthgffoanecknoaaGreatDoorRows
import Derived.Test.YthgffoanecknoaaGreatDoorBS
set_option linter.unusedVariables false
set_option maxRecDepth 100000
set_option maxHeartbeats 16000000
open Go.Lib (hid)
namespace Go.Proofs.YthgffoanecknoaaGreatDoor
namespace base
open Go.RowKit Go.ChangeShapes Go.WideShapes Go.ChangeAt Go.Deep
theorem As.beg {B : Nat} {W0 : World} : (∀ b o, b < B -> W0.drew.cell? ⟨b, o, none⟩ = W0.cell? ⟨b, o, none⟩) /\ Below B W0 W0.drew := ⟨fun _ _ _ => rfl, (Below.refl _ _).drew⟩
theorem As.beg0 {B : Nat} {W0 : World} : (∀ b o, b < B -> W0.cell? ⟨b, o, none⟩ = W0.cell? ⟨b, o, none⟩) /\ Below B W0 W0 := ⟨fun _ _ _ => rfl, Below.refl _ _⟩
theorem As.on {B : Nat} {W0 w w' : World} (k : Below w.heap.size w w') (h : (∀ b o, b < B -> w.cell? ⟨b, o, none⟩ = W0.cell? ⟨b, o, none⟩) /\ Below B W0 w) (hB : B <= W0.heap.size) : (∀ b o, b < B -> w'.cell? ⟨b, o, none⟩ = W0.cell? ⟨b, o, none⟩) /\ Below B W0 w' :=
 have t := h.2.trans (k.mono (Nat.le_trans hB h.2.size))
 ⟨fun b o hb => t.cell (p := ⟨b, o, none⟩) hb, t⟩
theorem As.alloc {B : Nat} {W0 w : World} {o : Obj} (h : (∀ b o, b < B -> w.cell? ⟨b, o, none⟩ = W0.cell? ⟨b, o, none⟩) /\ Below B W0 w) (hB : B <= W0.heap.size) : (∀ b p, b < B -> (w.alloc o).cell? ⟨b, p, none⟩ = W0.cell? ⟨b, p, none⟩) /\ Below B W0 (w.alloc o) :=
 As.on ((Below.refl _ _).alloc (Nat.le_refl _) _) h hB
theorem As.store {B : Nat} {W0 w : World} {p : Addr} {v : Value} (h : (∀ b o, b < B -> w.cell? ⟨b, o, none⟩ = W0.cell? ⟨b, o, none⟩) /\ Below B W0 w) (hp : B <= p.block) : (∀ b o, b < B -> (w.setCell p v).cell? ⟨b, o, none⟩ = W0.cell? ⟨b, o, none⟩) /\ Below B W0 (w.setCell p v) :=
 have t := h.2.setCell hp v
 ⟨fun b o hb => t.cell (p := ⟨b, o, none⟩) hb, t⟩
theorem As.drew {B : Nat} {W0 w : World} (h : (∀ b o, b < B -> w.cell? ⟨b, o, none⟩ = W0.cell? ⟨b, o, none⟩) /\ Below B W0 w) : (∀ b o, b < B -> w.drew.cell? ⟨b, o, none⟩ = W0.cell? ⟨b, o, none⟩) /\ Below B W0 w.drew := ⟨h.1, h.2.drew⟩
theorem quiet_left {P : Program} {f : FuncId} {args : Array Value} {w : World} {n : Nat} {v : Value}
  (h : Calls P f args (w.drewN n) fun e w' => e = .returned v /\ w.drewN n = w') : Calls P f args (w.drewN n) fun e w'' => e = .returned v /\ ∃ m, w'' = w.drewN m :=
 h.mono fun _ _ ⟨he, hm⟩ => ⟨he, n, hm.symm⟩
theorem below_drewN {B : Nat} {a w : World} (h : Below B a w) (n : Nat) : Below B a (w.drewN n) := ⟨h.os, h.tape, h.output, h.size, h.block⟩
def Blk (w : World) (k : Nat) (t : TypeId) (cs : Array Value) : Prop := w.heap[k]? = some (.cells cs t (0, 0))
theorem Blk.cell {w : World} {k : Nat} {t : TypeId} {cs : Array Value} (h : Blk w k t cs) : ∀ i, w.cell? ⟨k, i, none⟩ = cs[i]? := by
 intro i
 unfold Blk at h
 simp [World.cell?, h]
theorem Blk.frozen {w : World} {k : Nat} {t : TypeId} {cs : Array Value} (h : Blk w k t cs) : ∀ i, w.frozen? ⟨k, i, none⟩ = false := by
 intro i
 unfold Blk at h
 simp [World.frozen?, h]
theorem Blk.lt {w : World} {k : Nat} {t : TypeId} {cs : Array Value} (h : Blk w k t cs) : k < w.heap.size := by
 unfold Blk at h
 rcases Nat.lt_or_ge k w.heap.size with hlt | hge
 ·exact hlt
 ·rw [Array.getElem?_eq_none hge] at h; cases h
theorem Blk.new {w : World} {k : Nat} {t : TypeId} {cs : Array Value} (h : k = w.heap.size) : Blk (w.alloc (.cells cs t)) k t cs := by
 subst h
 show (w.heap.push _)[w.heap.size]? = _
 simp
theorem Blk.alloc {w : World} {k : Nat} {t : TypeId} {cs : Array Value} (h : Blk w k t cs) (o : Obj) : Blk (w.alloc o) k t cs := (Below.heap_alloc w o k h.lt).trans h
theorem Blk.below {B : Nat} {w w' : World} {k : Nat} {t : TypeId} {cs : Array Value} (h : Blk w k t cs) (hb : Below B w w') (hk : k < B) : Blk w' k t cs := (hb.block k hk).trans h
theorem Blk.drewN {w : World} {k : Nat} {t : TypeId} {cs : Array Value} (h : Blk w k t cs) (n : Nat) : Blk (w.drewN n) k t cs := h
theorem Blk.drew {w : World} {k : Nat} {t : TypeId} {cs : Array Value} (h : Blk w k t cs) : Blk w.drew k t cs := h
theorem Blk.put {w : World} {k : Nat} {t : TypeId} {cs : Array Value} (h : Blk w k t cs) (i : Nat) (u : Value) : Blk (w.setCell ⟨k, i, none⟩ u) k t (cs.setIfInBounds i u) := by
 unfold Blk at h ⊢
 simp [World.setCell, Array.getElem?_modify, h]
theorem Blk.far {w : World} {k : Nat} {t : TypeId} {cs : Array Value} (h : Blk w k t cs) {p : Addr} (hp : k ≠ p.block) (u : Value) : Blk (w.setCell p u) k t cs := (Below.heap_setCell w p u k hp).trans h
section
variable {H : Type} {enc : TypeId × Value -> H} {P : Program}
theorem trodAll_below (hl : laidOutB P = true) {W W' : World} (hb : Below W.heap.size W W') : ∀ {ts : List TypeId} {vs : List Value} {ds : List (DataW H)} {ps : List MemPlace},
  (∀ t ∈ ts, P.readableRec t = true /\ t < P.types.size) -> DataW.TrodAll enc P W 0 (fun _ => true) true ts vs ds ps -> DataW.TrodAll enc P W' 0 (fun b => decide (b < W.heap.size)) true ts vs ds ps := by
 intro ts
 induction ts with
 | nil =>
  intro vs ds ps _ h
  obtain ⟨rfl, rfl, rfl⟩ := trodAll_nil h
  exact trodAll_mk0
 | cons t ts ih =>
  intro vs ds ps hr h
  obtain ⟨v, vs', d, ds', p, q, rfl, rfl, rfl, h1, h2⟩ := trodAll_cons h
  obtain ⟨r1, r2⟩ := hr t (by simp)
  have hlt : ∀ x ∈ p, x.block < W.heap.size := by obtain ⟨m, hm⟩ := h1; exact DataW.trod_lt m _ _ _ hm
  exact trodAll_cons_mk (Below.trod hl r1 r2 h1 hb hlt) (ih (fun t ht => hr t (by simp [ht])) h2)
theorem law_post {f : Func} {s : ChangeSpec} {args : Array Value} {ds gs : List (DataW H)} {before : List MemPlace} {W W' : World} {tb : TypeId}
  (hl : laidOutB P = true) (hv : s.vars = []) (hb : P.underlying tb = some .bool) (hrt : f.resultTypes = #[tb])
  (hr : ∀ t ∈ f.params.toList, P.readableRec t = true /\ t < P.types.size)
  (hfn : s.fn H (ds ++ gs) = { results := [.lit (.bool true)], args := ds })
  (hW : DataW.Whole enc P f.params.toList s.vars false W args.toList ds gs before) (bel : Below W.heap.size W W') :
  s.post enc P f false true false false W args (.bool true) W' := by
 have hW' := hW
 obtain ⟨p, q, hA, hV, rfl, hfz, hnd⟩ := hW
 rw [hv] at hV
 obtain ⟨rfl, rfl⟩ := trodVars_none hV
 refine ⟨ds, [], _, [], p, [], hW', ?_, ?_, ?_, bel.frame _, fun h => by cases h⟩
 ·rw [hfn, hrt]
  exact trodAll_mk1 (shut_bool hb _)
 ·rw [hfn]
  exact trodAll_below hl bel hr hA
 ·rw [hfn, hv]
  rfl
end
section
variable {H : Type} {enc : TypeId × Value -> H} {P : Program} {w : World} {base : Nat} {spare : Nat -> Bool} {held : Bool}
theorem trod_fields {t : TypeId} {fs : Array Field} {fuel : Nat} {cs : List Value} {x : DataW H × List MemPlace} (ht : P.underlying t = some (.struct fs)) (h : DataW.trod enc P w base spare held fuel t cs = some x) :
  cs.length = P.cellsOf t /\ ∃ n, ∀ (i : Nat) (f : Field), fs[i]? = some f -> ∃ y, DataW.trod enc P w base spare held n f.type ((cs.drop f.offset).take (P.cellsOf f.type)) = some y := by
 obtain ⟨xs, n, _, _, hl, hx, hf⟩ := DataW.trod_struct ht h
 refine ⟨hl, n, fun i f hi => ?_⟩
 have hlt : i < xs.length := by have := (Array.getElem?_eq_some_iff.1 hi).1; omega
 exact ⟨xs[i], by rw [hf i f hi, List.getElem?_eq_getElem hlt]⟩
theorem at_field {fs : Array Field} {n : Nat} {cs : List Value} (hf : ∀ (i : Nat) (f : Field), fs[i]? = some f -> ∃ y, DataW.trod enc P w base spare held n f.type ((cs.drop f.offset).take (P.cellsOf f.type)) = some y)
  (i T off k : Nat) (hi : (fs[i]?).map (fun f => (f.type, f.offset)) = some (T, off)) (hk : P.cellsOf T = k) : ∃ y, DataW.trod enc P w base spare held n T ((cs.drop off).take k) = some y := by
 cases h : fs[i]? with
 | none => rw [h] at hi; cases hi
 | some f =>
  rw [h] at hi
  simp only [Option.map_some, Option.some.injEq, Prod.mk.injEq] at hi
  obtain ⟨rfl, rfl⟩ := hi
  rw [<- hk]
  exact hf i f h
theorem trod_items {t e : TypeId} {k fuel : Nat} {cs : List Value} {x : DataW H × List MemPlace} (ht : P.underlying t = some (.array k e)) (h : DataW.trod enc P w base spare held fuel t cs = some x) :
  cs.length = P.cellsOf t /\ ∃ n, ∀ i, i < k -> ∃ y, DataW.trod enc P w base spare held n e ((cs.drop (i * P.cellsOf e)).take (P.cellsOf e)) = some y := by
 obtain ⟨xs, n, _, _, hl, hx, hf⟩ := DataW.trod_array ht h
 refine ⟨hl, n, fun i hi => ?_⟩
 have hlt : i < xs.length := by omega
 exact ⟨xs[i], by rw [hf i hi, List.getElem?_eq_getElem hlt]⟩
theorem agg_trod {r : Reach} {b0 : Nat} {t : TypeId} {fs : Array Field} {v : Value} {d : DataW H} {p : List MemPlace} (hs : P.underlying t = some (.struct fs)) (hv : Value.okWide P w r b0 t v) (h : DataW.Trod enc P w base spare held t v d p) :
  ∃ cs : Array Value, v = .agg cs /\ ∃ fuel, DataW.trod enc P w base spare held fuel t cs.toList = some (d, p) := by
 obtain ⟨cs, rfl, _⟩ := okWide_struct hs hv
 obtain ⟨fuel, hf⟩ := h
 exact ⟨cs, rfl, fuel, by simpa [Value.cells] using hf⟩
end
end base
namespace base
open Go.RowKit
theorem bq {α : Type} [BEq α] [LawfulBEq α] {a b : α} (h : a ≠ b) : (a == b) = false := by rw [beq_eq_false_iff_ne]; exact h
theorem df {p : Prop} [Decidable p] (h : ¬ p) : decide p = false := decide_eq_false h
theorem dt {p : Prop} [Decidable p] (h : p) : decide p = true := decide_eq_true h
theorem ba (w : World) (o : Obj) : Below w.heap.size w (w.alloc o) := (Below.refl _ _).alloc (Nat.le_refl _) o
theorem tb {a b c : World} (H : Hid (Below a.heap.size a b)) (h : Below b.heap.size b c) : Below a.heap.size a c := H.out.trans (h.mono H.out.size)
abbrev pn (b : Nat) : Value := .pointer (some ⟨b, 0, none⟩)
end base

namespace tok
open Go.RowKit
abbrev Bs := List UInt8
def bs (l : Bs) : ByteArray := ⟨l.toArray⟩
def digI (n : Int) : Bool := decide (48 <= n /\ n <= 57)
def startsI (n : Int) : Bool := decide (128 <= n ∨ n = 95 ∨ (65 <= n /\ n <= 90) ∨ (97 <= n /\ n <= 122))
def signI (n : Int) : Bool := startsI n || digI n || decide (n = 45)
abbrev nv (c : UInt8) : Int := (c.toNat : Int)
def escP : Bs -> Bool
 | c :: d :: _ => decide (nv c = 92) && decide (nv d ≠ 10)
 | _ => false
def nameP : Bs -> Bs × Nat
 | c :: d :: r => if escP (c :: d :: r) then (d :: (nameP r).1, (nameP r).2 + 2) else if signI (nv c) then (c :: (nameP (d :: r)).1, (nameP (d :: r)).2 + 1) else ([], 0)
 | [c] => if signI (nv c) then ([c], 1) else ([], 0)
 | [] => ([], 0)
termination_by l => l.length
theorem nv_lt (c : UInt8) : nv c < 256 := by have := c.toNat_lt; simp only [nv]; omega
theorem nv_nn (c : UInt8) : 0 <= nv c := by simp only [nv]; omega
theorem or_fact : ∀ n : Fin 128, (97 <= bits BinOp.or IntKind.u8 (n.val : Int) 32 /\ bits BinOp.or IntKind.u8 (n.val : Int) 32 <= 122) ↔ ((65 <= n.val /\ n.val <= 90) ∨ (97 <= n.val /\ n.val <= 122)) := by decide +kernel
theorem or_letter (n : Int) (h0 : 0 <= n) (h1 : n < 128) : (97 <= bits BinOp.or IntKind.u8 n 32 /\ bits BinOp.or IntKind.u8 n 32 <= 122) ↔ ((65 <= n /\ n <= 90) ∨ (97 <= n /\ n <= 122)) := by
 obtain ⟨k, rfl⟩ := Int.eq_ofNat_of_zero_le h0
 have h := or_fact ⟨k, by omega⟩
 simp only at h
 rw [h]
 omega
end tok
namespace tok
open Go.RowKit base
theorem digit_ct (n : Int) (w : World) : Calls Tryz.prog 139 #[.int .u8 n] w fun e w' => e = .returned (.bool (digI n)) /\ w = w' := by
 by_cases h1 : 48 <= n
 ·by_cases h2 : n <= 57
  ·have hd : digI n = true := by simp [digI, h1, h2]
   replace hd := hid hd
   go_enter Tryz.func139, Tryz.ntmps139
   go_wp2
   go_ret
   exact ⟨by rw [hd.out]; rfl, rfl⟩
  ·have hd : digI n = false := by simp [digI, h1, h2]
   replace hd := hid hd
   go_enter Tryz.func139, Tryz.ntmps139
   go_wp2
   go_ret
   exact ⟨by rw [hd.out]; rfl, rfl⟩
 ·have hd : digI n = false := by simp [digI, h1]
  replace hd := hid hd
  go_enter Tryz.func139, Tryz.ntmps139
  go_wp2
  go_ret
  exact ⟨by rw [hd.out]; rfl, rfl⟩
theorem starts_ct (n : Int) (h0 : 0 <= n) (hh : n < 256) (w : World) : Calls Tryz.prog 138 #[.int .u8 n] w fun e w' => e = .returned (.bool (startsI n)) /\ w = w' := by
 by_cases h1 : 128 <= n
 ·have hd : startsI n = true := by simp [startsI, h1]
  replace hd := hid hd
  go_enter Tryz.func138, Tryz.ntmps138
  go_wp2
  go_ret
  exact ⟨by rw [hd.out]; rfl, rfl⟩
 ·by_cases h2 : n = 95
  ·subst h2
   go_enter Tryz.func138, Tryz.ntmps138
   go_wp2
   go_ret
   exact ⟨rfl, rfl⟩
  ·have h2' : (n == 95) = false := by simp [h2]
   have hor := or_letter n h0 (by omega)
   have hd : startsI n = decide (97 <= bits BinOp.or IntKind.u8 n 32 /\ bits BinOp.or IntKind.u8 n 32 <= 122) := by
    rw [startsI, decide_eq_decide, hor]
    omega
   replace hd := hid hd
   clear hor
   by_cases h3 : 97 <= bits BinOp.or IntKind.u8 n 32
   ·by_cases h4 : bits BinOp.or IntKind.u8 n 32 <= 122
    all_goals
     go_enter Tryz.func138, Tryz.ntmps138
     go_wp2
     go_ret
     exact ⟨by rw [hd.out]; simp [h3, h4]; try rfl, rfl⟩
   ·go_enter Tryz.func138, Tryz.ntmps138
    go_wp2
    go_ret
    exact ⟨by rw [hd.out, decide_eq_false (fun h => absurd h.1 (by omega))]; rfl, rfl⟩
theorem sign_ct (n : Int) (h0 : 0 <= n) (hh : n < 256) (w : World) : Calls Tryz.prog 95 #[.int .u8 n] w fun e w' => e = .returned (.bool (signI n)) /\ w = w' := by
 have hs : signI n = (startsI n || digI n || decide (n = 45)) := rfl
 replace hs := hid hs
 have c1 := fun w => starts_ct n h0 hh w
 have c2 := fun w => digit_ct n w
 generalize startsI n = a at *
 generalize digI n = b at *
 cases a
 ·cases b
  all_goals
   go_enter Tryz.func95, Tryz.ntmps95
   go_wp2_with (first | (go_at_call 138; refine (c1 _).mono ?_; rintro e w' ⟨rfl, rfl⟩) | (go_at_call 139; refine (c2 _).mono ?_; rintro e w' ⟨rfl, rfl⟩))
   go_ret
   exact ⟨by rw [hs.out]; rfl, rfl⟩
 ·go_enter Tryz.func95, Tryz.ntmps95
  go_wp2_with (first | (go_at_call 138; refine (c1 _).mono ?_; rintro e w' ⟨rfl, rfl⟩) | (go_at_call 139; refine (c2 _).mono ?_; rintro e w' ⟨rfl, rfl⟩))
  go_ret
  exact ⟨by rw [hs.out]; rfl, rfl⟩
theorem esc_short {s : ByteArray} (h : s.size < 2) : escP s.data.toList = false := by
 obtain ⟨⟨l⟩⟩ := s
 match l, h with
 | [], _ => rfl
 | [_], _ => rfl
theorem esc_long {s : ByteArray} (h : 1 < s.size) : escP s.data.toList = (decide (nv (s[0]'(by omega)) = 92) && decide (nv (s[1]'h) ≠ 10)) := by
 obtain ⟨⟨l⟩⟩ := s
 match l, h with
 | a :: b :: r, _ => rfl
theorem ret_bool {a b : Bool} (h : a = b) : Ending.returned (.bool a) = .returned (.bool b) := by rw [h]
theorem escape_ct (s : ByteArray) (hs : s.size <= maxLen) (w : World) : Calls Tryz.prog 96 #[.string s] w fun e w' => e = .returned (.bool (escP s.data.toList)) /\ w = w' := by
 unfold maxLen at hs
 by_cases h1 : 1 < s.size
 ·have hl := hid (esc_long h1)
  have h1' : 0 < s.size := by omega
  go_enter Tryz.func96, Tryz.ntmps96
  go_wp2
  all_goals
   go_ret
   refine ⟨ret_bool ?_, rfl⟩
   rw [hl.out]
   simp [*]
   try rfl
 ·have hd : escP s.data.toList = false := esc_short (by omega)
  replace hd := hid hd
  go_enter Tryz.func96, Tryz.ntmps96
  go_wp2
  go_ret
  exact ⟨by rw [hd.out]; rfl, rfl⟩
theorem sub_len {s : ByteArray} (a b : Nat) (h : s.size <= maxLen) : (s.extract a b).size <= maxLen := by
 simp only [ByteArray.size_extract]
 omega
end tok
namespace base
open Go.RowKit
theorem size_setCell (w : World) (p : Addr) (v : Value) : (w.setCell p v).heap.size = w.heap.size := by simp [World.setCell]
theorem add_zero_block (k j : Nat) : ((⟨k, 0, none⟩ : Addr).add j) = ⟨k, j, none⟩ := by
 unfold Addr.add
 by_cases h : j = 0 <;> simp [h]
theorem Blk.news {w : World} {k : Nat} {t : TypeId} {cs : Array Value} (h : Blk w k t cs) : ∀ (j : Nat) (u : Value), cs.toList[j]? = some u -> w.cell? ((⟨k, 0, none⟩ : Addr).add j) = some u := by
 intro j u hu
 rw [add_zero_block, h.cell j]
 simpa using hu
theorem below_grown {B : Nat} {a w w' : World} {base : Nat} {e : TypeId} {size n : Nat} {v : Value} {xs : List Value} (h : Below B a w) (hg : w.grownBy w' v.ownBlock) (hown : w.ownsRow base e size v n xs) (hB : B <= base) (hz : B <= w.heap.size) : Below B a w' :=
 h.grown hg hz (fun k hk => Nat.le_trans hB (hown.lt k hk).1)
end base
namespace base
open Go.RowKit
theorem sizeBuilder : (Tryz.prog.info? 129).map (·.size) = some 2 := by kernel_rfl
theorem liesBuilder : liesAt Tryz.prog Tryz.prog.depth 129 (2 / Tryz.prog.cellsOf 129) 0 129 1 = true := by kernel_rfl
theorem infoByte : (Tryz.prog.info? 5).map (fun i => (i.zero, i.size, i.bytes)) = some (some (.int .u8 0), 1, 1) := by kernel_rfl
abbrev IsB (B b : Nat) (l : List UInt8) (w : World) : Prop := Lib.IsBuilder 129 5 B b (Lib.byteCells l) w
theorem copyCheck_used (b : Nat) (w : World) (h0 : w.cell? ⟨b, 0, none⟩ = some ((pn b))) :
  Calls Tryz.prog 115 #[(pn b)] w fun e w' => e = .returned (.tuple #[]) /\ w' = w := by
 obtain ⟨j, hj, _⟩ := Option.map_eq_some_iff.1 sizeBuilder
 go_enter Tryz.func115, Tryz.ntmps115
 go_wp2
 rw [Lib.run_neq_ptr_same w _ Tryz.underlying127 hj]
 go_wp2
 go_end0
 exact ⟨rfl, rfl⟩
theorem copyCheck_fresh (b : Nat) (w : World) (h0 : w.cell? ⟨b, 0, none⟩ = some (.pointer none)) (hsh : w.shape? b = some (129, 2)) (hfz : w.frozen? ⟨b, 0, none⟩ = false) :
  Calls Tryz.prog 115 #[(pn b)] w fun e w' => e = .returned (.tuple #[]) /\ w' = w.setCell ⟨b, 0, none⟩ ((pn b)) := by
 obtain ⟨j, hj, hjs⟩ := Option.map_eq_some_iff.1 sizeBuilder
 go_enter Tryz.func115, Tryz.ntmps115
 go_wp2
 rw [Lib.run_to_unsafe w ⟨b, 0, none⟩ Tryz.underlying127 Tryz.underlying188 hj (by rw [hjs]; decide) hsh (Nat.zero_lt_succ 1)]
 simp only [Result.andThen]
 rw [Oper.upon_value]
 go_wp2
 rw [run_callFunc_extern Tryz.func155 (by kernel_rfl) (by kernel_rfl) (by kernel_rfl) (e := Extern.AbiNoEscape.same) (by kernel_rfl)]
 rw [Lib.run_noEscape]
 simp only [Result.andThen]
 rw [Oper.upon_value]
 go_wp2
 rw [Lib.run_from_unsafe w ⟨b, 0, none⟩ Tryz.underlying188 Tryz.underlying127 hj hsh liesBuilder]
 simp only [Result.andThen]
 rw [Oper.upon_value]
 go_wp2
 go_end0
 exact ⟨rfl, rfl⟩
theorem copyCheck_ct (B b : Nat) (bs : List Value) (w : World) (h : Lib.IsBuilder 129 5 B b bs w) :
  Calls Tryz.prog 115 #[(pn b)] w fun e w' => e = .returned (.tuple #[]) /\ (Lib.BuilderAt 129 5 B b ((pn b)) bs w' /\ Below B w w') := by
 rcases h with h | h
 ·refine (copyCheck_fresh b w h.cell0 h.shape h.frozen0).mono ?_
  rintro e w' ⟨rfl, rfl⟩
  exact ⟨rfl, h.used _, (Below.refl B w).setCell (p := ⟨b, 0, none⟩) h.1 _⟩
 ·refine (copyCheck_used b w h.cell0).mono ?_
  rintro e w' ⟨rfl, rfl⟩
  exact ⟨rfl, h, Below.refl B _⟩
theorem writeByte_raw (B b : Nat) (bs : List Value) (c : Int) (w : World) (h : Lib.IsBuilder 129 5 B b bs w) (hlen : bs.length + 1 <= 140737488355328) (hBw : B <= w.heap.size) :
  Calls Tryz.prog 80 #[(pn b), .int .u8 c] w fun e w' => e = .returned .nilIface /\ (Lib.BuilderAt 129 5 B b ((pn b)) (bs ++ [.int .u8 c]) w' /\ Below B w w') := by
 obtain ⟨i0, hi, hz0, hz1, hz2⟩ := info_parts infoByte
 go_enter Tryz.func80, Tryz.ntmps80
 go_wp2_with (go_at_call 115; refine (copyCheck_ct B b bs _ h).mono ?_)
 rintro e w1 ⟨rfl, h1, hb1⟩
 obtain ⟨hB, v, hbk, hown, hne⟩ := h1
 have c0 : w1.cell? ⟨b, 0, none⟩ = some ((pn b)) := by rw [Lib.cell_of_heap hbk]; rfl
 have c1 : w1.cell? ⟨b, 1, none⟩ = some v := by rw [Lib.cell_of_heap hbk]; rfl
 go_wp2_with (at_builtin; refine wpList_append_own _ rfl _ _ 114 rfl B 5 i0 (.int .u8 0) 1 1 Tryz.underlying114 hi hz0 hz1 hz2 rfl (by decide) _ _ _ rfl (hown.alloc _) ⟨w1.heap.size, 0, none⟩ 1 1 [.int .u8 c] rfl rfl ?c1 ?c2 ?c3 ?c4 ?c5 ?_)
 case c1 =>
  intro j u hj
  match j, hj with
  | 0, hj => simp at hj; subst hj; simp [Addr.add]
 case c2 => intro u hu; simp at hu; subst hu; rfl
 case c3 => unfold maxLen; omega
 case c4 => omega
 case c5 => have := hb1.size; simp; omega
 intro v' w2 hown' hgrow _
 have hlt : b < w1.heap.size := by
  rcases Nat.lt_or_ge b w1.heap.size with h' | h'
  ·exact h'
  ·simp [Array.getElem?_eq_none h'] at hbk
 have hb2 : w2.heap[b]? = some (.cells #[(pn b), v] 129 (0, 0)) := by
  rw [hgrow.block b (by simp; omega) (fun e => hne e.symm), Lib.alloc_old w1 _ b hlt]
  exact hbk
 have d0 : w2.cell? ⟨b, 0, none⟩ = some ((pn b)) := by rw [Lib.cell_of_heap hb2]; rfl
 have d1 : w2.cell? ⟨b, 1, none⟩ = some v := by rw [Lib.cell_of_heap hb2]; rfl
 have f1 : w2.frozen? ⟨b, 1, none⟩ = false := Lib.frozen_of_heap hb2 1
 obtain ⟨g, cap, rfl⟩ : ∃ g cap, v' = .slice (some ⟨g, 0, none⟩) (bs.length + 1) cap := by
  rcases hown'.2 with ⟨_, h0⟩ | ⟨g, cap, cur, hv, _⟩
  ·omega
  ·exact ⟨g, cap, hv⟩
 go_wp2
 go_ret
 refine ⟨rfl, ?_, ?_⟩
 ·exact Lib.BuilderAt.put (T := 129) (e := 5) hB hb2 (bs' := bs ++ [.int .u8 c]) (by simpa using hown') (by decide)
 ·exact ((hb1.alloc (by have := hb1.size; omega) _).grown hgrow (by have := hb1.size; simp; omega) (fun k hk => (hown.lt k hk).1)).setCell (p := ⟨b, 1, none⟩) hB _
theorem writeByte_ct (B b : Nat) (l : List UInt8) (c : UInt8) (w : World) (h : IsB B b l w) (hlen : l.length + 1 <= 140737488355328) (hBw : B <= w.heap.size) :
  Calls Tryz.prog 80 #[(pn b), .int .u8 (c.toNat : Int)] w fun e w' => e = .returned .nilIface /\ IsB B b (l ++ [c]) w' /\ Below B w w' :=
 (writeByte_raw B b _ _ w h (by rw [Lib.byteCells_length]; exact hlen) hBw).mono fun e w' ⟨he, h1, h2⟩ => ⟨he, Or.inr (by simpa [Lib.byteCells] using h1), h2⟩
theorem builderString_ct (B b : Nat) (l : List UInt8) (w : World) (h : IsB B b l w) (hBw : B <= w.heap.size) :
  Calls Tryz.prog 81 #[(pn b)] w fun e w' => e = .returned (.string ⟨l.toArray⟩) /\ Below B w w' := Tryz.Builder_String_any B b l w h hBw
theorem IsB.new (w : World) (B : Nat) (hB : B <= w.heap.size) : IsB B w.heap.size [] (w.alloc (.cells #[.pointer none, .slice none 0 0] 129)) :=
 Or.inl ⟨hB, .slice none 0 0, heap_alloc_new w _, World.ownsRow_nil _ _ _ _, by simp [Value.ownBlock]⟩
theorem builderAt_on {B b : Nat} {p : Value} {l : List Value} {w w' : World} (h : Lib.BuilderAt 129 5 B b p l w) (hb : Below w.heap.size w w') : Lib.BuilderAt 129 5 B b p l w' := by
 have hlt := h.lt
 obtain ⟨hB, v, hbk, hown, hne⟩ := h
 exact ⟨hB, v, (hb.block b hlt).trans hbk, hown.kept ⟨hb.os, hb.tape, hb.output, hb.size, fun k hk _ => hb.block k hk⟩ (row := none) (by cases hv : v.ownBlock with | none => exact .inl rfl | some g => exact .inr (by simp)), hne⟩
theorem IsB.on {B b : Nat} {l : List UInt8} {w w' : World} (h : IsB B b l w) (hb : Below w.heap.size w w') : IsB B b l w' := h.elim (fun x => .inl (builderAt_on x hb)) (fun x => .inr (builderAt_on x hb))
end base
namespace tok
open Go.RowKit base
theorem drop_cons {s : ByteArray} {k : Nat} (h : k < s.size) : s.data.toList.drop k = s[k] :: s.data.toList.drop (k + 1) := by
 obtain ⟨⟨l⟩⟩ := s
 exact List.drop_eq_getElem_cons h
theorem drop_nil {s : ByteArray} {k : Nat} (h : s.size <= k) : s.data.toList.drop k = [] := by
 obtain ⟨⟨l⟩⟩ := s
 exact List.drop_eq_nil_of_le h
theorem esc_room {s : ByteArray} {k : Nat} (he : escP (s.data.toList.drop k) = true) : k + 1 < s.size := by
 rcases Nat.lt_or_ge (k + 1) s.size with h | h
 ·exact h
 ·rcases Nat.lt_or_ge k s.size with h1 | h1
  ·rw [drop_cons h1, drop_nil h] at he
   simp [escP] at he
  ·rw [drop_nil h1] at he
   simp [escP] at he
theorem name_esc {s : ByteArray} {k : Nat} (h : k + 1 < s.size) (he : escP (s.data.toList.drop k) = true) : nameP (s.data.toList.drop k) = (s[k + 1] :: (nameP (s.data.toList.drop (k + 2))).1, (nameP (s.data.toList.drop (k + 2))).2 + 2) := by
 rw [drop_cons (k := k) (by omega), drop_cons (k := k + 1) h] at he ⊢
 rw [nameP, if_pos he]
theorem name_sign {s : ByteArray} {k : Nat} (h : k < s.size) (he : escP (s.data.toList.drop k) = false) (hs : signI (nv s[k]) = true) : nameP (s.data.toList.drop k) = (s[k] :: (nameP (s.data.toList.drop (k + 1))).1, (nameP (s.data.toList.drop (k + 1))).2 + 1) := by
 rcases Nat.lt_or_ge (k + 1) s.size with h1 | h1
 ·rw [drop_cons (k := k) (by omega), drop_cons (k := k + 1) h1] at he ⊢
  rw [nameP, if_neg (by rw [he]; simp), if_pos hs]
 ·rw [drop_cons h, drop_nil h1]
  rw [nameP, if_pos hs]
  simp [nameP]
theorem name_stop {s : ByteArray} {k : Nat} (h : k < s.size) (he : escP (s.data.toList.drop k) = false) (hs : signI (nv s[k]) = false) : nameP (s.data.toList.drop k) = ([], 0) := by
 rcases Nat.lt_or_ge (k + 1) s.size with h1 | h1
 ·rw [drop_cons (k := k) (by omega), drop_cons (k := k + 1) h1] at he ⊢
  rw [nameP, if_neg (by rw [he]; simp), if_neg (by rw [hs]; simp)]
 ·rw [drop_cons h, drop_nil h1]
  rw [nameP, if_neg (by rw [hs]; simp)]
def NameRel (s : ByteArray) (B : Nat) (w : World) (i : Value) (wr : World) : Prop :=
 ∃ (k : Nat) (acc : Bs), k <= s.size /\ i = .int .i64 k /\ acc.length <= k /\ nameP s.data.toList = (acc ++ (nameP (s.data.toList.drop k)).1, k + (nameP (s.data.toList.drop k)).2) /\ IsB B B acc wr /\ Below B w wr
theorem ret_name {a b : Bs} {m n : Nat} (h1 : a = b) (h2 : m = n) : Ending.returned (.tuple #[.string (bs a), .int .i64 (m : Int)]) = Ending.returned (.tuple #[.string (bs b), .int .i64 (n : Int)]) := by rw [h1, h2]
theorem name_ct (s : ByteArray) (hs : s.size <= 140737488355328) (w : World) : Calls Tryz.prog 140 #[.string s] w fun e w' => e = .returned (.tuple #[.string (bs (nameP s.data.toList).1), .int .i64 ((nameP s.data.toList).2 : Int)]) /\ Below w.heap.size w w' := by
 have HS := hid (show s.size <= maxLen by unfold maxLen; omega)
 go_enter Tryz.func140, Tryz.ntmps140
 go_wp2_with fail
 go_loopw [5] (fun i wr => NameRel s w.heap.size w i wr) (fun i _ => s.size - (intOf i).toNat)
 case atStart => exact ⟨0, [], by omega, rfl, by simp, by simp, IsB.new w _ (Nat.le_refl _), ba _ _⟩
 case round =>
  obtain ⟨k, acc, hk, rfl, hal, hinv, hB, hbel⟩ := hrel
  have hz := hbel.size
  have HBl := hid hbel
  replace hB := hid hB
  replace hinv := hid hinv
  clear hbel
  by_cases hlt : k < s.size
  ·have hlt' : (k : Int) < (s.size : Int) := by omega
   have c2 := fun w => escape_ct (s.extract k s.size) (sub_len _ _ HS.out) w
   simp only [Lib.extract_to_end] at c2
   cases he : escP (s.data.toList.drop k)
   ·simp only [he] at c2
    replace c2 := hid c2
    have c1 := fun w => sign_ct (nv s[k]) (nv_nn _) (nv_lt _) w
    cases hg : signI (nv s[k])
    ·simp only [hg] at c1
     replace c1 := hid c1
     have hst := hid (name_stop hlt he hg)
     clear he hg
     go_wp2_with (first | (go_at_call 96; (with_reducible refine (c2.out _).mono ?_); rintro e w' ⟨rfl, rfl⟩) | (go_at_call 95; (with_reducible refine (c1.out _).mono ?_); rintro e w' ⟨rfl, rfl⟩) | (go_at_call 81; (with_reducible refine (builderString_ct _ _ acc _ hB.out hz).mono ?_); rintro e w1 ⟨rfl, hb1⟩))
     go_ret2
     refine ⟨?_, HBl.out.trans hb1⟩
     rw [hinv.out, hst.out]
     exact ret_name (by simp) (by simp)
    ·simp only [hg] at c1
     replace c1 := hid c1
     have hst := hid (name_sign hlt he hg)
     clear he hg
     go_wp2_with (first | (go_at_call 96; (with_reducible refine (c2.out _).mono ?_); rintro e w' ⟨rfl, rfl⟩) | (go_at_call 95; (with_reducible refine (c1.out _).mono ?_); rintro e w' ⟨rfl, rfl⟩) | (go_at_call 80; (with_reducible refine (writeByte_ct _ _ acc s[k] _ hB.out (by omega) hz).mono ?_); rintro e w1 ⟨rfl, hb0, hb1⟩; replace hb0 := hid hb0; replace hb1 := hid hb1))
     go_roundw
     case rel =>
      refine ⟨k + 1, acc ++ [s[k]], by omega, by go_num, by simp; omega, ?_, hb0.out, HBl.out.trans hb1.out⟩
      rw [hinv.out, hst.out]
      simp
      omega
     case measure => simp [intOf]; omega
   ·simp only [he] at c2
    replace c2 := hid c2
    have hrm := esc_room he
    have hst := hid (name_esc hrm he)
    clear he
    have hrm' : (k : Int) + 1 < (s.size : Int) := by omega
    go_wp2_with (first | (go_at_call 96; (with_reducible refine (c2.out _).mono ?_); rintro e w' ⟨rfl, rfl⟩) | (go_at_call 80; (with_reducible refine (writeByte_ct _ _ acc s[k + 1] _ hB.out (by omega) hz).mono ?_); rintro e w1 ⟨rfl, hb0, hb1⟩; replace hb0 := hid hb0; replace hb1 := hid hb1))
    go_roundw
    case rel =>
     refine ⟨k + 2, acc ++ [s[k + 1]], by omega, by go_num, by simp; omega, ?_, hb0.out, HBl.out.trans hb1.out⟩
     rw [hinv.out, hst.out]
     simp
     omega
    case measure => simp [intOf]; omega
  ·obtain rfl : k = s.size := by omega
   have hst := hid (show nameP (s.data.toList.drop s.size) = ([], 0) by rw [drop_nil (Nat.le_refl _)]; simp [nameP])
   go_wp2_with ((go_at_call 81; (with_reducible refine (builderString_ct _ _ acc _ hB.out hz).mono ?_); rintro e w1 ⟨rfl, hb1⟩))
   go_ret2
   refine ⟨?_, HBl.out.trans hb1⟩
   rw [hinv.out, hst.out]
   exact ret_name (by simp) (by simp)
end tok
namespace base
open Go.RowKit
section
variable {W w w' : World} {a b N B : Nat} {us vs : Array Value}
end
end base
namespace tok
open Go.RowKit base
theorem all_bytes {P : UInt8 -> Prop} (h : ∀ n : Fin 256, P (UInt8.ofNat n.val)) (b : UInt8) : P b := by
 have := h ⟨b.toNat, b.toNat_lt⟩
 simpa using this
theorem bs_size (l : Bs) : (bs l).size = l.length := rfl
end tok
namespace tok
open Go.RowKit base
theorem Blk.grow {w w' : World} {k : Nat} {t : TypeId} {cs : Array Value} {b : Nat} (h : Blk w k t cs) (hg : w.grownBy w' (some b)) (hk : k ≠ b) : Blk w' k t cs := (hg.block k h.lt (by simp [hk])).trans h
end tok
namespace base
open Go.RowKit
theorem copyCheck_far (B b : Nat) (bs : List Value) (w : World) (h : Lib.IsBuilder 129 5 B b bs w) :
  Calls Tryz.prog 115 #[(pn b)] w fun e w' => e = .returned (.tuple #[]) /\ (Lib.BuilderAt 129 5 B b ((pn b)) bs w' /\ Below B w w' /\ w.heap.size = w'.heap.size /\ ∀ k, k ≠ b -> w'.heap[k]? = w.heap[k]?) := by
 rcases h with h | h
 ·refine (copyCheck_fresh b w h.cell0 h.shape h.frozen0).mono ?_
  rintro e w' ⟨rfl, rfl⟩
  exact ⟨rfl, h.used _, (Below.refl B w).setCell (p := ⟨b, 0, none⟩) h.1 _, (size_setCell _ _ _).symm, fun k hk => Below.heap_setCell w ⟨b, 0, none⟩ _ k hk⟩
 ·refine (copyCheck_used b w h.cell0).mono ?_
  rintro e w' ⟨rfl, rfl⟩
  exact ⟨rfl, h, Below.refl B _, rfl, fun k hk => rfl⟩
theorem not_row {w : World} {base : Nat} {e : TypeId} {size n k : Nat} {v : Value} {xs : List Value} {t : TypeId} {cs : Array Value} (h : w.ownsRow base e size v n xs) (hk : Blk w k t cs) (ht : t ≠ e) : v.ownBlock ≠ some k := by
 intro hv
 rcases h.2 with ⟨rfl, _⟩ | ⟨g, cap, cur, rfl, _, hg, _⟩
 ·simp [Value.ownBlock] at hv
 ·simp [Value.ownBlock] at hv
  subst hv
  unfold Blk at hk
  rw [hg] at hk
  simp at hk
  exact ht hk.2.symm
theorem writeString_far (B b : Nat) (bs : List Value) (s : ByteArray) (w : World) (h : Lib.IsBuilder 129 5 B b bs w) (hlen : bs.length + s.size <= 140737488355328) (hBw : B <= w.heap.size) (kx : Nat) (tx : TypeId) (cx : Array Value) (hx : Blk w kx tx cx) (htx : tx ≠ 5) (hkx : kx ≠ b) :
  Calls Tryz.prog 79 #[(pn b), .string s] w fun e w' => e = .returned (.tuple #[.int .i64 s.size, .nilIface]) /\ (Lib.BuilderAt 129 5 B b ((pn b)) (bs ++ Lib.strCells s) w' /\ Below B w w' /\ Blk w' kx tx cx) := by
 obtain ⟨i0, hi, hz0, hz1, hz2⟩ := info_parts infoByte
 go_enter Tryz.func79, Tryz.ntmps79
 go_wp2_with (go_at_call 115; refine (copyCheck_far B b bs _ h).mono ?_)
 rintro e w1 ⟨rfl, h1, hb1, hsz, hfar⟩
 have hx1 : Blk w1 kx tx cx := (hfar kx hkx).trans hx
 clear hfar
 obtain ⟨hB, v, hbk, hown, hne⟩ := h1
 have HX := hid hx1
 have HN := hid (not_row hown hx1 htx)
 have HS := hid hsz
 clear hx hx1 hsz
 have c0 : w1.cell? ⟨b, 0, none⟩ = some ((pn b)) := by rw [Lib.cell_of_heap hbk]; rfl
 have c1 : w1.cell? ⟨b, 1, none⟩ = some v := by rw [Lib.cell_of_heap hbk]; rfl
 go_wp2_with (at_builtin; refine Lib.wpList_append_own_string _ rfl _ _ 114 9 rfl B 5 i0 Tryz.underlying114 Tryz.underlying9 hi hz0 hz1 hz2 _ _ _ rfl hown s rfl ?c3 ?c4 ?c5 ?_)
 case c3 => unfold maxLen; omega
 case c4 => omega
 case c5 => have := hb1.size; omega
 intro v' w2 hown' hgrow _
 have hlt : b < w1.heap.size := by
  rcases Nat.lt_or_ge b w1.heap.size with h' | h'
  ·exact h'
  ·simp [Array.getElem?_eq_none h'] at hbk
 have hb2 : w2.heap[b]? = some (.cells #[(pn b), v] 129 (0, 0)) := by
  rw [hgrow.block b hlt (fun e => hne e.symm)]
  exact hbk
 have d0 : w2.cell? ⟨b, 0, none⟩ = some ((pn b)) := by rw [Lib.cell_of_heap hb2]; rfl
 have d1 : w2.cell? ⟨b, 1, none⟩ = some v := by rw [Lib.cell_of_heap hb2]; rfl
 have f1 : w2.frozen? ⟨b, 1, none⟩ = false := Lib.frozen_of_heap hb2 1
 obtain ⟨ao, n', cap, rfl⟩ : ∃ ao n' cap, v' = .slice ao n' cap := by
  rcases hown'.2 with ⟨hv, _⟩ | ⟨g, cap, cur, hv, _⟩
  ·exact ⟨_, _, _, hv⟩
  ·exact ⟨_, _, _, hv⟩
 go_wp2
 go_ret2
 refine ⟨rfl, ?_, ?_, ?_⟩
 ·exact Lib.BuilderAt.put (T := 129) (e := 5) hB hb2 (bs' := bs ++ Lib.strCells s) (by simpa [Lib.strCells_length] using hown') (by decide)
 ·exact (hb1.grown hgrow (by have := hb1.size; omega) (fun k hk => (hown.lt k hk).1)).setCell (p := ⟨b, 1, none⟩) hB _
 ·have h2 : Blk w2 kx tx cx := (hgrow.block kx HX.out.lt (fun e => HN.out e.symm)).trans HX.out
  exact h2.far hkx _
theorem writeString_on (B b : Nat) (l : List UInt8) (s : ByteArray) (w : World) (h : IsB B b l w) (hlen : l.length + s.size <= 140737488355328) (hBw : B <= w.heap.size) (kx : Nat) (tx : TypeId) (cx : Array Value) (hx : Blk w kx tx cx) (htx : tx ≠ 5) (hkx : kx ≠ b) :
  Calls Tryz.prog 79 #[(pn b), .string s] w fun e w' => e = .returned (.tuple #[.int .i64 s.size, .nilIface]) /\ IsB B b (l ++ s.data.toList) w' /\ Below B w w' /\ Blk w' kx tx cx :=
 (writeString_far B b _ s w h (by rw [Lib.byteCells_length]; exact hlen) hBw kx tx cx hx htx hkx).mono fun e w' ⟨he, h1, h2, h3⟩ => ⟨he, Or.inr (by simpa [Lib.byteCells, Lib.strCells] using h1), h2, h3⟩
end base
end Go.Proofs.YthgffoanecknoaaGreatDoor
