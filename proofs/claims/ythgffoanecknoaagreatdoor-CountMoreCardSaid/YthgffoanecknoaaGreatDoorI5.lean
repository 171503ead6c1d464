/- Contracts and plain law, a bundle. -/
import Derived.Lib.Hide
import Derived.Test.YthgffoanecknoaaGreatDoorI4
import Derived.Test.YthgffoanecknoaaGreatDoorH3
set_option linter.unusedVariables false
set_option maxRecDepth 100000
set_option maxHeartbeats 16000000
open Go.Lib (hid)
namespace Go.Proofs.YthgffoanecknoaaGreatDoor
namespace doc
open Go.RowKit base tok cnt
set_option linter.unusedSimpArgs false
theorem eq_val (a b c d : Int) (w : World) : (binOp .eql 36 (.agg #[.int .i64 a, .int .i64 b]) (.agg #[.int .i64 c, .int .i64 d])).run Tryz.prog w = .ok (.bool (decide (a = c /\ b = d))) w := by
 rw [run_eql_struct, run_equalIn_agg w _ _ _ _ (by kernel_rfl) (by kernel_rfl)]
 simp only [Program.fieldsOf, Tryz.underlying36]
 simp [Op.eqFields, go_sem, Tryz.underlying3]
 (repeat' split) <;> simp_all
def dispAt (L : List Sy) (n : Int) : Int × Int := ((L[n.toNat]?).map (fun s => s 0)).getD (0, 0)
def itemF (D : List Nd) (L : List Sy) (n : Int) : Bool := decide (kindAt D n = 2) && decide ((dispAt L n).1 = 1 /\ (dispAt L n).2 = 8)
theorem dispAt_at {L : List Sy} {j : Nat} {s : Sy} (h : L[j]? = some s) : dispAt L j = s 0 := by unfold dispAt; rw [Int.toNat_natCast, h]; rfl
theorem syRd {w : World} {B : Nat} {A : Option Addr} {n k : Nat} {L : List Sy} (h : Rd 118 scells w B A n L) (hk : k < n) : ∃ b off s, A = some ⟨b, off, none⟩ /\ b < B /\ L[k]? = some s /\ w.cell? ⟨b, off + k * 118, none⟩ = some (.int .i64 (s 0).1) /\ w.cell? ⟨b, off + k * 118 + 1, none⟩ = some (.int .i64 (s 0).2) := by
 obtain ⟨b, off, p, hA, hlt, hd, hc⟩ := Rd.at_ h hk
 exact ⟨b, off, p, hA, hlt, hd, (hc 0 (by decide)).trans (scells_at p (p := 0) (by decide) 0 (by decide)), (hc 1 (by decide)).trans (scells_at p (p := 0) (by decide) 1 (by decide))⟩
theorem item_ct (D : List Nd) (L : List Sy) (A B : Option Addr) (cap capL n : Nat) (q : Bool) (j : Nat) (hj : j < n) (w : World) (hD : DocAt w w.heap.size A cap D) (hL : StyAt w w.heap.size B capL L) (hn : D.length = n) (hm : L.length = n) : Calls Tryz.prog 18 #[dcV A n cap q, .slice B n capL, .int .i64 (j : Int)] w fun e w' => e = .returned (.bool (itemF D L j)) /\ Below w.heap.size w w' := by
 have hK0 := hid (BSt.beg (w := w) (n := n) (A := A) (cap := cap) (q := q))
 have hcp := hD.len
 have hcl := hL.len
 unfold maxLen at hcp hcl
 rw [hn] at hcp
 rw [hm] at hcl
 have hb := hK0.out.2
 have r1 := (hD.keep hb (Nat.le_refl _)).row
 have r2 := (hL.keep hb (Nat.le_refl _)).row
 rw [hn] at r1
 rw [hm] at r2
 obtain ⟨b, off, x, rfl, hbb, hx, g0, g1, g2, g3, g4, g5⟩ := ndRd r1 hj
 obtain ⟨b2, off2, s, rfl, hbb2, hs, k0, k1⟩ := syRd r2 hj
 have e1 := kindAt_at hx
 have e2 := dispAt_at hs
 have hj' : (j : Int) < (n : Int) := by omega
 have heq := fun w => eq_val (s 0).1 (s 0).2 1 8 w
 unfold itemF
 rw [e1, e2]
 have b0 := hK0.out.1.cell
 obtain ⟨v, hv⟩ : ∃ v, decide ((s 0).1 = 1 /\ (s 0).2 = 8) = v := ⟨_, rfl⟩
 rw [hv] at heq ⊢
 clear hD hL hn hm r1 r2 hx hs hb e1 e2 hv
 by_cases h : x.kind = 2
 ·have h' : (x.kind == 2) = true := by simp [h]
  rw [decide_eq_true h, Bool.true_and]
  clear h
  go_enter Tryz.func18, Tryz.ntmps18
  go_wp2_with fail
  go_ret
  exact ⟨rfl, hK0.out.2⟩
 ·have h' : (x.kind == 2) = false := by simp [h]
  rw [decide_eq_false h, Bool.false_and]
  clear h
  go_enter Tryz.func18, Tryz.ntmps18
  go_wp2_with fail
  go_ret
  exact ⟨rfl, hK0.out.2⟩
instance (k : Int) (s : ByteArray) : Decidable (goodI k s) := by unfold goodI; infer_instance
def toldF (s : Bs) : List At -> Option Int
 | [] => none
 | a :: R => if a.1 = s then (if goodI 2 (bs a.2) then some (backI 2 a.2) else none) else toldF s R
theorem toldF_step {V : List At} {i : Nat} {a : At} {s : Bs} (h : V[i]? = some a) : toldF s (V.drop i) = if a.1 = s then (if goodI 2 (bs a.2) then some (backI 2 a.2) else none) else toldF s (V.drop (i + 1)) := by
 obtain ⟨hl, he⟩ := List.getElem?_eq_some_iff.1 h
 rw [List.drop_eq_getElem_cons hl, he, toldF]
theorem toldF_bd {s : Bs} : ∀ {V : List At} {v : Int}, toldF s V = some v -> -1000000 <= v /\ v <= 1000000
 | [], v, h => by cases h
 | a :: R, v, h => by
  rw [toldF] at h
  by_cases h1 : a.1 = s
  ·rw [if_pos h1] at h
   by_cases h2 : goodI 2 (bs a.2)
   ·rw [if_pos h2] at h
    obtain rfl := Option.some.inj h
    exact ⟨h2.1, h2.2.1⟩
   ·rw [if_neg h2] at h
    cases h
  ·rw [if_neg h1] at h
   exact toldF_bd h
theorem told_ct (x : Nd) (s : Bs) (w : World) (hx : NdIn w w.heap.size x) (h4 : ∀ a ∈ x.attrs, a.2.length <= 400) (hT : LibAt w) : Calls Tryz.prog 37 #[ndV x, .string (bs s)] w fun e w' => e = .returned (.tuple #[.int .i64 ((toldF s x.attrs).getD 0), .bool (toldF s x.attrs).isSome]) /\ Below w.heap.size w w' := by
 have hb : Below w.heap.size w (w.alloc (.cells (ndC x) 34)) := ba _ _
 have HB := hid hb
 have QN := hid (Blk.new (w := w) (t := 34) (cs := ndC x) rfl)
 have HI := hid hx.attrs
 have HT := hid hT
 have H4 := hid h4
 have hal := hx.attrL
 unfold maxLen at hal
 obtain ⟨T, hTT⟩ : ∃ T, toldF s x.attrs = T := ⟨_, rfl⟩
 have HTT := hid hTT
 rw [hTT]
 have q0 := QN.out.cell
 clear hb hx hT h4 hTT
 go_enter Tryz.func37, Tryz.ntmps37
 go_wp2_with fail
 go_loopw [13] (fun y wr => ∃ i : Nat, i <= x.attrs.length /\ y = .int .i64 i /\ toldF s (x.attrs.drop i) = T /\ Below w.heap.size w wr) (fun y _ => x.attrs.length - (intOf y).toNat)
 case atStart => exact ⟨0, Nat.zero_le _, rfl, HTT.out, HB.out⟩
 case round =>
  obtain ⟨i, hil, rfl, hinv, hbel⟩ := hrel
  have HInv := hid hinv
  have HBl := hid hbel
  clear hinv
  by_cases hlt : i < x.attrs.length
  ·have hlt' : (i : Int) < (x.attrs.length : Int) := by omega
   obtain ⟨b, off, a, hA, hbb, hd, c0, c1⟩ := atRd (HI.out.keep hbel hbel.size) hlt
   have hst := toldF_step (s := s) hd
   rw [HInv.out] at hst
   have HSt := hid hst
   have h2 : ((bs a.1).toList == (bs s).toList) = decide (a.1 = s) := by
    rw [toL, toL]
    by_cases h : a.1 = s <;> simp [h]
   have HBa := hid (hbel.alloc hbel.size (.cells #[.string (bs a.1), .string (bs a.2)] 107))
   have cB := hid (fun W' (h : Below w.heap.size w W') => Back_ct 2 (by decide) (bs a.2) (by rw [szL]; have := H4.out a (List.mem_of_getElem? hd); omega) W' (HT.out.on h))
   rw [hA]
   clear hst hd hbel hA q0
   by_cases hq : a.1 = s
   ·rw [decide_eq_true hq] at h2
    have hst := HSt.out
    rw [if_pos hq] at hst
    have HSt2 := hid hst
    clear hst hq
    go_wp2_with (go_at_call 61; refine (cB.out _ HBa.out).mono ?_; rintro e W1 ⟨hor, hb1⟩; have HB1 := hid (tb HBa hb1); clear hb1; rcases hor with ⟨hg, rfl⟩ | ⟨hg, rfl⟩)
    ·have hF := hid (HSt2.out.trans (if_pos hg))
     go_ret2
     exact ⟨by rw [hF.out]; rfl, HB1.out⟩
    ·have hF := hid (HSt2.out.trans (if_neg hg))
     go_ret2
     exact ⟨by rw [hF.out]; rfl, HB1.out⟩
   ·rw [decide_eq_false hq] at h2
    have hF := hid (HSt.out.trans (if_neg hq)).symm
    clear hq
    go_wp2_with fail
    go_roundw
    case rel => exact ⟨i + 1, by omega, by go_num, hF.out, HBa.out⟩
    case measure => simp [intOf]; omega
  ·obtain rfl : i = x.attrs.length := by omega
   have hF := hid (show T = none by rw [<- HInv.out, List.drop_length]; rfl)
   clear hbel
   go_wp2_with fail
   go_ret2
   exact ⟨by rw [hF.out]; rfl, HBl.out⟩
end doc
namespace doc
open Go.RowKit base tok cnt
set_option linter.unusedSimpArgs false
abbrev valB : Bs := [118, 97, 108, 117, 101]
abbrev startB : Bs := [115, 116, 97, 114, 116]
def upd (o : Nat -> Int) (j : Nat) (v : Int) : Nat -> Int := fun i => if i = j then v else o i
def intsC (n : Nat) (o : Nat -> Int) : Array Value := ((List.range n).map fun k => .int .i64 (o k)).toArray
theorem intsC_nil (n : Nat) : Array.replicate n (.int .i64 0) = intsC n (fun _ => 0) := by
 apply Array.ext
 ·simp [intsC]
 ·intro i h1 h2
  simp [intsC]
theorem intsC_at {n k : Nat} (o : Nat -> Int) (hk : k < n) : (intsC n o)[k]? = some (.int .i64 (o k)) := by
 simp [intsC, hk]
theorem intsC_put {n k : Nat} (o : Nat -> Int) (v : Int) (hk : k < n) : (intsC n o).setIfInBounds k (.int .i64 v) = intsC n (upd o k v) := by
 apply Array.ext
 ·simp [intsC]
 ·intro i h1 h2
  have hi : i < n := by simpa [intsC] using h2
  by_cases h : k = i
  ·subst h
   simp [intsC, upd]
  ·have h' : ¬ i = k := fun e => h e.symm
   simp [intsC, upd, h, h']
structure NSt (w wr : World) (n : Nat) (A : Option Addr) (cap : Nat) (q : Bool) (o : Nat -> Int) : Prop where
 doc : Blk wr w.heap.size 24 #[.slice A n cap, .bool q]
 out : Blk wr (w.heap.size + 1) 3 (intsC n o)
 box : Blk wr (w.heap.size + 2) 27 #[.slice (some ⟨w.heap.size + 1, 0, none⟩) n n]
 bel : Below w.heap.size w wr
theorem NSt.alloc {w wr : World} {n : Nat} {A : Option Addr} {cap : Nat} {q : Bool} {o : Nat -> Int} (h : NSt w wr n A cap q o) (b : Obj) : NSt w (wr.alloc b) n A cap q o :=
 ⟨h.doc.alloc b, h.out.alloc b, h.box.alloc b, h.bel.alloc h.bel.size b⟩
theorem NSt.on {w wr w' : World} {n : Nat} {A : Option Addr} {cap : Nat} {q : Bool} {o : Nat -> Int} (h : NSt w wr n A cap q o) (hb : Below wr.heap.size wr w') : NSt w w' n A cap q o :=
 ⟨h.doc.below hb h.doc.lt, h.out.below hb h.out.lt, h.box.below hb h.box.lt, h.bel.trans (hb.mono h.bel.size)⟩
theorem NSt.put {w wr : World} {n : Nat} {A : Option Addr} {cap : Nat} {q : Bool} {o : Nat -> Int} (h : NSt w wr n A cap q o) {j : Nat} (hj : j < n) (v : Int) : NSt w (wr.setCell ⟨w.heap.size + 1, j, none⟩ (.int .i64 v)) n A cap q (upd o j v) :=
 ⟨h.doc.far (by simp) _, by have := h.out.put j (.int .i64 v); rwa [intsC_put o v hj] at this, h.box.far (by simp) _, h.bel.setCell (by simp) _⟩
def Same (k0 : Nat) (w w' : World) : Prop := ∀ k, k < w.heap.size -> k ≠ k0 -> w'.heap[k]? = w.heap[k]?
theorem one_n (D : List Nd) (A : Option Addr) (cap n : Nat) (q : Bool) (w wr : World) (o : Nat -> Int) (j : Nat) (hj : j < n) (x : Nd) (hx : D[j]? = some x) (hn : D.length = n) (hN : ∀ a ∈ x.attrs, a.2.length <= 400) (nx : Int) (hnx : -1000000 <= nx /\ nx <= 1000000) (hD : DocAt w w.heap.size A cap D) (hT : LibAt w) (hS : NSt w wr n A cap q o) :
  Calls Tryz.prog 36 #[.int .i64 (j : Int), .int .i64 nx, .pointer (some ⟨w.heap.size, 0, none⟩), .pointer (some ⟨w.heap.size + 2, 0, none⟩)] wr fun e w' => e = .returned (.int .i64 (min ((toldF valB x.attrs).getD nx + 1) 1000000)) /\ NSt w w' n A cap q (upd o j ((toldF valB x.attrs).getD nx)) /\ Same (w.heap.size + 1) wr w' := by
 have hDr := hD.keep hS.bel (Nat.le_refl _)
 have hcp := hD.len
 unfold maxLen at hcp
 have hrow := hDr.row
 rw [hn] at hrow hcp
 have HIn := hid ((hDr.each x (List.mem_of_getElem? hx)).keep (Below.refl _ wr) hS.bel.size)
 obtain ⟨b, off, x', rfl, hbb, hx', g0, g1, g2, g3, g4, g5⟩ := ndRd hrow hj
 obtain rfl : x = x' := Option.some.inj (hx.symm.trans hx')
 have hj' : (j : Int) < (n : Int) := by omega
 have HS := hid hS
 have HT := hid (hT.on hS.bel)
 have d0 := hS.doc.cell
 have cT := hid (told_ct x valB wr HIn.out hN HT.out)
 have hbd : ∀ v, toldF valB x.attrs = some v -> -1000000 <= v /\ v <= 1000000 := fun v h => toldF_bd h
 obtain ⟨T, hTT⟩ : ∃ T, toldF valB x.attrs = T := ⟨_, rfl⟩
 rw [hTT] at cT hbd ⊢
 clear hDr hrow hx hx' hN hD hT hS hTT hn
 cases T with
 | none =>
  clear hbd
  simp only [Option.getD_none, Option.isSome_none] at cT ⊢
  go_enter Tryz.func36, Tryz.ntmps36
  go_wp2_with (go_at_call 37; refine cT.out.mono ?_; rintro e W1 ⟨rfl, hb1⟩; have HB1 := hid hb1; have HS1 := hid (HS.out.on hb1); have e0 := HS1.out.box.cell; have e1 := HS1.out.out.frozen; have e2 := (HS1.out.out.cell j).trans (intsC_at o hj); clear hb1)
  go_ret
  exact ⟨rfl, HS1.out.put hj _, fun k hk hne => (Below.heap_setCell W1 _ _ k hne).trans (HB1.out.block k hk)⟩
 | some v =>
  have hv := hbd v rfl
  clear hbd hnx
  simp only [Option.getD_some, Option.isSome_some] at cT ⊢
  go_enter Tryz.func36, Tryz.ntmps36
  go_wp2_with (go_at_call 37; refine cT.out.mono ?_; rintro e W1 ⟨rfl, hb1⟩; have HB1 := hid hb1; have HS1 := hid (HS.out.on hb1); have e0 := HS1.out.box.cell; have e1 := HS1.out.out.frozen; have e2 := (HS1.out.out.cell j).trans (intsC_at o hj); clear hb1)
  go_ret
  exact ⟨rfl, HS1.out.put hj _, fun k hk hne => (Below.heap_setCell W1 _ _ k hne).trans (HB1.out.block k hk)⟩
end doc
end Go.Proofs.YthgffoanecknoaaGreatDoor
