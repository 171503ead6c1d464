/- Contracts and plain law, a bundle: Cal0 Cal1 Cal2 Cal3 Cal4 Cal5 Cal6 Cal7 Cal8. -/
import Derived.Deep.RegionHeld3
import Derived.Test.YtbiahfjjngkfgaaDoorBC2
import Derived.Test.YtbiahfjjngkfgaaDoorBC

namespace Go.Proofs.YtbiahfjjngkfgaaDoor.cal
open Go.RowKit Go.Proofs.YtbiahfjjngkfgaaDoor.base Go.Proofs.YtbiahfjjngkfgaaDoor.tok Go.Proofs.YtbiahfjjngkfgaaDoor.dim
set_option linter.unusedVariables false

theorem quo_by (a d : Int) (hd : 0 < d) : a / d = if a.tmod d < 0 then a.tdiv d - 1 else a.tdiv d := by
  have h1 := Int.mul_tdiv_add_tmod a d
  have h5 := Int.tmod_lt_of_pos a hd
  have h6 := Int.lt_tmod_of_pos a hd
  split
  · rename_i h
    have e : a = (a.tmod d + d) + d * (a.tdiv d - 1) := by rw [Int.mul_sub, Int.mul_one]; omega
    conv => lhs; rw [e]
    rw [Int.add_mul_ediv_left _ _ (by omega), Int.ediv_eq_zero_of_lt (by omega) (by omega)]
    omega
  · conv => lhs; rw [← h1, Int.add_comm]
    rw [Int.add_mul_ediv_left _ _ (by omega), Int.ediv_eq_zero_of_lt (by omega) (by omega)]
    omega

/-- a scale -/
structure Sc where
  (em rem vw vh : Int)
def Sc.v (k : Sc) : Value := .agg #[.int .i64 k.em, .int .i64 k.rem, .int .i64 k.vw, .int .i64 k.vh]
/-- what a number of a unit is worth -/
def numP (u : ByteArray) (n : Int) (k : Sc) : Option (Int × Int) :=
  if u = .empty then some (4, clipI n)
  else if u = ⟨#[37]⟩ then some (3, clipI (n / 10))
  else if okP n k.em k.rem k.vw k.vh then
    some (2, if u = ⟨#[112, 120]⟩ then clipI (n * 64 / 1000) else if u = ⟨#[101, 109]⟩ then clipI (n * k.em / 1000) else if u = ⟨#[114, 101, 109]⟩ then clipI (n * k.rem / 1000)
      else if u = ⟨#[118, 119]⟩ then clipI (n * (64 * k.vw) / 100000) else clipI (n * (64 * k.vh) / 100000))
  else none
def resV : Option (Int × Int) → Value
  | none => .tuple #[.agg #[.int .i64 0, .int .i64 0], .int .i64 1]
  | some (k, n) => .tuple #[.agg #[.int .i64 k, .int .i64 n], .int .i64 0]
theorem clip_bd (x : Int) : -16777216 ≤ clipI x ∧ clipI x ≤ 16777216 := by unfold clipI; omega
theorem clip_id {x : Int} (h0 : -16777216 ≤ x) (h1 : x ≤ 16777216) : clipI x = x := by unfold clipI; omega
theorem numP_bd {u : ByteArray} {n : Int} {k : Sc} {r : Int × Int} (h : numP u n k = some r) : -16777216 ≤ r.2 ∧ r.2 ≤ 16777216 := by
  unfold numP at h
  repeat' split at h
  all_goals first | (obtain rfl := Option.some.inj h; exact clip_bd _) | cases h

end Go.Proofs.YtbiahfjjngkfgaaDoor.cal

namespace Go.Proofs.YtbiahfjjngkfgaaDoor.cal
open Go.RowKit Go.Proofs.YtbiahfjjngkfgaaDoor.base Go.Proofs.YtbiahfjjngkfgaaDoor.tok Go.Proofs.YtbiahfjjngkfgaaDoor.dim
set_option linter.unusedVariables false

/-- the units that a law names -/
def isUnit (u : ByteArray) : Prop := u = .empty ∨ u = ⟨#[112, 120]⟩ ∨ u = ⟨#[101, 109]⟩ ∨ u = ⟨#[114, 101, 109]⟩ ∨ u = ⟨#[118, 119]⟩ ∨ u = ⟨#[118, 104]⟩ ∨ u = ⟨#[37]⟩

end Go.Proofs.YtbiahfjjngkfgaaDoor.cal

namespace Go.Proofs.YtbiahfjjngkfgaaDoor.cal
open Go.RowKit Go.Proofs.YtbiahfjjngkfgaaDoor.base Go.Proofs.YtbiahfjjngkfgaaDoor.tok Go.Proofs.YtbiahfjjngkfgaaDoor.dim
set_option linter.unusedVariables false

set_option maxRecDepth 100000 in
set_option maxHeartbeats 4000000 in
theorem shaped_ct (k n : Int) (u : ByteArray) (A : Option Addr) (m cap : Nat) (h : (k = 1 ∧ m = 0) ∨ ((k = 2 ∨ k = 3 ∨ k = 4 ∨ k = 6 ∨ k = 7) ∧ m = 2) ∨ (k = 8 ∧ m = 3)) (w : World) :
    Calls Tryd.prog 13 #[.agg #[.int .i64 k, .int .i64 n, .string u, .slice A m cap]] w fun e w' => e = .returned (.bool true) ∧ Below w.heap.size w w' := by
  rcases h with ⟨rfl, rfl⟩ | ⟨rfl | rfl | rfl | rfl | rfl, rfl⟩ | ⟨rfl, rfl⟩
  all_goals
    go_enter Tryd.func13, Tryd.ntmps13
    go_wp2
    go_ret
    exact ⟨rfl, (Below.refl w.heap.size w).alloc (Nat.le_refl _) _⟩

end Go.Proofs.YtbiahfjjngkfgaaDoor.cal

namespace Go.Proofs.YtbiahfjjngkfgaaDoor.cal
open Go.RowKit Go.Proofs.YtbiahfjjngkfgaaDoor.base Go.Proofs.YtbiahfjjngkfgaaDoor.tok Go.Proofs.YtbiahfjjngkfgaaDoor.dim
set_option linter.unusedVariables false

end Go.Proofs.YtbiahfjjngkfgaaDoor.cal

namespace Go.Proofs.YtbiahfjjngkfgaaDoor.cal
open Go.RowKit Go.Proofs.YtbiahfjjngkfgaaDoor.base Go.Proofs.YtbiahfjjngkfgaaDoor.tok Go.Proofs.YtbiahfjjngkfgaaDoor.dim
set_option linter.unusedVariables false

def opP (k x y : Int) : Int := if k = 2 then x + y else if k = 3 then x - y else if k = 6 then min x y else max x y

end Go.Proofs.YtbiahfjjngkfgaaDoor.cal

namespace Go.Proofs.YtbiahfjjngkfgaaDoor.cal
open Go.RowKit Go.Proofs.YtbiahfjjngkfgaaDoor.base Go.Proofs.YtbiahfjjngkfgaaDoor.tok Go.Proofs.YtbiahfjjngkfgaaDoor.dim
set_option linter.unusedVariables false

/-- a term as it lies in four cells -/
structure Tm where
  (k n : Int) (u : ByteArray) (a : Option Addr) (l c : Nat)
def Tm.f (t : Tm) : List Value := [.int .i64 t.k, .int .i64 t.n, .string t.u, .slice t.a t.l t.c]
def Tm.v (t : Tm) : Value := .agg #[.int .i64 t.k, .int .i64 t.n, .string t.u, .slice t.a t.l t.c]
def leafT (n : Int) (u : ByteArray) : Tm := ⟨1, n, u, none, 0, 0⟩
/-- they lie in a row -/
def TmAt (w : World) (b o : Nat) (L : List Tm) : Prop := b < w.heap.size ∧ ∀ (i : Nat) (t : Tm), L[i]? = some t → w.cell? ⟨b, o + i * 4, none⟩ = some (.int .i64 t.k) ∧ w.cell? ⟨b, o + i * 4 + 1, none⟩ = some (.int .i64 t.n) ∧ w.cell? ⟨b, o + i * 4 + 2, none⟩ = some (.string t.u) ∧ w.cell? ⟨b, o + i * 4 + 3, none⟩ = some (.slice t.a t.l t.c)
theorem TmAt.on {w w' : World} {b o : Nat} {L : List Tm} (h : TmAt w b o L) (hb : Below w.heap.size w w') : TmAt w' b o L :=
  ⟨Nat.lt_of_lt_of_le h.1 hb.size, fun i t ht => ⟨(hb.cell (p := ⟨b, _, none⟩) h.1).trans (h.2 i t ht).1, (hb.cell (p := ⟨b, _, none⟩) h.1).trans (h.2 i t ht).2.1, (hb.cell (p := ⟨b, _, none⟩) h.1).trans (h.2 i t ht).2.2.1, (hb.cell (p := ⟨b, _, none⟩) h.1).trans (h.2 i t ht).2.2.2⟩⟩

def cntS (c : Nat → Nat) : Nat → Nat
  | 0 => 1
  | i + 1 => cntS c i + c i
theorem cntS_le (c : Nat → Nat) (hc : ∀ i, c i ≤ 9) : ∀ i, cntS c i ≤ 1 + 9 * i
  | 0 => by simp [cntS]
  | i + 1 => by have := cntS_le c hc i; have := hc i; simp only [cntS]; omega

end Go.Proofs.YtbiahfjjngkfgaaDoor.cal

namespace Go.Proofs.YtbiahfjjngkfgaaDoor.cal
open Go.RowKit Go.Proofs.YtbiahfjjngkfgaaDoor.base Go.Proofs.YtbiahfjjngkfgaaDoor.tok Go.Proofs.YtbiahfjjngkfgaaDoor.dim
set_option linter.unusedVariables false

def valF (p : Int × Int) : List Value := [.int .i64 p.1, .int .i64 p.2]
theorem valF_len (p : Int × Int) : (valF p).length = 2 := rfl
theorem snoc_get {α : Type} {acc : List α} {p : α} {q : Nat} {x : α} (h : (acc ++ [p])[q]? = some x) : acc[q]? = some x ∨ (q = acc.length ∧ x = p) := by
  rcases Nat.lt_trichotomy q acc.length with h1 | h1 | h1
  · rw [List.getElem?_append_left h1] at h
    exact .inl h
  · subst h1
    rw [List.getElem?_concat_length] at h
    exact .inr ⟨rfl, (Option.some.inj h).symm⟩
  · rw [List.getElem?_eq_none (by simp; omega)] at h
    cases h

end Go.Proofs.YtbiahfjjngkfgaaDoor.cal

namespace Go.Proofs.YtbiahfjjngkfgaaDoor.cal
open Go.RowKit Go.Proofs.YtbiahfjjngkfgaaDoor.base Go.Proofs.YtbiahfjjngkfgaaDoor.tok Go.Proofs.YtbiahfjjngkfgaaDoor.dim
set_option linter.unusedVariables false

theorem G_beg {h g : Nat} {w : World} : (∀ o, w.drew.cell? ⟨g, o, none⟩ = w.cell? ⟨g, o, none⟩) ∧ Below h w w.drew := ⟨fun _ => rfl, (Below.refl _ _).drew⟩
theorem G_on {h g : Nat} {W0 w w' : World} (k : Below w.heap.size w w') (hS : (∀ o, w.cell? ⟨g, o, none⟩ = W0.cell? ⟨g, o, none⟩) ∧ Below h W0 w) (hg : g < W0.heap.size) (hh : h ≤ W0.heap.size) : (∀ o, w'.cell? ⟨g, o, none⟩ = W0.cell? ⟨g, o, none⟩) ∧ Below h W0 w' :=
  ⟨fun o => (k.cell (p := ⟨g, o, none⟩) (Nat.lt_of_lt_of_le hg hS.2.size)).trans (hS.1 o), hS.2.trans (k.mono (Nat.le_trans hh hS.2.size))⟩
theorem G_store {h g : Nat} {W0 w : World} {p : Addr} {v : Value} (hS : (∀ o, w.cell? ⟨g, o, none⟩ = W0.cell? ⟨g, o, none⟩) ∧ Below h W0 w) (hp : h ≤ p.block) (hne : p.block ≠ g) : (∀ o, (w.setCell p v).cell? ⟨g, o, none⟩ = W0.cell? ⟨g, o, none⟩) ∧ Below h W0 (w.setCell p v) :=
  ⟨fun o => (World.cell?_setCell_other w p ⟨g, o, none⟩ v (by intro e; subst e; exact hne rfl)).trans (hS.1 o), hS.2.setCell hp v⟩

end Go.Proofs.YtbiahfjjngkfgaaDoor.cal

namespace Go.Proofs.YtbiahfjjngkfgaaDoor.cal
open Go.RowKit Go.Proofs.YtbiahfjjngkfgaaDoor.base Go.Proofs.YtbiahfjjngkfgaaDoor.tok Go.Proofs.YtbiahfjjngkfgaaDoor.dim
set_option linter.unusedVariables false

def twoP (k : Int) (r0 r1 : Option (Int × Int)) : Option (Int × Int) :=
  match r0, r1 with
  | some p, some q => some (p.1, clipI (opP k p.2 q.2))
  | _, _ => none
theorem two_acc {acc : List (Int × Int)} {r0 r1 : Option (Int × Int)} (h : acc.length = 2) (hr : ∀ q p, acc[q]? = some p → (fun i : Nat => if i = 0 then r0 else r1) q = some p) : ∃ p q, acc = [p, q] ∧ r0 = some p ∧ r1 = some q := by
  match acc, h with
  | [p, q], _ => exact ⟨p, q, rfl, hr 0 p rfl, hr 1 q rfl⟩
theorem two_at {α : Type} {t0 t1 t : α} {i : Nat} (h : ([t0, t1] : List α)[i]? = some t) : (i = 0 ∧ t = t0) ∨ (i = 1 ∧ t = t1) := by
  match i with
  | 0 => exact .inl ⟨rfl, (Option.some.inj h).symm⟩
  | 1 => exact .inr ⟨rfl, (Option.some.inj h).symm⟩
  | i + 2 => simp at h
def midP (r0 r1 r2 : Option (Int × Int)) : Option (Int × Int) :=
  match r0, r1, r2 with
  | some p, some q, some s => some (p.1, clipI (max p.2 (min q.2 s.2)))
  | _, _, _ => none
theorem three_at {α : Type} {t0 t1 t2 t : α} {i : Nat} (h : ([t0, t1, t2] : List α)[i]? = some t) : (i = 0 ∧ t = t0) ∨ (i = 1 ∧ t = t1) ∨ (i = 2 ∧ t = t2) := by
  match i with
  | 0 => exact .inl ⟨rfl, (Option.some.inj h).symm⟩
  | 1 => exact .inr (.inl ⟨rfl, (Option.some.inj h).symm⟩)
  | 2 => exact .inr (.inr ⟨rfl, (Option.some.inj h).symm⟩)
  | i + 3 => simp at h
def mulP (r : Option (Int × Int)) : Option (Int × Int) :=
  match r with
  | some p => some (p.1, clipI (p.2 * 3000 / 1000))
  | none => none
theorem mulP_bd {r : Option (Int × Int)} {p : Int × Int} (hp : mulP r = some p) : -16777216 ≤ p.2 ∧ p.2 ≤ 16777216 := by
  unfold mulP at hp
  split at hp
  · obtain rfl := Option.some.inj hp
    exact clip_bd _
  · cases hp
end Go.Proofs.YtbiahfjjngkfgaaDoor.cal
