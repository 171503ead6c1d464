/- Contracts and plain law, a bundle. -/
import Derived.Lib.Hide
import Derived.Test.YthgffoanecknoaaGreatDoorJ4
import Derived.Test.YthgffoanecknoaaGreatDoorJ1
import Derived.Test.YthgffoanecknoaaGreatDoorI4
import Derived.Test.YthgffoanecknoaaGreatDoorJ2
import Derived.Test.YthgffoanecknoaaGreatDoorI7
import Derived.Test.YthgffoanecknoaaGreatDoorBJ
set_option linter.unusedVariables false
set_option maxRecDepth 100000
set_option maxHeartbeats 16000000
open Go.Lib (hid)
namespace Go.Proofs.YthgffoanecknoaaGreatDoor
namespace doc
open Go.RowKit base tok
theorem upF_mono (D : List Nd) : ∀ (f : Nat) (n : Int), upF D f n <= upF D (f + 1) n
 | 0, n => by rw [upF]; exact Nat.zero_le _
 | f + 1, n => by
  rw [upF]
  conv => rhs; rw [upF]
  split
  ·exact Nat.succ_le_succ (upF_mono D f _)
  ·exact Nat.le_refl _
section
variable {D E X E2 Y : List Nd} {nm : Bs} {z md md2 : Int} {t : Nat}
theorem more_get (hA : Alike E D) (hX : X = E ++ [freshN nm]) {j : Nat} (hj : j < D.length) : ∃ x y, D[j]? = some x /\ X[j]? = some y /\ y.Like x := by
 have hx := List.getElem?_eq_getElem hj
 obtain ⟨y, hy, hl⟩ := hA.get hx
 refine ⟨_, y, hx, ?_, hl⟩
 rw [hX, List.getElem?_append_left (by rw [hA.len]; exact hj)]
 exact hy
theorem more_par (hA : Alike E D) (hX : X = E ++ [freshN nm]) {j : Nat} (hj : j < D.length) : parAt X j = parAt D j /\ kindAt X j = kindAt D j := by
 obtain ⟨x, y, hx, hy, h1, _, _, _, h5, _⟩ := more_get hA hX hj
 rw [parAt_at hx, parAt_at hy, kindAt_at hx, kindAt_at hy]
 exact ⟨h5, h1⟩
theorem more_up (hA : Alike E D) (hX : X = E ++ [freshN nm]) (hO : OkD D) : ∀ (f : Nat) (j : Nat), j < D.length -> upF X f j = upF D f j
 | 0, j, _ => rfl
 | f + 1, j, hj => by
  rw [upF, upF, (more_par hA hX hj).1]
  rcases hO.par j with h | h
  ·rw [if_neg (by omega), if_neg (by omega)]
  ·rw [if_pos h.1, if_pos h.1]
   obtain ⟨m, hm⟩ : ∃ m : Nat, parAt D j = m := ⟨(parAt D j).toNat, by omega⟩
   rw [hm, more_up hA hX hO f m (by omega)]
theorem more_loose (hA : Alike E D) (hX : X = E ++ [freshN nm]) (hO : OkD D) (m : Int) : parAt X m ≠ (D.length : Nat) := by
 have hXl : X.length = D.length + 1 := by rw [hX, List.length_append, hA.len]; rfl
 rcases Nat.lt_or_ge m.toNat D.length with hj | hj
 ·have h := (more_par hA hX hj).1
  have e : parAt X m = parAt X (m.toNat : Nat) := by unfold parAt; rw [Int.toNat_natCast]
  rw [e, h]
  rcases hO.par (m.toNat : Nat) with h | h <;> omega
 ·rcases Nat.lt_or_ge D.length m.toNat with h2 | h2
  ·have : X[m.toNat]? = none := List.getElem?_eq_none (by omega)
   unfold parAt
   rw [this]
   simp only [Option.map_none, Option.getD_none]
   omega
  ·have h3 : X[m.toNat]? = some (freshN nm) := by
    have : m.toNat = E.length := by rw [hA.len]; omega
    rw [this, hX, List.getElem?_append_right (Nat.le_refl _), Nat.sub_self]
    rfl
   unfold parAt
   rw [h3]
   show (-1 : Int) ≠ _
   omega
theorem grown_of (hA : Alike E D) (hX : PhiM nm E X md) (hA2 : Alike E2 X) (hY : PhiI z D.length E2 Y md2) (hO : OkD D) :
  ∃ a : Nat, z = a /\ a < D.length /\ (kindAt D a = 1 ∨ kindAt D a = 2) /\ upF D (D.length + 1) a + 1 <= 40 /\ Grown D Y a nm := by
 obtain ⟨hX, _, _, _⟩ := hX
 obtain ⟨_, a, xa, xt, A', C', rfl, ha, hat, hk, hu, hxa, hxt, rfl⟩ := hY
 have hXl : X.length = D.length + 1 := by rw [hX, List.length_append, hA.len]; rfl
 have hEl := hA2.len
 have had : a < D.length := by omega
 rw [hA2.kind, (more_par hA hX had).2] at hk
 rw [hA2.upF, hEl, hXl, more_up hA hX hO _ a had] at hu
 refine ⟨a, rfl, had, hk, Nat.le_trans (Nat.succ_le_succ (upF_mono D _ _)) hu, ?_, fun j x hx => ?_, ?_⟩
 ·rw [List.length_set, List.length_set, hEl, hXl]
 ·have hj := (List.getElem?_eq_some_iff.1 hx).1
  obtain ⟨x', y, hx', hy, hl1⟩ := more_get hA hX hj
  obtain rfl := Option.some.inj (hx.symm.trans hx')
  obtain ⟨y2, hy2, hl2⟩ := hA2.get hy
  obtain ⟨a1, a2, a3, a4, a5, a6⟩ := hl1
  obtain ⟨b1, b2, b3, b4, b5, b6⟩ := hl2
  rw [List.getElem?_set_ne (by omega)]
  by_cases hja : j = a
  ·subst hja
   rw [List.getElem?_set_self (by omega)]
   obtain rfl := Option.some.inj (hy2.symm.trans hxa)
   exact ⟨_, rfl, b1.trans a1, b2.trans a2, b3.trans a3, b4.trans a4, b5.trans a5, by rw [if_pos rfl]; show y2.kids ++ _ = _; rw [b6, a6]⟩
  ·rw [List.getElem?_set_ne (fun e => hja e.symm)]
   exact ⟨_, hy2, b1.trans a1, b2.trans a2, b3.trans a3, b4.trans a4, b5.trans a5, by rw [if_neg hja]; exact b6.trans a6⟩
 ·have hy : X[D.length]? = some (freshN nm) := by
   rw [hX, <- hA.len, List.getElem?_append_right (Nat.le_refl _), Nat.sub_self]
   rfl
  obtain ⟨y2, hy2, b1, b2, b3, b4, b5, b6⟩ := hA2.get hy
  obtain rfl := Option.some.inj (hy2.symm.trans hxt)
  refine ⟨_, List.getElem?_set_self (by rw [List.length_set, hEl, hXl]; omega), b1, b2, b3, b4, rfl, b6⟩
end
end doc
namespace doc
open Go.RowKit base tok prp
set_option linter.unusedSimpArgs false
def initB : List (Int × Int) := [(1, 1), (1, 0), (1, 0), (1, 0), (1, 0), (6, 0), (6, 0), (6, 0), (6, 0), (6, 0), (6, 0), (2, 0), (2, 0), (2, 0), (2, 0), (2, 0), (2, 0), (2, 0), (2, 0), (2, 0), (2, 0), (2, 0), (2, 0), (5, 255), (5, 255), (5, 255), (5, 255), (6, 0), (6, 0), (6, 0), (6, 0), (6, 0), (1, 0), (1, 0), (4, 1000), (5, 255), (5, 0), (2, 1024), (6, 0), (1, 0), (2, 0), (1, 0), (1, 0), (1, 0), (6, 0), (1, 0), (1, 0), (1, 0), (1, 6), (6, 0), (4, 0), (4, 1000), (6, 0), (4, 0), (2, 0), (1, 0), (2, 0), (1, 1), (1, 0)]
def initS : Sy := fun p => initB.getD p (0, 0)
def itemS : Sy := fun p => if p = 0 then (1, 8) else initS p
def partS (i : Nat) : Sy := fun p => if p < i then initS p else (0, 0)
def InitAt (w : World) : Prop := 0 < w.heap.size /\ ∀ p, p < 59 -> ∀ j, j < 2 -> w.cell? ⟨0, p * 2 + j, none⟩ = [Value.int .i64 (initS p).1, .int .i64 (initS p).2][j]?
theorem InitAt.on {w w' : World} (h : InitAt w) (hb : Below w.heap.size w w') : InitAt w' := ⟨Nat.lt_of_lt_of_le h.1 hb.size, fun p hp j hj => (hb.cell (p := ⟨0, p * 2 + j, none⟩) h.1).trans (h.2 p hp j hj)⟩
theorem item_fits : fitsG itemS 0 59 = true := by decide +kernel
theorem item_in : SyIn itemS := by
 have h : ∀ p, p < 59 -> (decide (-9223372036854775808 <= (itemS p).1) && decide ((itemS p).1 <= 9223372036854775807) && decide (-9223372036854775808 <= (itemS p).2) && decide ((itemS p).2 <= 9223372036854775807)) = true := by decide +kernel
 intro p hp
 have := h p hp
 simp only [Bool.and_eq_true, decide_eq_true_eq] at this
 exact ⟨⟨this.1.1.1, this.1.1.2⟩, ⟨this.1.2, this.2⟩⟩
theorem Initial_ct (p : Nat) (hp : p < 59) (w : World) (hI : InitAt w) : Calls Tryz.prog 14 #[.int .i64 (p : Int)] w fun e w' => e = .returned (.agg #[.int .i64 (initS p).1, .int .i64 (initS p).2]) /\ Below w.heap.size w w' := by
 obtain ⟨a, ha⟩ : ∃ a, (initS p).1 = a := ⟨_, rfl⟩
 obtain ⟨b, hb⟩ : ∃ b, (initS p).2 = b := ⟨_, rfl⟩
 have h1 := hI.2 p hp 0 (by decide)
 have h2 := hI.2 p hp 1 (by decide)
 rw [ha, hb] at h1 h2 ⊢
 have t1 : decide ((p : Int) < 0) = false := by simp
 have t2 : decide ((59 : Int) <= (p : Int)) = false := by simp; omega
 have t3 : (0 : Int) <= (p : Int) := by omega
 have t4 : (p : Int) < 59 := by omega
 have HB := hid (show Below w.heap.size w (w.alloc (.cells #[.int .i64 0, .int .i64 0] 36)) from (Below.refl _ w).alloc (Nat.le_refl _) _)
 have HX := hid (show Blk (w.alloc (.cells #[.int .i64 0, .int .i64 0] 36)) w.heap.size 36 #[.int .i64 0, .int .i64 0] from Blk.new rfl)
 have g0 := (HB.out.cell (p := ⟨0, p * 2 + 0, none⟩) hI.1).trans h1
 have g1 := (HB.out.cell (p := ⟨0, p * 2 + 1, none⟩) hI.1).trans h2
 simp only [Nat.add_zero, List.getElem?_cons_zero, List.getElem?_cons_succ] at g0 g1
 have x0 := HX.out.cell
 have f0 := HX.out.frozen
 clear h1 h2 ha hb hI
 go_enter Tryz.func14, Tryz.ntmps14
 go_wp2_with fail
 have fc := (show Blk (w.alloc (.cells #[.int .i64 a, .int .i64 b] 36)) w.heap.size 36 #[.int .i64 a, .int .i64 b] from Blk.new rfl).cell
 refine bodyPost_ret (v := .agg #[.int .i64 a, .int .i64 b]) ?_ rfl ⟨rfl, (Below.refl _ w).alloc (Nat.le_refl _) _⟩
 simp [results, Tryz.results14, go_sem, fc]
end doc
namespace doc
open Go.RowKit base tok
set_option linter.unusedSimpArgs false
theorem doc_none {w : World} : DocAt w w.heap.size none 0 [] := ⟨Rd.nil, ⟨Nat.le_refl _, Nat.zero_le _⟩, fun x hx => by cases hx⟩
theorem check_none : checkF [] = 3 := rfl
def First (D : List Nd) (nm : Bs) (X : List Nd) (md k : Int) : Prop := (k ≠ 0 /\ X = []) ∨ (k = 0 /\ ∃ E, checkF D = 0 /\ Alike E D /\ PhiM nm E X md)
def Second (D : List Nd) (nm : Bs) (z : Int) (Y : List Nd) : Prop := ∃ a : Nat, z = a /\ a < D.length /\ (kindAt D a = 1 ∨ kindAt D a = 2) /\ upF D (D.length + 1) a + 1 <= 40 /\ Grown D Y a nm /\ oneF (protoN nm) = 0 /\ D.length < 200 /\ checkF D = 0
theorem make_u (D : List Nd) (A : Option Addr) (cap : Nat) (q : Bool) (nm : Bs) (hnm : nm.length <= maxLen) (w : World) (hD : DocAt w w.heap.size A cap D) :
  Calls Tryz.prog 13 #[dcV A D.length cap q, edMake nm] w fun e w' => (∃ (X : List Nd) (A1 : Option Addr) (c1 : Nat) (q1 : Bool) (md k : Int), e = .returned (.tuple #[dcV A1 X.length c1 q1, .int .i64 md, .int .i64 k]) /\ DocAt w' w'.heap.size A1 c1 X /\ First D nm X md k) /\ Below w.heap.size w w' := by
 refine (apply_make D A cap q nm hnm w hD).mono fun e w' ⟨hor, hb⟩ => ⟨?_, hb⟩
 rcases hor with ⟨k, hk, rfl⟩ | ⟨E, X, G', c', md, h1, h2, h3, rfl, h4⟩
 ·exact ⟨[], none, 0, false, 0, k, rfl, doc_none, .inl ⟨hk, rfl⟩⟩
 ·exact ⟨X, _, c', q, md, 0, rfl, h4, .inr ⟨rfl, E, h1, h2, h3⟩⟩
theorem put_u (D X : List Nd) (A1 : Option Addr) (c1 : Nat) (q1 : Bool) (z md k : Int) (nm : Bs) (hX : First D nm X md k) (w : World) (hD : DocAt w w.heap.size A1 c1 X) :
  Calls Tryz.prog 13 #[dcV A1 X.length c1 q1, edIns z md] w fun e w' => (∃ (Y : List Nd) (A2 : Option Addr) (c2 : Nat) (q2 : Bool) (m2 k2 : Int), e = .returned (.tuple #[dcV A2 Y.length c2 q2, .int .i64 m2, .int .i64 k2]) /\ DocAt w' w'.heap.size A2 c2 Y /\ (k2 = 0 -> Second D nm z Y)) /\ Below w.heap.size w w' := by
 rcases hX with ⟨hk, rfl⟩ | ⟨hk, E, h1, h2, h3⟩
 ·refine (apply_any [] A1 c1 q1 5 z md (-1) 0 ⟨#[]⟩ w hD (fun _ _ _ => True) fun W B P G n c E h hwB => absurd (check_none.symm.trans h.chk) (by decide)).mono fun e w' ⟨hor, hb⟩ => ⟨?_, hb⟩
  rcases hor with ⟨k, hk, rfl⟩ | ⟨E, X, G', c', md, h1, h2, h3, rfl, h4⟩
  ·exact ⟨[], none, 0, false, 0, k, rfl, doc_none, fun h => absurd h hk⟩
  ·exact absurd (check_none.symm.trans h1) (by decide)
 ·have hO := (check_ok h1).toOkD
  have h3' := h3
  obtain ⟨hXe, hmd, h5, h6⟩ := h3'
  rw [h2.len] at hmd h6
  subst hmd
  have hl : X[D.length]? = some (freshN nm) := by
   rw [hXe, <- h2.len, List.getElem?_append_right (Nat.le_refl _), Nat.sub_self]
   rfl
  refine (apply_put X A1 c1 q1 z D.length (freshN nm) hl rfl rfl rfl (more_loose h2 hXe hO) w hD).mono fun e w' ⟨hor, hb⟩ => ⟨?_, hb⟩
  rcases hor with ⟨k, hk, rfl⟩ | ⟨E2, Y, G', c', m2, g1, g2, g3, rfl, g4⟩
  ·exact ⟨[], none, 0, false, 0, k, rfl, doc_none, fun h => absurd h hk⟩
  ·refine ⟨Y, _, c', q1, m2, 0, rfl, g4, fun _ => ?_⟩
   obtain ⟨a, e1, e2, e3, e4, e5⟩ := grown_of h2 h3 g2 g3 hO
   exact ⟨a, e1, e2, e3, e4, e5, h5, h6, h1⟩
end doc
namespace doc
open Go.RowKit base tok
theorem scells_congr {s t : Sy} (h : ∀ p, p < 59 -> s p = t p) : scells s = scells t := by
 unfold scells
 have key : ∀ k, k <= 59 -> ((List.range k).flatMap fun p => [Value.int .i64 (s p).1, .int .i64 (s p).2]) = (List.range k).flatMap fun p => [Value.int .i64 (t p).1, .int .i64 (t p).2] := by
  intro k
  induction k with
  | zero => intro _; rfl
  | succ k ih =>
   intro hk
   rw [List.range_succ, List.flatMap_append, List.flatMap_append, ih (by omega)]
   simp [h k (by omega)]
 exact key 59 (Nat.le_refl _)
theorem scells_set (s : Sy) {i : Nat} (hi : i < 59) (a b : Int) : (((scells s).toArray.setIfInBounds (i * 2) (.int .i64 a)).setIfInBounds (i * 2 + 1) (.int .i64 b)) = (scells fun p => if p = i then (a, b) else s p).toArray := by
 apply Array.ext_getElem?
 intro m
 rcases Nat.lt_or_ge m 118 with hm | hm
 ·obtain ⟨p, j, hj, hp, rfl⟩ : ∃ p j, j < 2 /\ p < 59 /\ m = p * 2 + j := ⟨m / 2, m % 2, Nat.mod_lt _ (by decide), by omega, by omega⟩
  have h1 := scells_at s hp j hj
  have h2 := scells_at (fun p => if p = i then (a, b) else s p) hp j hj
  have hl := scells_len s
  conv => rhs; rw [List.getElem?_toArray, h2]
  by_cases hpi : p = i
  ·subst hpi
   rw [if_pos rfl]
   rcases j with _ | _ | j
   ·rw [Array.getElem?_setIfInBounds_ne (by omega), Nat.add_zero, Array.getElem?_setIfInBounds_self_of_lt (by rw [List.size_toArray, hl]; omega)]
    rfl
   ·rw [Array.getElem?_setIfInBounds_self_of_lt (by rw [Array.size_setIfInBounds, List.size_toArray, hl]; omega)]
    rfl
   ·omega
  ·rw [if_neg hpi, Array.getElem?_setIfInBounds_ne (by omega), Array.getElem?_setIfInBounds_ne (by omega), List.getElem?_toArray, h1]
 ·rw [Array.getElem?_eq_none (by simp [scells_len]; omega), Array.getElem?_eq_none (by simp [scells_len]; omega)]
theorem part_next {i : Nat} (hi : i < 59) : (((scells (partS i)).toArray.setIfInBounds (i * 2) (.int .i64 (initS i).1)).setIfInBounds (i * 2 + 1) (.int .i64 (initS i).2)) = (scells (partS (i + 1))).toArray := by
 rw [scells_set _ hi]
 refine congrArg List.toArray (scells_congr fun p hp => ?_)
 unfold partS
 by_cases h : p = i
 ·subst h; rw [if_pos rfl, if_pos (by omega)]
 ·rw [if_neg h]
  by_cases g : p < i
  ·rw [if_pos g, if_pos (by omega)]
  ·rw [if_neg g, if_neg (by omega)]
theorem part_item : (((scells (partS 59)).toArray.setIfInBounds 0 (.int .i64 1)).setIfInBounds 1 (.int .i64 8)) = (scells itemS).toArray := by
 have := scells_set (partS 59) (i := 0) (by decide) 1 8
 simp only [Nat.zero_mul, Nat.zero_add] at this
 rw [this]
 refine congrArg List.toArray (scells_congr fun p hp => ?_)
 unfold itemS partS
 by_cases h : p = 0
 ·rw [if_pos h, if_pos h]
 ·rw [if_neg h, if_neg h, if_pos hp]
theorem part_zero : Tryz.zeroCells38 = (scells (partS 0)).toArray := by kernel_rfl
end doc
namespace doc
open Go.RowKit base tok
theorem infoSty : (Tryz.prog.info? 38).map (fun i => (i.zero, i.size, i.bytes)) = some (some (.agg (scells (partS 0)).toArray), 118, 944) := by kernel_rfl
theorem own_empty {w : World} {base E : Nat} {e : TypeId} {k : Nat} (h : Blk w E e #[]) (hb : base <= E) : w.ownsRow base e k (.slice (some ⟨E, 0, none⟩) 0 0) 0 [] :=
 ⟨by simp, .inr ⟨E, 0, #[], rfl, hb, h, Nat.le_refl _, Nat.zero_le _, by simp, by simp⟩⟩
theorem sty_news {α : Type} {f : α -> List Value} {k : Nat} (hk : 0 < k) (hf : ∀ d, (f d).length = k) {w : World} {B : Nat} {A : Option Addr} {n : Nat} {L : List α} (hn : 0 < n) (h : Rd k f w B A n L) :
  ∃ b off, A = some ⟨b, off, none⟩ /\ b < B /\ ∀ j u, (flatR f L)[j]? = some u -> w.cell? ((⟨b, off, none⟩ : Addr).add j) = some u := by
 obtain ⟨b, off, hA, hb, hc⟩ := h.2 hn
 refine ⟨b, off, hA, hb, fun j u hu => ?_⟩
 have hj := (List.getElem?_eq_some_iff.1 hu).1
 rw [flatR_len hf] at hj
 have hi : j / k < L.length := (Nat.div_lt_iff_lt_mul hk).2 hj
 have hd := List.getElem?_eq_getElem hi
 have e : j = j / k * k + j % k := by rw [Nat.mul_comm]; exact (Nat.div_add_mod j k).symm
 have h1 := hc (j / k) _ hd (j % k) (Nat.mod_lt _ hk)
 have h2 := flatR_at hf hd (j % k) (Nat.mod_lt _ hk)
 rw [<- e] at h2
 rw [add_none, e, <- Nat.add_assoc, h1, <- h2]
 exact hu
theorem sty_one {L : List Sy} : ∀ u ∈ flatR scells L, u.oneCell' = true := fun u hu => by
 obtain ⟨s, _, hs⟩ := List.mem_flatMap.1 hu
 exact (Array.all_eq_true_iff_forall_mem.1 (scells_one s)) u (by simpa using hs)
theorem b_alloc {V w : World} {a b c : Prop} (h : a /\ b /\ c /\ Below V.heap.size V w) (o : Obj) : Below V.heap.size V (w.alloc o) := h.2.2.2.alloc h.2.2.2.size o
theorem b_w {V w w0 : World} {a b c : Prop} (h0 : Below w0.heap.size w0 V) (h : a /\ b /\ c /\ Below V.heap.size V w) : Below w0.heap.size w0 w := h0.trans (h.2.2.2.mono h0.size)
theorem b_sz {V w : World} {a b c : Prop} (h : a /\ b /\ c /\ Below V.heap.size V w) : V.heap.size <= w.heap.size := h.2.2.2.size
theorem b_grow {V w w3 : World} {a b c : Prop} {E : Nat} (h : a /\ b /\ c /\ Below V.heap.size V w) (hg : w.grownBy w3 (some E)) (hE : V.heap.size <= E) : Below V.heap.size V w3 :=
 h.2.2.2.grown hg h.2.2.2.size (fun k hk => by obtain rfl := Option.some.inj hk; exact hE)
theorem zs_len : (Value.agg (scells (partS 0)).toArray).cells.size = 118 := by kernel_rfl
theorem fold_zip_aux : ∀ (l : List Value) (s : Nat) (cs : Array Value), cs.size = s + l.length -> (l.zipIdx s).foldl (fun cs x => cs.setIfInBounds x.2 x.1) cs = (cs.toList.take s ++ l).toArray
 | [], s, cs, h => by
  have h' : cs.toList.length <= s := by simpa using Nat.le_of_eq h
  simp [List.take_of_length_le h']
 | v :: l, s, cs, h => by
  rw [List.length_cons] at h
  have hs : s < cs.toList.length := by rw [Array.length_toList]; omega
  rw [List.zipIdx_cons, List.foldl_cons, fold_zip_aux l (s + 1) _ (by rw [Array.size_setIfInBounds]; omega)]
  congr 1
  rw [Array.toList_setIfInBounds, List.take_add_one, List.getElem?_set_self hs, List.take_set_of_le (Nat.le_refl s)]
  simp
theorem fold_zip (XS : List Value) (cs : Array Value) (h : cs.size = XS.length) : List.foldl (fun cs x => cs.setIfInBounds x.2 x.1) cs XS.zipIdx = XS.toArray := by
 rw [fold_zip_aux XS 0 cs (by omega)]
 simp
theorem blk_grown {w w' : World} {b : Option Nat} (hg : w.grownBy w' b) {F : Nat} {e : TypeId} {cs : Array Value} (h : Blk w F e cs) (hne : some F ≠ b) : Blk w' F e cs := (hg.block F h.lt hne).trans h
theorem b_grow2 {V w w' : World} {a b c : Prop} {e : TypeId} {k n : Nat} {v : Value} {xs : List Value} (h : a /\ b /\ c /\ Below V.heap.size V w) (hg : w.grownBy w' v.ownBlock) (ho : w.ownsRow V.heap.size e k v n xs) : Below V.heap.size V w' :=
 h.2.2.2.grown hg h.2.2.2.size (fun k hk => (ho.lt k hk).1)
theorem blk_news {w : World} {k : Nat} {t : TypeId} {xs : List Value} (h : Blk w k t xs.toArray) : ∀ (j : Nat) (u : Value), xs[j]? = some u -> w.cell? ((⟨k, 0, none⟩ : Addr).add j) = some u := h.news
theorem sc_one (s : Sy) : ∀ u ∈ scells s, u.oneCell' = true := fun u hu => sty_one (L := [s]) u (by simpa [flatR] using hu)
end doc
namespace doc
open Go.RowKit base tok cnt
theorem sty_of {w : World} {base n cap : Nat} {e : TypeId} {A : Option Addr} {M : List Sy} (hn : M.length = n) (h : w.ownsRow base e 118 (.slice A n cap) n (flatR scells M)) (hM : ∀ s ∈ M, SyIn s) : StyAt w w.heap.size A cap M :=
 ⟨by rw [hn]; exact rd_of (f := scells) (k := 118) scells_len hn h, by rw [hn]; exact cap_of h, hM⟩
theorem ints_blk {w : World} {b n m : Nat} {o O : Nat -> Int} (h : Blk w b 3 (intsC m o)) (hn : n <= m) (ho : ∀ j, j < n -> o j = O j) : Rd 1 icells w w.heap.size (some ⟨b, 0, none⟩) n ((List.range n).map O) := by
 refine ⟨by simp, fun _ => ⟨b, 0, rfl, h.lt, fun i d hd j hj => ?_⟩⟩
 obtain rfl : j = 0 := by omega
 have hi : i < n := by simpa using (List.getElem?_eq_some_iff.1 hd).1
 have hd' : O i = d := by simpa [hi] using hd
 rw [show 0 + i * 1 + 0 = i by omega, h.cell i, intsC_at o (by omega), ho i hi, hd']
 rfl
theorem second_len {D Y : List Nd} {nm : Bs} {z : Int} (h : Second D nm z Y) : Y.length = D.length + 1 := by
 obtain ⟨a, _, _, _, _, hg, _⟩ := h
 exact hg.len
theorem more_ct {D Y : List Nd} {L : List Sy} {nm : Bs} {z : Int} {n : Nat} (hn : D.length = n) (hS : Second D nm z Y) (hf : fitsF D L = 0) (A2 : Option Addr) (v : Value) (c2 : Nat) (q2 : Bool) (base : Nat) (hE : ∀ s ∈ L, SyIn s) (W : World) (hD : DocAt W W.heap.size A2 c2 Y)
  (hrow : W.ownsRow base 38 118 v (n + 1) (flatR scells L ++ scells itemS)) (hM : MaxL W) (hT : LibAt W) :
  Calls Tryz.prog 8 #[dcV A2 (n + 1) c2 q2, v] W fun e w' => (∃ b o, e = .returned (.tuple #[.slice (some ⟨b, 0, none⟩) (n + 1) (n + 1), .int .i64 0]) /\ W.heap.size <= b /\ Blk w' b 3 (intsC (n + 1) o) /\ ∀ j, j < n -> o j = numO D L j) /\ Below W.heap.size W w' := by
 obtain ⟨hG, hlen⟩ := fits_ok hf
 have hyl := second_len hS
 obtain ⟨a, rfl, ha, hk, hu, hg, ho, hl, hc⟩ := hS
 have hfy : fitsF Y (L ++ [itemS]) = 0 := grown_fits hg hf item_fits hl ha hk hu ho
 have hml : (L ++ [itemS]).length = n + 1 := by rw [List.length_append, hlen, hn]; rfl
 rw [<- flatR_snoc] at hrow
 obtain ⟨A3, c3, rfl, hc3, hr3⟩ := row_rd scells_len hml hrow
 have hsty := sty_of hml hrow (fun s hs => by
  rcases List.mem_append.1 hs with h | h
  ·exact hE s h
  ·obtain rfl := List.mem_singleton.1 h
   exact item_in)
 have cN := Numbers_ct Y (L ++ [itemS]) A2 A3 c2 c3 q2 W hD hsty hM hT
 rw [hml, hyl, hn] at cN
 refine cN.mono fun e w' ⟨hor, hb⟩ => ⟨?_, hb⟩
 rcases hor with ⟨h, _⟩ | ⟨_, b, rfl, h1, h2⟩
 ·exact absurd hfy h
 ·exact ⟨b, _, rfl, h1, h2, fun j hj => grown_num hg hlen hG.toOkD (by omega)⟩
end doc
namespace doc
open Go.RowKit base tok Go.ChangeShapes Go.WideShapes Go.ChangeAt
theorem pairs_laid {P : Program} {w : World} {name : String} {g n : Nat} {t e ti : TypeId} {f0 f1 : Field} {L : List (Int × Int)} (hn : P.globalNamed name = some g) (hy : (P.globals[g]?).map (·.type) = some t)
  (ht : P.underlying t = some (.array n e)) (he : P.underlying e = some (.struct #[f0, f1])) (h0 : f0.type = ti) (h1 : f1.type = ti) (o0 : f0.offset = 0) (o1 : f1.offset = 1) (hi : P.underlying ti = some (.int .i64)) (hci : P.cellsOf ti = 1) (hc : P.cellsOf e = 2) (hl : L.length = n)
  (h : Lib.VarReads P w name (.agg (L.map fun s => .agg [.lit (.int .i64 s.1), .lit (.int .i64 s.2)]))) :
  ∀ (i : Nat) (s : Int × Int), L[i]? = some s -> w.cell? ⟨g, i * 2, none⟩ = some (.int .i64 s.1) /\ w.cell? ⟨g, i * 2 + 1, none⟩ = some (.int .i64 s.2) := by
 obtain ⟨g', t', cs, fuel, p, hg, hty, hvar, hd⟩ := h
 obtain rfl := Option.some.inj (hn.symm.trans hg)
 obtain rfl := Option.some.inj (hy.symm.trans hty)
 obtain ⟨xs, m, _, hx, _, hxl, hcell⟩ := DataW.trod_array ht hd
 intro i s hs
 have hil := (List.getElem?_eq_some_iff.1 hs).1
 have h2 := hcell i (by omega)
 rw [hc] at h2
 obtain ⟨b, hb⟩ : ∃ b, xs[i]? = some b := ⟨xs[i]'(by omega), List.getElem?_eq_getElem (by omega)⟩
 rw [hb] at h2
 obtain ⟨y0, y1, m', rfl, _, k0, k1⟩ := trod_struct2 he h2
 rw [h0, o0, hci] at k0
 rw [h1, o1, hci] at k1
 obtain ⟨z0, e0, rfl, _⟩ := DataW.trod_int hi k0
 obtain ⟨z1, e1, rfl, _⟩ := DataW.trod_int hi k1
 have h3 := congrArg Prod.fst hx
 injection h3 with h3
 have h4 := congrArg (·[i]?) h3
 simp [hb, hs] at h4
 have c0 : cs[i * 2]? = some (.int .i64 z0) := by
  have := congrArg (·[0]?) e0
  simpa [List.getElem?_take, List.getElem?_drop] using this
 have c1 : cs[i * 2 + 1]? = some (.int .i64 z1) := by
  have := congrArg (·[0]?) e1
  simpa [List.getElem?_take, List.getElem?_drop] using this
 rw [World.var?_cell hg hvar, World.var?_cell hg hvar, c0, c1, <- h4.1, <- h4.2]
 exact ⟨rfl, rfl⟩
theorem init_laid {w : World} {l : List (String × DataW Unit)} (h : laidMet Tryz.prog l w) (hm : ("clerestory/style.initial", Rows.laid_clerestory_style_initial) ∈ l) : InitAt w := by
 have hr := Lib.laidMet.reads h hm
 have hc := pairs_laid (P := Tryz.prog) (g := 0) (n := 59) (t := 38) (e := 36) (ti := 3) (L := initB) (by kernel_rfl) (by kernel_rfl) Tryz.underlying38 Tryz.underlying36 rfl rfl rfl rfl Tryz.underlying3 (by kernel_rfl) (by kernel_rfl) rfl hr
 have hp : ∀ p, p < 59 -> initB[p]? = some (initS p) := by decide
 refine ⟨World.block_lt_of_cell? w _ (hc 0 _ (hp 0 (by decide))).1, fun p h j hj => ?_⟩
 have := hc p _ (hp p h)
 match j, hj with
 | 0, _ => exact this.1
 | 1, _ => exact this.2
end doc
end Go.Proofs.YthgffoanecknoaaGreatDoor
