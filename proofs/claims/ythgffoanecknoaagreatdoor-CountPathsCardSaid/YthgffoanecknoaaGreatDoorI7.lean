/- Contracts and plain law, a bundle. -/
import Derived.Lib.Hide
import Derived.Test.YthgffoanecknoaaGreatDoorI6
import Derived.Test.YthgffoanecknoaaGreatDoorH0
import Derived.Test.YthgffoanecknoaaGreatDoorI0
import Derived.Test.YthgffoanecknoaaGreatDoorI1
set_option linter.unusedVariables false
set_option maxRecDepth 100000
set_option maxHeartbeats 16000000
open Go.Lib (hid)
namespace Go.Proofs.YthgffoanecknoaaGreatDoor
namespace doc
open Go.RowKit base tok cnt
set_option linter.unusedSimpArgs false
theorem upF_more {D : List Nd} : ∀ {f : Nat} {n : Int}, upF D f n < f -> upF D (f + 1) n = upF D f n
 | 0, n, h => by omega
 | f + 1, n, h => by
  rw [upF] at h ⊢
  conv => rhs; rw [upF]
  by_cases h1 : 0 <= parAt D n
  ·rw [if_pos h1] at h ⊢
   rw [if_pos h1, upF_more (f := f) (by omega)]
  ·rw [if_neg h1, if_neg h1]
def pathF (D : List Nd) (L : List Sy) (K : Nat -> Int) : Nat -> Int -> List Int
 | 0, _ => []
 | f + 1, n => (if itemF D L n = true then [K n.toNat] else []) ++ if 0 <= parAt D n then pathF D L K f (parAt D n) else []
theorem pathF_more {D : List Nd} {L : List Sy} {K : Nat -> Int} : ∀ {f : Nat} {n : Int}, upF D f n < f -> pathF D L K (f + 1) n = pathF D L K f n
 | 0, n, h => by omega
 | f + 1, n, h => by
  rw [upF] at h
  rw [pathF]
  conv => rhs; rw [pathF]
  by_cases h1 : 0 <= parAt D n
  ·rw [if_pos h1] at h
   rw [if_pos h1, if_pos h1, pathF_more (f := f) (by omega)]
  ·rw [if_neg h1, if_neg h1]
def pathG (D : List Nd) (L : List Sy) (K : Nat -> Int) (n : Int) : List Int := if 0 <= n then pathF D L K (D.length + 1) n else []
def upM (D : List Nd) (n : Int) : Nat := if 0 <= n then upF D (D.length + 1) n + 1 else 0
theorem up_step {D : List Nd} (hG : GoodD D) {j : Nat} (hj : j < D.length) : upM D (parAt D j) < upM D j := by
 have h := hG.up j hj
 unfold upM
 rw [if_pos (show (0 : Int) <= (j : Int) by omega)]
 by_cases h1 : 0 <= parAt D j
 ·have e : upF D (D.length + 1) j = upF D D.length (parAt D j) + 1 := by rw [upF, if_pos h1]
  rw [e] at h ⊢
  rw [if_pos h1, upF_more (by omega)]
  omega
 ·rw [if_neg h1]
  omega
theorem path_step {D : List Nd} {L : List Sy} {K : Nat -> Int} (hG : GoodD D) {j : Nat} (hj : j < D.length) : pathG D L K j = (if itemF D L j = true then [K j] else []) ++ pathG D L K (parAt D j) := by
 have h := hG.up j hj
 unfold pathG
 rw [if_pos (show (0 : Int) <= (j : Int) by omega), pathF, Int.toNat_natCast]
 by_cases h1 : 0 <= parAt D j
 ·rw [upF, if_pos h1] at h
  rw [if_pos h1, if_pos h1, pathF_more (by omega)]
 ·rw [if_neg h1, if_neg h1]
theorem pathF_len {D : List Nd} {L : List Sy} {K : Nat -> Int} : ∀ {f : Nat} {n : Int}, (pathF D L K f n).length <= f
 | 0, n => Nat.le_refl _
 | f + 1, n => by
  rw [pathF, List.length_append]
  have := pathF_len (D := D) (L := L) (K := K) (f := f) (n := parAt D n)
  split <;> split <;> simp <;> omega
theorem pathG_len {D : List Nd} {L : List Sy} {K : Nat -> Int} {n : Int} : (pathG D L K n).length <= D.length + 1 := by
 unfold pathG
 split
 ·exact pathF_len
 ·exact Nat.zero_le _
theorem fits_ok {D : List Nd} {L : List Sy} (h : fitsF D L = 0) : GoodD D /\ L.length = D.length := by
 unfold fitsF at h
 by_cases h1 : checkF D ≠ 0
 ·rw [if_pos h1] at h
  exact absurd h h1
 rw [if_neg h1] at h
 by_cases h2 : L.length ≠ D.length
 ·rw [if_pos h2] at h
  cases h
 exact ⟨check_ok (by simpa using h1), by simpa using h2⟩
abbrev ivs (l : List Int) : List Value := l.map (Value.int .i64)
theorem owns_put {α : Type} [Inhabited α] {enc : α -> Value} {w : World} {base g n cap m : Nat} {e : TypeId} {xs : List Value} {d : List α} (h : w.ownsRow base e 1 (.slice (some ⟨g, 0, none⟩) n cap) n xs) (hd : d.length = n) :
  (Go.Sort.putRow enc (Go.Sort.ahead w m) g 0 d.toArray).ownsRow base e 1 (.slice (some ⟨g, 0, none⟩) n cap) n (d.map enc) := by
 refine ⟨by rw [List.length_map, hd, Nat.mul_one], ?_⟩
 rcases h.2 with ⟨hv, _⟩ | ⟨g', cap', cur, hv, hb, hc, hn, hm, hs, ht⟩
 ·cases hv
 ·cases hv
  refine .inr ⟨g, cap, Go.Sort.putCells enc 0 d.toArray cur, rfl, hb, ?_, hn, hm, by simp [Go.Sort.putCells, hs], ?_⟩
  ·simp only [Go.Sort.putRow, Go.Sort.mapBlock, Go.Sort.ahead]
   rw [Array.getElem?_modify, if_pos rfl, hc]
   rfl
  ·apply List.ext_getElem?
   intro j
   by_cases hj : j < n
   ·rw [List.getElem?_take_of_lt (by omega), Array.getElem?_toList]
    simp only [Go.Sort.putCells, Array.getElem?_mapIdx]
    have hjc : j < cur.size := by omega
    rw [Array.getElem?_eq_getElem hjc]
    simp only [Option.map_some, Nat.zero_le, true_and, Nat.zero_add, List.size_toArray, hd, hj, if_true, Nat.sub_zero]
    rw [getElem!_pos d.toArray j (by simpa [hd] using hj), List.getElem?_map, List.getElem?_eq_getElem (by omega)]
    rfl
   ·rw [List.getElem?_eq_none (by rw [List.length_take]; omega), List.getElem?_eq_none (by rw [List.length_map]; omega)]
theorem revI_ct (base : Nat) (v : Value) (l : List Int) (w : World) (hl : l.length <= 1000000) (h : w.ownsRow base 3 1 v l.length (ivs l)) :
  Calls Tryz.prog 19 #[v] w fun e w' => e = .returned (.tuple #[]) /\ w'.ownsRow base 3 1 v l.length (ivs l.reverse) /\ Below base w w' := by
 rcases Nat.eq_zero_or_pos l.length with h0 | h0
 ·obtain rfl := List.eq_nil_of_length_eq_zero h0
  obtain ⟨a, cap, rfl⟩ := row_form h
  exact (Tryz.slices_Reverse_empty (α := Int) a cap w).mono fun e w' ⟨he, hw⟩ => ⟨he, hw ▸ h, hw ▸ Below.refl _ _⟩
 ·rcases h.2 with ⟨_, hz⟩ | ⟨g, cap, cur, rfl, hb, hc, hn, hm, hs, ht⟩
  ·omega
  ·have hH : Go.Sort.Holds (Value.int .i64) w g 0 l.toArray := fun j hj => by
    have hj' : j < l.length := by simpa using hj
    rw [Nat.zero_add]
    refine ⟨(h.cellAt j (by omega)).trans ?_, h.frozenAt j⟩
    rw [getElem!_pos l.toArray j hj, List.getElem?_map, List.getElem?_eq_getElem hj']
    simp
   refine (Tryz.slices_Reverse (Value.int .i64) (fun _ => rfl) g 0 cap l w hH (by omega)).mono fun e w' ⟨he, n, hw⟩ => ⟨he, ?_, ?_⟩
   ·rw [hw]
    exact owns_put h (by rw [List.length_reverse])
   ·rw [hw]
    exact below_put _ _ _ _ _ _ _ hb
theorem Numbers_ct (D : List Nd) (L : List Sy) (A B : Option Addr) (cap capL : Nat) (q : Bool) (w : World) (hD : DocAt w w.heap.size A cap D) (hL : StyAt w w.heap.size B capL L) (hM : MaxL w) (hT : LibAt w) :
  Calls Tryz.prog 8 #[dcV A D.length cap q, .slice B L.length capL] w fun e w' => ((fitsF D L ≠ 0 /\ e = .returned (.tuple #[.slice none 0 0, .int .i64 (fitsF D L)])) ∨ (fitsF D L = 0 /\ ∃ b, e = .returned (.tuple #[.slice (some ⟨b, 0, none⟩) D.length D.length, .int .i64 0]) /\ w.heap.size <= b /\ Blk w' b 3 (intsC D.length (numO D L)))) /\ Below w.heap.size w w' := by
 have hK0 := hid (BSt.beg (w := w) (n := D.length) (A := A) (cap := cap) (q := q))
 have cF := hid (fun W' (h : Below w.heap.size w W') => Fits_ct D L A B cap capL q W' (hD.keep h h.size) (hL.keep h h.size) (hM.on h hM.lt))
 by_cases hf : fitsF D L = 0
 ·obtain ⟨hG, hlen⟩ := fits_ok hf
  have cN := hid (fun W' (h : Below w.heap.size w W') => numbers_ct D L A B cap capL D.length q W' (hD.keep h h.size) (hL.keep h h.size) rfl hlen hG.len.2 hG.kids (fun x hx => (one_attrs (hG.one x hx)).2) (hT.on h))
  rw [hlen] at cF ⊢
  rw [hf] at cF
  have HF := hid hf
  clear hG hlen hD hL hM hT hf
  go_enter Tryz.func8, Tryz.ntmps8
  go_wp2_with (first
   | (go_at_call 16; refine (cF.out _ hK0.out.2).mono ?_; rintro e W1 ⟨rfl, hb1⟩; have HS1 := hid (hK0.out.on hb1); have b1 := HS1.out.1.cell; clear hb1)
   | (go_at_call 17; refine (cN.out _ HS1.out.2).mono ?_; rintro e W2 ⟨⟨b, rfl, hb, hB⟩, hb1⟩; have HB := hid hB; have HS2 := hid (HS1.out.2.trans (hb1.mono HS1.out.2.size)); clear hb1 hB))
  go_ret2
  exact ⟨.inr ⟨HF.out, _, rfl, Nat.le_trans HS1.out.2.size hb, HB.out⟩, HS2.out⟩
 ·obtain ⟨F, hF⟩ : ∃ F, fitsF D L = F := ⟨_, rfl⟩
  rw [hF] at cF hf ⊢
  have h1 : (F != 0) = true := by simpa using hf
  have HF := hid hf
  clear hD hL hM hT hf hF
  go_enter Tryz.func8, Tryz.ntmps8
  go_wp2_with (go_at_call 16; refine (cF.out _ hK0.out.2).mono ?_; rintro e W1 ⟨rfl, hb1⟩; have HS1 := hid (hK0.out.on hb1); have b1 := HS1.out.1.cell; clear hb1)
  go_ret2
  exact ⟨.inl ⟨HF.out, rfl⟩, HS1.out.2⟩
end doc
namespace doc
open Go.RowKit base tok cnt
set_option linter.unusedSimpArgs false
theorem infoI : (Tryz.prog.info? 3).map (fun i => (i.zero, i.size, i.bytes)) = some (some (.int .i64 0), 1, 8) := by kernel_rfl
theorem owns_lower {w : World} {base base' : Nat} {e : TypeId} {size : Nat} {v : Value} {n : Nat} {xs : List Value} (h : w.ownsRow base e size v n xs) (hb : base' <= base) : w.ownsRow base' e size v n xs := by
 refine ⟨h.1, ?_⟩
 rcases h.2 with h2 | ⟨g, cap, cur, hv, hg, hr⟩
 ·exact .inl h2
 ·exact .inr ⟨g, cap, cur, hv, Nat.le_trans hb hg, hr⟩
theorem ivs_app (l : List Int) (x : Int) : ivs l ++ [.int .i64 x] = ivs (l ++ [x]) := by simp [ivs]
theorem Path_ct (D : List Nd) (L : List Sy) (A B : Option Addr) (cap capL : Nat) (q : Bool) (z : Int) (hz : I64 z) (w : World) (hD : DocAt w w.heap.size A cap D) (hL : StyAt w w.heap.size B capL L) (hM : MaxL w) (hT : LibAt w) :
  Calls Tryz.prog 7 #[dcV A D.length cap q, .slice B L.length capL, .int .i64 z] w fun e w' => ((fitsF D L ≠ 0 /\ e = .returned (.tuple #[.slice none 0 0, .int .i64 (fitsF D L)])) ∨ (fitsF D L = 0 /\ ¬ (0 <= z /\ z < D.length) /\ e = .returned (.tuple #[.slice none 0 0, .int .i64 5])) ∨ (fitsF D L = 0 /\ (0 <= z /\ z < D.length) /\ ∃ v, e = .returned (.tuple #[v, .int .i64 0]) /\ w'.ownsRow w.heap.size 3 1 v (pathG D L (numO D L) z).reverse.length (ivs (pathG D L (numO D L) z).reverse))) /\ Below w.heap.size w w' := by
 have hK0 := hid (BSt.beg (w := w) (n := D.length) (A := A) (cap := cap) (q := q))
 have hcp := hD.len
 unfold maxLen at hcp
 have cF := hid (fun W' (h : Below w.heap.size w W') => Fits_ct D L A B cap capL q W' (hD.keep h h.size) (hL.keep h h.size) (hM.on h hM.lt))
 obtain ⟨F, hF⟩ : ∃ F, fitsF D L = F := ⟨_, rfl⟩
 by_cases hf : F ≠ 0
 ·rw [hF] at cF ⊢
  have h1 : (F != 0) = true := by simpa using hf
  have HF := hid hf
  clear hD hL hM hT hf hF
  go_enter Tryz.func7, Tryz.ntmps7
  go_wp2_with (go_at_call 16; refine (cF.out _ hK0.out.2).mono ?_; rintro e W1 ⟨rfl, hb1⟩; have HS1 := hid (hK0.out.on hb1); have b1 := HS1.out.1.cell; clear hb1)
  go_ret2
  exact ⟨.inl ⟨HF.out, rfl⟩, HS1.out.2⟩
 obtain rfl : F = 0 := by simpa using hf
 obtain ⟨hG, hlen⟩ := fits_ok hF
 rw [hF] at cF ⊢
 have hn2 := hG.len
 obtain ⟨n, hn⟩ : ∃ n, D.length = n := ⟨_, rfl⟩
 have HN := hid hn
 have HM := hid (hlen.trans hn)
 by_cases hr : ¬ (0 <= z /\ z < D.length)
 ·have h1 : z < 0 ∨ (¬ z < 0 /\ (D.length : Int) <= z) := by omega
  have HF := hid hr
  clear hD hL hM hT hf hF hG hr hlen hn hn2
  rcases h1 with h1 | ⟨h1, h2⟩
  all_goals
   go_enter Tryz.func7, Tryz.ntmps7
   go_wp2_with (go_at_call 16; refine (cF.out _ hK0.out.2).mono ?_; rintro e W1 ⟨rfl, hb1⟩; have HS1 := hid (hK0.out.on hb1); have b1 := HS1.out.1.cell; clear hb1)
   go_ret2
   exact ⟨.inr (.inl ⟨by trivial, HF.out, rfl⟩), HS1.out.2⟩
 replace hr : 0 <= z /\ z < D.length := by omega
 have cN := hid (fun W' (h : Below w.heap.size w W') => numbers_ct D L A B cap capL n q W' (hD.keep h h.size) (hL.keep h h.size) hn (hlen.trans hn) (by rw [<- hn]; exact hG.len.2) (by rw [<- hn]; exact hG.kids) (fun x hx => (one_attrs (hG.one x hx)).2) (hT.on h))
 have HD := hid hD
 have HL := hid hL
 have HG := hid hG
 obtain ⟨O, hO⟩ : ∃ O, numO D L = O := ⟨_, rfl⟩
 rw [hO] at cN ⊢
 rw [hlen, hn] at cF
 rw [hlen]
 rw [hn] at hr hcp hn2 hK0 ⊢
 obtain ⟨P, hP⟩ : ∃ P, pathG D L O z = P := ⟨_, rfl⟩
 rw [hP]
 have HP := hid hP
 have HPl := hid (show P.length <= 201 by rw [<- hP]; have := pathG_len (D := D) (L := L) (K := O) (n := z); omega)
 have z1 : ¬ z < 0 := by omega
 have z2 : ¬ (n : Int) <= z := by omega
 clear hD hL hM hT hf hF hG hO hP hlen hn
 go_enter Tryz.func7, Tryz.ntmps7
 go_wp2_with (first
  | (go_at_call 16; refine (cF.out _ hK0.out.2).mono ?_; rintro e W1 ⟨rfl, hb1⟩; have HS1 := hid (hK0.out.on hb1); have b1 := HS1.out.1.cell; clear hb1)
  | (go_at_call 17; refine (cN.out _ HS1.out.2).mono ?_; rintro e W2 ⟨⟨b0, rfl, hb, hB⟩, hb1⟩; have HB := hid hB; have HS2 := hid (HS1.out.on hb1); have HLb := hid hb; have b2 := HS2.out.1.cell; clear hb1 hB hb))
 obtain ⟨i0, hi, hz0, hz1, hz2⟩ := info_parts infoI
 have Hi := hid hi
 have Hz0 := hid hz0
 have Hz1 := hid hz1
 have Hz2 := hid hz2
 clear hi hz0 hz1 hz2
 go_loopw [2, 10] (fun x v wr => ∃ (y : Int) (acc : List Int), x = .int .i64 y /\ (y = -1 ∨ (0 <= y /\ y < n)) /\ acc ++ pathG D L O y = P /\ wr.ownsRow W2.heap.size 3 1 v acc.length (ivs acc) /\ Below W2.heap.size W2 wr) (fun x _ _ => upM D (intOf x))
 case atStart => exact ⟨z, [], rfl, .inr hr, HP.out, World.ownsRow_nil _ _ _ _, Below.refl _ _⟩
 case round =>
  obtain ⟨y, acc, rfl, hy, hinv, hrow, hbel⟩ := hrel
  have HInv := hid hinv
  have HRow := hid hrow
  have HBl := hid hbel
  have HSr := hid (HS2.out.on hbel)
  have HBr := hid (HB.out.below hbel HB.out.lt)
  have hal : acc.length <= 201 := by have := HPl.out; rw [<- hinv, List.length_append] at this; omega
  have d0 := HSr.out.1.cell
  clear hinv hrow hbel
  by_cases hy0 : y < 0
  ·have hy1 : ¬ 0 <= y := by omega
   have hF := hid (show acc = P by rw [<- HInv.out]; unfold pathG; rw [if_neg hy1, List.append_nil])
   have cR := hid (revI_ct W2.heap.size _ acc wr (by omega) HRow.out)
   clear hy hal
   go_wp2_with (go_at_call 19; refine cR.out.mono ?_; rintro e W3 ⟨rfl, ho, hb3⟩; have HO3 := hid ho; have HB3 := hid (HS2.out.2.trans ((HBl.out.trans hb3).mono HS2.out.2.size)); clear ho hb3)
   go_ret2
   exact ⟨.inr (.inr ⟨by trivial, hr, _, rfl, by have := HO3.out; rw [hF.out] at this; rw [List.length_reverse]; exact owns_lower this HS2.out.2.size⟩), HB3.out⟩
  ·obtain ⟨j, rfl⟩ : ∃ j : Nat, y = j := ⟨y.toNat, by omega⟩
   have hjn : j < n := by omega
   have hj' : (j : Int) < (n : Int) := by omega
   have hDr := (HD.out.keep HS2.out.2 (Nat.le_refl _))
   have hrow := hDr.row
   rw [HN.out] at hrow
   obtain ⟨b, off, x, hA, hbb, hx, g0, g1, g2, g3, g4, g5⟩ := ndRd hrow hjn
   subst hA
   have cI := hid (fun W' (h : Below w.heap.size w W') => item_ct D L (some ⟨b, off, none⟩) B cap capL n q j hjn W' (HD.out.keep h h.size) (HL.out.keep h h.size) HN.out HM.out)
   have hst := path_step (L := L) (K := O) HG.out (j := j) (by rw [HN.out]; exact hjn)
   have hup := up_step HG.out (j := j) (by rw [HN.out]; exact hjn)
   have hpr := HG.out.par j
   rw [parAt_at hx] at hst hpr hup
   rw [HN.out] at hpr
   have HUp := hid hup
   have HPr := hid hpr
   have HSt := hid hst
   have hlt2 : w.heap.size < W2.heap.size := HS2.out.1.lt
   have hcells := hid (fun W' (h : Below W2.heap.size W2 W') => (show W'.cell? ⟨b, off + j * 6 + 4, none⟩ = some (.int .i64 x.parent) /\ W'.cell? ⟨b0, j, none⟩ = some (.int .i64 (O j)) /\ ∀ i, W'.cell? ⟨w.heap.size, i, none⟩ = #[.slice (some ⟨b, off, none⟩) n cap, .bool q][i]? from ⟨(h.cell (p := ⟨b, _, none⟩) (by show b < _; omega)).trans g4, (h.cell (p := ⟨b0, _, none⟩) HB.out.lt).trans ((HB.out.cell j).trans (intsC_at O hjn)), (HS2.out.1.below h hlt2).cell⟩))
   have hfin := hid (fun (W' : World) (h : Below W2.heap.size W2 W') => HS2.out.2.trans (h.mono HS2.out.2.size))
   clear hDr hrow hx hst hpr hup hy g0 g1 g2 g3 g4 g5 d0 b1 b2
   obtain ⟨a, cp, rfl⟩ := row_form HRow.out
   obtain ⟨_, _, d0⟩ := hcells.out wr HBl.out
   cases hi : itemF D L j with
   | true =>
    have hF := hid (show (acc ++ [O j]) ++ pathG D L O x.parent = P by rw [<- HInv.out, HSt.out, if_pos hi, List.append_assoc])
    rw [hi] at cI
    clear hi
    go_wp2_with (first
     | (go_at_call 18; refine (cI.out _ (hfin.out _ HBl.out)).mono ?_; rintro e W4 ⟨rfl, hb1⟩; have HB4 := hid (tb HBl hb1); have HRow4 := hid (row_on HRow.out hb1); obtain ⟨e4, e5, e6⟩ := hcells.out _ HB4.out; clear hb1)
     | (at_builtin; refine wpList_append_own _ rfl _ _ 27 rfl W2.heap.size 3 i0 (.int .i64 0) 1 8 Tryz.underlying27 Hi.out Hz0.out Hz1.out Hz2.out rfl (by decide) _ _ _ rfl (HRow4.out.alloc _) ⟨W4.heap.size, 0, none⟩ 1 1 [.int .i64 (O j)] rfl rfl ?c1 ?c2 ?c3 ?c4 ?c5 ?_))
    case c1 => exact (Blk.new (w := W4) (t := 3) (cs := #[.int .i64 (O j)]) rfl).news
    case c2 => simp [Value.oneCell']
    case c3 => unfold maxLen; omega
    case c4 => omega
    case c5 => have := HB4.out.size; simp; omega
    intro v' w5 hown5 hgrow5 hnil5
    have HB5 := hid (below_app (HB4.out.alloc HB4.out.size _) hgrow5 (HRow4.out.alloc _) (Nat.le_refl _) (by have := HB4.out.size; simp; omega))
    have HO5 := hid hown5
    obtain ⟨e7, e8, e9⟩ := hcells.out _ HB5.out
    clear hown5 hgrow5 hnil5
    go_wp2_with fail
    go_roundw
    case rel => exact ⟨_, acc ++ [O j], rfl, HPr.out, hF.out, by have := HO5.out; rw [ivs_app] at this; rw [List.length_append]; exact this, HB5.out⟩
    case measure => exact HUp.out
   | false =>
    have hF := hid (show acc ++ pathG D L O x.parent = P by rw [<- HInv.out, HSt.out, if_neg (by rw [hi]; decide), List.nil_append])
    rw [hi] at cI
    clear hi
    go_wp2_with (go_at_call 18; refine (cI.out _ (hfin.out _ HBl.out)).mono ?_; rintro e W4 ⟨rfl, hb1⟩; have HB4 := hid (tb HBl hb1); have HRow4 := hid (row_on HRow.out hb1); obtain ⟨e4, e5, e6⟩ := hcells.out _ HB4.out; clear hb1)
    go_roundw
    case rel => exact ⟨_, acc, rfl, HPr.out, hF.out, HRow4.out, HB4.out⟩
    case measure => exact HUp.out
end doc
namespace doc
open Go.RowKit base tok cnt
set_option linter.unusedSimpArgs false
theorem numK_zero {D : List Nd} {L : List Sy} {j : Nat} (hj : itemF D L j = false) : ∀ (K : List Int) (o : Nat -> Int) (nx : Int), o j = 0 -> numK D L o nx K j = 0
 | [], o, nx, h => h
 | k :: R, o, nx, h => by
  rw [numK]
  by_cases hi : itemF D L k = true
  ·rw [if_pos hi]
   refine numK_zero hj R _ _ ?_
   unfold upd
   by_cases e : j = k.toNat
   ·subst e
    have : itemF D L k = itemF D L ((k.toNat : Nat) : Int) := by unfold itemF kindAt dispAt; rw [Int.toNat_natCast]
    rw [this, hj] at hi
    cases hi
   ·rw [if_neg e]
    exact h
  ·rw [if_neg hi]
   exact numK_zero hj R _ _ h
theorem numP_zero {D : List Nd} {L : List Sy} {j : Nat} (hj : itemF D L j = false) : ∀ (R : List Nd) (i : Nat) (o : Nat -> Int), o j = 0 -> numP D L i o R j = 0
 | [], i, o, h => h
 | x :: R, i, o, h => by
  rw [numP]
  refine numP_zero hj R _ _ ?_
  have h1 := numK_zero hj x.kids o ((toldF startB x.attrs).getD 1) h
  unfold numX
  by_cases hc : x.parent < 0 /\ itemF D L i = true
  ·rw [if_pos hc]
   unfold upd
   by_cases e : j = i
   ·subst e
    rw [hj] at hc
    cases hc.2
   ·rw [if_neg e]
    exact h1
  ·rw [if_neg hc]
   exact h1
theorem num_zero {D : List Nd} {L : List Sy} {j : Nat} (hj : itemF D L j = false) : numO D L j = 0 := numP_zero hj D 0 _ rfl
theorem ivs_flat : ∀ (l : List Int), ivs l = flatR icells l
 | [] => rfl
 | x :: l => by
  show Value.int .i64 x :: ivs l = icells x ++ flatR icells l
  rw [ivs_flat l]
  rfl
theorem ints_rd {w : World} {base : Nat} {v : Value} {l : List Int} (h : w.ownsRow base 3 1 v l.length (ivs l)) : ∃ A cap, v = .slice A l.length cap /\ l.length <= cap /\ Rd 1 icells w w.heap.size A l.length l := by
 rw [ivs_flat] at h
 exact row_rd (fun _ => rfl) rfl h
theorem same_yes (l : List Int) (n : Nat) (hn : l.length = n) (hl : n <= 1000000) (A B : Option Addr) (ca cb : Nat) (w : World) (h1 : Rd 1 icells w w.heap.size A n l) (h2 : Rd 1 icells w w.heap.size B n l) :
  Calls Tryz.prog 9 #[.slice A n ca, .slice B n cb] w fun e w' => e = .returned (.bool true) /\ Below w.heap.size w w' := by
 have H1 := hid h1
 have H2 := hid h2
 clear h1 h2
 go_enter Tryz.func9, Tryz.ntmps9
 go_wp2_with fail
 go_loopw [5] (fun y wr => ∃ i : Nat, i <= n /\ y = .int .i64 i /\ Below w.heap.size w wr) (fun y _ => n - (intOf y).toNat)
 case atStart => exact ⟨0, Nat.zero_le _, rfl, Below.refl _ _⟩
 case round =>
  obtain ⟨i, hil, rfl, hbel⟩ := hrel
  have HBl := hid hbel
  by_cases hlt : i < n
  ·have hlt' : (i : Int) < (n : Int) := by omega
   obtain ⟨b, off, x, hA, hb, hx, c⟩ := inRd (H1.out.keep hbel (Nat.le_refl _)) hlt
   obtain ⟨b', off', x', hA', hb', hx', c'⟩ := inRd (H2.out.keep hbel (Nat.le_refl _)) hlt
   obtain rfl : x = x' := Option.some.inj (hx.symm.trans hx')
   subst hA hA'
   clear hx hx' hbel
   go_wp2_with fail
   go_quiet (fail)
   go_wp2_with fail
   go_roundw
   case rel => exact ⟨i + 1, by omega, by go_num, base.below_drewN HBl.out _⟩
   case measure => simp [intOf]; omega
  ·obtain rfl : i = n := by omega
   clear hbel
   go_wp2_with fail
   go_ret
   exact ⟨rfl, HBl.out⟩
end doc
namespace doc
open Go.RowKit Go.ChangeShapes Go.WideShapes Go.ChangeAt Go.Deep base tok
section
variable {H : Type} {enc : TypeId × Value -> H} {w : World} {held : Bool}
set_option maxRecDepth 100000
theorem arg_doc {r : Reach} {b0 : Nat} {v : Value} {d : DataW H} {p : List MemPlace} (hv : Value.okWide Tryz.prog w r b0 24 v) (h : DataW.Trod enc Tryz.prog w 0 (fun _ => true) held 24 v d p) :
  ∃ (D : List Nd) (A : Option Addr) (cap : Nat) (q : Bool), v = dcV A D.length cap q /\ DocAt w w.heap.size A cap D := by
 obtain ⟨cs, rfl, fuel, hf⟩ := agg_trod Tryz.underlying24 hv h
 obtain ⟨D, A, cap, q, e, hD⟩ := open_doc hf
 refine ⟨D, A, cap, q, ?_, hD⟩
 have : cs = #[.slice A D.length cap, .bool q] := by
  apply Array.ext'
  exact e
 rw [this]
theorem arg_stys {r : Reach} {b0 : Nat} {v : Value} {d : DataW H} {p : List MemPlace} (hv : Value.okWide Tryz.prog w r b0 25 v) (h : DataW.Trod enc Tryz.prog w 0 (fun _ => true) held 25 v d p) :
  ∃ (L : List Sy) (A : Option Addr) (cap : Nat), v = .slice A L.length cap /\ StyAt w w.heap.size A cap L := by
 obtain ⟨a, len, cap, rfl⟩ := okWide_slice Tryz.underlying25 hv
 obtain ⟨fuel, hf⟩ := h
 obtain ⟨L, A, c, e, hL⟩ := open_stys hf
 simp [Value.cells] at e
 obtain ⟨rfl, rfl, rfl⟩ := e
 exact ⟨L, _, _, rfl, hL⟩
theorem wf_int {n : Int} (h : (Lit.int .i64 n).wf = true) : I64 n := by
 simp [Lit.wf, IntKind.min, IntKind.max, IntKind.bits, IntKind.signed] at h
 unfold I64
 omega
end
end doc
end Go.Proofs.YthgffoanecknoaaGreatDoor
