/- Contracts and plain law, a bundle. -/
import Derived.Lib.Hide
import Derived.Test.YthgffoanecknoaaGreatDoorI6
import Derived.Test.YthgffoanecknoaaGreatDoorH0
import Derived.Test.YthgffoanecknoaaGreatDoorI0
import Derived.Test.YthgffoanecknoaaGreatDoorI1
set_option linter.unusedVariables false
set_option maxRecDepth 100000
set_option maxHeartbeats 16000000
open Go.Lib (hid)
namespace Go.Proofs.YthgffoanecknoaaGreatDoor
namespace doc
open Go.RowKit base tok cnt
set_option linter.unusedSimpArgs false
theorem upF_more {D : List Nd} : ∀ {f : Nat} {n : Int}, upF D f n < f -> upF D (f + 1) n = upF D f n
 | 0, n, h => by omega
 | f + 1, n, h => by
  rw [upF] at h ⊢
  conv => rhs; rw [upF]
  by_cases h1 : 0 <= parAt D n
  ·rw [if_pos h1] at h ⊢
   rw [if_pos h1, upF_more (f := f) (by omega)]
  ·rw [if_neg h1, if_neg h1]
def upM (D : List Nd) (n : Int) : Nat := if 0 <= n then upF D (D.length + 1) n + 1 else 0
theorem up_step {D : List Nd} (hG : GoodD D) {j : Nat} (hj : j < D.length) : upM D (parAt D j) < upM D j := by
 have h := hG.up j hj
 unfold upM
 rw [if_pos (show (0 : Int) <= (j : Int) by omega)]
 by_cases h1 : 0 <= parAt D j
 ·have e : upF D (D.length + 1) j = upF D D.length (parAt D j) + 1 := by rw [upF, if_pos h1]
  rw [e] at h ⊢
  rw [if_pos h1, upF_more (by omega)]
  omega
 ·rw [if_neg h1]
  omega
theorem fits_ok {D : List Nd} {L : List Sy} (h : fitsF D L = 0) : GoodD D /\ L.length = D.length := by
 unfold fitsF at h
 by_cases h1 : checkF D ≠ 0
 ·rw [if_pos h1] at h
  exact absurd h h1
 rw [if_neg h1] at h
 by_cases h2 : L.length ≠ D.length
 ·rw [if_pos h2] at h
  cases h
 exact ⟨check_ok (by simpa using h1), by simpa using h2⟩
abbrev ivs (l : List Int) : List Value := l.map (Value.int .i64)
theorem Numbers_ct (D : List Nd) (L : List Sy) (A B : Option Addr) (cap capL : Nat) (q : Bool) (w : World) (hD : DocAt w w.heap.size A cap D) (hL : StyAt w w.heap.size B capL L) (hM : MaxL w) (hT : LibAt w) :
  Calls Tryz.prog 8 #[dcV A D.length cap q, .slice B L.length capL] w fun e w' => ((fitsF D L ≠ 0 /\ e = .returned (.tuple #[.slice none 0 0, .int .i64 (fitsF D L)])) ∨ (fitsF D L = 0 /\ ∃ b, e = .returned (.tuple #[.slice (some ⟨b, 0, none⟩) D.length D.length, .int .i64 0]) /\ w.heap.size <= b /\ Blk w' b 3 (intsC D.length (numO D L)))) /\ Below w.heap.size w w' := by
 have hK0 := hid (BSt.beg (w := w) (n := D.length) (A := A) (cap := cap) (q := q))
 have cF := hid (fun W' (h : Below w.heap.size w W') => Fits_ct D L A B cap capL q W' (hD.keep h h.size) (hL.keep h h.size) (hM.on h hM.lt))
 by_cases hf : fitsF D L = 0
 ·obtain ⟨hG, hlen⟩ := fits_ok hf
  have cN := hid (fun W' (h : Below w.heap.size w W') => numbers_ct D L A B cap capL D.length q W' (hD.keep h h.size) (hL.keep h h.size) rfl hlen hG.len.2 hG.kids (fun x hx => (one_attrs (hG.one x hx)).2) (hT.on h))
  rw [hlen] at cF ⊢
  rw [hf] at cF
  have HF := hid hf
  clear hG hlen hD hL hM hT hf
  go_enter Tryz.func8, Tryz.ntmps8
  go_wp2_with (first
   | (go_at_call 16; refine (cF.out _ hK0.out.2).mono ?_; rintro e W1 ⟨rfl, hb1⟩; have HS1 := hid (hK0.out.on hb1); have b1 := HS1.out.1.cell; clear hb1)
   | (go_at_call 17; refine (cN.out _ HS1.out.2).mono ?_; rintro e W2 ⟨⟨b, rfl, hb, hB⟩, hb1⟩; have HB := hid hB; have HS2 := hid (HS1.out.2.trans (hb1.mono HS1.out.2.size)); clear hb1 hB))
  go_ret2
  exact ⟨.inr ⟨HF.out, _, rfl, Nat.le_trans HS1.out.2.size hb, HB.out⟩, HS2.out⟩
 ·obtain ⟨F, hF⟩ : ∃ F, fitsF D L = F := ⟨_, rfl⟩
  rw [hF] at cF hf ⊢
  have h1 : (F != 0) = true := by simpa using hf
  have HF := hid hf
  clear hD hL hM hT hf hF
  go_enter Tryz.func8, Tryz.ntmps8
  go_wp2_with (go_at_call 16; refine (cF.out _ hK0.out.2).mono ?_; rintro e W1 ⟨rfl, hb1⟩; have HS1 := hid (hK0.out.on hb1); have b1 := HS1.out.1.cell; clear hb1)
  go_ret2
  exact ⟨.inl ⟨HF.out, rfl⟩, HS1.out.2⟩
end doc
namespace doc
open Go.RowKit base tok cnt
set_option linter.unusedSimpArgs false
theorem owns_lower {w : World} {base base' : Nat} {e : TypeId} {size : Nat} {v : Value} {n : Nat} {xs : List Value} (h : w.ownsRow base e size v n xs) (hb : base' <= base) : w.ownsRow base' e size v n xs := by
 refine ⟨h.1, ?_⟩
 rcases h.2 with h2 | ⟨g, cap, cur, hv, hg, hr⟩
 ·exact .inl h2
 ·exact .inr ⟨g, cap, cur, hv, Nat.le_trans hb hg, hr⟩
theorem ivs_app (l : List Int) (x : Int) : ivs l ++ [.int .i64 x] = ivs (l ++ [x]) := by simp [ivs]
end doc
namespace doc
open Go.RowKit base tok cnt
set_option linter.unusedSimpArgs false
theorem ivs_flat : ∀ (l : List Int), ivs l = flatR icells l
 | [] => rfl
 | x :: l => by
  show Value.int .i64 x :: ivs l = icells x ++ flatR icells l
  rw [ivs_flat l]
  rfl
theorem same_yes (l : List Int) (n : Nat) (hn : l.length = n) (hl : n <= 1000000) (A B : Option Addr) (ca cb : Nat) (w : World) (h1 : Rd 1 icells w w.heap.size A n l) (h2 : Rd 1 icells w w.heap.size B n l) :
  Calls Tryz.prog 9 #[.slice A n ca, .slice B n cb] w fun e w' => e = .returned (.bool true) /\ Below w.heap.size w w' := by
 have H1 := hid h1
 have H2 := hid h2
 clear h1 h2
 go_enter Tryz.func9, Tryz.ntmps9
 go_wp2_with fail
 go_loopw [5] (fun y wr => ∃ i : Nat, i <= n /\ y = .int .i64 i /\ Below w.heap.size w wr) (fun y _ => n - (intOf y).toNat)
 case atStart => exact ⟨0, Nat.zero_le _, rfl, Below.refl _ _⟩
 case round =>
  obtain ⟨i, hil, rfl, hbel⟩ := hrel
  have HBl := hid hbel
  by_cases hlt : i < n
  ·have hlt' : (i : Int) < (n : Int) := by omega
   obtain ⟨b, off, x, hA, hb, hx, c⟩ := inRd (H1.out.keep hbel (Nat.le_refl _)) hlt
   obtain ⟨b', off', x', hA', hb', hx', c'⟩ := inRd (H2.out.keep hbel (Nat.le_refl _)) hlt
   obtain rfl : x = x' := Option.some.inj (hx.symm.trans hx')
   subst hA hA'
   clear hx hx' hbel
   go_wp2_with fail
   go_quiet (fail)
   go_wp2_with fail
   go_roundw
   case rel => exact ⟨i + 1, by omega, by go_num, base.below_drewN HBl.out _⟩
   case measure => simp [intOf]; omega
  ·obtain rfl : i = n := by omega
   clear hbel
   go_wp2_with fail
   go_ret
   exact ⟨rfl, HBl.out⟩
end doc
namespace doc
open Go.RowKit Go.ChangeShapes Go.WideShapes Go.ChangeAt Go.Deep base tok
section
variable {H : Type} {enc : TypeId × Value -> H} {w : World} {held : Bool}
set_option maxRecDepth 100000
theorem arg_doc {r : Reach} {b0 : Nat} {v : Value} {d : DataW H} {p : List MemPlace} (hv : Value.okWide Tryz.prog w r b0 24 v) (h : DataW.Trod enc Tryz.prog w 0 (fun _ => true) held 24 v d p) :
  ∃ (D : List Nd) (A : Option Addr) (cap : Nat) (q : Bool), v = dcV A D.length cap q /\ DocAt w w.heap.size A cap D := by
 obtain ⟨cs, rfl, fuel, hf⟩ := agg_trod Tryz.underlying24 hv h
 obtain ⟨D, A, cap, q, e, hD⟩ := open_doc hf
 refine ⟨D, A, cap, q, ?_, hD⟩
 have : cs = #[.slice A D.length cap, .bool q] := by
  apply Array.ext'
  exact e
 rw [this]
theorem arg_stys {r : Reach} {b0 : Nat} {v : Value} {d : DataW H} {p : List MemPlace} (hv : Value.okWide Tryz.prog w r b0 25 v) (h : DataW.Trod enc Tryz.prog w 0 (fun _ => true) held 25 v d p) :
  ∃ (L : List Sy) (A : Option Addr) (cap : Nat), v = .slice A L.length cap /\ StyAt w w.heap.size A cap L := by
 obtain ⟨a, len, cap, rfl⟩ := okWide_slice Tryz.underlying25 hv
 obtain ⟨fuel, hf⟩ := h
 obtain ⟨L, A, c, e, hL⟩ := open_stys hf
 simp [Value.cells] at e
 obtain ⟨rfl, rfl, rfl⟩ := e
 exact ⟨L, _, _, rfl, hL⟩
end
end doc
end Go.Proofs.YthgffoanecknoaaGreatDoor
