/- Contracts and plain law, a bundle. -/
import Derived.Maps.AppendAt
import Derived.Laws.OwnMore
import Derived.Laws.StructEq
import Derived.Lib.Hide
import Derived.Test.YthgffoanecknoaaGreatDoorBB1
import Derived.Test.YthgffoanecknoaaGreatDoorBB2
import Derived.Test.YthgffoanecknoaaGreatDoorBB4
import Derived.Test.YthgffoanecknoaaGreatDoorBB5
import Derived.Test.YthgffoanecknoaaGreatDoorBB6
import Derived.Test.YthgffoanecknoaaGreatDoorBA
set_option linter.unusedVariables false
set_option maxRecDepth 100000
set_option maxHeartbeats 16000000
open Go.Lib (hid)
namespace Go.Proofs.YthgffoanecknoaaGreatDoor
namespace tok
open Go.RowKit base
theorem first_ct (s : ByteArray) (hs : s.size < 4294967281) (h0 : 0 < s.size) (w : World) (hm : MaxL w) :
  Calls Tryz.prog 64 #[.string s] w (rt w (.agg (firstP s.data.toList).cells)) := by
 rcases Nat.eq_zero_or_pos (spaceP s.data.toList) with hsp | hsp
 ·cases hn : Lib.hasPrefix s.data.toList [47, 42]
  ·by_cases hq : nv s[0] = 39 ∨ nv s[0] = 34
   ·exact first_quote s hs h0 w hsp hn hq
   ·by_cases h35 : nv s[0] = 35
    ·rcases Nat.lt_or_ge 1 s.size with h1 | h1
     ·cases hsb : signI (nv s[1])
      ·cases heb : escP (s.extract 1 s.size).data.toList
       ·have hnp : (numberP s.data.toList).2 = 0 := by
         rcases Nat.eq_zero_or_pos (numberP s.data.toList).2 with h | h
         ·exact h
         ·exact absurd h35 (number_no' (head_of h0) h).1
        have hbg : beginsP s.data.toList = false := by
         cases h : beginsP s.data.toList
         ·rfl
         ·exact absurd h35 (begins_no' (head_of h0) h).1
        exact one_hash s hs h0 w hsp hn hnp hbg h35 h1 false false hsb heb rfl rfl
       ·exact first_hash s hs h0 w hsp hn h35 h1 false true hsb heb rfl
      ·exact first_hash s hs h0 w hsp hn h35 h1 true (escP (s.extract 1 s.size).data.toList) hsb rfl rfl
     ·have hnp : (numberP s.data.toList).2 = 0 := by
       rcases Nat.eq_zero_or_pos (numberP s.data.toList).2 with h | h
       ·exact h
       ·exact absurd h35 (number_no' (head_of h0) h).1
      have hbg : beginsP s.data.toList = false := by
       cases h : beginsP s.data.toList
       ·rfl
       ·exact absurd h35 (begins_no' (head_of h0) h).1
      exact one_hash_short s hs h0 w hsp hn hnp hbg h35 h1
    ·rcases Nat.eq_zero_or_pos (numberP s.data.toList).2 with hnp | hnp
     ·cases hbg : beginsP s.data.toList
      ·by_cases h64 : nv s[0] = 64
       ·cases hb1 : beginsP (s.extract 1 s.size).data.toList
        ·exact one_at s hs h0 w hsp hn hnp hbg h64 hb1
        ·exact first_at s hs h0 w hsp hn h64 hb1
       ·by_cases a1 : nv s[0] = 40
        ·exact one_40 s hs h0 w hsp hn hnp hbg a1
        by_cases a2 : nv s[0] = 91
        ·exact one_91 s hs h0 w hsp hn hnp hbg a2
        by_cases a3 : nv s[0] = 123
        ·exact one_123 s hs h0 w hsp hn hnp hbg a3
        by_cases a4 : nv s[0] = 41
        ·exact one_41 s hs h0 w hsp hn hnp hbg a4
        by_cases a5 : nv s[0] = 93
        ·exact one_93 s hs h0 w hsp hn hnp hbg a5
        by_cases a6 : nv s[0] = 125
        ·exact one_125 s hs h0 w hsp hn hnp hbg a6
        by_cases a7 : nv s[0] = 92
        ·exact one_92 s hs h0 w hsp hn hnp hbg a7
        exact one_other s hs h0 w hsp hn hnp hbg (by omega)
      ·exact first_word s hs h0 w hsp hn hnp hbg _ rfl
     ·exact first_number s hs h0 w hsp hn hnp
  ·exact first_note s hs h0 w hm hsp hn
 ·exact first_space s hs h0 w hsp
theorem name_pos {l : Bs} (h : beginsP l = true) : 0 < (nameP l).2 := by
 match l, h with
 | [c], h =>
  have hs : signI (nv c) = true := by simp only [beginsP] at h; simp [signI, h]
  rw [nameP, if_pos hs]
  simp
 | c :: d :: r, h =>
  rw [nameP]
  split
  ·simp
  ·rename_i he
   have hs : signI (nv c) = true := by
    simp only [beginsP] at h
    split at h
    ·rename_i h45
     simp [signI, h45]
    ·simp only [he, Bool.or_false] at h
     simp [signI, h]
   rw [if_pos hs]
   simp
theorem space_le (l : Bs) : spaceP l <= l.length := by have := space_len l; omega
theorem first_pre (l : Bs) (h0 : l ≠ []) : (∃ k, (firstP l).raw = l.take k) /\ 0 < (firstP l).raw.length := by
 have hl : 0 < l.length := List.length_pos_iff.2 h0
 have key : ∀ k, 0 < k -> (∃ m, l.take k = l.take m) /\ 0 < (l.take k).length := fun k hk => ⟨⟨k, rfl⟩, by rw [List.length_take]; omega⟩
 unfold firstP
 split
 ·rename_i h
  exact key _ h
 ·split
  ·simp only [noteP]
   split
   ·exact key _ (by omega)
   ·exact ⟨⟨l.length, by rw [List.take_length]⟩, hl⟩
  ·split
   ·match l, h0 with
    | q :: r, _ =>
     simp only [textP]
     exact key _ (by omega)
   ·split
    ·exact key _ (by omega)
    ·split
     ·exact key _ (by omega)
     ·split
      ·rename_i h
       simp only [numTkP]
       split
       ·exact key _ (by omega)
       ·split
        ·exact key _ (by omega)
        ·exact key _ h
      ·split
       ·rename_i hb
        have hn := name_pos hb
        simp only [wordP]
        split
        ·exact key _ (by omega)
        ·simp only [namedP, List.drop_zero]
         exact key _ (by omega)
       ·exact key 1 (by omega)
theorem first_raw (l : Bs) (h0 : l ≠ []) : (firstP l).raw = l.take (firstP l).raw.length := by
 obtain ⟨⟨k, hk⟩, _⟩ := first_pre l h0
 rw [hk, List.length_take, <- List.take_take]
 simp
def cutP (l : Bs) : List Tk := if h : l = [] then [] else firstP l :: cutP (l.drop (firstP l).raw.length)
termination_by l.length
decreasing_by
 have h1 := (first_pre l h).2
 have h2 : 0 < l.length := List.length_pos_iff.2 h
 rw [List.length_drop]
 omega
theorem cutP_nil : cutP [] = [] := by rw [cutP]; rfl
theorem cutP_cons {l : Bs} (h : l ≠ []) : cutP l = firstP l :: cutP (l.drop (firstP l).raw.length) := by rw [cutP, dif_neg h]
end tok
namespace base
open Go.RowKit
def flatR {α : Type} (f : α -> List Value) (L : List α) : List Value := L.flatMap f
section
variable {α : Type} {k : Nat} {f : α -> List Value}
theorem flatR_snoc (L : List α) (d : α) : flatR f (L ++ [d]) = flatR f L ++ f d := by simp [flatR]
theorem flatR_at (hf : ∀ d, (f d).length = k) : ∀ {L : List α} {i : Nat} {d : α}, L[i]? = some d -> ∀ j, j < k -> (flatR f L)[i * k + j]? = (f d)[j]?
 | [], i, d, h, _, _ => by simp at h
 | e :: L, 0, d, h, j, hj => by
  simp at h
  subst h
  simp only [flatR, List.flatMap_cons, Nat.zero_mul, Nat.zero_add]
  rw [List.getElem?_append_left (by rw [hf]; exact hj)]
 | e :: L, i + 1, d, h, j, hj => by
  have ih := flatR_at hf (L := L) (i := i) (d := d) (by simpa using h) j hj
  simp only [flatR, List.flatMap_cons] at ih ⊢
  rw [List.getElem?_append_right (by rw [hf, Nat.add_mul]; omega), hf, show (i + 1) * k + j - k = i * k + j by rw [Nat.add_mul]; omega]
  exact ih
def Rd (k : Nat) (f : α -> List Value) (w : World) (B : Nat) (A : Option Addr) (n : Nat) (L : List α) : Prop :=
 L.length = n /\ (0 < n -> ∃ b off, A = some ⟨b, off, none⟩ /\ b < B /\ ∀ (i : Nat) (d : α), L[i]? = some d -> ∀ j, j < k -> w.cell? ⟨b, off + i * k + j, none⟩ = (f d)[j]?)
theorem Rd.keep {w w' : World} {B B' : Nat} {A : Option Addr} {n : Nat} {L : List α} (h : Rd k f w B A n L) (hb : Below B w w') (hB : B <= B') : Rd k f w' B' A n L := by
 refine ⟨h.1, fun h0 => ?_⟩
 obtain ⟨b, off, hA, hlt, hc⟩ := h.2 h0
 exact ⟨b, off, hA, by omega, fun i d hd j hj => (hb.cell (p := ⟨b, _, none⟩) hlt).trans (hc i d hd j hj)⟩
theorem Rd.first {w : World} {B : Nat} {A : Option Addr} {n m : Nat} {L : List α} (h : Rd k f w B A n L) (hm : m <= n) : Rd k f w B A m (L.take m) := by
 refine ⟨by rw [List.length_take, h.1]; omega, fun h0 => ?_⟩
 obtain ⟨b, off, hA, hlt, hc⟩ := h.2 (by omega)
 refine ⟨b, off, hA, hlt, fun i d hd => hc i d ?_⟩
 have hi := (List.getElem?_eq_some_iff.1 hd).1
 rw [List.length_take] at hi
 rwa [List.getElem?_take_of_lt (by omega)] at hd
theorem Rd.at_ {w : World} {B : Nat} {A : Option Addr} {n i : Nat} {L : List α} (h : Rd k f w B A n L) (hi : i < n) : ∃ b off d, A = some ⟨b, off, none⟩ /\ b < B /\ L[i]? = some d /\ ∀ j, j < k -> w.cell? ⟨b, off + i * k + j, none⟩ = (f d)[j]? := by
 obtain ⟨b, off, hA, hlt, hc⟩ := h.2 (by omega)
 have hl : i < L.length := by have := h.1; omega
 exact ⟨b, off, L[i], hA, hlt, List.getElem?_eq_getElem hl, hc i L[i] (List.getElem?_eq_getElem hl)⟩
theorem Rd.nil {w : World} {B : Nat} {A : Option Addr} : Rd k f w B A 0 [] := ⟨rfl, fun h => absurd h (by omega)⟩
theorem row_rd {w : World} {base n : Nat} {e : TypeId} {v : Value} {L : List α} (hf : ∀ d, (f d).length = k) (hn : L.length = n) (h : w.ownsRow base e k v n (flatR f L)) : ∃ A cap, v = .slice A n cap /\ n <= cap /\ Rd k f w w.heap.size A n L := by
 subst hn
 rcases Nat.eq_zero_or_pos L.length with h0 | h0
 ·rcases h.2 with ⟨rfl, hz⟩ | ⟨g, cap, cur, rfl, _, _, hc, _⟩
  ·exact ⟨none, 0, by rw [hz], by omega, rfl, fun h1 => by omega⟩
  ·exact ⟨_, _, rfl, hc, rfl, fun h1 => by omega⟩
 ·rcases h.2 with ⟨rfl, hz⟩ | ⟨g, cap, cur, rfl, _, _, hc, _⟩
  ·omega
  ·have hg := h.lt g rfl
   refine ⟨_, _, rfl, hc, rfl, fun _ => ⟨g, 0, rfl, hg.2, fun i d hd j hj => ?_⟩⟩
   rw [Nat.zero_add]
   have hil := (List.getElem?_eq_some_iff.1 hd).1
   have hlt : i * k + j < L.length * k := by
    have : (i + 1) * k <= L.length * k := Nat.mul_le_mul_right k hil
    rw [Nat.add_mul] at this
    omega
   have := (h.cellAt (i * k + j) hlt).trans (flatR_at hf hd j hj)
   rw [this]
end
theorem grown_of_below {w w' : World} (h : Below w.heap.size w w') (row : Option Nat) : w.grownBy w' row := ⟨h.os, h.tape, h.output, h.size, fun k hk _ => h.block k hk⟩
theorem row_form {w : World} {base : Nat} {e : TypeId} {size : Nat} {v : Value} {n : Nat} {xs : List Value} (h : w.ownsRow base e size v n xs) : ∃ a cap, v = .slice a n cap := by
 rcases h.2 with ⟨rfl, rfl⟩ | ⟨g, cap, cur, rfl, _⟩
 ·exact ⟨none, 0, rfl⟩
 ·exact ⟨_, _, rfl⟩
theorem row_on {w w' : World} {base : Nat} {e : TypeId} {size : Nat} {v : Value} {n : Nat} {xs : List Value} (h : w.ownsRow base e size v n xs) (hb : Below w.heap.size w w') : w'.ownsRow base e size v n xs :=
 h.kept (grown_of_below hb none) (by cases hv : v.ownBlock with | none => exact .inl rfl | some g => exact .inr (by simp))
theorem below_app {B : Nat} {a w w' : World} {base : Nat} {e : TypeId} {size n : Nat} {v : Value} {xs : List Value} (h : Below B a w) (hg : w.grownBy w' v.ownBlock) (hown : w.ownsRow base e size v n xs) (hB : B <= base) (hz : B <= w.heap.size) : Below B a w' := below_grown h hg hown hB hz
end base
namespace tok
open Go.RowKit base
theorem infoT : (Tryz.prog.info? 92).map (fun i => (i.zero, i.size, i.bytes)) = some (some (.agg #[.int .i64 0, .string .empty, .string .empty, .int .i64 0]), 4, 48) := by kernel_rfl
abbrev tcells (t : Tk) : List Value := t.cells.toList
theorem tcells_len (t : Tk) : (tcells t).length = 4 := rfl
def strLen : Value -> Nat
 | .string s => s.size
 | _ => 0
def CutRel (s : ByteArray) (w : World) (x v : Value) (wr : World) : Prop :=
 ∃ (X : ByteArray) (acc : List Tk), x = .string X /\ acc.length + X.size <= s.size /\ cutP s.data.toList = acc ++ cutP X.data.toList /\ wr.ownsRow w.heap.size 92 4 v acc.length (flatR tcells acc) /\ Below w.heap.size w wr
theorem cut_row (s : ByteArray) (hs : s.size < 4294967281) (w : World) (hm : MaxL w) :
  Calls Tryz.prog 42 #[.string s] w fun e w' => (∃ v, e = .returned v /\ w'.ownsRow w.heap.size 92 4 v (cutP s.data.toList).length (flatR tcells (cutP s.data.toList))) /\ Below w.heap.size w w' := by
 obtain ⟨i0, hi, hz0, hz1, hz2⟩ := info_parts infoT
 have Hz0 := hid hz0
 have Hi := hid hi
 have Hz1 := hid hz1
 have Hz2 := hid hz2
 have HM := hid hm
 clear hz0 hi hz1 hz2 hm
 go_enter Tryz.func42, Tryz.ntmps42
 go_wp2_with fail
 go_loopw [0, 3] (fun x v wr => CutRel s w x v wr) (fun x _ _ => strLen x)
 case atStart => exact ⟨s, [], rfl, by simp, by simp, World.ownsRow_nil _ _ _ _, Below.refl _ _⟩
 case round =>
  obtain ⟨X, acc, rfl, hal, hinv, hrow, hbel⟩ := hrel
  have hmr := hid (HM.out.on hbel HM.out.lt)
  have hz := hbel.size
  have HBl := hid hbel
  replace hrow := hid hrow
  replace hinv := hid hinv
  clear hbel
  rcases Nat.eq_zero_or_pos X.size with h0 | h0
  ·have he := empty_yes h0
   have hX : X.data.toList = [] := List.eq_nil_of_length_eq_zero (by rw [<- Lib.size_eq]; exact h0)
   have hfin := hid (show cutP s.data.toList = acc by rw [hinv.out, hX, cutP_nil, List.append_nil])
   clear hX h0
   go_wp2
   go_ret
   exact ⟨⟨_, rfl, by rw [hfin.out]; exact hrow.out⟩, HBl.out⟩
  ·have he := empty_no h0
   have hX : X.data.toList ≠ [] := fun h => by
    rw [Lib.size_eq, h] at h0
    simp at h0
   have hpre := first_pre X.data.toList hX
   have hrw := first_raw X.data.toList hX
   have hcc := cutP_cons hX
   have hrl : (firstP X.data.toList).raw.length <= X.size := by
    rw [hrw, List.length_take, <- Lib.size_eq]
    omega
   have hpos := hpre.2
   have cF := fun w hm => first_ct X (by omega) h0 w hm
   generalize firstP X.data.toList = t at *
   have hnext : cutP s.data.toList = (acc ++ [t]) ++ cutP (X.extract (bs t.raw).size X.size).data.toList := by
    rw [Lib.extract_to_end, hinv.out, hcc]
    simp [bs_size]
   have hnl : (X.extract (bs t.raw).size X.size).size + t.raw.length = X.size := by
    simp only [ByteArray.size_extract, bs_size]
    omega
   have hrs : (bs t.raw).size <= X.size := hrl
   obtain ⟨tk, tr, tv, tn⟩ := t
   simp only [Tk.cells] at cF
   replace cF := hid cF
   replace hnext := hid hnext
   simp only at hpos hrl hnl hrs
   replace hnl := hid hnl
   clear hX hpre hrw hcc
   obtain ⟨a, cp, rfl⟩ := row_form hrow.out
   go_wp2_with (first
    | (go_at_call 64; (with_reducible refine (cF.out _ hmr.out).mono ?_); rintro e W2 ⟨rfl, hb2⟩; have hrow2 := hid (row_on hrow.out hb2); have HB2 := hid (tb HBl hb2); have hz2 := hb2.size; clear hb2)
    | (at_builtin; refine wpList_append_own _ rfl _ _ 89 rfl w.heap.size 92 i0 _ 4 48 Tryz.underlying89 Hi.out Hz0.out Hz1.out Hz2.out rfl (by decide) _ _ _ rfl ((hrow2.out.alloc _).alloc _) ⟨W2.heap.size + 1, 0, none⟩ 1 1 [.int .i64 tk, .string (bs tr), .string (bs tv), .int .i64 tn] rfl rfl ?c1 ?c2 ?c3 ?c4 ?c5 ?_))
   case c1 => exact (Blk.new (w := W2.alloc (.cells #[.int .i64 tk, .string (bs tr), .string (bs tv), .int .i64 tn] 92)) (t := 92) (cs := #[.int .i64 tk, .string (bs tr), .string (bs tv), .int .i64 tn]) (by simp)).news
   case c2 => simp [Value.oneCell']
   case c3 => unfold maxLen; omega
   case c4 => omega
   case c5 => simp; omega
   intro v' w3 hown3 hgrow3 hnil3
   have tB := hid (show Blk w3 W2.heap.size 92 #[.int .i64 tk, .string (bs tr), .string (bs tv), .int .i64 tn] from
    (hgrow3.block W2.heap.size (by simp; omega) (fun e => by have := (hrow2.out.lt _ e.symm).2; omega)).trans ((Blk.new rfl).alloc _))
   have tC := tB.out.cell
   have hb3 := hid (below_app ((HB2.out.alloc HB2.out.size _).alloc (by simp; have := HB2.out.size; omega) _) hgrow3 ((hrow2.out.alloc _).alloc _) (Nat.le_refl _) (by simp; have := HB2.out.size; omega))
   replace hown3 := hid hown3
   clear hgrow3 hnil3
   go_wp2
   go_roundw
   case rel =>
    refine ⟨_, acc ++ [⟨tk, tr, tv, tn⟩], rfl, ?_, hnext.out, ?_, hb3.out⟩
    ·have hbz : (bs tr).size = tr.length := rfl
     simp
     omega
    ·simpa [flatR_snoc] using hown3.out
   case measure =>
    have hbz : (bs tr).size = tr.length := rfl
    simp [strLen]
    omega
abbrev TRd (w : World) (B : Nat) (A : Option Addr) (n : Nat) (L : List Tk) : Prop := Rd 4 tcells w B A n L
theorem cut_ct (s : ByteArray) (hs : s.size < 4294967281) (w : World) (hm : MaxL w) :
  Calls Tryz.prog 42 #[.string s] w fun e w' => (∃ A cap, e = .returned (.slice A (cutP s.data.toList).length cap) /\ (cutP s.data.toList).length <= cap /\ TRd w' w'.heap.size A (cutP s.data.toList).length (cutP s.data.toList)) /\ Below w.heap.size w w' :=
 (cut_row s hs w hm).mono fun e w' ⟨⟨v, he, hr⟩, hb⟩ => by
  obtain ⟨A, c, rfl, hc, hg⟩ := row_rd tcells_len rfl hr
  exact ⟨⟨A, c, he, hc, hg⟩, hb⟩
end tok
namespace tok
open Go.RowKit base
def textOf (L : List Tk) : Bs := L.flatMap (·.raw)
theorem cut_raw : ∀ (n : Nat) (l : Bs), l.length <= n -> textOf (cutP l) = l /\ ∀ t ∈ cutP l, t.raw ≠ []
 | 0, l, h => by
  obtain rfl := List.eq_nil_of_length_eq_zero (Nat.le_zero.1 h)
  rw [cutP_nil]
  exact ⟨rfl, fun t ht => by cases ht⟩
 | n + 1, l, h => by
  by_cases h0 : l = []
  ·subst h0
   rw [cutP_nil]
   exact ⟨rfl, fun t ht => by cases ht⟩
  ·rw [cutP_cons h0]
   have hp := (first_pre l h0).2
   obtain ⟨h1, h2⟩ := cut_raw n (l.drop (firstP l).raw.length) (by rw [List.length_drop]; omega)
   refine ⟨?_, fun t ht => ?_⟩
   ·show (firstP l).raw ++ textOf _ = l
    rw [h1]
    conv => rhs; rw [<- List.take_append_drop (firstP l).raw.length l]
    rw [<- first_raw l h0]
   ·rcases List.mem_cons.1 ht with rfl | ht
    ·exact fun e => by rw [e] at hp; simp at hp
    ·exact h2 t ht
theorem cut_text (l : Bs) : textOf (cutP l) = l := (cut_raw _ l (Nat.le_refl _)).1
theorem cut_full (l : Bs) : ∀ t ∈ cutP l, t.raw ≠ [] := (cut_raw _ l (Nat.le_refl _)).2
theorem cut_few (l : Bs) : (cutP l).length <= l.length := by
 have key : ∀ L : List Tk, (∀ t ∈ L, t.raw ≠ []) -> L.length <= (textOf L).length := by
  intro L
  induction L with
  | nil => intro _; simp
  | cons t L ih =>
   intro h
   have h1 := ih (fun x hx => h x (by simp [hx]))
   have h2 : 0 < t.raw.length := List.length_pos_iff.2 (h t (by simp))
   simp only [textOf, List.flatMap_cons, List.length_append, List.length_cons] at h1 ⊢
   omega
 have := key _ (cut_full l)
 rwa [cut_text] at this
theorem text_step {L : List Tk} {k : Nat} {t : Tk} (h : L[k]? = some t) : textOf (L.take (k + 1)) = textOf (L.take k) ++ t.raw := by
 obtain ⟨hl, he⟩ := List.getElem?_eq_some_iff.1 h
 rw [List.take_succ_eq_append_getElem hl, textOf, List.flatMap_append, he]
 simp [textOf]
theorem text_part {L : List Tk} (k : Nat) : (textOf (L.take k)).length <= (textOf L).length := by
 conv => rhs; rw [<- List.take_append_drop k L]
 simp only [textOf, List.flatMap_append, List.length_append]
 omega
theorem TRd.tok {w : World} {B : Nat} {A : Option Addr} {n k : Nat} {L : List Tk} (h : TRd w B A n L) (hk : k < n) : ∃ b off t, A = some ⟨b, off, none⟩ /\ b < B /\ L[k]? = some t /\
  w.cell? ⟨b, off + k * 4, none⟩ = some (.int .i64 t.k) /\ w.cell? ⟨b, off + k * 4 + 1, none⟩ = some (.string (bs t.raw)) /\ w.cell? ⟨b, off + k * 4 + 2, none⟩ = some (.string (bs t.val)) /\ w.cell? ⟨b, off + k * 4 + 3, none⟩ = some (.int .i64 t.num) := by
 obtain ⟨b, off, t, hA, hlt, hd, hc⟩ := h.at_ hk
 exact ⟨b, off, t, hA, hlt, hd, hc 0 (by decide), hc 1 (by decide), hc 2 (by decide), hc 3 (by decide)⟩
theorem bs_toList (a : Bs) : (bs a).toList = a := ByteArray.toList_mk a
end tok
namespace tok
open Go.RowKit base
def nameN : Nat -> Bs -> Bs × Nat
 | 0, _ => ([], 0)
 | _ + 1, [] => ([], 0)
 | _ + 1, [c] => if signI (nv c) then ([c], 1) else ([], 0)
 | n + 1, c :: d :: r => if escP (c :: d :: r) then (d :: (nameN n r).1, (nameN n r).2 + 2) else if signI (nv c) then (c :: (nameN n (d :: r)).1, (nameN n (d :: r)).2 + 1) else ([], 0)
theorem nameN_eq : ∀ (n : Nat) (l : Bs), l.length <= n -> nameN n l = nameP l
 | 0, l, h => by
  obtain rfl := List.eq_nil_of_length_eq_zero (Nat.le_zero.1 h)
  rw [nameN, nameP]
 | n + 1, [], h => by rw [nameN, nameP]
 | n + 1, [c], h => by rw [nameN, nameP]
 | n + 1, c :: d :: r, h => by
  simp only [List.length_cons] at h
  rw [nameN, nameP, nameN_eq n r (by omega), nameN_eq n (d :: r) (by simp only [List.length_cons]; omega)]
def namedN (k : Int) (l : Bs) (a : Nat) : Tk := ⟨k, l.take (a + (nameN l.length (l.drop a)).2), (nameN l.length (l.drop a)).1, 0⟩
theorem namedN_eq (k : Int) (l : Bs) (a : Nat) : namedN k l a = namedP k l a := by
 unfold namedN namedP
 rw [nameN_eq l.length (l.drop a) (by rw [List.length_drop]; omega)]
def wordN (l : Bs) : Tk :=
 if Lib.hasPrefix (l.drop (namedN 1 l 0).raw.length) [40] then ⟨2, l.take ((namedN 1 l 0).raw.length + 1), (namedN 1 l 0).val, (namedN 1 l 0).num⟩ else namedN 1 l 0
theorem wordN_eq (l : Bs) : wordN l = wordP l := by
 unfold wordN wordP
 rw [namedN_eq]
def numTkN (l : Bs) (num : Int) (n : Nat) : Tk :=
 if Lib.hasPrefix (l.drop n) [37] then ⟨7, l.take (n + 1), [37], num⟩
 else if beginsP (l.drop n) then ⟨7, l.take (n + (nameN l.length (l.drop n)).2), (nameN l.length (l.drop n)).1.map lowB, num⟩
 else ⟨7, l.take n, [], num⟩
theorem numTkN_eq (l : Bs) (num : Int) (n : Nat) : numTkN l num n = numTkP l num n := by
 unfold numTkN numTkP
 rw [nameN_eq l.length (l.drop n) (by rw [List.length_drop]; omega)]
def firstN (l : Bs) : Tk :=
 if 0 < spaceP l then ⟨8, l.take (spaceP l), [], 0⟩ else
 if Lib.hasPrefix l [47, 42] then noteP l else
 if quoteP l then textP l else
 if hashP l then namedN 4 l 1 else
 if atP l then namedN 3 l 1 else
 if 0 < (numberP l).2 then numTkN l (numberP l).1 (numberP l).2 else
 if beginsP l then wordN l else ⟨oneK l, l.take 1, [], 0⟩
theorem firstN_eq (l : Bs) : firstN l = firstP l := by
 unfold firstN firstP
 rw [namedN_eq, namedN_eq, numTkN_eq, wordN_eq]
def cutN : Nat -> Bs -> List Tk
 | 0, _ => []
 | _ + 1, [] => []
 | n + 1, c :: r => firstN (c :: r) :: cutN n ((c :: r).drop (firstN (c :: r)).raw.length)
theorem cutN_eq : ∀ (n : Nat) (l : Bs), l.length <= n -> cutN n l = cutP l
 | 0, l, h => by
  obtain rfl := List.eq_nil_of_length_eq_zero (Nat.le_zero.1 h)
  rw [cutN, cutP_nil]
 | n + 1, [], h => by rw [cutN, cutP_nil]
 | n + 1, c :: r, h => by
  have h0 := (first_pre (c :: r) (by simp)).2
  rw [cutN, cutP_cons (by simp), firstN_eq, cutN_eq n _ (by rw [List.length_drop]; simp only [List.length_cons] at h ⊢; omega)]
end tok
end Go.Proofs.YthgffoanecknoaaGreatDoor
