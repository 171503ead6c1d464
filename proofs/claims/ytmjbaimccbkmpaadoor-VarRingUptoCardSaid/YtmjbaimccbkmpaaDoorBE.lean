/- Contracts and plain law, a bundle: Rd Tok20 Tok21 Rul0 Rul1 Rul2 Rul3 Rul4 Build2 Rul6 TokL1 TokL2 TokL3 TokL4. -/
import Derived.Maps.AppendAt
import Derived.Laws.OwnMore
import Derived.Laws.StructEq
import Derived.Shelf.Abstract
import Derived.Test.YtmjbaimccbkmpaaDoorBA
import Derived.Test.YtmjbaimccbkmpaaDoorBD

namespace Go.Proofs.YtmjbaimccbkmpaaDoor.base
open Go.RowKit
set_option linter.unusedVariables false

/-- the cells of the entries, one behind the other -/
def flatR {α : Type} (f : α → List Value) (L : List α) : List Value := L.flatMap f

section
variable {α : Type} {k : Nat} {f : α → List Value}
theorem flatR_nil : flatR f [] = [] := rfl
theorem flatR_snoc (L : List α) (d : α) : flatR f (L ++ [d]) = flatR f L ++ f d := by simp [flatR]
theorem flatR_app (L M : List α) : flatR f (L ++ M) = flatR f L ++ flatR f M := by simp [flatR]
theorem flatR_len (hf : ∀ d, (f d).length = k) : ∀ (L : List α), (flatR f L).length = L.length * k
  | [] => by simp [flatR]
  | d :: L => by
    have := flatR_len hf L
    simp only [flatR, List.flatMap_cons, List.length_append, List.length_cons] at this ⊢
    rw [this, hf, Nat.add_mul]
    omega
theorem flatR_at (hf : ∀ d, (f d).length = k) : ∀ {L : List α} {i : Nat} {d : α}, L[i]? = some d → ∀ j, j < k → (flatR f L)[i * k + j]? = (f d)[j]?
  | [], i, d, h, _, _ => by simp at h
  | e :: L, 0, d, h, j, hj => by
    simp at h
    subst h
    simp only [flatR, List.flatMap_cons, Nat.zero_mul, Nat.zero_add]
    rw [List.getElem?_append_left (by rw [hf]; exact hj)]
  | e :: L, i + 1, d, h, j, hj => by
    have ih := flatR_at hf (L := L) (i := i) (d := d) (by simpa using h) j hj
    simp only [flatR, List.flatMap_cons] at ih ⊢
    rw [List.getElem?_append_right (by rw [hf, Nat.add_mul]; omega), hf, show (i + 1) * k + j - k = i * k + j by rw [Nat.add_mul]; omega]
    exact ih

/-- they lie where the slice says, below block B -/
def Rd (k : Nat) (f : α → List Value) (w : World) (B : Nat) (A : Option Addr) (n : Nat) (L : List α) : Prop :=
  L.length = n ∧ (0 < n → ∃ b off, A = some ⟨b, off, none⟩ ∧ b < B ∧ ∀ (i : Nat) (d : α), L[i]? = some d → ∀ j, j < k → w.cell? ⟨b, off + i * k + j, none⟩ = (f d)[j]?)

theorem Rd.keep {w w' : World} {B B' : Nat} {A : Option Addr} {n : Nat} {L : List α} (h : Rd k f w B A n L) (hb : Below B w w') (hB : B ≤ B') : Rd k f w' B' A n L := by
  refine ⟨h.1, fun h0 => ?_⟩
  obtain ⟨b, off, hA, hlt, hc⟩ := h.2 h0
  exact ⟨b, off, hA, by omega, fun i d hd j hj => (hb.cell (p := ⟨b, _, none⟩) hlt).trans (hc i d hd j hj)⟩

theorem Rd.first {w : World} {B : Nat} {A : Option Addr} {n m : Nat} {L : List α} (h : Rd k f w B A n L) (hm : m ≤ n) : Rd k f w B A m (L.take m) := by
  refine ⟨by rw [List.length_take, h.1]; omega, fun h0 => ?_⟩
  obtain ⟨b, off, hA, hlt, hc⟩ := h.2 (by omega)
  refine ⟨b, off, hA, hlt, fun i d hd => hc i d ?_⟩
  have hi := (List.getElem?_eq_some_iff.1 hd).1
  rw [List.length_take] at hi
  rwa [List.getElem?_take_of_lt (by omega)] at hd

/-- one of them -/
theorem Rd.at_ {w : World} {B : Nat} {A : Option Addr} {n i : Nat} {L : List α} (h : Rd k f w B A n L) (hi : i < n) : ∃ b off d, A = some ⟨b, off, none⟩ ∧ b < B ∧ L[i]? = some d ∧ ∀ j, j < k → w.cell? ⟨b, off + i * k + j, none⟩ = (f d)[j]? := by
  obtain ⟨b, off, hA, hlt, hc⟩ := h.2 (by omega)
  have hl : i < L.length := by have := h.1; omega
  exact ⟨b, off, L[i], hA, hlt, List.getElem?_eq_getElem hl, hc i L[i] (List.getElem?_eq_getElem hl)⟩

theorem Rd.nil {w : World} {B : Nat} {A : Option Addr} : Rd k f w B A 0 [] := ⟨rfl, fun h => absurd h (by omega)⟩

/-- a row of the call's own reads so -/
theorem row_rd {w : World} {base n : Nat} {e : TypeId} {v : Value} {L : List α} (hf : ∀ d, (f d).length = k) (hn : L.length = n) (h : w.ownsRow base e k v n (flatR f L)) : ∃ A cap, v = .slice A n cap ∧ n ≤ cap ∧ Rd k f w w.heap.size A n L := by
  subst hn
  rcases Nat.eq_zero_or_pos L.length with h0 | h0
  · rcases h.2 with ⟨rfl, hz⟩ | ⟨g, cap, cur, rfl, _, _, hc, _⟩
    · exact ⟨none, 0, by rw [hz], by omega, rfl, fun h1 => by omega⟩
    · exact ⟨_, _, rfl, hc, rfl, fun h1 => by omega⟩
  · rcases h.2 with ⟨rfl, hz⟩ | ⟨g, cap, cur, rfl, _, _, hc, _⟩
    · omega
    · have hg := h.lt g rfl
      refine ⟨_, _, rfl, hc, rfl, fun _ => ⟨g, 0, rfl, hg.2, fun i d hd j hj => ?_⟩⟩
      rw [Nat.zero_add]
      have hil := (List.getElem?_eq_some_iff.1 hd).1
      have hlt : i * k + j < L.length * k := by
        have : (i + 1) * k ≤ L.length * k := Nat.mul_le_mul_right k hil
        rw [Nat.add_mul] at this
        omega
      have := (h.cellAt (i * k + j) hlt).trans (flatR_at hf hd j hj)
      rw [this]
end

theorem grown_of_below {w w' : World} (h : Below w.heap.size w w') (row : Option Nat) : w.grownBy w' row := ⟨h.os, h.tape, h.output, h.size, fun k hk _ => h.block k hk⟩
theorem row_form {w : World} {base : Nat} {e : TypeId} {size : Nat} {v : Value} {n : Nat} {xs : List Value} (h : w.ownsRow base e size v n xs) : ∃ a cap, v = .slice a n cap := by
  rcases h.2 with ⟨rfl, rfl⟩ | ⟨g, cap, cur, rfl, _⟩
  · exact ⟨none, 0, rfl⟩
  · exact ⟨_, _, rfl⟩
theorem row_on {w w' : World} {base : Nat} {e : TypeId} {size : Nat} {v : Value} {n : Nat} {xs : List Value} (h : w.ownsRow base e size v n xs) (hb : Below w.heap.size w w') : w'.ownsRow base e size v n xs :=
  h.kept (grown_of_below hb none) (by cases hv : v.ownBlock with | none => exact .inl rfl | some g => exact .inr (by simp))
/-- what lay below stands, behind an append to a row of the call's own -/
theorem below_app {B : Nat} {a w w' : World} {base : Nat} {e : TypeId} {size n : Nat} {v : Value} {xs : List Value} (h : Below B a w) (hg : w.grownBy w' v.ownBlock) (hown : w.ownsRow base e size v n xs) (hB : B ≤ base) (hz : B ≤ w.heap.size) : Below B a w' := below_grown h hg hown hB hz

end Go.Proofs.YtmjbaimccbkmpaaDoor.base

namespace Go.Proofs.YtmjbaimccbkmpaaDoor.tok
open Go.RowKit Go.Proofs.YtmjbaimccbkmpaaDoor.base
set_option linter.unusedVariables false

theorem infoT : (Tryd.prog.info? 43).map (fun i => (i.zero, i.size, i.bytes)) = some (some (.agg #[.int .i64 0, .string .empty, .string .empty, .int .i64 0]), 4, 48) := by kernel_rfl
abbrev tcells (t : Tk) : List Value := t.cells.toList
theorem tcells_len (t : Tk) : (tcells t).length = 4 := rfl

def strLen : Value → Nat
  | .string s => s.size
  | _ => 0

/-- what is known of a text that is cut so far -/
def CutRel (s : ByteArray) (w : World) (x v : Value) (wr : World) : Prop :=
  ∃ (X : ByteArray) (acc : List Tk), x = .string X ∧ acc.length + X.size ≤ s.size ∧ cutP s.data.toList = acc ++ cutP X.data.toList ∧ wr.ownsRow w.heap.size 43 4 v acc.length (flatR tcells acc) ∧ Below w.heap.size w wr

set_option maxRecDepth 100000 in
set_option maxHeartbeats 4000000 in
theorem cut_row (s : ByteArray) (hs : s.size < 4294967281) (w : World) (hm : MaxL w) :
    Calls Tryd.prog 12 #[.string s] w fun e w' => (∃ v, e = .returned v ∧ w'.ownsRow w.heap.size 43 4 v (cutP s.data.toList).length (flatR tcells (cutP s.data.toList))) ∧ Below w.heap.size w w' := by
  obtain ⟨i0, hi, hz0, hz1, hz2⟩ := info_parts infoT
  have Hz0 := Lib.hid hz0
  have Hi := Lib.hid hi
  have Hz1 := Lib.hid hz1
  have Hz2 := Lib.hid hz2
  have HM := Lib.hid hm
  clear hz0 hi hz1 hz2 hm
  go_enter Tryd.func12, Tryd.ntmps12
  go_wp2_with fail
  go_loopw [0, 3] (fun x v wr => CutRel s w x v wr) (fun x _ _ => strLen x)
  case atStart => exact ⟨s, [], rfl, by simp, by simp, World.ownsRow_nil _ _ _ _, Below.refl _ _⟩
  case round =>
    obtain ⟨X, acc, rfl, hal, hinv, hrow, hbel⟩ := hrel
    have hmr := Lib.hid (HM.out.on hbel HM.out.lt)
    have hz := hbel.size
    have HBl := Lib.hid hbel
    replace hrow := Lib.hid hrow
    replace hinv := Lib.hid hinv
    clear hbel
    rcases Nat.eq_zero_or_pos X.size with h0 | h0
    · have he := empty_yes h0
      have hX : X.data.toList = [] := List.eq_nil_of_length_eq_zero (by rw [← Lib.size_eq]; exact h0)
      have hfin := Lib.hid (show cutP s.data.toList = acc by rw [hinv.out, hX, cutP_nil, List.append_nil])
      clear hX h0
      go_wp2
      go_ret
      exact ⟨⟨_, rfl, by rw [hfin.out]; exact hrow.out⟩, HBl.out⟩
    · have he := empty_no h0
      have hX : X.data.toList ≠ [] := fun h => by
        rw [Lib.size_eq, h] at h0
        simp at h0
      have hpre := first_pre X.data.toList hX
      have hrw := first_raw X.data.toList hX
      have hcc := cutP_cons hX
      have hrl : (firstP X.data.toList).raw.length ≤ X.size := by
        rw [hrw, List.length_take, ← Lib.size_eq]
        omega
      have hpos := hpre.2
      have cF := fun w hm => first_ct X (by omega) h0 w hm
      generalize firstP X.data.toList = t at *
      have hnext : cutP s.data.toList = (acc ++ [t]) ++ cutP (X.extract (bs t.raw).size X.size).data.toList := by
        rw [Lib.extract_to_end, hinv.out, hcc]
        simp [bs_size]
      have hnl : (X.extract (bs t.raw).size X.size).size + t.raw.length = X.size := by
        simp only [ByteArray.size_extract, bs_size]
        omega
      have hrs : (bs t.raw).size ≤ X.size := hrl
      obtain ⟨tk, tr, tv, tn⟩ := t
      simp only [Tk.cells] at cF
      replace cF := Lib.hid cF
      replace hnext := Lib.hid hnext
      simp only at hpos hrl hnl hrs
      replace hnl := Lib.hid hnl
      clear hX hpre hrw hcc
      obtain ⟨a, cp, rfl⟩ := row_form hrow.out
      go_wp2_with (first
        | (go_at_call 31; (with_reducible refine (cF.out _ hmr.out).mono ?_); rintro e W2 ⟨rfl, hb2⟩; have hrow2 := Lib.hid (row_on hrow.out hb2); have HB2 := Lib.hid (HBl.out.trans (hb2.mono HBl.out.size)); have hz2 := hb2.size; clear hb2)
        | (at_builtin; refine wpList_append_own _ rfl _ _ 36 rfl w.heap.size 43 i0 _ 4 48 Tryd.underlying36 Hi.out Hz0.out Hz1.out Hz2.out rfl (by decide) _ _ _ rfl ((hrow2.out.alloc _).alloc _) ⟨W2.heap.size + 1, 0, none⟩ 1 1 [.int .i64 tk, .string (bs tr), .string (bs tv), .int .i64 tn] rfl rfl ?c1 ?c2 ?c3 ?c4 ?c5 ?_))
      case c1 => exact (Blk.new (w := W2.alloc (.cells #[.int .i64 tk, .string (bs tr), .string (bs tv), .int .i64 tn] 43)) (t := 43) (cs := #[.int .i64 tk, .string (bs tr), .string (bs tv), .int .i64 tn]) (by simp)).news
      case c2 => simp [Value.oneCell']
      case c3 => unfold maxLen; omega
      case c4 => omega
      case c5 => simp; omega
      intro v' w3 hown3 hgrow3 hnil3
      have tB := Lib.hid (show Blk w3 W2.heap.size 43 #[.int .i64 tk, .string (bs tr), .string (bs tv), .int .i64 tn] from
        (hgrow3.block W2.heap.size (by simp; omega) (fun e => by have := (hrow2.out.lt _ e.symm).2; omega)).trans ((Blk.new rfl).alloc _))
      have tC := tB.out.cell
      have hb3 := Lib.hid (below_app ((HB2.out.alloc HB2.out.size _).alloc (by simp; have := HB2.out.size; omega) _) hgrow3 ((hrow2.out.alloc _).alloc _) (Nat.le_refl _) (by simp; have := HB2.out.size; omega))
      replace hown3 := Lib.hid hown3
      clear hgrow3 hnil3
      go_wp2
      go_roundw
      case rel =>
        refine ⟨_, acc ++ [⟨tk, tr, tv, tn⟩], rfl, ?_, hnext.out, ?_, hb3.out⟩
        · have hbz : (bs tr).size = tr.length := rfl
          simp
          omega
        · simpa [flatR_snoc] using hown3.out
      case measure =>
        have hbz : (bs tr).size = tr.length := rfl
        simp [strLen]
        omega

/-- slices of tokens -/
abbrev TRd (w : World) (B : Nat) (A : Option Addr) (n : Nat) (L : List Tk) : Prop := Rd 4 tcells w B A n L

theorem cut_ct (s : ByteArray) (hs : s.size < 4294967281) (w : World) (hm : MaxL w) :
    Calls Tryd.prog 12 #[.string s] w fun e w' => (∃ A cap, e = .returned (.slice A (cutP s.data.toList).length cap) ∧ (cutP s.data.toList).length ≤ cap ∧ TRd w' w'.heap.size A (cutP s.data.toList).length (cutP s.data.toList)) ∧ Below w.heap.size w w' :=
  (cut_row s hs w hm).mono fun e w' ⟨⟨v, he, hr⟩, hb⟩ => by
    obtain ⟨A, c, rfl, hc, hg⟩ := row_rd tcells_len rfl hr
    exact ⟨⟨A, c, he, hc, hg⟩, hb⟩

end Go.Proofs.YtmjbaimccbkmpaaDoor.tok

namespace Go.Proofs.YtmjbaimccbkmpaaDoor.tok
open Go.RowKit Go.Proofs.YtmjbaimccbkmpaaDoor.base
set_option linter.unusedVariables false

def textOf (L : List Tk) : Bs := L.flatMap (·.raw)

theorem cut_raw : ∀ (n : Nat) (l : Bs), l.length ≤ n → textOf (cutP l) = l ∧ ∀ t ∈ cutP l, t.raw ≠ []
  | 0, l, h => by
    obtain rfl := List.eq_nil_of_length_eq_zero (Nat.le_zero.1 h)
    rw [cutP_nil]
    exact ⟨rfl, fun t ht => by cases ht⟩
  | n + 1, l, h => by
    by_cases h0 : l = []
    · subst h0
      rw [cutP_nil]
      exact ⟨rfl, fun t ht => by cases ht⟩
    · rw [cutP_cons h0]
      have hp := (first_pre l h0).2
      obtain ⟨h1, h2⟩ := cut_raw n (l.drop (firstP l).raw.length) (by rw [List.length_drop]; omega)
      refine ⟨?_, fun t ht => ?_⟩
      · show (firstP l).raw ++ textOf _ = l
        rw [h1]
        conv => rhs; rw [← List.take_append_drop (firstP l).raw.length l]
        rw [← first_raw l h0]
      · rcases List.mem_cons.1 ht with rfl | ht
        · exact fun e => by rw [e] at hp; simp at hp
        · exact h2 t ht
theorem cut_text (l : Bs) : textOf (cutP l) = l := (cut_raw _ l (Nat.le_refl _)).1
theorem cut_full (l : Bs) : ∀ t ∈ cutP l, t.raw ≠ [] := (cut_raw _ l (Nat.le_refl _)).2
theorem cut_few (l : Bs) : (cutP l).length ≤ l.length := by
  have key : ∀ L : List Tk, (∀ t ∈ L, t.raw ≠ []) → L.length ≤ (textOf L).length := by
    intro L
    induction L with
    | nil => intro _; simp
    | cons t L ih =>
      intro h
      have h1 := ih (fun x hx => h x (by simp [hx]))
      have h2 : 0 < t.raw.length := List.length_pos_iff.2 (h t (by simp))
      simp only [textOf, List.flatMap_cons, List.length_append, List.length_cons] at h1 ⊢
      omega
  have := key _ (cut_full l)
  rwa [cut_text] at this

theorem text_step {L : List Tk} {k : Nat} {t : Tk} (h : L[k]? = some t) : textOf (L.take (k + 1)) = textOf (L.take k) ++ t.raw := by
  obtain ⟨hl, he⟩ := List.getElem?_eq_some_iff.1 h
  rw [List.take_succ_eq_append_getElem hl, textOf, List.flatMap_append, he]
  simp [textOf]
theorem text_part {L : List Tk} (k : Nat) : (textOf (L.take k)).length ≤ (textOf L).length := by
  conv => rhs; rw [← List.take_append_drop k L]
  simp only [textOf, List.flatMap_append, List.length_append]
  omega

/-- a token of a slice, cell by cell -/
theorem TRd.tok {w : World} {B : Nat} {A : Option Addr} {n k : Nat} {L : List Tk} (h : TRd w B A n L) (hk : k < n) : ∃ b off t, A = some ⟨b, off, none⟩ ∧ b < B ∧ L[k]? = some t ∧
    w.cell? ⟨b, off + k * 4, none⟩ = some (.int .i64 t.k) ∧ w.cell? ⟨b, off + k * 4 + 1, none⟩ = some (.string (bs t.raw)) ∧ w.cell? ⟨b, off + k * 4 + 2, none⟩ = some (.string (bs t.val)) ∧ w.cell? ⟨b, off + k * 4 + 3, none⟩ = some (.int .i64 t.num) := by
  obtain ⟨b, off, t, hA, hlt, hd, hc⟩ := h.at_ hk
  exact ⟨b, off, t, hA, hlt, hd, hc 0 (by decide), hc 1 (by decide), hc 2 (by decide), hc 3 (by decide)⟩

theorem bs_toList (a : Bs) : (bs a).toList = a := ByteArray.toList_mk a
/-- == on two tokens -/
theorem run_eq_tok (a b : Tk) (w : World) : (binOp .eql 43 (.agg #[.int .i64 a.k, .string (bs a.raw), .string (bs a.val), .int .i64 a.num]) (.agg #[.int .i64 b.k, .string (bs b.raw), .string (bs b.val), .int .i64 b.num])).run Tryd.prog w = .ok (.bool (decide (a = b))) w := by
  rw [run_eql_struct, run_equalIn_agg w _ _ _ _ (by kernel_rfl) (by kernel_rfl)]
  simp only [Program.fieldsOf, Tryd.underlying43]
  obtain ⟨k1, r1, v1, n1⟩ := a
  obtain ⟨k2, r2, v2, n2⟩ := b
  simp [Op.eqFields, go_sem, Tryd.underlying9, Tryd.underlying3, bs_toList]
  (repeat' split) <;> simp_all
theorem run_ne_tok (a b : Tk) (w : World) : (binOp .neq 43 (.agg #[.int .i64 a.k, .string (bs a.raw), .string (bs a.val), .int .i64 a.num]) (.agg #[.int .i64 b.k, .string (bs b.raw), .string (bs b.val), .int .i64 b.num])).run Tryd.prog w = .ok (.bool (decide (a ≠ b))) w := by
  rw [run_neq_struct, run_equalIn_agg w _ _ _ _ (by kernel_rfl) (by kernel_rfl)]
  simp only [Program.fieldsOf, Tryd.underlying43]
  obtain ⟨k1, r1, v1, n1⟩ := a
  obtain ⟨k2, r2, v2, n2⟩ := b
  simp [Op.eqFields, go_sem, Tryd.underlying9, Tryd.underlying3, bs_toList]
  (repeat' split) <;> simp_all

theorem nv_lit (n : Nat) (h : n < 256) : nv (UInt8.ofNat n) = n := by simp [nv, UInt8.toNat_ofNat']; omega

theorem cut_fact : cutP [97, 58, 49, 112, 120] = [⟨1, [97], [97], 0⟩, ⟨12, [58], [], 0⟩, ⟨7, [49, 112, 120], [112, 120], 1000⟩] := by
  have f1 : firstP [97, 58, 49, 112, 120] = ⟨1, [97], [97], 0⟩ := by
    have hn : nameP [97, 58, 49, 112, 120] = ([97], 1) := by
      rw [nameP, if_neg (by decide), if_pos (by decide), nameP, if_neg (by decide), if_neg (by decide)]
    have hw : wordP [97, 58, 49, 112, 120] = ⟨1, [97], [97], 0⟩ := by
      have h1 : namedP 1 [97, 58, 49, 112, 120] 0 = ⟨1, [97], [97], 0⟩ := by
        simp only [namedP, List.drop_zero, hn]
        rfl
      simp only [wordP, h1]
      decide
    rw [firstP, if_neg (by decide), if_neg (by decide), if_neg (by decide), if_neg (by decide), if_neg (by decide), if_neg (by decide), if_pos (by decide), hw]
  have f2 : firstP [58, 49, 112, 120] = ⟨12, [58], [], 0⟩ := by
    rw [firstP, if_neg (by decide), if_neg (by decide), if_neg (by decide), if_neg (by decide), if_neg (by decide), if_neg (by decide), if_neg (by decide)]
    rfl
  have f3 : firstP [49, 112, 120] = ⟨7, [49, 112, 120], [112, 120], 1000⟩ := by
    have hn : nameP [112, 120] = ([112, 120], 2) := by
      rw [nameP, if_neg (by decide), if_pos (by decide), nameP, if_pos (by decide)]
    have hnum : numberP [49, 112, 120] = (1000, 1) := by decide
    rw [firstP, if_neg (by decide), if_neg (by decide), if_neg (by decide), if_neg (by decide), if_neg (by decide), hnum, if_pos (by decide)]
    simp only [numTkP]
    rw [if_neg (by decide), if_pos (by decide)]
    simp only [List.drop_succ_cons, List.drop_zero, hn]
    decide
  rw [cutP_cons (by decide), f1, cutP_cons (by decide)]
  simp only [List.length_cons, List.length_nil, List.drop_succ_cons, List.drop_zero, Nat.zero_add]
  rw [f2, cutP_cons (by decide)]
  simp only [List.length_cons, List.length_nil, List.drop_succ_cons, List.drop_zero, Nat.zero_add]
  rw [f3]
  simp [cutP_nil]

end Go.Proofs.YtmjbaimccbkmpaaDoor.tok

namespace Go.Proofs.YtmjbaimccbkmpaaDoor.rul
open Go.RowKit Go.Proofs.YtmjbaimccbkmpaaDoor.base Go.Proofs.YtmjbaimccbkmpaaDoor.tok
set_option linter.unusedVariables false

def silP (t : Tk) : Bool := decide (t.k = 8) || decide (t.k = 9)
def opensP (t : Tk) : Bool := decide (t.k = 10) || decide (t.k = 2)
def rawP (t : Tk) (k : Int) (s : Bs) : Bool := decide (t.k = k) && decide (t.raw = s)
def semiP (t : Tk) : Bool := rawP t 12 [59]
def colonP (t : Tk) : Bool := rawP t 12 [58]
def markP (t : Tk) : Bool := rawP t 12 [33]
def braceP (t : Tk) : Bool := rawP t 10 [123]
def badP (t : Tk) : Bool := decide (t.k = 6)
def closerP (r : Bs) : Bs := if r.getLast? = some 91 then [93] else if r.getLast? = some 123 then [125] else [41]

/-- one that is asked of a token's kind: it is one of two -/
abbrev Asks (f : FuncId) (p : Tk → Bool) : Prop := ∀ (t : Tk) (w : World), Calls Tryd.prog f #[.agg t.cells] w fun e w' => e = .returned (.bool (p t)) ∧ Below w.heap.size w w'

set_option maxRecDepth 100000 in
theorem silent_ct : Asks 57 silP := by
  intro ⟨k, r, v, n⟩ w
  have hb := Lib.hid (show Below w.heap.size w (w.alloc (.cells #[.int .i64 k, .string (bs r), .string (bs v), .int .i64 n] 43)) from (Below.refl _ _).alloc (Nat.le_refl _) _)
  simp only [Tk.cells, silP]
  by_cases h1 : k = 8
  · subst h1
    go_enter Tryd.func57, Tryd.ntmps57
    go_wp2
    go_ret
    exact ⟨rfl, hb.out⟩
  · have b1 : (k == 8) = false := by simpa using h1
    rw [decide_eq_false h1, Bool.false_or]
    by_cases h2 : k = 9
    · subst h2
      go_enter Tryd.func57, Tryd.ntmps57
      go_wp2
      go_ret
      exact ⟨rfl, hb.out⟩
    · have b2 : (k == 9) = false := by simpa using h2
      rw [decide_eq_false h2]
      go_enter Tryd.func57, Tryd.ntmps57
      go_wp2
      go_ret
      exact ⟨rfl, hb.out⟩


theorem last_at {r : Bs} (h : r ≠ []) : ∃ hlt : (bs r).size - 1 < (bs r).size, r.getLast? = some ((bs r)[(bs r).size - 1]'hlt) := by
  have hp := List.length_pos_iff.2 h
  have h1 : (bs r).size - 1 < (bs r).size := by rw [bs_size]; omega
  refine ⟨h1, ?_⟩
  rw [List.getLast?_eq_some_getLast h, List.getLast_eq_getElem h]
  rfl
theorem byte_is {c : UInt8} {n : Nat} (hn : n < 256) : ((c.toNat : Int) == (n : Int)) = decide (c = UInt8.ofNat n) := by
  rw [Bool.eq_iff_iff]
  simp only [beq_iff_eq, decide_eq_true_eq]
  constructor
  · intro h
    apply UInt8.toNat_inj.1
    rw [UInt8.toNat_ofNat']
    omega
  · rintro rfl
    rw [UInt8.toNat_ofNat']
    omega

end Go.Proofs.YtmjbaimccbkmpaaDoor.rul

namespace Go.Proofs.YtmjbaimccbkmpaaDoor.rul
open Go.RowKit Go.Proofs.YtmjbaimccbkmpaaDoor.base Go.Proofs.YtmjbaimccbkmpaaDoor.tok
set_option linter.unusedVariables false

theorem add0 (a : Addr) : a.add 0 = a := rfl
/-- where a slice that is cut from i on begins -/
def addrAt (k : Nat) (A : Option Addr) (cap i : Nat) : Option Addr := if cap = i then A else A.map (·.add (i * k))
theorem addr_zero (k : Nat) (A : Option Addr) (cap : Nat) : addrAt k A cap 0 = A := by
  unfold addrAt
  split
  · rfl
  · rw [Nat.zero_mul]; cases A <;> rfl

section
variable {P : Program} {T e : TypeId} {k : Nat}
theorem slice_from (hT : P.underlying T = some (.slice e)) (hs : ∀ w, (sizeOf e).run P w = .ok k w) (A : Option Addr) (n cap : Nat) (i : Int) (h0 : 0 ≤ i) (h1 : i ≤ n) (w : World) :
    (Instr.slice T (.slice A n cap) (some (.int .i64 i)) none none).run P w = .ok (.slice (addrAt k A cap i.toNat) (n - i.toNat) (cap - i.toNat)) w := by
  simp [Instr.slice, Instr.sliceBounds, Instr.sliceBound, run_underlying hT, hs, asIntOf, h0, h1, go_sem, addrAt]
theorem slice_upto (hT : P.underlying T = some (.slice e)) (hs : ∀ w, (sizeOf e).run P w = .ok k w) (A : Option Addr) (n cap : Nat) (j : Int) (h0 : 0 ≤ j) (h1 : j ≤ cap) (w : World) :
    (Instr.slice T (.slice A n cap) none (some (.int .i64 j)) none).run P w = .ok (.slice A j.toNat cap) w := by
  simp [Instr.slice, Instr.sliceBounds, Instr.sliceBound, run_underlying hT, hs, asIntOf, h0, h1, go_sem]
theorem slice_both (hT : P.underlying T = some (.slice e)) (hs : ∀ w, (sizeOf e).run P w = .ok k w) (A : Option Addr) (n cap : Nat) (i j : Int) (h0 : 0 ≤ i) (h1 : i ≤ j) (h2 : j ≤ cap) (w : World) :
    (Instr.slice T (.slice A n cap) (some (.int .i64 i)) (some (.int .i64 j)) none).run P w = .ok (.slice (addrAt k A cap i.toNat) (j.toNat - i.toNat) (cap - i.toNat)) w := by
  have h3 : 0 ≤ j := by omega
  have h5 : ¬ max j 0 < i := by omega
  simp [Instr.slice, Instr.sliceBounds, Instr.sliceBound, run_underlying hT, hs, asIntOf, h2, h3, go_sem, addrAt]
  simp [h0, h5]
end

theorem rd_cut {α : Type} {k : Nat} {f : α → List Value} {w : World} {B : Nat} {A : Option Addr} {n cap i m : Nat} {L : List α} (h : Rd k f w B A n L) (hc : n ≤ cap) (hm : i + m ≤ n) : Rd k f w B (addrAt k A cap i) m ((L.drop i).take m) := by
  refine ⟨by rw [List.length_take, List.length_drop, h.1]; omega, fun h0 => ?_⟩
  obtain ⟨b, off, rfl, hlt, hx⟩ := h.2 (by omega)
  refine ⟨b, off + i * k, ?_, hlt, fun j d hd x hx2 => ?_⟩
  · unfold addrAt
    rw [if_neg (by omega)]
    simp only [Option.map_some, Option.some.injEq]
    unfold Addr.add
    split
    · rename_i hz; rw [hz]; rfl
    · rfl
  · have hj := (List.getElem?_eq_some_iff.1 hd).1
    rw [List.length_take, List.length_drop] at hj
    rw [List.getElem?_take_of_lt (by omega), List.getElem?_drop] at hd
    rw [← hx (i + j) d hd x hx2, Nat.add_mul]
    congr 2
    omega
theorem rd_from {α : Type} {k : Nat} {f : α → List Value} {w : World} {B : Nat} {A : Option Addr} {n cap i : Nat} {L : List α} (h : Rd k f w B A n L) (hc : n ≤ cap) (hi : i ≤ n) : Rd k f w B (addrAt k A cap i) (n - i) (L.drop i) := by
  have := rd_cut h (i := i) (m := n - i) hc (by omega)
  rwa [List.take_of_length_le (by rw [List.length_drop, h.1]; omega)] at this

/-! ### A stack of texts -/
abbrev strV (l : Bs) : Value := .string (bs l)
theorem infoS : (Tryd.prog.info? 9).map (fun i => (i.zero, i.size, i.bytes)) = some (some (.string .empty), 1, 16) := by kernel_rfl
/-- the row without its last ones -/
theorem owns_less {w : World} {base : Nat} {e : TypeId} {a : Option Addr} {n m cap : Nat} {xs : List Value} (h : w.ownsRow base e 1 (.slice a n cap) n xs) (hm : m ≤ n) (h0 : 0 < n) : w.ownsRow base e 1 (.slice a m cap) m (xs.take m) := by
  refine ⟨by rw [List.length_take, h.1]; omega, ?_⟩
  rcases h.2 with ⟨hv, hz⟩ | ⟨g, cap', cur, hv, hb, hg, hc, hcm, hs, ht⟩
  · omega
  · injection hv with h1 h2 h3
    subst h1 h3
    refine .inr ⟨g, cap, cur, rfl, hb, hg, by omega, hcm, hs, ?_⟩
    rw [← ht, List.take_take]
    congr 1
    omega
/-- a row that was just built -/
theorem owns_new {w : World} {base : Nat} {e : TypeId} {x : Value} (hb : base ≤ w.heap.size) : (w.alloc (.cells #[x] e)).ownsRow base e 1 (.slice (some ⟨w.heap.size, 0, none⟩) 1 1) 1 [x] :=
  ⟨rfl, .inr ⟨w.heap.size, 1, #[x], rfl, hb, heap_alloc_new w _, Nat.le_refl _, by decide, rfl, rfl⟩⟩
theorem owns_at {w : World} {base : Nat} {e : TypeId} {a : Option Addr} {n cap : Nat} {xs : List Value} {i : Nat} {x : Value} (h : w.ownsRow base e 1 (.slice a n cap) n xs) (hx : xs[i]? = some x) : ∃ g, a = some ⟨g, 0, none⟩ ∧ g < w.heap.size ∧ base ≤ g ∧ n ≤ cap ∧ w.cell? ⟨g, i, none⟩ = some x := by
  have hi := (List.getElem?_eq_some_iff.1 hx).1
  rw [h.1] at hi
  rcases h.2 with ⟨hv, hz⟩ | ⟨g, cap', cur, hv, hb, hg, hc, _⟩
  · omega
  · injection hv with h1 h2 h3
    subst h1 h3
    have hl := h.lt g rfl
    exact ⟨g, rfl, hl.2, hb, hc, (h.cellAt i hi).trans hx⟩

end Go.Proofs.YtmjbaimccbkmpaaDoor.rul

namespace Go.Proofs.YtmjbaimccbkmpaaDoor.rul
open Go.RowKit Go.Proofs.YtmjbaimccbkmpaaDoor.base Go.Proofs.YtmjbaimccbkmpaaDoor.tok
set_option linter.unusedVariables false

/-- where what is open closes (the one on top stands last): behind which token -/
def blkP : List Bs → List Tk → Nat → Option Nat
  | _, [], _ => none
  | st, t :: L, i => if opensP t then blkP (st ++ [closerP t.raw]) L (i + 1)
    else if t.k = 11 ∧ st.getLast? = some t.raw then (if st.dropLast = [] then some (i + 1) else blkP st.dropLast L (i + 1))
    else blkP st L (i + 1)
def blkR (n : Nat) : Option Nat → Nat × Bool
  | some e => (e, true)
  | none => (n, false)
/-- the block that begins at a place -/
def blockP (L : List Tk) (i : Nat) : Nat × Bool := blkR L.length (match L[i]? with | some t => blkP [closerP t.raw] (L.drop (i + 1)) (i + 1) | none => none)

theorem blk_open {st : List Bs} {L : List Tk} {i : Nat} {t : Tk} (h : L[i]? = some t) (ho : opensP t = true) : blkP st (L.drop i) i = blkP (st ++ [closerP t.raw]) (L.drop (i + 1)) (i + 1) := by
  obtain ⟨hl, he⟩ := List.getElem?_eq_some_iff.1 h
  rw [List.drop_eq_getElem_cons hl, he, blkP, if_pos ho]
theorem blk_pop {st : List Bs} {L : List Tk} {i : Nat} {t : Tk} (h : L[i]? = some t) (ho : opensP t = false) (hk : t.k = 11) (hr : st.getLast? = some t.raw) : blkP st (L.drop i) i = if st.dropLast = [] then some (i + 1) else blkP st.dropLast (L.drop (i + 1)) (i + 1) := by
  obtain ⟨hl, he⟩ := List.getElem?_eq_some_iff.1 h
  rw [List.drop_eq_getElem_cons hl, he, blkP, if_neg (by simp [ho]), if_pos ⟨hk, hr⟩]
theorem blk_skip {st : List Bs} {L : List Tk} {i : Nat} {t : Tk} (h : L[i]? = some t) (ho : opensP t = false) (hk : ¬ (t.k = 11 ∧ st.getLast? = some t.raw)) : blkP st (L.drop i) i = blkP st (L.drop (i + 1)) (i + 1) := by
  obtain ⟨hl, he⟩ := List.getElem?_eq_some_iff.1 h
  rw [List.drop_eq_getElem_cons hl, he, blkP, if_neg (by simp [ho]), if_neg hk]

def BlkRel (w : World) (L : List Tk) (R : Option Nat) (v x : Value) (wr : World) : Prop :=
  ∃ (i : Nat) (st : List Bs) (top : Bs), i ≤ L.length ∧ x = .int .i64 i ∧ st.length ≤ i ∧ blkP (st ++ [top]) (L.drop i) i = R ∧ wr.ownsRow w.heap.size 9 1 v (st.length + 1) ((st ++ [top]).map strV) ∧ Below w.heap.size w wr

/-- the cells of a token, while others make memory -/
theorem tok_on {w w' : World} {b o : Nat} {k n : Int} {r v : Bs} (hb : Below w.heap.size w w') (hlt : b < w.heap.size) (e0 : w.cell? ⟨b, o, none⟩ = some (.int .i64 k)) (e1 : w.cell? ⟨b, o + 1, none⟩ = some (.string (bs r))) (e2 : w.cell? ⟨b, o + 2, none⟩ = some (.string (bs v))) (e3 : w.cell? ⟨b, o + 3, none⟩ = some (.int .i64 n)) :
    w'.cell? ⟨b, o, none⟩ = some (.int .i64 k) ∧ w'.cell? ⟨b, o + 1, none⟩ = some (.string (bs r)) ∧ w'.cell? ⟨b, o + 2, none⟩ = some (.string (bs v)) ∧ w'.cell? ⟨b, o + 3, none⟩ = some (.int .i64 n) :=
  ⟨(hb.cell (p := ⟨b, o, none⟩) hlt).trans e0, (hb.cell (p := ⟨b, o + 1, none⟩) hlt).trans e1, (hb.cell (p := ⟨b, o + 2, none⟩) hlt).trans e2, (hb.cell (p := ⟨b, o + 3, none⟩) hlt).trans e3⟩

theorem owns_drewN {w : World} {base : Nat} {e : TypeId} {size : Nat} {v : Value} {n : Nat} {xs : List Value} (h : w.ownsRow base e size v n xs) (k : Nat) : (w.drewN k).ownsRow base e size v n xs := h
/-- what is asked of a token, field by field -/
theorem asks_at {f : FuncId} {p : Tk → Bool} (h : Asks f p) {k n : Int} {r v : Bs} {c : Bool} (hc : p ⟨k, r, v, n⟩ = c) (w : World) : Calls Tryd.prog f #[.agg #[.int .i64 k, .string (bs r), .string (bs v), .int .i64 n]] w fun e w' => e = .returned (.bool c) ∧ Below w.heap.size w w' := by
  subst hc
  exact h ⟨k, r, v, n⟩ w
end Go.Proofs.YtmjbaimccbkmpaaDoor.rul

namespace Go.Proofs.YtmjbaimccbkmpaaDoor.rul
open Go.RowKit Go.Proofs.YtmjbaimccbkmpaaDoor.base Go.Proofs.YtmjbaimccbkmpaaDoor.tok
set_option linter.unusedVariables false

/-- how many tokens close what is open -/
def closeP : List Bs → List Tk → Option Nat
  | _, [] => none
  | st, t :: L => if opensP t then (closeP (st ++ [closerP t.raw]) L).map (· + 1)
    else if t.k = 11 ∧ st.getLast? = some t.raw then (if st.dropLast = [] then some 1 else (closeP st.dropLast L).map (· + 1))
    else (closeP st L).map (· + 1)
theorem blk_close : ∀ (L : List Tk) (st : List Bs) (i : Nat), blkP st L i = (closeP st L).map (i + ·)
  | [], st, i => by simp [blkP, closeP]
  | t :: L, st, i => by
    unfold blkP closeP
    split
    · rw [blk_close L]; cases closeP (st ++ [closerP t.raw]) L <;> simp; omega
    · split
      · split
        · simp
        · rw [blk_close L]; cases closeP st.dropLast L <;> simp; omega
      · rw [blk_close L]; cases closeP st L <;> simp; omega
theorem close_le : ∀ (L : List Tk) (st : List Bs) (e : Nat), closeP st L = some e → 1 ≤ e ∧ e ≤ L.length
  | [], st, e, h => by simp [closeP] at h
  | t :: L, st, e, h => by
    unfold closeP at h
    split at h
    · obtain ⟨x, hx, rfl⟩ := Option.map_eq_some_iff.1 h
      have := close_le L _ x hx
      simp; omega
    · split at h
      · split at h
        · simp at h; subst h; simp
        · obtain ⟨x, hx, rfl⟩ := Option.map_eq_some_iff.1 h
          have := close_le L _ x hx
          simp; omega
      · obtain ⟨x, hx, rfl⟩ := Option.map_eq_some_iff.1 h
        have := close_le L _ x hx
        simp; omega
/-- how many tokens a block has that a token begins; does it end? -/
def blkLen (t : Tk) (L : List Tk) : Nat := match closeP [closerP t.raw] L with | some e => e + 1 | none => L.length + 1
def blkOk (t : Tk) (L : List Tk) : Bool := (closeP [closerP t.raw] L).isSome
theorem blkLen_bd (t : Tk) (L : List Tk) : 1 ≤ blkLen t L ∧ blkLen t L ≤ L.length + 1 := by
  unfold blkLen
  cases h : closeP [closerP t.raw] L with
  | none => simp
  | some e => have := close_le L _ e h; simp; omega
theorem block_is {L : List Tk} {i : Nat} {t : Tk} (h : L[i]? = some t) : blockP L i = (i + blkLen t (L.drop (i + 1)), blkOk t (L.drop (i + 1))) := by
  have hl := (List.getElem?_eq_some_iff.1 h).1
  unfold blockP blkLen blkOk
  rw [h]
  simp only [blk_close]
  cases closeP [closerP t.raw] (L.drop (i + 1)) with
  | none => simp [blkR, List.length_drop]; omega
  | some e => simp [blkR]; omega

/-- the first token outside of blocks for which it is so -/
def findP (p : Tk → Bool) : List Tk → Nat
  | [] => 0
  | t :: L => if p t then 0 else if opensP t then blkLen t L + findP p ((t :: L).drop (blkLen t L)) else 1 + findP p L
termination_by L => L.length
decreasing_by
  · have := blkLen_bd t L; simp; omega
  · simp
theorem findP_nil (p : Tk → Bool) : findP p [] = 0 := by rw [findP]
theorem findP_cons (p : Tk → Bool) (t : Tk) (L : List Tk) : findP p (t :: L) = if p t then 0 else if opensP t then blkLen t L + findP p ((t :: L).drop (blkLen t L)) else 1 + findP p L := by rw [findP]
theorem findP_le (p : Tk → Bool) : ∀ (n : Nat) (L : List Tk), L.length ≤ n → findP p L ≤ L.length
  | 0, L, h => by
    obtain rfl := List.eq_nil_of_length_eq_zero (Nat.le_zero.1 h)
    rw [findP_nil]; exact Nat.le_refl _
  | n + 1, [], h => by rw [findP_nil]; exact Nat.le_refl _
  | n + 1, t :: L, h => by
    rw [findP_cons]
    have hb := blkLen_bd t L
    simp only [List.length_cons] at h ⊢
    split
    · omega
    · split
      · have := findP_le p n ((t :: L).drop (blkLen t L)) (by rw [List.length_drop, List.length_cons]; omega)
        rw [List.length_drop, List.length_cons] at this
        omega
      · have := findP_le p n L (by omega)
        omega
theorem drop_at {L : List Tk} {i : Nat} {t : Tk} (h : L[i]? = some t) : L.drop i = t :: L.drop (i + 1) := by
  obtain ⟨hl, he⟩ := List.getElem?_eq_some_iff.1 h
  rw [List.drop_eq_getElem_cons hl, he]

end Go.Proofs.YtmjbaimccbkmpaaDoor.rul

namespace Go.Proofs.YtmjbaimccbkmpaaDoor.rul
open Go.RowKit Go.Proofs.YtmjbaimccbkmpaaDoor.base Go.Proofs.YtmjbaimccbkmpaaDoor.tok
set_option linter.unusedVariables false

/-- a slice of tokens -/
def TS (w : World) (v : Value) (L : List Tk) : Prop := ∃ A cap, v = .slice A L.length cap ∧ L.length ≤ cap ∧ TRd w w.heap.size A L.length L
theorem TS.on {w w' : World} {v : Value} {L : List Tk} (h : TS w v L) (hb : Below w.heap.size w w') : TS w' v L := by
  obtain ⟨A, cap, rfl, hc, hr⟩ := h
  exact ⟨A, cap, rfl, hc, Rd.keep hr hb hb.size⟩
theorem ts_cut {w : World} {A : Option Addr} {cap n i m : Nat} {L : List Tk} (h : TRd w w.heap.size A n L) (hc : n ≤ cap) (hm : i + m ≤ n) : TS w (.slice (addrAt 4 A cap i) m (cap - i)) ((L.drop i).take m) := by
  have hl : ((L.drop i).take m).length = m := by rw [List.length_take, List.length_drop, h.1]; omega
  refine ⟨addrAt 4 A cap i, cap - i, by rw [hl], by omega, ?_⟩
  rw [hl]
  exact rd_cut h hc hm
theorem ts_upto {w : World} {A : Option Addr} {cap n m : Nat} {L : List Tk} (h : TRd w w.heap.size A n L) (hc : n ≤ cap) (hm : m ≤ n) : TS w (.slice A m cap) (L.take m) := by
  have := ts_cut h hc (i := 0) (m := m) (by omega)
  rwa [addr_zero, Nat.sub_zero, List.drop_zero] at this
theorem ts_from {w : World} {A : Option Addr} {cap n i : Nat} {L : List Tk} (h : TRd w w.heap.size A n L) (hc : n ≤ cap) (hi : i ≤ n) : TS w (.slice (addrAt 4 A cap i) (n - i) (cap - i)) (L.drop i) := by
  have := ts_cut h hc (i := i) (m := n - i) (by omega)
  rwa [List.take_of_length_le (by rw [List.length_drop, h.1]; omega)] at this

/-- without what is silent at both ends -/
def endP (L : List Tk) : List Tk := (L.reverse.dropWhile silP).reverse
def solidP (L : List Tk) : List Tk := endP (L.dropWhile silP)
theorem endP_snoc (L : List Tk) (t : Tk) : endP (L ++ [t]) = if silP t then endP L else L ++ [t] := by
  unfold endP
  rw [List.reverse_append]
  simp only [List.reverse_cons, List.reverse_nil, List.nil_append, List.singleton_append, List.dropWhile_cons]
  split <;> simp
theorem endP_nil : endP [] = [] := rfl

def lenOf : Value → Nat
  | .slice _ n _ => n
  | _ => 0

end Go.Proofs.YtmjbaimccbkmpaaDoor.rul

namespace Go.Proofs.YtmjbaimccbkmpaaDoor.base
open Go.RowKit
set_option linter.unusedVariables false

theorem copyCheck_far (B b : Nat) (bs : List Value) (w : World) (h : Lib.IsBuilder 40 5 B b bs w) :
    Calls Tryd.prog 33 #[.pointer (some ⟨b, 0, none⟩)] w fun e w' => e = .returned (.tuple #[]) ∧ (Lib.BuilderAt 40 5 B b (.pointer (some ⟨b, 0, none⟩)) bs w' ∧ Below B w w' ∧ w.heap.size = w'.heap.size ∧ ∀ k, k ≠ b → w'.heap[k]? = w.heap[k]?) := by
  rcases h with h | h
  · refine (copyCheck_fresh b w h.cell0 h.shape h.frozen0).mono ?_
    rintro e w' ⟨rfl, rfl⟩
    exact ⟨rfl, h.used _, (Below.refl B w).setCell (p := ⟨b, 0, none⟩) h.1 _, (size_setCell _ _ _).symm, fun k hk => Below.heap_setCell w ⟨b, 0, none⟩ _ k hk⟩
  · refine (copyCheck_used b w h.cell0).mono ?_
    rintro e w' ⟨rfl, rfl⟩
    exact ⟨rfl, h, Below.refl B _, rfl, fun k hk => rfl⟩

/-- a row of another type lies in another block -/
theorem not_row {w : World} {base : Nat} {e : TypeId} {size n k : Nat} {v : Value} {xs : List Value} {t : TypeId} {cs : Array Value} (h : w.ownsRow base e size v n xs) (hk : Blk w k t cs) (ht : t ≠ e) : v.ownBlock ≠ some k := by
  intro hv
  rcases h.2 with ⟨rfl, _⟩ | ⟨g, cap, cur, rfl, _, hg, _⟩
  · simp [Value.ownBlock] at hv
  · simp [Value.ownBlock] at hv
    subst hv
    unfold Blk at hk
    rw [hg] at hk
    simp at hk
    exact ht hk.2.symm

set_option maxHeartbeats 2000000 in
set_option maxRecDepth 100000 in
theorem writeByte_far (B b : Nat) (bs : List Value) (c : Int) (w : World) (h : Lib.IsBuilder 40 5 B b bs w) (hlen : bs.length + 1 ≤ 140737488355328) (hBw : B ≤ w.heap.size) (kx : Nat) (tx : TypeId) (cx : Array Value) (hx : Blk w kx tx cx) (htx : tx ≠ 5) (hkx : kx ≠ b) :
    Calls Tryd.prog 58 #[.pointer (some ⟨b, 0, none⟩), .int .u8 c] w fun e w' => e = .returned .nilIface ∧ (Lib.BuilderAt 40 5 B b (.pointer (some ⟨b, 0, none⟩)) (bs ++ [.int .u8 c]) w' ∧ Below B w w' ∧ Blk w' kx tx cx) := by
  obtain ⟨i0, hi, hz0, hz1, hz2⟩ := info_parts infoByte
  go_enter Tryd.func58, Tryd.ntmps58
  go_wp2_with (go_at_call 33; refine (copyCheck_far B b bs _ h).mono ?_)
  rintro e w1 ⟨rfl, h1, hb1, hsz, hfar⟩
  have hx1 : Blk w1 kx tx cx := (hfar kx hkx).trans hx
  clear hfar
  obtain ⟨hB, v, hbk, hown, hne⟩ := h1
  have HX := Lib.hid hx1
  have HN := Lib.hid (not_row hown hx1 htx)
  have HS := Lib.hid hsz
  clear hx hx1 hsz
  have c0 : w1.cell? ⟨b, 0, none⟩ = some (.pointer (some ⟨b, 0, none⟩)) := by rw [Lib.cell_of_heap hbk]; rfl
  have c1 : w1.cell? ⟨b, 1, none⟩ = some v := by rw [Lib.cell_of_heap hbk]; rfl
  go_wp2_with (at_builtin; refine wpList_append_own _ rfl _ _ 34 rfl B 5 i0 (.int .u8 0) 1 1 Tryd.underlying34 hi hz0 hz1 hz2 rfl (by decide) _ _ _ rfl (hown.alloc _) ⟨w1.heap.size, 0, none⟩ 1 1 [.int .u8 c] rfl rfl ?c1 ?c2 ?c3 ?c4 ?c5 ?_)
  case c1 =>
    intro j u hj
    match j, hj with
    | 0, hj => simp at hj; subst hj; simp [Addr.add]
  case c2 => intro u hu; simp at hu; subst hu; rfl
  case c3 => unfold maxLen; omega
  case c4 => omega
  case c5 => have := hb1.size; simp; omega
  intro v' w2 hown' hgrow _
  have hlt : b < w1.heap.size := by
    rcases Nat.lt_or_ge b w1.heap.size with h' | h'
    · exact h'
    · simp [Array.getElem?_eq_none h'] at hbk
  have hb2 : w2.heap[b]? = some (.cells #[.pointer (some ⟨b, 0, none⟩), v] 40 (0, 0)) := by
    rw [hgrow.block b (by simp; omega) (fun e => hne e.symm), Lib.alloc_old w1 _ b hlt]
    exact hbk
  have d0 : w2.cell? ⟨b, 0, none⟩ = some (.pointer (some ⟨b, 0, none⟩)) := by rw [Lib.cell_of_heap hb2]; rfl
  have d1 : w2.cell? ⟨b, 1, none⟩ = some v := by rw [Lib.cell_of_heap hb2]; rfl
  have f1 : w2.frozen? ⟨b, 1, none⟩ = false := Lib.frozen_of_heap hb2 1
  obtain ⟨g, cap, rfl⟩ : ∃ g cap, v' = .slice (some ⟨g, 0, none⟩) (bs.length + 1) cap := by
    rcases hown'.2 with ⟨_, h0⟩ | ⟨g, cap, cur, hv, _⟩
    · omega
    · exact ⟨g, cap, hv⟩
  go_wp2
  go_ret
  refine ⟨rfl, ?_, ?_, ?_⟩
  · exact Lib.BuilderAt.put (T := 40) (e := 5) hB hb2 (bs' := bs ++ [.int .u8 c]) (by simpa using hown') (by decide)
  · exact ((hb1.alloc (by have := hb1.size; omega) _).grown hgrow (by have := hb1.size; simp; omega) (fun k hk => (hown.lt k hk).1)).setCell (p := ⟨b, 1, none⟩) hB _
  · have h2 : Blk w2 kx tx cx := (hgrow.block kx (by have := HX.out.lt; simp; omega) (fun e => HN.out e.symm)).trans (HX.out.alloc _)
    exact h2.far hkx _

set_option maxHeartbeats 2000000 in
set_option maxRecDepth 100000 in
theorem writeString_far (B b : Nat) (bs : List Value) (s : ByteArray) (w : World) (h : Lib.IsBuilder 40 5 B b bs w) (hlen : bs.length + s.size ≤ 140737488355328) (hBw : B ≤ w.heap.size) (kx : Nat) (tx : TypeId) (cx : Array Value) (hx : Blk w kx tx cx) (htx : tx ≠ 5) (hkx : kx ≠ b) :
    Calls Tryd.prog 14 #[.pointer (some ⟨b, 0, none⟩), .string s] w fun e w' => e = .returned (.tuple #[.int .i64 s.size, .nilIface]) ∧ (Lib.BuilderAt 40 5 B b (.pointer (some ⟨b, 0, none⟩)) (bs ++ Lib.strCells s) w' ∧ Below B w w' ∧ Blk w' kx tx cx) := by
  obtain ⟨i0, hi, hz0, hz1, hz2⟩ := info_parts infoByte
  go_enter Tryd.func14, Tryd.ntmps14
  go_wp2_with (go_at_call 33; refine (copyCheck_far B b bs _ h).mono ?_)
  rintro e w1 ⟨rfl, h1, hb1, hsz, hfar⟩
  have hx1 : Blk w1 kx tx cx := (hfar kx hkx).trans hx
  clear hfar
  obtain ⟨hB, v, hbk, hown, hne⟩ := h1
  have HX := Lib.hid hx1
  have HN := Lib.hid (not_row hown hx1 htx)
  have HS := Lib.hid hsz
  clear hx hx1 hsz
  have c0 : w1.cell? ⟨b, 0, none⟩ = some (.pointer (some ⟨b, 0, none⟩)) := by rw [Lib.cell_of_heap hbk]; rfl
  have c1 : w1.cell? ⟨b, 1, none⟩ = some v := by rw [Lib.cell_of_heap hbk]; rfl
  go_wp2_with (at_builtin; refine Lib.wpList_append_own_string _ rfl _ _ 34 9 rfl B 5 i0 Tryd.underlying34 Tryd.underlying9 hi hz0 hz1 hz2 _ _ _ rfl hown s rfl ?c3 ?c4 ?c5 ?_)
  case c3 => unfold maxLen; omega
  case c4 => omega
  case c5 => have := hb1.size; omega
  intro v' w2 hown' hgrow _
  have hlt : b < w1.heap.size := by
    rcases Nat.lt_or_ge b w1.heap.size with h' | h'
    · exact h'
    · simp [Array.getElem?_eq_none h'] at hbk
  have hb2 : w2.heap[b]? = some (.cells #[.pointer (some ⟨b, 0, none⟩), v] 40 (0, 0)) := by
    rw [hgrow.block b hlt (fun e => hne e.symm)]
    exact hbk
  have d0 : w2.cell? ⟨b, 0, none⟩ = some (.pointer (some ⟨b, 0, none⟩)) := by rw [Lib.cell_of_heap hb2]; rfl
  have d1 : w2.cell? ⟨b, 1, none⟩ = some v := by rw [Lib.cell_of_heap hb2]; rfl
  have f1 : w2.frozen? ⟨b, 1, none⟩ = false := Lib.frozen_of_heap hb2 1
  obtain ⟨ao, n', cap, rfl⟩ : ∃ ao n' cap, v' = .slice ao n' cap := by
    rcases hown'.2 with ⟨hv, _⟩ | ⟨g, cap, cur, hv, _⟩
    · exact ⟨_, _, _, hv⟩
    · exact ⟨_, _, _, hv⟩
  go_wp2
  go_ret2
  refine ⟨rfl, ?_, ?_, ?_⟩
  · exact Lib.BuilderAt.put (T := 40) (e := 5) hB hb2 (bs' := bs ++ Lib.strCells s) (by simpa [Lib.strCells_length] using hown') (by decide)
  · exact (hb1.grown hgrow (by have := hb1.size; omega) (fun k hk => (hown.lt k hk).1)).setCell (p := ⟨b, 1, none⟩) hB _
  · have h2 : Blk w2 kx tx cx := (hgrow.block kx HX.out.lt (fun e => HN.out e.symm)).trans HX.out
    exact h2.far hkx _

/-- WriteByte, on lists of bytes -/
theorem writeByte_on (B b : Nat) (l : List UInt8) (c : UInt8) (w : World) (h : IsB B b l w) (hlen : l.length + 1 ≤ 140737488355328) (hBw : B ≤ w.heap.size) (kx : Nat) (tx : TypeId) (cx : Array Value) (hx : Blk w kx tx cx) (htx : tx ≠ 5) (hkx : kx ≠ b) :
    Calls Tryd.prog 58 #[.pointer (some ⟨b, 0, none⟩), .int .u8 (c.toNat : Int)] w fun e w' => e = .returned .nilIface ∧ IsB B b (l ++ [c]) w' ∧ Below B w w' ∧ Blk w' kx tx cx :=
  (writeByte_far B b _ _ w h (by rw [Lib.byteCells_length]; exact hlen) hBw kx tx cx hx htx hkx).mono fun e w' ⟨he, h1, h2, h3⟩ => ⟨he, Or.inr (by simpa [Lib.byteCells] using h1), h2, h3⟩
/-- WriteString, on lists of bytes -/
theorem writeString_on (B b : Nat) (l : List UInt8) (s : ByteArray) (w : World) (h : IsB B b l w) (hlen : l.length + s.size ≤ 140737488355328) (hBw : B ≤ w.heap.size) (kx : Nat) (tx : TypeId) (cx : Array Value) (hx : Blk w kx tx cx) (htx : tx ≠ 5) (hkx : kx ≠ b) :
    Calls Tryd.prog 14 #[.pointer (some ⟨b, 0, none⟩), .string s] w fun e w' => e = .returned (.tuple #[.int .i64 s.size, .nilIface]) ∧ IsB B b (l ++ s.data.toList) w' ∧ Below B w w' ∧ Blk w' kx tx cx :=
  (writeString_far B b _ s w h (by rw [Lib.byteCells_length]; exact hlen) hBw kx tx cx hx htx hkx).mono fun e w' ⟨he, h1, h2, h3⟩ => ⟨he, Or.inr (by simpa [Lib.byteCells, Lib.strCells] using h1), h2, h3⟩

end Go.Proofs.YtmjbaimccbkmpaaDoor.base

namespace Go.Proofs.YtmjbaimccbkmpaaDoor.rul
open Go.RowKit Go.Proofs.YtmjbaimccbkmpaaDoor.base Go.Proofs.YtmjbaimccbkmpaaDoor.tok
set_option linter.unusedVariables false

/-- the text of tokens, with one blank for all that is silent in a row -/
def headF : List Tk → Bs → Bool → Bs
  | [], out, _ => out
  | t :: L, out, gap => if silP t then headF L out (decide (0 < out.length)) else headF L ((if gap then out ++ [32] else out) ++ t.raw) false
def headP (L : List Tk) : Bs := headF L [] false

theorem len_ct (B b : Nat) (l : Bs) (w : World) (h : IsB B b l w) :
    Calls Tryd.prog 17 #[.pointer (some ⟨b, 0, none⟩)] w fun e w' => e = .returned (.int .i64 l.length) ∧ w = w' :=
  (Tryd.Builder_Len B b _ w h).mono fun e w' ⟨he, hw⟩ => ⟨by rw [he, Lib.byteCells_length], hw.symm⟩

theorem wb32 (B b : Nat) (l : List UInt8) (w : World) (h : IsB B b l w) (hlen : l.length + 1 ≤ 140737488355328) (hBw : B ≤ w.heap.size) (kx : Nat) (tx : TypeId) (cx : Array Value) (hx : Blk w kx tx cx) (htx : tx ≠ 5) (hkx : kx ≠ b) :
    Calls Tryd.prog 58 #[.pointer (some ⟨b, 0, none⟩), .int .u8 32] w fun e w' => e = .returned .nilIface ∧ IsB B b (l ++ [32]) w' ∧ Below B w w' ∧ Blk w' kx tx cx := writeByte_on B b l 32 w h hlen hBw kx tx cx hx htx hkx

def HeadRel (L : List Tk) (R : Bs) (w : World) (g i : Value) (wr : World) : Prop :=
  ∃ (k : Nat) (out : Bs) (gap : Bool), k ≤ L.length ∧ g = .bool gap ∧ i = .int .i64 k ∧ headF (L.drop k) out gap = R ∧ out.length ≤ (textOf (L.take k)).length + k ∧ IsB w.heap.size w.heap.size out wr ∧ Below w.heap.size w wr ∧ w.heap.size < wr.heap.size

set_option maxRecDepth 100000 in
set_option maxHeartbeats 4000000 in
theorem head_ct (v : Value) (L : List Tk) (w : World) (hn : L.length ≤ 1000000) (hL : TS w v L) (hT : (textOf L).length ≤ 1000000) :
    Calls Tryd.prog 36 #[v] w fun e w' => e = .returned (.string (bs (headP L))) ∧ Below w.heap.size w w' := by
  obtain ⟨A, cap, rfl, hc, hrd⟩ := hL
  have HL := Lib.hid hrd
  clear hrd
  generalize hR : headP L = R
  have HR := Lib.hid hR
  clear hR
  go_enter Tryd.func36, Tryd.ntmps36
  go_wp2_with fail
  go_loopw [4, 9] (fun g i wr => HeadRel L R w g i wr) (fun _ i _ => L.length - (intOf i).toNat)
  case atStart => exact ⟨0, [], false, by omega, rfl, rfl, HR.out, by simp, IsB.new w _ (Nat.le_refl _), (Below.refl _ _).alloc (Nat.le_refl _) _, by simp⟩
  case round =>
    obtain ⟨k, out, gap, hk, rfl, rfl, hinv, hol, hib, hbel, hwz⟩ := hrel
    obtain ⟨wo, hwo⟩ : ∃ wo, wo = wr := ⟨_, rfl⟩
    subst hwo
    have HBl := Lib.hid hbel
    have HIb := Lib.hid hib
    have HInv := Lib.hid hinv
    have hpart := text_part (L := L) k
    have hol2 : out.length ≤ 2000000 := by omega
    clear hib hinv HR
    by_cases hlt : k < L.length
    · have hlt' : (k : Int) < (L.length : Int) := by omega
      obtain ⟨b, off, t, rfl, hb, hd, e0, e1, e2, e3⟩ := TRd.tok (HL.out.keep hbel hbel.size) hlt
      have hst := text_step hd
      have hpart2 := text_part (L := L) (k + 1)
      have hcons : L.drop k = t :: L.drop (k + 1) := drop_at hd
      have HC := Lib.hid hcons
      have Hst := Lib.hid (show (textOf (L.take (k + 1))).length = (textOf (L.take k)).length + t.raw.length by rw [hst, List.length_append])
      have hrl : t.raw.length ≤ 1000000 := by have := Hst.out; omega
      have Hol := Lib.hid hol
      obtain ⟨tk, tr, tv, tn⟩ := t
      simp only at e0 e1 e2 e3 hrl
      clear hbel hd hst hcons hpart hpart2 hol
      go_wp2_with fail
      generalize hV : wo.alloc (.cells #[.int .i64 tk, .string (bs tr), .string (bs tv), .int .i64 tn] 43) = V
      have HV := Lib.hid (show Below w.heap.size w V by subst hV; exact HBl.out.alloc HBl.out.size _)
      have hV1 := (show Blk V wo.heap.size 43 #[.int .i64 tk, .string (bs tr), .string (bs tv), .int .i64 tn] by subst hV; exact Blk.new rfl)
      have cV := hV1.cell
      have HBk := Lib.hid hV1
      have HIV := Lib.hid (show IsB w.heap.size w.heap.size out V by subst hV; exact HIb.out.on ((Below.refl _ _).alloc (Nat.le_refl _) _))
      have zV : wo.heap.size < V.heap.size := by subst hV; simp
      clear hV hV1 e0 e1 e2 e3 HIb HBl
      cases hs : silP ⟨tk, tr, tv, tn⟩
      · have cS := Lib.hid (fun w => asks_at silent_ct hs w)
        cases gap
        · have HNew := Lib.hid (show headF (L.drop (k + 1)) (out ++ tr) false = R by rw [← HInv.out, HC.out]; simp only [headF, hs]; rfl)
          clear hs
          go_wp2_with (first
            | (go_at_call 57; (with_reducible refine (cS.out _).mono ?_); rintro e W1 ⟨rfl, hb1⟩; have HB1 := Lib.hid (HV.out.trans (hb1.mono HV.out.size)); have hk1 := HBk.out.below hb1 HBk.out.lt; have c1 := hk1.cell; have HK1 := Lib.hid hk1; have HI1 := Lib.hid (HIV.out.on hb1); clear hb1 hk1 cV)
            | (go_at_call 14; (with_reducible refine (writeString_on w.heap.size w.heap.size out (bs tr) _ HI1.out (by rw [bs_size]; omega) HB1.out.size wo.heap.size 43 _ HK1.out (by decide) (by omega)).mono ?_); rintro e W2 ⟨rfl, hi2, hb2, hk2⟩; have HI2 := Lib.hid hi2; have HB2 := Lib.hid (HB1.out.trans hb2); have hz2 := hk2.lt; clear hi2 hb2 hk2))
          go_roundw
          case rel => exact ⟨k + 1, out ++ tr, false, by omega, rfl, by go_num, HNew.out, by rw [Hst.out, List.length_append]; have := Hol.out; omega, HI2.out, HB2.out, by omega⟩
          case measure => simp [intOf]; omega
        · have HNew := Lib.hid (show headF (L.drop (k + 1)) ((out ++ [32]) ++ tr) false = R by rw [← HInv.out, HC.out]; simp only [headF, hs]; rfl)
          clear hs
          go_wp2_with (first
            | (go_at_call 57; (with_reducible refine (cS.out _).mono ?_); rintro e W1 ⟨rfl, hb1⟩; have HB1 := Lib.hid (HV.out.trans (hb1.mono HV.out.size)); have hk1 := HBk.out.below hb1 HBk.out.lt; have HK1 := Lib.hid hk1; have HI1 := Lib.hid (HIV.out.on hb1); clear hb1 hk1 cV)
            | (go_at_call 58; (with_reducible refine (wb32 w.heap.size w.heap.size out _ HI1.out (by omega) HB1.out.size wo.heap.size 43 _ HK1.out (by decide) (by omega)).mono ?_); rintro e W3 ⟨rfl, hi3, hb3, hk3⟩; have HI3 := Lib.hid hi3; have HB3 := Lib.hid (HB1.out.trans hb3); have c3 := hk3.cell; have HK3 := Lib.hid hk3; clear hi3 hb3 hk3)
            | (go_at_call 14; (with_reducible refine (writeString_on w.heap.size w.heap.size (out ++ [32]) (bs tr) _ HI3.out (by rw [bs_size]; simp; omega) HB3.out.size wo.heap.size 43 _ HK3.out (by decide) (by omega)).mono ?_); rintro e W2 ⟨rfl, hi2, hb2, hk2⟩; have HI2 := Lib.hid hi2; have HB2 := Lib.hid (HB3.out.trans hb2); have hz2 := hk2.lt; clear hi2 hb2 hk2))
          go_roundw
          case rel => exact ⟨k + 1, (out ++ [32]) ++ tr, false, by omega, rfl, by go_num, HNew.out, by rw [Hst.out, List.length_append, List.length_append]; have := Hol.out; simp; omega, HI2.out, HB2.out, by omega⟩
          case measure => simp [intOf]; omega
      · have cS := Lib.hid (fun w => asks_at silent_ct hs w)
        have HNew := Lib.hid (show headF (L.drop (k + 1)) out (decide (0 < out.length)) = R by rw [← HInv.out, HC.out]; simp only [headF, hs]; rfl)
        clear hs
        go_wp2_with (first
          | (go_at_call 57; (with_reducible refine (cS.out _).mono ?_); rintro e W1 ⟨rfl, hb1⟩; have HB1 := Lib.hid (HV.out.trans (hb1.mono HV.out.size)); have HI1 := Lib.hid (HIV.out.on hb1); have hz1 := hb1.size; clear hb1 cV)
          | (go_at_call 17; (with_reducible refine (len_ct w.heap.size w.heap.size out _ HI1.out).mono ?_); rintro e W2 ⟨rfl, rfl⟩))
        go_roundw
        case rel => exact ⟨k + 1, out, decide (0 < out.length), by omega, by simp, by go_num, HNew.out, by rw [Hst.out]; have := Hol.out; omega, HI1.out, HB1.out, by omega⟩
        case measure => simp [intOf]; omega
    · obtain rfl : k = L.length := by omega
      have HFin := Lib.hid (show R = out by rw [← HInv.out, List.drop_length]; rfl)
      clear hbel hpart hol
      go_wp2_with ((go_at_call 18; (with_reducible refine (builderString_ct _ _ _ _ HIb.out HBl.out.size).mono ?_); rintro e w1 ⟨rfl, hb1⟩; have HB1 := Lib.hid (HBl.out.trans hb1); clear hb1))
      go_ret
      exact ⟨by rw [HFin.out]; rfl, HB1.out⟩

end Go.Proofs.YtmjbaimccbkmpaaDoor.rul

namespace Go.Proofs.YtmjbaimccbkmpaaDoor.tok
open Go.RowKit Go.Proofs.YtmjbaimccbkmpaaDoor.base
set_option linter.unusedVariables false

/-! ### Names -/
theorem esc_take {l : Bs} {m : Nat} (h : escP (l.take m) = true) : escP l = true := by
  match l, m, h with
  | [], _, h => simpa using h
  | [c], 0, h => simp [escP] at h
  | [c], m + 1, h => simp [escP] at h
  | c :: d :: r, 0, h => simp [escP] at h
  | c :: d :: r, 1, h => simp [escP] at h
  | c :: d :: r, m + 2, h => simpa [escP] using h
theorem esc_take2 {l : Bs} {m : Nat} (hm : 2 ≤ m) : escP (l.take m) = escP l := by
  match l, m, hm with
  | [], _, _ => simp
  | [c], m + 2, _ => simp [escP]
  | c :: d :: r, m + 2, _ => simp [escP]

theorem name_cons1 (c : UInt8) : nameP [c] = if signI (nv c) then ([c], 1) else ([], 0) := by rw [nameP]
theorem name_cons2 (c d : UInt8) (r : Bs) : nameP (c :: d :: r) = if escP (c :: d :: r) then (d :: (nameP r).1, (nameP r).2 + 2) else if signI (nv c) then (c :: (nameP (d :: r)).1, (nameP (d :: r)).2 + 1) else ([], 0) := by rw [nameP]
theorem name_nil : nameP [] = ([], 0) := by rw [nameP]

/-- a name is read the same of any prefix that holds it -/
theorem name_take : ∀ (n : Nat) (l : Bs) (m : Nat), l.length ≤ n → (nameP l).2 ≤ m → nameP (l.take m) = nameP l
  | 0, l, m, h, hm => by
    obtain rfl := List.eq_nil_of_length_eq_zero (Nat.le_zero.1 h)
    simp
  | n + 1, [], m, h, hm => by simp
  | n + 1, [c], m, h, hm => by
    rw [name_cons1] at hm ⊢
    by_cases hs : signI (nv c) = true
    · rw [if_pos hs] at hm ⊢
      obtain ⟨k, rfl⟩ : ∃ k, m = k + 1 := ⟨m - 1, by simp at hm; omega⟩
      simp [name_cons1, hs]
    · rw [if_neg hs]
      cases m with
      | zero => simp [name_nil]
      | succ m => simp [name_cons1, hs]
  | n + 1, c :: d :: r, m, h, hm => by
    rw [name_cons2] at hm ⊢
    by_cases he : escP (c :: d :: r) = true
    · rw [if_pos he] at hm ⊢
      obtain ⟨k, rfl⟩ : ∃ k, m = k + 2 := ⟨m - 2, by simp at hm; omega⟩
      have ih := name_take n r k (by simp at h; omega) (by simp at hm; omega)
      have he2 : escP (c :: d :: r.take k) = true := by simpa [escP] using he
      simp only [List.take_succ_cons]
      rw [name_cons2, if_pos he2, ih]
    · rw [if_neg he] at hm ⊢
      by_cases hs : signI (nv c) = true
      · rw [if_pos hs] at hm ⊢
        obtain ⟨k, rfl⟩ : ∃ k, m = k + 1 := ⟨m - 1, by simp at hm; omega⟩
        have ih := name_take n (d :: r) k (by simp at h ⊢; omega) (by simp at hm; omega)
        have he2 : ¬ escP ((c :: d :: r).take (k + 1)) = true := fun h2 => he (esc_take h2)
        cases k with
        | zero =>
          simp only [Nat.zero_add, List.take_succ_cons, List.take_zero] at ih ⊢
          rw [name_cons1, if_pos hs]
          rw [name_nil] at ih
          rw [← ih]
        | succ k =>
          simp only [List.take_succ_cons] at ih he2 ⊢
          rw [name_cons2, if_neg he2, if_pos hs, ih]
      · rw [if_neg hs]
        match m with
        | 0 => simp [name_nil]
        | 1 => simp [name_cons1, hs]
        | k + 2 =>
          have he2 : ¬ escP ((c :: d :: r).take (k + 2)) = true := fun h2 => he (esc_take h2)
          simp only [List.take_succ_cons] at he2 ⊢
          rw [name_cons2, if_neg he2, if_neg hs]
theorem name_take' (l : Bs) (m : Nat) (hm : (nameP l).2 ≤ m) : nameP (l.take m) = nameP l := name_take _ l m (Nat.le_refl _) hm

/-- .. and so does a name begin it -/
theorem begins_take {l : Bs} {m : Nat} (h : beginsP l = true) (hm : (nameP l).2 ≤ m) : beginsP (l.take m) = true := by
  match l, h, hm with
  | [c], h, hm =>
    have := name_pos h
    obtain ⟨k, rfl⟩ : ∃ k, m = k + 1 := ⟨m - 1, by omega⟩
    simpa using h
  | c :: d :: r, h, hm =>
    rw [name_cons2] at hm
    by_cases he : escP (c :: d :: r) = true
    · rw [if_pos he] at hm
      obtain ⟨k, rfl⟩ : ∃ k, m = k + 2 := ⟨m - 2, by simp at hm; omega⟩
      have he2 : escP (c :: d :: r.take k) = true := by simpa [escP] using he
      have h45 : ¬ nv c = 45 := by
        simp [escP] at he
        omega
      simp only [List.take_succ_cons, beginsP, if_neg h45, he2, Bool.or_true]
    · rw [if_neg he] at hm
      simp only [beginsP] at h
      by_cases h45 : nv c = 45
      · have hs : signI (nv c) = true := by simp [signI, h45]
        rw [if_pos hs] at hm
        rw [if_pos h45] at h
        obtain ⟨k, rfl⟩ : ∃ k, m = k + 1 := ⟨m - 1, by simp at hm; omega⟩
        have hd : signI (nv d) = true ∨ escP (d :: r) = true := by
          simp only [Bool.or_eq_true, decide_eq_true_eq] at h
          rcases h with (h | h) | h
          · left; simp [signI, h]
          · left; simp [signI, h]
          · right; exact h
        have hp : 0 < (nameP (d :: r)).2 := by
          cases r with
          | nil =>
            rw [name_cons1]
            rcases hd with hd | hd
            · simp [hd]
            · simp [escP] at hd
          | cons e r =>
            rw [name_cons2]
            split
            · simp
            · rename_i hne
              rcases hd with hd | hd
              · simp [hd]
              · exact absurd hd hne
        simp at hm
        obtain ⟨j, rfl⟩ : ∃ j, k = j + 1 := ⟨k - 1, by omega⟩
        simp only [List.take_succ_cons, beginsP, if_pos h45]
        simp only [Bool.or_eq_true, decide_eq_true_eq] at h ⊢
        rcases h with h | h
        · exact Or.inl h
        · right
          cases r with
          | nil => simp [escP] at h
          | cons e r =>
            have hj : 1 ≤ j := by
              rw [name_cons2, if_pos h] at hm
              simp at hm
              omega
            obtain ⟨i, rfl⟩ : ∃ i, j = i + 1 := ⟨j - 1, by omega⟩
            simpa [escP] using h
      · rw [if_neg h45] at h
        simp only [Bool.or_eq_true] at h
        have hst : startsI (nv c) = true := h.resolve_right he
        have hs : signI (nv c) = true := by simp [signI, hst]
        rw [if_pos hs] at hm
        obtain ⟨k, rfl⟩ : ∃ k, m = k + 1 := ⟨m - 1, by simp at hm; omega⟩
        cases k with
        | zero => simp [beginsP, hst]
        | succ k => simp [beginsP, h45, hst]

end Go.Proofs.YtmjbaimccbkmpaaDoor.tok

namespace Go.Proofs.YtmjbaimccbkmpaaDoor.tok
open Go.RowKit Go.Proofs.YtmjbaimccbkmpaaDoor.base
set_option linter.unusedVariables false

theorem while_take (p : UInt8 → Bool) : ∀ (l : Bs) (k : Nat), ((l.take k).takeWhile p).length = min (l.takeWhile p).length k
  | [], k => by simp
  | c :: l, 0 => by simp
  | c :: l, k + 1 => by
    simp only [List.take_succ_cons, List.takeWhile_cons]
    cases p c
    · simp
    · simp only [if_true, List.length_cons]
      rw [while_take p l k]
      omega
theorem digits_take (l : Bs) (k : Nat) : digitsP (l.take k) = min (digitsP l) k := while_take _ l k
theorem space_take (l : Bs) (k : Nat) : spaceP (l.take k) = min (spaceP l) k := while_take _ l k
theorem sign_take {l : Bs} {m : Nat} (hm : 0 < m) : signAt (l.take m) = signAt l ∧ negP (l.take m) = negP l := by
  obtain ⟨k, rfl⟩ : ∃ k, m = k + 1 := ⟨m - 1, by omega⟩
  cases l with
  | nil => simp
  | cons c r => exact ⟨rfl, rfl⟩
theorem behind_take0 {x : Bs} (h : behindP x = 0) (k : Nat) : behindP (x.take k) = 0 := by
  cases x with
  | nil => simp [behindP]
  | cons c t =>
    cases k with
    | zero => simp [behindP]
    | succ k =>
      simp only [List.take_succ_cons, behindP] at h ⊢
      split
      · rename_i h46
        rw [if_pos h46] at h
        rw [digits_take, h]
        simp
      · rfl
theorem behind_take1 {x : Bs} {k : Nat} (h : behindP x ≠ 0) (hk : 1 + behindP x ≤ k) : behindP (x.take k) = behindP x := by
  cases x with
  | nil => simp [behindP] at h
  | cons c t =>
    obtain ⟨j, rfl⟩ : ∃ j, k = j + 1 := ⟨k - 1, by omega⟩
    simp only [List.take_succ_cons, behindP] at h hk ⊢
    split
    · rename_i h46
      rw [if_pos h46] at hk
      rw [digits_take]
      omega
    · rfl

theorem num_end (l : Bs) (f wh be : Nat) (neg : Bool) : (numAt l f wh be neg).2 = if wh + be = 0 then 0 else f + wh + if be = 0 then 0 else 1 + be := by
  unfold numAt
  split <;> rfl

/-- a number is read the same of any prefix that holds it -/
theorem number_take {l : Bs} {m : Nat} (h0 : 0 < (numberP l).2) (hm : (numberP l).2 ≤ m) : numberP (l.take m) = numberP l := by
  obtain ⟨hs, hn⟩ := sign_take (l := l) (m := m) (by omega)
  have he := num_end l (signAt l) (digitsP (l.drop (signAt l))) (behindP (l.drop (signAt l + digitsP (l.drop (signAt l))))) (negP l)
  unfold numberP at h0 hm ⊢
  rw [he] at h0 hm
  rw [hs, hn]
  generalize signAt l = f at *
  generalize hwh : digitsP (l.drop f) = wh at *
  generalize hbe : behindP (l.drop (f + wh)) = be at *
  have hz : ¬ wh + be = 0 := by
    intro hz
    rw [if_pos hz] at h0
    omega
  rw [if_neg hz] at hm h0
  have hm2 : f + wh ≤ m := by split at hm <;> omega
  have e1 : digitsP ((l.take m).drop f) = wh := by
    rw [List.drop_take, digits_take, hwh]
    omega
  rw [e1]
  have e2 : behindP ((l.take m).drop (f + wh)) = be := by
    rw [List.drop_take]
    by_cases hb : be = 0
    · rw [hb]
      exact behind_take0 (by rw [hbe, hb]) _
    · rw [if_neg hb] at hm
      rw [behind_take1 (by rw [hbe]; exact hb) (by rw [hbe]; omega), hbe]
  rw [e2]
  unfold numAt
  rw [if_neg hz, if_neg hz]
  have e3 : sumP (l.take m) f wh be = sumP l f wh be := by
    unfold sumP
    have a1 : ((l.take m).drop f).take wh = (l.drop f).take wh := by
      rw [List.drop_take, List.take_take, Nat.min_eq_left (by omega)]
    have a2 : ((l.take m).drop (f + wh + 1)).take be = (l.drop (f + wh + 1)).take be := by
      by_cases hb : be = 0
      · rw [hb]; simp
      · rw [if_neg hb] at hm
        rw [List.drop_take, List.take_take, Nat.min_eq_left (by omega)]
    rw [a1, a2]
  rw [e3]

/-- what is no number has no prefix that is one -/
theorem number_take0 {l : Bs} (h0 : (numberP l).2 = 0) (m : Nat) : (numberP (l.take m)).2 = 0 := by
  cases m with
  | zero => rfl
  | succ m =>
    obtain ⟨hs, hn⟩ := sign_take (l := l) (m := m + 1) (by omega)
    have he := num_end l (signAt l) (digitsP (l.drop (signAt l))) (behindP (l.drop (signAt l + digitsP (l.drop (signAt l))))) (negP l)
    unfold numberP at h0 ⊢
    rw [he] at h0
    rw [hs, hn, num_end]
    generalize signAt l = f at *
    generalize hwh : digitsP (l.drop f) = wh at *
    generalize hbe : behindP (l.drop (f + wh)) = be at *
    have hz : wh + be = 0 := by
      rcases Nat.eq_zero_or_pos (wh + be) with h | h
      · exact h
      · rw [if_neg (by omega)] at h0
        split at h0 <;> omega
    have hwz : wh = 0 := by omega
    have e1 : digitsP ((l.take (m + 1)).drop f) = 0 := by
      rw [List.drop_take, digits_take, hwh, hwz]
      simp
    rw [e1]
    have e2 : behindP ((l.take (m + 1)).drop (f + 0)) = 0 := by
      rw [List.drop_take]
      have : behindP (l.drop (f + 0)) = 0 := by
        rw [hwz] at hbe
        rw [hbe]
        omega
      exact behind_take0 this _
    rw [e2]
    simp

theorem textR_nil (q : UInt8) : textR q [] = (6, 0, []) := by rw [textR]
theorem textR_one (q c : UInt8) : textR q [c] = if nv c = nv q then (5, 1, []) else if nv c = 10 then (6, 0, []) else (6, 1, [c]) := by rw [textR]
theorem textR_two (q c d : UInt8) (r : Bs) : textR q (c :: d :: r) = if nv c = nv q then (5, 1, []) else if nv c = 10 then (6, 0, []) else
      if nv c = 92 then ((textR q r).1, (textR q r).2.1 + 2, d :: (textR q r).2.2) else ((textR q (d :: r)).1, (textR q (d :: r)).2.1 + 1, c :: (textR q (d :: r)).2.2) := by rw [textR]
/-- what is between quotes is read the same without what follows -/
theorem textR_take (q : UInt8) : ∀ (n : Nat) (l : Bs), l.length ≤ n → textR q (l.take (textR q l).2.1) = textR q l
  | 0, l, h => by
    obtain rfl := List.eq_nil_of_length_eq_zero (Nat.le_zero.1 h)
    simp
  | n + 1, [], h => by simp
  | n + 1, [c], h => by
    rw [textR_one]
    split
    · rename_i hq
      simp [textR_one, hq]
    · split
      · simp [textR_nil]
      · rename_i hq hn
        simp [textR_one, hq, hn]
  | n + 1, c :: d :: r, h => by
    rw [textR_two]
    split
    · rename_i hq
      simp [textR_one, hq]
    · rename_i hq
      split
      · simp [textR_nil]
      · rename_i hn
        split
        · rename_i hb
          have ih := textR_take q n r (by simp at h; omega)
          simp only [List.take_succ_cons]
          rw [textR_two, if_neg hq, if_neg hn, if_pos hb, ih]
        · rename_i hb
          have ih := textR_take q n (d :: r) (by simp at h ⊢; omega)
          simp only [List.take_succ_cons]
          generalize textR q (d :: r) = T at *
          obtain ⟨k, j, v⟩ := T
          simp only at ih ⊢
          cases j with
          | zero =>
            simp only [List.take_zero] at ih ⊢
            rw [textR_nil] at ih
            rw [textR_one, if_neg hq, if_neg hn]
            simp only [Prod.mk.injEq] at ih
            obtain ⟨rfl, _, rfl⟩ := ih
            rfl
          | succ j =>
            simp only [List.take_succ_cons] at ih ⊢
            rw [textR_two, if_neg hq, if_neg hn, if_neg hb, ih]

theorem prefix_take {l sub : Bs} {m : Nat} (h : sub.isPrefixOf (l.take m) = true) : sub.isPrefixOf l = true := by
  rw [List.isPrefixOf_iff_prefix] at h ⊢
  exact h.trans (List.take_prefix _ _)
/-- the place of a remark's end, in the remark alone -/
theorem index_take {s : Bs} {i : Nat} (h : Lib.index s [42, 47] = (i : Int)) : Lib.index (s.take (i + 2)) [42, 47] = (i : Int) := by
  rcases Lib.index_spec s [42, 47] with ⟨h1, _⟩ | ⟨j, hj, hjl, hocc, hno⟩
  · omega
  · obtain rfl : j = i := by omega
    have hr := Lib.index_room s [42, 47] (by omega)
    simp only [List.length_cons, List.length_nil] at hr
    refine Lib.index_first (by rw [List.length_take]; omega) ?_ (fun k hk => ?_)
    · unfold Lib.occAt at hocc ⊢
      rw [List.drop_take, Nat.add_sub_cancel_left]
      rw [List.isPrefixOf_iff_prefix] at hocc ⊢
      obtain ⟨t, ht⟩ := hocc
      rw [← ht]
      simp
    · have := hno k hk
      unfold Lib.occAt at this ⊢
      cases hp : List.isPrefixOf [42, 47] ((s.take (j + 2)).drop k)
      · rfl
      · rw [List.drop_take] at hp
        rw [prefix_take hp] at this
        cases this

end Go.Proofs.YtmjbaimccbkmpaaDoor.tok

namespace Go.Proofs.YtmjbaimccbkmpaaDoor.tok
open Go.RowKit Go.Proofs.YtmjbaimccbkmpaaDoor.base
set_option linter.unusedVariables false

/-- of a prefix that is not empty: what its first sign tells -/
theorem space_zero {l : Bs} (h : spaceP l = 0) (m : Nat) : spaceP (l.take m) = 0 := by rw [space_take, h]; simp
theorem hasP_take {l p : Bs} (h : Lib.hasPrefix l p = false) (m : Nat) : Lib.hasPrefix (l.take m) p = false := by
  cases h2 : Lib.hasPrefix (l.take m) p
  · rfl
  · unfold Lib.hasPrefix at h h2
    rw [prefix_take h2] at h
    cases h
theorem quote_take {l : Bs} {m : Nat} (hm : 0 < m) : quoteP (l.take m) = quoteP l := by
  obtain ⟨k, rfl⟩ : ∃ k, m = k + 1 := ⟨m - 1, by omega⟩
  cases l <;> rfl
theorem one_take {l : Bs} {m : Nat} (hm : 0 < m) : oneK (l.take m) = oneK l := by
  obtain ⟨k, rfl⟩ : ∃ k, m = k + 1 := ⟨m - 1, by omega⟩
  cases l <;> rfl
theorem hash_head {l : Bs} {c : UInt8} (h : l.head? = some c) (hc : ¬ nv c = 35) : hashP l = false := by
  match l, h with
  | [a], _ => rfl
  | a :: b :: r, h =>
    obtain rfl : a = c := by simpa using h
    simp [hashP, hc]
theorem at_head {l : Bs} {c : UInt8} (h : l.head? = some c) (hc : ¬ nv c = 64) : atP l = false := by
  match l, h with
  | a :: r, h =>
    obtain rfl : a = c := by simpa using h
    simp [atP, hc]
theorem quote_head {l : Bs} {c : UInt8} (h : l.head? = some c) (hq : quoteP l = true) : nv c = 39 ∨ nv c = 34 := by
  match l, h with
  | a :: r, h =>
    obtain rfl : a = c := by simpa using h
    simpa [quoteP] using hq
theorem head_take {l : Bs} {m : Nat} (hm : 0 < m) : (l.take m).head? = l.head? := by
  obtain ⟨k, rfl⟩ : ∃ k, m = k + 1 := ⟨m - 1, by omega⟩
  cases l <;> rfl
theorem head_some {l : Bs} (h : l ≠ []) : ∃ c, l.head? = some c := by
  cases l with
  | nil => exact absurd rfl h
  | cons c r => exact ⟨c, rfl⟩
theorem take_all {l : Bs} {m : Nat} : (l.take m).take m = l.take m := by rw [List.take_take, Nat.min_self]

theorem first_self (l : Bs) (h0 : l ≠ []) : firstP (firstP l).raw = firstP l := by
  have hl : 0 < l.length := List.length_pos_iff.2 h0
  obtain ⟨c, hc⟩ := head_some h0
  generalize hF : firstP l = F
  rw [firstP] at hF
  by_cases hsp : 0 < spaceP l
  · rw [if_pos hsp] at hF
    subst hF
    simp only
    have hs2 : spaceP (l.take (spaceP l)) = spaceP l := by rw [space_take]; omega
    rw [firstP, if_pos (by rw [hs2]; exact hsp), hs2, take_all]
  rw [if_neg hsp] at hF
  have hsz : spaceP l = 0 := by omega
  by_cases hn : Lib.hasPrefix l [47, 42] = true
  · rw [if_pos hn] at hF
    subst hF
    by_cases hi : 0 ≤ Lib.index (l.drop 2) [42, 47]
    · obtain ⟨i, hi2⟩ := Int.eq_ofNat_of_zero_le hi
      have hr := Lib.index_room (l.drop 2) [42, 47] hi
      rw [hi2, List.length_drop] at hr
      simp only [List.length_cons, List.length_nil] at hr
      have e : noteP l = ⟨9, l.take (i + 4), [], 0⟩ := by
        unfold noteP
        rw [if_pos hi, hi2]
        rfl
      rw [e]
      simp only
      have hn2 : Lib.hasPrefix (l.take (i + 4)) [47, 42] = true := by
        match l, hn, hr with
        | a :: b :: r, hn, _ =>
          simp only [Lib.hasPrefix, List.take_succ_cons, List.isPrefixOf] at hn ⊢
          exact hn
        | [a], hn, hr => simp at hr; omega
        | [], hn, hr => simp at hr; omega
      have hix : Lib.index ((l.take (i + 4)).drop 2) [42, 47] = (i : Int) := by
        rw [List.drop_take]
        exact index_take hi2
      rw [firstP, if_neg (by rw [space_zero hsz]; omega), if_pos hn2]
      unfold noteP
      rw [hix, if_pos (by omega)]
      simp only [Int.toNat_natCast]
      rw [take_all]
    · have e : noteP l = ⟨9, l, [], 0⟩ := by
        unfold noteP
        rw [if_neg hi]
      rw [e]
      simp only
      rw [firstP, if_neg hsp, if_pos hn, e]
  have hn' : Lib.hasPrefix l [47, 42] = false := by simpa using hn
  rw [if_neg hn] at hF
  by_cases hq : quoteP l = true
  · rw [if_pos hq] at hF
    subst hF
    match l, h0, hq, hsz, hn' with
    | q :: r, _, hq, hsz, hn' =>
      simp only [textP]
      have ht := textR_take q _ r (Nat.le_refl _)
      generalize hT : textR q r = T at *
      obtain ⟨k, n, v⟩ := T
      simp only at ht ⊢
      have hq2 : quoteP ((q :: r).take (1 + n)) = true := by rw [quote_take (by omega)]; exact hq
      rw [firstP, if_neg (by rw [space_zero hsz]; omega), if_neg (by rw [hasP_take hn']; simp), if_pos hq2]
      rw [Nat.add_comm 1 n, List.take_succ_cons]
      simp only [textP, ht]
      congr 1
      rw [Nat.add_comm 1 n, List.take_succ_cons, List.take_take, Nat.min_self]
  rw [if_neg hq] at hF
  have hq' : quoteP l = false := by simpa using hq
  by_cases hh : hashP l = true
  · rw [if_pos hh] at hF
    subst hF
    match l, h0, hh, hsz, hn', hq', hc with
    | [a], _, hh, _, _, _, _ => simp [hashP] at hh
    | a :: b :: r, _, hh, hsz, hn', hq', hc =>
      simp only [hashP, Bool.and_eq_true, decide_eq_true_eq, Bool.or_eq_true] at hh
      obtain ⟨ha, hb⟩ := hh
      have hpos : 0 < (nameP (b :: r)).2 := by
        cases r with
        | nil =>
          rw [name_cons1]
          rcases hb with hb | hb
          · simp [hb]
          · simp [escP] at hb
        | cons e r =>
          rw [name_cons2]
          split
          · simp
          · rename_i hne
            rcases hb with hb | hb
            · simp [hb]
            · exact absurd hb hne
      have hnt := name_take' (b :: r) (nameP (b :: r)).2 (Nat.le_refl _)
      have hsz2 := space_zero hsz (1 + (nameP (b :: r)).2)
      have hn2 := hasP_take hn' (1 + (nameP (b :: r)).2)
      have hq2 : quoteP ((a :: b :: r).take (1 + (nameP (b :: r)).2)) = false := by rw [quote_take (by omega)]; exact hq'
      simp only [namedP, List.drop_succ_cons, List.drop_zero]
      generalize hN : nameP (b :: r) = N at *
      obtain ⟨v, n⟩ := N
      simp only at hpos hnt hsz2 hn2 hq2 ⊢
      obtain ⟨j, rfl⟩ : ∃ j, n = j + 1 := ⟨n - 1, by omega⟩
      have hh2 : hashP ((a :: b :: r).take (1 + (j + 1))) = true := by
        rw [Nat.add_comm 1 (j + 1)]
        simp only [List.take_succ_cons, hashP, Bool.and_eq_true, decide_eq_true_eq, Bool.or_eq_true]
        refine ⟨ha, ?_⟩
        rcases hb with hb | hb
        · exact Or.inl hb
        · right
          cases r with
          | nil => simp [escP] at hb
          | cons e r =>
            have h2 : 2 ≤ j + 1 := by
              rw [name_cons2, if_pos hb] at hN
              have := congrArg Prod.snd hN
              simp at this
              omega
            obtain ⟨i, rfl⟩ : ∃ i, j = i + 1 := ⟨j - 1, by omega⟩
            simpa [escP] using hb
      rw [firstP, if_neg (by rw [hsz2]; omega), if_neg (by rw [hn2]; simp), if_neg (by rw [hq2]; simp), if_pos hh2]
      have e1 : ((a :: b :: r).take (1 + (j + 1))).drop 1 = (b :: r).take (j + 1) := by rw [Nat.add_comm 1 (j + 1), List.take_succ_cons]; rfl
      simp only [namedP, e1, hnt]
      rw [take_all]
  rw [if_neg hh] at hF
  have hh' : hashP l = false := by simpa using hh
  by_cases ha : atP l = true
  · rw [if_pos ha] at hF
    subst hF
    match l, h0, ha, hsz, hn', hq', hh' with
    | a :: r, _, ha, hsz, hn', hq', hh' =>
      simp only [atP, Bool.and_eq_true, decide_eq_true_eq] at ha
      obtain ⟨ha, hb⟩ := ha
      have hpos := name_pos hb
      have hnt := name_take' r (nameP r).2 (Nat.le_refl _)
      have hbt := begins_take hb (Nat.le_refl _)
      have hsz2 := space_zero hsz (1 + (nameP r).2)
      have hn2 := hasP_take hn' (1 + (nameP r).2)
      have hq2 : quoteP ((a :: r).take (1 + (nameP r).2)) = false := by rw [quote_take (by omega)]; exact hq'
      simp only [namedP, List.drop_succ_cons, List.drop_zero]
      generalize hN : nameP r = N at *
      obtain ⟨v, n⟩ := N
      simp only at hpos hnt hbt hsz2 hn2 hq2 ⊢
      have hhd : ((a :: r).take (1 + n)).head? = some a := by rw [head_take (by omega)]; rfl
      have hh2 := hash_head hhd (by omega : ¬ nv a = 35)
      have e1 : ((a :: r).take (1 + n)) = a :: r.take n := by rw [Nat.add_comm 1 n, List.take_succ_cons]
      have ha2 : atP ((a :: r).take (1 + n)) = true := by
        rw [e1]
        simp only [atP, Bool.and_eq_true, decide_eq_true_eq]
        exact ⟨ha, hbt⟩
      rw [firstP, if_neg (by rw [hsz2]; omega), if_neg (by rw [hn2]; simp), if_neg (by rw [hq2]; simp), if_neg (by rw [hh2]; simp), if_pos ha2]
      have e2 : ((a :: r).take (1 + n)).drop 1 = r.take n := by rw [e1]; rfl
      simp only [namedP, e2, hnt]
      rw [take_all]
  rw [if_neg ha] at hF
  by_cases hnum : 0 < (numberP l).2
  · rw [if_pos hnum] at hF
    subst hF
    obtain ⟨x1, x2, x3, x4⟩ := number_no' hc hnum
    -- whatever prefix holds the number
    have key : ∀ m, (numberP l).2 ≤ m → firstP (l.take m) = numTkP (l.take m) (numberP l).1 (numberP l).2 := by
      intro m hm
      have hm0 : 0 < m := by omega
      have hhd : (l.take m).head? = some c := by rw [head_take hm0]; exact hc
      have hq2 : quoteP (l.take m) = false := by rw [quote_take hm0]; exact hq'
      have hnt := number_take hnum hm
      rw [firstP, if_neg (by rw [space_zero hsz]; omega), if_neg (by rw [hasP_take hn']; simp), if_neg (by rw [hq2]; simp), if_neg (by rw [hash_head hhd x1]; simp), if_neg (by rw [at_head hhd x2]; simp), hnt, if_pos hnum]
    generalize numberP l = N at *
    obtain ⟨nm, n⟩ := N
    simp only at hnum key ⊢
    have hd : ∀ m, n ≤ m → (l.take m).drop n = (l.drop n).take (m - n) := fun m _ => by rw [List.drop_take]
    unfold numTkP
    by_cases hp : Lib.hasPrefix (l.drop n) [37] = true
    · rw [if_pos hp]
      simp only
      rw [key (n + 1) (by omega)]
      unfold numTkP
      have hp2 : Lib.hasPrefix ((l.take (n + 1)).drop n) [37] = true := by
        rw [hd _ (by omega), Nat.add_sub_cancel_left]
        generalize l.drop n = x at *
        match x, hp with
        | a :: r, hp => simpa [Lib.hasPrefix, List.isPrefixOf] using hp
        | [], hp => simp [Lib.hasPrefix, List.isPrefixOf] at hp
      rw [if_pos hp2, take_all]
    · rw [if_neg hp]
      have hp' : Lib.hasPrefix (l.drop n) [37] = false := by simpa using hp
      by_cases hb : beginsP (l.drop n) = true
      · rw [if_pos hb]
        simp only
        rw [key (n + (nameP (l.drop n)).2) (by omega)]
        unfold numTkP
        have e1 : (l.take (n + (nameP (l.drop n)).2)).drop n = (l.drop n).take (nameP (l.drop n)).2 := by rw [hd _ (by omega), Nat.add_sub_cancel_left]
        rw [e1, if_neg (by rw [hasP_take hp']; simp), if_pos (begins_take hb (Nat.le_refl _)), name_take' _ _ (Nat.le_refl _), take_all]
      · rw [if_neg hb]
        simp only
        rw [key n (Nat.le_refl _)]
        unfold numTkP
        have e1 : (l.take n).drop n = [] := by rw [List.drop_take]; simp
        rw [e1, if_neg (by decide), if_neg (by decide), take_all]
  rw [if_neg hnum] at hF
  have hnum' : (numberP l).2 = 0 := by omega
  by_cases hb : beginsP l = true
  · rw [if_pos hb] at hF
    subst hF
    obtain ⟨x1, x2, x3, x4⟩ := begins_no' hc hb
    have hpos := name_pos hb
    have key : ∀ m, (nameP l).2 ≤ m → firstP (l.take m) = wordP (l.take m) := by
      intro m hm
      have hm0 : 0 < m := by omega
      have hhd : (l.take m).head? = some c := by rw [head_take hm0]; exact hc
      have hq2 : quoteP (l.take m) = false := by rw [quote_take hm0]; exact hq'
      rw [firstP, if_neg (by rw [space_zero hsz]; omega), if_neg (by rw [hasP_take hn']; simp), if_neg (by rw [hq2]; simp), if_neg (by rw [hash_head hhd x1]; simp), if_neg (by rw [at_head hhd x2]; simp), if_neg (by rw [number_take0 hnum' m]; omega), if_pos (begins_take hb hm)]
    have hle := nameP_le _ l (Nat.le_refl _)
    have hnl : (namedP 1 l 0).raw.length = (nameP l).2 := by
      simp only [namedP, List.drop_zero, Nat.zero_add, List.length_take]
      omega
    have hnm : ∀ m, (nameP l).2 ≤ m → namedP 1 (l.take m) 0 = namedP 1 l 0 := by
      intro m hm
      simp only [namedP, List.drop_zero, Nat.zero_add]
      rw [name_take' l m hm, List.take_take, Nat.min_eq_left hm]
    unfold wordP
    rw [hnl]
    by_cases hp : Lib.hasPrefix (l.drop (nameP l).2) [40] = true
    · rw [if_pos hp]
      simp only
      rw [key _ (by omega)]
      unfold wordP
      rw [hnm _ (by omega), hnl]
      have hp2 : Lib.hasPrefix ((l.take ((nameP l).2 + 1)).drop (nameP l).2) [40] = true := by
        rw [List.drop_take, Nat.add_sub_cancel_left]
        generalize l.drop (nameP l).2 = x at *
        match x, hp with
        | a :: r, hp => simpa [Lib.hasPrefix, List.isPrefixOf] using hp
        | [], hp => simp [Lib.hasPrefix, List.isPrefixOf] at hp
      rw [if_pos hp2, take_all]
    · rw [if_neg hp]
      have hraw : (namedP 1 l 0).raw = l.take (nameP l).2 := by simp [namedP]
      rw [hraw, key _ (Nat.le_refl _)]
      unfold wordP
      rw [hnm _ (Nat.le_refl _), hnl]
      have e1 : (l.take (nameP l).2).drop (nameP l).2 = [] := by rw [List.drop_take]; simp
      rw [e1, if_neg (by decide)]
  · rw [if_neg hb] at hF
    subst hF
    simp only
    have hhd : (l.take 1).head? = some c := by rw [head_take (by omega)]; exact hc
    have e1 : l.take 1 = [c] := by
      match l, hc with
      | a :: r, hc =>
        obtain rfl : a = c := by simpa using hc
        rfl
    have hq2 : quoteP (l.take 1) = false := by rw [quote_take (by omega)]; exact hq'
    have hh2 : hashP (l.take 1) = false := by rw [e1]; rfl
    have ha2 : atP (l.take 1) = false := by rw [e1]; simp [atP, beginsP]
    have hb2 : ¬ beginsP (l.take 1) = true := by
      intro h
      apply hb
      match l, hc with
      | [a], _ => exact h
      | a :: d :: r, hc =>
        simp only [List.take_succ_cons, List.take_zero, beginsP] at h
        simp only [beginsP]
        have h45 : ¬ nv a = 45 := fun e => by
          rw [e] at h
          simp [startsI] at h
        rw [if_neg h45, h]
        rfl
    rw [firstP, if_neg (by rw [space_zero hsz]; omega), if_neg (by rw [hasP_take hn']; simp), if_neg (by rw [hq2]; simp), if_neg (by rw [hh2]; simp), if_neg (by rw [ha2]; simp), if_neg (by rw [number_take0 hnum' 1]; omega), if_neg hb2, one_take (by omega), take_all]

theorem cut_self (l : Bs) (h0 : l ≠ []) : cutP (firstP l).raw = [firstP l] := by
  have hp := (first_pre l h0).2
  have hne : (firstP l).raw ≠ [] := fun e => by rw [e] at hp; simp at hp
  rw [cutP_cons hne, first_self l h0, List.drop_length, cutP_nil]
theorem cut_alone : ∀ (n : Nat) (l : Bs), l.length ≤ n → ∀ t ∈ cutP l, cutP t.raw = [t]
  | 0, l, h, t, ht => by
    obtain rfl := List.eq_nil_of_length_eq_zero (Nat.le_zero.1 h)
    rw [cutP_nil] at ht
    cases ht
  | n + 1, l, h, t, ht => by
    by_cases h0 : l = []
    · subst h0
      rw [cutP_nil] at ht
      cases ht
    · rw [cutP_cons h0] at ht
      rcases List.mem_cons.1 ht with rfl | ht
      · exact cut_self l h0
      · have hp := (first_pre l h0).2
        exact cut_alone n _ (by rw [List.length_drop]; omega) t ht

end Go.Proofs.YtmjbaimccbkmpaaDoor.tok

namespace Go.Proofs.YtmjbaimccbkmpaaDoor.tok
open Go.RowKit Go.Proofs.YtmjbaimccbkmpaaDoor.base
set_option linter.unusedVariables false

theorem esc_blank (c : UInt8) (m : Bs) (h : ¬ nv c = 92) : escP (c :: 32 :: m) = false := by simp [escP, h]
theorem esc_32 (m : Bs) : escP (32 :: m) = false := by
  cases m with
  | nil => rfl
  | cons d m => rfl
theorem sign_92 {c : UInt8} (h : nv c = 92) : signI (nv c) = false := by rw [h]; rfl
theorem nv92 {c : UInt8} (h : nv c = 92) : c = 92 := by
  apply UInt8.toNat_inj.1
  simp only [nv] at h
  have : (92 : UInt8).toNat = 92 := rfl
  omega
theorem nv_eq {c : UInt8} {n : Nat} (hn : n < 256) (h : nv c = n) : c = UInt8.ofNat n := by
  apply UInt8.toNat_inj.1
  rw [UInt8.toNat_ofNat']
  simp only [nv] at h
  omega

theorem name_blank (m : Bs) : nameP (32 :: m) = ([], 0) := by
  cases m with
  | nil => rw [name_cons1]; rfl
  | cons d m =>
    rw [name_cons2, if_neg (by rw [esc_32]; simp), if_neg (by decide)]
theorem begins_blank (m : Bs) : beginsP (32 :: m) = false := by
  cases m with
  | nil => rfl
  | cons d m =>
    simp only [beginsP]
    rw [if_neg (by decide), esc_32]
    rfl

theorem name_ext (m : Bs) : ∀ (n : Nat) (y : Bs), y.length ≤ n → y.drop (nameP y).2 ≠ [92] → nameP (y ++ 32 :: m) = nameP y
  | 0, y, h, hd => by
    obtain rfl := List.eq_nil_of_length_eq_zero (Nat.le_zero.1 h)
    rw [List.nil_append, name_blank, name_nil]
  | n + 1, [], h, hd => by rw [List.nil_append, name_blank, name_nil]
  | n + 1, [c], h, hd => by
    rw [name_cons1] at hd
    simp only [List.cons_append, List.nil_append]
    rw [name_cons2, name_cons1]
    by_cases hs : signI (nv c) = true
    · have h92 : ¬ nv c = 92 := fun e => by rw [sign_92 e] at hs; cases hs
      rw [if_neg (by rw [esc_blank c m h92]; simp), if_pos hs, if_pos hs, name_blank]
    · rw [if_neg hs] at hd
      have h92 : ¬ nv c = 92 := fun e => hd (by rw [nv92 e]; rfl)
      rw [if_neg (by rw [esc_blank c m h92]; simp), if_neg hs, if_neg hs]
  | n + 1, c :: d :: r, h, hd => by
    rw [name_cons2] at hd ⊢
    simp only [List.cons_append]
    rw [name_cons2]
    have he : escP (c :: d :: (r ++ 32 :: m)) = escP (c :: d :: r) := rfl
    rw [he]
    by_cases h1 : escP (c :: d :: r) = true
    · rw [if_pos h1] at hd ⊢
      rw [if_pos h1, name_ext m n r (by simp at h; omega) (by simpa using hd)]
    · rw [if_neg h1] at hd ⊢
      rw [if_neg h1]
      by_cases hs : signI (nv c) = true
      · rw [if_pos hs] at hd ⊢
        rw [if_pos hs]
        have ih := name_ext m n (d :: r) (by simp at h ⊢; omega) (by simpa using hd)
        rw [List.cons_append] at ih
        rw [ih]
      · rw [if_neg hs, if_neg hs]
theorem name_ext' (m : Bs) {y : Bs} (h : y.drop (nameP y).2 ≠ [92]) : nameP (y ++ 32 :: m) = nameP y := name_ext m _ y (Nat.le_refl _) h

theorem begins_ext (m : Bs) {r : Bs} (h1 : r ≠ [92]) (h2 : r ≠ [45, 92]) : beginsP (r ++ 32 :: m) = beginsP r := by
  match r, h1, h2 with
  | [], _, _ => exact begins_blank m
  | [c], h1, _ =>
    simp only [List.cons_append, List.nil_append, beginsP]
    have h92 : ¬ nv c = 92 := fun e => h1 (by rw [nv92 e])
    by_cases h45 : nv c = 45
    · rw [if_pos h45, esc_32, h45]
      rfl
    · rw [if_neg h45, esc_blank c m h92]
      simp
  | c :: d :: r, _, h2 =>
    simp only [List.cons_append, beginsP]
    by_cases h45 : nv c = 45
    · rw [if_pos h45, if_pos h45]
      cases r with
      | nil =>
        have h92 : ¬ nv d = 92 := fun e => h2 (by rw [nv92 e, nv_eq (n := 45) (by decide) h45]; rfl)
        simp only [List.nil_append]
        rw [esc_blank d m h92]
        rfl
      | cons e r => rfl
    · rw [if_neg h45, if_neg h45]
      rfl

theorem while_app (p : UInt8 → Bool) (m : Bs) (h : p 32 = false) : ∀ y : Bs, ((y ++ 32 :: m).takeWhile p).length = (y.takeWhile p).length
  | [] => by simp [h]
  | c :: y => by
    simp only [List.cons_append, List.takeWhile_cons]
    cases p c
    · rfl
    · simp only [if_true, List.length_cons]
      rw [while_app p m h y]
theorem digits_ext (m y : Bs) : digitsP (y ++ 32 :: m) = digitsP y := while_app _ m (by decide) y
theorem behind_ext (m y : Bs) : behindP (y ++ 32 :: m) = behindP y := by
  cases y with
  | nil =>
    simp only [List.nil_append, behindP]
    rw [if_neg (by decide)]
  | cons c t =>
    simp only [List.cons_append, behindP, digits_ext]

theorem number_ext (m : Bs) {l : Bs} (h0 : l ≠ []) : numberP (l ++ 32 :: m) = numberP l := by
  have hs : signAt (l ++ 32 :: m) = signAt l ∧ negP (l ++ 32 :: m) = negP l := by
    cases l with
    | nil => exact absurd rfl h0
    | cons c r => exact ⟨rfl, rfl⟩
  obtain ⟨_, hsl⟩ := signAt_le l
  unfold numberP
  rw [hs.1, hs.2]
  generalize signAt l = f at *
  have e1 : digitsP ((l ++ 32 :: m).drop f) = digitsP (l.drop f) := by rw [List.drop_append_of_le_length hsl, digits_ext]
  rw [e1]
  have hw := digits_le (l.drop f)
  rw [List.length_drop] at hw
  generalize digitsP (l.drop f) = wh at *
  have e2 : behindP ((l ++ 32 :: m).drop (f + wh)) = behindP (l.drop (f + wh)) := by rw [List.drop_append_of_le_length (by omega), behind_ext]
  rw [e2]
  have hb := behind_le (l.drop (f + wh))
  rw [List.length_drop] at hb
  generalize behindP (l.drop (f + wh)) = be at *
  unfold numAt
  have e3 : sumP (l ++ 32 :: m) f wh be = sumP l f wh be := by
    unfold sumP
    have a1 : ((l ++ 32 :: m).drop f).take wh = (l.drop f).take wh := by
      rw [List.drop_append_of_le_length hsl, List.take_append_of_le_length (by rw [List.length_drop]; omega)]
    have a2 : ((l ++ 32 :: m).drop (f + wh + 1)).take be = (l.drop (f + wh + 1)).take be := by
      rcases hb with hb | hb
      · rw [hb]; simp
      · rw [List.drop_append_of_le_length (by omega), List.take_append_of_le_length (by rw [List.length_drop]; omega)]
    rw [a1, a2]
  rw [e3]

theorem textR_ext (q : UInt8) (m : Bs) : ∀ (n : Nat) (r : Bs), r.length ≤ n → ((textR q r).2.1 < r.length ∨ (textR q r).1 = 5) → textR q (r ++ 32 :: m) = textR q r
  | 0, r, h, hc => by
    obtain rfl := List.eq_nil_of_length_eq_zero (Nat.le_zero.1 h)
    rw [textR_nil] at hc
    simp at hc
  | n + 1, [], h, hc => by
    rw [textR_nil] at hc
    simp at hc
  | n + 1, [c], h, hc => by
    rw [textR_one] at hc ⊢
    simp only [List.cons_append, List.nil_append]
    rw [textR_two]
    split
    · rfl
    · split
      · rfl
      · rename_i h1 h2
        rw [if_neg h1, if_neg h2] at hc
        simp at hc
  | n + 1, c :: d :: r, h, hc => by
    rw [textR_two] at hc ⊢
    simp only [List.cons_append]
    rw [textR_two]
    split
    · rfl
    · rename_i h1
      split
      · rfl
      · rename_i h2
        rw [if_neg h1, if_neg h2] at hc
        split
        · rename_i h3
          rw [if_pos h3] at hc
          rw [textR_ext q m n r (by simp at h; omega) (by simp only [List.length_cons] at hc; omega)]
        · rename_i h3
          rw [if_neg h3] at hc
          have ih := textR_ext q m n (d :: r) (by simp at h ⊢; omega) (by simp only [List.length_cons] at hc ⊢; omega)
          rw [List.cons_append] at ih
          rw [ih]
theorem textR_le (q : UInt8) : ∀ (n : Nat) (r : Bs), r.length ≤ n → (textR q r).2.1 ≤ r.length
  | 0, r, h => by
    obtain rfl := List.eq_nil_of_length_eq_zero (Nat.le_zero.1 h)
    rw [textR_nil]
    simp
  | n + 1, [], h => by rw [textR_nil]; simp
  | n + 1, [c], h => by
    rw [textR_one]
    split
    · simp
    · split <;> simp
  | n + 1, c :: d :: r, h => by
    rw [textR_two]
    split
    · simp
    · split
      · simp
      · split
        · have := textR_le q n r (by simp at h; omega)
          simp; omega
        · have := textR_le q n (d :: r) (by simp at h ⊢; omega)
          simp at this ⊢; omega
theorem textR_kind (q : UInt8) : ∀ (n : Nat) (r : Bs), r.length ≤ n → (textR q r).1 = 5 ∨ (textR q r).1 = 6
  | 0, r, h => by
    obtain rfl := List.eq_nil_of_length_eq_zero (Nat.le_zero.1 h)
    rw [textR_nil]
    simp
  | n + 1, [], h => by rw [textR_nil]; simp
  | n + 1, [c], h => by
    rw [textR_one]
    split
    · simp
    · split <;> simp
  | n + 1, c :: d :: r, h => by
    rw [textR_two]
    split
    · simp
    · split
      · simp
      · split
        · exact textR_kind q n r (by simp at h; omega)
        · exact textR_kind q n (d :: r) (by simp at h ⊢; omega)

theorem index_ext (s m : Bs) (h : 0 ≤ Lib.index s [42, 47]) : Lib.index (s ++ m) [42, 47] = Lib.index s [42, 47] := by
  rcases Lib.index_spec s [42, 47] with ⟨h1, _⟩ | ⟨j, hj, hjl, hocc, hno⟩
  · omega
  · have hr := Lib.index_room s [42, 47] (by omega)
    simp only [List.length_cons, List.length_nil] at hr
    rw [hj]
    refine Lib.index_first (by simp; omega) ?_ (fun k hk => ?_)
    · unfold Lib.occAt at hocc ⊢
      rw [List.drop_append_of_le_length hjl]
      rw [List.isPrefixOf_iff_prefix] at hocc ⊢
      exact hocc.trans (List.prefix_append _ _)
    · have := hno k hk
      unfold Lib.occAt at this ⊢
      cases hp : List.isPrefixOf [42, 47] ((s ++ m).drop k)
      · rfl
      · rw [List.drop_append_of_le_length (by omega)] at hp
        rw [List.isPrefixOf_iff_prefix] at hp
        have hp2 := List.prefix_of_prefix_length_le hp (List.prefix_append (s.drop k) m) (by simp; omega)
        rw [← List.isPrefixOf_iff_prefix] at hp2
        rw [hp2] at this
        cases this

end Go.Proofs.YtmjbaimccbkmpaaDoor.tok
