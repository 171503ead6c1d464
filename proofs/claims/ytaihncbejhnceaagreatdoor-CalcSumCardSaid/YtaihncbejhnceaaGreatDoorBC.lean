/- Contracts and plain law, a bundle: Rd Tok20 Tok21 Dim0 Dim1 Dim2 Door DimOpen Rul0 Rul1 DimL0 DimL1 TokL1 TokL2 TokL3 DimL2 DimT DimT1. -/
import Derived.Maps.AppendAt
import Derived.Laws.OwnMore
import Derived.Laws.StructEq
import Derived.Lib.LaidU8
import Derived.Deep.QuietTactic
import Derived.BigQuiet
import Derived.HandedShaped
import Derived.Shelf.Vars
import Derived.Lay
import Derived.LaidOnce
import Derived.SevenTiedAt
import Derived.Lib.ItoaNum
import Derived.Lib.TrimByte
import Derived.Lib.LaidTab
import Derived.Test.YtaihncbejhnceaaGreatDoorBA
import Derived.Test.YtaihncbejhnceaaGreatDoorBB
import Derived.Test.YtaihncbejhnceaaGreatDoorRows
import Derived.Test.YtaihncbejhnceaaGreatDoorShelf

namespace Go.Proofs.YtaihncbejhnceaaGreatDoor.base
open Go.RowKit
set_option linter.unusedVariables false

/-- the cells of the entries, one behind the other -/
def flatR {α : Type} (f : α → List Value) (L : List α) : List Value := L.flatMap f

section
variable {α : Type} {k : Nat} {f : α → List Value}
theorem flatR_nil : flatR f [] = [] := rfl
theorem flatR_snoc (L : List α) (d : α) : flatR f (L ++ [d]) = flatR f L ++ f d := by simp [flatR]
theorem flatR_app (L M : List α) : flatR f (L ++ M) = flatR f L ++ flatR f M := by simp [flatR]
theorem flatR_len (hf : ∀ d, (f d).length = k) : ∀ (L : List α), (flatR f L).length = L.length * k
  | [] => by simp [flatR]
  | d :: L => by
    have := flatR_len hf L
    simp only [flatR, List.flatMap_cons, List.length_append, List.length_cons] at this ⊢
    rw [this, hf, Nat.add_mul]
    omega
theorem flatR_at (hf : ∀ d, (f d).length = k) : ∀ {L : List α} {i : Nat} {d : α}, L[i]? = some d → ∀ j, j < k → (flatR f L)[i * k + j]? = (f d)[j]?
  | [], i, d, h, _, _ => by simp at h
  | e :: L, 0, d, h, j, hj => by
    simp at h
    subst h
    simp only [flatR, List.flatMap_cons, Nat.zero_mul, Nat.zero_add]
    rw [List.getElem?_append_left (by rw [hf]; exact hj)]
  | e :: L, i + 1, d, h, j, hj => by
    have ih := flatR_at hf (L := L) (i := i) (d := d) (by simpa using h) j hj
    simp only [flatR, List.flatMap_cons] at ih ⊢
    rw [List.getElem?_append_right (by rw [hf, Nat.add_mul]; omega), hf, show (i + 1) * k + j - k = i * k + j by rw [Nat.add_mul]; omega]
    exact ih

/-- they lie where the slice says, below block B -/
def Rd (k : Nat) (f : α → List Value) (w : World) (B : Nat) (A : Option Addr) (n : Nat) (L : List α) : Prop :=
  L.length = n ∧ (0 < n → ∃ b off, A = some ⟨b, off, none⟩ ∧ b < B ∧ ∀ (i : Nat) (d : α), L[i]? = some d → ∀ j, j < k → w.cell? ⟨b, off + i * k + j, none⟩ = (f d)[j]?)

theorem Rd.keep {w w' : World} {B B' : Nat} {A : Option Addr} {n : Nat} {L : List α} (h : Rd k f w B A n L) (hb : Below B w w') (hB : B ≤ B') : Rd k f w' B' A n L := by
  refine ⟨h.1, fun h0 => ?_⟩
  obtain ⟨b, off, hA, hlt, hc⟩ := h.2 h0
  exact ⟨b, off, hA, by omega, fun i d hd j hj => (hb.cell (p := ⟨b, _, none⟩) hlt).trans (hc i d hd j hj)⟩

theorem Rd.first {w : World} {B : Nat} {A : Option Addr} {n m : Nat} {L : List α} (h : Rd k f w B A n L) (hm : m ≤ n) : Rd k f w B A m (L.take m) := by
  refine ⟨by rw [List.length_take, h.1]; omega, fun h0 => ?_⟩
  obtain ⟨b, off, hA, hlt, hc⟩ := h.2 (by omega)
  refine ⟨b, off, hA, hlt, fun i d hd => hc i d ?_⟩
  have hi := (List.getElem?_eq_some_iff.1 hd).1
  rw [List.length_take] at hi
  rwa [List.getElem?_take_of_lt (by omega)] at hd

/-- one of them -/
theorem Rd.at_ {w : World} {B : Nat} {A : Option Addr} {n i : Nat} {L : List α} (h : Rd k f w B A n L) (hi : i < n) : ∃ b off d, A = some ⟨b, off, none⟩ ∧ b < B ∧ L[i]? = some d ∧ ∀ j, j < k → w.cell? ⟨b, off + i * k + j, none⟩ = (f d)[j]? := by
  obtain ⟨b, off, hA, hlt, hc⟩ := h.2 (by omega)
  have hl : i < L.length := by have := h.1; omega
  exact ⟨b, off, L[i], hA, hlt, List.getElem?_eq_getElem hl, hc i L[i] (List.getElem?_eq_getElem hl)⟩

theorem Rd.nil {w : World} {B : Nat} {A : Option Addr} : Rd k f w B A 0 [] := ⟨rfl, fun h => absurd h (by omega)⟩

/-- a row of the call's own reads so -/
theorem row_rd {w : World} {base n : Nat} {e : TypeId} {v : Value} {L : List α} (hf : ∀ d, (f d).length = k) (hn : L.length = n) (h : w.ownsRow base e k v n (flatR f L)) : ∃ A cap, v = .slice A n cap ∧ n ≤ cap ∧ Rd k f w w.heap.size A n L := by
  subst hn
  rcases Nat.eq_zero_or_pos L.length with h0 | h0
  · rcases h.2 with ⟨rfl, hz⟩ | ⟨g, cap, cur, rfl, _, _, hc, _⟩
    · exact ⟨none, 0, by rw [hz], by omega, rfl, fun h1 => by omega⟩
    · exact ⟨_, _, rfl, hc, rfl, fun h1 => by omega⟩
  · rcases h.2 with ⟨rfl, hz⟩ | ⟨g, cap, cur, rfl, _, _, hc, _⟩
    · omega
    · have hg := h.lt g rfl
      refine ⟨_, _, rfl, hc, rfl, fun _ => ⟨g, 0, rfl, hg.2, fun i d hd j hj => ?_⟩⟩
      rw [Nat.zero_add]
      have hil := (List.getElem?_eq_some_iff.1 hd).1
      have hlt : i * k + j < L.length * k := by
        have : (i + 1) * k ≤ L.length * k := Nat.mul_le_mul_right k hil
        rw [Nat.add_mul] at this
        omega
      have := (h.cellAt (i * k + j) hlt).trans (flatR_at hf hd j hj)
      rw [this]
end

theorem grown_of_below {w w' : World} (h : Below w.heap.size w w') (row : Option Nat) : w.grownBy w' row := ⟨h.os, h.tape, h.output, h.size, fun k hk _ => h.block k hk⟩
theorem row_form {w : World} {base : Nat} {e : TypeId} {size : Nat} {v : Value} {n : Nat} {xs : List Value} (h : w.ownsRow base e size v n xs) : ∃ a cap, v = .slice a n cap := by
  rcases h.2 with ⟨rfl, rfl⟩ | ⟨g, cap, cur, rfl, _⟩
  · exact ⟨none, 0, rfl⟩
  · exact ⟨_, _, rfl⟩
theorem row_on {w w' : World} {base : Nat} {e : TypeId} {size : Nat} {v : Value} {n : Nat} {xs : List Value} (h : w.ownsRow base e size v n xs) (hb : Below w.heap.size w w') : w'.ownsRow base e size v n xs :=
  h.kept (grown_of_below hb none) (by cases hv : v.ownBlock with | none => exact .inl rfl | some g => exact .inr (by simp))
/-- what lay below stands, behind an append to a row of the call's own -/
theorem below_app {B : Nat} {a w w' : World} {base : Nat} {e : TypeId} {size n : Nat} {v : Value} {xs : List Value} (h : Below B a w) (hg : w.grownBy w' v.ownBlock) (hown : w.ownsRow base e size v n xs) (hB : B ≤ base) (hz : B ≤ w.heap.size) : Below B a w' := below_grown h hg hown hB hz

end Go.Proofs.YtaihncbejhnceaaGreatDoor.base

namespace Go.Proofs.YtaihncbejhnceaaGreatDoor.tok
open Go.RowKit Go.Proofs.YtaihncbejhnceaaGreatDoor.base
set_option linter.unusedVariables false

theorem infoT : (Tryz.prog.info? 64).map (fun i => (i.zero, i.size, i.bytes)) = some (some (.agg #[.int .i64 0, .string .empty, .string .empty, .int .i64 0]), 4, 48) := by kernel_rfl
abbrev tcells (t : Tk) : List Value := t.cells.toList
theorem tcells_len (t : Tk) : (tcells t).length = 4 := rfl

def strLen : Value → Nat
  | .string s => s.size
  | _ => 0

/-- what is known of a text that is cut so far -/
def CutRel (s : ByteArray) (w : World) (x v : Value) (wr : World) : Prop :=
  ∃ (X : ByteArray) (acc : List Tk), x = .string X ∧ acc.length + X.size ≤ s.size ∧ cutP s.data.toList = acc ++ cutP X.data.toList ∧ wr.ownsRow w.heap.size 64 4 v acc.length (flatR tcells acc) ∧ Below w.heap.size w wr

set_option maxRecDepth 100000 in
set_option maxHeartbeats 4000000 in
theorem cut_row (s : ByteArray) (hs : s.size < 4294967281) (w : World) (hm : MaxL w) :
    Calls Tryz.prog 15 #[.string s] w fun e w' => (∃ v, e = .returned v ∧ w'.ownsRow w.heap.size 64 4 v (cutP s.data.toList).length (flatR tcells (cutP s.data.toList))) ∧ Below w.heap.size w w' := by
  obtain ⟨i0, hi, hz0, hz1, hz2⟩ := info_parts infoT
  have Hz0 := Lib.hid hz0
  have Hi := Lib.hid hi
  have Hz1 := Lib.hid hz1
  have Hz2 := Lib.hid hz2
  have HM := Lib.hid hm
  clear hz0 hi hz1 hz2 hm
  go_enter Tryz.func15, Tryz.ntmps15
  go_wp2_with fail
  go_loopw [0, 3] (fun x v wr => CutRel s w x v wr) (fun x _ _ => strLen x)
  case atStart => exact ⟨s, [], rfl, by simp, by simp, World.ownsRow_nil _ _ _ _, Below.refl _ _⟩
  case round =>
    obtain ⟨X, acc, rfl, hal, hinv, hrow, hbel⟩ := hrel
    have hmr := Lib.hid (HM.out.on hbel HM.out.lt)
    have hz := hbel.size
    have HBl := Lib.hid hbel
    replace hrow := Lib.hid hrow
    replace hinv := Lib.hid hinv
    clear hbel
    rcases Nat.eq_zero_or_pos X.size with h0 | h0
    · have he := empty_yes h0
      have hX : X.data.toList = [] := List.eq_nil_of_length_eq_zero (by rw [← Lib.size_eq]; exact h0)
      have hfin := Lib.hid (show cutP s.data.toList = acc by rw [hinv.out, hX, cutP_nil, List.append_nil])
      clear hX h0
      go_wp2
      go_ret
      exact ⟨⟨_, rfl, by rw [hfin.out]; exact hrow.out⟩, HBl.out⟩
    · have he := empty_no h0
      have hX : X.data.toList ≠ [] := fun h => by
        rw [Lib.size_eq, h] at h0
        simp at h0
      have hpre := first_pre X.data.toList hX
      have hrw := first_raw X.data.toList hX
      have hcc := cutP_cons hX
      have hrl : (firstP X.data.toList).raw.length ≤ X.size := by
        rw [hrw, List.length_take, ← Lib.size_eq]
        omega
      have hpos := hpre.2
      have cF := fun w hm => first_ct X (by omega) h0 w hm
      generalize firstP X.data.toList = t at *
      have hnext : cutP s.data.toList = (acc ++ [t]) ++ cutP (X.extract (bs t.raw).size X.size).data.toList := by
        rw [Lib.extract_to_end, hinv.out, hcc]
        simp [bs_size]
      have hnl : (X.extract (bs t.raw).size X.size).size + t.raw.length = X.size := by
        simp only [ByteArray.size_extract, bs_size]
        omega
      have hrs : (bs t.raw).size ≤ X.size := hrl
      obtain ⟨tk, tr, tv, tn⟩ := t
      simp only [Tk.cells] at cF
      replace cF := Lib.hid cF
      replace hnext := Lib.hid hnext
      simp only at hpos hrl hnl hrs
      replace hnl := Lib.hid hnl
      clear hX hpre hrw hcc
      obtain ⟨a, cp, rfl⟩ := row_form hrow.out
      go_wp2_with (first
        | (go_at_call 28; (with_reducible refine (cF.out _ hmr.out).mono ?_); rintro e W2 ⟨rfl, hb2⟩; have hrow2 := Lib.hid (row_on hrow.out hb2); have HB2 := Lib.hid (HBl.out.trans (hb2.mono HBl.out.size)); have hz2 := hb2.size; clear hb2)
        | (at_builtin; refine wpList_append_own _ rfl _ _ 50 rfl w.heap.size 64 i0 _ 4 48 Tryz.underlying50 Hi.out Hz0.out Hz1.out Hz2.out rfl (by decide) _ _ _ rfl ((hrow2.out.alloc _).alloc _) ⟨W2.heap.size + 1, 0, none⟩ 1 1 [.int .i64 tk, .string (bs tr), .string (bs tv), .int .i64 tn] rfl rfl ?c1 ?c2 ?c3 ?c4 ?c5 ?_))
      case c1 => exact (Blk.new (w := W2.alloc (.cells #[.int .i64 tk, .string (bs tr), .string (bs tv), .int .i64 tn] 64)) (t := 64) (cs := #[.int .i64 tk, .string (bs tr), .string (bs tv), .int .i64 tn]) (by simp)).news
      case c2 => simp [Value.oneCell']
      case c3 => unfold maxLen; omega
      case c4 => omega
      case c5 => simp; omega
      intro v' w3 hown3 hgrow3 hnil3
      have tB := Lib.hid (show Blk w3 W2.heap.size 64 #[.int .i64 tk, .string (bs tr), .string (bs tv), .int .i64 tn] from
        (hgrow3.block W2.heap.size (by simp; omega) (fun e => by have := (hrow2.out.lt _ e.symm).2; omega)).trans ((Blk.new rfl).alloc _))
      have tC := tB.out.cell
      have hb3 := Lib.hid (below_app ((HB2.out.alloc HB2.out.size _).alloc (by simp; have := HB2.out.size; omega) _) hgrow3 ((hrow2.out.alloc _).alloc _) (Nat.le_refl _) (by simp; have := HB2.out.size; omega))
      replace hown3 := Lib.hid hown3
      clear hgrow3 hnil3
      go_wp2
      go_roundw
      case rel =>
        refine ⟨_, acc ++ [⟨tk, tr, tv, tn⟩], rfl, ?_, hnext.out, ?_, hb3.out⟩
        · have hbz : (bs tr).size = tr.length := rfl
          simp
          omega
        · simpa [flatR_snoc] using hown3.out
      case measure =>
        have hbz : (bs tr).size = tr.length := rfl
        simp [strLen]
        omega

/-- slices of tokens -/
abbrev TRd (w : World) (B : Nat) (A : Option Addr) (n : Nat) (L : List Tk) : Prop := Rd 4 tcells w B A n L

theorem cut_ct (s : ByteArray) (hs : s.size < 4294967281) (w : World) (hm : MaxL w) :
    Calls Tryz.prog 15 #[.string s] w fun e w' => (∃ A cap, e = .returned (.slice A (cutP s.data.toList).length cap) ∧ (cutP s.data.toList).length ≤ cap ∧ TRd w' w'.heap.size A (cutP s.data.toList).length (cutP s.data.toList)) ∧ Below w.heap.size w w' :=
  (cut_row s hs w hm).mono fun e w' ⟨⟨v, he, hr⟩, hb⟩ => by
    obtain ⟨A, c, rfl, hc, hg⟩ := row_rd tcells_len rfl hr
    exact ⟨⟨A, c, he, hc, hg⟩, hb⟩

end Go.Proofs.YtaihncbejhnceaaGreatDoor.tok

namespace Go.Proofs.YtaihncbejhnceaaGreatDoor.tok
open Go.RowKit Go.Proofs.YtaihncbejhnceaaGreatDoor.base
set_option linter.unusedVariables false

def textOf (L : List Tk) : Bs := L.flatMap (·.raw)

theorem cut_raw : ∀ (n : Nat) (l : Bs), l.length ≤ n → textOf (cutP l) = l ∧ ∀ t ∈ cutP l, t.raw ≠ []
  | 0, l, h => by
    obtain rfl := List.eq_nil_of_length_eq_zero (Nat.le_zero.1 h)
    rw [cutP_nil]
    exact ⟨rfl, fun t ht => by cases ht⟩
  | n + 1, l, h => by
    by_cases h0 : l = []
    · subst h0
      rw [cutP_nil]
      exact ⟨rfl, fun t ht => by cases ht⟩
    · rw [cutP_cons h0]
      have hp := (first_pre l h0).2
      obtain ⟨h1, h2⟩ := cut_raw n (l.drop (firstP l).raw.length) (by rw [List.length_drop]; omega)
      refine ⟨?_, fun t ht => ?_⟩
      · show (firstP l).raw ++ textOf _ = l
        rw [h1]
        conv => rhs; rw [← List.take_append_drop (firstP l).raw.length l]
        rw [← first_raw l h0]
      · rcases List.mem_cons.1 ht with rfl | ht
        · exact fun e => by rw [e] at hp; simp at hp
        · exact h2 t ht
theorem cut_text (l : Bs) : textOf (cutP l) = l := (cut_raw _ l (Nat.le_refl _)).1
theorem cut_full (l : Bs) : ∀ t ∈ cutP l, t.raw ≠ [] := (cut_raw _ l (Nat.le_refl _)).2
theorem cut_few (l : Bs) : (cutP l).length ≤ l.length := by
  have key : ∀ L : List Tk, (∀ t ∈ L, t.raw ≠ []) → L.length ≤ (textOf L).length := by
    intro L
    induction L with
    | nil => intro _; simp
    | cons t L ih =>
      intro h
      have h1 := ih (fun x hx => h x (by simp [hx]))
      have h2 : 0 < t.raw.length := List.length_pos_iff.2 (h t (by simp))
      simp only [textOf, List.flatMap_cons, List.length_append, List.length_cons] at h1 ⊢
      omega
  have := key _ (cut_full l)
  rwa [cut_text] at this

theorem text_step {L : List Tk} {k : Nat} {t : Tk} (h : L[k]? = some t) : textOf (L.take (k + 1)) = textOf (L.take k) ++ t.raw := by
  obtain ⟨hl, he⟩ := List.getElem?_eq_some_iff.1 h
  rw [List.take_succ_eq_append_getElem hl, textOf, List.flatMap_append, he]
  simp [textOf]
theorem text_part {L : List Tk} (k : Nat) : (textOf (L.take k)).length ≤ (textOf L).length := by
  conv => rhs; rw [← List.take_append_drop k L]
  simp only [textOf, List.flatMap_append, List.length_append]
  omega

/-- a token of a slice, cell by cell -/
theorem TRd.tok {w : World} {B : Nat} {A : Option Addr} {n k : Nat} {L : List Tk} (h : TRd w B A n L) (hk : k < n) : ∃ b off t, A = some ⟨b, off, none⟩ ∧ b < B ∧ L[k]? = some t ∧
    w.cell? ⟨b, off + k * 4, none⟩ = some (.int .i64 t.k) ∧ w.cell? ⟨b, off + k * 4 + 1, none⟩ = some (.string (bs t.raw)) ∧ w.cell? ⟨b, off + k * 4 + 2, none⟩ = some (.string (bs t.val)) ∧ w.cell? ⟨b, off + k * 4 + 3, none⟩ = some (.int .i64 t.num) := by
  obtain ⟨b, off, t, hA, hlt, hd, hc⟩ := h.at_ hk
  exact ⟨b, off, t, hA, hlt, hd, hc 0 (by decide), hc 1 (by decide), hc 2 (by decide), hc 3 (by decide)⟩

theorem bs_toList (a : Bs) : (bs a).toList = a := ByteArray.toList_mk a
/-- == on two tokens -/
theorem run_eq_tok (a b : Tk) (w : World) : (binOp .eql 64 (.agg #[.int .i64 a.k, .string (bs a.raw), .string (bs a.val), .int .i64 a.num]) (.agg #[.int .i64 b.k, .string (bs b.raw), .string (bs b.val), .int .i64 b.num])).run Tryz.prog w = .ok (.bool (decide (a = b))) w := by
  rw [run_eql_struct, run_equalIn_agg w _ _ _ _ (by kernel_rfl) (by kernel_rfl)]
  simp only [Program.fieldsOf, Tryz.underlying64]
  obtain ⟨k1, r1, v1, n1⟩ := a
  obtain ⟨k2, r2, v2, n2⟩ := b
  simp [Op.eqFields, go_sem, Tryz.underlying9, Tryz.underlying3, bs_toList]
  (repeat' split) <;> simp_all
theorem run_ne_tok (a b : Tk) (w : World) : (binOp .neq 64 (.agg #[.int .i64 a.k, .string (bs a.raw), .string (bs a.val), .int .i64 a.num]) (.agg #[.int .i64 b.k, .string (bs b.raw), .string (bs b.val), .int .i64 b.num])).run Tryz.prog w = .ok (.bool (decide (a ≠ b))) w := by
  rw [run_neq_struct, run_equalIn_agg w _ _ _ _ (by kernel_rfl) (by kernel_rfl)]
  simp only [Program.fieldsOf, Tryz.underlying64]
  obtain ⟨k1, r1, v1, n1⟩ := a
  obtain ⟨k2, r2, v2, n2⟩ := b
  simp [Op.eqFields, go_sem, Tryz.underlying9, Tryz.underlying3, bs_toList]
  (repeat' split) <;> simp_all

theorem nv_lit (n : Nat) (h : n < 256) : nv (UInt8.ofNat n) = n := by simp [nv, UInt8.toNat_ofNat']; omega

theorem cut_fact : cutP [97, 58, 49, 112, 120] = [⟨1, [97], [97], 0⟩, ⟨12, [58], [], 0⟩, ⟨7, [49, 112, 120], [112, 120], 1000⟩] := by
  have f1 : firstP [97, 58, 49, 112, 120] = ⟨1, [97], [97], 0⟩ := by
    have hn : nameP [97, 58, 49, 112, 120] = ([97], 1) := by
      rw [nameP, if_neg (by decide), if_pos (by decide), nameP, if_neg (by decide), if_neg (by decide)]
    have hw : wordP [97, 58, 49, 112, 120] = ⟨1, [97], [97], 0⟩ := by
      have h1 : namedP 1 [97, 58, 49, 112, 120] 0 = ⟨1, [97], [97], 0⟩ := by
        simp only [namedP, List.drop_zero, hn]
        rfl
      simp only [wordP, h1]
      decide
    rw [firstP, if_neg (by decide), if_neg (by decide), if_neg (by decide), if_neg (by decide), if_neg (by decide), if_neg (by decide), if_pos (by decide), hw]
  have f2 : firstP [58, 49, 112, 120] = ⟨12, [58], [], 0⟩ := by
    rw [firstP, if_neg (by decide), if_neg (by decide), if_neg (by decide), if_neg (by decide), if_neg (by decide), if_neg (by decide), if_neg (by decide)]
    rfl
  have f3 : firstP [49, 112, 120] = ⟨7, [49, 112, 120], [112, 120], 1000⟩ := by
    have hn : nameP [112, 120] = ([112, 120], 2) := by
      rw [nameP, if_neg (by decide), if_pos (by decide), nameP, if_pos (by decide)]
    have hnum : numberP [49, 112, 120] = (1000, 1) := by decide
    rw [firstP, if_neg (by decide), if_neg (by decide), if_neg (by decide), if_neg (by decide), if_neg (by decide), hnum, if_pos (by decide)]
    simp only [numTkP]
    rw [if_neg (by decide), if_pos (by decide)]
    simp only [List.drop_succ_cons, List.drop_zero, hn]
    decide
  rw [cutP_cons (by decide), f1, cutP_cons (by decide)]
  simp only [List.length_cons, List.length_nil, List.drop_succ_cons, List.drop_zero, Nat.zero_add]
  rw [f2, cutP_cons (by decide)]
  simp only [List.length_cons, List.length_nil, List.drop_succ_cons, List.drop_zero, Nat.zero_add]
  rw [f3]
  simp [cutP_nil]

end Go.Proofs.YtaihncbejhnceaaGreatDoor.tok

namespace Go.Proofs.YtaihncbejhnceaaGreatDoor.dim
open Go.RowKit Go.Proofs.YtaihncbejhnceaaGreatDoor.base Go.Proofs.YtaihncbejhnceaaGreatDoor.tok
set_option linter.unusedVariables false

/-- strings lie there, one behind the other -/
def StrsAt (w : World) (R o : Nat) (L : List Bs) : Prop := R < w.heap.size ∧ ∀ (i : Nat) (s : Bs), L[i]? = some s → w.cell? ⟨R, o + i, none⟩ = some (.string (bs s))

theorem StrsAt.on {w w' : World} {R o : Nat} {L : List Bs} (h : StrsAt w R o L) (hb : Below w.heap.size w w') : StrsAt w' R o L :=
  ⟨Nat.lt_of_lt_of_le h.1 hb.size, fun i s hi => (hb.cell (p := ⟨R, o + i, none⟩) h.1).trans (h.2 i s hi)⟩

def strsData (L : List Bs) : DataW Unit := .slice (L.map fun s => .lit (.string s)) []

theorem strs_of_reads {P : Program} {w : World} {name : String} {g : Nat} {t e : TypeId} {L : List Bs} (hn : P.globalNamed name = some g) (hy : (P.globals[g]?).map (·.type) = some t)
    (ht : P.underlying t = some (.slice e)) (he : P.underlying e = some .string) (hc : P.cellsOf e = 1) (hl : 0 < L.length) (h : Lib.VarReads P w name (strsData L)) :
    ∃ R o cap, w.cell? ⟨g, 0, none⟩ = some (.slice (some ⟨R, o, none⟩) L.length cap) ∧ StrsAt w R o L := by
  obtain ⟨g', t', cs, fuel, p, hg, hty, hvar, hd⟩ := h
  obtain rfl := Option.some.inj (hn.symm.trans hg)
  obtain rfl := Option.some.inj (hy.symm.trans hty)
  rcases DataW.trod_slice ht hd with ⟨_, hx⟩ | ⟨a, len, cap, el, rs, m, rfl, hcs, hx, _, hlc, _, hel, helem, hsp, _⟩
  · cases hx
  have e0 := congrArg Prod.fst hx
  simp only [strsData, DataW.slice.injEq] at e0
  obtain ⟨eE, eR⟩ := e0
  have hlen : len = L.length := by
    have := congrArg List.length eE
    simp at this
    omega
  have hcell : ∀ i s, L[i]? = some s → w.cell? (a.add i) = some (.string (bs s)) := by
    intro i s hs
    have hi := (List.getElem?_eq_some_iff.1 hs).1
    have h1 := helem i (by omega)
    rw [hc] at h1
    obtain ⟨b, hb⟩ : ∃ b, el[i]? = some b := ⟨el[i]'(by omega), List.getElem?_eq_getElem (by omega)⟩
    rw [hb] at h1
    obtain ⟨ce, hce, hte⟩ := Option.bind_eq_some_iff.1 h1
    obtain ⟨z, hz, hbz, _⟩ := DataW.trod_string he hte
    have hb1 : b.1 = .lit (.string s) := by
      have := congrArg (·[i]?) eE
      simp [hb, hs] at this
      exact this.symm
    rw [hbz] at hb1
    simp only [DataW.lit.injEq, Lit.string.injEq] at hb1
    obtain ⟨_, _, hcc⟩ := World.cells?_some hce
    have := hcc 0 (by omega)
    rw [hz] at this
    simp only [Nat.mul_one] at this
    have e1 : (a.add i).add 0 = a.add i := by simp [Addr.add]
    rw [e1] at this
    rw [this, ← hb1]
    cases z
    simp [bs]
  obtain ⟨R, o, sR⟩ := a
  obtain ⟨s0, h0⟩ : ∃ s, L[0]? = some s := ⟨L[0], List.getElem?_eq_getElem hl⟩
  have h00 := hcell 0 s0 h0
  have ez : (Addr.add ⟨R, o, sR⟩ 0) = ⟨R, o, sR⟩ := by simp [Addr.add]
  rw [ez] at h00
  obtain rfl : sR = none := Go.Proofs.cell_spot h00
  refine ⟨R, o, cap, ?_, ?_, fun j s hj => ?_⟩
  · rw [World.var?_cell hg hvar 0, ← Array.getElem?_toList, hcs, hlen]
    rfl
  · rcases Nat.lt_or_ge R w.heap.size with hR | hR
    · exact hR
    · rw [World.cell?, Array.getElem?_eq_none hR] at h00
      cases h00
  · have := hcell j s hj
    rwa [Addr.add_lit] at this


set_option maxRecDepth 100000 in
set_option maxHeartbeats 2000000 in
/-- the place of the first one that is it; -1 -/
theorem index_ct (w : World) (R o cap : Nat) (L : List Bs) (s : Bs) (h : StrsAt w R o L) (hc : L.length ≤ maxLen) :
    Calls Tryz.prog 34 #[.slice (some ⟨R, o, none⟩) L.length cap, .string (bs s)] w fun e w' => (∃ r : Int, e = .returned (.int .i64 r) ∧ (0 ≤ r ↔ s ∈ L)) ∧ w' = w := by
  have H := Lib.hid h
  unfold maxLen at hc
  obtain ⟨n, hn⟩ : ∃ n, L.length = n := ⟨_, rfl⟩
  rw [hn] at hc
  rw [hn]
  clear h
  go_enter Tryz.func34, Tryz.ntmps34
  go_wp2_with fail
  go_loopw [8] (fun i wr => ∃ k : Nat, k ≤ n ∧ i = .int .i64 k ∧ (∀ x ∈ L.take k, ¬ x = s) ∧ wr = w) (fun i _ => n - (intOf i).toNat)
  case atStart => exact ⟨0, by omega, rfl, by simp, rfl⟩
  case round =>
    obtain ⟨k, hk, rfl, hno, rfl⟩ := hrel
    replace hno := Lib.hid hno
    by_cases hlt : k < n
    · have hlt' : (k : Int) < (n : Int) := by omega
      have hkl : k < L.length := by omega
      have hx := List.getElem?_eq_getElem hkl
      generalize hxd : L[k] = x at hx
      have e0 := H.out.2 k x hx
      by_cases hxs : s = x
      · have hmem : s ∈ L := by
          rw [hxs]
          exact List.mem_of_getElem? hx
        have heq : ((bs s).toList == (bs x).toList) = true := by rw [hxs]; simp
        replace hmem := Lib.hid hmem
        replace hxs := Lib.hid hxs
        clear hx hxd
        go_wp2
        go_ret
        exact ⟨⟨_, rfl, iff_of_true (by omega) hmem.out⟩, rfl⟩
      · have heq : ((bs s).toList == (bs x).toList) = false := by
          rw [bs_toList, bs_toList]
          simpa using hxs
        have hno2 := Lib.hid (show ∀ y ∈ L.take (k + 1), ¬ y = s from by
          rw [List.take_succ_eq_append_getElem hkl]
          intro y hy
          rcases List.mem_append.1 hy with hy | hy
          · exact hno.out y hy
          · obtain rfl : y = L[k] := by simpa using hy
            rw [hxd]
            exact fun e => hxs e.symm)
        replace hxs := Lib.hid hxs
        clear hx hxd
        go_wp2
        go_roundw
        case rel => exact ⟨k + 1, by omega, by go_num, hno2.out, trivial⟩
        case measure => simp [intOf]; omega
    · obtain rfl : k = n := by omega
      have hnm : ¬ s ∈ L := fun hm => hno.out s (by rw [← hn, List.take_length]; exact hm) rfl
      replace hnm := Lib.hid hnm
      go_wp2
      go_ret
      exact ⟨⟨_, rfl, iff_of_false (by omega) hnm.out⟩, rfl⟩

theorem contains_ct (w : World) (R o cap : Nat) (L : List Bs) (s : Bs) (h : StrsAt w R o L) (hc : L.length ≤ maxLen) (hm : s ∈ L) :
    Calls Tryz.prog 55 #[.slice (some ⟨R, o, none⟩) L.length cap, .string (bs s)] w fun e w' => e = .returned (.bool true) ∧ w' = w := by
  have cI := Lib.hid ((index_ct w R o cap L s h hc).mono (R' := fun e w' => ∃ r : Int, e = .returned (.int .i64 r) ∧ decide (r ≥ 0) = true ∧ w' = w) fun e w' ⟨⟨r, he, hr⟩, hw⟩ => ⟨r, he, decide_eq_true (hr.2 hm), hw⟩)
  generalize L.length = n at *
  go_enter Tryz.func55, Tryz.ntmps55
  go_wp2_with ((go_at_call 34; (with_reducible refine cI.out.mono ?_); rintro e w1 ⟨r, rfl, hr, rfl⟩))
  go_ret
  exact ⟨rfl, rfl⟩

theorem in_ct (n lo hi : Int) (w : World) :
    Calls Tryz.prog 64 #[.int .i64 n, .int .i64 lo, .int .i64 hi] w fun e w' => e = .returned (.bool (decide (lo ≤ n) && decide (n ≤ hi))) ∧ w' = w := by
  by_cases h1 : lo ≤ n
  · have d1 : decide (n ≥ lo) = true := decide_eq_true h1
    rw [decide_eq_true h1, Bool.true_and]
    go_enter Tryz.func64, Tryz.ntmps64
    go_wp2
    go_ret
    exact ⟨rfl, rfl⟩
  · have d1 : decide (n ≥ lo) = false := decide_eq_false h1
    rw [decide_eq_false h1, Bool.false_and]
    go_enter Tryz.func64, Tryz.ntmps64
    go_wp2
    go_ret
    exact ⟨rfl, rfl⟩

theorem ret_int {a b : Int} (h : a = b) : Ending.returned (.int .i64 a) = .returned (.int .i64 b) := by rw [h]

theorem clip_ct (n : Int) (w : World) :
    Calls Tryz.prog 65 #[.int .i64 n] w fun e w' => e = .returned (.int .i64 (min (max n (-16777216)) 16777216)) ∧ w' = w := by
  go_enter Tryz.func65, Tryz.ntmps65
  go_wp2
  go_ret
  refine ⟨ret_int ?_, rfl⟩
  omega

/-- rounding down -/
theorem quo_1000 (a : Int) : a / 1000 = if a.tmod 1000 < 0 then a.tdiv 1000 - 1 else a.tdiv 1000 := by
  have h1 := Int.mul_tdiv_add_tmod a 1000
  have h5 := Int.tmod_lt_of_pos a (show (0 : Int) < 1000 by decide)
  have h6 := Int.lt_tmod_of_pos a (show (0 : Int) < 1000 by decide)
  split <;> omega

set_option maxHeartbeats 1000000 in
theorem down1000_ct (a : Int) (ha : -4611686018427387904 ≤ a) (ha2 : a ≤ 4611686018427387904) (w : World) :
    Calls Tryz.prog 66 #[.int .i64 a, .int .i64 1000] w fun e w' => e = .returned (.int .i64 (a / 1000)) ∧ w' = w := by
  have hq := quo_1000 a
  by_cases hz : a.tmod 1000 < 0
  · rw [if_pos hz] at hq
    have d1 : decide (a.tmod 1000 < 0) = true := decide_eq_true hz
    have r1 := IntWalk.i64_in (a.tdiv 1000) (by omega)
    have r2 := IntWalk.i64_in (a.tdiv 1000 - 1) (by omega)
    replace hq := Lib.hid hq
    go_enter Tryz.func66, Tryz.ntmps66
    go_wp2
    go_ret
    exact ⟨ret_int hq.out.symm, rfl⟩
  · rw [if_neg hz] at hq
    have d1 : decide (a.tmod 1000 < 0) = false := decide_eq_false hz
    have r1 := IntWalk.i64_in (a.tdiv 1000) (by omega)
    replace hq := Lib.hid hq
    go_enter Tryz.func66, Tryz.ntmps66
    go_wp2
    go_ret
    exact ⟨ret_int hq.out.symm, rfl⟩

theorem quo_100000 (a : Int) : a / 100000 = if a.tmod 100000 < 0 then a.tdiv 100000 - 1 else a.tdiv 100000 := by
  have h1 := Int.mul_tdiv_add_tmod a 100000
  have h5 := Int.tmod_lt_of_pos a (show (0 : Int) < 100000 by decide)
  have h6 := Int.lt_tmod_of_pos a (show (0 : Int) < 100000 by decide)
  split <;> omega

set_option maxHeartbeats 1000000 in
theorem down100000_ct (a : Int) (ha : -4611686018427387904 ≤ a) (ha2 : a ≤ 4611686018427387904) (w : World) :
    Calls Tryz.prog 66 #[.int .i64 a, .int .i64 100000] w fun e w' => e = .returned (.int .i64 (a / 100000)) ∧ w' = w := by
  have hq := quo_100000 a
  by_cases hz : a.tmod 100000 < 0
  · rw [if_pos hz] at hq
    have d1 : decide (a.tmod 100000 < 0) = true := decide_eq_true hz
    have r1 := IntWalk.i64_in (a.tdiv 100000) (by omega)
    have r2 := IntWalk.i64_in (a.tdiv 100000 - 1) (by omega)
    replace hq := Lib.hid hq
    go_enter Tryz.func66, Tryz.ntmps66
    go_wp2
    go_ret
    exact ⟨ret_int hq.out.symm, rfl⟩
  · rw [if_neg hz] at hq
    have d1 : decide (a.tmod 100000 < 0) = false := decide_eq_false hz
    have r1 := IntWalk.i64_in (a.tdiv 100000) (by omega)
    replace hq := Lib.hid hq
    go_enter Tryz.func66, Tryz.ntmps66
    go_wp2
    go_ret
    exact ⟨ret_int hq.out.symm, rfl⟩

end Go.Proofs.YtaihncbejhnceaaGreatDoor.dim

namespace Go.Proofs.YtaihncbejhnceaaGreatDoor.dim
open Go.RowKit Go.Proofs.YtaihncbejhnceaaGreatDoor.base Go.Proofs.YtaihncbejhnceaaGreatDoor.tok
set_option linter.unusedVariables false

def unitsL : List Bs := [[], [112, 120], [101, 109], [114, 101, 109], [118, 119], [118, 104], [37]]

/-- dim.units as it is laid -/
def UnitsAt (w : World) : Prop := 0 < w.heap.size ∧ ∃ R o cap, w.cell? ⟨0, 0, none⟩ = some (.slice (some ⟨R, o, none⟩) 7 cap) ∧ StrsAt w R o unitsL
theorem UnitsAt.on {w w' : World} (h : UnitsAt w) (hb : Below w.heap.size w w') : UnitsAt w' := by
  obtain ⟨h0, R, o, cap, hc, hs⟩ := h
  exact ⟨Nat.lt_of_lt_of_le h0 hb.size, R, o, cap, (hb.cell (p := ⟨_, 0, none⟩) h0).trans hc, hs.on hb⟩

theorem one_tok {w : World} {B : Nat} {A : Option Addr} {t : Tk} (h : TRd w B A 1 [t]) : ∃ b off, A = some ⟨b, off, none⟩ ∧ b < B ∧
    w.cell? ⟨b, off, none⟩ = some (.int .i64 t.k) ∧ w.cell? ⟨b, off + 1, none⟩ = some (.string (bs t.raw)) ∧ w.cell? ⟨b, off + 2, none⟩ = some (.string (bs t.val)) ∧ w.cell? ⟨b, off + 3, none⟩ = some (.int .i64 t.num) := by
  obtain ⟨b, off, u, hA, hlt, hd, e0, e1, e2, e3⟩ := TRd.tok h (show 0 < 1 by decide)
  obtain rfl : t = u := by simpa using hd
  simp only [Nat.zero_mul, Nat.add_zero] at e0 e1 e2 e3
  exact ⟨b, off, hA, hlt, e0, e1, e2, e3⟩

set_option maxRecDepth 100000 in
set_option maxHeartbeats 4000000 in
theorem read_ct (s : ByteArray) (hs : s.size < 4294967281) (raw u : Bs) (n : Int) (hcut : cutP s.data.toList = [⟨7, raw, u, n⟩]) (hu : u ∈ unitsL) (w : World) (hm : MaxL w) (hU : UnitsAt w) :
    Calls Tryz.prog 29 #[.string s] w fun e w' => e = .returned (.tuple #[.agg #[.int .i64 n, .string (bs u)], .int .i64 0]) ∧ Below w.heap.size w w' := by
  have cC : ∀ w, MaxL w → Calls Tryz.prog 15 #[.string s] w fun e w' => (∃ b off cap, e = .returned (.slice (some ⟨b, off, none⟩) 1 cap) ∧ b < w'.heap.size ∧ w'.cell? ⟨b, off, none⟩ = some (.int .i64 7) ∧ w'.cell? ⟨b, off + 1, none⟩ = some (.string (bs raw)) ∧ w'.cell? ⟨b, off + 2, none⟩ = some (.string (bs u)) ∧ w'.cell? ⟨b, off + 3, none⟩ = some (.int .i64 n)) ∧ Below w.heap.size w w' := fun w hm =>
    (cut_ct s hs w hm).mono fun e w' ⟨⟨A, cap, he, _, hr⟩, hb⟩ => by
      rw [hcut] at he hr
      obtain ⟨b, off, rfl, hlt, e0, e1, e2, e3⟩ := one_tok hr
      exact ⟨⟨b, off, cap, he, hlt, e0, e1, e2, e3⟩, hb⟩
  replace cC := Lib.hid cC
  replace hcut := Lib.hid hcut
  replace hU := Lib.hid hU
  replace hu := Lib.hid hu
  go_enter Tryz.func29, Tryz.ntmps29
  go_wp2_with ((go_at_call 15; (with_reducible refine (cC.out _ (hm.on ((Below.refl w.heap.size w).alloc (Nat.le_refl _) _) hm.lt)).mono ?_); rintro e W1 ⟨⟨b, off, cap, rfl, hlt, e0, e1, e2, e3⟩, hb1⟩; have HB1 := Lib.hid (((Below.refl w.heap.size w).alloc (Nat.le_refl _) _).trans (hb1.mono (by simp))); have hblk := (Blk.new (w := w) (t := 26) (cs := #[.int .i64 0, .string .empty]) rfl).below hb1 (by simp)))
  obtain ⟨hg, R, o, ucap, hc, hst⟩ := hU.out.on HB1.out
  have cI : ∀ n, Calls Tryz.prog 55 #[.slice (some ⟨R, o, none⟩) 7 ucap, .string (bs u)] (W1.drewN n) fun e w' => e = .returned (.bool true) ∧ W1.drewN n = w' := fun n => (contains_ct (W1.drewN n) R o ucap unitsL u hst (by decide) hu.out).mono fun e w' ⟨he, hw⟩ => ⟨he, hw.symm⟩
  replace cI := Lib.hid cI
  have hx : (0 : Int) < 1 := by decide
  go_quiet ((go_at_call 55; exact quiet_left (cI.out _)))
  go_wp2_with fail
  have r1 := hblk.cell
  have r2 := hblk.frozen
  have r3 := fun v => (hblk.put 0 v).cell
  have r4 := fun v => (hblk.put 0 v).frozen
  go_region
  go_wp2
  have e := (((hblk.drewN (nq + 1)).put 0 (.int .i64 n)).put 1 (.string (bs u))).cell
  refine bodyPost_ret (v := .tuple #[.agg #[.int .i64 n, .string (bs u)], .int .i64 0]) (by simp [results, Tryz.results29, go_sem, e]) rfl ⟨rfl, ?_⟩
  exact ((Go.Proofs.YtaihncbejhnceaaGreatDoor.base.below_drewN HB1.out (nq + 1)).setCell (Nat.le_refl _) _).setCell (Nat.le_refl _) _

theorem cut_half : cutP [49, 46, 53, 48, 101, 109] = [⟨7, [49, 46, 53, 48, 101, 109], [101, 109], 1500⟩] := by
  have f3 : firstP [49, 46, 53, 48, 101, 109] = ⟨7, [49, 46, 53, 48, 101, 109], [101, 109], 1500⟩ := by
    have hn : nameP [101, 109] = ([101, 109], 2) := by
      rw [nameP, if_neg (by decide), if_pos (by decide), nameP, if_pos (by decide)]
    have hnum : numberP [49, 46, 53, 48, 101, 109] = (1500, 4) := by decide
    rw [firstP, if_neg (by decide), if_neg (by decide), if_neg (by decide), if_neg (by decide), if_neg (by decide), hnum, if_pos (by decide)]
    simp only [numTkP]
    rw [if_neg (by decide), if_pos (by decide)]
    simp only [List.drop_succ_cons, List.drop_zero, hn]
    decide
  rw [cutP_cons (by decide), f3]
  simp [cutP_nil]

theorem run_eq_dim (a b : Int × Bs) (w : World) : (binOp .eql 26 (.agg #[.int .i64 a.1, .string (bs a.2)]) (.agg #[.int .i64 b.1, .string (bs b.2)])).run Tryz.prog w = .ok (.bool (decide (a = b))) w := by
  rw [run_eql_struct, run_equalIn_agg w _ _ _ _ (by kernel_rfl) (by kernel_rfl)]
  simp only [Program.fieldsOf, Tryz.underlying26]
  obtain ⟨k1, r1⟩ := a
  obtain ⟨k2, r2⟩ := b
  simp [Op.eqFields, go_sem, Tryz.underlying9, Tryz.underlying3, bs_toList]
  (repeat' split) <;> simp_all

end Go.Proofs.YtaihncbejhnceaaGreatDoor.dim

namespace Go.Proofs.YtaihncbejhnceaaGreatDoor.dim
open Go.RowKit Go.Proofs.YtaihncbejhnceaaGreatDoor.base Go.Proofs.YtaihncbejhnceaaGreatDoor.tok
set_option linter.unusedVariables false

def inB (n lo hi : Int) : Bool := decide (lo ≤ n) && decide (n ≤ hi)
/-- all in their bounds -/
def okP (n em rem vw vh : Int) : Bool := inB n (-1000000000) 1000000000 && inB em 0 16777216 && inB rem 0 16777216 && inB vw 1 4000 && inB vh 1 4000
def clipI (x : Int) : Int := min (max x (-16777216)) 16777216

theorem inB_iff (n lo hi : Int) : inB n lo hi = true ↔ lo ≤ n ∧ n ≤ hi := by simp [inB]
theorem mulb {x y X Y : Int} (h0 : -X ≤ x) (h1 : x ≤ X) (k0 : 0 ≤ y) (k1 : y ≤ Y) : -(X * Y) ≤ x * y ∧ x * y ≤ X * Y := by
  have hX : 0 ≤ X := by omega
  have a := Int.mul_le_mul_of_nonneg_right h1 k0
  have b := Int.mul_le_mul_of_nonneg_left k1 hX
  have c := Int.mul_le_mul_of_nonneg_right h0 k0
  rw [Int.neg_mul] at c
  omega

theorem in_b (n lo hi : Int) (w : World) :
    Calls Tryz.prog 64 #[.int .i64 n, .int .i64 lo, .int .i64 hi] w fun e w' => e = .returned (.bool (inB n lo hi)) ∧ w' = w := in_ct n lo hi w

/-- what is not in its bounds -/
def refusedT : Value := .tuple #[.int .i64 0, .int .i64 1]

theorem okP_of {n em rem vw vh : Int} (h : okP n em rem vw vh = true) : inB n (-1000000000) 1000000000 = true ∧ inB em 0 16777216 = true ∧ inB rem 0 16777216 = true ∧ inB vw 1 4000 = true ∧ inB vh 1 4000 = true := by
  simp only [okP, Bool.and_eq_true] at h
  exact ⟨h.1.1.1.1, h.1.1.1.2, h.1.1.2, h.1.2, h.2⟩
theorem okP_not {n em rem vw vh : Int} (h : okP n em rem vw vh = false) : inB n (-1000000000) 1000000000 = false ∨ (inB n (-1000000000) 1000000000 = true ∧ inB em 0 16777216 = false) ∨ (inB n (-1000000000) 1000000000 = true ∧ inB em 0 16777216 = true ∧ inB rem 0 16777216 = false) ∨
    (inB n (-1000000000) 1000000000 = true ∧ inB em 0 16777216 = true ∧ inB rem 0 16777216 = true ∧ inB vw 1 4000 = false) ∨ (inB n (-1000000000) 1000000000 = true ∧ inB em 0 16777216 = true ∧ inB rem 0 16777216 = true ∧ inB vw 1 4000 = true ∧ inB vh 1 4000 = false) := by
  unfold okP at h
  cases h1 : inB n (-1000000000) 1000000000 <;> cases h2 : inB em 0 16777216 <;> cases h3 : inB rem 0 16777216 <;> cases h4 : inB vw 1 4000 <;> cases h5 : inB vh 1 4000 <;> simp_all

set_option maxRecDepth 100000 in
set_option maxHeartbeats 4000000 in
theorem px_bad (u : ByteArray) (n em rem vw vh : Int) (h : okP n em rem vw vh = false) (w : World) :
    Calls Tryz.prog 42 #[.agg #[.int .i64 n, .string u], .agg #[.int .i64 em, .int .i64 rem, .int .i64 vw, .int .i64 vh]] w fun e w' =>
      e = .returned refusedT ∧ Below w.heap.size w w' := by
  rcases okP_not h with h1 | ⟨h1, h2⟩ | ⟨h1, h2, h3⟩ | ⟨h1, h2, h3, h4⟩ | ⟨h1, h2, h3, h4, h5⟩
  · clear h
    go_enter Tryz.func42, Tryz.ntmps42
    go_wp2_with ((go_at_call 64; (with_reducible refine (in_b _ _ _ _).mono ?_); rintro e W1 ⟨rfl, rfl⟩))
    refine bodyPost_ret (v := refusedT) (by simp [results, Tryz.results42, go_sem, refusedT]) rfl ⟨rfl, ?_⟩
    exact ((Below.refl w.heap.size w).alloc (Nat.le_refl _) _).alloc (by simp) _
  · clear h
    go_enter Tryz.func42, Tryz.ntmps42
    go_wp2_with ((go_at_call 64; (with_reducible refine (in_b _ _ _ _).mono ?_); rintro e W1 ⟨rfl, rfl⟩))
    refine bodyPost_ret (v := refusedT) (by simp [results, Tryz.results42, go_sem, refusedT]) rfl ⟨rfl, ?_⟩
    exact ((Below.refl w.heap.size w).alloc (Nat.le_refl _) _).alloc (by simp) _
  · clear h
    go_enter Tryz.func42, Tryz.ntmps42
    go_wp2_with ((go_at_call 64; (with_reducible refine (in_b _ _ _ _).mono ?_); rintro e W1 ⟨rfl, rfl⟩))
    refine bodyPost_ret (v := refusedT) (by simp [results, Tryz.results42, go_sem, refusedT]) rfl ⟨rfl, ?_⟩
    exact ((Below.refl w.heap.size w).alloc (Nat.le_refl _) _).alloc (by simp) _
  · clear h
    go_enter Tryz.func42, Tryz.ntmps42
    go_wp2_with ((go_at_call 64; (with_reducible refine (in_b _ _ _ _).mono ?_); rintro e W1 ⟨rfl, rfl⟩))
    refine bodyPost_ret (v := refusedT) (by simp [results, Tryz.results42, go_sem, refusedT]) rfl ⟨rfl, ?_⟩
    exact ((Below.refl w.heap.size w).alloc (Nat.le_refl _) _).alloc (by simp) _
  · clear h
    go_enter Tryz.func42, Tryz.ntmps42
    go_wp2_with ((go_at_call 64; (with_reducible refine (in_b _ _ _ _).mono ?_); rintro e W1 ⟨rfl, rfl⟩))
    refine bodyPost_ret (v := refusedT) (by simp [results, Tryz.results42, go_sem, refusedT]) rfl ⟨rfl, ?_⟩
    exact ((Below.refl w.heap.size w).alloc (Nat.le_refl _) _).alloc (by simp) _

set_option maxRecDepth 100000 in
set_option maxHeartbeats 4000000 in
theorem px_px (n em rem vw vh : Int) (h : okP n em rem vw vh = true) (w : World) :
    Calls Tryz.prog 42 #[.agg #[.int .i64 n, .string ⟨#[112, 120]⟩], .agg #[.int .i64 em, .int .i64 rem, .int .i64 vw, .int .i64 vh]] w fun e w' =>
      e = .returned (.tuple #[.int .i64 (clipI (n * 64 / 1000)), .int .i64 0]) ∧ Below w.heap.size w w' := by
  obtain ⟨h1, h2, h3, h4, h5⟩ := okP_of h
  clear h
  have b1 := (inB_iff _ _ _).1 h1
  have b2 := (inB_iff _ _ _).1 h2
  have b3 := (inB_iff _ _ _).1 h3
  have b4 := (inB_iff _ _ _).1 h4
  have b5 := (inB_iff _ _ _).1 h5
  obtain ⟨m0, m1⟩ := mulb (x := n) (X := 1000000000) (y := 64) (Y := 64) (by omega) (by omega) (by omega) (by omega)
  have cD := Lib.hid (fun w => down1000_ct (n * 64) (by omega) (by omega) w)
  have cP := Lib.hid (fun w => clip_ct (n * 64 / 1000) w)
  have r1 := IntWalk.i64_in (n * 64) (by omega)
  clear b1 b2 b3 b4 b5 m0 m1
  go_enter Tryz.func42, Tryz.ntmps42
  go_wp2_with (first
    | (go_at_call 64; (with_reducible refine (in_b _ _ _ _).mono ?_); rintro e W1 ⟨rfl, rfl⟩)
    | (go_at_call 66; (with_reducible refine (cD.out _).mono ?_); rintro e W1 ⟨rfl, rfl⟩)
    | (go_at_call 65; (with_reducible refine (cP.out _).mono ?_); rintro e W1 ⟨rfl, rfl⟩))
  refine bodyPost_ret (v := .tuple #[.int .i64 (clipI (n * 64 / 1000)), .int .i64 0]) (by simp [results, Tryz.results42, go_sem, clipI]) rfl ⟨rfl, ?_⟩
  exact ((Below.refl w.heap.size w).alloc (Nat.le_refl _) _).alloc (by simp) _

set_option maxRecDepth 100000 in
set_option maxHeartbeats 4000000 in
theorem px_em (n em rem vw vh : Int) (h : okP n em rem vw vh = true) (w : World) :
    Calls Tryz.prog 42 #[.agg #[.int .i64 n, .string ⟨#[101, 109]⟩], .agg #[.int .i64 em, .int .i64 rem, .int .i64 vw, .int .i64 vh]] w fun e w' =>
      e = .returned (.tuple #[.int .i64 (clipI (n * em / 1000)), .int .i64 0]) ∧ Below w.heap.size w w' := by
  obtain ⟨h1, h2, h3, h4, h5⟩ := okP_of h
  clear h
  have b1 := (inB_iff _ _ _).1 h1
  have b2 := (inB_iff _ _ _).1 h2
  have b3 := (inB_iff _ _ _).1 h3
  have b4 := (inB_iff _ _ _).1 h4
  have b5 := (inB_iff _ _ _).1 h5
  obtain ⟨m0, m1⟩ := mulb (x := n) (X := 1000000000) (y := em) (Y := 16777216) (by omega) (by omega) (by omega) (by omega)
  have cD := Lib.hid (fun w => down1000_ct (n * em) (by omega) (by omega) w)
  have cP := Lib.hid (fun w => clip_ct (n * em / 1000) w)
  have r1 := IntWalk.i64_in (n * em) (by omega)
  clear b1 b2 b3 b4 b5 m0 m1
  go_enter Tryz.func42, Tryz.ntmps42
  go_wp2_with (first
    | (go_at_call 64; (with_reducible refine (in_b _ _ _ _).mono ?_); rintro e W1 ⟨rfl, rfl⟩)
    | (go_at_call 66; (with_reducible refine (cD.out _).mono ?_); rintro e W1 ⟨rfl, rfl⟩)
    | (go_at_call 65; (with_reducible refine (cP.out _).mono ?_); rintro e W1 ⟨rfl, rfl⟩))
  refine bodyPost_ret (v := .tuple #[.int .i64 (clipI (n * em / 1000)), .int .i64 0]) (by simp [results, Tryz.results42, go_sem, clipI]) rfl ⟨rfl, ?_⟩
  exact ((Below.refl w.heap.size w).alloc (Nat.le_refl _) _).alloc (by simp) _

set_option maxRecDepth 100000 in
set_option maxHeartbeats 4000000 in
theorem px_rem (n em rem vw vh : Int) (h : okP n em rem vw vh = true) (w : World) :
    Calls Tryz.prog 42 #[.agg #[.int .i64 n, .string ⟨#[114, 101, 109]⟩], .agg #[.int .i64 em, .int .i64 rem, .int .i64 vw, .int .i64 vh]] w fun e w' =>
      e = .returned (.tuple #[.int .i64 (clipI (n * rem / 1000)), .int .i64 0]) ∧ Below w.heap.size w w' := by
  obtain ⟨h1, h2, h3, h4, h5⟩ := okP_of h
  clear h
  have b1 := (inB_iff _ _ _).1 h1
  have b2 := (inB_iff _ _ _).1 h2
  have b3 := (inB_iff _ _ _).1 h3
  have b4 := (inB_iff _ _ _).1 h4
  have b5 := (inB_iff _ _ _).1 h5
  obtain ⟨m0, m1⟩ := mulb (x := n) (X := 1000000000) (y := rem) (Y := 16777216) (by omega) (by omega) (by omega) (by omega)
  have cD := Lib.hid (fun w => down1000_ct (n * rem) (by omega) (by omega) w)
  have cP := Lib.hid (fun w => clip_ct (n * rem / 1000) w)
  have r1 := IntWalk.i64_in (n * rem) (by omega)
  clear b1 b2 b3 b4 b5 m0 m1
  go_enter Tryz.func42, Tryz.ntmps42
  go_wp2_with (first
    | (go_at_call 64; (with_reducible refine (in_b _ _ _ _).mono ?_); rintro e W1 ⟨rfl, rfl⟩)
    | (go_at_call 66; (with_reducible refine (cD.out _).mono ?_); rintro e W1 ⟨rfl, rfl⟩)
    | (go_at_call 65; (with_reducible refine (cP.out _).mono ?_); rintro e W1 ⟨rfl, rfl⟩))
  refine bodyPost_ret (v := .tuple #[.int .i64 (clipI (n * rem / 1000)), .int .i64 0]) (by simp [results, Tryz.results42, go_sem, clipI]) rfl ⟨rfl, ?_⟩
  exact ((Below.refl w.heap.size w).alloc (Nat.le_refl _) _).alloc (by simp) _

set_option maxRecDepth 100000 in
set_option maxHeartbeats 4000000 in
theorem px_vw (n em rem vw vh : Int) (h : okP n em rem vw vh = true) (w : World) :
    Calls Tryz.prog 42 #[.agg #[.int .i64 n, .string ⟨#[118, 119]⟩], .agg #[.int .i64 em, .int .i64 rem, .int .i64 vw, .int .i64 vh]] w fun e w' =>
      e = .returned (.tuple #[.int .i64 (clipI (n * (64 * vw) / 100000)), .int .i64 0]) ∧ Below w.heap.size w w' := by
  obtain ⟨h1, h2, h3, h4, h5⟩ := okP_of h
  clear h
  have b1 := (inB_iff _ _ _).1 h1
  have b2 := (inB_iff _ _ _).1 h2
  have b3 := (inB_iff _ _ _).1 h3
  have b4 := (inB_iff _ _ _).1 h4
  have b5 := (inB_iff _ _ _).1 h5
  obtain ⟨m0, m1⟩ := mulb (x := n) (X := 1000000000) (y := (64 * vw)) (Y := 256000) (by omega) (by omega) (by omega) (by omega)
  have cD := Lib.hid (fun w => down100000_ct (n * (64 * vw)) (by omega) (by omega) w)
  have cP := Lib.hid (fun w => clip_ct (n * (64 * vw) / 100000) w)
  have r1 := IntWalk.i64_in (n * (64 * vw)) (by omega)
  have r0 := IntWalk.i64_in (64 * vw) (by omega)
  clear b1 b2 b3 b4 b5 m0 m1
  go_enter Tryz.func42, Tryz.ntmps42
  go_wp2_with (first
    | (go_at_call 64; (with_reducible refine (in_b _ _ _ _).mono ?_); rintro e W1 ⟨rfl, rfl⟩)
    | (go_at_call 66; (with_reducible refine (cD.out _).mono ?_); rintro e W1 ⟨rfl, rfl⟩)
    | (go_at_call 65; (with_reducible refine (cP.out _).mono ?_); rintro e W1 ⟨rfl, rfl⟩))
  refine bodyPost_ret (v := .tuple #[.int .i64 (clipI (n * (64 * vw) / 100000)), .int .i64 0]) (by simp [results, Tryz.results42, go_sem, clipI]) rfl ⟨rfl, ?_⟩
  exact ((Below.refl w.heap.size w).alloc (Nat.le_refl _) _).alloc (by simp) _

set_option maxRecDepth 100000 in
set_option maxHeartbeats 4000000 in
theorem px_vh (n em rem vw vh : Int) (h : okP n em rem vw vh = true) (w : World) :
    Calls Tryz.prog 42 #[.agg #[.int .i64 n, .string ⟨#[118, 104]⟩], .agg #[.int .i64 em, .int .i64 rem, .int .i64 vw, .int .i64 vh]] w fun e w' =>
      e = .returned (.tuple #[.int .i64 (clipI (n * (64 * vh) / 100000)), .int .i64 0]) ∧ Below w.heap.size w w' := by
  obtain ⟨h1, h2, h3, h4, h5⟩ := okP_of h
  clear h
  have b1 := (inB_iff _ _ _).1 h1
  have b2 := (inB_iff _ _ _).1 h2
  have b3 := (inB_iff _ _ _).1 h3
  have b4 := (inB_iff _ _ _).1 h4
  have b5 := (inB_iff _ _ _).1 h5
  obtain ⟨m0, m1⟩ := mulb (x := n) (X := 1000000000) (y := (64 * vh)) (Y := 256000) (by omega) (by omega) (by omega) (by omega)
  have cD := Lib.hid (fun w => down100000_ct (n * (64 * vh)) (by omega) (by omega) w)
  have cP := Lib.hid (fun w => clip_ct (n * (64 * vh) / 100000) w)
  have r1 := IntWalk.i64_in (n * (64 * vh)) (by omega)
  have r0 := IntWalk.i64_in (64 * vh) (by omega)
  clear b1 b2 b3 b4 b5 m0 m1
  go_enter Tryz.func42, Tryz.ntmps42
  go_wp2_with (first
    | (go_at_call 64; (with_reducible refine (in_b _ _ _ _).mono ?_); rintro e W1 ⟨rfl, rfl⟩)
    | (go_at_call 66; (with_reducible refine (cD.out _).mono ?_); rintro e W1 ⟨rfl, rfl⟩)
    | (go_at_call 65; (with_reducible refine (cP.out _).mono ?_); rintro e W1 ⟨rfl, rfl⟩))
  refine bodyPost_ret (v := .tuple #[.int .i64 (clipI (n * (64 * vh) / 100000)), .int .i64 0]) (by simp [results, Tryz.results42, go_sem, clipI]) rfl ⟨rfl, ?_⟩
  exact ((Below.refl w.heap.size w).alloc (Nat.le_refl _) _).alloc (by simp) _

end Go.Proofs.YtaihncbejhnceaaGreatDoor.dim

namespace Go.Proofs.YtaihncbejhnceaaGreatDoor.base
open Go.RowKit Go.ChangeShapes Go.WideShapes Go.ChangeAt
set_option linter.unusedVariables false

theorem ownD : ownKnob Tryz.prog.godebug = none := by kernel_rfl
theorem laidOutD : laidOutB Tryz.prog = true := by kernel_rfl

/-- the library's MaxLen holds some number -/
theorem maxLen_of {W : World} (h : W.ShapedOpen Tryz.prog) : ∃ m, W.cell? ⟨1, 0, none⟩ = some (.int .i64 m) :=
  cell_of_shapedOpen_int (zero := #[.int .i64 0]) (t := 3) h (of_decide_eq_true (by kernel_rfl)) (by kernel_rfl) rfl (by kernel_rfl) (by kernel_rfl) Tryz.underlying3

section
variable {H : Type} {enc : TypeId × Value → H}
/-- the wrap: what is listed, and the world's shape -/
theorem returns_door {a : Assume} {C : Checked} {os : Os} {f : FuncId} {fn : Func} {s : ChangeSpec} {conds : List PathCond} {apart fresh handsOn again : Bool} {X : World → Array Value → Prop}
    (hX : ∀ (w w' : World) (args : Array Value), w.heap = w'.heap → X w args → X w' args)
    (own : ownKnob C.prog.godebug = none) (started : os.Started) (noInit : C.prog.inits.idxOf? f = none) (hfn : C.prog.funcs[f]? = some fn)
    (witness : ∃ (w : World) (tape : Tape) (i : Input), w.os = os ∧ (w.forCall tape i).Shaped C.prog ∧ i.vars = [] ∧ Input.okWide C.prog (w.forCall tape i) .any w.heap.size f i ∧
      ((s.pre enc C.prog fn conds apart (w.forCall tape i).memory i.args ∧ X (w.forCall tape i).memory i.args) ∧ sizedMet enc C.prog fn (OpenSpec.ofChange s) apart (w.forCall tape i).memory i.args) ∧ a.holds C.prog (lone (Frame.enter C.prog f i.args .normal) [] (w.forCall tape i)))
    (contract : ∀ (W : World) (base : Nat) (args : Array Value) (ds gs : List (DataW H)) (before : List MemPlace),
      (∀ (j : Nat) t v, fn.params[j]? = some t → args[j]? = some v → Value.okWide C.prog W .any base t v) →
      DataW.Whole enc C.prog fn.params.toList s.vars apart W args.toList ds gs before →
      (DataW.weightsEach C.prog (fn.params.toList ++ s.plain.varTypes C.prog) (ds ++ gs)).all (· ≤ reachBytes) = true → X W args →
      W.ShapedOpen C.prog →
      Calls C.prog f args W fun e W' => ∃ v, e = .returned v ∧ s.post enc C.prog fn apart fresh handsOn again W args v W') :
    ReturnsInHanded a C os f .any (fun w args => (s.pre enc C.prog fn conds apart w args ∧ X w args) ∧ sizedMet enc C.prog fn (OpenSpec.ofChange s) apart w args) (s.post enc C.prog fn apart fresh handsOn again) := by
  refine returnsInHanded_of_calls own started noInit witness ?_
  intro w tape i _ hsh _ hok hpre hholds
  obtain ⟨_, _, _, fn', hfn', _, _, _, _, hval⟩ := hok
  have e : fn' = fn := Option.some.inj (hfn'.symm.trans hfn)
  subst e
  obtain ⟨⟨⟨ds, gs, before, hw, hc⟩, hx⟩, hz⟩ := hpre
  have hw' := DataW.Whole.of_heap (w' := w.forCall tape i) (by rfl) hw
  refine (contract (w.forCall tape i) w.heap.size i.args ds gs before hval hw' (hz.weights hw) (hX _ _ _ (by rfl) hx) hsh).mono fun e W' ⟨v, he, hp⟩ => ?_
  subst he
  exact ChangeSpec.post_blind hp
end

end Go.Proofs.YtaihncbejhnceaaGreatDoor.base

namespace Go.Proofs.YtaihncbejhnceaaGreatDoor.dim
open Go.RowKit Go.Proofs.YtaihncbejhnceaaGreatDoor.base Go.Proofs.YtaihncbejhnceaaGreatDoor.tok Go.ChangeShapes Go.WideShapes Go.ChangeAt
set_option linter.unusedVariables false

/-- the number of a unit -/
theorem five (u : Int) : ∃ r : Nat, r < 5 ∧ (IntKind.u64.wrap u).tmod 5 = (r : Int) := by
  have h0 : 0 ≤ IntKind.u64.wrap u := by simp [IntKind.wrap, IntKind.bits, IntKind.signed]; omega
  generalize IntKind.u64.wrap u = v at *
  rw [Int.tmod_eq_emod_of_nonneg h0]
  exact ⟨(v % 5).toNat, by omega, by omega⟩
theorem clip_mono {x y : Int} (h : x ≤ y) : clipI x ≤ clipI y := by unfold clipI; omega
theorem more_of {n m f d : Int} (h : n ≤ m) (hf : 0 ≤ f) (hd : 0 < d) : clipI (n * f / d) ≤ clipI (m * f / d) :=
  clip_mono (Int.ediv_le_ediv hd (Int.mul_le_mul_of_nonneg_right h hf))


section
variable {H : Type} {enc : TypeId × Value → H} {w : World} {base : Nat} {spare : Nat → Bool} {held : Bool}
set_option maxRecDepth 100000 in
/-- a scale, as it comes in -/
theorem open_scale {r : Reach} {b0 : Nat} {v : Value} {d : DataW H} {p : List MemPlace} (hv : Value.okWide Tryz.prog w r b0 23 v) (h : DataW.Trod enc Tryz.prog w base spare held 23 v d p) :
    ∃ em rem vw vh : Int, v = .agg #[.int .i64 em, .int .i64 rem, .int .i64 vw, .int .i64 vh] := by
  obtain ⟨cs, rfl, hsz, hf⟩ := open_flat Tryz.underlying23 (by kernel_rfl) (by kernel_rfl) hv h
  obtain ⟨u0, y0, n0, g0, h0⟩ := hf 0 _ rfl
  obtain ⟨u1, y1, n1, g1, h1⟩ := hf 1 _ rfl
  obtain ⟨u2, y2, n2, g2, h2⟩ := hf 2 _ rfl
  obtain ⟨u3, y3, n3, g3, h3⟩ := hf 3 _ rfl
  obtain ⟨i0, e0, _, _⟩ := DataW.trod_int Tryz.underlying3 h0
  obtain ⟨i1, e1, _, _⟩ := DataW.trod_int Tryz.underlying3 h1
  obtain ⟨i2, e2, _, _⟩ := DataW.trod_int Tryz.underlying3 h2
  obtain ⟨i3, e3, _, _⟩ := DataW.trod_int Tryz.underlying3 h3
  simp only [List.cons.injEq, and_true] at e0 e1 e2 e3
  subst e0 e1 e2 e3
  obtain ⟨l⟩ := cs
  match l, hsz with
  | [a0, a1, a2, a3], _ =>
    simp at g0 g1 g2 g3
    subst g0 g1 g2 g3
    exact ⟨_, _, _, _, rfl⟩
end

set_option maxRecDepth 100000 in
theorem units_of {w : World} {l : List (String × DataW Unit)} (h : laidMet Tryz.prog l w) (hm : ("clerestory/dim.units", Rows.laid_clerestory_dim_units) ∈ l) : UnitsAt w := by
  obtain ⟨R, o, cap, hc, hs⟩ := strs_of_reads (P := Tryz.prog) (g := 0) (L := unitsL) (by kernel_rfl) (by kernel_rfl) Tryz.underlying42 Tryz.underlying9 (by kernel_rfl) (by decide) (Lib.laidMet.reads h hm)
  exact ⟨World.block_lt_of_cell? w _ hc, R, o, cap, hc, hs⟩

end Go.Proofs.YtaihncbejhnceaaGreatDoor.dim

namespace Go.Proofs.YtaihncbejhnceaaGreatDoor.rul
open Go.RowKit Go.Proofs.YtaihncbejhnceaaGreatDoor.base Go.Proofs.YtaihncbejhnceaaGreatDoor.tok
set_option linter.unusedVariables false

def silP (t : Tk) : Bool := decide (t.k = 8) || decide (t.k = 9)
def opensP (t : Tk) : Bool := decide (t.k = 10) || decide (t.k = 2)
def rawP (t : Tk) (k : Int) (s : Bs) : Bool := decide (t.k = k) && decide (t.raw = s)
def semiP (t : Tk) : Bool := rawP t 12 [59]
def colonP (t : Tk) : Bool := rawP t 12 [58]
def markP (t : Tk) : Bool := rawP t 12 [33]
def braceP (t : Tk) : Bool := rawP t 10 [123]
def badP (t : Tk) : Bool := decide (t.k = 6)
def closerP (r : Bs) : Bs := if r.getLast? = some 91 then [93] else if r.getLast? = some 123 then [125] else [41]

/-- one that is asked of a token's kind: it is one of two -/
abbrev Asks (f : FuncId) (p : Tk → Bool) : Prop := ∀ (t : Tk) (w : World), Calls Tryz.prog f #[.agg t.cells] w fun e w' => e = .returned (.bool (p t)) ∧ Below w.heap.size w w'

theorem last_at {r : Bs} (h : r ≠ []) : ∃ hlt : (bs r).size - 1 < (bs r).size, r.getLast? = some ((bs r)[(bs r).size - 1]'hlt) := by
  have hp := List.length_pos_iff.2 h
  have h1 : (bs r).size - 1 < (bs r).size := by rw [bs_size]; omega
  refine ⟨h1, ?_⟩
  rw [List.getLast?_eq_some_getLast h, List.getLast_eq_getElem h]
  rfl
theorem byte_is {c : UInt8} {n : Nat} (hn : n < 256) : ((c.toNat : Int) == (n : Int)) = decide (c = UInt8.ofNat n) := by
  rw [Bool.eq_iff_iff]
  simp only [beq_iff_eq, decide_eq_true_eq]
  constructor
  · intro h
    apply UInt8.toNat_inj.1
    rw [UInt8.toNat_ofNat']
    omega
  · rintro rfl
    rw [UInt8.toNat_ofNat']
    omega

end Go.Proofs.YtaihncbejhnceaaGreatDoor.rul

namespace Go.Proofs.YtaihncbejhnceaaGreatDoor.rul
open Go.RowKit Go.Proofs.YtaihncbejhnceaaGreatDoor.base Go.Proofs.YtaihncbejhnceaaGreatDoor.tok
set_option linter.unusedVariables false

theorem add0 (a : Addr) : a.add 0 = a := rfl
/-- where a slice that is cut from i on begins -/
def addrAt (k : Nat) (A : Option Addr) (cap i : Nat) : Option Addr := if cap = i then A else A.map (·.add (i * k))
theorem addr_zero (k : Nat) (A : Option Addr) (cap : Nat) : addrAt k A cap 0 = A := by
  unfold addrAt
  split
  · rfl
  · rw [Nat.zero_mul]; cases A <;> rfl

section
variable {P : Program} {T e : TypeId} {k : Nat}
theorem slice_from (hT : P.underlying T = some (.slice e)) (hs : ∀ w, (sizeOf e).run P w = .ok k w) (A : Option Addr) (n cap : Nat) (i : Int) (h0 : 0 ≤ i) (h1 : i ≤ n) (w : World) :
    (Instr.slice T (.slice A n cap) (some (.int .i64 i)) none none).run P w = .ok (.slice (addrAt k A cap i.toNat) (n - i.toNat) (cap - i.toNat)) w := by
  simp [Instr.slice, Instr.sliceBounds, Instr.sliceBound, run_underlying hT, hs, asIntOf, h0, h1, go_sem, addrAt]
theorem slice_upto (hT : P.underlying T = some (.slice e)) (hs : ∀ w, (sizeOf e).run P w = .ok k w) (A : Option Addr) (n cap : Nat) (j : Int) (h0 : 0 ≤ j) (h1 : j ≤ cap) (w : World) :
    (Instr.slice T (.slice A n cap) none (some (.int .i64 j)) none).run P w = .ok (.slice A j.toNat cap) w := by
  simp [Instr.slice, Instr.sliceBounds, Instr.sliceBound, run_underlying hT, hs, asIntOf, h0, h1, go_sem]
theorem slice_both (hT : P.underlying T = some (.slice e)) (hs : ∀ w, (sizeOf e).run P w = .ok k w) (A : Option Addr) (n cap : Nat) (i j : Int) (h0 : 0 ≤ i) (h1 : i ≤ j) (h2 : j ≤ cap) (w : World) :
    (Instr.slice T (.slice A n cap) (some (.int .i64 i)) (some (.int .i64 j)) none).run P w = .ok (.slice (addrAt k A cap i.toNat) (j.toNat - i.toNat) (cap - i.toNat)) w := by
  have h3 : 0 ≤ j := by omega
  have h5 : ¬ max j 0 < i := by omega
  simp [Instr.slice, Instr.sliceBounds, Instr.sliceBound, run_underlying hT, hs, asIntOf, h2, h3, go_sem, addrAt]
  simp [h0, h5]
end

theorem rd_cut {α : Type} {k : Nat} {f : α → List Value} {w : World} {B : Nat} {A : Option Addr} {n cap i m : Nat} {L : List α} (h : Rd k f w B A n L) (hc : n ≤ cap) (hm : i + m ≤ n) : Rd k f w B (addrAt k A cap i) m ((L.drop i).take m) := by
  refine ⟨by rw [List.length_take, List.length_drop, h.1]; omega, fun h0 => ?_⟩
  obtain ⟨b, off, rfl, hlt, hx⟩ := h.2 (by omega)
  refine ⟨b, off + i * k, ?_, hlt, fun j d hd x hx2 => ?_⟩
  · unfold addrAt
    rw [if_neg (by omega)]
    simp only [Option.map_some, Option.some.injEq]
    unfold Addr.add
    split
    · rename_i hz; rw [hz]; rfl
    · rfl
  · have hj := (List.getElem?_eq_some_iff.1 hd).1
    rw [List.length_take, List.length_drop] at hj
    rw [List.getElem?_take_of_lt (by omega), List.getElem?_drop] at hd
    rw [← hx (i + j) d hd x hx2, Nat.add_mul]
    congr 2
    omega
theorem rd_from {α : Type} {k : Nat} {f : α → List Value} {w : World} {B : Nat} {A : Option Addr} {n cap i : Nat} {L : List α} (h : Rd k f w B A n L) (hc : n ≤ cap) (hi : i ≤ n) : Rd k f w B (addrAt k A cap i) (n - i) (L.drop i) := by
  have := rd_cut h (i := i) (m := n - i) hc (by omega)
  rwa [List.take_of_length_le (by rw [List.length_drop, h.1]; omega)] at this

/-! ### A stack of texts -/
abbrev strV (l : Bs) : Value := .string (bs l)
theorem infoS : (Tryz.prog.info? 9).map (fun i => (i.zero, i.size, i.bytes)) = some (some (.string .empty), 1, 16) := by kernel_rfl
/-- the row without its last ones -/
theorem owns_less {w : World} {base : Nat} {e : TypeId} {a : Option Addr} {n m cap : Nat} {xs : List Value} (h : w.ownsRow base e 1 (.slice a n cap) n xs) (hm : m ≤ n) (h0 : 0 < n) : w.ownsRow base e 1 (.slice a m cap) m (xs.take m) := by
  refine ⟨by rw [List.length_take, h.1]; omega, ?_⟩
  rcases h.2 with ⟨hv, hz⟩ | ⟨g, cap', cur, hv, hb, hg, hc, hcm, hs, ht⟩
  · omega
  · injection hv with h1 h2 h3
    subst h1 h3
    refine .inr ⟨g, cap, cur, rfl, hb, hg, by omega, hcm, hs, ?_⟩
    rw [← ht, List.take_take]
    congr 1
    omega
/-- a row that was just built -/
theorem owns_new {w : World} {base : Nat} {e : TypeId} {x : Value} (hb : base ≤ w.heap.size) : (w.alloc (.cells #[x] e)).ownsRow base e 1 (.slice (some ⟨w.heap.size, 0, none⟩) 1 1) 1 [x] :=
  ⟨rfl, .inr ⟨w.heap.size, 1, #[x], rfl, hb, heap_alloc_new w _, Nat.le_refl _, by decide, rfl, rfl⟩⟩
theorem owns_at {w : World} {base : Nat} {e : TypeId} {a : Option Addr} {n cap : Nat} {xs : List Value} {i : Nat} {x : Value} (h : w.ownsRow base e 1 (.slice a n cap) n xs) (hx : xs[i]? = some x) : ∃ g, a = some ⟨g, 0, none⟩ ∧ g < w.heap.size ∧ base ≤ g ∧ n ≤ cap ∧ w.cell? ⟨g, i, none⟩ = some x := by
  have hi := (List.getElem?_eq_some_iff.1 hx).1
  rw [h.1] at hi
  rcases h.2 with ⟨hv, hz⟩ | ⟨g, cap', cur, hv, hb, hg, hc, _⟩
  · omega
  · injection hv with h1 h2 h3
    subst h1 h3
    have hl := h.lt g rfl
    exact ⟨g, rfl, hl.2, hb, hc, (h.cellAt i hi).trans hx⟩

end Go.Proofs.YtaihncbejhnceaaGreatDoor.rul

namespace Go.Proofs.YtaihncbejhnceaaGreatDoor.dim
open Go.RowKit Go.Proofs.YtaihncbejhnceaaGreatDoor.base Go.Proofs.YtaihncbejhnceaaGreatDoor.tok
set_option linter.unusedVariables false

theorem nv_dig {k : Nat} (h : k < 10) : nv (UInt8.ofNat (48 + k)) = 48 + (k : Int) := by
  simp only [nv, UInt8.toNat_ofNat']
  omega
theorem dig_dig {k : Nat} (h : k < 10) : digI (nv (UInt8.ofNat (48 + k))) = true := by
  rw [nv_dig h]
  simp [digI]
  omega
theorem addD_dig {n : Int} {k : Nat} (h : k < 10) (hn : 10 * n + k ≤ 1000000000) : addD n (UInt8.ofNat (48 + k)) = 10 * n + k := by
  unfold addD
  rw [nv_dig h]
  omega

theorem dec_step {u : Nat} (h : ¬ u < 10) : Lib.decDigits u = Lib.decDigits (u / 10) ++ [UInt8.ofNat (48 + u % 10)] := by
  rw [Lib.decDigits, dif_neg h]

theorem dec_fold : ∀ (u : Nat), u ≤ 1000000000 → (Lib.decDigits u).foldl addD 0 = (u : Int) := by
  intro u
  induction u using Nat.strongRecOn with
  | _ u ih =>
    intro hu
    by_cases h : u < 10
    · rw [Lib.decDigits_one h]
      simp only [List.foldl_cons, List.foldl_nil]
      rw [addD_dig h (by omega)]
      omega
    · rw [dec_step h, List.foldl_append, ih (u / 10) (by omega) (by omega)]
      simp only [List.foldl_cons, List.foldl_nil]
      rw [addD_dig (by omega) (by omega)]
      omega
theorem dec_digs : ∀ (u : Nat), ∀ c ∈ Lib.decDigits u, digI (nv c) = true := by
  intro u
  induction u using Nat.strongRecOn with
  | _ u ih =>
    by_cases h : u < 10
    · rw [Lib.decDigits_one h]
      intro c hc
      obtain rfl : c = UInt8.ofNat (48 + u) := by simpa using hc
      exact dig_dig h
    · rw [dec_step h]
      intro c hc
      rcases List.mem_append.1 hc with hc | hc
      · exact ih (u / 10) (by omega) c hc
      · obtain rfl : c = UInt8.ofNat (48 + u % 10) := by simpa using hc
        exact dig_dig (by omega)
theorem dec_ne (u : Nat) : Lib.decDigits u ≠ [] := by
  by_cases h : u < 10
  · rw [Lib.decDigits_one h]; simp
  · rw [dec_step h]; simp

/-- three digits behind a one -/
theorem dec_three {r : Nat} (h : r < 1000) : Lib.decDigits (1000 + r) = 49 :: [UInt8.ofNat (48 + r / 100), UInt8.ofNat (48 + r / 10 % 10), UInt8.ofNat (48 + r % 10)] := by
  rw [dec_step (by omega), dec_step (u := (1000 + r) / 10) (by omega), dec_step (u := (1000 + r) / 10 / 10) (by omega), Lib.decDigits_one (i := (1000 + r) / 10 / 10 / 10) (by omega)]
  have e1 : (1000 + r) / 10 / 10 / 10 = 1 := by omega
  have e2 : (1000 + r) / 10 / 10 % 10 = r / 100 := by omega
  have e3 : (1000 + r) / 10 % 10 = r / 10 % 10 := by omega
  have e4 : (1000 + r) % 10 = r % 10 := by omega
  rw [e1, e2, e3, e4]
  rfl

/-- how many digits begin what begins with digits -/
theorem digits_app (d r : Bs) (hd : ∀ c ∈ d, digI (nv c) = true) (hr : ∀ c, r.head? = some c → digI (nv c) = false) : digitsP (d ++ r) = d.length := by
  unfold digitsP
  induction d with
  | nil =>
    cases r with
    | nil => rfl
    | cons c r => simp [hr c rfl]
  | cons c d ih =>
    simp only [List.cons_append, List.takeWhile_cons, hd c (by simp), if_true, List.length_cons]
    rw [ih (fun x hx => hd x (by simp [hx]))]

end Go.Proofs.YtaihncbejhnceaaGreatDoor.dim

namespace Go.Proofs.YtaihncbejhnceaaGreatDoor.dim
open Go.RowKit Go.Proofs.YtaihncbejhnceaaGreatDoor.base Go.Proofs.YtaihncbejhnceaaGreatDoor.tok
set_option linter.unusedVariables false

/-- the digits behind the point -/
def fracP (r : Nat) : Bs := Lib.trimRightB [UInt8.ofNat (48 + r / 100), UInt8.ofNat (48 + r / 10 % 10), UInt8.ofNat (48 + r % 10)] 48

set_option maxRecDepth 100000 in
theorem frac_all : ∀ r : Fin 1000, (fracP r.val).getD 0 48 = UInt8.ofNat (48 + r.val / 100) ∧ (fracP r.val).getD 1 48 = UInt8.ofNat (48 + r.val / 10 % 10) ∧ (fracP r.val).getD 2 48 = UInt8.ofNat (48 + r.val % 10) ∧ (fracP r.val).all (fun c => digI (nv c)) = true := by
  decide +kernel
theorem frac_is {r : Nat} (h : r < 1000) : (fracP r).getD 0 48 = UInt8.ofNat (48 + r / 100) ∧ (fracP r).getD 1 48 = UInt8.ofNat (48 + r / 10 % 10) ∧ (fracP r).getD 2 48 = UInt8.ofNat (48 + r % 10) ∧ ∀ c ∈ fracP r, digI (nv c) = true := by
  obtain ⟨h0, h1, h2, h3⟩ := frac_all ⟨r, h⟩
  exact ⟨h0, h1, h2, fun c hc => List.all_eq_true.1 h3 c hc⟩

/-- what stands behind the whole digits -/
def pointP (fr : Bs) : Bs := if fr = [] then [] else 46 :: fr
/-- the text of a number without its sign -/
def plainP (m : Nat) : Bs := Lib.decDigits (m / 1000) ++ pointP (fracP (m % 1000))

theorem not_dig46 : digI (nv 46) = false := by decide

/-- what the sum of the digits is -/
theorem sum_is {m : Nat} (hm : m ≤ 1000000000) : addD (addD (addD ((Lib.decDigits (m / 1000)).foldl addD 0) ((fracP (m % 1000)).getD 0 48)) ((fracP (m % 1000)).getD 1 48)) ((fracP (m % 1000)).getD 2 48) = (m : Int) := by
  obtain ⟨h0, h1, h2, -⟩ := frac_is (r := m % 1000) (by omega)
  have a1 := addD_dig (n := ((m / 1000 : Nat) : Int)) (k := m % 1000 / 100) (by omega) (by omega)
  have a2 := addD_dig (n := 10 * ((m / 1000 : Nat) : Int) + ((m % 1000 / 100 : Nat) : Int)) (k := m % 1000 / 10 % 10) (by omega) (by omega)
  have a3 := addD_dig (n := 10 * (10 * ((m / 1000 : Nat) : Int) + ((m % 1000 / 100 : Nat) : Int)) + ((m % 1000 / 10 % 10 : Nat) : Int)) (k := m % 1000 % 10) (by omega) (by omega)
  rw [h0, h1, h2, dec_fold _ (by omega), a1, a2, a3]
  omega

theorem number_at (s u : Bs) (m : Nat) (hm : m ≤ 1000000000) (neg : Bool) (hu : ∀ c, u.head? = some c → digI (nv c) = false ∧ ¬ nv c = 46)
    (hs : (s = [] ∧ neg = false) ∨ (s = [45] ∧ neg = true)) :
    numberP (s ++ (plainP m ++ u)) = (if neg then -(m : Int) else (m : Int), s.length + (plainP m).length) := by
  have hW := dec_digs (m / 1000)
  have hWn := dec_ne (m / 1000)
  have hS := sum_is hm
  obtain ⟨-, -, -, hF⟩ := frac_is (r := m % 1000) (by omega)
  unfold plainP
  generalize Lib.decDigits (m / 1000) = W at *
  generalize fracP (m % 1000) = fr at *
  obtain ⟨c, W', rfl⟩ := List.exists_cons_of_ne_nil hWn
  have hc := hW c (by simp)
  simp [digI] at hc
  have hsign : signAt (s ++ (c :: W' ++ pointP fr ++ u)) = s.length ∧ negP (s ++ (c :: W' ++ pointP fr ++ u)) = neg := by
    rcases hs with ⟨rfl, rfl⟩ | ⟨rfl, rfl⟩
    · refine ⟨?_, ?_⟩
      · show (if nv c = 43 ∨ nv c = 45 then 1 else 0) = 0
        rw [if_neg (by omega)]
      · show decide (nv c = 45) = false
        exact decide_eq_false (by omega)
    · exact ⟨rfl, rfl⟩
  obtain ⟨h1, h2⟩ := hsign
  have hrest : ∀ x, (pointP fr ++ u).head? = some x → digI (nv x) = false := by
    intro x hx
    unfold pointP at hx
    split at hx
    · exact (hu x (by simpa using hx)).1
    · obtain rfl : (46 : UInt8) = x := by simpa using hx
      exact not_dig46
  have d1 : (s ++ (c :: W' ++ pointP fr ++ u)).drop s.length = (c :: W') ++ (pointP fr ++ u) := by
    rw [List.drop_left, List.append_assoc]
  have h3 := digits_app (c :: W') (pointP fr ++ u) hW hrest
  have d2 : (s ++ (c :: W' ++ pointP fr ++ u)).drop (s.length + (c :: W').length) = pointP fr ++ u := by
    rw [← List.drop_drop, d1, List.drop_left]
  have h4 : behindP (pointP fr ++ u) = fr.length := by
    unfold pointP
    split
    · rename_i h
      subst h
      cases u with
      | nil => rfl
      | cons x r =>
        show (if nv x = 46 then digitsP r else 0) = 0
        rw [if_neg (hu x rfl).2]
    · show (if nv (46 : UInt8) = 46 then digitsP (fr ++ u) else 0) = fr.length
      rw [if_pos (by decide)]
      exact digits_app fr u hF (fun x hx => (hu x hx).1)
  have d3 : ((s ++ (c :: W' ++ pointP fr ++ u)).drop (s.length + (c :: W').length + 1)).take fr.length = fr := by
    rw [← List.drop_drop, d2]
    unfold pointP
    split
    · rename_i h
      subst h
      rfl
    · simp
  have hsum : sumP (s ++ (c :: W' ++ pointP fr ++ u)) s.length (c :: W').length fr.length = (m : Int) := by
    unfold sumP
    rw [d1, List.take_left, d3]
    exact hS
  have hlen : (pointP fr).length = if fr.length = 0 then 0 else 1 + fr.length := by
    unfold pointP
    cases fr with
    | nil => rfl
    | cons x r => simp; omega
  unfold numberP
  rw [h1, h2, d1, h3, d2, h4]
  unfold numAt
  rw [if_neg (by simp), hsum]
  simp only [List.length_append, hlen]
  rw [Nat.add_assoc]

end Go.Proofs.YtaihncbejhnceaaGreatDoor.dim

namespace Go.Proofs.YtaihncbejhnceaaGreatDoor.tok
open Go.RowKit Go.Proofs.YtaihncbejhnceaaGreatDoor.base
set_option linter.unusedVariables false

/-! ### Names -/
theorem esc_take {l : Bs} {m : Nat} (h : escP (l.take m) = true) : escP l = true := by
  match l, m, h with
  | [], _, h => simpa using h
  | [c], 0, h => simp [escP] at h
  | [c], m + 1, h => simp [escP] at h
  | c :: d :: r, 0, h => simp [escP] at h
  | c :: d :: r, 1, h => simp [escP] at h
  | c :: d :: r, m + 2, h => simpa [escP] using h
theorem esc_take2 {l : Bs} {m : Nat} (hm : 2 ≤ m) : escP (l.take m) = escP l := by
  match l, m, hm with
  | [], _, _ => simp
  | [c], m + 2, _ => simp [escP]
  | c :: d :: r, m + 2, _ => simp [escP]

theorem name_cons1 (c : UInt8) : nameP [c] = if signI (nv c) then ([c], 1) else ([], 0) := by rw [nameP]
theorem name_cons2 (c d : UInt8) (r : Bs) : nameP (c :: d :: r) = if escP (c :: d :: r) then (d :: (nameP r).1, (nameP r).2 + 2) else if signI (nv c) then (c :: (nameP (d :: r)).1, (nameP (d :: r)).2 + 1) else ([], 0) := by rw [nameP]
theorem name_nil : nameP [] = ([], 0) := by rw [nameP]

/-- a name is read the same of any prefix that holds it -/
theorem name_take : ∀ (n : Nat) (l : Bs) (m : Nat), l.length ≤ n → (nameP l).2 ≤ m → nameP (l.take m) = nameP l
  | 0, l, m, h, hm => by
    obtain rfl := List.eq_nil_of_length_eq_zero (Nat.le_zero.1 h)
    simp
  | n + 1, [], m, h, hm => by simp
  | n + 1, [c], m, h, hm => by
    rw [name_cons1] at hm ⊢
    by_cases hs : signI (nv c) = true
    · rw [if_pos hs] at hm ⊢
      obtain ⟨k, rfl⟩ : ∃ k, m = k + 1 := ⟨m - 1, by simp at hm; omega⟩
      simp [name_cons1, hs]
    · rw [if_neg hs]
      cases m with
      | zero => simp [name_nil]
      | succ m => simp [name_cons1, hs]
  | n + 1, c :: d :: r, m, h, hm => by
    rw [name_cons2] at hm ⊢
    by_cases he : escP (c :: d :: r) = true
    · rw [if_pos he] at hm ⊢
      obtain ⟨k, rfl⟩ : ∃ k, m = k + 2 := ⟨m - 2, by simp at hm; omega⟩
      have ih := name_take n r k (by simp at h; omega) (by simp at hm; omega)
      have he2 : escP (c :: d :: r.take k) = true := by simpa [escP] using he
      simp only [List.take_succ_cons]
      rw [name_cons2, if_pos he2, ih]
    · rw [if_neg he] at hm ⊢
      by_cases hs : signI (nv c) = true
      · rw [if_pos hs] at hm ⊢
        obtain ⟨k, rfl⟩ : ∃ k, m = k + 1 := ⟨m - 1, by simp at hm; omega⟩
        have ih := name_take n (d :: r) k (by simp at h ⊢; omega) (by simp at hm; omega)
        have he2 : ¬ escP ((c :: d :: r).take (k + 1)) = true := fun h2 => he (esc_take h2)
        cases k with
        | zero =>
          simp only [Nat.zero_add, List.take_succ_cons, List.take_zero] at ih ⊢
          rw [name_cons1, if_pos hs]
          rw [name_nil] at ih
          rw [← ih]
        | succ k =>
          simp only [List.take_succ_cons] at ih he2 ⊢
          rw [name_cons2, if_neg he2, if_pos hs, ih]
      · rw [if_neg hs]
        match m with
        | 0 => simp [name_nil]
        | 1 => simp [name_cons1, hs]
        | k + 2 =>
          have he2 : ¬ escP ((c :: d :: r).take (k + 2)) = true := fun h2 => he (esc_take h2)
          simp only [List.take_succ_cons] at he2 ⊢
          rw [name_cons2, if_neg he2, if_neg hs]
theorem name_take' (l : Bs) (m : Nat) (hm : (nameP l).2 ≤ m) : nameP (l.take m) = nameP l := name_take _ l m (Nat.le_refl _) hm

/-- .. and so does a name begin it -/
theorem begins_take {l : Bs} {m : Nat} (h : beginsP l = true) (hm : (nameP l).2 ≤ m) : beginsP (l.take m) = true := by
  match l, h, hm with
  | [c], h, hm =>
    have := name_pos h
    obtain ⟨k, rfl⟩ : ∃ k, m = k + 1 := ⟨m - 1, by omega⟩
    simpa using h
  | c :: d :: r, h, hm =>
    rw [name_cons2] at hm
    by_cases he : escP (c :: d :: r) = true
    · rw [if_pos he] at hm
      obtain ⟨k, rfl⟩ : ∃ k, m = k + 2 := ⟨m - 2, by simp at hm; omega⟩
      have he2 : escP (c :: d :: r.take k) = true := by simpa [escP] using he
      have h45 : ¬ nv c = 45 := by
        simp [escP] at he
        omega
      simp only [List.take_succ_cons, beginsP, if_neg h45, he2, Bool.or_true]
    · rw [if_neg he] at hm
      simp only [beginsP] at h
      by_cases h45 : nv c = 45
      · have hs : signI (nv c) = true := by simp [signI, h45]
        rw [if_pos hs] at hm
        rw [if_pos h45] at h
        obtain ⟨k, rfl⟩ : ∃ k, m = k + 1 := ⟨m - 1, by simp at hm; omega⟩
        have hd : signI (nv d) = true ∨ escP (d :: r) = true := by
          simp only [Bool.or_eq_true, decide_eq_true_eq] at h
          rcases h with (h | h) | h
          · left; simp [signI, h]
          · left; simp [signI, h]
          · right; exact h
        have hp : 0 < (nameP (d :: r)).2 := by
          cases r with
          | nil =>
            rw [name_cons1]
            rcases hd with hd | hd
            · simp [hd]
            · simp [escP] at hd
          | cons e r =>
            rw [name_cons2]
            split
            · simp
            · rename_i hne
              rcases hd with hd | hd
              · simp [hd]
              · exact absurd hd hne
        simp at hm
        obtain ⟨j, rfl⟩ : ∃ j, k = j + 1 := ⟨k - 1, by omega⟩
        simp only [List.take_succ_cons, beginsP, if_pos h45]
        simp only [Bool.or_eq_true, decide_eq_true_eq] at h ⊢
        rcases h with h | h
        · exact Or.inl h
        · right
          cases r with
          | nil => simp [escP] at h
          | cons e r =>
            have hj : 1 ≤ j := by
              rw [name_cons2, if_pos h] at hm
              simp at hm
              omega
            obtain ⟨i, rfl⟩ : ∃ i, j = i + 1 := ⟨j - 1, by omega⟩
            simpa [escP] using h
      · rw [if_neg h45] at h
        simp only [Bool.or_eq_true] at h
        have hst : startsI (nv c) = true := h.resolve_right he
        have hs : signI (nv c) = true := by simp [signI, hst]
        rw [if_pos hs] at hm
        obtain ⟨k, rfl⟩ : ∃ k, m = k + 1 := ⟨m - 1, by simp at hm; omega⟩
        cases k with
        | zero => simp [beginsP, hst]
        | succ k => simp [beginsP, h45, hst]

end Go.Proofs.YtaihncbejhnceaaGreatDoor.tok

namespace Go.Proofs.YtaihncbejhnceaaGreatDoor.tok
open Go.RowKit Go.Proofs.YtaihncbejhnceaaGreatDoor.base
set_option linter.unusedVariables false

theorem while_take (p : UInt8 → Bool) : ∀ (l : Bs) (k : Nat), ((l.take k).takeWhile p).length = min (l.takeWhile p).length k
  | [], k => by simp
  | c :: l, 0 => by simp
  | c :: l, k + 1 => by
    simp only [List.take_succ_cons, List.takeWhile_cons]
    cases p c
    · simp
    · simp only [if_true, List.length_cons]
      rw [while_take p l k]
      omega
theorem digits_take (l : Bs) (k : Nat) : digitsP (l.take k) = min (digitsP l) k := while_take _ l k
theorem space_take (l : Bs) (k : Nat) : spaceP (l.take k) = min (spaceP l) k := while_take _ l k
theorem sign_take {l : Bs} {m : Nat} (hm : 0 < m) : signAt (l.take m) = signAt l ∧ negP (l.take m) = negP l := by
  obtain ⟨k, rfl⟩ : ∃ k, m = k + 1 := ⟨m - 1, by omega⟩
  cases l with
  | nil => simp
  | cons c r => exact ⟨rfl, rfl⟩
theorem behind_take0 {x : Bs} (h : behindP x = 0) (k : Nat) : behindP (x.take k) = 0 := by
  cases x with
  | nil => simp [behindP]
  | cons c t =>
    cases k with
    | zero => simp [behindP]
    | succ k =>
      simp only [List.take_succ_cons, behindP] at h ⊢
      split
      · rename_i h46
        rw [if_pos h46] at h
        rw [digits_take, h]
        simp
      · rfl
theorem behind_take1 {x : Bs} {k : Nat} (h : behindP x ≠ 0) (hk : 1 + behindP x ≤ k) : behindP (x.take k) = behindP x := by
  cases x with
  | nil => simp [behindP] at h
  | cons c t =>
    obtain ⟨j, rfl⟩ : ∃ j, k = j + 1 := ⟨k - 1, by omega⟩
    simp only [List.take_succ_cons, behindP] at h hk ⊢
    split
    · rename_i h46
      rw [if_pos h46] at hk
      rw [digits_take]
      omega
    · rfl

theorem num_end (l : Bs) (f wh be : Nat) (neg : Bool) : (numAt l f wh be neg).2 = if wh + be = 0 then 0 else f + wh + if be = 0 then 0 else 1 + be := by
  unfold numAt
  split <;> rfl

/-- a number is read the same of any prefix that holds it -/
theorem number_take {l : Bs} {m : Nat} (h0 : 0 < (numberP l).2) (hm : (numberP l).2 ≤ m) : numberP (l.take m) = numberP l := by
  obtain ⟨hs, hn⟩ := sign_take (l := l) (m := m) (by omega)
  have he := num_end l (signAt l) (digitsP (l.drop (signAt l))) (behindP (l.drop (signAt l + digitsP (l.drop (signAt l))))) (negP l)
  unfold numberP at h0 hm ⊢
  rw [he] at h0 hm
  rw [hs, hn]
  generalize signAt l = f at *
  generalize hwh : digitsP (l.drop f) = wh at *
  generalize hbe : behindP (l.drop (f + wh)) = be at *
  have hz : ¬ wh + be = 0 := by
    intro hz
    rw [if_pos hz] at h0
    omega
  rw [if_neg hz] at hm h0
  have hm2 : f + wh ≤ m := by split at hm <;> omega
  have e1 : digitsP ((l.take m).drop f) = wh := by
    rw [List.drop_take, digits_take, hwh]
    omega
  rw [e1]
  have e2 : behindP ((l.take m).drop (f + wh)) = be := by
    rw [List.drop_take]
    by_cases hb : be = 0
    · rw [hb]
      exact behind_take0 (by rw [hbe, hb]) _
    · rw [if_neg hb] at hm
      rw [behind_take1 (by rw [hbe]; exact hb) (by rw [hbe]; omega), hbe]
  rw [e2]
  unfold numAt
  rw [if_neg hz, if_neg hz]
  have e3 : sumP (l.take m) f wh be = sumP l f wh be := by
    unfold sumP
    have a1 : ((l.take m).drop f).take wh = (l.drop f).take wh := by
      rw [List.drop_take, List.take_take, Nat.min_eq_left (by omega)]
    have a2 : ((l.take m).drop (f + wh + 1)).take be = (l.drop (f + wh + 1)).take be := by
      by_cases hb : be = 0
      · rw [hb]; simp
      · rw [if_neg hb] at hm
        rw [List.drop_take, List.take_take, Nat.min_eq_left (by omega)]
    rw [a1, a2]
  rw [e3]

/-- what is no number has no prefix that is one -/
theorem number_take0 {l : Bs} (h0 : (numberP l).2 = 0) (m : Nat) : (numberP (l.take m)).2 = 0 := by
  cases m with
  | zero => rfl
  | succ m =>
    obtain ⟨hs, hn⟩ := sign_take (l := l) (m := m + 1) (by omega)
    have he := num_end l (signAt l) (digitsP (l.drop (signAt l))) (behindP (l.drop (signAt l + digitsP (l.drop (signAt l))))) (negP l)
    unfold numberP at h0 ⊢
    rw [he] at h0
    rw [hs, hn, num_end]
    generalize signAt l = f at *
    generalize hwh : digitsP (l.drop f) = wh at *
    generalize hbe : behindP (l.drop (f + wh)) = be at *
    have hz : wh + be = 0 := by
      rcases Nat.eq_zero_or_pos (wh + be) with h | h
      · exact h
      · rw [if_neg (by omega)] at h0
        split at h0 <;> omega
    have hwz : wh = 0 := by omega
    have e1 : digitsP ((l.take (m + 1)).drop f) = 0 := by
      rw [List.drop_take, digits_take, hwh, hwz]
      simp
    rw [e1]
    have e2 : behindP ((l.take (m + 1)).drop (f + 0)) = 0 := by
      rw [List.drop_take]
      have : behindP (l.drop (f + 0)) = 0 := by
        rw [hwz] at hbe
        rw [hbe]
        omega
      exact behind_take0 this _
    rw [e2]
    simp

theorem textR_nil (q : UInt8) : textR q [] = (6, 0, []) := by rw [textR]
theorem textR_one (q c : UInt8) : textR q [c] = if nv c = nv q then (5, 1, []) else if nv c = 10 then (6, 0, []) else (6, 1, [c]) := by rw [textR]
theorem textR_two (q c d : UInt8) (r : Bs) : textR q (c :: d :: r) = if nv c = nv q then (5, 1, []) else if nv c = 10 then (6, 0, []) else
      if nv c = 92 then ((textR q r).1, (textR q r).2.1 + 2, d :: (textR q r).2.2) else ((textR q (d :: r)).1, (textR q (d :: r)).2.1 + 1, c :: (textR q (d :: r)).2.2) := by rw [textR]
/-- what is between quotes is read the same without what follows -/
theorem textR_take (q : UInt8) : ∀ (n : Nat) (l : Bs), l.length ≤ n → textR q (l.take (textR q l).2.1) = textR q l
  | 0, l, h => by
    obtain rfl := List.eq_nil_of_length_eq_zero (Nat.le_zero.1 h)
    simp
  | n + 1, [], h => by simp
  | n + 1, [c], h => by
    rw [textR_one]
    split
    · rename_i hq
      simp [textR_one, hq]
    · split
      · simp [textR_nil]
      · rename_i hq hn
        simp [textR_one, hq, hn]
  | n + 1, c :: d :: r, h => by
    rw [textR_two]
    split
    · rename_i hq
      simp [textR_one, hq]
    · rename_i hq
      split
      · simp [textR_nil]
      · rename_i hn
        split
        · rename_i hb
          have ih := textR_take q n r (by simp at h; omega)
          simp only [List.take_succ_cons]
          rw [textR_two, if_neg hq, if_neg hn, if_pos hb, ih]
        · rename_i hb
          have ih := textR_take q n (d :: r) (by simp at h ⊢; omega)
          simp only [List.take_succ_cons]
          generalize textR q (d :: r) = T at *
          obtain ⟨k, j, v⟩ := T
          simp only at ih ⊢
          cases j with
          | zero =>
            simp only [List.take_zero] at ih ⊢
            rw [textR_nil] at ih
            rw [textR_one, if_neg hq, if_neg hn]
            simp only [Prod.mk.injEq] at ih
            obtain ⟨rfl, _, rfl⟩ := ih
            rfl
          | succ j =>
            simp only [List.take_succ_cons] at ih ⊢
            rw [textR_two, if_neg hq, if_neg hn, if_neg hb, ih]

theorem prefix_take {l sub : Bs} {m : Nat} (h : sub.isPrefixOf (l.take m) = true) : sub.isPrefixOf l = true := by
  rw [List.isPrefixOf_iff_prefix] at h ⊢
  exact h.trans (List.take_prefix _ _)
/-- the place of a remark's end, in the remark alone -/
theorem index_take {s : Bs} {i : Nat} (h : Lib.index s [42, 47] = (i : Int)) : Lib.index (s.take (i + 2)) [42, 47] = (i : Int) := by
  rcases Lib.index_spec s [42, 47] with ⟨h1, _⟩ | ⟨j, hj, hjl, hocc, hno⟩
  · omega
  · obtain rfl : j = i := by omega
    have hr := Lib.index_room s [42, 47] (by omega)
    simp only [List.length_cons, List.length_nil] at hr
    refine Lib.index_first (by rw [List.length_take]; omega) ?_ (fun k hk => ?_)
    · unfold Lib.occAt at hocc ⊢
      rw [List.drop_take, Nat.add_sub_cancel_left]
      rw [List.isPrefixOf_iff_prefix] at hocc ⊢
      obtain ⟨t, ht⟩ := hocc
      rw [← ht]
      simp
    · have := hno k hk
      unfold Lib.occAt at this ⊢
      cases hp : List.isPrefixOf [42, 47] ((s.take (j + 2)).drop k)
      · rfl
      · rw [List.drop_take] at hp
        rw [prefix_take hp] at this
        cases this

end Go.Proofs.YtaihncbejhnceaaGreatDoor.tok

namespace Go.Proofs.YtaihncbejhnceaaGreatDoor.tok
open Go.RowKit Go.Proofs.YtaihncbejhnceaaGreatDoor.base
set_option linter.unusedVariables false

/-- of a prefix that is not empty: what its first sign tells -/
theorem space_zero {l : Bs} (h : spaceP l = 0) (m : Nat) : spaceP (l.take m) = 0 := by rw [space_take, h]; simp
theorem hasP_take {l p : Bs} (h : Lib.hasPrefix l p = false) (m : Nat) : Lib.hasPrefix (l.take m) p = false := by
  cases h2 : Lib.hasPrefix (l.take m) p
  · rfl
  · unfold Lib.hasPrefix at h h2
    rw [prefix_take h2] at h
    cases h
theorem quote_take {l : Bs} {m : Nat} (hm : 0 < m) : quoteP (l.take m) = quoteP l := by
  obtain ⟨k, rfl⟩ : ∃ k, m = k + 1 := ⟨m - 1, by omega⟩
  cases l <;> rfl
theorem one_take {l : Bs} {m : Nat} (hm : 0 < m) : oneK (l.take m) = oneK l := by
  obtain ⟨k, rfl⟩ : ∃ k, m = k + 1 := ⟨m - 1, by omega⟩
  cases l <;> rfl
theorem hash_head {l : Bs} {c : UInt8} (h : l.head? = some c) (hc : ¬ nv c = 35) : hashP l = false := by
  match l, h with
  | [a], _ => rfl
  | a :: b :: r, h =>
    obtain rfl : a = c := by simpa using h
    simp [hashP, hc]
theorem at_head {l : Bs} {c : UInt8} (h : l.head? = some c) (hc : ¬ nv c = 64) : atP l = false := by
  match l, h with
  | a :: r, h =>
    obtain rfl : a = c := by simpa using h
    simp [atP, hc]
theorem quote_head {l : Bs} {c : UInt8} (h : l.head? = some c) (hq : quoteP l = true) : nv c = 39 ∨ nv c = 34 := by
  match l, h with
  | a :: r, h =>
    obtain rfl : a = c := by simpa using h
    simpa [quoteP] using hq
theorem head_take {l : Bs} {m : Nat} (hm : 0 < m) : (l.take m).head? = l.head? := by
  obtain ⟨k, rfl⟩ : ∃ k, m = k + 1 := ⟨m - 1, by omega⟩
  cases l <;> rfl
theorem head_some {l : Bs} (h : l ≠ []) : ∃ c, l.head? = some c := by
  cases l with
  | nil => exact absurd rfl h
  | cons c r => exact ⟨c, rfl⟩
theorem take_all {l : Bs} {m : Nat} : (l.take m).take m = l.take m := by rw [List.take_take, Nat.min_self]

theorem first_self (l : Bs) (h0 : l ≠ []) : firstP (firstP l).raw = firstP l := by
  have hl : 0 < l.length := List.length_pos_iff.2 h0
  obtain ⟨c, hc⟩ := head_some h0
  generalize hF : firstP l = F
  rw [firstP] at hF
  by_cases hsp : 0 < spaceP l
  · rw [if_pos hsp] at hF
    subst hF
    simp only
    have hs2 : spaceP (l.take (spaceP l)) = spaceP l := by rw [space_take]; omega
    rw [firstP, if_pos (by rw [hs2]; exact hsp), hs2, take_all]
  rw [if_neg hsp] at hF
  have hsz : spaceP l = 0 := by omega
  by_cases hn : Lib.hasPrefix l [47, 42] = true
  · rw [if_pos hn] at hF
    subst hF
    by_cases hi : 0 ≤ Lib.index (l.drop 2) [42, 47]
    · obtain ⟨i, hi2⟩ := Int.eq_ofNat_of_zero_le hi
      have hr := Lib.index_room (l.drop 2) [42, 47] hi
      rw [hi2, List.length_drop] at hr
      simp only [List.length_cons, List.length_nil] at hr
      have e : noteP l = ⟨9, l.take (i + 4), [], 0⟩ := by
        unfold noteP
        rw [if_pos hi, hi2]
        rfl
      rw [e]
      simp only
      have hn2 : Lib.hasPrefix (l.take (i + 4)) [47, 42] = true := by
        match l, hn, hr with
        | a :: b :: r, hn, _ =>
          simp only [Lib.hasPrefix, List.take_succ_cons, List.isPrefixOf] at hn ⊢
          exact hn
        | [a], hn, hr => simp at hr; omega
        | [], hn, hr => simp at hr; omega
      have hix : Lib.index ((l.take (i + 4)).drop 2) [42, 47] = (i : Int) := by
        rw [List.drop_take]
        exact index_take hi2
      rw [firstP, if_neg (by rw [space_zero hsz]; omega), if_pos hn2]
      unfold noteP
      rw [hix, if_pos (by omega)]
      simp only [Int.toNat_natCast]
      rw [take_all]
    · have e : noteP l = ⟨9, l, [], 0⟩ := by
        unfold noteP
        rw [if_neg hi]
      rw [e]
      simp only
      rw [firstP, if_neg hsp, if_pos hn, e]
  have hn' : Lib.hasPrefix l [47, 42] = false := by simpa using hn
  rw [if_neg hn] at hF
  by_cases hq : quoteP l = true
  · rw [if_pos hq] at hF
    subst hF
    match l, h0, hq, hsz, hn' with
    | q :: r, _, hq, hsz, hn' =>
      simp only [textP]
      have ht := textR_take q _ r (Nat.le_refl _)
      generalize hT : textR q r = T at *
      obtain ⟨k, n, v⟩ := T
      simp only at ht ⊢
      have hq2 : quoteP ((q :: r).take (1 + n)) = true := by rw [quote_take (by omega)]; exact hq
      rw [firstP, if_neg (by rw [space_zero hsz]; omega), if_neg (by rw [hasP_take hn']; simp), if_pos hq2]
      rw [Nat.add_comm 1 n, List.take_succ_cons]
      simp only [textP, ht]
      congr 1
      rw [Nat.add_comm 1 n, List.take_succ_cons, List.take_take, Nat.min_self]
  rw [if_neg hq] at hF
  have hq' : quoteP l = false := by simpa using hq
  by_cases hh : hashP l = true
  · rw [if_pos hh] at hF
    subst hF
    match l, h0, hh, hsz, hn', hq', hc with
    | [a], _, hh, _, _, _, _ => simp [hashP] at hh
    | a :: b :: r, _, hh, hsz, hn', hq', hc =>
      simp only [hashP, Bool.and_eq_true, decide_eq_true_eq, Bool.or_eq_true] at hh
      obtain ⟨ha, hb⟩ := hh
      have hpos : 0 < (nameP (b :: r)).2 := by
        cases r with
        | nil =>
          rw [name_cons1]
          rcases hb with hb | hb
          · simp [hb]
          · simp [escP] at hb
        | cons e r =>
          rw [name_cons2]
          split
          · simp
          · rename_i hne
            rcases hb with hb | hb
            · simp [hb]
            · exact absurd hb hne
      have hnt := name_take' (b :: r) (nameP (b :: r)).2 (Nat.le_refl _)
      have hsz2 := space_zero hsz (1 + (nameP (b :: r)).2)
      have hn2 := hasP_take hn' (1 + (nameP (b :: r)).2)
      have hq2 : quoteP ((a :: b :: r).take (1 + (nameP (b :: r)).2)) = false := by rw [quote_take (by omega)]; exact hq'
      simp only [namedP, List.drop_succ_cons, List.drop_zero]
      generalize hN : nameP (b :: r) = N at *
      obtain ⟨v, n⟩ := N
      simp only at hpos hnt hsz2 hn2 hq2 ⊢
      obtain ⟨j, rfl⟩ : ∃ j, n = j + 1 := ⟨n - 1, by omega⟩
      have hh2 : hashP ((a :: b :: r).take (1 + (j + 1))) = true := by
        rw [Nat.add_comm 1 (j + 1)]
        simp only [List.take_succ_cons, hashP, Bool.and_eq_true, decide_eq_true_eq, Bool.or_eq_true]
        refine ⟨ha, ?_⟩
        rcases hb with hb | hb
        · exact Or.inl hb
        · right
          cases r with
          | nil => simp [escP] at hb
          | cons e r =>
            have h2 : 2 ≤ j + 1 := by
              rw [name_cons2, if_pos hb] at hN
              have := congrArg Prod.snd hN
              simp at this
              omega
            obtain ⟨i, rfl⟩ : ∃ i, j = i + 1 := ⟨j - 1, by omega⟩
            simpa [escP] using hb
      rw [firstP, if_neg (by rw [hsz2]; omega), if_neg (by rw [hn2]; simp), if_neg (by rw [hq2]; simp), if_pos hh2]
      have e1 : ((a :: b :: r).take (1 + (j + 1))).drop 1 = (b :: r).take (j + 1) := by rw [Nat.add_comm 1 (j + 1), List.take_succ_cons]; rfl
      simp only [namedP, e1, hnt]
      rw [take_all]
  rw [if_neg hh] at hF
  have hh' : hashP l = false := by simpa using hh
  by_cases ha : atP l = true
  · rw [if_pos ha] at hF
    subst hF
    match l, h0, ha, hsz, hn', hq', hh' with
    | a :: r, _, ha, hsz, hn', hq', hh' =>
      simp only [atP, Bool.and_eq_true, decide_eq_true_eq] at ha
      obtain ⟨ha, hb⟩ := ha
      have hpos := name_pos hb
      have hnt := name_take' r (nameP r).2 (Nat.le_refl _)
      have hbt := begins_take hb (Nat.le_refl _)
      have hsz2 := space_zero hsz (1 + (nameP r).2)
      have hn2 := hasP_take hn' (1 + (nameP r).2)
      have hq2 : quoteP ((a :: r).take (1 + (nameP r).2)) = false := by rw [quote_take (by omega)]; exact hq'
      simp only [namedP, List.drop_succ_cons, List.drop_zero]
      generalize hN : nameP r = N at *
      obtain ⟨v, n⟩ := N
      simp only at hpos hnt hbt hsz2 hn2 hq2 ⊢
      have hhd : ((a :: r).take (1 + n)).head? = some a := by rw [head_take (by omega)]; rfl
      have hh2 := hash_head hhd (by omega : ¬ nv a = 35)
      have e1 : ((a :: r).take (1 + n)) = a :: r.take n := by rw [Nat.add_comm 1 n, List.take_succ_cons]
      have ha2 : atP ((a :: r).take (1 + n)) = true := by
        rw [e1]
        simp only [atP, Bool.and_eq_true, decide_eq_true_eq]
        exact ⟨ha, hbt⟩
      rw [firstP, if_neg (by rw [hsz2]; omega), if_neg (by rw [hn2]; simp), if_neg (by rw [hq2]; simp), if_neg (by rw [hh2]; simp), if_pos ha2]
      have e2 : ((a :: r).take (1 + n)).drop 1 = r.take n := by rw [e1]; rfl
      simp only [namedP, e2, hnt]
      rw [take_all]
  rw [if_neg ha] at hF
  by_cases hnum : 0 < (numberP l).2
  · rw [if_pos hnum] at hF
    subst hF
    obtain ⟨x1, x2, x3, x4⟩ := number_no' hc hnum
    -- whatever prefix holds the number
    have key : ∀ m, (numberP l).2 ≤ m → firstP (l.take m) = numTkP (l.take m) (numberP l).1 (numberP l).2 := by
      intro m hm
      have hm0 : 0 < m := by omega
      have hhd : (l.take m).head? = some c := by rw [head_take hm0]; exact hc
      have hq2 : quoteP (l.take m) = false := by rw [quote_take hm0]; exact hq'
      have hnt := number_take hnum hm
      rw [firstP, if_neg (by rw [space_zero hsz]; omega), if_neg (by rw [hasP_take hn']; simp), if_neg (by rw [hq2]; simp), if_neg (by rw [hash_head hhd x1]; simp), if_neg (by rw [at_head hhd x2]; simp), hnt, if_pos hnum]
    generalize numberP l = N at *
    obtain ⟨nm, n⟩ := N
    simp only at hnum key ⊢
    have hd : ∀ m, n ≤ m → (l.take m).drop n = (l.drop n).take (m - n) := fun m _ => by rw [List.drop_take]
    unfold numTkP
    by_cases hp : Lib.hasPrefix (l.drop n) [37] = true
    · rw [if_pos hp]
      simp only
      rw [key (n + 1) (by omega)]
      unfold numTkP
      have hp2 : Lib.hasPrefix ((l.take (n + 1)).drop n) [37] = true := by
        rw [hd _ (by omega), Nat.add_sub_cancel_left]
        generalize l.drop n = x at *
        match x, hp with
        | a :: r, hp => simpa [Lib.hasPrefix, List.isPrefixOf] using hp
        | [], hp => simp [Lib.hasPrefix, List.isPrefixOf] at hp
      rw [if_pos hp2, take_all]
    · rw [if_neg hp]
      have hp' : Lib.hasPrefix (l.drop n) [37] = false := by simpa using hp
      by_cases hb : beginsP (l.drop n) = true
      · rw [if_pos hb]
        simp only
        rw [key (n + (nameP (l.drop n)).2) (by omega)]
        unfold numTkP
        have e1 : (l.take (n + (nameP (l.drop n)).2)).drop n = (l.drop n).take (nameP (l.drop n)).2 := by rw [hd _ (by omega), Nat.add_sub_cancel_left]
        rw [e1, if_neg (by rw [hasP_take hp']; simp), if_pos (begins_take hb (Nat.le_refl _)), name_take' _ _ (Nat.le_refl _), take_all]
      · rw [if_neg hb]
        simp only
        rw [key n (Nat.le_refl _)]
        unfold numTkP
        have e1 : (l.take n).drop n = [] := by rw [List.drop_take]; simp
        rw [e1, if_neg (by decide), if_neg (by decide), take_all]
  rw [if_neg hnum] at hF
  have hnum' : (numberP l).2 = 0 := by omega
  by_cases hb : beginsP l = true
  · rw [if_pos hb] at hF
    subst hF
    obtain ⟨x1, x2, x3, x4⟩ := begins_no' hc hb
    have hpos := name_pos hb
    have key : ∀ m, (nameP l).2 ≤ m → firstP (l.take m) = wordP (l.take m) := by
      intro m hm
      have hm0 : 0 < m := by omega
      have hhd : (l.take m).head? = some c := by rw [head_take hm0]; exact hc
      have hq2 : quoteP (l.take m) = false := by rw [quote_take hm0]; exact hq'
      rw [firstP, if_neg (by rw [space_zero hsz]; omega), if_neg (by rw [hasP_take hn']; simp), if_neg (by rw [hq2]; simp), if_neg (by rw [hash_head hhd x1]; simp), if_neg (by rw [at_head hhd x2]; simp), if_neg (by rw [number_take0 hnum' m]; omega), if_pos (begins_take hb hm)]
    have hle := nameP_le _ l (Nat.le_refl _)
    have hnl : (namedP 1 l 0).raw.length = (nameP l).2 := by
      simp only [namedP, List.drop_zero, Nat.zero_add, List.length_take]
      omega
    have hnm : ∀ m, (nameP l).2 ≤ m → namedP 1 (l.take m) 0 = namedP 1 l 0 := by
      intro m hm
      simp only [namedP, List.drop_zero, Nat.zero_add]
      rw [name_take' l m hm, List.take_take, Nat.min_eq_left hm]
    unfold wordP
    rw [hnl]
    by_cases hp : Lib.hasPrefix (l.drop (nameP l).2) [40] = true
    · rw [if_pos hp]
      simp only
      rw [key _ (by omega)]
      unfold wordP
      rw [hnm _ (by omega), hnl]
      have hp2 : Lib.hasPrefix ((l.take ((nameP l).2 + 1)).drop (nameP l).2) [40] = true := by
        rw [List.drop_take, Nat.add_sub_cancel_left]
        generalize l.drop (nameP l).2 = x at *
        match x, hp with
        | a :: r, hp => simpa [Lib.hasPrefix, List.isPrefixOf] using hp
        | [], hp => simp [Lib.hasPrefix, List.isPrefixOf] at hp
      rw [if_pos hp2, take_all]
    · rw [if_neg hp]
      have hraw : (namedP 1 l 0).raw = l.take (nameP l).2 := by simp [namedP]
      rw [hraw, key _ (Nat.le_refl _)]
      unfold wordP
      rw [hnm _ (Nat.le_refl _), hnl]
      have e1 : (l.take (nameP l).2).drop (nameP l).2 = [] := by rw [List.drop_take]; simp
      rw [e1, if_neg (by decide)]
  · rw [if_neg hb] at hF
    subst hF
    simp only
    have hhd : (l.take 1).head? = some c := by rw [head_take (by omega)]; exact hc
    have e1 : l.take 1 = [c] := by
      match l, hc with
      | a :: r, hc =>
        obtain rfl : a = c := by simpa using hc
        rfl
    have hq2 : quoteP (l.take 1) = false := by rw [quote_take (by omega)]; exact hq'
    have hh2 : hashP (l.take 1) = false := by rw [e1]; rfl
    have ha2 : atP (l.take 1) = false := by rw [e1]; simp [atP, beginsP]
    have hb2 : ¬ beginsP (l.take 1) = true := by
      intro h
      apply hb
      match l, hc with
      | [a], _ => exact h
      | a :: d :: r, hc =>
        simp only [List.take_succ_cons, List.take_zero, beginsP] at h
        simp only [beginsP]
        have h45 : ¬ nv a = 45 := fun e => by
          rw [e] at h
          simp [startsI] at h
        rw [if_neg h45, h]
        rfl
    rw [firstP, if_neg (by rw [space_zero hsz]; omega), if_neg (by rw [hasP_take hn']; simp), if_neg (by rw [hq2]; simp), if_neg (by rw [hh2]; simp), if_neg (by rw [ha2]; simp), if_neg (by rw [number_take0 hnum' 1]; omega), if_neg hb2, one_take (by omega), take_all]

theorem cut_self (l : Bs) (h0 : l ≠ []) : cutP (firstP l).raw = [firstP l] := by
  have hp := (first_pre l h0).2
  have hne : (firstP l).raw ≠ [] := fun e => by rw [e] at hp; simp at hp
  rw [cutP_cons hne, first_self l h0, List.drop_length, cutP_nil]
theorem cut_alone : ∀ (n : Nat) (l : Bs), l.length ≤ n → ∀ t ∈ cutP l, cutP t.raw = [t]
  | 0, l, h, t, ht => by
    obtain rfl := List.eq_nil_of_length_eq_zero (Nat.le_zero.1 h)
    rw [cutP_nil] at ht
    cases ht
  | n + 1, l, h, t, ht => by
    by_cases h0 : l = []
    · subst h0
      rw [cutP_nil] at ht
      cases ht
    · rw [cutP_cons h0] at ht
      rcases List.mem_cons.1 ht with rfl | ht
      · exact cut_self l h0
      · have hp := (first_pre l h0).2
        exact cut_alone n _ (by rw [List.length_drop]; omega) t ht

end Go.Proofs.YtaihncbejhnceaaGreatDoor.tok

namespace Go.Proofs.YtaihncbejhnceaaGreatDoor.dim
open Go.RowKit Go.Proofs.YtaihncbejhnceaaGreatDoor.base Go.Proofs.YtaihncbejhnceaaGreatDoor.tok
set_option linter.unusedVariables false

theorem unit_names {u : Bs} (h : u ∈ unitsL) : u = [] ∨ u = [37] ∨ (Lib.hasPrefix u [37] = false ∧ beginsP u = true ∧ nameP u = (u, u.length) ∧ u.map lowB = u) := by
  simp only [unitsL, List.mem_cons, List.not_mem_nil, or_false] at h
  rcases h with rfl | rfl | rfl | rfl | rfl | rfl | rfl
  · exact .inl rfl
  · exact .inr (.inr ⟨by decide, by decide, by rw [nameP, if_neg (by decide), if_pos (by decide), nameP, if_pos (by decide)]; rfl, by decide⟩)
  · exact .inr (.inr ⟨by decide, by decide, by rw [nameP, if_neg (by decide), if_pos (by decide), nameP, if_pos (by decide)]; rfl, by decide⟩)
  · exact .inr (.inr ⟨by decide, by decide, by rw [nameP, if_neg (by decide), if_pos (by decide), nameP, if_neg (by decide), if_pos (by decide), nameP, if_pos (by decide)]; rfl, by decide⟩)
  · exact .inr (.inr ⟨by decide, by decide, by rw [nameP, if_neg (by decide), if_pos (by decide), nameP, if_pos (by decide)]; rfl, by decide⟩)
  · exact .inr (.inr ⟨by decide, by decide, by rw [nameP, if_neg (by decide), if_pos (by decide), nameP, if_pos (by decide)]; rfl, by decide⟩)
  · exact .inr (.inl rfl)
theorem unit_head {u : Bs} (h : u ∈ unitsL) : ∀ c, u.head? = some c → digI (nv c) = false ∧ ¬ nv c = 46 := by
  simp only [unitsL, List.mem_cons, List.not_mem_nil, or_false] at h
  intro c hc
  rcases h with rfl | rfl | rfl | rfl | rfl | rfl | rfl <;> simp at hc <;> subst hc <;> exact ⟨by decide, by decide⟩

theorem space_head {l : Bs} {c : UInt8} (h : l.head? = some c) (hc : 33 ≤ nv c) : spaceP l = 0 := by
  cases l with
  | nil => cases h
  | cons a r =>
    obtain rfl : a = c := by simpa using h
    have hb : blankB a = false := by
      cases hb : blankB a
      · rfl
      · exfalso
        simp only [blankB, List.contains_eq_mem, List.mem_cons, List.not_mem_nil, or_false, decide_eq_true_eq] at hb
        rcases hb with rfl | rfl | rfl | rfl | rfl <;> revert hc <;> decide
    unfold spaceP
    rw [List.takeWhile_cons_of_neg (by simp [hb])]
    rfl
theorem prefix_head {l : Bs} {c : UInt8} (h : l.head? = some c) (hc : ¬ nv c = 47) : Lib.hasPrefix l [47, 42] = false := by
  cases l with
  | nil => cases h
  | cons a r =>
    obtain rfl : a = c := by simpa using h
    have ha : ((47 : UInt8) == a) = false := by
      rw [beq_eq_false_iff_ne]
      rintro rfl
      exact hc rfl
    unfold Lib.hasPrefix
    rw [List.isPrefixOf_cons_cons, ha]
    rfl

theorem text_cut (s u : Bs) (m : Nat) (hm : m ≤ 1000000000) (neg : Bool) (hu : u ∈ unitsL) (hs : (s = [] ∧ neg = false) ∨ (s = [45] ∧ neg = true)) :
    cutP (s ++ (plainP m ++ u)) = [⟨7, s ++ (plainP m ++ u), u, if neg then -(m : Int) else (m : Int)⟩] := by
  have hnum := number_at s u m hm neg (unit_head hu) hs
  obtain ⟨c, W, hW⟩ := List.exists_cons_of_ne_nil (dec_ne (m / 1000))
  have hcd := dec_digs (m / 1000) c (by rw [hW]; simp)
  simp [digI] at hcd
  have hhead : ∃ x, (s ++ (plainP m ++ u)).head? = some x ∧ (nv x = 45 ∨ (48 ≤ nv x ∧ nv x ≤ 57)) := by
    rcases hs with ⟨rfl, -⟩ | ⟨rfl, -⟩
    · refine ⟨c, ?_, .inr hcd⟩
      unfold plainP
      rw [hW]
      rfl
    · exact ⟨45, rfl, .inl rfl⟩
  have hpos : 0 < (plainP m).length := by
    unfold plainP
    rw [hW]
    simp
  obtain ⟨x, hx, hxr⟩ := hhead
  have hdrop : (s ++ (plainP m ++ u)).drop (s.length + (plainP m).length) = u := by
    rw [← List.append_assoc, ← List.length_append, List.drop_left]
  have hlen : (s ++ (plainP m ++ u)).length = s.length + (plainP m).length + u.length := by
    simp only [List.length_append]
    omega
  generalize hL : s ++ (plainP m ++ u) = l at *
  have hn0 : 0 < s.length + (plainP m).length := by omega
  generalize s.length + (plainP m).length = n at *

  have hne : l ≠ [] := by
    rintro rfl
    cases hx
  have hq : quoteP l = false := by
    cases hq : quoteP l
    · rfl
    · have := quote_head hx hq
      omega
  have hf : firstP l = ⟨7, l, u, if neg then -(m : Int) else (m : Int)⟩ := by
    have htk : 0 < n → firstP l = numTkP l (if neg then -(m : Int) else (m : Int)) n := by
      intro h0
      rw [firstP, if_neg (by rw [space_head hx (by omega)]; omega), if_neg (by rw [prefix_head hx (by omega)]; decide), if_neg (by rw [hq]; decide), if_neg (by rw [hash_head hx (by omega)]; decide),
        if_neg (by rw [at_head hx (by omega)]; decide), hnum, if_pos h0]
    rw [htk hn0]
    unfold numTkP
    rw [hdrop]
    rcases unit_names hu with rfl | rfl | ⟨h1, h2, h3, h4⟩
    · rw [if_neg (by decide), if_neg (by decide), List.take_of_length_le (by rw [hlen]; simp)]
    · rw [if_pos (by decide), List.take_of_length_le (by rw [hlen]; simp)]
    · rw [if_neg (by rw [h1]; decide), if_pos h2, h3]
      simp only
      rw [h4, List.take_of_length_le (by omega)]
  rw [cutP_cons hne, hf]
  simp [cutP_nil]

end Go.Proofs.YtaihncbejhnceaaGreatDoor.dim

namespace Go.Proofs.YtaihncbejhnceaaGreatDoor.dim
open Go.RowKit Go.Proofs.YtaihncbejhnceaaGreatDoor.base Go.Proofs.YtaihncbejhnceaaGreatDoor.tok
set_option linter.unusedVariables false

theorem grow_below (w : World) (k : Nat) (os : Array Obj) : Below w.heap.size w (Go.Sort.grow (w.drewN k) os) := by
  refine ⟨rfl, rfl, rfl, ?_, fun i hi => ?_⟩
  · simp [Go.Sort.grow]
  · simp only [Go.Sort.grow]
    rw [Array.getElem?_append_left (by simpa using hi)]
    rfl

/-- the table of powers is there -/
def PowAt (w : World) : Prop := 2 < w.heap.size ∧ Lib.TabIs Tryz.prog w "internal/strconv.uint64pow10" .u64 Lib.pow10Tab

theorem PowAt.on {w w' : World} (h : PowAt w) (hb : Below w.heap.size w w') : PowAt w' := by
  refine ⟨Nat.lt_of_lt_of_le h.1 hb.size, ?_⟩
  have hg : Tryz.prog.globalNamed "internal/strconv.uint64pow10" = some 2 := by kernel_rfl
  have h2 := h.2
  unfold Lib.TabIs World.var? at h2 ⊢
  rw [hg] at h2 ⊢
  simp only [Option.bind_some] at h2 ⊢
  rw [hb.block _ h.1]
  exact h2

theorem itoa_ct (n : Int) (h0 : -9223372036854775808 ≤ n) (h1 : n ≤ 9223372036854775807) (w : World) (hT : PowAt w) :
    Calls Tryz.prog 35 #[.int .i64 n] w fun e w' => e = .returned (.string (bs (Lib.itoa n))) ∧ Below w.heap.size w w' :=
  (Tryz.strconv_Itoa n h0 h1 w hT.2).mono fun e w' ⟨he, k, os, hw⟩ => ⟨he, by rw [hw]; exact grow_below w k os⟩

theorem trimR_ct (s : ByteArray) (w : World) (hs : s.size ≤ 9223372036854775807) :
    Calls Tryz.prog 36 #[.string s, .string ⟨#[48]⟩] w fun e w' => e = .returned (.string (bs (Lib.trimRightB s.data.toList 48))) ∧ w' = w :=
  Tryz.strings_TrimRight_one s 48 (by decide) w hs


/-- what dim.Text tells -/
def textD (m : Nat) (neg : Bool) (u : Bs) : Bs := (if neg then [45] else []) ++ (plainP m ++ u)

end Go.Proofs.YtaihncbejhnceaaGreatDoor.dim

namespace Go.Proofs.YtaihncbejhnceaaGreatDoor.dim
open Go.RowKit Go.Proofs.YtaihncbejhnceaaGreatDoor.base Go.Proofs.YtaihncbejhnceaaGreatDoor.tok
set_option linter.unusedVariables false

theorem three_len (r : Nat) : (bs (Lib.decDigits (1000 + r % 1000))).size = 4 := by
  rw [dec_three (by omega)]
  rfl
theorem three_drop (r : Nat) : Lib.trimRightB ((bs (Lib.decDigits (1000 + r % 1000))).extract 1 4).data.toList 48 = fracP (r % 1000) := by
  rw [dec_three (by omega)]
  rfl
theorem dec_len (u : Nat) (h : u ≤ 1000000000) : (Lib.decDigits u).length ≤ 10 := by
  have key : ∀ (k u : Nat), u < 10 ^ (k + 1) → (Lib.decDigits u).length ≤ k + 1 := by
    intro k
    induction k with
    | zero =>
      intro u hu
      rw [Lib.decDigits_one (by omega)]
      simp
    | succ k ih =>
      intro u hu
      by_cases h10 : u < 10
      · rw [Lib.decDigits_one h10]; simp
      · rw [dec_step h10, List.length_append]
        have := ih (u / 10) (by rw [Nat.pow_succ] at hu; omega)
        simp
        omega
  exact key 9 u (by omega)

theorem frac_len {r : Nat} (h : r < 1000) : (fracP r).length ≤ 3 := by
  unfold fracP Lib.trimRightB
  rw [List.length_reverse]
  exact (List.dropWhile_suffix _).length_le

set_option maxRecDepth 100000 in
set_option maxHeartbeats 4000000 in
theorem text_plain (m : Nat) (hm : m ≤ 1000000000) (u : Bs) (hu : u.length ≤ 3) (w : World) (hT : PowAt w) :
    Calls Tryz.prog 20 #[.agg #[.int .i64 m, .string (bs u)]] w fun e w' => e = .returned (.string (bs (plainP m ++ u))) ∧ Below w.heap.size w w' := by
  have q1 : (m : Int).tdiv 1000 = (m : Int) / 1000 := by rw [Int.tdiv_eq_ediv_of_nonneg (by omega)]
  have q2 : (m : Int).tmod 1000 = (m : Int) % 1000 := by rw [Int.tmod_eq_emod_of_nonneg (by omega)]
  have hl := three_len m
  have hd := three_drop m
  have hW := dec_len (m / 1000) (by omega)
  have hF := frac_len (r := m % 1000) (by omega)
  have cI1 : ∀ w, PowAt w → Calls Tryz.prog 35 #[.int .i64 ((m : Int) / 1000)] w fun e w' => e = .returned (.string (bs (Lib.decDigits (m / 1000)))) ∧ Below w.heap.size w w' := fun w h => by
    rw [show (m : Int) / 1000 = ((m / 1000 : Nat) : Int) from by omega]
    have := itoa_ct ((m / 1000 : Nat) : Int) (by omega) (by omega) w h
    rwa [show Lib.itoa ((m / 1000 : Nat) : Int) = Lib.decDigits (m / 1000) from by unfold Lib.itoa; rw [if_neg (by omega)]; rfl] at this
  have cI2 : ∀ w, PowAt w → Calls Tryz.prog 35 #[.int .i64 (1000 + (m : Int) % 1000)] w fun e w' => e = .returned (.string (bs (Lib.decDigits (1000 + m % 1000)))) ∧ Below w.heap.size w w' := fun w h => by
    rw [show (m : Int) % 1000 = ((m % 1000 : Nat) : Int) from by omega]
    have := itoa_ct (1000 + ((m % 1000 : Nat) : Int)) (by omega) (by omega) w h
    rwa [show Lib.itoa (1000 + ((m % 1000 : Nat) : Int)) = Lib.decDigits (1000 + m % 1000) from by unfold Lib.itoa; rw [if_neg (by omega)]; congr 1] at this
  have cR : ∀ w, Calls Tryz.prog 36 #[.string ((bs (Lib.decDigits (1000 + m % 1000))).extract 1 4), .string ⟨#[48]⟩] w fun e w' => e = .returned (.string (bs (fracP (m % 1000)))) ∧ w' = w := fun w => by
    have := trimR_ct ((bs (Lib.decDigits (1000 + m % 1000))).extract 1 4) w (by simp only [ByteArray.size_extract]; omega)
    rwa [hd] at this
  have m1 : max (m : Int) (-1000000000) = m := by omega
  have m2 : min (m : Int) 1000000000 = m := by omega
  have lt : decide ((m : Int) < 0) = false := decide_eq_false (by omega)
  have r1 := IntWalk.i64_in ((m : Int) / 1000) (by omega)
  have r2 := IntWalk.i64_in ((m : Int) % 1000) (by omega)
  have r3 := IntWalk.i64_in (1000 + (m : Int) % 1000) (by omega)
  have hZ : ByteArray.empty ++ bs (Lib.decDigits (m / 1000)) = bs (Lib.decDigits (m / 1000)) := by simp [bs]
  replace cI1 := Lib.hid cI1
  replace cI2 := Lib.hid cI2
  replace cR := Lib.hid cR
  replace hd := Lib.hid hd
  have hP : plainP m = Lib.decDigits (m / 1000) ++ pointP (fracP (m % 1000)) := rfl
  rw [hP]
  clear hP
  generalize hWd : Lib.decDigits (m / 1000) = Wd at *
  generalize hDd : Lib.decDigits (1000 + m % 1000) = D at *
  generalize hFd : fracP (m % 1000) = fr at *
  replace hWd := Lib.hid hWd
  replace hDd := Lib.hid hDd
  replace hFd := Lib.hid hFd
  have y1 : (bs Wd).size = Wd.length := rfl
  have y2 : (bs fr).size = fr.length := rfl
  have y3 : (bs u).size = u.length := rfl
  have z1 : ¬ 9223372036854775807 < 1 + (bs fr).size := by omega
  have z2 : ¬ 9223372036854775807 < (bs Wd).size + (1 + (bs fr).size) := by omega
  have z3 : ¬ 9223372036854775807 < (bs Wd).size + (1 + (bs fr).size) + (bs u).size := by omega
  have z4 : ¬ 9223372036854775807 < (bs Wd).size + (bs u).size := by omega
  have z5 : ¬ 9223372036854775807 < (bs Wd).size := by omega
  clear y1 y2 y3
  by_cases hfr : fr = []
  · have t1 : (bs fr).toList = [] := by rw [bs_toList, hfr]
    have hend := Lib.hid (show (⟨#[]⟩ : ByteArray) ++ bs Wd ++ bs u = bs (Wd ++ pointP fr ++ u) by unfold pointP; rw [if_pos hfr]; exact ByteArray.ext (by simp [bs, ByteArray.data_append]))
    clear hfr
    go_enter Tryz.func20, Tryz.ntmps20
    go_wp2_with (first
      | (go_at_call 35; (with_reducible refine (cI1.out _ (hT.on ((Below.refl w.heap.size w).alloc (Nat.le_refl _) _))).mono ?_); rintro e W1 ⟨rfl, hb1⟩; have HB1 := Lib.hid (((Below.refl w.heap.size w).alloc (Nat.le_refl _) _).trans (hb1.mono (by simp))); have hblk := (Blk.new (w := w) (t := 26) (cs := #[.int .i64 m, .string (bs u)]) rfl).below hb1 (by simp); replace hblk := Lib.hid hblk; clear hb1)
      | (go_at_call 35; (with_reducible refine (cI2.out _ (hT.on HB1.out)).mono ?_); rintro e W2 ⟨rfl, hb2⟩; have HB2 := Lib.hid (HB1.out.trans (hb2.mono HB1.out.size)); have hblk2 := hblk.out.below hb2 hblk.out.lt; have p2 := hblk2.cell; clear hb2)
      | (go_at_call 36; (with_reducible refine (cR.out _).mono ?_); rintro e W3 ⟨rfl, rfl⟩))
    go_ret
    exact ⟨by rw [← hend.out]; rfl, HB2.out⟩
  · have t1 : (bs fr).toList.isEmpty = false := by rw [bs_toList]; simpa using hfr
    have hend := Lib.hid (show (⟨#[]⟩ : ByteArray) ++ bs Wd ++ (⟨#[46]⟩ ++ bs fr) ++ bs u = bs (Wd ++ pointP fr ++ u) by unfold pointP; rw [if_neg hfr]; exact ByteArray.ext (by simp [bs, ByteArray.data_append]))
    clear hfr
    go_enter Tryz.func20, Tryz.ntmps20
    go_wp2_with (first
      | (go_at_call 35; (with_reducible refine (cI1.out _ (hT.on ((Below.refl w.heap.size w).alloc (Nat.le_refl _) _))).mono ?_); rintro e W1 ⟨rfl, hb1⟩; have HB1 := Lib.hid (((Below.refl w.heap.size w).alloc (Nat.le_refl _) _).trans (hb1.mono (by simp))); have hblk := (Blk.new (w := w) (t := 26) (cs := #[.int .i64 m, .string (bs u)]) rfl).below hb1 (by simp); replace hblk := Lib.hid hblk; clear hb1)
      | (go_at_call 35; (with_reducible refine (cI2.out _ (hT.on HB1.out)).mono ?_); rintro e W2 ⟨rfl, hb2⟩; have HB2 := Lib.hid (HB1.out.trans (hb2.mono HB1.out.size)); have hblk2 := hblk.out.below hb2 hblk.out.lt; have p2 := hblk2.cell; clear hb2)
      | (go_at_call 36; (with_reducible refine (cR.out _).mono ?_); rintro e W3 ⟨rfl, rfl⟩))
    go_ret
    exact ⟨by rw [← hend.out]; rfl, HB2.out⟩

end Go.Proofs.YtaihncbejhnceaaGreatDoor.dim
