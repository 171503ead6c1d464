/- Contracts: Cut. -/
import Derived.Test.YtphdmdncboegjaaDoorTok19
import Derived.Test.YtphdmdncboegjaaDoorRd
namespace Go.Proofs.YtphdmdncboegjaaDoor.tok
open Go.RowKit Go.Proofs.YtphdmdncboegjaaDoor.base
set_option linter.unusedVariables false

theorem infoT : (Tryd.prog.info? 28).map (fun i => (i.zero, i.size, i.bytes)) = some (some (.agg #[.int .i64 0, .string .empty, .string .empty, .int .i64 0]), 4, 48) := by kernel_rfl
abbrev tcells (t : Tk) : List Value := t.cells.toList
theorem tcells_len (t : Tk) : (tcells t).length = 4 := rfl

def strLen : Value → Nat
  | .string s => s.size
  | _ => 0

/-- what is known of a text that is cut so far -/
def CutRel (s : ByteArray) (w : World) (x v : Value) (wr : World) : Prop :=
  ∃ (X : ByteArray) (acc : List Tk), x = .string X ∧ acc.length + X.size ≤ s.size ∧ cutP s.data.toList = acc ++ cutP X.data.toList ∧ wr.ownsRow w.heap.size 28 4 v acc.length (flatR tcells acc) ∧ Below w.heap.size w wr

set_option maxRecDepth 100000 in
set_option maxHeartbeats 4000000 in
theorem cut_row (s : ByteArray) (hs : s.size < 4294967281) (w : World) (hm : MaxL w) :
    Calls Tryd.prog 16 #[.string s] w fun e w' => (∃ v, e = .returned v ∧ w'.ownsRow w.heap.size 28 4 v (cutP s.data.toList).length (flatR tcells (cutP s.data.toList))) ∧ Below w.heap.size w w' := by
  obtain ⟨i0, hi, hz0, hz1, hz2⟩ := info_parts infoT
  have Hz0 := Lib.hid hz0
  have Hi := Lib.hid hi
  have Hz1 := Lib.hid hz1
  have Hz2 := Lib.hid hz2
  have HM := Lib.hid hm
  clear hz0 hi hz1 hz2 hm
  go_enter Tryd.func16, Tryd.ntmps16
  go_wp2_with fail
  go_loopw [0, 3] (fun x v wr => CutRel s w x v wr) (fun x _ _ => strLen x)
  case atStart => exact ⟨s, [], rfl, by simp, by simp, World.ownsRow_nil _ _ _ _, Below.refl _ _⟩
  case round =>
    obtain ⟨X, acc, rfl, hal, hinv, hrow, hbel⟩ := hrel
    have hmr := Lib.hid (HM.out.on hbel HM.out.lt)
    have hz := hbel.size
    have HBl := Lib.hid hbel
    replace hrow := Lib.hid hrow
    replace hinv := Lib.hid hinv
    clear hbel
    rcases Nat.eq_zero_or_pos X.size with h0 | h0
    · have he := empty_yes h0
      have hX : X.data.toList = [] := List.eq_nil_of_length_eq_zero (by rw [← Lib.size_eq]; exact h0)
      have hfin := Lib.hid (show cutP s.data.toList = acc by rw [hinv.out, hX, cutP_nil, List.append_nil])
      clear hX h0
      go_wp2
      go_ret
      exact ⟨⟨_, rfl, by rw [hfin.out]; exact hrow.out⟩, HBl.out⟩
    · have he := empty_no h0
      have hX : X.data.toList ≠ [] := fun h => by
        rw [Lib.size_eq, h] at h0
        simp at h0
      have hpre := first_pre X.data.toList hX
      have hrw := first_raw X.data.toList hX
      have hcc := cutP_cons hX
      have hrl : (firstP X.data.toList).raw.length ≤ X.size := by
        rw [hrw, List.length_take, ← Lib.size_eq]
        omega
      have hpos := hpre.2
      have cF := fun w hm => first_ct X (by omega) h0 w hm
      generalize firstP X.data.toList = t at *
      have hnext : cutP s.data.toList = (acc ++ [t]) ++ cutP (X.extract (bs t.raw).size X.size).data.toList := by
        rw [Lib.extract_to_end, hinv.out, hcc]
        simp [bs_size]
      have hnl : (X.extract (bs t.raw).size X.size).size + t.raw.length = X.size := by
        simp only [ByteArray.size_extract, bs_size]
        omega
      have hrs : (bs t.raw).size ≤ X.size := hrl
      obtain ⟨tk, tr, tv, tn⟩ := t
      simp only [Tk.cells] at cF
      replace cF := Lib.hid cF
      replace hnext := Lib.hid hnext
      simp only at hpos hrl hnl hrs
      replace hnl := Lib.hid hnl
      clear hX hpre hrw hcc
      obtain ⟨a, cp, rfl⟩ := row_form hrow.out
      go_wp2_with (first
        | (go_at_call 34; (with_reducible refine (cF.out _ hmr.out).mono ?_); rintro e W2 ⟨rfl, hb2⟩; have hrow2 := Lib.hid (row_on hrow.out hb2); have HB2 := Lib.hid (HBl.out.trans (hb2.mono HBl.out.size)); have hz2 := hb2.size; clear hb2)
        | (at_builtin; refine wpList_append_own _ rfl _ _ 23 rfl w.heap.size 28 i0 _ 4 48 Tryd.underlying23 Hi.out Hz0.out Hz1.out Hz2.out rfl (by decide) _ _ _ rfl ((hrow2.out.alloc _).alloc _) ⟨W2.heap.size + 1, 0, none⟩ 1 1 [.int .i64 tk, .string (bs tr), .string (bs tv), .int .i64 tn] rfl rfl ?c1 ?c2 ?c3 ?c4 ?c5 ?_))
      case c1 => exact (Blk.new (w := W2.alloc (.cells #[.int .i64 tk, .string (bs tr), .string (bs tv), .int .i64 tn] 28)) (t := 28) (cs := #[.int .i64 tk, .string (bs tr), .string (bs tv), .int .i64 tn]) (by simp)).news
      case c2 => simp [Value.oneCell']
      case c3 => unfold maxLen; omega
      case c4 => omega
      case c5 => simp; omega
      intro v' w3 hown3 hgrow3 hnil3
      have tB := Lib.hid (show Blk w3 W2.heap.size 28 #[.int .i64 tk, .string (bs tr), .string (bs tv), .int .i64 tn] from
        (hgrow3.block W2.heap.size (by simp; omega) (fun e => by have := (hrow2.out.lt _ e.symm).2; omega)).trans ((Blk.new rfl).alloc _))
      have tC := tB.out.cell
      have hb3 := Lib.hid (below_app ((HB2.out.alloc HB2.out.size _).alloc (by simp; have := HB2.out.size; omega) _) hgrow3 ((hrow2.out.alloc _).alloc _) (Nat.le_refl _) (by simp; have := HB2.out.size; omega))
      replace hown3 := Lib.hid hown3
      clear hgrow3 hnil3
      go_wp2
      go_roundw
      case rel =>
        refine ⟨_, acc ++ [⟨tk, tr, tv, tn⟩], rfl, ?_, hnext.out, ?_, hb3.out⟩
        · have hbz : (bs tr).size = tr.length := rfl
          simp
          omega
        · simpa [flatR_snoc] using hown3.out
      case measure =>
        have hbz : (bs tr).size = tr.length := rfl
        simp [strLen]
        omega

/-- slices of tokens -/
abbrev TRd (w : World) (B : Nat) (A : Option Addr) (n : Nat) (L : List Tk) : Prop := Rd 4 tcells w B A n L

theorem cut_ct (s : ByteArray) (hs : s.size < 4294967281) (w : World) (hm : MaxL w) :
    Calls Tryd.prog 16 #[.string s] w fun e w' => (∃ A cap, e = .returned (.slice A (cutP s.data.toList).length cap) ∧ (cutP s.data.toList).length ≤ cap ∧ TRd w' w'.heap.size A (cutP s.data.toList).length (cutP s.data.toList)) ∧ Below w.heap.size w w' :=
  (cut_row s hs w hm).mono fun e w' ⟨⟨v, he, hr⟩, hb⟩ => by
    obtain ⟨A, c, rfl, hc, hg⟩ := row_rd tcells_len rfl hr
    exact ⟨⟨A, c, he, hc, hg⟩, hb⟩

end Go.Proofs.YtphdmdncboegjaaDoor.tok
