/- Contracts and plain law, a bundle: Var0 Var1 Var3 Var2 Var4 Var5 Rul7 RulL0. -/
import Derived.RangeFuncBox
import Derived.RangeFuncNested
import Derived.RangeFuncBound
import Derived.RangeFuncCalls
import Derived.RangeFuncLeaves
import Derived.Shelf.Abstract
import Derived.WalkKit
import Derived.OwnWalkIn
import Derived.TacticsInMore
import Derived.LoopNIn
import Derived.LoopIn
import Derived.Deep.DeepCutAuto
import Derived.BigQuiet
import Derived.Test.YtmjbaimccbkmpaaDoorBE
import Derived.Test.YtmjbaimccbkmpaaDoorBA

namespace Go.Proofs.YtmjbaimccbkmpaaDoor.vrs
open Go.RowKit Go.Proofs.YtmjbaimccbkmpaaDoor.base Go.Proofs.YtmjbaimccbkmpaaDoor.tok Go.Proofs.YtmjbaimccbkmpaaDoor.rul
set_option linter.unusedVariables false

def varT : Bs := [118, 97, 114]
def isVarP (t : Tk) : Bool := decide (t.k = 2) && Lib.equalFold t.val varT
/-- the name in a block, and what is behind its comma -/
def askP (L : List Tk) : Option (Bs × Option (List Tk)) :=
  match L.dropWhile silP with
  | [] => none
  | t :: L2 => if t.k = 1 then (match L2.dropWhile silP with
      | [] => some (t.val, none)
      | c :: L4 => if c.k = 12 ∧ c.raw = [44] then some (t.val, some L4) else none) else none
/-- the last value of a name -/
def lastP (V : List (Bs × Bs)) (n : Bs) : Option Bs := (V.reverse.find? (fun p => decide (p.1 = n))).map (·.2)
/-- what stands in place of a block -/
def putG (fill : Bs → Bs × Bool) (V : List (Bs × Bs)) (L : List Tk) : Bs × Bool :=
  match askP L with
  | none => ([], false)
  | some (n, o) => match lastP V n with
    | some v => (v, true)
    | none => match o with
      | none => ([], false)
      | some L4 => fill (headP L4)
def fillG (put : List Tk → Bs × Bool) : List Tk → Bs → Bs × Bool
  | [], b => (b, decide (b.length ≤ 400))
  | t :: L, b =>
    if isVarP t then
      if blkOk t L then
        if (put (((t :: L).take (blkLen t L - 1)).drop 1)).2 then
          if 400 < (b ++ (put (((t :: L).take (blkLen t L - 1)).drop 1)).1).length then ([], false)
          else fillG put ((t :: L).drop (blkLen t L)) (b ++ (put (((t :: L).take (blkLen t L - 1)).drop 1)).1)
        else ([], false)
      else ([], false)
    else fillG put L (b ++ t.raw)
termination_by L => L.length
decreasing_by
  · have := blkLen_bd t L
    simp only [List.length_drop, List.length_cons]
    omega
  · simp
theorem fillG_nil (put : List Tk → Bs × Bool) (b : Bs) : fillG put [] b = (b, decide (b.length ≤ 400)) := by rw [fillG]
theorem fillG_other {put : List Tk → Bs × Bool} {t : Tk} {L : List Tk} {b : Bs} (h : isVarP t = false) : fillG put (t :: L) b = fillG put L (b ++ t.raw) := by rw [fillG, h]; rfl
theorem fillG_open {put : List Tk → Bs × Bool} {t : Tk} {L : List Tk} {b : Bs} (h : isVarP t = true) (h2 : blkOk t L = false) : fillG put (t :: L) b = ([], false) := by rw [fillG, h, h2]; rfl
theorem fillG_none {put : List Tk → Bs × Bool} {t : Tk} {L : List Tk} {b s : Bs} (h : isVarP t = true) (h2 : blkOk t L = true) (h3 : put (((t :: L).take (blkLen t L - 1)).drop 1) = (s, false)) : fillG put (t :: L) b = ([], false) := by rw [fillG, h, h2, h3]; rfl
theorem fillG_much {put : List Tk → Bs × Bool} {t : Tk} {L : List Tk} {b s : Bs} (h : isVarP t = true) (h2 : blkOk t L = true) (h3 : put (((t :: L).take (blkLen t L - 1)).drop 1) = (s, true)) (h4 : 400 < (b ++ s).length) : fillG put (t :: L) b = ([], false) := by
  rw [fillG, h, h2, h3]
  simp only [if_true]
  rw [if_pos h4]
theorem fillG_put {put : List Tk → Bs × Bool} {t : Tk} {L : List Tk} {b s : Bs} (h : isVarP t = true) (h2 : blkOk t L = true) (h3 : put (((t :: L).take (blkLen t L - 1)).drop 1) = (s, true)) (h4 : ¬ 400 < (b ++ s).length) : fillG put (t :: L) b = fillG put ((t :: L).drop (blkLen t L)) (b ++ s) := by
  rw [fillG, h, h2, h3]
  simp only [if_true]
  rw [if_neg h4]
def fillF : Nat → List (Bs × Bs) → Bs → Bs × Bool
  | 0, _, _ => ([], false)
  | d + 1, V, s => if 400 < s.length then ([], false) else fillG (putG (fillF d V) V) (cutP s) []
def fillP (V : List (Bs × Bs)) (s : Bs) : Bs × Bool := fillF 401 V s

/-! ### How long a text is behind Head -/
theorem head_len : ∀ (L : List Tk) (out : Bs) (gap : Bool), (∀ t ∈ L, t.raw ≠ []) → (headF L out gap).length ≤ out.length + (if gap then 1 else 0) + (textOf L).length
  | [], out, gap, _ => by simp [headF, textOf]
  | t :: L, out, gap, h => by
    have ht : 0 < t.raw.length := List.length_pos_iff.2 (h t (List.mem_cons_self ..))
    have hl := fun o g => head_len L o g (fun x hx => h x (List.mem_cons_of_mem _ hx))
    have hx : (textOf (t :: L)).length = t.raw.length + (textOf L).length := by simp [textOf]
    rw [hx]
    unfold headF
    split
    · have := hl out (decide (0 < out.length))
      split at this <;> omega
    · have := hl ((if gap then out ++ [32] else out) ++ t.raw) false
      rw [List.length_append] at this
      cases gap <;> simp at this ⊢ <;> omega
theorem headP_len {L : List Tk} (h : ∀ t ∈ L, t.raw ≠ []) : (headP L).length ≤ (textOf L).length := by
  have := head_len L [] false h
  simpa [headP] using this

/-- what is behind the comma is shorter -/
theorem ask_short {L L4 : List Tk} {n : Bs} (h : askP L = some (n, some L4)) : ∃ m, L4 = L.drop (m + 1) ∧ m < L.length := by
  have key : ∀ L : List Tk, ∃ m, L.dropWhile silP = L.drop m ∧ m ≤ L.length := fun L => ⟨(L.takeWhile silP).length, by
    have h := @List.drop_left _ (L.takeWhile silP) (L.dropWhile silP)
    rw [List.takeWhile_append_dropWhile] at h
    exact h.symm, by
    have := List.takeWhile_prefix (p := silP) (l := L)
    exact this.length_le⟩
  obtain ⟨a, ha, hal⟩ := key L
  unfold askP at h
  rw [ha] at h
  cases e : L.drop a with
  | nil => rw [e] at h; cases h
  | cons t L2 =>
    rw [e] at h
    simp only at h
    split at h
    · obtain ⟨b, hb, hbl⟩ := key L2
      rw [hb] at h
      cases e2 : L2.drop b with
      | nil => rw [e2] at h; cases h
      | cons c L5 =>
        rw [e2] at h
        simp only at h
        split at h
        · injection h with h
          injection h with h1 h2
          injection h2 with h2
          subst h2
          have hla : (L.drop a).length = L2.length + 1 := by rw [e]; rfl
          have hlb : (L2.drop b).length = L5.length + 1 := by rw [e2]; rfl
          rw [List.length_drop] at hla hlb
          refine ⟨a + 1 + b, ?_, by omega⟩
          have h3 : L2 = L.drop (a + 1) := by
            have := congrArg (List.drop 1) e
            rw [List.drop_drop] at this
            simpa using this.symm
          have h4 : L5 = L2.drop (b + 1) := by
            have := congrArg (List.drop 1) e2
            rw [List.drop_drop] at this
            simpa using this.symm
          rw [h4, h3, List.drop_drop]
          first | rfl | (congr 1; omega)
        · cases h
    · cases h

/-! ### A value without a bracket -/
theorem word_func {l : Bs} (h : (wordP l).k = 2) : 40 ∈ l := by
  unfold wordP at h
  split at h
  · rename_i hp
    have hx : [40] <+: l.drop (namedP 1 l 0).raw.length := List.isPrefixOf_iff_prefix.1 hp
    exact List.mem_of_mem_drop (hx.subset (List.mem_singleton.2 rfl))
  · exact absurd h (by simp [namedP])
theorem first_func {l : Bs} (h : (firstP l).k = 2) : 40 ∈ l := by
  unfold firstP at h
  split at h
  · exact absurd h (by simp)
  · split at h
    · exact absurd h (by simp [noteP])
    · split at h
      · exfalso
        match l, h with
        | [], h => exact absurd h (by simp [textP])
        | c :: r, h =>
          simp only [textP] at h
          have := textR_kind c _ r (Nat.le_refl _)
          omega
      · split at h
        · exact absurd h (by simp [namedP])
        · split at h
          · exact absurd h (by simp [namedP])
          · split at h
            · exfalso
              revert h
              simp only [numTkP]
              split
              · simp
              · split <;> simp
            · split at h
              · exact word_func h
              · exfalso
                revert h
                unfold oneK
                split
                · split
                  · simp
                  · split
                    · simp
                    · split <;> simp
                · simp
theorem cut_func : ∀ (n : Nat) (l : Bs), l.length ≤ n → 40 ∉ l → ∀ t ∈ cutP l, t.k ≠ 2
  | 0, l, h, _, t, ht => by
    obtain rfl := List.eq_nil_of_length_eq_zero (Nat.le_zero.1 h)
    rw [cutP_nil] at ht
    cases ht
  | n + 1, l, h, hno, t, ht => by
    by_cases h0 : l = []
    · subst h0
      rw [cutP_nil] at ht
      cases ht
    · rw [cutP_cons h0] at ht
      have hp := (first_pre l h0).2
      have hl : 0 < l.length := List.length_pos_iff.2 h0
      rcases List.mem_cons.1 ht with rfl | ht
      · exact fun hk => hno (first_func hk)
      · exact cut_func n _ (by rw [List.length_drop]; omega) (fun hm => hno (List.mem_of_mem_drop hm)) t ht
theorem fill_plain (put : List Tk → Bs × Bool) : ∀ (L : List Tk) (b : Bs), (∀ t ∈ L, t.k ≠ 2) → fillG put L b = (b ++ textOf L, decide ((b ++ textOf L).length ≤ 400))
  | [], b, _ => by rw [fillG_nil]; simp [textOf]
  | t :: L, b, h => by
    have ht : isVarP t = false := by
      unfold isVarP
      rw [decide_eq_false (h t (List.mem_cons_self ..))]
      rfl
    rw [fillG_other ht, fill_plain put L _ (fun x hx => h x (List.mem_cons_of_mem _ hx))]
    simp [textOf]
/-- what asks for nothing stays -/
theorem fill_stays {V : List (Bs × Bs)} {s : Bs} (h : 40 ∉ s) (hs : s.length ≤ 400) : fillP V s = (s, true) := by
  unfold fillP fillF
  rw [if_neg (by omega), fill_plain _ _ _ (cut_func _ s (Nat.le_refl _) h), List.nil_append, cut_text]
  simp [hs]
theorem fill_large {V : List (Bs × Bs)} {s : Bs} (hs : 400 < s.length) : fillP V s = ([], false) := by
  unfold fillP fillF
  rw [if_pos hs]

end Go.Proofs.YtmjbaimccbkmpaaDoor.vrs

namespace Go.Proofs.YtmjbaimccbkmpaaDoor.vrs
open Go.RowKit Go.Proofs.YtmjbaimccbkmpaaDoor.base Go.Proofs.YtmjbaimccbkmpaaDoor.tok Go.Proofs.YtmjbaimccbkmpaaDoor.rul
set_option linter.unusedVariables false

abbrev AsksV (f : FuncId) (p : Tk → Bool) : Prop := ∀ (t : Tk) (w : World), Calls Tryd.prog f #[.agg t.cells] w fun e w' => e = .returned (.bool (p t)) ∧ Below w.heap.size w w'

set_option maxRecDepth 100000 in
theorem vsilent_ct : AsksV 41 silP := by
  intro ⟨k, r, v, n⟩ w
  have hb := Lib.hid (show Below w.heap.size w (w.alloc (.cells #[.int .i64 k, .string (bs r), .string (bs v), .int .i64 n] 43)) from (Below.refl _ _).alloc (Nat.le_refl _) _)
  simp only [Tk.cells, silP]
  by_cases h1 : k = 8
  · subst h1
    go_enter Tryd.func41, Tryd.ntmps41
    go_wp2
    go_ret
    exact ⟨rfl, hb.out⟩
  · have b1 : (k == 8) = false := by simpa using h1
    rw [decide_eq_false h1, Bool.false_or]
    by_cases h2 : k = 9
    · subst h2
      go_enter Tryd.func41, Tryd.ntmps41
      go_wp2
      go_ret
      exact ⟨rfl, hb.out⟩
    · have b2 : (k == 9) = false := by simpa using h2
      rw [decide_eq_false h2]
      go_enter Tryd.func41, Tryd.ntmps41
      go_wp2
      go_ret
      exact ⟨rfl, hb.out⟩


set_option maxRecDepth 100000 in
theorem vcloser_ct (t : Tk) (h : t.raw ≠ []) (hl : t.raw.length ≤ 9223372036854775807) (w : World) : Calls Tryd.prog 34 #[.agg t.cells] w fun e w' => e = .returned (.string (bs (closerP t.raw))) ∧ Below w.heap.size w w' := by
  obtain ⟨k, r, v, n⟩ := t
  have hb := Lib.hid (show Below w.heap.size w (w.alloc (.cells #[.int .i64 k, .string (bs r), .string (bs v), .int .i64 n] 43)) from (Below.refl _ _).alloc (Nat.le_refl _) _)
  simp only at h hl
  obtain ⟨hlt, hc⟩ := last_at h
  have hp : 0 < (bs r).size := List.length_pos_iff.2 h
  have hsz : (bs r).size ≤ 9223372036854775807 := hl
  simp only [Tk.cells, closerP, hc]
  have c1 := byte_is (c := (bs r)[(bs r).size - 1]'hlt) (n := 91) (by decide)
  have c2 := byte_is (c := (bs r)[(bs r).size - 1]'hlt) (n := 123) (by decide)
  clear hc h hl
  by_cases h1 : ((bs r)[(bs r).size - 1]'hlt) = 91
  · have b1 : ((((bs r)[(bs r).size - 1]'hlt).toNat : Int) == 91) = true := c1.trans (by rw [h1]; rfl)
    rw [show (if some ((bs r)[(bs r).size - 1]'hlt) = some 91 then [93] else if some ((bs r)[(bs r).size - 1]'hlt) = some 123 then [125] else [41] : Bs) = [93] from if_pos (congrArg some h1)]
    clear c1 c2 h1
    go_enter Tryd.func34, Tryd.ntmps34
    go_wp2
    go_ret
    exact ⟨rfl, hb.out⟩
  · have b1 : ((((bs r)[(bs r).size - 1]'hlt).toNat : Int) == 91) = false := c1.trans (decide_eq_false h1)
    by_cases h2 : ((bs r)[(bs r).size - 1]'hlt) = 123
    · have b2 : ((((bs r)[(bs r).size - 1]'hlt).toNat : Int) == 123) = true := c2.trans (by rw [h2]; rfl)
      rw [show (if some ((bs r)[(bs r).size - 1]'hlt) = some 91 then [93] else if some ((bs r)[(bs r).size - 1]'hlt) = some 123 then [125] else [41] : Bs) = [125] from (if_neg (fun e => h1 (Option.some.inj e))).trans (if_pos (congrArg some h2))]
      clear c1 c2 h1 h2
      go_enter Tryd.func34, Tryd.ntmps34
      go_wp2
      go_ret
      exact ⟨rfl, hb.out⟩
    · have b2 : ((((bs r)[(bs r).size - 1]'hlt).toNat : Int) == 123) = false := c2.trans (decide_eq_false h2)
      rw [show (if some ((bs r)[(bs r).size - 1]'hlt) = some 91 then [93] else if some ((bs r)[(bs r).size - 1]'hlt) = some 123 then [125] else [41] : Bs) = [41] from (if_neg (fun e => h1 (Option.some.inj e))).trans (if_neg (fun e => h2 (Option.some.inj e)))]
      clear c1 c2 h1 h2
      go_enter Tryd.func34, Tryd.ntmps34
      go_wp2
      go_ret
      exact ⟨rfl, hb.out⟩


theorem var_word : Word varT := by
  refine ⟨by decide, ?_⟩
  decide
set_option maxRecDepth 100000 in
theorem isVar_ct (t : Tk) (ht : t.val.length < 4294967281) (w : World) (hF : FoldAt w) : Calls Tryd.prog 13 #[.agg t.cells] w fun e w' => e = .returned (.bool (isVarP t)) ∧ Below w.heap.size w w' := by
  obtain ⟨k, r, v, n⟩ := t
  have hb := Lib.hid (show Below w.heap.size w (w.alloc (.cells #[.int .i64 k, .string (bs r), .string (bs v), .int .i64 n] 43)) from (Below.refl _ _).alloc (Nat.le_refl _) _)
  simp only [Tk.cells, isVarP]
  by_cases h1 : k = 2
  · subst h1
    have cE := Lib.hid (show ∀ w, FoldAt w → Calls Tryd.prog 32 #[.string (bs v), .string ⟨#[118, 97, 114]⟩] w fun e w' => e = .returned (.bool (Lib.equalFold v varT)) ∧ Below w.heap.size w w' from fun w hF => fold_ct (bs v) (by simp only at ht; rw [bs_size]; exact ht) varT var_word w hF)
    have HF := Lib.hid (hF.on hb.out)
    clear ht
    go_enter Tryd.func13, Tryd.ntmps13
    go_wp2_with (go_at_call 32; (with_reducible refine (cE.out _ HF.out).mono ?_); rintro e W1 ⟨rfl, hb1⟩; have HB1 := Lib.hid (hb.out.trans (hb1.mono hb.out.size)); clear hb1)
    go_ret
    exact ⟨by simp [bs], HB1.out⟩
  · have b1 : (k == 2) = false := by simpa using h1
    rw [decide_eq_false h1, Bool.false_and]
    go_enter Tryd.func13, Tryd.ntmps13
    go_wp2
    go_ret
    exact ⟨rfl, hb.out⟩

end Go.Proofs.YtmjbaimccbkmpaaDoor.vrs

namespace Go.Proofs.YtmjbaimccbkmpaaDoor.vrs
open Go.RowKit Go.Shelf Go.Proofs.YtmjbaimccbkmpaaDoor.base Go.Proofs.YtmjbaimccbkmpaaDoor.tok Go.Proofs.YtmjbaimccbkmpaaDoor.rul
set_option linter.unusedVariables false
attribute [local go_sem] Oper.semAt_some

abbrev Vr := Bs × Bs
def vc (p : Vr) : List Value := [.string (bs p.1), .string (bs p.2)]
abbrev VRd (w : World) (B : Nat) (A : Option Addr) (n : Nat) (V : List Vr) : Prop := Rd 2 vc w B A n V
theorem VRd.var {w : World} {B : Nat} {A : Option Addr} {n k : Nat} {V : List Vr} (h : VRd w B A n V) (hk : k < n) : ∃ b off p, A = some ⟨b, off, none⟩ ∧ b < B ∧ V[k]? = some p ∧ w.cell? ⟨b, off + k * 2, none⟩ = some (.string (bs p.1)) ∧ w.cell? ⟨b, off + k * 2 + 1, none⟩ = some (.string (bs p.2)) := by
  obtain ⟨b, off, p, hA, hlt, hd, hc⟩ := Rd.at_ h hk
  exact ⟨b, off, p, hA, hlt, hd, hc 0 (by decide), hc 1 (by decide)⟩

/-- what has come of the last ones when k rounds are over -/
def seqB (V : List Vr) (k : Nat) : List (Nat × Vr) := (List.range k).map fun j => (V.length - 1 - j, V[V.length - 1 - j]?.getD ([], []))
theorem seqB_succ (V : List Vr) (k : Nat) : seqB V (k + 1) = seqB V k ++ [(V.length - 1 - k, V[V.length - 1 - k]?.getD ([], []))] := by simp [seqB, List.range_succ]
theorem seqB_len (V : List Vr) (k : Nat) : (seqB V k).length = k := by simp [seqB]
theorem seqB_take (V : List Vr) (k : Nat) (hk : k ≤ V.length) : (seqB V k).map (·.2) = V.reverse.take k := by
  apply List.ext_getElem
  · simp [seqB]; omega
  · intro i h1 h2
    have hi : i < k := by simpa [seqB] using h1
    simp only [seqB, List.map_map, List.getElem_map, List.getElem_range, Function.comp, List.getElem_take, List.getElem_reverse]
    rw [List.getElem?_eq_getElem (by omega)]
    rfl

/-- what lay below n₀ stands, and one block more -/
def KpB (n₀ Bs : Nat) (W W' : World) : Prop := Below n₀ W W' ∧ ∀ o, W.heap[Bs]? = some o → W'.heap[Bs]? = some o
theorem KpB.refl (n₀ Bs : Nat) (W : World) : KpB n₀ Bs W W := ⟨Below.refl _ _, fun _ h => h⟩
theorem KpB.put {w : World} {n₀ Bs : Nat} (hn : n₀ ≤ w.heap.size) (W : World) (l : Nat) (o o' : Obj) (hl : w.heap.size ≤ l) (ho : W.heap[l]? = some o) (h1 : o.isCells = false) (h2 : o.isWalk = false) (hne : Bs ≠ l) : KpB n₀ Bs W (W.putObj l o') :=
  ⟨belowK_b (w := w) hn W l o o' hl ho h1 h2, fun ob hob => ((grownBy_putObj' W l o').block _ (Array.getElem?_eq_some_iff.1 hob).1 (fun e => hne (by cases e; rfl))).trans hob⟩
theorem KpB.trans {n₀ Bs : Nat} {A B C : World} (h : KpB n₀ Bs A B) (k : KpB n₀ Bs B C) : KpB n₀ Bs A C := ⟨h.1.trans k.1, fun o ho => k.2 o (h.2 o ho)⟩

set_option maxRecDepth 100000 in
set_option maxHeartbeats 2000000 in
theorem back1_in (F : Fence) (n : Nat) (h7 : F.fn 60) (hro : F.round = none) (hn : 1 ≤ n) (l Bs n₀ cap : Nat) (A : Option Addr) (V : List Vr) (hV : V.length ≤ 1000000) (J Jx : List (Nat × Vr) → World → Prop)
    (hY : ∀ pre x W, J pre W → pre.length < V.length → YieldAt F (n - 1) Tryd.prog l #[.int .i64 (x.1 : Int), .agg #[.string (bs x.2.1), .string (bs x.2.2)]] W fun e W' =>
      (e = .returned (.bool true) ∧ J (pre ++ [x]) W' ∧ KpB n₀ Bs W W') ∨ (e = .returned (.bool false) ∧ Jx (pre ++ [x]) W'))
    (W : World) (hBs : Boxed W Bs 27 (.slice A V.length cap)) (hc : VRd W n₀ A V.length V) (h0 : J [] W) :
    CallsIn F n Tryd.prog 60 #[.func (.yield l) #[] #[], .pointer (some ⟨Bs, 0, none⟩)] W fun e W' => (∃ v, e = .returned v) ∧
      ((∃ ys, ys = seqB V V.length ∧ J ys W') ∨ (∃ pre, (∃ k, k ≤ V.length ∧ pre = seqB V k) ∧ Jx pre W')) := by
  refine callsIn_of_wp Tryd.func60 rfl h7 ?_ hro
  simp only [Tryd.ntmps60, List.size_toArray, List.length_cons, List.length_nil, Nat.reduceAdd, Nat.reduceSub, Array.replicate_succ, Array.replicate_zero, List.push_toArray, List.append_toArray, List.nil_append, List.cons_append]
  have hlz : (V.length : Int) ≤ 1000000 := by omega
  have hBc := hBs.cell
  gi_wp2
  gi_loopw [3] (fun i wr => ∃ k : Nat, k ≤ V.length ∧ i = .int .i64 ((V.length : Int) - 1 - (k : Int)) ∧ J (seqB V k) wr ∧ KpB n₀ Bs W wr)
    (fun i _ => (intOf i + 1).toNat)
  case atStart => exact ⟨0, Nat.zero_le _, by simp, h0, KpB.refl _ _ _⟩
  case round =>
    obtain ⟨k, hk, rfl, hJs, hnx⟩ := hrel
    have hcb : wr.cell? ⟨Bs, 0, none⟩ = some (.slice A V.length cap) := Boxed.cell (hnx.2 _ hBs)
    by_cases hlt : k < V.length
    · obtain ⟨j, hj⟩ : ∃ j, j + k + 1 = V.length := ⟨V.length - 1 - k, by omega⟩
      have e1 : (V.length : Int) - 1 - (k : Int) = (j : Int) := by omega
      have ej : V.length - 1 - k = j := by omega
      have hge : (0 : Int) ≤ (j : Int) := by omega
      have hjl : (j : Int) < (V.length : Int) := by omega
      obtain ⟨b, off, p, rfl, hb, hd, c0, c1⟩ := VRd.var (hc.keep hnx.1 (Nat.le_refl _)) (show j < V.length by omega)
      rw [e1]
      obtain ⟨fn, tmps, assign, body, hy, hR⟩ := hY _ (j, p) wr hJs (by rw [seqB_len]; exact hlt)
      dsimp only at hy
      have hsn : seqB V k ++ [(j, p)] = seqB V (k + 1) := by rw [seqB_succ, ej, hd]; rfl
      gi_wp2
      refine hR.mono ?_
      rintro e W3 (⟨rfl, hJ3, hk3⟩ | ⟨rfl, hJx3⟩)
      · gi_wp2
        go_roundw
        case rel =>
          refine ⟨k + 1, by omega, ?_, (by rw [← hsn]; exact hJ3), hnx.trans hk3⟩
          first | go_num | (congr 1; omega)
        case measure => simp [intOf]
      · gi_wp2
        refine bodyPost_ret (results_none rfl _ _ _) rfl ?_
        exact ⟨⟨_, rfl⟩, .inr ⟨_, ⟨k + 1, by omega, hsn⟩, hJx3⟩⟩
    · obtain rfl : k = V.length := by omega
      have e1 : (V.length : Int) - 1 - (V.length : Int) = -1 := by omega
      rw [e1]
      gi_wp2
      go_end0
      exact ⟨⟨_, rfl⟩, .inl ⟨_, rfl, hJs⟩⟩

set_option maxHeartbeats 1000000 in
theorem back_in (F : Fence) (n : Nat) (h5 : F.fn 42) (hro : F.round = none) (a : Option Addr) (len cap : Nat) (w : World) :
    CallsIn F n Tryd.prog 42 #[.slice a len cap] w fun e w' => e = .returned (.func (.func 60) #[] #[.pointer (some ⟨w.heap.size, 0, none⟩)]) ∧ w' = w.alloc (.cells #[.slice a len cap] 27) := by
  refine callsIn_of_wp Tryd.func42 rfl h5 ?_ hro
  simp only [Tryd.ntmps42, List.size_toArray, List.length_cons, List.length_nil, Nat.reduceAdd, Nat.reduceSub, Array.replicate_succ, Array.replicate_zero, List.push_toArray, List.append_toArray, List.nil_append, List.cons_append]
  gi_wp2
  go_ret
  exact ⟨rfl, rfl⟩

theorem back_stops (F : Fence) (n : Nat) (h7 : F.fn 60) (hro : F.round = none) (hn : 1 ≤ n) (Bs n₀ cap : Nat) (A : Option Addr) (V : List Vr) (hV : V.length ≤ 1000000) (w : World) (hBs : Bs < w.heap.size) (hn₀ : n₀ ≤ w.heap.size)
    (hc : Boxed w Bs 27 (.slice A V.length cap)) (hI : VRd w n₀ A V.length V) :
    SeqStopsK F n Tryd.prog 60 #[.pointer (some ⟨Bs, 0, none⟩)] (fun x : Nat × Vr => #[Value.int .i64 (x.1 : Int), .agg #[.string (bs x.2.1), .string (bs x.2.2)]]) (KpB n₀ Bs) (fun ys => ys = seqB V V.length) (fun pre => ∃ k, k ≤ V.length ∧ pre = seqB V k) V.length w := fun l J Jx W hW _ _ hY h0 => by
  have hc' : Boxed W Bs 27 (.slice A V.length cap) := (hW.block Bs hBs).trans hc
  exact back1_in F n h7 hro hn l Bs n₀ cap A V hV J Jx hY W hc' (hI.keep (hW.mono hn₀) (Nat.le_refl _)) h0

/-! ### what last tells -/
theorem last_none {V : List Vr} {nm : Bs} (h : ∀ p ∈ seqB V V.length, p.2.1 ≠ nm) : lastP V nm = none := by
  unfold lastP
  have e : V.reverse = (seqB V V.length).map (·.2) := by rw [seqB_take V _ (Nat.le_refl _), List.take_of_length_le (by simp)]
  rw [e, Option.map_eq_none_iff, List.find?_eq_none]
  intro x hx
  obtain ⟨p, hp, rfl⟩ := List.mem_map.1 hx
  simpa using h p hp
theorem last_some {V : List Vr} {nm : Bs} {ini : List (Nat × Vr)} {x : Nat × Vr} {k : Nat} (hk : k ≤ V.length) (e : ini ++ [x] = seqB V k) (h : ∀ p ∈ ini, p.2.1 ≠ nm) (hx : x.2.1 = nm) : lastP V nm = some x.2.2 := by
  unfold lastP
  have e1 : V.reverse.take k = ini.map (·.2) ++ [x.2] := by rw [← seqB_take V k hk, ← e]; simp
  have e2 : V.reverse = (ini.map (·.2) ++ [x.2]) ++ V.reverse.drop k := by rw [← e1, List.take_append_drop]
  rw [e2, List.append_assoc, List.find?_append]
  have h3 : List.find? (fun p : Vr => decide (p.1 = nm)) (ini.map (·.2)) = none := by
    rw [List.find?_eq_none]
    intro y hy
    obtain ⟨p, hp, rfl⟩ := List.mem_map.1 hy
    simpa using h p hp
  rw [h3]
  simp [hx]

theorem blk_own (B : Nat) (t : TypeId) (cs : Array Value) : Own (fun (_ : Unit) W => Blk W B t cs) := fun s X Y row hs hg hrow =>
  (hg.block B (Array.getElem?_eq_some_iff.1 hs).1 (fun e' => by obtain ⟨o, ho, hc⟩ := hrow B e'.symm; rw [show X.heap[B]? = _ from hs] at ho; cases ho; cases hc)).trans hs

set_option maxRecDepth 100000 in
set_option maxHeartbeats 4000000 in
theorem last_in (F : Fence) (n : Nat) (h4 : F.fn 30) (h6 : F.fn 42) (h8 : F.fn 60) (hro : F.round = none) (hn : 3 ≤ n) (A : Option Addr) (cap : Nat) (V : List Vr) (hV : V.length ≤ 1000000) (nm : Bs) (w : World) (hI : VRd w w.heap.size A V.length V) :
    CallsIn F n Tryd.prog 30 #[.slice A V.length cap, .string (bs nm)] w fun e W' => e = .returned (.tuple #[.string (bs ((lastP V nm).getD [])), .bool (lastP V nm).isSome]) ∧ Below w.heap.size w W' := by
  have h1 : 1 ≤ n := by omega
  refine callsIn_of_wp_marks Tryd.func30 rfl h4 ?_ hro
  simp only [Tryd.ntmps30, List.size_toArray, List.length_cons, List.length_nil, Nat.reduceAdd, Nat.reduceSub, Array.replicate_succ, Array.replicate_zero, List.push_toArray, List.append_toArray, List.nil_append, List.cons_append]
  gi_wp2_with (gi_at_call 42; refine (back_in F (n - 1) h6 hro _ _ _ _).mono ?_; rintro e w' ⟨rfl, rfl⟩)
  have b0 := (((Boxed.new w 9 (.string (bs nm))).alloc (.cells #[.string ⟨#[]⟩] 9)).alloc (.cells #[.bool false] 4)).alloc (.cells #[.slice A V.length cap] 27)
  have b1 := ((Boxed.new (w.alloc (.cells #[.string (bs nm)] 9)) 9 (.string ⟨#[]⟩)).alloc (.cells #[.bool false] 4)).alloc (.cells #[.slice A V.length cap] 27)
  have b2 := (Boxed.new ((w.alloc (.cells #[.string (bs nm)] 9)).alloc (.cells #[.string ⟨#[]⟩] 9)) 4 (.bool false)).alloc (.cells #[.slice A V.length cap] 27)
  have bN := Boxed.new (((w.alloc (.cells #[.string (bs nm)] 9)).alloc (.cells #[.string ⟨#[]⟩] 9)).alloc (.cells #[.bool false] 4)) 27 (.slice A V.length cap)
  simp only [World.size_alloc] at b1 b2 bN
  have hB0 : Below w.heap.size w ((((w.alloc (.cells #[.string (bs nm)] 9)).alloc (.cells #[.string ⟨#[]⟩] 9)).alloc (.cells #[.bool false] 4)).alloc (.cells #[.slice A V.length cap] 27)) := ((((Below.refl _ w).alloc (Nat.le_refl _) _).alloc (by simp) _).alloc (by simp; omega) _).alloc (by simp; omega) _
  have hsz : ((((w.alloc (.cells #[.string (bs nm)] 9)).alloc (.cells #[.string ⟨#[]⟩] 9)).alloc (.cells #[.bool false] 4)).alloc (.cells #[.slice A V.length cap] 27)).heap.size = w.heap.size + 4 := by simp
  obtain ⟨W0, hW0⟩ : ∃ W0, (((w.alloc (.cells #[.string (bs nm)] 9)).alloc (.cells #[.string ⟨#[]⟩] 9)).alloc (.cells #[.bool false] 4)).alloc (.cells #[.slice A V.length cap] 27) = W0 := ⟨_, rfl⟩
  have hW0' : (((w.alloc (.cells #[.string (bs nm)] 9)).alloc (.cells #[.string .empty] 9)).alloc (.cells #[.bool false] 4)).alloc (.cells #[.slice A V.length cap] 27) = W0 := hW0
  rw [hW0] at b0 b1 b2 bN hB0 hsz
  first | rw [hW0] | rw [hW0']
  clear hW0 hW0'
  refine wpIn_rangeFunc_ownH hro h1 (gf := 60) (lb := #[.pointer (some ⟨w.heap.size + 1 + 1 + 1, 0, none⟩)]) rfl h8 (enters_of Tryd.func60 (by kernel_rfl) rfl)
    (back_stops F (n - 1) h8 hro (by omega) (w.heap.size + 1 + 1 + 1) w.heap.size cap A V hV W0 (by omega) (by omega) bN (hI.keep hB0 (Nat.le_refl _))) (fun h k => KpB.trans h k) (fun W l o o' hl ho h1 h2 => KpB.put (w := w) (Nat.le_refl _) W l o o' (by omega) ho h1 h2 (by omega)) (Below.refl _ _) (fun _ => rfl)
    (fun pre W => ((∀ p ∈ pre, p.2.1 ≠ nm) ∧ Boxed W w.heap.size 9 (.string (bs nm)) ∧ Boxed W (w.heap.size + 1) 9 (.string ⟨#[]⟩) ∧ Boxed W (w.heap.size + 1 + 1) 4 (.bool false)) ∧ Below w.heap.size w W)
    (fun c pre W => (c = .ret ∧ ∃ ini x, pre = ini ++ [x] ∧ (∀ p ∈ ini, p.2.1 ≠ nm) ∧ x.2.1 = nm ∧ Boxed W (w.heap.size + 1) 9 (.string (bs x.2.2)) ∧ Boxed W (w.heap.size + 1 + 1) 4 (.bool true)) ∧ Below w.heap.size w W)
    (OwnFrom.and (Own.from (fun s X Y row hs hg hr => ⟨hs.1, blk_own _ _ _ () X Y row hs.2.1 hg hr, blk_own _ _ _ () X Y row hs.2.2.1 hg hr, blk_own _ _ _ () X Y row hs.2.2.2 hg hr⟩) _) (ownFrom_below (Nat.le_refl _) (by omega)))
    (fun c => OwnFrom.and (Own.from (fun s X Y row hs hg hr => by obtain ⟨hc, ini, x, e1, e2, e3, e4, e5⟩ := hs; exact ⟨hc, ini, x, e1, e2, e3, blk_own _ _ _ () X Y row e4 hg hr, blk_own _ _ _ () X Y row e5 hg hr⟩) _) (ownFrom_below (Nat.le_refl _) (by omega)))
    ⟨⟨by simp, b0, b1, b2⟩, hB0⟩
    (fun x a' W => ∃ Bx, w.heap.size + 1 + 1 < Bx ∧ Blk W Bx 26 #[.string (bs x.2.1), .string (bs x.2.2)] ∧ a' = { tmps := #[.slice A V.length cap, .string (bs nm), undef, .pointer (some ⟨w.heap.size, 0, none⟩), .pointer (some ⟨w.heap.size + 1, 0, none⟩), .pointer (some ⟨w.heap.size + 1 + 1, 0, none⟩), undef, .pointer (some ⟨Bx, 0, none⟩), .slice A V.length cap, .func (.func 60) #[] #[.pointer (some ⟨w.heap.size + 1 + 1 + 1, 0, none⟩)], .int .i64 (x.1 : Int), .agg #[.string (bs x.2.1), .string (bs x.2.2)], undef, undef, undef, undef, undef, undef], defers := [] })
    (fun x a' _ X Y row hs hg hr => by obtain ⟨Bx, h1, h2, h3⟩ := hs; exact ⟨Bx, h1, blk_own Bx _ _ () X Y row h2 hg (fun r e => (hr r e).2), h3⟩)
    ?assign ?body ?done ?stop
  case assign =>
    rintro l pre x W K ⟨⟨hp, c0, c1, c2⟩, hB1⟩ hK
    have hs2 := Boxed.lt c2
    gi_wp2
    exact hK _ _ ((KeepsOthers.alloc _ _).from _) ⟨(Below.refl _ W).alloc hB1.size _, fun o ho => (Below.heap_alloc W _ _ (Array.getElem?_eq_some_iff.1 ho).1).trans ho⟩ ⟨⟨hp, c0.alloc _, c1.alloc _, c2.alloc _⟩, hB1.alloc hB1.size _⟩ ⟨W.heap.size, hs2, Blk.new rfl, rfl⟩
  case body =>
    rintro l pre x a' W hl hr ⟨⟨hp, c0, c1, c2⟩, hB1⟩ ⟨Bx, hBx, bX, rfl⟩ hlt
    have d0 := c0.cell
    have dX := bX.cell
    have d1 := c1.cell
    have d2 := c2.cell
    have g1 := c1.frozen
    have g2 := c2.frozen
    by_cases hx : x.2.1 = nm
    · have hb : ((bs x.2.1).toList == (bs nm).toList) = true := by rw [hx]; simp
      gi_wp2
      exact ⟨((KeepsOthers.setCell _ _ _).from _).trans ((KeepsOthers.setCell _ _ _).from _), ⟨rfl, pre, x, rfl, hp, hx, (c1.set _).other (by omega) _, (c2.other (by omega) _).set _⟩, (hB1.setCell (p := ⟨w.heap.size + 1, 0, none⟩) (by simp) _).setCell (p := ⟨w.heap.size + 1 + 1, 0, none⟩) (by simp; omega) _⟩
    · have hb : ((bs x.2.1).toList == (bs nm).toList) = false := by rw [bs_toList, bs_toList]; simpa using hx
      gi_wp2
      exact ⟨KeepsFrom.refl _ _, KpB.refl _ _ _, ⟨fun p hp' => (List.mem_append.1 hp').elim (hp p) (fun e => by simp at e; subst e; exact hx), c0, c1, c2⟩, hB1⟩
  case done =>
    rintro D ys W hD rfl ⟨⟨hne, c0, c1, c2⟩, hB⟩ hK
    have d1 := c1.cell
    have d2 := c2.cell
    have g1 := c1.frozen
    have g2 := c2.frozen
    gi_wp2
    have hD2 := hsz ▸ hD
    have hK' := (KeepsOthers.setCell (W.setCell ⟨w.heap.size + 1, 0, none⟩ (.string ⟨#[]⟩)) ⟨w.heap.size + 1 + 1, 0, none⟩ (.bool false)).same D _ ((KeepsOthers.setCell W ⟨w.heap.size + 1, 0, none⟩ (.string ⟨#[]⟩)).same D _ hK rfl) rfl
    refine ⟨by simp, .inl ⟨_, _, rfl, run_takeDeferred hK', ?_⟩⟩
    have e1 := ((c1.set (.string ⟨#[]⟩)).other (B' := w.heap.size + 1 + 1) (by omega) (.bool false)).cell
    have e2 := ((c2.other (B' := w.heap.size + 1) (by omega) (.string ⟨#[]⟩)).set (.bool false)).cell
    have f1 := cell_kept e1 (grownBy_putObj' _ D (.deferred none)) (fun r e => by cases e; exact ⟨_, hK', rfl⟩)
    have f2 := cell_kept e2 (grownBy_putObj' _ D (.deferred none)) (fun r e => by cases e; exact ⟨_, hK', rfl⟩)
    refine ⟨.tuple #[.string ⟨#[]⟩, .bool false], ?_, by rw [last_none hne]; rfl, ((hB.setCell (p := ⟨w.heap.size + 1, 0, none⟩) (by simp) _).setCell (p := ⟨w.heap.size + 1 + 1, 0, none⟩) (by simp; omega) _).trans (belowK_b (w := w) (Nat.le_refl _) _ D _ _ (by omega) hK' rfl rfl)⟩
    simp [results, Tryd.f30, go_sem, f1, f2]
  case stop =>
    rintro D c pre W hD ⟨k, hk, rfl⟩ ⟨⟨rfl, ini, x, e1, e2, e3, c1, c2⟩, hB⟩ hK
    gi_wp2
    refine ⟨by simp, .inl ⟨_, _, rfl, run_takeDeferred hK, ?_⟩⟩
    have f1 := cell_kept c1.cell (grownBy_putObj' _ D (.deferred none)) (fun r e => by cases e; exact ⟨_, hK, rfl⟩)
    have f2 := cell_kept c2.cell (grownBy_putObj' _ D (.deferred none)) (fun r e => by cases e; exact ⟨_, hK, rfl⟩)
    refine ⟨.tuple #[.string (bs x.2.2), .bool true], ?_, by rw [last_some hk e1.symm e2 e3]; rfl, hB.trans (belowK_b (w := w) (Nat.le_refl _) W D _ _ (by have := hsz ▸ hD; omega) hK rfl rfl)⟩
    simp [results, Tryd.f30, go_sem, f1, f2]

theorem last_ct (A : Option Addr) (cap : Nat) (V : List Vr) (hV : V.length ≤ 1000000) (nm : Bs) (w : World) (hI : VRd w w.heap.size A V.length V) :
    Calls Tryd.prog 30 #[.slice A V.length cap, .string (bs nm)] w fun e w' => e = .returned (.tuple #[.string (bs ((lastP V nm).getD [])), .bool (lastP V nm).isSome]) ∧ Below w.heap.size w w' :=
  callsIn_wide.1 (last_in Fence.wide 3 trivial trivial trivial rfl (Nat.le_refl _) A cap V hV nm w hI)

end Go.Proofs.YtmjbaimccbkmpaaDoor.vrs

namespace Go.Proofs.YtmjbaimccbkmpaaDoor.vrs
open Go.RowKit Go.Proofs.YtmjbaimccbkmpaaDoor.base Go.Proofs.YtmjbaimccbkmpaaDoor.tok Go.Proofs.YtmjbaimccbkmpaaDoor.rul
set_option linter.unusedVariables false

def ClRel (w : World) (L : List Tk) (R : Option Nat) (v x : Value) (wr : World) : Prop :=
  ∃ (i : Nat) (st : List Bs), i ≤ L.length ∧ x = .int .i64 i ∧ st.length ≤ i ∧ (st = [] → i = 0) ∧ blkP st (L.drop i) i = R ∧ wr.ownsRow w.heap.size 9 1 v st.length (st.map strV) ∧ Below w.heap.size w wr

theorem closerV_at {k n : Int} {r v : Bs} (h : r ≠ []) (hl : r.length ≤ 1000000) (w : World) : Calls Tryd.prog 34 #[.agg #[.int .i64 k, .string (bs r), .string (bs v), .int .i64 n]] w fun e w' => e = .returned (.string (bs (closerP r))) ∧ Below w.heap.size w w' :=
  vcloser_ct ⟨k, r, v, n⟩ h (by simp only; omega) w

set_option maxRecDepth 100000 in
set_option maxHeartbeats 4000000 in
theorem closed_ct (A : Option Addr) (cap : Nat) (L : List Tk) (w : World) (hn : L.length ≤ 1000000) (hL : TRd w w.heap.size A L.length L) (hr : ∀ t ∈ L, t.raw ≠ [] ∧ t.raw.length ≤ 1000000) (h0 : ∀ t, L[0]? = some t → opensP t = true) :
    Calls Tryd.prog 15 #[.slice A L.length cap] w fun e w' => e = .returned (.int .i64 (((blkP [] L 0).getD 0 : Nat) : Int)) ∧ Below w.heap.size w w' := by
  obtain ⟨i0, hi, hz0, hz1, hz2⟩ := info_parts infoS
  have Hz0 := Lib.hid hz0
  have Hi := Lib.hid hi
  have Hz1 := Lib.hid hz1
  have Hz2 := Lib.hid hz2
  clear hz0 hi hz1 hz2
  have HL := Lib.hid hL
  have HR := Lib.hid hr
  have H0 := Lib.hid h0
  clear hL hr h0
  generalize hR : blkP [] L 0 = R
  have HRR := Lib.hid hR
  clear hR
  go_enter Tryd.func15, Tryd.ntmps15
  go_wp2_with fail
  go_loopw [3, 8] (fun v x wr => ClRel w L R v x wr) (fun _ x _ => L.length - (intOf x).toNat)
  case atStart => exact ⟨0, [], by omega, rfl, by simp, fun _ => rfl, HRR.out, World.ownsRow_nil _ _ _ _, Below.refl _ _⟩
  case round =>
    obtain ⟨i, st, hil, rfl, hst, hse, hinv, hrow, hbel⟩ := hrel
    have hz := hbel.size
    have HBl := Lib.hid hbel
    have HInv := Lib.hid hinv
    replace hrow := Lib.hid hrow
    obtain ⟨av, cp, rfl⟩ := row_form hrow.out
    clear hinv HRR
    by_cases hlt : i < L.length
    · have hlt' : (i : Int) < (L.length : Int) := by omega
      have hi1 : (i : Int) + 1 ≤ 1000000 := by omega
      obtain ⟨b, off, t, rfl, hbb, hd, e0, e1, e2, e3⟩ := TRd.tok (HL.out.keep hbel hbel.size) hlt
      have ht := HR.out t (List.mem_of_getElem? hd)
      have ht2 : t.raw.length ≤ 1000000 := ht.2
      have HD := Lib.hid hd
      have HO : opensP t = false → st ≠ [] := fun ho he => by
        have hd0 := hd
        rw [hse he] at hd0
        rw [H0.out t hd0] at ho
        cases ho
      replace HO := Lib.hid HO
      clear hbel hd hse
      obtain ⟨tk, tr, tv, tn⟩ := t
      simp only at e0 e1 e2 e3 ht ht2
      have cK := Lib.hid (fun w => closerV_at (k := tk) (v := tv) (n := tn) ht.1 ht2 w)
      cases ho : opensP ⟨tk, tr, tv, tn⟩
      · obtain ⟨n10, n2⟩ : (tk == 10) = false ∧ (tk == 2) = false := by
          simp only [opensP, Bool.or_eq_false_iff, decide_eq_false_iff_not] at ho
          exact ⟨by simpa using ho.1, by simpa using ho.2⟩
        have hne := HO.out ho
        obtain ⟨st', top, rfl⟩ : ∃ s' x, st = s' ++ [x] := ⟨st.dropLast, st.getLast hne, (List.dropLast_concat_getLast hne).symm⟩
        rw [List.length_append, List.length_singleton] at hrow hst
        obtain ⟨g, hg, hgl, hgb, hcp, hgc⟩ := owns_at (i := st'.length) (x := strV top) hrow.out (by simp)
        subst hg
        have hq1 : (st'.length : Int) + 1 ≤ 1000001 := by omega
        have HGc := Lib.hid hgc
        have HGl := Lib.hid hgl
        clear hgc hgl hne HO
        by_cases hk : tk = 11
        · subst hk
          by_cases hrt : tr = top
          · subst hrt
            have HStep := Lib.hid (HInv.out.symm.trans (blk_pop (st := st' ++ [tr]) HD.out ho rfl (by simp)))
            have Hst := Lib.hid hst
            have p1 := IntWalk.i64_in (st'.length : Int) (by omega)
            have p2 := IntWalk.i64_in ((st'.length : Int) + 1) (by omega)
            have p3 : IntKind.i64.wrap ((st'.length : Int) + 1 - 1) = st'.length := by rw [Int.add_sub_cancel]; exact p1
            have hsl := fun w => slice_upto (P := Tryd.prog) (k := 1) Tryd.underlying56 Tryd.sizeOf9 (some ⟨g, 0, none⟩) (st'.length + 1) cp (st'.length : Int) (by omega) (by omega) w
            simp only [Int.toNat_natCast] at hsl
            by_cases hs0 : st' = []
            · have HFin := Lib.hid (show R = some (i + 1) by rw [HStep.out, hs0]; rfl)
              have z0 : ((st'.length : Int) == 0) = true := by rw [hs0]; rfl
              clear HD cK ho HStep hs0
              go_upto_region 5 with (fail)
              generalize hV : wr.alloc (.cells #[.int .i64 11, .string (bs tr), .string (bs tv), .int .i64 tn] 43) = V
              have HB1 := Lib.hid (show Below w.heap.size w V by subst hV; exact HBl.out.alloc HBl.out.size _)
              have hV1 := (show Blk V wr.heap.size 43 #[.int .i64 11, .string (bs tr), .string (bs tv), .int .i64 tn] by subst hV; exact Blk.new rfl)
              have cV := hV1.cell
              have hrow1 := Lib.hid (by subst hV; exact hrow.out.alloc _ : V.ownsRow w.heap.size 9 1 (.slice (some ⟨g, 0, none⟩) (st'.length + 1) cp) (st'.length + 1) ((st' ++ [tr]).map strV))
              have g1 : V.cell? ⟨g, st'.length, none⟩ = some (strV tr) := by subst hV; exact (((Below.refl _ wr).alloc (Nat.le_refl _) _).cell (p := ⟨g, st'.length, none⟩) HGl.out).trans HGc.out
              clear hV hV1 e0 e1 e2 e3
              go_upto_region 10 with (fail)
              go_quiet (fail)
              go_wp2_with fail
              go_ret
              exact ⟨by rw [HFin.out]; go_num, Go.Proofs.YtmjbaimccbkmpaaDoor.base.below_drewN HB1.out _⟩
            · have z0 : ((st'.length : Int) == 0) = false := by simpa using hs0
              have HNew := Lib.hid (show blkP st' (L.drop (i + 1)) (i + 1) = R by rw [HStep.out, List.dropLast_concat, if_neg hs0])
              have HNe := Lib.hid hs0
              clear HD cK ho HStep hs0
              go_upto_region 5 with (fail)
              generalize hV : wr.alloc (.cells #[.int .i64 11, .string (bs tr), .string (bs tv), .int .i64 tn] 43) = V
              have HB1 := Lib.hid (show Below w.heap.size w V by subst hV; exact HBl.out.alloc HBl.out.size _)
              have hV1 := (show Blk V wr.heap.size 43 #[.int .i64 11, .string (bs tr), .string (bs tv), .int .i64 tn] by subst hV; exact Blk.new rfl)
              have cV := hV1.cell
              have hrow1 := Lib.hid (by subst hV; exact hrow.out.alloc _ : V.ownsRow w.heap.size 9 1 (.slice (some ⟨g, 0, none⟩) (st'.length + 1) cp) (st'.length + 1) ((st' ++ [tr]).map strV))
              have g1 : V.cell? ⟨g, st'.length, none⟩ = some (strV tr) := by subst hV; exact (((Below.refl _ wr).alloc (Nat.le_refl _) _).cell (p := ⟨g, st'.length, none⟩) HGl.out).trans HGc.out
              clear hV hV1 e0 e1 e2 e3
              go_upto_region 10 with (fail)
              go_quiet (fail)
              go_wp2_with fail
              go_roundw
              case rel =>
                refine ⟨i + 1, st', by omega, by go_num, by have := Hst.out; omega, fun e => absurd e HNe.out, HNew.out, ?_, Go.Proofs.YtmjbaimccbkmpaaDoor.base.below_drewN HB1.out _⟩
                have h2 := owns_less hrow1.out (m := st'.length) (Nat.le_succ _) (Nat.succ_pos _)
                exact owns_drewN (by simpa using h2) _
              case measure => simp [intOf]; omega
          · have b2 : ((bs tr).toList == (bs top).toList) = false := by rw [bs_toList, bs_toList]; simpa using hrt
            have HStep := Lib.hid ((blk_skip (st := st' ++ [top]) HD.out ho (by simp; exact fun e => hrt e.symm)).symm.trans HInv.out)
            have Hst := Lib.hid hst
            have p1 := IntWalk.i64_in (st'.length : Int) (by omega)
            have p2 := IntWalk.i64_in ((st'.length : Int) + 1) (by omega)
            have p3 : IntKind.i64.wrap ((st'.length : Int) + 1 - 1) = st'.length := by rw [Int.add_sub_cancel]; exact p1
            have z0 : (((st'.length : Int) + 1) == 0) = false := by simp; omega
            clear HD cK ho hrt
            go_upto_region 5 with (fail)
            generalize hV : wr.alloc (.cells #[.int .i64 11, .string (bs tr), .string (bs tv), .int .i64 tn] 43) = V
            have HB1 := Lib.hid (show Below w.heap.size w V by subst hV; exact HBl.out.alloc HBl.out.size _)
            have hV1 := (show Blk V wr.heap.size 43 #[.int .i64 11, .string (bs tr), .string (bs tv), .int .i64 tn] by subst hV; exact Blk.new rfl)
            have cV := hV1.cell
            have hrow1 := Lib.hid (by subst hV; exact hrow.out.alloc _ : V.ownsRow w.heap.size 9 1 (.slice (some ⟨g, 0, none⟩) (st'.length + 1) cp) (st'.length + 1) ((st' ++ [top]).map strV))
            have g1 : V.cell? ⟨g, st'.length, none⟩ = some (strV top) := by subst hV; exact (((Below.refl _ wr).alloc (Nat.le_refl _) _).cell (p := ⟨g, st'.length, none⟩) HGl.out).trans HGc.out
            clear hV hV1 e0 e1 e2 e3
            go_upto_region 10 with (fail)
            go_quiet (fail)
            go_wp2_with fail
            go_roundw
            case rel => exact ⟨i + 1, st' ++ [top], by omega, by go_num, by have := Hst.out; simp; omega, fun e => by simp at e, HStep.out, owns_drewN (by simpa using hrow1.out) _, Go.Proofs.YtmjbaimccbkmpaaDoor.base.below_drewN HB1.out _⟩
            case measure => simp [intOf]; omega
        · have b1 : (tk == 11) = false := by simpa using hk
          have HStep := Lib.hid ((blk_skip (st := st' ++ [top]) HD.out ho (by simp [hk])).symm.trans HInv.out)
          have Hst := Lib.hid hst
          have z0 : (((st'.length : Int) + 1) == 0) = false := by simp; omega
          clear HD cK ho hk
          go_upto_region 5 with (fail)
          generalize hV : wr.alloc (.cells #[.int .i64 tk, .string (bs tr), .string (bs tv), .int .i64 tn] 43) = V
          have HB1 := Lib.hid (show Below w.heap.size w V by subst hV; exact HBl.out.alloc HBl.out.size _)
          have hV1 := (show Blk V wr.heap.size 43 #[.int .i64 tk, .string (bs tr), .string (bs tv), .int .i64 tn] by subst hV; exact Blk.new rfl)
          have cV := hV1.cell
          have hrow1 := Lib.hid (by subst hV; exact hrow.out.alloc _ : V.ownsRow w.heap.size 9 1 (.slice (some ⟨g, 0, none⟩) (st'.length + 1) cp) (st'.length + 1) ((st' ++ [top]).map strV))
          have g1 : V.cell? ⟨g, st'.length, none⟩ = some (strV top) := by subst hV; exact (((Below.refl _ wr).alloc (Nat.le_refl _) _).cell (p := ⟨g, st'.length, none⟩) HGl.out).trans HGc.out
          clear hV hV1 e0 e1 e2 e3
          go_wp2_with fail
          go_roundw
          case rel => exact ⟨i + 1, st' ++ [top], by omega, by go_num, by have := Hst.out; simp; omega, fun e => by simp at e, HStep.out, by simpa using hrow1.out, HB1.out⟩
          case measure => simp [intOf]; omega
      · have HStep := Lib.hid ((blk_open (st := st) HD.out ho).symm.trans HInv.out)
        have Hst := Lib.hid hst
        have z0 : (((st.length : Int) + 1) == 0) = false := by simp; omega
        have hkk : tk = 10 ∨ tk = 2 := by
          simp only [opensP, Bool.or_eq_true, decide_eq_true_eq] at ho
          exact ho
        clear HD ho HO
        rcases hkk with rfl | rfl
        · go_upto_region 5 with (fail)
          generalize hV : wr.alloc (.cells #[.int .i64 10, .string (bs tr), .string (bs tv), .int .i64 tn] 43) = V
          have HB1 := Lib.hid (show Below w.heap.size w V by subst hV; exact HBl.out.alloc HBl.out.size _)
          have hV1 := (show Blk V wr.heap.size 43 #[.int .i64 10, .string (bs tr), .string (bs tv), .int .i64 tn] by subst hV; exact Blk.new rfl)
          have cV := hV1.cell
          have hrow1 := Lib.hid (by subst hV; exact hrow.out.alloc _ : V.ownsRow w.heap.size 9 1 (.slice av st.length cp) st.length (st.map strV))
          clear hV hV1 e0 e1 e2 e3
          go_wp2_with (first
            | (go_at_call 34; (with_reducible refine (cK.out _).mono ?_); rintro e W2 ⟨rfl, hb2⟩; have HB2 := Lib.hid (HB1.out.trans (hb2.mono HB1.out.size)); have hrow2 := Lib.hid (row_on hrow1.out hb2); clear hb2)
            | (at_builtin; refine wpList_append_own _ rfl _ _ 56 rfl w.heap.size 9 i0 (.string .empty) 1 16 Tryd.underlying56 Hi.out Hz0.out Hz1.out Hz2.out rfl (by decide) _ _ _ rfl (hrow2.out.alloc _) ⟨W2.heap.size, 0, none⟩ 1 1 [.string (bs (closerP tr))] rfl rfl ?c1 ?c2 ?c3 ?c4 ?c5 ?_))
          case c1 => exact (Blk.new (w := W2) (t := 9) (cs := #[.string (bs (closerP tr))]) rfl).news
          case c2 => simp [Value.oneCell']
          case c3 => unfold maxLen; omega
          case c4 => omega
          case c5 => have := HB2.out.size; simp; omega
          intro v' w3 hown3 hgrow3 hnil3
          have hb3 := Lib.hid (below_app (HB2.out.alloc HB2.out.size _) hgrow3 (hrow2.out.alloc _) (Nat.le_refl _) (by have := HB2.out.size; simp; omega))
          obtain ⟨g', cap', rfl⟩ := row_form hown3
          replace hown3 := Lib.hid hown3
          clear hgrow3 hnil3 hst ht ht2 hil hz
          go_wp2
          go_roundw
          case rel => exact ⟨i + 1, st ++ [closerP tr], by omega, by go_num, by have := Hst.out; simp; omega, fun e => by simp at e, HStep.out, by simpa using hown3.out, hb3.out⟩
          case measure => simp [intOf]; omega
        · go_upto_region 5 with (fail)
          generalize hV : wr.alloc (.cells #[.int .i64 2, .string (bs tr), .string (bs tv), .int .i64 tn] 43) = V
          have HB1 := Lib.hid (show Below w.heap.size w V by subst hV; exact HBl.out.alloc HBl.out.size _)
          have hV1 := (show Blk V wr.heap.size 43 #[.int .i64 2, .string (bs tr), .string (bs tv), .int .i64 tn] by subst hV; exact Blk.new rfl)
          have cV := hV1.cell
          have hrow1 := Lib.hid (by subst hV; exact hrow.out.alloc _ : V.ownsRow w.heap.size 9 1 (.slice av st.length cp) st.length (st.map strV))
          clear hV hV1 e0 e1 e2 e3
          go_wp2_with (first
            | (go_at_call 34; (with_reducible refine (cK.out _).mono ?_); rintro e W2 ⟨rfl, hb2⟩; have HB2 := Lib.hid (HB1.out.trans (hb2.mono HB1.out.size)); have hrow2 := Lib.hid (row_on hrow1.out hb2); clear hb2)
            | (at_builtin; refine wpList_append_own _ rfl _ _ 56 rfl w.heap.size 9 i0 (.string .empty) 1 16 Tryd.underlying56 Hi.out Hz0.out Hz1.out Hz2.out rfl (by decide) _ _ _ rfl (hrow2.out.alloc _) ⟨W2.heap.size, 0, none⟩ 1 1 [.string (bs (closerP tr))] rfl rfl ?c1 ?c2 ?c3 ?c4 ?c5 ?_))
          case c1 => exact (Blk.new (w := W2) (t := 9) (cs := #[.string (bs (closerP tr))]) rfl).news
          case c2 => simp [Value.oneCell']
          case c3 => unfold maxLen; omega
          case c4 => omega
          case c5 => have := HB2.out.size; simp; omega
          intro v' w3 hown3 hgrow3 hnil3
          have hb3 := Lib.hid (below_app (HB2.out.alloc HB2.out.size _) hgrow3 (hrow2.out.alloc _) (Nat.le_refl _) (by have := HB2.out.size; simp; omega))
          obtain ⟨g', cap', rfl⟩ := row_form hown3
          replace hown3 := Lib.hid hown3
          clear hgrow3 hnil3 hst ht ht2 hil hz
          go_wp2
          go_roundw
          case rel => exact ⟨i + 1, st ++ [closerP tr], by omega, by go_num, by have := Hst.out; simp; omega, fun e => by simp at e, HStep.out, by simpa using hown3.out, hb3.out⟩
          case measure => simp [intOf]; omega
    · obtain rfl : i = L.length := by omega
      have hfin := Lib.hid (show R = none by rw [← HInv.out, List.drop_length]; rfl)
      clear hbel
      go_wp2
      go_ret
      exact ⟨by rw [hfin.out]; rfl, HBl.out⟩

end Go.Proofs.YtmjbaimccbkmpaaDoor.vrs

namespace Go.Proofs.YtmjbaimccbkmpaaDoor.vrs
open Go.RowKit Go.Proofs.YtmjbaimccbkmpaaDoor.base Go.Proofs.YtmjbaimccbkmpaaDoor.tok Go.Proofs.YtmjbaimccbkmpaaDoor.rul
set_option linter.unusedVariables false

theorem asksV_at {f : FuncId} {p : Tk → Bool} (h : AsksV f p) {k n : Int} {r v : Bs} {c : Bool} (hc : p ⟨k, r, v, n⟩ = c) (w : World) : Calls Tryd.prog f #[.agg #[.int .i64 k, .string (bs r), .string (bs v), .int .i64 n]] w fun e w' => e = .returned (.bool c) ∧ Below w.heap.size w w' := by
  subst hc
  exact h ⟨k, r, v, n⟩ w

theorem results_tmp4 {fn : Func} {t u v x : Tmp} (h : fn.results = #[.tmp t, .tmp u, .tmp v, .tmp x]) (tmps : Array Value) (P : Program) (w : World) :
    (results fn tmps).run P w = .ok (.tuple #[tmps.getD t undef, tmps.getD u undef, tmps.getD v undef, tmps.getD x undef]) w := by
  simp [results, h]
theorem ask_nil {L : List Tk} (h : L.dropWhile silP = []) : askP L = none := by unfold askP; rw [h]
theorem ask_other {L M : List Tk} {t : Tk} (h : L.dropWhile silP = t :: M) (hk : ¬ t.k = 1) : askP L = none := by unfold askP; rw [h]; simp only; rw [if_neg hk]
theorem ask_name {L M : List Tk} {t : Tk} (h : L.dropWhile silP = t :: M) (hk : t.k = 1) (h2 : M.dropWhile silP = []) : askP L = some (t.val, none) := by unfold askP; rw [h]; simp only; rw [if_pos hk, h2]
theorem ask_bad {L M N : List Tk} {t c : Tk} (h : L.dropWhile silP = t :: M) (hk : t.k = 1) (h2 : M.dropWhile silP = c :: N) (hc : ¬ (c.k = 12 ∧ c.raw = [44])) : askP L = none := by unfold askP; rw [h]; simp only; rw [if_pos hk, h2]; simp only; rw [if_neg hc]
theorem ask_rest {L M N : List Tk} {t c : Tk} (h : L.dropWhile silP = t :: M) (hk : t.k = 1) (h2 : M.dropWhile silP = c :: N) (hc : c.k = 12 ∧ c.raw = [44]) : askP L = some (t.val, some N) := by unfold askP; rw [h]; simp only; rw [if_pos hk, h2]; simp only; rw [if_pos hc]
theorem ts_nil {w : World} : TS w (.slice none 0 0) [] := ⟨none, 0, rfl, Nat.le_refl _, Rd.nil⟩
theorem ask_ret {w0 : World} {L : List Tk} {Q : Option (Bs × Option (List Tk))} (h : askP L = Q) {n : ByteArray} {v' : Value} {has is : Bool} (hn : n = bs ((Q.map (·.1)).getD [])) (hh : has = (Q.bind (·.2)).isSome) (hi : is = Q.isSome) (ht : TS w0 v' ((Q.bind (·.2)).getD [])) :
    ∃ x, (Ending.returned (.tuple #[.string n, v', .bool has, .bool is]) : Ending) = .returned (.tuple #[.string (bs (((askP L).map (·.1)).getD [])), x, .bool ((askP L).bind (·.2)).isSome, .bool (askP L).isSome]) ∧ TS w0 x (((askP L).bind (·.2)).getD []) := by
  subst h hn hh hi
  exact ⟨v', rfl, ht⟩

set_option maxRecDepth 100000 in
set_option maxHeartbeats 4000000 in
theorem asked_ct (v : Value) (L : List Tk) (w0 w : World) (hn : L.length ≤ 1000000) (hL : TS w0 v L) (hb0 : Below w0.heap.size w0 w) :
    Calls Tryd.prog 35 #[v] w fun e w' => (∃ x, e = .returned (.tuple #[.string (bs (((askP L).map (·.1)).getD [])), x, .bool ((askP L).bind (·.2)).isSome, .bool (askP L).isSome]) ∧ TS w0 x (((askP L).bind (·.2)).getD [])) ∧ Below w.heap.size w w' := by
  have HL := Lib.hid hL
  have HB0 := Lib.hid hb0
  clear hL hb0
  go_enter Tryd.func35, Tryd.ntmps35
  go_wp2_with fail
  go_loopw [0] (fun x wr => ∃ M : List Tk, M.length ≤ 1000000 ∧ TS w0 x M ∧ M.dropWhile silP = L.dropWhile silP ∧ Below w.heap.size w wr) (fun x _ => lenOf x)
  case atStart => exact ⟨L, hn, HL.out, rfl, Below.refl _ _⟩
  case round =>
    obtain ⟨M, hM, hts, hinv, hbel⟩ := hrel
    obtain ⟨A, cap, rfl, hc, hrd0⟩ := hts
    have hB0 := HB0.out.trans (hbel.mono HB0.out.size)
    have hrd := Rd.keep hrd0 hB0 hB0.size
    have HRd0 := Lib.hid hrd0
    clear hB0 hrd0
    have HBl := Lib.hid hbel
    have HInv := Lib.hid hinv
    clear hbel hinv HL hn
    match M, hM, hc, hrd, HRd0, HInv with
    | [], hM, hc, hrd, HRd0, HInv =>
      have HAsk := Lib.hid (ask_nil HInv.out.symm)
      simp only [List.length_nil]
      clear hrd hc hM HInv
      go_wp2_with fail
      try simp only [Exit.inBlock, Exit.then]
      refine bodyPost_ret (results_tmp4 rfl _ _ _) rfl ?_
      exact ⟨ask_ret HAsk.out rfl rfl rfl ts_nil, HBl.out⟩
    | t :: M, hM, hc, hrd, HRd0, HInv =>
      have hlen : (t :: M).length = M.length + 1 := rfl
      rw [hlen] at hrd hc hM ⊢
      obtain ⟨b, off, t', rfl, hbb, hd', e0, e1, e2, e3⟩ := TRd.tok hrd (k := 0) (Nat.succ_pos _)
      obtain rfl : t = t' := Option.some.inj hd'
      simp only [Nat.zero_mul, Nat.add_zero] at e0 e1 e2 e3
      have hz : (0 : Int) < (M.length : Int) + 1 := by omega
      have z0 : (((M.length : Int) + 1) == 0) = false := by simp; omega
      have HTs := Lib.hid (show TS w0 (.slice (addrAt 4 (some ⟨b, off, none⟩) cap 1) M.length (cap - 1)) M from by have := ts_from (n := M.length + 1) HRd0.out hc (i := 1) (by omega); simpa using this)
      have hsl := fun w => slice_from (P := Tryd.prog) (k := 4) Tryd.underlying36 Tryd.sizeOf43 (some ⟨b, off, none⟩) (M.length + 1) cap 1 (by omega) (by omega) w
      simp only [show (1 : Int).toNat = 1 from rfl, Nat.add_sub_cancel] at hsl
      have hM' : (M.length : Int) ≤ 1000000 := by omega
      clear hrd hd' hlen hM
      obtain ⟨tk, tr, tv, tn⟩ := t
      simp only at e0 e1 e2 e3
      cases hs : silP ⟨tk, tr, tv, tn⟩
      · have cS := Lib.hid (fun w => asksV_at vsilent_ct hs w)
        have HDrop := Lib.hid (show L.dropWhile silP = ⟨tk, tr, tv, tn⟩ :: M by rw [← HInv.out, List.dropWhile_cons, hs]; rfl)
        clear hs HInv
        by_cases hk : tk = 1
        · subst hk
          go_wp2_with (first
            | (go_at_call 41; (with_reducible refine (cS.out _).mono ?_); rintro e W1 ⟨rfl, hb1⟩; have HB1 := Lib.hid (HBl.out.trans (hb1.mono HBl.out.size)); obtain ⟨f0, f1, f2, f3⟩ := tok_on hb1 hbb e0 e1 e2 e3; clear hb1 e0 e1 e2 e3))
          clear f0 f1 f2 f3 hsl
          go_loopw [0] (fun x wx => ∃ N : List Tk, N.length ≤ 1000000 ∧ TS w0 x N ∧ N.dropWhile silP = M.dropWhile silP ∧ Below w.heap.size w wx) (fun x _ => lenOf x)
          case atStart => exact ⟨M, by omega, HTs.out, rfl, HB1.out⟩
          case round =>
            obtain ⟨N, hN, hts, hinv, hbel⟩ := hrel
            obtain ⟨A2, cap2, rfl, hc2, hrd20⟩ := hts
            have hB2 := HB0.out.trans (hbel.mono HB0.out.size)
            have hrd2 := Rd.keep hrd20 hB2 hB2.size
            have HRd2 := Lib.hid hrd20
            clear hB2 hrd20
            have HBl2 := Lib.hid hbel
            have HInv2 := Lib.hid hinv
            clear hbel hinv HB1 HBl HTs hz z0 hc hbb hM'
            match N, hN, hc2, hrd2, HRd2, HInv2 with
            | [], hN, hc2, hrd2, HRd2, HInv2 =>
              have HAsk := Lib.hid (ask_name HDrop.out rfl HInv2.out.symm)
              simp only [List.length_nil]
              clear hrd2 hc2 hN HInv2
              go_wp2_with fail
              try simp only [Exit.inBlock, Exit.then]
              refine bodyPost_ret (results_tmp4 rfl _ _ _) rfl ?_
              exact ⟨ask_ret HAsk.out rfl rfl rfl ts_nil, HBl2.out⟩
            | c :: N, hN, hc2, hrd2, HRd2, HInv2 =>
              have hlen : (c :: N).length = N.length + 1 := rfl
              rw [hlen] at hrd2 hc2 hN ⊢
              obtain ⟨b2, off2, t', rfl, hbb2, hd', e0, e1, e2, e3⟩ := TRd.tok hrd2 (k := 0) (Nat.succ_pos _)
              obtain rfl : c = t' := Option.some.inj hd'
              simp only [Nat.zero_mul, Nat.add_zero] at e0 e1 e2 e3
              have hz : (0 : Int) < (N.length : Int) + 1 := by omega
              have z0 : (((N.length : Int) + 1) == 0) = false := by simp; omega
              have HTs := Lib.hid (show TS w0 (.slice (addrAt 4 (some ⟨b2, off2, none⟩) cap2 1) N.length (cap2 - 1)) N from by have := ts_from (n := N.length + 1) HRd2.out hc2 (i := 1) (by omega); simpa using this)
              have hsl := fun w => slice_from (P := Tryd.prog) (k := 4) Tryd.underlying36 Tryd.sizeOf43 (some ⟨b2, off2, none⟩) (N.length + 1) cap2 1 (by omega) (by omega) w
              simp only [show (1 : Int).toNat = 1 from rfl, Nat.add_sub_cancel] at hsl
              have hN' : (N.length : Int) ≤ 1000000 := by omega
              clear hrd2 hd' hlen hN
              obtain ⟨ck, cr, cv, cn⟩ := c
              simp only at e0 e1 e2 e3
              cases hs : silP ⟨ck, cr, cv, cn⟩
              · have cS2 := Lib.hid (fun w => asksV_at vsilent_ct hs w)
                have HDrop2 := Lib.hid (show M.dropWhile silP = ⟨ck, cr, cv, cn⟩ :: N by rw [← HInv2.out, List.dropWhile_cons, hs]; rfl)
                clear hs HInv2
                by_cases hk : ck = 12
                · subst hk
                  by_cases hr : cr = [44]
                  · have HAsk := Lib.hid (ask_rest HDrop.out rfl HDrop2.out ⟨rfl, hr⟩)
                    have b2 : ((bs cr).toList == [44]) = true := by rw [bs_toList, hr]; decide
                    have n2 : ((bs cr).toList != [44]) = false := by rw [bs_toList, hr]; decide
                    clear hr
                    go_wp2_with (first
                      | (go_at_call 41; (with_reducible refine (cS2.out _).mono ?_); rintro e W1 ⟨rfl, hb1⟩; have HB1 := Lib.hid (HBl2.out.trans (hb1.mono HBl2.out.size)); obtain ⟨f0, f1, f2, f3⟩ := tok_on hb1 hbb2 e0 e1 e2 e3; clear hb1 e0 e1 e2 e3))
                    go_quiet (fail)
                    go_wp2_with fail
                    try simp only [Exit.inBlock, Exit.then]
                    refine bodyPost_ret (results_tmp4 rfl _ _ _) rfl ?_
                    exact ⟨ask_ret HAsk.out rfl rfl rfl HTs.out, Go.Proofs.YtmjbaimccbkmpaaDoor.base.below_drewN HB1.out _⟩
                  · have HAsk := Lib.hid (ask_bad HDrop.out rfl HDrop2.out (fun h => hr h.2))
                    have b2 : ((bs cr).toList == [44]) = false := by rw [bs_toList]; simpa using hr
                    have n2 : ((bs cr).toList != [44]) = true := by rw [bs_toList]; simpa using hr
                    clear hr
                    go_wp2_with (first
                      | (go_at_call 41; (with_reducible refine (cS2.out _).mono ?_); rintro e W1 ⟨rfl, hb1⟩; have HB1 := Lib.hid (HBl2.out.trans (hb1.mono HBl2.out.size)); obtain ⟨f0, f1, f2, f3⟩ := tok_on hb1 hbb2 e0 e1 e2 e3; clear hb1 e0 e1 e2 e3))
                    try simp only [Exit.inBlock, Exit.then]
                    refine bodyPost_ret (results_tmp4 rfl _ _ _) rfl ?_
                    exact ⟨ask_ret HAsk.out rfl rfl rfl ts_nil, HB1.out⟩
                · have HAsk := Lib.hid (ask_bad HDrop.out rfl HDrop2.out (fun h => hk h.1))
                  have b1 : (ck == 12) = false := by simpa using hk
                  have n1 : (ck != 12) = true := by simpa using hk
                  go_wp2_with (first
                    | (go_at_call 41; (with_reducible refine (cS2.out _).mono ?_); rintro e W1 ⟨rfl, hb1⟩; have HB1 := Lib.hid (HBl2.out.trans (hb1.mono HBl2.out.size)); obtain ⟨f0, f1, f2, f3⟩ := tok_on hb1 hbb2 e0 e1 e2 e3; clear hb1 e0 e1 e2 e3))
                  try simp only [Exit.inBlock, Exit.then]
                  refine bodyPost_ret (results_tmp4 rfl _ _ _) rfl ?_
                  exact ⟨ask_ret HAsk.out rfl rfl rfl ts_nil, HB1.out⟩
              · have cS2 := Lib.hid (fun w => asksV_at vsilent_ct hs w)
                have HNew := Lib.hid (show N.dropWhile silP = M.dropWhile silP by rw [← HInv2.out, List.dropWhile_cons, if_pos hs])
                clear hs HInv2
                go_wp2_with (first
                  | (go_at_call 41; (with_reducible refine (cS2.out _).mono ?_); rintro e W1 ⟨rfl, hb1⟩; have HB1 := Lib.hid (HBl2.out.trans (hb1.mono HBl2.out.size)); clear hb1 e0 e1 e2 e3))
                go_roundw
                case rel => exact ⟨N, by omega, HTs.out, HNew.out, HB1.out⟩
                case measure => simp only [lenOf]; omega
        · have HAsk := Lib.hid (ask_other HDrop.out hk)
          have b1 : (tk == 1) = false := by simpa using hk
          clear hk
          go_wp2_with (first
            | (go_at_call 41; (with_reducible refine (cS.out _).mono ?_); rintro e W1 ⟨rfl, hb1⟩; have HB1 := Lib.hid (HBl.out.trans (hb1.mono HBl.out.size)); obtain ⟨f0, f1, f2, f3⟩ := tok_on hb1 hbb e0 e1 e2 e3; clear hb1 e0 e1 e2 e3))
          try simp only [Exit.inBlock, Exit.then]
          refine bodyPost_ret (results_tmp4 rfl _ _ _) rfl ?_
          exact ⟨ask_ret HAsk.out rfl rfl rfl ts_nil, HB1.out⟩
      · have cS := Lib.hid (fun w => asksV_at vsilent_ct hs w)
        have HNew := Lib.hid (show M.dropWhile silP = L.dropWhile silP by rw [← HInv.out, List.dropWhile_cons, if_pos hs])
        clear hs HInv
        go_wp2_with (first
          | (go_at_call 41; (with_reducible refine (cS.out _).mono ?_); rintro e W1 ⟨rfl, hb1⟩; have HB1 := Lib.hid (HBl.out.trans (hb1.mono HBl.out.size)); clear hb1 e0 e1 e2 e3))
        go_roundw
        case rel => exact ⟨M, by omega, HTs.out, HNew.out, HB1.out⟩
        case measure => simp only [lenOf]; omega

end Go.Proofs.YtmjbaimccbkmpaaDoor.vrs

namespace Go.Proofs.YtmjbaimccbkmpaaDoor.vrs
open Go.RowKit Go.Proofs.YtmjbaimccbkmpaaDoor.base Go.Proofs.YtmjbaimccbkmpaaDoor.tok Go.Proofs.YtmjbaimccbkmpaaDoor.rul
set_option linter.unusedVariables false

def VEnv (b : Nat) (w : World) : Prop := ∀ w', Below b w w' → MaxL w' ∧ FoldAt w'
theorem VEnv.on {b : Nat} {w w' : World} (h : VEnv b w) (hb : Below b w w') : VEnv b w' := fun w2 h2 => h w2 (hb.trans h2)

theorem text_drop_lt {L : List Tk} {m : Nat} (hm : m < L.length) (h : ∀ t ∈ L, t.raw ≠ []) : (textOf (L.drop (m + 1))).length < (textOf L).length := by
  obtain ⟨t, M, e⟩ : ∃ t M, L.take (m + 1) = t :: M := by
    cases hL : L with
    | nil => rw [hL] at hm; simp at hm
    | cons t M => exact ⟨t, M.take m, rfl⟩
  have h1 : textOf L = textOf (L.take (m + 1)) ++ textOf (L.drop (m + 1)) := by
    unfold textOf
    rw [← List.flatMap_append, List.take_append_drop]
  have h2 : t ∈ L := List.mem_of_mem_take (by rw [e]; exact List.mem_cons_self ..)
  have h3 : 0 < t.raw.length := List.length_pos_iff.2 (h t h2)
  have h4 : (textOf (t :: M)).length = t.raw.length + (textOf M).length := by simp [textOf]
  rw [h1, List.length_append, e, h4]
  omega

def FillAt (b d : Nat) (V : List Vr) : Prop := ∀ (s : Bs) (A : Option Addr) (cap : Nat) (w : World), s.length < d → s.length ≤ 400 → VRd w w.heap.size A V.length V → b ≤ w.heap.size → VEnv b w →
  Calls Tryd.prog 8 #[.string (bs s), .slice A V.length cap] w fun e w' => e = .returned (.tuple #[.string (bs (fillF d V s).1), .bool (fillF d V s).2]) ∧ Below w.heap.size w w'

set_option maxRecDepth 100000 in
set_option maxHeartbeats 4000000 in
theorem put_ct {b d : Nat} {V : List Vr} (hV : V.length ≤ 1000000) (HF : FillAt b d V) (v : Value) (L : List Tk) (A : Option Addr) (cap : Nat) (w : World) (hn : L.length ≤ 1000000) (ht : (textOf L).length ≤ d) (ht4 : (textOf L).length ≤ 400) (hr : ∀ t ∈ L, t.raw ≠ []) (hL : TS w v L) (hI : VRd w w.heap.size A V.length V) (hb : b ≤ w.heap.size) (hE : VEnv b w) :
    Calls Tryd.prog 16 #[v, .slice A V.length cap] w fun e w' => e = .returned (.tuple #[.string (bs (putG (fillF d V) V L).1), .bool (putG (fillF d V) V L).2]) ∧ Below w.heap.size w w' := by
  have cA := asked_ct v L w w hn hL (Below.refl _ _)
  have cL := Lib.hid (fun nm (w' : World) (h : Below w.heap.size w w') => last_ct A cap V hV nm w' (hI.keep h h.size))
  cases hQ : askP L with
  | none =>
    rw [hQ] at cA
    have HR := Lib.hid (show putG (fillF d V) V L = ([], false) by unfold putG; rw [hQ])
    rw [HR.out]
    simp only [Option.map_none, Option.getD_none, Option.bind_none, Option.isSome_none] at cA
    replace cA := Lib.hid cA
    clear hQ HF hn ht ht4 hr hL hI hb hE
    go_enter Tryd.func16, Tryd.ntmps16
    go_wp2_with (first
      | (go_at_call 35; (with_reducible refine (cA.out).mono ?_); rintro e W1 ⟨⟨x, rfl, htx⟩, hb1⟩; have HB1 := Lib.hid hb1; clear hb1 htx))
    go_ret2
    exact ⟨rfl, HB1.out⟩
  | some q =>
    obtain ⟨n, o⟩ := q
    cases hS : lastP V n with
    | some val =>
      rw [hQ] at cA
      have HR := Lib.hid (show putG (fillF d V) V L = (val, true) by unfold putG; rw [hQ]; simp only; rw [hS])
      rw [HR.out]
      simp only [Option.map_some, Option.getD_some, Option.bind_some, Option.isSome_some] at cA
      replace cA := Lib.hid cA
      replace cL := Lib.hid (show ∀ (w' : World), Below w.heap.size w w' → Calls Tryd.prog 30 #[.slice A V.length cap, .string (bs n)] w' fun e w2 => e = .returned (.tuple #[.string (bs val), .bool true]) ∧ Below w'.heap.size w' w2 from fun w' h => by have := cL.out n w' h; rw [hS] at this; exact this)
      clear hQ HF hn ht ht4 hr hL hI hb hE hS
      go_enter Tryd.func16, Tryd.ntmps16
      go_wp2_with (first
        | (go_at_call 35; (with_reducible refine (cA.out).mono ?_); rintro e W1 ⟨⟨x, rfl, htx⟩, hb1⟩; have HB1 := Lib.hid hb1; clear hb1 htx)
        | (go_at_call 30; (with_reducible refine (cL.out _ HB1.out).mono ?_); rintro e W2 ⟨rfl, hb2⟩; have HB2 := Lib.hid (HB1.out.trans (hb2.mono HB1.out.size)); clear hb2))
      go_ret2
      exact ⟨rfl, HB2.out⟩
    | none =>
      replace cL := Lib.hid (show ∀ (w' : World), Below w.heap.size w w' → Calls Tryd.prog 30 #[.slice A V.length cap, .string (bs n)] w' fun e w2 => e = .returned (.tuple #[.string (bs []), .bool false]) ∧ Below w'.heap.size w' w2 from fun w' h => by have := cL.out n w' h; rw [hS] at this; exact this)
      cases o with
      | none =>
        rw [hQ] at cA
        have HR := Lib.hid (show putG (fillF d V) V L = ([], false) by unfold putG; rw [hQ]; simp only; rw [hS])
        rw [HR.out]
        simp only [Option.map_some, Option.getD_some, Option.getD_none, Option.bind_some, Option.isSome_some, Option.isSome_none] at cA
        replace cA := Lib.hid cA
        clear hQ HF hn ht ht4 hr hL hI hb hE hS
        go_enter Tryd.func16, Tryd.ntmps16
        go_wp2_with (first
          | (go_at_call 35; (with_reducible refine (cA.out).mono ?_); rintro e W1 ⟨⟨x, rfl, htx⟩, hb1⟩; have HB1 := Lib.hid hb1; clear hb1 htx)
          | (go_at_call 30; (with_reducible refine (cL.out _ HB1.out).mono ?_); rintro e W2 ⟨rfl, hb2⟩; have HB2 := Lib.hid (HB1.out.trans (hb2.mono HB1.out.size)); clear hb2))
        go_ret2
        exact ⟨rfl, HB2.out⟩
      | some L4 =>
        rw [hQ] at cA
        obtain ⟨m, hm, hml⟩ := ask_short hQ
        have HR := Lib.hid (show putG (fillF d V) V L = fillF d V (headP L4) by unfold putG; rw [hQ]; simp only; rw [hS])
        rw [HR.out]
        simp only [Option.map_some, Option.getD_some, Option.bind_some, Option.isSome_some] at cA
        replace cA := Lib.hid cA
        have hlt := text_drop_lt hml hr
        rw [← hm] at hlt
        have hr4 : ∀ t ∈ L4, t.raw ≠ [] := fun t h => hr t (by rw [hm] at h; exact List.mem_of_mem_drop h)
        have hhl := headP_len hr4
        have hn4 : L4.length ≤ 1000000 := by rw [hm, List.length_drop]; omega
        have cH := Lib.hid (fun (x : Value) (w' : World) (h : TS w' x L4) => head_ct x L4 w' hn4 h (by omega))
        have cF := Lib.hid (fun (w' : World) (h : Below w.heap.size w w') => HF (headP L4) A cap w' (by omega) (by omega) (hI.keep h h.size) (Nat.le_trans hb h.size) (hE.on (h.mono hb)))
        generalize fillF d V (headP L4) = FR at *
        obtain ⟨fr, fi⟩ := FR
        generalize headP L4 = HP at *
        clear hQ HF hn ht ht4 hr hL hI hb hE hS hm hml hlt hr4 hhl hn4
        go_enter Tryd.func16, Tryd.ntmps16
        go_wp2_with (first
          | (go_at_call 35; (with_reducible refine (cA.out).mono ?_); rintro e W1 ⟨⟨x, rfl, htx⟩, hb1⟩; have HB1 := Lib.hid hb1; have HTx := Lib.hid htx; clear hb1 htx)
          | (go_at_call 30; (with_reducible refine (cL.out _ HB1.out).mono ?_); rintro e W2 ⟨rfl, hb2⟩; have HB2 := Lib.hid (HB1.out.trans (hb2.mono HB1.out.size)); clear hb2)
          | (go_at_call 36; (with_reducible refine (cH.out _ _ (HTx.out.on HB2.out)).mono ?_); rintro e W3 ⟨rfl, hb3⟩; have HB3 := Lib.hid (HB2.out.trans (hb3.mono HB2.out.size)); clear hb3)
          | (go_at_call 8; (with_reducible refine (cF.out _ HB3.out).mono ?_); rintro e W4 ⟨rfl, hb4⟩; have HB4 := Lib.hid (HB3.out.trans (hb4.mono HB3.out.size)); clear hb4))
        go_ret2
        exact ⟨rfl, HB4.out⟩

end Go.Proofs.YtmjbaimccbkmpaaDoor.vrs

namespace Go.Proofs.YtmjbaimccbkmpaaDoor.rul
open Go.RowKit Go.Proofs.YtmjbaimccbkmpaaDoor.base Go.Proofs.YtmjbaimccbkmpaaDoor.tok
set_option linter.unusedVariables false

/-- tokens that are few and short -/
def Fit (L : List Tk) : Prop := L.length ≤ 1000000 ∧ (textOf L).length ≤ 1000000 ∧ ∀ t ∈ L, t.raw ≠ [] ∧ t.raw.length ≤ 1000000 ∧ t.val.length ≤ 1000000
theorem text_sub {M L : List Tk} (h : M.Sublist L) : (textOf M).length ≤ (textOf L).length := by
  induction h with
  | slnil => exact Nat.le_refl _
  | cons a _ ih => simp only [textOf, List.flatMap_cons, List.length_append] at ih ⊢; omega
  | cons_cons a _ ih => simp only [textOf, List.flatMap_cons, List.length_append] at ih ⊢; omega
theorem Fit.sub {M L : List Tk} (h : Fit L) (hs : M.Sublist L) : Fit M :=
  ⟨Nat.le_trans hs.length_le h.1, Nat.le_trans (text_sub hs) h.2.1, fun t ht => h.2.2 t (hs.subset ht)⟩
theorem Fit.raws {L : List Tk} (h : Fit L) : ∀ t ∈ L, t.raw ≠ [] ∧ t.raw.length ≤ 1000000 := fun t ht => ⟨(h.2.2 t ht).1, (h.2.2 t ht).2.1⟩
theorem end_sub (L : List Tk) : (endP L).Sublist L := by
  unfold endP
  have := (List.dropWhile_sublist silP (l := L.reverse)).reverse
  rwa [List.reverse_reverse] at this
theorem solid_sub (L : List Tk) : (solidP L).Sublist L := (end_sub _).trans (List.dropWhile_sublist _)

/-! ### a value without what says that it is important -/
def impW : Bs := [105, 109, 112, 111, 114, 116, 97, 110, 116]
def impM (M : List Tk) : List Tk × Bool :=
  match M.getLast? with
  | none => (M, false)
  | some t => if M.length < 2 then (M, false) else if t.k = 1 ∧ Lib.equalFold t.val impW = true then
      (match (solidP M.dropLast).getLast? with
      | none => (M, false)
      | some m => if markP m then (solidP (solidP M.dropLast).dropLast, true) else (M, false))
    else (M, false)
def impP (L : List Tk) : List Tk × Bool := impM (solidP L)
theorem imp_few {M : List Tk} (h : M.length < 2) : impM M = (M, false) := by
  unfold impM
  split
  · rfl
  · rw [if_pos h]
theorem imp_snoc (K : List Tk) (t : Tk) (h : 0 < K.length) : impM (K ++ [t]) = if t.k = 1 ∧ Lib.equalFold t.val impW = true then
      (match (solidP K).getLast? with
      | none => (K ++ [t], false)
      | some m => if markP m then (solidP (solidP K).dropLast, true) else (K ++ [t], false))
    else (K ++ [t], false) := by
  unfold impM
  simp only [List.getLast?_append, List.getLast?_singleton, Option.some_or, List.dropLast_concat]
  rw [if_neg (by simp; omega)]

theorem word_imp : Word impW := by
  refine ⟨by decide, ?_⟩
  intro c hc
  revert c
  decide
theorem foldI_ct (s : Bs) (hs : s.length ≤ 1000000) (w : World) (hF : FoldAt w) : Calls Tryd.prog 32 #[.string (bs s), .string ⟨#[105, 109, 112, 111, 114, 116, 97, 110, 116]⟩] w fun e w' => e = .returned (.bool (Lib.equalFold s impW)) ∧ Below w.heap.size w w' :=
  fold_ct (bs s) (by rw [bs_size]; omega) impW word_imp w hF

end Go.Proofs.YtmjbaimccbkmpaaDoor.rul

namespace Go.Proofs.YtmjbaimccbkmpaaDoor.rul
open Go.RowKit Go.Proofs.YtmjbaimccbkmpaaDoor.base Go.Proofs.YtmjbaimccbkmpaaDoor.tok
set_option linter.unusedVariables false

theorem textR_val (q : UInt8) : ∀ (n : Nat) (l : Bs), l.length ≤ n → (textR q l).2.2.length ≤ l.length
  | 0, l, h => by
    obtain rfl := List.eq_nil_of_length_eq_zero (Nat.le_zero.1 h)
    simp [textR]
  | n + 1, [], h => by simp [textR]
  | n + 1, [c], h => by
    rw [textR]
    (repeat' split) <;> simp
  | n + 1, c :: d :: r, h => by
    have h1 := textR_val q n (d :: r) (by simp at h ⊢; omega)
    have h2 := textR_val q n r (by simp at h; omega)
    rw [textR]
    simp only [List.length_cons] at h1 h2 ⊢
    (repeat' split) <;> simp <;> omega
theorem first_val (l : Bs) (h0 : l ≠ []) : (firstP l).val.length ≤ l.length := by
  have hl : 0 < l.length := List.length_pos_iff.2 h0
  have hn : ∀ a, (nameP (l.drop a)).1.length ≤ l.length := fun a => Nat.le_trans (nameP_val _) (by rw [List.length_drop]; omega)
  unfold firstP
  split
  · simp
  · split
    · unfold noteP; simp
    · split
      · unfold textP
        cases l with
        | nil => simp
        | cons q r =>
          simp only
          split
          · have := textR_val q _ r (Nat.le_refl _); simp; omega
          · simp
      · split
        · exact hn 1
        · split
          · exact hn 1
          · split
            · unfold numTkP
              split
              · simp; omega
              · split
                · simp only [List.length_map]; exact hn _
                · simp
            · split
              · unfold wordP
                split
                · exact hn 0
                · exact hn 0
              · simp
theorem cut_vals : ∀ (n : Nat) (l : Bs), l.length ≤ n → ∀ t ∈ cutP l, t.raw ≠ [] ∧ t.raw.length ≤ l.length ∧ t.val.length ≤ l.length
  | 0, l, h, t, ht => by
    obtain rfl := List.eq_nil_of_length_eq_zero (Nat.le_zero.1 h)
    rw [cutP_nil] at ht
    cases ht
  | n + 1, l, h, t, ht => by
    by_cases h0 : l = []
    · subst h0; rw [cutP_nil] at ht; cases ht
    · rw [cutP_cons h0] at ht
      have hp := (first_pre l h0).2
      have hr := first_raw l h0
      have hv := first_val l h0
      rcases List.mem_cons.1 ht with rfl | ht
      · refine ⟨fun e => by rw [e] at hp; simp at hp, ?_, hv⟩
        rw [hr, List.length_take]
        omega
      · obtain ⟨h1, h2, h3⟩ := cut_vals n (l.drop (firstP l).raw.length) (by rw [List.length_drop]; omega) t ht
        rw [List.length_drop] at h2 h3
        exact ⟨h1, by omega, by omega⟩
theorem fit_cut {l : Bs} (h : l.length ≤ 1000000) : Fit (cutP l) :=
  ⟨Nat.le_trans (cut_few l) h, by rw [cut_text]; exact h, fun t ht => by
    obtain ⟨h1, h2, h3⟩ := cut_vals _ l (Nat.le_refl _) t ht
    exact ⟨h1, by omega, by omega⟩⟩

end Go.Proofs.YtmjbaimccbkmpaaDoor.rul
