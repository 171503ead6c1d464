/- Contracts: Win. -/
import Derived.Test.YtchmpdibbklpfaaWin3
namespace Go.Proofs.Ytchmpdibbklpfaa.win
open Go.RowKit Go.Maps Go.WideMaps Go.Proofs.Ytchmpdibbklpfaa.base Go.Proofs.Ytchmpdibbklpfaa.cas
set_option linter.unusedVariables false

theorem grown_of_below {w w' : World} (h : Below w.heap.size w w') : w.grownBy w' none := ⟨h.os, h.tape, h.output, h.size, fun k hk _ => h.block k hk⟩
theorem row_form {w : World} {base : Nat} {e : TypeId} {size : Nat} {v : Value} {n : Nat} {xs : List Value} (h : w.ownsRow base e size v n xs) : ∃ a cap, v = .slice a n cap := by
  rcases h.2 with ⟨rfl, rfl⟩ | ⟨g, cap, cur, rfl, _⟩
  · exact ⟨none, 0, rfl⟩
  · exact ⟨_, _, rfl⟩
theorem row_at {w : World} {base : Nat} {e : TypeId} {size : Nat} {v : Value} {n : Nat} {xs : List Value} (h : w.ownsRow base e size v n xs) (h0 : 0 < n) : ∃ g cap, v = .slice (some ⟨g, 0, none⟩) n cap ∧ base ≤ g ∧ g < w.heap.size := by
  rcases h.2 with ⟨rfl, rfl⟩ | ⟨g, cap, cur, rfl, _⟩
  · omega
  · have := h.lt g rfl
    exact ⟨g, cap, rfl, this.1, this.2⟩
theorem row_ne {w : World} {base : Nat} {e : TypeId} {size : Nat} {v : Value} {n : Nat} {xs : List Value} (h : w.ownsRow base e size v n xs) {b : Nat} (hb : b < base) : some b ≠ v.ownBlock := fun e1 => by
  have := (h.lt b e1.symm).1
  omega

/-- the cells of winners, one behind the other -/
def rows (L : List GD) : List Value := L.flatMap fun d => d.cells.toList
theorem rows_cons (d : GD) (L : List GD) : rows (d :: L) = .string d.nm :: .string d.vl :: .int .i64 d.o :: .bool d.i :: .int .i64 d.w :: .int .i64 d.p :: rows L := rfl
theorem rows_snoc (L : List GD) (d : GD) : rows (L ++ [d]) = rows L ++ d.cells.toList := by simp [rows]
theorem rows_len (L : List GD) : (rows L).length = L.length * 6 := by
  induction L with
  | nil => rfl
  | cons d L ih => rw [rows_cons]; simp [ih]; omega
theorem rows_at : ∀ {L : List GD} {i : Nat} {e : GD}, L[i]? = some e → ∀ j, j < 6 → (rows L)[i * 6 + j]? = e.cells[j]?
  | [], i, e, h, _, _ => by simp at h
  | d :: L, 0, e, h, j, hj => by
    simp at h
    subst h
    rw [rows_cons]
    match j, hj with
    | 0, _ => rfl
    | 1, _ => rfl
    | 2, _ => rfl
    | 3, _ => rfl
    | 4, _ => rfl
    | 5, _ => rfl
  | d :: L, i + 1, e, h, j, hj => by
    have := rows_at (L := L) (i := i) (e := e) (by simpa using h) j hj
    rw [rows_cons, show (i + 1) * 6 + j = i * 6 + j + 6 by omega]
    exact this
theorem rows_set : ∀ (L : List GD) (i : Nat) (d : GD), i < L.length → rows (L.set i d) = ((((((rows L).set (i * 6) (.string d.nm)).set (i * 6 + 1) (.string d.vl)).set (i * 6 + 2) (.int .i64 d.o)).set (i * 6 + 3) (.bool d.i)).set (i * 6 + 4) (.int .i64 d.w)).set (i * 6 + 5) (.int .i64 d.p)
  | [], i, d, h => by simp at h
  | e :: L, 0, d, h => rfl
  | e :: L, i + 1, d, h => by
    have ih := rows_set L i d (by simpa using h)
    rw [List.set_cons_succ, rows_cons, rows_cons, ih, show (i + 1) * 6 = i * 6 + 6 by omega]
    rfl

theorem infoG : (Try.prog.info? 23).map (fun i => (i.zero, i.size, i.bytes)) = some (some (.agg #[.string .empty, .string .empty, .int .i64 0, .bool false, .int .i64 0, .int .i64 0]), 6, 64) := by kernel_rfl
theorem keyedS : Keyed Try.prog 9 := string_keyed Try.underlying9
theorem zeroI (w : World) : (zeroValue 3).run Try.prog w = .ok (.int .i64 0) w := by kernel_rfl

/-- what Win keeps from round to round -/
def WinRel (B n : Nat) (L : List GD) (w : World) (v i : Value) (wr : World) : Prop :=
  ∃ (k : Nat) (D : DataW Unit), k ≤ n ∧ i = .int .i64 k ∧ Tied D (winP (L.take k)) ∧ wr.ownsMap Try.prog 9 (plainElem Try.prog 3) B k D ∧
      wr.ownsRow (B + 1) 23 6 v (winP (L.take k)).length (rows (winP (L.take k))) ∧ Below B w wr ∧ B + 1 ≤ wr.heap.size

set_option maxRecDepth 100000 in
set_option maxHeartbeats 4000000 in
theorem win_ct (A : Option Addr) (n cap : Nat) (L : List GD) (w : World) (hn : n ≤ 20) (hL : GRd w w.heap.size A n L) (hN : Named L) :
    Calls Try.prog 16 #[.slice A n cap] w fun e w' => (∃ v, e = .returned v ∧ w'.ownsRow (w.heap.size + 1) 23 6 v (winP L).length (rows (winP L))) ∧ Below w.heap.size w w' := by
  have hmm := @run_makeMap Try.prog
  obtain ⟨i0, hi, hz0, hz1, hz2⟩ := info_parts infoG
  have HL := Lib.hid hL
  have hlen := Lib.hid hL.1
  have HN := Lib.hid hN
  have Hz0 := Lib.hid hz0
  have Hi := Lib.hid hi
  have Hz1 := Lib.hid hz1
  have Hz2 := Lib.hid hz2
  clear hL hN hz0 hi hz1 hz2
  go_enter Try.func16, Try.ntmps16
  go_wp2_with fail
  go_loopw [4, 12] (fun v i wr => WinRel w.heap.size n L w v i wr) (fun _ i _ => n - (intOf i).toNat)
  case atStart => exact ⟨0, .map [], by omega, rfl, ⟨⟨_, rfl⟩, fun n => ⟨rfl, fun i h => by simp [winP, idxOf] at h⟩⟩, World.ownsMap_made _ _ _ _, World.ownsRow_nil _ _ _ _, (Below.refl _ _).alloc (Nat.le_refl _) _, by simp⟩
  case round =>
    obtain ⟨k, D, hk, rfl, htie, hmap, hrow, hbel, hsz⟩ := hrel
    by_cases hlt : k < n
    · obtain ⟨b, off, d, rfl, hb, hd, e0, e1, e2, e3, e4, e5⟩ := (HL.out.keep hbel hbel.size).at_ hlt
      have hst : winP (L.take (k + 1)) = winStep (winP (L.take k)) d := by
        obtain ⟨hkl, hde⟩ := List.getElem?_eq_some_iff.1 hd
        rw [winP, winP, List.take_succ_eq_append_getElem hkl, List.foldl_append, hde]
        rfl
      have hfew : (winP (L.take k)).length ≤ k := by
        have := (won (L.take k)).few
        rw [List.length_take] at this
        omega
      have hkey : keyOf Try.prog 9 (.string d.nm) = some (klit d.nm) := keyOf_string_mk Try.underlying9 (HN.out d (List.mem_of_getElem? hd))
      have hrel' : ∀ (v : Value) (wr' : World), (∃ D' : DataW Unit, Tied D' (winStep (winP (L.take k)) d) ∧ wr'.ownsMap Try.prog 9 (plainElem Try.prog 3) w.heap.size (k + 1) D' ∧ wr'.ownsRow (w.heap.size + 1) 23 6 v (winStep (winP (L.take k)) d).length (rows (winStep (winP (L.take k)) d)) ∧ Below w.heap.size w wr' ∧ w.heap.size + 1 ≤ wr'.heap.size) →
          WinRel w.heap.size n L w v (.int .i64 ((k : Int) + 1)) wr' := fun v wr' ⟨D', h1, h2, h3, h4, h5⟩ => ⟨k + 1, D', hlt, by go_num, by rw [hst]; exact h1, h2, by rw [hst]; exact h3, h4, h5⟩
      clear hst
      generalize winP (L.take k) = acc at *
      replace hkey := Lib.hid hkey
      replace htie := Lib.hid htie
      replace hmap := Lib.hid hmap
      replace hrow := Lib.hid hrow
      replace hrel' := Lib.hid hrel'
      have HBel := Lib.hid hbel
      clear hbel hd hb
      have i1 : (k : Int) < (n : Int) := by omega
      cases hx : idxOf acc d.nm with
      | none =>
        have hh : Maps.has D (klit d.nm) = false := by
          have hh := (htie.out.2 d.nm).1
          rw [hx] at hh
          exact hh
        have hws : winStep acc d = acc ++ [d] := by unfold winStep; rw [hx]
        have hta := Lib.hid (htie.out.add hx)
        replace hws := Lib.hid hws
        obtain ⟨a, cp, rfl⟩ := row_form hrow.out
        clear hx
        go_wp2_with (first
          | (at_lookup; refine wpList_lookup_own_ok_int _ rfl _ _ 61 rfl 9 3 .i64 keyedS Try.underlying61 Try.underlying3 (zeroI _) w.heap.size k _ rfl (hmap.out.alloc _) _ _ rfl hkey.out ?_; intro c hat hwc; clear hat hwc)
          | (at_mapUpdate; refine wpList_mapUpdate_own _ rfl _ _ _ 61 rfl 9 3 keyedS Try.underlying61 (plainElem Try.prog 3) w.heap.size k _ rfl (hmap.out.alloc _) (by unfold maxLen; omega) _ _ _ rfl rfl hkey.out _ [] (plainElem_int Try.underlying3 (by exact WalkArith.wf_i64 (by omega))) ?_; intro w1 hown1 hgrow1; have hgb : Blk w1 wr.heap.size 23 d.cells := (hgrow1.block _ (by simp) (by simp; omega)).trans (Blk.new rfl); have hgc := hgb.cell; replace hgb := Lib.hid hgb)
          | (at_builtin; refine wpList_append_own _ rfl _ _ 34 rfl (w.heap.size + 1) 23 i0 _ 6 64 Try.underlying34 Hi.out Hz0.out Hz1.out Hz2.out rfl (by decide) _ _ _ rfl (((hrow.out.alloc _).kept hgrow1 (Or.inr (row_ne hrow.out (Nat.lt_succ_self _)).symm)).alloc _) ⟨w1.heap.size, 0, none⟩ 1 1 d.cells.toList rfl rfl ?c1 ?c2 ?c3 ?c4 ?c5 ?_))
        case c2 => simp [Value.oneCell']
        case c3 => unfold maxLen; omega
        case c4 => omega
        case c5 => have := hgrow1.size; simp at this ⊢; omega
        intro v' w2 hown2 hgrow2 hnil2
        have hr1 := ((hrow.out.alloc (.cells d.cells 23)).kept hgrow1 (Or.inr (row_ne hrow.out (Nat.lt_succ_self _)).symm))
        have hm2 := Lib.hid ((hown1.alloc (.cells d.cells 23)).kept hgrow2 (row_ne hr1 (Nat.lt_succ_self _)))
        have hb2 := Lib.hid ((((HBel.out.alloc HBel.out.size (.cells d.cells 23)).grown hgrow1 (by simp; omega) (fun j hj => by cases hj; exact Nat.le_refl _)).alloc (by have := hgrow1.size; simp at this; omega) (.cells d.cells 23)).grown hgrow2 (by have := hgrow1.size; simp at this ⊢; omega) (fun j hj => Nat.le_trans (Nat.le_succ _) (hr1.lt j hj).1))
        have s1 := hgrow1.size
        have s2 := hgrow2.size
        simp at s1 s2
        have hz : w.heap.size + 1 ≤ w2.heap.size := by omega
        replace hown2 := Lib.hid hown2
        clear hgrow1 hgrow2 hnil2 hgc hgb hown1 hr1 e0 e1 e2 e3 e4 e5
        go_wp2
        go_roundw
        case rel =>
          refine hrel'.out _ _ ⟨_, by rw [hws.out]; exact hta.out, hm2.out, ?_, hb2.out, hz⟩
          rw [hws.out, rows_snoc]
          simpa using hown2.out
        case measure => simp [intOf]; omega
      | some i =>
        have hh : Maps.has D (klit d.nm) = true := by
          have hh := (htie.out.2 d.nm).1
          rw [hx] at hh
          exact hh
        obtain ⟨e, hei, hen⟩ := idx_some hx
        have hil := (List.getElem?_eq_some_iff.1 hei).1
        have hws : winStep acc d = if 0 ≤ d.cmp e then acc.set i d else acc := by
          unfold winStep
          rw [hx]
          simp [hei]
        have hat0 := (htie.out.2 d.nm).2 i hx
        replace hat0 := Lib.hid hat0
        have hta := Lib.hid (htie.out.swap hei hen)
        replace hws := Lib.hid hws
        obtain ⟨g, cp, rfl, hg1, hg2⟩ := row_at hrow.out (by omega)
        replace hei := Lib.hid hei
        replace hen := Lib.hid hen
        have i2 : (i : Int) < (acc.length : Int) := by omega
        clear hx
        go_wp2_with (at_lookup; refine wpList_lookup_own_ok_int _ rfl _ _ 61 rfl 9 3 .i64 keyedS Try.underlying61 Try.underlying3 (zeroI _) w.heap.size k _ rfl (hmap.out.alloc _) _ _ rfl hkey.out ?_; intro c hat hwc; obtain rfl : c = (i : Int) := (by rw [hat0.out] at hat; simp at hat; exact hat.symm); clear hat hwc)
        clear e0 e1 e2 e3 e4 e5
        generalize hW0 : wr.alloc (.cells #[.string d.nm, .string d.vl, .int .i64 d.o, .bool d.i, .int .i64 d.w, .int .i64 d.p] 23) = W0
        have HBlk := Lib.hid (show Blk W0 wr.heap.size 23 d.cells by subst hW0; exact Blk.new rfl)
        have HZ : wr.heap.size + 1 ≤ W0.heap.size := by subst hW0; simp
        have HM0 := Lib.hid (show W0.ownsMap Try.prog 9 (plainElem Try.prog 3) w.heap.size k D by subst hW0; exact hmap.out.alloc _)
        have HR0 := Lib.hid (show W0.ownsRow (w.heap.size + 1) 23 6 (.slice (some ⟨g, 0, none⟩) acc.length cp) acc.length (rows acc) by subst hW0; exact hrow.out.alloc _)
        have HB0 := Lib.hid (show Below w.heap.size w W0 by subst hW0; exact HBel.out.alloc HBel.out.size _)
        have hcell : ∀ j, j < 6 → W0.cell? ⟨g, i * 6 + j, none⟩ = e.cells[j]? := fun j hj => (HR0.out.cellAt _ (by omega)).trans (rows_at hei.out j hj)
        have p0 := HBlk.out.cell 0
        have p1 := HBlk.out.cell 1
        have p2 := HBlk.out.cell 2
        have p3 := HBlk.out.cell 3
        have p4 := HBlk.out.cell 4
        have p5 := HBlk.out.cell 5
        simp at p0 p1 p2 p3 p4 p5
        have q0 : W0.cell? ⟨g, i * 6, none⟩ = some (.string e.nm) := hcell 0 (by decide)
        have q1 : W0.cell? ⟨g, i * 6 + 1, none⟩ = some (.string e.vl) := hcell 1 (by decide)
        have q2 : W0.cell? ⟨g, i * 6 + 2, none⟩ = some (.int .i64 e.o) := hcell 2 (by decide)
        have q3 : W0.cell? ⟨g, i * 6 + 3, none⟩ = some (.bool e.i) := hcell 3 (by decide)
        have q4 : W0.cell? ⟨g, i * 6 + 4, none⟩ = some (.int .i64 e.w) := hcell 4 (by decide)
        have q5 : W0.cell? ⟨g, i * 6 + 5, none⟩ = some (.int .i64 e.p) := hcell 5 (by decide)
        have hg3 : g < wr.heap.size + 1 := by omega
        clear hW0 hcell hmap hrow HBel
        go_region_held3 (fun w' => (∀ b o, b < wr.heap.size + 1 → w'.cell? ⟨b, o, none⟩ = W0.cell? ⟨b, o, none⟩) ∧ Below (wr.heap.size + 1) W0 w')
          (first | exact As.beg | assumption | exact As.on hb3 (by assumption) HZ | exact As.alloc (by assumption) HZ)
          ((go_at_call 22; refine (compare_ct _ _ _ _ _ _ _ _ _ _ _ _ _).mono ?_; rintro ee w3 ⟨rfl, hb3⟩; have hS3 := Lib.hid (As.on (B := wr.heap.size + 1) (W0 := W0) hb3 As.beg HZ); have hg4 := Lib.hid (grown_of_below hb3)))
        have HM3 := Lib.hid (HM0.out.drew.kept hg4.out (by simp))
        have HR3 := Lib.hid (HR0.out.drew.kept hg4.out (Or.inr (by simp [Value.ownBlock])))
        have HBlk3 := Lib.hid (HBlk.out.below hS3.out.2 (by omega))
        have HB3 := Lib.hid (HB0.out.trans (hS3.out.2.mono (by omega)))
        have hz3 := hg4.out.size
        simp at hz3
        clear HM0 HR0 HBlk HB0 hg4
        by_cases hc : 0 ≤ d.cmp e
        · have hc' : 0 ≤ cmpG d.o d.i d.w d.p e.o e.i e.w e.p := hc
          have fr := fun j => HR3.out.frozenAt j
          rw [show winStep acc d = acc.set i d by rw [hws.out, if_pos hc]] at hrel'
          have hset := Lib.hid (rows_set acc i d hil)
          replace hc := Lib.hid hc
          go_wp2
          go_roundw
          case rel =>
            refine hrel'.out _ _ ⟨_, hta.out, ?_, ?_, ?_, ?_⟩
            · exact ((((((HM3.out.setCell (by dsimp only; omega) _).setCell (by dsimp only; omega) _).setCell (by dsimp only; omega) _).setCell (by dsimp only; omega) _).setCell (by dsimp only; omega) _).setCell (by dsimp only; omega) _).mono (Nat.le_succ _)
            · rw [hset.out, List.length_set]
              exact ((((((HR3.out.stored _ _).1.stored _ _).1.stored _ _).1.stored _ _).1.stored _ _).1.stored _ _).1
            · exact (((((HB3.out.setCell (by dsimp only; omega) _).setCell (by dsimp only; omega) _).setCell (by dsimp only; omega) _).setCell (by dsimp only; omega) _).setCell (by dsimp only; omega) _).setCell (by dsimp only; omega) _
            · simp only [size_setCell]
              omega
          case measure => simp [intOf]; omega
        · have hc' : ¬ 0 ≤ cmpG d.o d.i d.w d.p e.o e.i e.w e.p := hc
          rw [show winStep acc d = acc by rw [hws.out, if_neg hc]] at hrel'
          replace hc := Lib.hid hc
          go_wp2
          go_roundw
          case rel => exact hrel'.out _ _ ⟨_, htie.out, HM3.out.mono (Nat.le_succ _), HR3.out, HB3.out, by omega⟩
          case measure => simp [intOf]; omega
    · obtain rfl : k = n := by omega
      have ht : L.take k = L := List.take_of_length_le (by rw [hlen.out]; omega)
      rw [ht] at hrow htie
      replace hmap := Lib.hid hmap
      replace hrow := Lib.hid hrow
      replace htie := Lib.hid htie
      have HBel := Lib.hid hbel
      clear hbel ht
      go_wp2
      go_ret
      exact ⟨⟨_, rfl, hrow.out⟩, HBel.out⟩

end Go.Proofs.Ytchmpdibbklpfaa.win
