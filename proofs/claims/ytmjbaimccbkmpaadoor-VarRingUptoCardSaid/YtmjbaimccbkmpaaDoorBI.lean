/- Contracts and plain law, a bundle: VarE VarF VarG VarH VarI VarJ Base3 DoorU LaidV WVarAgain. -/
import Derived.Lib.SliceRun
import Derived.Maps.AppendAt
import Derived.Deep.LoopGhost
import Derived.BigQuiet
import Derived.Laws.StructEq
import Derived.Deep.DeepHandedRow
import Derived.Test.YtmjbaimccbkmpaaDoorBH
import Derived.Test.YtmjbaimccbkmpaaDoorBG
import Derived.Test.YtmjbaimccbkmpaaDoorBA
import Derived.Test.YtmjbaimccbkmpaaDoorRows
import Derived.Test.YtmjbaimccbkmpaaDoorBF

namespace Go.Proofs.YtmjbaimccbkmpaaDoor.vrs
open Go.RowKit Go.Proofs.YtmjbaimccbkmpaaDoor.base Go.Proofs.YtmjbaimccbkmpaaDoor.tok Go.Proofs.YtmjbaimccbkmpaaDoor.rul
set_option linter.unusedVariables false

theorem vflat_len : ∀ V : List Vr, (flatR vc V).length = V.length * 2
  | [] => rfl
  | x :: V => by
    have := vflat_len V
    simp only [flatR, List.flatMap_cons, vc, List.length_append, List.length_cons, List.length_nil] at this ⊢
    omega
theorem vflat_at : ∀ (V : List Vr) (j : Nat) (u : Value), (flatR vc V)[j]? = some u → ∃ i p, V[i]? = some p ∧ ((j = i * 2 ∧ u = .string (bs p.1)) ∨ (j = i * 2 + 1 ∧ u = .string (bs p.2)))
  | [], j, u, h => by simp [flatR] at h
  | x :: V, 0, u, h => ⟨0, x, rfl, .inl ⟨rfl, by simpa [flatR, vc] using h.symm⟩⟩
  | x :: V, 1, u, h => ⟨0, x, rfl, .inr ⟨rfl, by simpa [flatR, vc] using h.symm⟩⟩
  | x :: V, j + 2, u, h => by
    obtain ⟨i, p, h1, h2⟩ := vflat_at V j u (by simpa [flatR, vc] using h)
    refine ⟨i + 1, p, by simpa using h1, ?_⟩
    rcases h2 with ⟨h2, h3⟩ | ⟨h2, h3⟩
    · exact .inl ⟨by omega, h3⟩
    · exact .inr ⟨by omega, h3⟩
theorem vrd_news {w : World} {B : Nat} {b off : Nat} {n : Nat} {V : List Vr} (h : VRd w B (some ⟨b, off, none⟩) n V) : ∀ j u, (flatR vc V)[j]? = some u → w.cell? ((⟨b, off, none⟩ : Addr).add j) = some u := fun j u hj => by
  obtain ⟨i, p, h1, h2⟩ := vflat_at V j u hj
  have hi : i < n := by have := (List.getElem?_eq_some_iff.1 h1).1; have := h.1; omega
  obtain ⟨b', off', p', hA, hlt, hd, c0, c1⟩ := VRd.var h hi
  cases hA
  obtain rfl : p = p' := Option.some.inj (h1.symm.trans hd)
  have e : (⟨b, off, none⟩ : Addr).add j = ⟨b, off + j, none⟩ := by unfold Addr.add; split <;> simp_all
  rw [e]
  rcases h2 with ⟨rfl, rfl⟩ | ⟨rfl, rfl⟩
  · exact c0
  · exact c1
theorem vflat_one (V : List Vr) : ∀ u ∈ flatR vc V, u.oneCell' = true := fun u hu => by
  obtain ⟨j, hj⟩ := List.getElem?_of_mem hu
  obtain ⟨i, p, h1, h2⟩ := vflat_at V j u hj
  rcases h2 with ⟨-, rfl⟩ | ⟨-, rfl⟩ <;> rfl

theorem cell_alloc_old {w : World} {o : Obj} {a : Addr} {v : Value} (h : w.cell? a = some v) : (w.alloc o).cell? a = some v := (World.grownBy_alloc w o none).cell h (by simp)

set_option maxRecDepth 100000 in
set_option maxHeartbeats 2000000 in
theorem clone_ct (A : Option Addr) (cap : Nat) (V : List Vr) (hn : V.length ≤ 1000000) (w : World) (hI : VRd w w.heap.size A V.length V) :
    Calls Tryd.prog 21 #[.slice A V.length cap] w fun e w' => (∃ v, e = .returned v ∧ w'.ownsRow w.heap.size 26 2 v V.length (flatR vc V)) ∧ Below w.heap.size w w' := by
  obtain ⟨i0, hi, hz0, hz1, hz2⟩ := info_parts infoV
  have Hz0 := Lib.hid hz0
  have Hi := Lib.hid hi
  have Hz1 := Lib.hid hz1
  have Hz2 := Lib.hid hz2
  clear hz0 hi hz1 hz2
  cases A with
  | none =>
    have h0 : V.length = 0 := by
      rcases Nat.eq_zero_or_pos V.length with h | h
      · exact h
      · obtain ⟨b, off, he, _⟩ := hI.2 h
        cases he
    obtain rfl := List.eq_nil_of_length_eq_zero h0
    clear hI h0
    simp only [List.length_nil]
    have hnil := fun w => Lib.run_eql_slice_nil (P := Tryd.prog) w 27 26 none 0 cap 0 0 Tryd.underlying27
    simp only [Option.isNone_none] at hnil
    go_enter Tryd.func21, Tryd.ntmps21
    go_wp2_with fail
    go_ret
    exact ⟨⟨_, rfl, World.ownsRow_nil _ _ _ _⟩, Below.refl _ _⟩
  | some a =>
    have hnews : ∀ j u, (flatR vc V)[j]? = some u → w.cell? (a.add j) = some u := by
      rcases Nat.eq_zero_or_pos V.length with h | h
      · obtain rfl := List.eq_nil_of_length_eq_zero h
        exact fun j u hj => by simp [flatR] at hj
      · obtain ⟨b, off, he, _⟩ := hI.2 h
        cases he
        exact vrd_news hI
    have HNews := Lib.hid (fun j u hj => (cell_alloc_old (w := w) (o := .cells #[] 26) (hnews j u hj)))
    clear hI hnews
    have hnil := fun w => Lib.run_eql_slice_nil (P := Tryd.prog) w 27 26 (some a) V.length cap 0 0 Tryd.underlying27
    simp only [Option.isNone_some] at hnil
    go_enter Tryd.func21, Tryd.ntmps21
    go_wp2_with (at_builtin; refine wpList_append_own _ rfl _ _ 27 rfl w.heap.size 26 i0 (.agg #[.string .empty, .string .empty]) 2 32 Tryd.underlying27 Hi.out Hz0.out Hz1.out Hz2.out rfl (by decide) _ _ _ rfl (World.ownsRow_made w #[] 0 (Nat.le_refl _) (by unfold maxLen; omega) rfl) a V.length cap (flatR vc V) rfl (vflat_len V) ?c1 ?c2 ?c3 ?c4 ?c5 ?_)
    case c1 => exact HNews.out
    case c2 => exact vflat_one V
    case c3 => unfold maxLen; omega
    case c4 => omega
    case c5 => simp
    intro v' w4 hown4 hgrow4 hnil4
    have HB4 := Lib.hid (((Below.refl w.heap.size w).alloc (Nat.le_refl _) (.cells #[] 26)).grown hgrow4 (by simp) (fun k hk => by have := Option.some.inj (show some w.heap.size = some k from hk); omega))
    obtain ⟨g', cap', rfl⟩ := row_form hown4
    replace hown4 := Lib.hid hown4
    clear hgrow4 hnil4
    go_wp2
    go_ret
    exact ⟨⟨_, rfl, hown4.out⟩, HB4.out⟩

/-! ### DeleteFunc -/
abbrev PdW (P : Vr → Bool) (g : Nat) (lb : Array Value) (V : List Vr) (w : World) : Prop :=
  ∀ (W : World) (x : Vr), x ∈ V → Below w.heap.size w W → Calls Tryd.prog g (#[.agg #[.string (bs x.1), .string (bs x.2)]] ++ lb) W fun e w' => e = .returned (.bool (P x)) ∧ Below W.heap.size W w'
theorem PdW.at_ {P : Vr → Bool} {g : Nat} {lb : Array Value} {V : List Vr} {w0 w : World} (h : PdW P g lb V w0) (hb : Below w0.heap.size w0 w) : PdV P g lb V w := fun W x hx hW =>
  (h W x hx (hb.trans (hW.mono hb.size))).mono fun e w' ⟨he, h2⟩ => ⟨he, hW.trans (h2.mono hW.size)⟩
theorem run_clear_own (w : World) {base n cap g i c : Nat} {xs : List Value} (h : w.ownsRow base 26 2 (.slice (some ⟨g, 0, none⟩) n cap) n xs) (hi : i < n) :
    ∃ w', (∀ ty, (Builtin.clear_ #[27] ty #[.slice (some ⟨g, i * 2, none⟩) (n - i) c]).run Tryd.prog w = .ok (.tuple #[]) w') ∧ w'.ownsRow base 26 2 (.slice (some ⟨g, 0, none⟩) i cap) i (xs.take (i * 2)) ∧ w.grownBy w' (some g) := by
  rcases h.2 with ⟨hv, hz⟩ | ⟨g', cap', cur, hv, hb, hg, hc, hm, hs, ht⟩
  · cases hv
  · cases hv
    have hzl : (Builtin.zeroCells (Value.cells (.agg #[.string .empty, .string .empty])) (n - i)).toList.length = (n - i) * 2 := by
      rw [Array.length_toList, size_zeroCells]; rfl
    have hz1 : ∀ v ∈ (Builtin.zeroCells (Value.cells (.agg #[.string .empty, .string .empty])) (n - i)).toList, v.oneCell' = true := by
      intro v hv
      simp only [Builtin.zeroCells, Array.toList_map, List.mem_map] at hv
      obtain ⟨k, -, rfl⟩ := hv
      have : k % 2 = 0 ∨ k % 2 = 1 := by omega
      simp only [Value.cells]
      rcases this with h | h <;> (simp [h]; rfl)
    generalize hzs : (Builtin.zeroCells (Value.cells (.agg #[.string .empty, .string .empty])) (n - i)).toList = zs at *
    have hst := run_storeCells_at Tryd.prog g (i * 2) 26 zs 0 cur w hg (by rw [hzl]; omega) hz1
    simp only [Nat.add_zero] at hst
    have hr : ∀ ty, (Builtin.clear_ #[27] ty #[.slice (some ⟨g, i * 2, none⟩) (n - i) c]).run Tryd.prog w = .ok (.tuple #[]) (w.setRow g (cur.toList.take (i * 2) ++ zs ++ cur.toList.drop (i * 2 + zs.length)).toArray) := fun ty => by
      obtain ⟨m, hm2⟩ : ∃ m, n - i = m + 1 := ⟨n - i - 1, by omega⟩
      rw [hm2] at hzs ⊢
      have hzv : ∀ w, (zeroValue 26).run Tryd.prog w = .ok (.agg #[.string .empty, .string .empty]) w := fun w => by kernel_rfl
      simp [Builtin.clear_, run_underlying Tryd.underlying27, hzv, hzs, hst]
    refine ⟨_, hr, ⟨by rw [List.length_take, h.1]; omega, .inr ⟨g, cap, _, rfl, hb, setRow_heap w g cur _ _ _ hg, by omega, hm, ?_, ?_⟩⟩, ⟨rfl, rfl, rfl, by simp, fun k _ hk => setRow_other w g k _ (fun e => hk (by rw [e]))⟩⟩
    · simp only [List.size_toArray, List.length_append, List.length_take, List.length_drop, Array.length_toList, hzl]
      omega
    · rw [← ht, List.append_assoc, List.take_append_of_le_length (by simp; omega), List.take_take, List.take_take]
      congr 1
      omega

theorem idxF_first {α : Type} (p : α → Bool) : ∀ (L : List α) (i : Nat), (∃ (k : Nat) (x : α), idxF p L i = ((i + k : Nat) : Int) ∧ L[k]? = some x ∧ p x = true ∧ (L.take k).filter (fun x => !p x) = L.take k) ∨ (idxF p L i = -1 ∧ L.filter (fun x => !p x) = L)
  | [], i => .inr ⟨rfl, rfl⟩
  | y :: L, i => by
    rw [idxF]
    cases h : p y with
    | true => exact .inl ⟨0, y, rfl, rfl, h, rfl⟩
    | false =>
      rcases idxF_first p L (i + 1) with ⟨k, x, h1, h2, h3, h4⟩ | ⟨h1, h2⟩
      · exact .inl ⟨k + 1, x, by simp only [Bool.false_eq_true, if_false]; rw [h1]; omega, by simpa using h2, h3, by rw [List.take_succ_cons, List.filter_cons, h, h4]; rfl⟩
      · exact .inr ⟨by simpa using h1, by rw [List.filter_cons, h, h2]; rfl⟩
theorem vflat_take : ∀ (V : List Vr) (i : Nat), (flatR vc V).take (i * 2) = flatR vc (V.take i)
  | [], i => by simp [flatR]
  | x :: V, 0 => by simp [flatR]
  | x :: V, i + 1 => by
    have ih := vflat_take V i
    rw [show (i + 1) * 2 = i * 2 + 1 + 1 by omega]
    simp only [flatR, List.flatMap_cons, vc, List.cons_append, List.nil_append, List.take_succ_cons] at ih ⊢
    exact congrArg (fun z => Value.string (bs x.1) :: Value.string (bs x.2) :: z) ih
def DInv (p : Vr → Bool) (V M : List Vr) (i j : Nat) : Prop := i < j ∧ j ≤ V.length ∧ M.length = V.length ∧ M.take i = (V.take j).filter (fun x => !p x) ∧ M.drop j = V.drop j
theorem DInv.at_ {p : Vr → Bool} {V M : List Vr} {i j : Nat} (h : DInv p V M i j) {u : Vr} (hu : V[j]? = some u) : M[j]? = some u := by
  have := congrArg (fun l => l[0]?) h.2.2.2.2
  simpa [hu] using this
theorem DInv.skip {p : Vr → Bool} {V M : List Vr} {i j : Nat} (h : DInv p V M i j) {u : Vr} (hu : V[j]? = some u) (hp : p u = true) : DInv p V M i (j + 1) := by
  obtain ⟨h1, h2, h3, h4, h5⟩ := h
  have hl := (List.getElem?_eq_some_iff.1 hu).1
  refine ⟨by omega, by omega, h3, ?_, by rw [← List.drop_drop, h5, List.drop_drop]⟩
  rw [List.take_add_one, hu, List.filter_append, h4]
  simp [hp]
theorem DInv.keep {p : Vr → Bool} {V M : List Vr} {i j : Nat} (h : DInv p V M i j) {u : Vr} (hu : V[j]? = some u) (hp : p u = false) : DInv p V (M.set i u) (i + 1) (j + 1) := by
  obtain ⟨h1, h2, h3, h4, h5⟩ := h
  have hl := (List.getElem?_eq_some_iff.1 hu).1
  refine ⟨by omega, by omega, by rw [List.length_set]; exact h3, ?_, ?_⟩
  · rw [List.take_add_one, List.getElem?_set_self (by omega), List.take_set_of_le (Nat.le_refl _), h4, List.take_add_one, hu, List.filter_append]
    simp [hp]
  · rw [List.drop_set_of_lt (by omega), ← List.drop_drop, h5, List.drop_drop]
def DRel (w0 : World) (p : Vr → Bool) (V : List Vr) (v x5 x6 : Value) (wr : World) : Prop :=
  ∃ (i j : Nat) (M : List Vr), x5 = .int .i64 i ∧ x6 = .int .i64 j ∧ DInv p V M i j ∧ wr.ownsRow w0.heap.size 26 2 v V.length (flatR vc M) ∧ Below w0.heap.size w0 wr

set_option maxRecDepth 100000 in
set_option maxHeartbeats 8000000 in
theorem del_ct (p : Vr → Bool) (g : Nat) (lb : Array Value) (eg : ∀ args w, (callFunc g args).run Tryd.prog w = .ok (.enter g args) w) (v : Value) (V : List Vr) (hn : V.length ≤ 1000000) (w0 w : World) (hw : Below w0.heap.size w0 w) (hrow : w.ownsRow w0.heap.size 26 2 v V.length (flatR vc V)) (hp : PdW p g lb V w0) :
    Calls Tryd.prog 20 #[v, .func (.func g) #[] lb] w fun e w' => (∃ v', e = .returned v' ∧ w'.ownsRow w0.heap.size 26 2 v' (V.filter fun x => !p x).length (flatR vc (V.filter fun x => !p x))) ∧ Below w0.heap.size w0 w' := by
  have HRow := Lib.hid hrow
  have HW := Lib.hid hw
  have HP := Lib.hid hp
  obtain ⟨av, cp, rfl⟩ := row_form hrow
  have cI := Lib.hid (show Calls Tryd.prog 37 #[.slice av V.length cp, .func (.func g) #[] lb] w fun e w' => e = .returned (.int .i64 (idxF p V 0)) ∧ Below w.heap.size w w' from by
    obtain ⟨A', c', he, hc', hg⟩ := row_vrd rfl hrow
    injection he with h1 h2 h3
    subst h1 h3
    exact vIdx_ct p g lb eg av cp V hn w hg (hp.at_ hw))
  have hidx := idxF_first p V 0
  generalize hJ : idxF p V 0 = J at *
  clear hw hrow hp hJ
  rcases hidx with ⟨k, x, h1, h2, h3, h4⟩ | ⟨h1, h2⟩
  · rw [Nat.zero_add] at h1
    subst h1
    have hk : k < V.length := (List.getElem?_eq_some_iff.1 h2).1
    have hk1 : ((k : Int) == -1) = false := beq_eq_false_iff_ne.2 (by omega)
    have HD0 := Lib.hid (show DInv p V V k (k + 1) from ⟨Nat.lt_succ_self _, hk, rfl, by rw [List.take_add_one, h2, List.filter_append, h4]; simp [h3], rfl⟩)
    clear h2 h3 h4
    have q0 : IntKind.i64.wrap ((k : Int) + 1) = (k : Int) + 1 := IntWalk.i64_in _ (by omega)
    go_enter Tryd.func20, Tryd.ntmps20
    go_wp2_with (go_at_call 37; (with_reducible refine (cI.out).mono ?_); rintro e W1 ⟨rfl, hb1⟩; have HB1 := Lib.hid (HW.out.trans (hb1.mono HW.out.size)); have HRow1 := Lib.hid (row_on HRow.out hb1); clear hb1)
    go_loopw [5, 6] (fun x5 x6 wr => DRel w0 p V (.slice av V.length cp) x5 x6 wr) (fun _ x _ => V.length - (intOf x).toNat)
    case atStart => exact ⟨k, k + 1, V, rfl, by go_num, HD0.out, HRow1.out, HB1.out⟩
    case round =>
      obtain ⟨i, j, M, rfl, rfl, hd, hr, hb⟩ := hrel
      have HD := Lib.hid hd
      have HR := Lib.hid hr
      have HB := Lib.hid hb
      obtain ⟨hij, hjl, hMl, -, -⟩ := hd
      clear hr hb HD0 HRow1 HB1
      by_cases hlt : j < V.length
      · have hlt' : (j : Int) < (V.length : Int) := by omega
        obtain ⟨u, hu⟩ : ∃ u, V[j]? = some u := ⟨V[j], List.getElem?_eq_getElem hlt⟩
        obtain ⟨gg, cur, rfl, hgg, hBg, hu0, hu1⟩ := row_cells HR.out hMl (HD.out.at_ hu)
        have c0 := (hBg.cell (j * 2)).trans hu0
        have c1 := (hBg.cell (j * 2 + 1)).trans hu1
        have q1 : IntKind.i64.wrap ((j : Int) + 1) = (j : Int) + 1 := IntWalk.i64_in _ (by omega)
        have q2 : IntKind.i64.wrap ((i : Int) + 1) = (i : Int) + 1 := IntWalk.i64_in _ (by omega)
        have hcall := HP.out (wr.alloc (.cells #[.string (bs u.1), .string (bs u.2)] 26)) u (List.mem_of_getElem? hu) (HB.out.alloc HB.out.size _)
        have HU := Lib.hid hu
        clear hBg hu0 hu1 hu
        cases hq : p u with
        | false =>
          rw [hq] at hcall
          have HK := Lib.hid (HD.out.keep HU.out hq)
          obtain ⟨y, hy⟩ : ∃ y, M[i]? = some y := ⟨M[i], List.getElem?_eq_getElem (by omega)⟩
          have HY := Lib.hid hy
          clear hq hy
          go_upto_region 9 with (go_at_fn g; refine hcall.mono ?_; rintro e W2 ⟨rfl, hb2⟩; have HB2 := Lib.hid ((HB.out.alloc HB.out.size _).trans (hb2.mono (by have := HB.out.size; simp; omega))); have HR2 := Lib.hid (row_on (HR.out.alloc _) hb2); have cX := (Blk.below (Blk.new (w := wr) (t := 26) (cs := #[.string (bs u.1), .string (bs u.2)]) rfl) hb2 (by simp)).cell; clear hb2 c0 c1)
          obtain ⟨g2, cur2, he, hgg2, hBg2, hv0, hv1⟩ := row_cells HR2.out hMl HY.out
          cases he
          have d0 := (hBg2.cell (i * 2)).trans hv0
          have d1 := (hBg2.cell (i * 2 + 1)).trans hv1
          have f0 := hBg2.frozen
          clear hBg2 hv0 hv1
          go_wp2_with fail
          go_roundw
          case rel => exact ⟨i + 1, j + 1, M.set i u, by go_num, by go_num, HK.out, (by rw [← flat_set u M i (by omega)]; exact owns_put (owns_put HR2.out _) _), (HB2.out.setCell (by simp; omega) _).setCell (by simp; omega) _⟩
          case measure => simp [intOf]; omega
        | true =>
          rw [hq] at hcall
          have HK := Lib.hid (HD.out.skip HU.out hq)
          clear hq
          go_wp2_with (go_at_fn g; refine hcall.mono ?_; rintro e W2 ⟨rfl, hb2⟩; have HB2 := Lib.hid ((HB.out.alloc HB.out.size _).trans (hb2.mono (by have := HB.out.size; simp; omega))); have HR2 := Lib.hid (row_on (HR.out.alloc _) hb2); clear hb2 c0 c1)
          go_roundw
          case rel => exact ⟨i, j + 1, M, rfl, by go_num, HK.out, HR2.out, HB2.out⟩
          case measure => simp [intOf]; omega
      · obtain rfl : j = V.length := by omega
        obtain ⟨y, hy⟩ : ∃ y, M[i]? = some y := ⟨M[i], List.getElem?_eq_getElem (by omega)⟩
        obtain ⟨gg, cur, rfl, hgg, -, -, -⟩ := row_cells HR.out hMl hy
        obtain ⟨A', c', he, hcp, -⟩ := row_vrd hMl HR.out
        injection he with h1 h2 h3
        subst h1 h3
        clear h2
        obtain ⟨w2, hcl, hr2, hg2⟩ := run_clear_own wr (c := cp - i) HR.out hij
        have hsl := fun w => slice_from (P := Tryd.prog) (k := 2) Tryd.underlying27 Tryd.sizeOf26 (some ⟨gg, 0, none⟩) V.length cp (i : Int) (by omega) (by omega) w
        have hsu := fun w => slice_upto (P := Tryd.prog) (k := 2) Tryd.underlying27 Tryd.sizeOf26 (some ⟨gg, 0, none⟩) V.length cp (i : Int) (by omega) (by omega) w
        have e : addrAt 2 (some ⟨gg, 0, none⟩) cp i = some ⟨gg, i * 2, none⟩ := by
          unfold addrAt
          rw [if_neg (by omega)]
          simp [add_zero_block]
        simp only [Int.toNat_natCast, e] at hsl hsu
        have HR2 := Lib.hid hr2
        have HB2 := Lib.hid (HB.out.grown hg2 HB.out.size (fun k hk => by have := Option.some.inj hk; omega))
        have hF : M.take i = V.filter fun x => !p x := by have := HD.out.2.2.2.1; rwa [List.take_length] at this
        have hFl : (V.filter fun x => !p x).length = i := by rw [← hF, List.length_take]; omega
        have HF := Lib.hid hF
        have HFl := Lib.hid hFl
        clear hr2 hg2 hF hFl e hy
        go_wp2_with fail
        go_ret
        exact ⟨⟨_, rfl, (by rw [HFl.out, ← HF.out, ← vflat_take]; exact HR2.out)⟩, HB2.out⟩
  · subst h1
    rw [h2]
    go_enter Tryd.func20, Tryd.ntmps20
    go_wp2_with (go_at_call 37; (with_reducible refine (cI.out).mono ?_); rintro e W1 ⟨rfl, hb1⟩; have HB1 := Lib.hid (HW.out.trans (hb1.mono HW.out.size)); have HRow1 := Lib.hid (row_on HRow.out hb1); clear hb1)
    go_ret
    exact ⟨⟨_, rfl, HRow1.out⟩, HB1.out⟩

end Go.Proofs.YtmjbaimccbkmpaaDoor.vrs

namespace Go.Proofs.YtmjbaimccbkmpaaDoor.vrs
open Go.RowKit Go.Proofs.YtmjbaimccbkmpaaDoor.base Go.Proofs.YtmjbaimccbkmpaaDoor.tok Go.Proofs.YtmjbaimccbkmpaaDoor.rul
set_option linter.unusedVariables false

def waitsP (L : List Vr) (v : Vr) : Bool := (onP v.2).any fun n => L.any fun x => decide (x.1 = n)

set_option maxRecDepth 100000 in
theorem ringed_ct {b0 b : Nat} (p : Bs → Bool) (A : Option Addr) (cap : Nat) (R : List Vr) (x : Vr) (w : World) (hp : ∀ n, p n = true ↔ Ring R n) (hn : R.length ≤ 1000000) (hU : (allOn R).length ≤ 50000000) (hv : ∀ q ∈ R, q.2.length ≤ 2000000)
    (hB : Blk w b 27 #[.slice A R.length cap]) (hI : VRd w w.heap.size A R.length R) (hb : b0 ≤ w.heap.size) (hE : VEnv b0 w) :
    Calls Tryd.prog 22 #[.agg #[.string (bs x.1), .string (bs x.2)], .pointer (some ⟨b, 0, none⟩)] w fun e w' => e = .returned (.bool (p x.1)) ∧ Below w.heap.size w w' := by
  have hb1 : Below w.heap.size w (w.alloc (.cells #[.string (bs x.1), .string (bs x.2)] 26)) := (Below.refl _ _).alloc (Nat.le_refl _) _
  have HB1 := Lib.hid hb1
  have c0 := (hB.alloc (.cells #[.string (bs x.1), .string (bs x.2)] 26)).cell
  have cR := Lib.hid (round_ct (b := b0) A cap R x.1 (w.alloc (.cells #[.string (bs x.1), .string (bs x.2)] 26)) hn hU hv (hI.keep hb1 hb1.size) (Nat.le_trans hb hb1.size) (hE.on (hb1.mono hb)))
  have HP := Lib.hid (hp x.1)
  clear hb1 hB hI hE hv hU hn hp
  obtain ⟨xn, xv⟩ := x
  simp only at c0 cR HP HB1
  go_enter Tryd.func22, Tryd.ntmps22
  go_wp2_with (go_at_call 23; (with_reducible refine (cR.out).mono ?_); rintro e W1 ⟨⟨c, rfl, hc⟩, hb2⟩; have HC := Lib.hid hc; have HB2 := Lib.hid (HB1.out.trans (hb2.mono HB1.out.size)); clear hb2 hc)
  go_ret
  have hcp : c = p xn := by
    rw [Bool.eq_iff_iff]
    exact HC.out.trans HP.out.symm
  exact ⟨by rw [← hcp]; rfl, HB2.out⟩

theorem is_ct (x : Vr) (n : Bs) (b : Nat) (t : TypeId) (w : World) (hB : Blk w b t #[.string (bs n)]) :
    Calls Tryd.prog 29 #[.agg #[.string (bs x.1), .string (bs x.2)], .pointer (some ⟨b, 0, none⟩)] w fun e w' => e = .returned (.bool (decide (x.1 = n))) ∧ Below w.heap.size w w' := by
  have c0 := (hB.alloc (.cells #[.string (bs x.1), .string (bs x.2)] 26)).cell
  have hb := Lib.hid (show Below w.heap.size w (w.alloc (.cells #[.string (bs x.1), .string (bs x.2)] 26)) from (Below.refl _ _).alloc (Nat.le_refl _) _)
  have h2 : ((bs x.1).toList == (bs n).toList) = decide (x.1 = n) := by
    rw [bs_toList, bs_toList]
    by_cases h : x.1 = n <;> simp [h]
  generalize decide (x.1 = n) = c at *
  clear hB
  cases c
  · go_enter Tryd.func29, Tryd.ntmps29
    go_wp2_with fail
    go_ret
    exact ⟨rfl, hb.out⟩
  · go_enter Tryd.func29, Tryd.ntmps29
    go_wp2_with fail
    go_ret
    exact ⟨rfl, hb.out⟩

set_option maxRecDepth 100000 in
theorem among_ct {b : Nat} (A : Option Addr) (cap : Nat) (L : List Vr) (n : Bs) (w : World) (hn : L.length ≤ 1000000) (hB : Blk w b 27 #[.slice A L.length cap]) (hI : VRd w w.heap.size A L.length L) :
    Calls Tryd.prog 27 #[.string (bs n), .pointer (some ⟨b, 0, none⟩)] w fun e w' => e = .returned (.bool (L.any fun x => decide (x.1 = n))) ∧ Below w.heap.size w w' := by
  have hb1 : Below w.heap.size w (w.alloc (.cells #[.string (bs n)] 9)) := (Below.refl _ _).alloc (Nat.le_refl _) _
  have HB1 := Lib.hid hb1
  have c0 := (hB.alloc (.cells #[.string (bs n)] 9)).cell
  have HX := Lib.hid (Blk.new (w := w) (t := 9) (cs := #[.string (bs n)]) rfl)
  have cH := Lib.hid (vHas_ct (fun x => decide (x.1 = n)) 29 #[.pointer (some ⟨w.heap.size, 0, none⟩)] (fun args w => by kernel_rfl) A cap L hn (w.alloc (.cells #[.string (bs n)] 9)) (hI.keep hb1 hb1.size) (fun W y hy hW =>
    (is_ct y n w.heap.size _ W (HX.out.below hW (by simp))).mono fun e w' h => ⟨h.1, hW.trans (h.2.mono hW.size)⟩))
  generalize (L.any fun x => decide (x.1 = n)) = c at *
  clear hb1 hB hI hn
  go_enter Tryd.func27, Tryd.ntmps27
  go_wp2_with (go_at_call 28; (with_reducible refine (cH.out).mono ?_); rintro e W1 ⟨rfl, hb2⟩; have HB2 := Lib.hid (HB1.out.trans (hb2.mono HB1.out.size)); clear hb2)
  go_ret
  exact ⟨rfl, HB2.out⟩

set_option maxRecDepth 100000 in
theorem waits_ct {b0 b : Nat} (A : Option Addr) (cap : Nat) (L : List Vr) (x : Vr) (w : World) (hn : L.length ≤ 1000000) (hx : x.2.length ≤ 2000000) (hB : Blk w b 27 #[.slice A L.length cap]) (hI : VRd w w.heap.size A L.length L) (hb : b0 ≤ w.heap.size) (hE : VEnv b0 w) :
    Calls Tryd.prog 24 #[.agg #[.string (bs x.1), .string (bs x.2)], .pointer (some ⟨b, 0, none⟩)] w fun e w' => e = .returned (.bool (waitsP L x)) ∧ Below w.heap.size w w' := by
  have hb1 : Below w.heap.size w (w.alloc (.cells #[.string (bs x.1), .string (bs x.2)] 26)) := (Below.refl _ _).alloc (Nat.le_refl _) _
  have HB1 := Lib.hid hb1
  have cO := Lib.hid (on_ct x.2 hx (w.alloc (.cells #[.string (bs x.1), .string (bs x.2)] 26)) (hE _ (hb1.mono hb)).1 (hE _ (hb1.mono hb)).2)
  have hol : (onP x.2).length ≤ 2000000 := Nat.le_trans (Nat.le_trans (on_few _) (cut_few _)) hx
  have cH := Lib.hid (fun (A1 : Option Addr) (c1 : Nat) (W : World) (h : Below w.heap.size w W) (hr : SRd W W.heap.size A1 (onP x.2).length (onP x.2)) =>
    sHas_ct (fun n => L.any fun x => decide (x.1 = n)) 27 #[.pointer (some ⟨b, 0, none⟩)] (fun args w => by kernel_rfl) A1 c1 (onP x.2) (by omega) W hr (fun W2 y hy hW =>
      (among_ct A cap L y W2 hn (hB.below (h.trans (hW.mono h.size)) hB.lt) (hI.keep (h.trans (hW.mono h.size)) (h.trans (hW.mono h.size)).size)).mono fun e w' h => ⟨h.1, hW.trans (h.2.mono hW.size)⟩))
  have HW := Lib.hid (show ((onP x.2).any fun n => L.any fun x => decide (x.1 = n)) = waitsP L x from rfl)
  generalize hN : onP x.2 = N at *
  generalize waitsP L x = c at *
  clear hb1 hB hI hE hN hx
  obtain ⟨xn, xv⟩ := x
  simp only at cO cH HB1
  go_enter Tryd.func24, Tryd.ntmps24
  go_wp2_with (first
    | (go_at_call 26; (with_reducible refine (cO.out).mono ?_); rintro e W1 ⟨⟨A1, c1, rfl, hc1, hr1⟩, hb2⟩; have HB2 := Lib.hid (HB1.out.trans (hb2.mono HB1.out.size)); have HR1 := Lib.hid hr1; clear hb2 hr1)
    | (go_at_call 25; (with_reducible refine (cH.out _ _ _ HB2.out HR1.out).mono ?_); rintro e W2 ⟨rfl, hb3⟩; have HB3 := Lib.hid (HB2.out.trans (hb3.mono HB2.out.size)); clear hb3))
  go_ret
  exact ⟨by rw [← HW.out]; rfl, HB3.out⟩

end Go.Proofs.YtmjbaimccbkmpaaDoor.vrs

namespace Go.Proofs.YtmjbaimccbkmpaaDoor.vrs
open Go.RowKit Go.Proofs.YtmjbaimccbkmpaaDoor.base Go.Proofs.YtmjbaimccbkmpaaDoor.tok Go.Proofs.YtmjbaimccbkmpaaDoor.rul
set_option linter.unusedVariables false

def addK (K : List Vr) (v : Vr) : List Vr := if (fillP K v.2).2 then K ++ [(v.1, (fillP K v.2).1)] else K
def inStep (L : List Vr) (s : List Vr × List Vr) (v : Vr) : List Vr × List Vr := if waitsP L v then (s.1, s.2 ++ [v]) else (addK s.1 v, s.2)
def inP (L K : List Vr) : List Vr × List Vr := L.foldl (inStep L) (K, [])
def resF : Nat → List Vr → List Vr → List Vr
  | 0, K, _ => K
  | d + 1, K, L => if L = [] then K else resF d (inP L K).1 (inP L K).2
def outP (K R : List Vr) : List Vr := R.filterMap fun v => (lastP K v.1).map fun s => (v.1, s)
def leftP (p : Bs → Bool) (R : List Vr) : List Vr := R.filter fun v => !p v.1
def resP (p : Bs → Bool) (R : List Vr) : List Vr := outP (resF (leftP p R).length [] (leftP p R)) R
def Mix (L : List Vr) : Prop := ∀ M : List Vr, M.Sublist L → M ≠ [] → ∃ v ∈ M, waitsP M v = false
theorem res_nil (d : Nat) (K : List Vr) : resF d K [] = K := by cases d <;> rfl
theorem res_cons {d : Nat} {K L : List Vr} (h : L ≠ []) : resF (d + 1) K L = resF d (inP L K).1 (inP L K).2 := by rw [resF, if_neg h]
theorem in_next (L : List Vr) : ∀ (M K N : List Vr), (M.foldl (inStep L) (K, N)).2 = N ++ M.filter (waitsP L)
  | [], K, N => by simp
  | v :: M, K, N => by
    rw [List.foldl_cons, inStep, List.filter_cons]
    by_cases h : waitsP L v = true
    · rw [if_pos h, if_pos h, in_next L M, List.append_assoc]; rfl
    · rw [if_neg h, if_neg h, in_next L M]
theorem inP_sub (L K : List Vr) : (inP L K).2.Sublist L := by
  unfold inP
  rw [in_next, List.nil_append]
  exact List.filter_sublist
theorem inP_less {L : List Vr} (K : List Vr) (h : Mix L) (h0 : L ≠ []) : (inP L K).2.length < L.length := by
  obtain ⟨v, hv, hw⟩ := h L (List.Sublist.refl _) h0
  unfold inP
  rw [in_next, List.nil_append]
  rcases Nat.lt_or_ge (L.filter (waitsP L)).length L.length with h1 | h1
  · exact h1
  · have h2 : L.filter (waitsP L) = L := List.filter_sublist.eq_of_length_le h1
    have h3 := List.filter_eq_self.1 h2 v hv
    rw [hw] at h3
    cases h3
theorem Mix.sub {L M : List Vr} (h : Mix L) (hs : M.Sublist L) : Mix M := fun M2 h2 h3 => h M2 (h2.trans hs) h3
theorem in_yes {L K N : List Vr} {E2 : List Vr × List Vr} {i : Nat} {v : Vr} (hv : L[i]? = some v) (h : (L.drop i).foldl (inStep L) (K, N) = E2) (hw : waitsP L v = true) : (L.drop (i + 1)).foldl (inStep L) (K, N ++ [v]) = E2 := by
  obtain ⟨hl, he⟩ := List.getElem?_eq_some_iff.1 hv
  rw [List.drop_eq_getElem_cons hl, he, List.foldl_cons, inStep, if_pos hw] at h
  exact h
theorem in_no {L K N : List Vr} {E2 : List Vr × List Vr} {i : Nat} {v : Vr} (hv : L[i]? = some v) (h : (L.drop i).foldl (inStep L) (K, N) = E2) (hw : waitsP L v = false) : (L.drop (i + 1)).foldl (inStep L) (addK K v, N) = E2 := by
  obtain ⟨hl, he⟩ := List.getElem?_eq_some_iff.1 hv
  rw [List.drop_eq_getElem_cons hl, he, List.foldl_cons, inStep, hw] at h
  exact h
theorem addK_is {K : List Vr} {v : Vr} {r : Bs} (h : fillP K v.2 = (r, true)) : addK K v = K ++ [(v.1, r)] := by unfold addK; rw [h]; rfl
theorem addK_not {K : List Vr} {v : Vr} {r : Bs} (h : fillP K v.2 = (r, false)) : addK K v = K := by unfold addK; rw [h]; rfl
theorem out_yes {K R : List Vr} {i : Nat} {v : Vr} {s : Bs} (hv : R[i]? = some v) (h : lastP K v.1 = some s) : outP K (R.drop i) = (v.1, s) :: outP K (R.drop (i + 1)) := by
  obtain ⟨hl, he⟩ := List.getElem?_eq_some_iff.1 hv
  rw [List.drop_eq_getElem_cons hl, he]
  unfold outP
  rw [List.filterMap_cons, h]
  rfl
theorem out_no {K R : List Vr} {i : Nat} {v : Vr} (hv : R[i]? = some v) (h : lastP K v.1 = none) : outP K (R.drop i) = outP K (R.drop (i + 1)) := by
  obtain ⟨hl, he⟩ := List.getElem?_eq_some_iff.1 hv
  rw [List.drop_eq_getElem_cons hl, he]
  unfold outP
  rw [List.filterMap_cons, h]
  rfl

/-! ### rows beside each other -/
def NB (a b : Value) : Prop := a.ownBlock = none ∨ a.ownBlock ≠ b.ownBlock
theorem NB.nil (b : Value) : NB (.slice none 0 0) b := .inl rfl
theorem NB.nil' (a : Value) : NB a (.slice none 0 0) := by
  unfold NB
  cases h : a.ownBlock with
  | none => exact .inl rfl
  | some g => exact .inr (fun e => by cases e)
theorem NB.new {w : World} {base n : Nat} {e : TypeId} {k : Nat} {a b b' : Value} {xs : List Value} (h : NB a b) {m : Nat} (ha : w.ownsRow base e k a n xs) (hm : w.heap.size ≤ m) (hb : b'.ownBlock = b.ownBlock ∨ b'.ownBlock = some m) : NB a b' := by
  rcases h with h | h
  · exact .inl h
  · rcases hb with hb | hb
    · exact .inr (by rw [hb]; exact h)
    · refine .inr fun e1 => ?_
      have := (ha.lt _ (e1.trans hb)).2
      omega
theorem NB.new' {w : World} {base n : Nat} {e : TypeId} {k : Nat} {a b b' : Value} {xs : List Value} (h : NB b a) {m : Nat} (ha : w.ownsRow base e k a n xs) (hm : w.heap.size ≤ m) (hb : b'.ownBlock = b.ownBlock ∨ b'.ownBlock = some m) : NB b' a := by
  rcases hb with hb | hb
  · rcases h with h | h
    · exact .inl (hb.trans h)
    · exact .inr (by rw [hb]; exact h)
  · refine .inr fun e1 => ?_
    have := (ha.lt _ (e1.symm.trans hb)).2
    omega

def InnRel (Lb : Nat) (W3 : World) (L : List Vr) (E : List Vr × List Vr) (vL : Value) (vK vN x : Value) (wr : World) : Prop :=
  ∃ (i : Nat) (K N : List Vr), i ≤ L.length ∧ x = .int .i64 i ∧ (L.drop i).foldl (inStep L) (K, N) = E ∧ K.length + N.length + (L.length - i) ≤ 20 ∧ (∀ p ∈ K, p.2.length ≤ 400) ∧
    wr.ownsRow (Lb + 1) 26 2 vK K.length (flatR vc K) ∧ wr.ownsRow (Lb + 1) 26 2 vN N.length (flatR vc N) ∧ wr.ownsRow 0 26 2 vL L.length (flatR vc L) ∧
    Blk wr Lb 27 #[vL] ∧ NB vK vN ∧ NB vN vK ∧ NB vL vK ∧ NB vL vN ∧ Below W3.heap.size W3 wr ∧ Lb + 1 ≤ wr.heap.size
def OutRel (Lb : Nat) (W3 : World) (L0 : List Vr) (Kz : List Vr) (g : Nat) (vK : Value) (wr : World) : Prop :=
  ∃ (d : Nat) (K L : List Vr) (vL : Value), L.length ≤ d ∧ L.length < g ∧ resF d K L = Kz ∧ L.Sublist L0 ∧ K.length + L.length ≤ 20 ∧ (∀ p ∈ K, p.2.length ≤ 400) ∧
    wr.ownsRow (Lb + 1) 26 2 vK K.length (flatR vc K) ∧ wr.ownsRow 0 26 2 vL L.length (flatR vc L) ∧ Blk wr Lb 27 #[vL] ∧ vL.ownBlock ≠ some Lb ∧ NB vL vK ∧ Below W3.heap.size W3 wr ∧ Lb + 1 ≤ wr.heap.size
def FinRel (Lb : Nat) (W3 : World) (K R F : List Vr) (vK : Value) (vO x : Value) (wr : World) : Prop :=
  ∃ (i : Nat) (O : List Vr), i ≤ R.length ∧ x = .int .i64 i ∧ O.length ≤ i ∧ O ++ outP K (R.drop i) = F ∧ wr.ownsRow (Lb + 1) 26 2 vK K.length (flatR vc K) ∧ wr.ownsRow (Lb + 1) 26 2 vO O.length (flatR vc O) ∧ NB vK vO ∧ Below W3.heap.size W3 wr ∧ Lb + 1 ≤ wr.heap.size

end Go.Proofs.YtmjbaimccbkmpaaDoor.vrs

namespace Go.Proofs.YtmjbaimccbkmpaaDoor.vrs
open Go.RowKit Go.Proofs.YtmjbaimccbkmpaaDoor.base Go.Proofs.YtmjbaimccbkmpaaDoor.tok Go.Proofs.YtmjbaimccbkmpaaDoor.rul
set_option linter.unusedVariables false

theorem cnt_mem {V : List Vr} : ∀ x ∈ cntP V, x ∈ V := by
  have step : ∀ (out : List Vr) (v x : Vr), x ∈ cntStep out v → x ∈ out ∨ x = v := by
    intro out v x hx
    unfold cntStep at hx
    split at hx
    · split at hx
      · exact List.mem_or_eq_of_mem_set hx
      · split at hx
        · rcases List.mem_append.1 hx with h | h
          · exact .inl h
          · exact .inr (List.mem_singleton.1 h)
        · exact .inl hx
    · exact .inl hx
  have key : ∀ (V out : List Vr) (x : Vr), x ∈ V.foldl cntStep out → x ∈ out ∨ x ∈ V := by
    intro V
    induction V with
    | nil => exact fun out x h => .inl h
    | cons v V ih =>
      intro out x h
      rcases ih _ x h with h | h
      · rcases step out v x h with h | h
        · exact .inl h
        · exact .inr (h ▸ List.mem_cons_self ..)
      · exact .inr (List.mem_cons_of_mem _ h)
  intro x hx
  rcases key V [] x hx with h | h
  · cases h
  · exact h
theorem allOn_len {m : Nat} : ∀ {R : List Vr}, (∀ q ∈ R, q.2.length ≤ m) → (allOn R).length ≤ R.length * m
  | [], h => Nat.zero_le _
  | x :: R, h => by
    have h1 := allOn_len (fun q hq => h q (List.mem_cons_of_mem _ hq))
    have h2 := Nat.le_trans (Nat.le_trans (on_few _) (cut_few x.2)) (h x (List.mem_cons_self ..))
    unfold allOn at h1 ⊢
    rw [List.flatMap_cons, List.length_append, List.length_cons, Nat.add_mul]
    have h3 : (onP x.2).length ≤ m := h2
    omega

theorem row_vr {w : World} {base n cap : Nat} {A : Option Addr} {L : List Vr} (h : w.ownsRow base 26 2 (.slice A n cap) n (flatR vc L)) (hn : L.length = n := by rfl) : VRd w w.heap.size A n L := by
  obtain ⟨A', c', he, hc, hg⟩ := row_vrd hn h
  injection he with h1 h2 h3
  subst h1
  exact hg

set_option maxRecDepth 100000 in
set_option maxHeartbeats 8000000 in
theorem resolve_ct {b0 : Nat} (p : Bs → Bool) (A : Option Addr) (cap : Nat) (V : List Vr) (w : World) (hn : V.length ≤ 1000000) (hp : ∀ n, p n = true ↔ Ring (cntP V) n) (hMix : Mix (leftP p (cntP V))) (hv : ∀ q ∈ V, q.2.length ≤ 1100000) (hI : VRd w w.heap.size A V.length V) (hb : b0 ≤ w.heap.size) (hE : VEnv b0 w) :
    Calls Tryd.prog 10 #[.slice A V.length cap] w fun e w' => (∃ A' cap', e = .returned (.slice A' (resP p (cntP V)).length cap') ∧ (resP p (cntP V)).length ≤ cap' ∧ VRd w' w'.heap.size A' (resP p (cntP V)).length (resP p (cntP V))) ∧ Below w.heap.size w w' := by
  obtain ⟨i0, hi, hz0, hz1, hz2⟩ := info_parts infoV
  have Hz0 := Lib.hid hz0
  have Hi := Lib.hid hi
  have Hz1 := Lib.hid hz1
  have Hz2 := Lib.hid hz2
  clear hz0 hi hz1 hz2
  have cC := Lib.hid (counted_ct A cap V hn w hI)
  have hRv : ∀ q ∈ cntP V, q.2.length ≤ 1100000 := fun q hq => hv q (cnt_mem q hq)
  have hRl := cntP_len V
  generalize cntP V = R at *
  have hRU : (allOn R).length ≤ 50000000 := by
    have := allOn_len hRv
    have h2 : R.length * 1100000 ≤ 20 * 1100000 := Nat.mul_le_mul_right _ hRl
    omega
  have HRv := Lib.hid hRv
  have cD := Lib.hid (fun (A1 : Option Addr) (c1 : Nat) (W1 W2 : World) (v : Value) (h0 : Below w.heap.size w W1) (hr : VRd W1 W1.heap.size A1 R.length R) (hw : Below (W1.alloc (.cells #[.slice A1 R.length c1] 27)).heap.size (W1.alloc (.cells #[.slice A1 R.length c1] 27)) W2) (hrow : W2.ownsRow (W1.alloc (.cells #[.slice A1 R.length c1] 27)).heap.size 26 2 v R.length (flatR vc R)) =>
    del_ct (fun x => p x.1) 22 #[.pointer (some ⟨W1.heap.size, 0, none⟩)] (fun args w => by kernel_rfl) v R (by omega) (W1.alloc (.cells #[.slice A1 R.length c1] 27)) W2 hw hrow (fun W x hx hW => by
      have h1 : Below W1.heap.size W1 (W1.alloc (.cells #[.slice A1 R.length c1] 27)) := (Below.refl _ _).alloc (Nat.le_refl _) _
      have h2 : Below W1.heap.size W1 W := h1.trans (hW.mono h1.size)
      have h3 : Below w.heap.size w W := h0.trans (h2.mono h0.size)
      exact ringed_ct (b0 := b0) p A1 c1 R x W hp (by omega) hRU (fun q hq => Nat.le_trans (hRv q hq) (by omega)) (Blk.below (Blk.new rfl) hW (by simp)) (hr.keep h2 h2.size) (Nat.le_trans hb h3.size) (hE.on (h3.mono hb))))
  have HE := Lib.hid (fun W (h : Below w.heap.size w W) => hE.on (h.mono hb))
  have HB := Lib.hid hb
  have hfil : (R.filter fun x => !(fun x : Vr => p x.1) x) = leftP p R := rfl
  rw [hfil] at cD
  have HF := Lib.hid (show outP (resF (leftP p R).length [] (leftP p R)) R = resP p R from rfl)
  have hL0 : (leftP p R).length ≤ R.length := List.length_filter_le _ _
  have HLv := Lib.hid (show ∀ q ∈ leftP p R, q.2.length ≤ 1100000 from fun q hq => hRv q (List.mem_filter.1 hq).1)
  generalize leftP p R = L0 at *
  generalize resP p R = F at *
  have HMix := Lib.hid hMix
  clear hI hv hp hRv hRU hE hMix hb hfil hn
  go_enter Tryd.func10, Tryd.ntmps10
  go_wp2_with (first
    | (go_at_call 19; (with_reducible refine (cC.out).mono ?_); rintro e W1 ⟨⟨A1, c1, rfl, hc1, hr1⟩, hb1⟩; have HB1 := Lib.hid hb1; have HR1 := Lib.hid hr1; have cCl := Lib.hid (clone_ct A1 c1 R (by omega) (W1.alloc (.cells #[.slice A1 R.length c1] 27)) (hr1.keep ((Below.refl _ _).alloc (Nat.le_refl _) _) (by simp))); clear hb1 hr1)
    | (go_at_call 21; (with_reducible refine (cCl.out).mono ?_); rintro e W2 ⟨⟨v2, rfl, hr2⟩, hb2⟩; have cDD := Lib.hid (cD.out A1 c1 W1 W2 v2 HB1.out HR1.out hb2 hr2); clear hb2 hr2)
    | (go_at_call 20; (with_reducible refine (cDD.out).mono ?_); rintro e W3 ⟨⟨v3, rfl, hr3⟩, hb3⟩; obtain ⟨A3, c3, rfl⟩ := row_form hr3; have HR3 := Lib.hid hr3; have HB3 := Lib.hid hb3; clear hr3 hb3))
  have HW3 := Lib.hid (show Below w.heap.size w W3 from by
    have h1 : Below w.heap.size w (W1.alloc (.cells #[.slice A1 R.length c1] 27)) := HB1.out.alloc HB1.out.size _
    exact h1.trans (HB3.out.mono h1.size))
  have HAb := Lib.hid (show Blk W3 W1.heap.size 27 #[.slice A1 R.length c1] from Blk.below (Blk.new rfl) HB3.out (by simp))
  have HRr := Lib.hid (show VRd W3 W3.heap.size A1 R.length R from by
    have h1 : Below W1.heap.size W1 (W1.alloc (.cells #[.slice A1 R.length c1] 27)) := (Below.refl _ _).alloc (Nat.le_refl _) _
    have h2 : Below W1.heap.size W1 W3 := h1.trans (HB3.out.mono h1.size)
    exact HR1.out.keep h2 h2.size)
  have HL3 := Lib.hid (show W3.ownsRow 0 26 2 (.slice A3 L0.length c3) L0.length (flatR vc L0) from by
    refine ⟨HR3.out.1, ?_⟩
    rcases HR3.out.2 with hn | ⟨g, cap, cur, h1, h2, h3⟩
    · exact .inl hn
    · exact .inr ⟨g, cap, cur, h1, Nat.zero_le _, h3⟩)
  have hLb : (Value.slice A3 L0.length c3).ownBlock ≠ some W3.heap.size := fun e => by
    have := (HL3.out.lt _ e).2
    omega
  have hAl : W1.heap.size < W3.heap.size := HAb.out.lt
  clear cC cD HB1 HB3 HR3 HR1
  go_loopg [4] (L0.length + 1) (fun g vK wr => OutRel W3.heap.size W3 L0 (resF L0.length [] L0) g vK wr)
  case atStart => exact ⟨L0.length, [], L0, _, Nat.le_refl _, Nat.lt_succ_self _, rfl, List.Sublist.refl _, by simp; omega, (fun p h => by cases h), World.ownsRow_nil _ _ _ _, HL3.out.alloc _, Blk.new rfl, hLb, NB.nil' _, (Below.refl _ _).alloc (Nat.le_refl _) _, by simp⟩
  case round =>
    obtain ⟨d, K, L, vL, hd, hg, hres, hsub, hKL, hKv, hrK, hrL, hbL, hne, hnb, hbel, hsz⟩ := hrel
    obtain ⟨AK, cK, rfl⟩ := row_form hrK
    obtain ⟨AL, cL, rfl⟩ := row_form hrL
    have HrK := Lib.hid hrK
    have HrL := Lib.hid hrL
    have HbL := Lib.hid hbL
    have HBl := Lib.hid hbel
    have HRes := Lib.hid hres
    have HSub := Lib.hid hsub
    have HKv := Lib.hid hKv
    have HNb := Lib.hid hnb
    have HNe := Lib.hid hne
    have c0 := hbL.cell
    clear hres hsub hKv hrK hrL hbL hne hnb hbel HL3 hLb
    by_cases hL : L = []
    · subst hL
      have HK := Lib.hid ((res_nil d K).symm.trans HRes.out)
      simp only [List.length_nil] at c0
      have HFin := Lib.hid (show outP K R = F by rw [HK.out]; exact HF.out)
      have d0 := (HAb.out.below HBl.out hAl).cell
      have HBw := Lib.hid (HW3.out.trans (HBl.out.mono HW3.out.size))
      clear HSub HRes HNb HNe HK HF hg hd
      go_wp2_with fail
      clear d0 c0
      go_loopw [12, 59] (fun vO x wr => FinRel W3.heap.size W3 K R F (.slice AK K.length cK) vO x wr) (fun _ x _ => R.length - (intOf x).toNat)
      case atStart => exact ⟨0, [], Nat.zero_le _, rfl, Nat.zero_le _, HFin.out, HrK.out, World.ownsRow_nil _ _ _ _, NB.nil' _, HBl.out, hsz⟩
      case round =>
        obtain ⟨i, O, hil, rfl, hol, hinv, hrK2, hrO2, hnb2, hbel2, hsz2⟩ := hrel
        obtain ⟨AO, cO, rfl⟩ := row_form hrO2
        have HrK2 := Lib.hid hrK2
        have HrO2 := Lib.hid hrO2
        have HBl2 := Lib.hid hbel2
        have HInv := Lib.hid hinv
        have HNb2 := Lib.hid hnb2
        have hrR := HRr.out.keep hbel2 hbel2.size
        clear hinv hrK2 hrO2 hnb2 hbel2 HBl HrK HrL HbL HBw HFin
        by_cases hlt : i < R.length
        · have hlt' : (i : Int) < (R.length : Int) := by omega
          obtain ⟨b, off, x, rfl, hbb, hd, c0, c1⟩ := VRd.var hrR hlt
          have HD := Lib.hid hd
          have HB3 := Lib.hid (HBl2.out.alloc HBl2.out.size (.cells #[.string (bs x.1), .string (bs x.2)] 26))
          have HX := Lib.hid (Blk.new (w := wr) (t := 26) (cs := #[.string (bs x.1), .string (bs x.2)]) rfl)
          have HrK3 := Lib.hid (HrK2.out.alloc (.cells #[.string (bs x.1), .string (bs x.2)] 26))
          have HrO3 := Lib.hid (HrO2.out.alloc (.cells #[.string (bs x.1), .string (bs x.2)] 26))
          have cL := Lib.hid (last_ct AK cK K (by omega) x.1 (wr.alloc (.cells #[.string (bs x.1), .string (bs x.2)] 26)) (row_vr HrK3.out))
          clear hrR hd
          cases hq : lastP K x.1 with
          | none =>
            rw [hq] at cL
            have HIn := Lib.hid (show O ++ outP K (R.drop (i + 1)) = F by rw [← HInv.out, out_no HD.out hq])
            clear hq
            obtain ⟨xn, xv⟩ := x
            simp only at c0 c1 cL HB3 HX HrK3 HrO3
            go_wp2_with (go_at_call 30; (with_reducible refine (cL.out).mono ?_); rintro e W4 ⟨rfl, hb4⟩; have HB4 := Lib.hid (HB3.out.trans (hb4.mono HB3.out.size)); have HrK4 := Lib.hid (row_on HrK3.out hb4); have HrO4 := Lib.hid (row_on HrO3.out hb4); have hsz4 : W3.heap.size + 1 ≤ W4.heap.size := Nat.le_trans hsz2 (Nat.le_trans (by simp) hb4.size); clear hb4 c0 c1)
            go_roundw
            case rel => exact ⟨i + 1, O, by omega, by go_num, by omega, HIn.out, HrK4.out, HrO4.out, HNb2.out, HB4.out, hsz4⟩
            case measure => simp [intOf]; omega
          | some s =>
            rw [hq] at cL
            have HIn := Lib.hid (show (O ++ [(x.1, s)]) ++ outP K (R.drop (i + 1)) = F by rw [← HInv.out, out_yes HD.out hq, List.append_assoc]; rfl)
            clear hq
            obtain ⟨xn, xv⟩ := x
            simp only at c0 c1 cL HB3 HX HIn HrK3 HrO3
            go_wp2_with (first
              | (go_at_call 30; (with_reducible refine (cL.out).mono ?_); rintro e W4 ⟨rfl, hb4⟩; have HB4 := Lib.hid (HB3.out.trans (hb4.mono HB3.out.size)); have HrK4 := Lib.hid (row_on HrK3.out hb4); have HrO4 := Lib.hid (row_on HrO3.out hb4); have cX := (HX.out.below hb4 (by simp)).cell; have hsz4 : W3.heap.size + 1 ≤ W4.heap.size := Nat.le_trans hsz2 (Nat.le_trans (by simp) hb4.size); clear hb4 c0 c1)
              | (at_builtin; refine wpList_append_own_at _ rfl _ _ 27 rfl (W3.heap.size + 1) 26 i0 (.agg #[.string .empty, .string .empty]) 2 32 Tryd.underlying27 Hi.out Hz0.out Hz1.out Hz2.out rfl (by decide) _ _ _ rfl (HrO4.out.alloc _) ⟨W4.heap.size, 0, none⟩ 1 1 [.string (bs xn), .string (bs s)] rfl rfl ?c1 ?c2 ?c3 ?c4 ?c5 ?_))
            case c1 => exact (Blk.new (w := W4) (t := 26) (cs := #[.string (bs xn), .string (bs s)]) rfl).news
            case c2 => simp [Value.oneCell']
            case c3 => unfold maxLen; omega
            case c4 => omega
            case c5 => simp; omega
            intro v' w6 hown6 hgrow6 hnil6 hblk6
            have HrK6 := Lib.hid ((HrK4.out.alloc (.cells #[.string (bs xn), .string (bs s)] 26)).kept hgrow6 HNb2.out)
            have HB6 := Lib.hid (below_app (HB4.out.alloc HB4.out.size (.cells #[.string (bs xn), .string (bs s)] 26)) hgrow6 (HrO4.out.alloc _) (Nat.le_succ _) (by simp; omega))
            have M1 := Lib.hid (HNb2.out.new HrK4.out (Nat.le_succ _) hblk6)
            have hsz6 : W3.heap.size + 1 ≤ w6.heap.size := Nat.le_trans hsz4 (Nat.le_trans (by simp) hgrow6.size)
            obtain ⟨g', cap', rfl⟩ := row_form hown6
            rw [show flatR vc O ++ [Value.string (bs xn), Value.string (bs s)] = flatR vc (O ++ [(xn, s)]) from flat_snoc O (xn, s)] at hown6
            replace hown6 := Lib.hid hown6
            clear hgrow6 hnil6 hblk6
            go_wp2
            go_roundw
            case rel => exact ⟨i + 1, O ++ [(xn, s)], by omega, by go_num, by simp; omega, HIn.out, HrK6.out, by simpa using hown6.out, M1.out, HB6.out, hsz6⟩
            case measure => simp [intOf]; omega
        · obtain rfl : i = R.length := by omega
          have HFin := Lib.hid (show O = F by rw [← HInv.out, List.drop_length]; exact (List.append_nil _).symm)
          clear hrR
          go_wp2_with fail
          go_ret
          obtain rfl := HFin.out
          obtain ⟨A', c', he, hc, hgd⟩ := row_vrd rfl HrO2.out
          injection he with h1 h2 h3
          subst h1 h3
          exact ⟨⟨AO, cO, rfl, hc, hgd⟩, HW3.out.trans (HBl2.out.mono HW3.out.size)⟩
    · have hL0 : 0 < L.length := List.length_pos_iff.2 hL
      have hL0' : (0 : Int) < (L.length : Int) := by omega
      obtain ⟨d', rfl⟩ : ∃ d', d = d' + 1 := ⟨d - 1, by omega⟩
      have HRes2 := Lib.hid ((res_cons hL).symm.trans HRes.out)
      have HLess := Lib.hid (inP_less K (HMix.out.sub HSub.out) hL)
      have HSub2 := Lib.hid ((inP_sub L K).trans HSub.out)
      have HLv2 := Lib.hid (show ∀ q ∈ L, q.2.length ≤ 1100000 from fun q hq => HLv.out q (HSub.out.subset hq))
      have HIn := Lib.hid (show L.foldl (inStep L) (K, []) = inP L K from rfl)
      generalize hEE : inP L K = E at *
      clear hL hEE
      go_wp2_with fail
      go_loopw [4, 7, 29] (fun vK vN x wr => InnRel W3.heap.size W3 L E (.slice AL L.length cL) vK vN x wr) (fun _ _ x _ => L.length - (intOf x).toNat)
      case atStart => exact ⟨0, K, [], Nat.zero_le _, rfl, HIn.out, by simp; omega, HKv.out, HrK.out, World.ownsRow_nil _ _ _ _, HrL.out, HbL.out, NB.nil' _, NB.nil _, HNb.out, NB.nil' _, HBl.out, hsz⟩
      case round =>
        obtain ⟨i, K2, N2, hil, rfl, hin, hlen, hKv2, hrK2, hrN2, hrL2, hbL2, n1, n2, n3, n4, hbel2, hsz2⟩ := hrel
        obtain ⟨AK2, cK2, rfl⟩ := row_form hrK2
        obtain ⟨AN2, cN2, rfl⟩ := row_form hrN2
        have HrK2 := Lib.hid hrK2
        have HrN2 := Lib.hid hrN2
        have HrL2 := Lib.hid hrL2
        have HbL2 := Lib.hid hbL2
        have HBl2 := Lib.hid hbel2
        have HIn2 := Lib.hid hin
        have HKv2 := Lib.hid hKv2
        have N1 := Lib.hid n1
        have N2' := Lib.hid n2
        have N3 := Lib.hid n3
        have N4 := Lib.hid n4
        have HBw := Lib.hid (HW3.out.trans (hbel2.mono HW3.out.size))
        obtain ⟨A', c', he, hcL, hrdL⟩ := row_vrd rfl hrL2
        injection he with h1 h2 h3
        subst h1 h3
        clear h2
        clear hin hKv2 hrK2 hrN2 hrL2 hbL2 n1 n2 n3 n4 hbel2 HBl HbL HrL HrK HIn HKv HNb c0
        by_cases hlt : i < L.length
        · have hlt' : (i : Int) < (L.length : Int) := by omega
          obtain ⟨b, off, x, rfl, hbb, hd, c0, c1⟩ := VRd.var hrdL hlt
          have HD := Lib.hid hd
          have hxl := HLv2.out x (List.mem_of_getElem? hd)
          have HB3 := Lib.hid (HBl2.out.alloc HBl2.out.size (.cells #[.string (bs x.1), .string (bs x.2)] 26))
          have hwa : Below wr.heap.size wr (wr.alloc (.cells #[.string (bs x.1), .string (bs x.2)] 26)) := (Below.refl _ _).alloc (Nat.le_refl _) _
          have cW := Lib.hid (waits_ct (b0 := b0) (b := W3.heap.size) (some ⟨b, off, none⟩) cL L x (wr.alloc (.cells #[.string (bs x.1), .string (bs x.2)] 26)) (by omega) (by omega) (HbL2.out.alloc _) (hrdL.keep hwa hwa.size) (Nat.le_trans HB.out (Nat.le_trans HBw.out.size hwa.size)) (HE.out _ (HBw.out.trans (hwa.mono HBw.out.size))))
          have HX := Lib.hid (Blk.new (w := wr) (t := 26) (cs := #[.string (bs x.1), .string (bs x.2)]) rfl)
          clear hd hrdL hwa
          cases hq : waitsP L x
          · rw [hq] at cW
            have hin3 := in_no HD.out HIn2.out hq
            have cF := Lib.hid (fun (W : World) (h : Below w.heap.size w W) (hr : VRd W W.heap.size AK2 K2.length K2) => fill_ct (b := b0) (V := K2) (by omega) (fun q hq => Nat.le_trans (HKv2.out q hq) (by omega)) x.2 (by omega) AK2 cK2 W hr (Nat.le_trans HB.out h.size) (HE.out W h))
            obtain ⟨r, is, hfi⟩ : ∃ r is, fillP K2 x.2 = (r, is) := ⟨_, _, rfl⟩
            rw [hfi] at cF
            clear hq
            obtain ⟨xn, xv⟩ := x
            simp only at c0 c1 cW HB3 HX hxl cF hfi
            cases is
            · rw [addK_not hfi] at hin3
              have HIn3 := Lib.hid hin3
              clear hin3 hfi
              go_wp2_with (first
                | (go_at_call 24; (with_reducible refine (cW.out).mono ?_); rintro e W4 ⟨rfl, hb4⟩; have HB4 := Lib.hid (HB3.out.trans (hb4.mono HB3.out.size)); have HrK4 := Lib.hid (row_on (HrK2.out.alloc _) hb4); have HrN4 := Lib.hid (row_on (HrN2.out.alloc _) hb4); have HrL4 := Lib.hid (row_on (HrL2.out.alloc _) hb4); have HbL4 := Lib.hid ((HbL2.out.alloc _).below hb4 (HbL2.out.alloc _).lt); have cX := (HX.out.below hb4 (by simp)).cell; have hsz4 : W3.heap.size + 1 ≤ W4.heap.size := Nat.le_trans hsz2 (Nat.le_trans (by simp) hb4.size); have cF4 := Lib.hid (cF.out W4 (HW3.out.trans (HB4.out.mono HW3.out.size)) (row_vr HrK4.out)); clear hb4 c0 c1)
                | (go_at_call 8; (with_reducible refine (cF4.out).mono ?_); rintro e W5 ⟨rfl, hb5⟩; have HB5 := Lib.hid (HB4.out.trans (hb5.mono HB4.out.size)); have HrK5 := Lib.hid (row_on HrK4.out hb5); have HrN5 := Lib.hid (row_on HrN4.out hb5); have HrL5 := Lib.hid (row_on HrL4.out hb5); have HbL5 := Lib.hid (HbL4.out.below hb5 HbL4.out.lt); have hsz5 : W3.heap.size + 1 ≤ W5.heap.size := Nat.le_trans hsz4 hb5.size; clear hb5))
              go_roundw
              case rel => exact ⟨i + 1, K2, N2, by omega, by go_num, HIn3.out, by omega, HKv2.out, HrK5.out, HrN5.out, HrL5.out, HbL5.out, N1.out, N2'.out, N3.out, N4.out, HB5.out, hsz5⟩
              case measure => simp [intOf]; omega
            · rw [addK_is hfi] at hin3
              have HIn3 := Lib.hid hin3
              have hrl : r.length ≤ 400 := fillF_true hfi
              have HKv3 := Lib.hid (show ∀ q ∈ K2 ++ [(xn, r)], q.2.length ≤ 400 from fun q hq => by
                rcases List.mem_append.1 hq with h | h
                · exact HKv2.out q h
                · rw [List.mem_singleton.1 h]; exact hrl)
              clear hin3 hfi
              go_wp2_with (first
                | (go_at_call 24; (with_reducible refine (cW.out).mono ?_); rintro e W4 ⟨rfl, hb4⟩; have HB4 := Lib.hid (HB3.out.trans (hb4.mono HB3.out.size)); have HrK4 := Lib.hid (row_on (HrK2.out.alloc _) hb4); have HrN4 := Lib.hid (row_on (HrN2.out.alloc _) hb4); have HrL4 := Lib.hid (row_on (HrL2.out.alloc _) hb4); have HbL4 := Lib.hid ((HbL2.out.alloc _).below hb4 (HbL2.out.alloc _).lt); have HX4 := Lib.hid (HX.out.below hb4 (by simp)); have cX := HX4.out.cell; have hsz4 : W3.heap.size + 1 ≤ W4.heap.size := Nat.le_trans hsz2 (Nat.le_trans (by simp) hb4.size); have cF4 := Lib.hid (cF.out W4 (HW3.out.trans (HB4.out.mono HW3.out.size)) (row_vr HrK4.out)); clear hb4 c0 c1)
                | (go_at_call 8; (with_reducible refine (cF4.out).mono ?_); rintro e W5 ⟨rfl, hb5⟩; have HB5 := Lib.hid (HB4.out.trans (hb5.mono HB4.out.size)); have HrK5 := Lib.hid (row_on HrK4.out hb5); have HrN5 := Lib.hid (row_on HrN4.out hb5); have HrL5 := Lib.hid (row_on HrL4.out hb5); have HbL5 := Lib.hid (HbL4.out.below hb5 HbL4.out.lt); have cY := (HX4.out.below hb5 HX4.out.lt).cell; have hsz5 : W3.heap.size + 1 ≤ W5.heap.size := Nat.le_trans hsz4 hb5.size; clear hb5 cX)
                | (at_builtin; refine wpList_append_own_at _ rfl _ _ 27 rfl (W3.heap.size + 1) 26 i0 (.agg #[.string .empty, .string .empty]) 2 32 Tryd.underlying27 Hi.out Hz0.out Hz1.out Hz2.out rfl (by decide) _ _ _ rfl (HrK5.out.alloc _) ⟨W5.heap.size, 0, none⟩ 1 1 [.string (bs xn), .string (bs r)] rfl rfl ?c1 ?c2 ?c3 ?c4 ?c5 ?_))
              case c1 => exact (Blk.new (w := W5) (t := 26) (cs := #[.string (bs xn), .string (bs r)]) rfl).news
              case c2 => simp [Value.oneCell']
              case c3 => unfold maxLen; omega
              case c4 => omega
              case c5 => simp; omega
              intro v' w6 hown6 hgrow6 hnil6 hblk6
              have HrN6 := Lib.hid ((HrN5.out.alloc (.cells #[.string (bs xn), .string (bs r)] 26)).kept hgrow6 N2'.out)
              have HrL6 := Lib.hid ((HrL5.out.alloc (.cells #[.string (bs xn), .string (bs r)] 26)).kept hgrow6 N3.out)
              have HB6 := Lib.hid (below_app (HB5.out.alloc HB5.out.size (.cells #[.string (bs xn), .string (bs r)] 26)) hgrow6 (HrK5.out.alloc _) (Nat.le_succ _) (by simp; omega))
              have HbL6 := Lib.hid (show Blk w6 W3.heap.size 27 #[.slice (some ⟨b, off, none⟩) L.length cL] from (hgrow6.block _ (HbL5.out.alloc (.cells #[.string (bs xn), .string (bs r)] 26)).lt (fun e => by have := (HrK5.out.lt _ e.symm).1; omega)).trans (HbL5.out.alloc _))
              have M1 := Lib.hid (N1.out.new' HrN5.out (Nat.le_succ _) hblk6)
              have M2 := Lib.hid (N2'.out.new HrN5.out (Nat.le_succ _) hblk6)
              have M3 := Lib.hid (N3.out.new HrL5.out (Nat.le_succ _) hblk6)
              have hsz6 : W3.heap.size + 1 ≤ w6.heap.size := Nat.le_trans hsz5 (Nat.le_trans (by simp) hgrow6.size)
              obtain ⟨g', cap', rfl⟩ := row_form hown6
              rw [show flatR vc K2 ++ [Value.string (bs xn), Value.string (bs r)] = flatR vc (K2 ++ [(xn, r)]) from flat_snoc K2 (xn, r)] at hown6
              replace hown6 := Lib.hid hown6
              clear hgrow6 hnil6 hblk6
              go_wp2
              go_roundw
              case rel => exact ⟨i + 1, K2 ++ [(xn, r)], N2, by omega, by go_num, HIn3.out, by simp; omega, HKv3.out, by simpa using hown6.out, HrN6.out, HrL6.out, HbL6.out, M1.out, M2.out, M3.out, N4.out, HB6.out, hsz6⟩
              case measure => simp [intOf]; omega
          · rw [hq] at cW
            have HIn3 := Lib.hid (in_yes HD.out HIn2.out hq)
            clear hq
            obtain ⟨xn, xv⟩ := x
            simp only at c0 c1 cW HB3 HX hxl
            go_wp2_with (first
              | (go_at_call 24; (with_reducible refine (cW.out).mono ?_); rintro e W4 ⟨rfl, hb4⟩; have HB4 := Lib.hid (HB3.out.trans (hb4.mono HB3.out.size)); have HrK4 := Lib.hid (row_on (HrK2.out.alloc _) hb4); have HrN4 := Lib.hid (row_on (HrN2.out.alloc _) hb4); have HrL4 := Lib.hid (row_on (HrL2.out.alloc _) hb4); have HbL4 := Lib.hid ((HbL2.out.alloc _).below hb4 (HbL2.out.alloc _).lt); have cX := (HX.out.below hb4 (by simp)).cell; have hsz4 : W3.heap.size + 1 ≤ W4.heap.size := Nat.le_trans hsz2 (Nat.le_trans (by simp) hb4.size); clear hb4 c0 c1)
              | (at_builtin; refine wpList_append_own_at _ rfl _ _ 27 rfl (W3.heap.size + 1) 26 i0 (.agg #[.string .empty, .string .empty]) 2 32 Tryd.underlying27 Hi.out Hz0.out Hz1.out Hz2.out rfl (by decide) _ _ _ rfl (HrN4.out.alloc _) ⟨W4.heap.size, 0, none⟩ 1 1 [.string (bs xn), .string (bs xv)] rfl rfl ?c1 ?c2 ?c3 ?c4 ?c5 ?_))
            case c1 => exact (Blk.new (w := W4) (t := 26) (cs := #[.string (bs xn), .string (bs xv)]) rfl).news
            case c2 => simp [Value.oneCell']
            case c3 => unfold maxLen; omega
            case c4 => omega
            case c5 => simp; omega
            intro v' w5 hown5 hgrow5 hnil5 hblk5
            have HrK5 := Lib.hid ((HrK4.out.alloc (.cells #[.string (bs xn), .string (bs xv)] 26)).kept hgrow5 N1.out)
            have HrL5 := Lib.hid ((HrL4.out.alloc (.cells #[.string (bs xn), .string (bs xv)] 26)).kept hgrow5 N4.out)
            have HB5 := Lib.hid (below_app (HB4.out.alloc HB4.out.size (.cells #[.string (bs xn), .string (bs xv)] 26)) hgrow5 (HrN4.out.alloc _) (Nat.le_succ _) (by simp; omega))
            have HbL5 := Lib.hid (show Blk w5 W3.heap.size 27 #[.slice (some ⟨b, off, none⟩) L.length cL] from (hgrow5.block _ (HbL4.out.alloc (.cells #[.string (bs xn), .string (bs xv)] 26)).lt (fun e => by have := (HrN4.out.lt _ e.symm).1; omega)).trans (HbL4.out.alloc _))
            have M1 := Lib.hid (N1.out.new HrK4.out (Nat.le_succ _) hblk5)
            have M2 := Lib.hid (N2'.out.new' HrK4.out (Nat.le_succ _) hblk5)
            have M4 := Lib.hid (N4.out.new HrL4.out (Nat.le_succ _) hblk5)
            have hsz5 : W3.heap.size + 1 ≤ w5.heap.size := Nat.le_trans hsz4 (Nat.le_trans (by simp) hgrow5.size)
            obtain ⟨g', cap', rfl⟩ := row_form hown5
            rw [show flatR vc N2 ++ [Value.string (bs xn), Value.string (bs xv)] = flatR vc (N2 ++ [(xn, xv)]) from flat_snoc N2 (xn, xv)] at hown5
            replace hown5 := Lib.hid hown5
            clear hgrow5 hnil5 hblk5
            go_wp2
            go_roundw
            case rel => exact ⟨i + 1, K2, N2 ++ [(xn, xv)], by omega, by go_num, HIn3.out, by simp; omega, HKv2.out, HrK5.out, by simpa using hown5.out, HrL5.out, HbL5.out, M1.out, M2.out, N3.out, M4.out, HB5.out, hsz5⟩
            case measure => simp [intOf]; omega
        · obtain rfl : i = L.length := by omega
          have hE : (K2, N2) = E := by have := HIn2.out; rwa [List.drop_length] at this
          subst hE
          have c0 := HbL2.out.cell
          have f0 := HbL2.out.frozen
          have hless := HLess.out
          simp only at hless
          clear hrdL
          go_wp2_with fail
          go_roundg (N2.length + 1)
          case rel =>
            refine ⟨d', K2, N2, .slice AN2 N2.length cN2, by omega, Nat.lt_succ_self _, HRes2.out, HSub2.out, by omega, HKv2.out, ownsRow_setCell_below HrK2.out (a := ⟨W3.heap.size, 0, none⟩) (Nat.lt_succ_self _) _, ?_, ?_, ?_, N2'.out, HBl2.out.setCell (by simp) _, by rw [size_setCell]; exact hsz2⟩
            · have h1 := ownsRow_setCell_below HrN2.out (a := ⟨W3.heap.size, 0, none⟩) (Nat.lt_succ_self _) (.slice AN2 N2.length cN2)
              refine ⟨h1.1, ?_⟩
              rcases h1.2 with hn | ⟨g, cap, cur, h1, h2, h3⟩
              · exact .inl hn
              · exact .inr ⟨g, cap, cur, h1, Nat.zero_le _, h3⟩
            · exact HbL2.out.put 0 _
            · intro e
              have := (HrN2.out.lt _ e).1
              omega
          case measure => omega

end Go.Proofs.YtmjbaimccbkmpaaDoor.vrs

namespace Go.Proofs.YtmjbaimccbkmpaaDoor.vrs
open Go.RowKit Go.Proofs.YtmjbaimccbkmpaaDoor.base Go.Proofs.YtmjbaimccbkmpaaDoor.tok Go.Proofs.YtmjbaimccbkmpaaDoor.rul
set_option linter.unusedVariables false

theorem Rch.trans {V : List Vr} {a b c : Bs} (h1 : Rch V a b) (h2 : Rch V b c) : Rch V a c := fun C s t => h2 C (fun x hx => t b x (h1 C s t) hx) t
theorem cyc {α : Type} (T : α → α → Prop) (tr : ∀ a b c, T a b → T b c → T a c) : ∀ (n : Nat) (M : List α), M.length ≤ n → M ≠ [] → (∀ v ∈ M, ∃ w ∈ M, T v w) → ∃ v ∈ M, T v v
  | 0, M, hn, h0, _ => absurd (List.eq_nil_of_length_eq_zero (Nat.le_zero.1 hn)) h0
  | n + 1, M, hn, h0, h => by
    cases M with
    | nil => exact absurd rfl h0
    | cons v M =>
      rcases Classical.em (T v v) with hv | hv
      · exact ⟨v, List.mem_cons_self .., hv⟩
      · obtain ⟨q, hq⟩ : ∃ q : α → Bool, ∀ w, q w = true ↔ T v w := ⟨fun w => @decide (T v w) (Classical.propDecidable _), fun w => @decide_eq_true_iff _ (Classical.propDecidable _)⟩
        have hlt : ((v :: M).filter q).length < (v :: M).length := by
          rw [List.filter_cons, if_neg (fun e => hv ((hq v).1 e)), List.length_cons]
          exact Nat.lt_succ_of_le (List.length_filter_le _ _)
        obtain ⟨w, hw, htw⟩ := h v (List.mem_cons_self ..)
        have hne : (v :: M).filter q ≠ [] := fun e => by
          have : w ∈ (v :: M).filter q := List.mem_filter.2 ⟨hw, (hq w).2 htw⟩
          rw [e] at this
          cases this
        obtain ⟨u, hu, huu⟩ := cyc T tr n ((v :: M).filter q) (by omega) hne (fun x hx => by
          obtain ⟨hx1, hx2⟩ := List.mem_filter.1 hx
          obtain ⟨y, hy, hxy⟩ := h x hx1
          exact ⟨y, List.mem_filter.2 ⟨hy, (hq y).2 (tr _ _ _ ((hq x).1 hx2) hxy)⟩, hxy⟩)
        exact ⟨u, (List.mem_filter.1 hu).1, huu⟩

/-- each name once -/
def Uq (R : List Vr) : Prop := R.Pairwise fun a b => a.1 ≠ b.1
theorem uq_eq {R : List Vr} (h : Uq R) : ∀ {a b : Vr}, a ∈ R → b ∈ R → a.1 = b.1 → a = b := by
  induction R with
  | nil => exact fun h => absurd h (List.not_mem_nil)
  | cons x R ih =>
    obtain ⟨h1, h2⟩ := List.pairwise_cons.1 h
    intro a b ha hb he
    rcases List.mem_cons.1 ha with ha' | ha'
    · rcases List.mem_cons.1 hb with hb' | hb'
      · rw [ha', hb']
      · exact absurd (ha' ▸ he) (h1 b hb')
    · rcases List.mem_cons.1 hb with hb' | hb'
      · exact absurd (hb' ▸ he).symm (h1 a ha')
      · exact ih h2 ha' hb' he
theorem last_uq {R : List Vr} (h : Uq R) {v : Vr} (hv : v ∈ R) : lastP R v.1 = some v.2 := by
  cases e : lastP R v.1 with
  | none =>
    unfold lastP at e
    rw [Option.map_eq_none_iff, List.find?_eq_none] at e
    have := e v (List.mem_reverse.2 hv)
    simp at this
  | some s =>
    have := uq_eq h (last_mem e) hv rfl
    rw [← this]
theorem last_no {R : List Vr} {n : Bs} (h : ∀ v ∈ R, v.1 ≠ n) : lastP R n = none := by
  cases e : lastP R n with
  | none => rfl
  | some s => exact absurd rfl (h _ (last_mem e))
theorem mix_left {p : Bs → Bool} {R : List Vr} (hp : ∀ n, p n = true ↔ Ring R n) (hu : Uq R) : Mix (leftP p R) := fun M hM h0 => Classical.byContradiction fun hno => by
  have hall : ∀ v ∈ M, waitsP M v = true := fun v hv => by
    cases hw : waitsP M v with
    | true => rfl
    | false => exact absurd ⟨v, hv, hw⟩ hno
  have hin : ∀ v ∈ M, v ∈ R ∧ p v.1 = false := fun v hv => by
    obtain ⟨h1, h2⟩ := List.mem_filter.1 (hM.subset hv)
    exact ⟨h1, by simpa using h2⟩
  obtain ⟨v, hv, hvv⟩ := cyc (fun a b : Vr => Rch R a.1 b.1) (fun a b c => Rch.trans) M.length M (Nat.le_refl _) h0 (fun v hv => by
    have hw := hall v hv
    unfold waitsP at hw
    obtain ⟨n, hn, hx⟩ := List.any_eq_true.1 hw
    obtain ⟨x, hx, he⟩ := List.any_eq_true.1 hx
    rw [decide_eq_true_eq] at he
    refine ⟨x, hx, Rch.one ?_⟩
    unfold Stp valP
    rw [last_uq hu (hin v hv).1, he]
    exact hn)
  have := (hp v.1).2 hvv
  rw [(hin v hv).2] at this
  cases this

/-! ### each name counts once -/
theorem uq_names {R : List Vr} : Uq R ↔ (R.map (·.1)).Nodup := by
  unfold Uq List.Nodup
  rw [List.pairwise_map]
theorem set_names {R : List Vr} {k : Nat} {x v : Vr} (h : R[k]? = some x) (hn : x.1 = v.1) : (R.set k v).map (·.1) = R.map (·.1) := by
  apply List.ext_getElem?
  intro i
  rw [List.getElem?_map, List.getElem?_map, List.getElem?_set]
  have hk := (List.getElem?_eq_some_iff.1 h).1
  by_cases e : k = i
  · subst e
    rw [if_pos rfl, if_pos hk, h]
    simp [hn]
  · rw [if_neg e]
theorem step_uq {out : List Vr} {v : Vr} (h : Uq out) : Uq (cntStep out v) := by
  cases hp : Lib.hasPrefix v.1 [45, 45] with
  | false => rw [cnt_no hp]; exact h
  | true =>
    rcases idxF_is (sameN v) out 0 with ⟨k, x, h1, h2, h3⟩ | ⟨h1, h2⟩
    · rw [Nat.zero_add] at h1
      rw [cnt_set hp h1, uq_names, set_names h2 (by unfold sameN at h3; exact of_decide_eq_true h3), ← uq_names]
      exact h
    · by_cases hl : out.length < 20
      · rw [cnt_add hp h1 hl]
        refine List.pairwise_append.2 ⟨h, List.pairwise_singleton _ _, fun a ha b hb => ?_⟩
        rw [List.mem_singleton.1 hb]
        have := h2 a ha
        unfold sameN at this
        exact of_decide_eq_false this
      · rw [cnt_full hp h1 hl]; exact h
theorem cnt_uq (V : List Vr) : Uq (cntP V) := by
  have key : ∀ (V out : List Vr), Uq out → Uq (V.foldl cntStep out) := by
    intro V
    induction V with
    | nil => exact fun out h => h
    | cons v V ih => exact fun out h => ih _ (step_uq h)
  exact key V [] List.Pairwise.nil

end Go.Proofs.YtmjbaimccbkmpaaDoor.vrs

namespace Go.Proofs.YtmjbaimccbkmpaaDoor.vrs
open Go.RowKit Go.Proofs.YtmjbaimccbkmpaaDoor.base Go.Proofs.YtmjbaimccbkmpaaDoor.tok Go.Proofs.YtmjbaimccbkmpaaDoor.rul
set_option linter.unusedVariables false

/-! ### plain -/
theorem onL_plain : ∀ {L : List Tk}, (∀ t ∈ L, t.k ≠ 2) → onL L = []
  | [], _ => rfl
  | t :: L, h => by
    have ht : isVarP t = false := by
      unfold isVarP
      rw [decide_eq_false (h t (List.mem_cons_self ..))]
      rfl
    rw [onL, ht, onL_plain (fun x hx => h x (List.mem_cons_of_mem _ hx))]
    rfl
theorem on_plain {s : Bs} (h : 40 ∉ s) : onP s = [] := onL_plain (cut_func _ s (Nat.le_refl _) h)
theorem waits_plain {L : List Vr} {v : Vr} (h : 40 ∉ v.2) : waitsP L v = false := by unfold waitsP; rw [on_plain h]; rfl
theorem ring_plain {R : List Vr} (h : ∀ v ∈ R, 40 ∉ v.2) (n : Bs) : ¬ Ring R n := fun hr => by
  have hno : ∀ a x, ¬ Stp R a x := fun a x hx => by
    unfold Stp valP at hx
    cases e : lastP R a with
    | none => rw [e] at hx; exact absurd (show x ∈ onP [] from hx) (by rw [on_nil]; simp)
    | some s => rw [e] at hx; exact absurd (show x ∈ onP s from hx) (by rw [on_plain (h _ (last_mem e))]; simp)
  exact hr (fun _ => False) (fun x hx => hno n x hx) (fun x y _ hx => hno x y hx)
theorem in_plain {L : List Vr} : ∀ (M K : List Vr), (∀ v ∈ M, 40 ∉ v.2 ∧ v.2.length ≤ 400) → M.foldl (inStep L) (K, []) = (K ++ M, [])
  | [], K, _ => by simp
  | v :: M, K, h => by
    obtain ⟨h1, h2⟩ := h v (List.mem_cons_self ..)
    rw [List.foldl_cons, inStep, waits_plain h1]
    show M.foldl (inStep L) (addK K v, []) = _
    rw [addK_is (fill_stays h1 h2), in_plain M _ (fun x hx => h x (List.mem_cons_of_mem _ hx)), List.append_assoc]
    rfl
theorem res_plain {L : List Vr} (h : ∀ v ∈ L, 40 ∉ v.2 ∧ v.2.length ≤ 400) : resF L.length [] L = L := by
  by_cases h0 : L = []
  · subst h0; rfl
  · obtain ⟨d, hd⟩ : ∃ d, L.length = d + 1 := ⟨L.length - 1, by have := List.length_pos_iff.2 h0; omega⟩
    rw [hd, res_cons h0]
    unfold inP
    rw [in_plain L [] h]
    exact res_nil d L
theorem out_self {L : List Vr} (h : Uq L) : ∀ M : List Vr, (∀ v ∈ M, v ∈ L) → outP L M = M
  | [], _ => rfl
  | v :: M, hM => by
    have ih := out_self h M (fun x hx => hM x (List.mem_cons_of_mem _ hx))
    unfold outP at ih ⊢
    rw [List.filterMap_cons, last_uq h (hM v (List.mem_cons_self ..)), ih]
    rfl
theorem resP_plain {p : Bs → Bool} {L : List Vr} (hp : ∀ n, p n = true ↔ Ring L n) (hu : Uq L) (h : ∀ v ∈ L, 40 ∉ v.2 ∧ v.2.length ≤ 400) : resP p L = L := by
  have hl : leftP p L = L := List.filter_eq_self.2 fun v hv => by
    cases e : p v.1 with
    | false => rfl
    | true => exact absurd ((hp _).1 e) (ring_plain (fun v hv => (h v hv).1) _)
  unfold resP
  rw [hl, res_plain h, out_self hu L (fun v hv => hv)]
/-- those that count of those that count -/
theorem cnt_id : ∀ (M out : List Vr), Uq (out ++ M) → (∀ v ∈ M, Lib.hasPrefix v.1 [45, 45] = true) → (out ++ M).length ≤ 20 → M.foldl cntStep out = out ++ M
  | [], out, _, _, _ => (List.append_nil out).symm
  | v :: M, out, hu, hp, hl => by
    have h1 : idxF (sameN v) out 0 = -1 := by
      rcases idxF_is (sameN v) out 0 with ⟨k, x, -, h2, h3⟩ | ⟨h1, -⟩
      · unfold sameN at h3
        exact absurd (of_decide_eq_true h3) ((List.pairwise_append.1 hu).2.2 x (List.mem_of_getElem? h2) v (List.mem_cons_self ..))
      · exact h1
    have e : out ++ v :: M = (out ++ [v]) ++ M := by simp
    rw [List.foldl_cons, cnt_add (hp v (List.mem_cons_self ..)) h1 (by simp at hl; omega), e]
    exact cnt_id M (out ++ [v]) (e ▸ hu) (fun x hx => hp x (List.mem_cons_of_mem _ hx)) (e ▸ hl)
theorem cnt_pre (V : List Vr) : ∀ v ∈ cntP V, Lib.hasPrefix v.1 [45, 45] = true := by
  have key : ∀ (V out : List Vr), (∀ v ∈ out, Lib.hasPrefix v.1 [45, 45] = true) → ∀ v ∈ V.foldl cntStep out, Lib.hasPrefix v.1 [45, 45] = true := by
    intro V
    induction V with
    | nil => exact fun out h => h
    | cons v V ih =>
      refine fun out h => ih _ (fun x hx => ?_)
      unfold cntStep at hx
      split at hx
      · rename_i hv
        split at hx
        · rcases List.mem_or_eq_of_mem_set hx with h1 | h1
          · exact h x h1
          · rw [h1]; exact hv
        · split at hx
          · rcases List.mem_append.1 hx with h1 | h1
            · exact h x h1
            · rw [List.mem_singleton.1 h1]; exact hv
          · exact h x hx
      · exact h x hx
  exact key V [] (fun v h => absurd h List.not_mem_nil)
theorem in_vals (L : List Vr) : ∀ (M K N : List Vr), (∀ q ∈ K, q.2.length ≤ 400) → ∀ q ∈ (M.foldl (inStep L) (K, N)).1, q.2.length ≤ 400
  | [], K, N, h => h
  | v :: M, K, N, h => by
    rw [List.foldl_cons, inStep]
    split
    · exact in_vals L M _ _ h
    · refine in_vals L M _ _ (fun q hq => ?_)
      obtain ⟨r, is, hf⟩ : ∃ r is, fillP K v.2 = (r, is) := ⟨_, _, rfl⟩
      cases is with
      | false => rw [addK_not hf] at hq; exact h q hq
      | true =>
        rw [addK_is hf] at hq
        rcases List.mem_append.1 hq with h1 | h1
        · exact h q h1
        · rw [List.mem_singleton.1 h1]; exact fillF_true hf
theorem res_vals : ∀ (d : Nat) (K L : List Vr), (∀ q ∈ K, q.2.length ≤ 400) → ∀ q ∈ resF d K L, q.2.length ≤ 400
  | 0, K, L, h => h
  | d + 1, K, L, h => by
    rw [resF]
    split
    · exact h
    · exact res_vals d _ _ (in_vals L L K [] h)
theorem out_mem {K R : List Vr} {v : Vr} (h : v ∈ outP K R) : v ∈ K ∧ ∃ u ∈ R, u.1 = v.1 := by
  obtain ⟨u, hu, he⟩ := List.mem_filterMap.1 h
  obtain ⟨s, hs, rfl⟩ := Option.map_eq_some_iff.1 he
  exact ⟨last_mem hs, u, hu, rfl⟩
theorem out_uq {K : List Vr} : ∀ {R : List Vr}, Uq R → Uq (outP K R)
  | [], _ => List.Pairwise.nil
  | u :: R, h => by
    obtain ⟨h1, h2⟩ := List.pairwise_cons.1 h
    have ih := out_uq (K := K) h2
    unfold outP at ih ⊢
    rw [List.filterMap_cons]
    cases e : (lastP K u.1).map fun s => (u.1, s) with
    | none => exact ih
    | some w =>
      obtain ⟨s, hs, rfl⟩ := Option.map_eq_some_iff.1 e
      refine List.pairwise_cons.2 ⟨fun b hb => ?_, ih⟩
      obtain ⟨-, x, hx, he⟩ := out_mem (K := K) (R := R) hb
      rw [← he]
      exact h1 x hx
theorem out_len (K R : List Vr) : (outP K R).length ≤ R.length := List.length_filterMap_le ..
/-- resolved again it stays -/
theorem again {p q : Bs → Bool} {V : List Vr} (hq : ∀ n, q n = true ↔ Ring (cntP (resP p (cntP V))) n) (h : ∀ v ∈ resP p (cntP V), 40 ∉ v.2) : cntP (resP p (cntP V)) = resP p (cntP V) ∧ resP q (cntP (resP p (cntP V))) = resP p (cntP V) := by
  have hu : Uq (resP p (cntP V)) := out_uq (cnt_uq V)
  have hc : cntP (resP p (cntP V)) = resP p (cntP V) := by
    show (resP p (cntP V)).foldl cntStep [] = [] ++ resP p (cntP V)
    refine cnt_id _ [] (by simpa using hu) (fun v hv => ?_) ?_
    · obtain ⟨-, u, hu, he⟩ := out_mem hv
      rw [← he]
      exact cnt_pre V u hu
    · exact Nat.le_trans (out_len _ _) (cntP_len V)
  refine ⟨hc, ?_⟩
  rw [hc] at hq ⊢
  refine resP_plain hq hu (fun v hv => ⟨h v hv, ?_⟩)
  exact res_vals _ _ _ (fun q h => absurd h List.not_mem_nil) v (out_mem hv).1

/-! ### the law's own comparison, at two rows that read alike -/
set_option maxRecDepth 100000 in
set_option maxHeartbeats 4000000 in
theorem same_ct2 (A B : Option Addr) (ca cb : Nat) (V : List Vr) (hn : V.length ≤ 1000000) (w : World) (hA : VRd w w.heap.size A V.length V) (hB : VRd w w.heap.size B V.length V) :
    Calls Tryd.prog 11 #[.slice A V.length ca, .slice B V.length cb] w fun e w' => e = .returned (.bool true) ∧ Below w.heap.size w w' := by
  have HA := Lib.hid hA
  have HB := Lib.hid hB
  clear hA hB
  have hne : ((V.length : Int) != (V.length : Int)) = false := by simp
  go_enter Tryd.func11, Tryd.ntmps11
  go_wp2_with fail
  go_loopw [5] (fun x wr => ∃ i : Nat, i ≤ V.length ∧ x = .int .i64 i ∧ Below w.heap.size w wr) (fun x _ => V.length - (intOf x).toNat)
  case atStart => exact ⟨0, Nat.zero_le _, rfl, Below.refl _ _⟩
  case round =>
    obtain ⟨i, hil, rfl, hbel⟩ := hrel
    have HBl := Lib.hid hbel
    by_cases hlt : i < V.length
    · have hlt' : (i : Int) < (V.length : Int) := by omega
      obtain ⟨b, off, x, rfl, hbb, hd, c0, c1⟩ := VRd.var (HA.out.keep hbel hbel.size) hlt
      obtain ⟨b2, off2, y, rfl, hbb2, hd2, d0, d1⟩ := VRd.var (HB.out.keep hbel hbel.size) hlt
      obtain rfl : x = y := Option.some.inj (hd.symm.trans hd2)
      clear hd hd2 hbel
      obtain ⟨xn, xv⟩ := x
      simp only at c0 c1 d0 d1
      have q1 : IntKind.i64.wrap ((i : Int) + 1) = (i : Int) + 1 := IntWalk.i64_in _ (by omega)
      go_wp2_with fail
      go_quiet (fail)
      go_wp2_with fail
      go_roundw
      case rel => exact ⟨i + 1, by omega, by go_num, Go.Proofs.YtmjbaimccbkmpaaDoor.base.below_drewN HBl.out _⟩
      case measure => simp [intOf]; omega
    · obtain rfl : i = V.length := by omega
      clear hbel
      go_wp2_with fail
      go_ret
      exact ⟨rfl, HBl.out⟩

end Go.Proofs.YtmjbaimccbkmpaaDoor.vrs

namespace Go.Proofs.YtmjbaimccbkmpaaDoor.base
open Go.RowKit Go.ChangeShapes Go.WideShapes Go.ChangeAt Go.Deep
set_option linter.unusedVariables false

theorem exists_list {α : Type} {p : Nat → α → Prop} : ∀ (n : Nat), (∀ i, i < n → ∃ x, p i x) → ∃ L : List α, L.length = n ∧ ∀ (i : Nat) (x : α), L[i]? = some x → p i x
  | 0, _ => ⟨[], rfl, fun i x h => by simp at h⟩
  | n + 1, h => by
    obtain ⟨L, hl, hp⟩ := exists_list n (fun i hi => h i (by omega))
    obtain ⟨x, hx⟩ := h n (by omega)
    refine ⟨L ++ [x], by simp [hl], fun i y hy => ?_⟩
    by_cases hi : i < n
    · rw [List.getElem?_append_left (by omega)] at hy
      exact hp i y hy
    · have hlt := (List.getElem?_eq_some_iff.1 hy).1
      simp [hl] at hlt
      obtain rfl : i = n := by omega
      rw [List.getElem?_append_right (by omega), hl] at hy
      simp at hy
      subst hy
      exact hx

theorem add_none (b off k : Nat) : ((⟨b, off, none⟩ : Addr).add k) = ⟨b, off + k, none⟩ := by
  unfold Addr.add
  by_cases h : k = 0 <;> simp [h]

section
variable {H : Type} {enc : TypeId × Value → H} {P : Program} {w : World} {held : Bool}
theorem open_rows {t e k fuel : Nat} {cs : List Value} {x : DataW H × List MemPlace} (ht : P.underlying t = some (.slice e)) (hk : P.cellsOf e = k) (hk0 : 0 < k)
    (h : DataW.trod enc P w 0 (fun _ => true) held fuel t cs = some x) :
    ∃ A n c, cs = [.slice A n c] ∧ n ≤ c ∧ c ≤ maxLen ∧ (0 < n → ∃ b off, A = some ⟨b, off, none⟩ ∧ b < w.heap.size ∧
      ∀ i, i < n → ∃ cs' m y, cs'.length = k ∧ (∀ j, j < k → w.cell? ⟨b, off + i * k + j, none⟩ = cs'[j]?) ∧ DataW.trod enc P w 0 (fun _ => true) held m e cs' = some y) := by
  rcases open_slice ht h with ⟨rfl, _⟩ | ⟨a, len, cap, m, n, D, Pl, rfl, _, hl, hm, hmm, _, hi⟩
  · exact ⟨none, 0, 0, rfl, by omega, by simp [maxLen], fun h0 => by omega⟩
  · simp only [if_true] at hmm
    subst hmm
    refine ⟨some a, len, m, rfl, hl, hm, fun h0 => ?_⟩
    rw [hk] at hi
    obtain ⟨c0, hc0, _⟩ := hi 0 (by omega)
    obtain ⟨_, hcl0, hat0⟩ := World.cells?_some hc0
    have hz : w.cell? ((a.add (0 * k)).add 0) = some (c0[0]'(by omega)) := by
      rw [hat0 0 hk0]
      exact List.getElem?_eq_getElem (by omega)
    have hspot : a.spot = none := by
      have := World.cell?_spot hz
      unfold Addr.add at this
      simpa using this
    have hblk := World.block_lt_of_cell? w _ hz
    obtain ⟨b, off, sp⟩ := a
    simp only at hspot
    subst hspot
    refine ⟨b, off, rfl, by simpa [add_none] using hblk, fun i hin => ?_⟩
    obtain ⟨cs', hc, ht'⟩ := hi i (by omega)
    obtain ⟨_, hcl, hat⟩ := World.cells?_some hc
    refine ⟨cs', n, _, hcl, fun j hj => ?_, ht'⟩
    have := hat j hj
    rwa [add_none, add_none] at this
end
end Go.Proofs.YtmjbaimccbkmpaaDoor.base

namespace Go.Proofs.YtmjbaimccbkmpaaDoor.base
open Go.RowKit Go.ChangeShapes Go.WideShapes Go.ChangeAt
set_option linter.unusedVariables false

theorem bulk_part {H : Type} {d : DataW H} {l : List (DataW H)} (h : d ∈ l) : Rows.uptoBulk d ≤ Rows.uptoBulkAll l := by
  induction l with
  | nil => cases h
  | cons x r ih =>
    simp only [Rows.uptoBulkAll]
    rcases List.mem_cons.1 h with e | e
    · subst e; omega
    · have := ih e; omega
theorem bulk_all {H : Type} {l : List (DataW H)} (hk : Rows.uptoSmall H l = true) : Rows.uptoBulkAll l ≤ 1048576 := of_decide_eq_true hk
theorem upto_string {H : Type} {l : List (DataW H)} {s : ByteArray} (hk : Rows.uptoSmall H l = true) (h : DataW.lit (.string s.data.toList) ∈ l) : s.size ≤ 1048576 := by
  have h1 := bulk_part h
  have h2 := bulk_all hk
  simp only [Rows.uptoBulk] at h1
  have h3 : s.data.toList.length = s.size := Array.length_toList
  omega

section
variable {H : Type} {enc : TypeId × Value → H}
/-- an input that fits, at a world that is laid out -/
theorem witness_rowL {C : Checked} {os : Os} {f : FuncId} {fn : Func} {s : OpenSpec} {conds : List PathCond} {apart : Bool} {laid : List (String × DataW Unit)} (modest : Bool) (w0 : World) (args : Array Value) (hos : w0.os = os)
    (hsh : (w0.forCall (fun _ _ => 0) ⟨#[], args, []⟩).Shaped C.prog)
    (hok : Input.okWideB C.prog (w0.forCall (fun _ _ => 0) ⟨#[], args, []⟩) f ⟨#[], args, []⟩ = true)
    (hrow : s.preRow enc C.prog fn conds apart laid (w0.forCall (fun _ _ => 0) ⟨#[], args, []⟩).memory args) :
    ∃ (w : World) (tape : Tape) (i : Input), w.os = os ∧ (w.forCall tape i).Shaped C.prog ∧ i.vars = [] ∧ Input.okWide C.prog (w.forCall tape i) .any w.heap.size f i ∧
      s.preRow enc C.prog fn conds apart laid (w.forCall tape i).memory i.args ∧ ({ modest := modest } : Assume).holds C.prog (lone (Frame.enter C.prog f i.args .normal) [] (w.forCall tape i)) :=
  ⟨w0, fun _ _ => 0, ⟨#[], args, []⟩, hos, hsh, (Input.okWide_of_okWideB (base := 0) hok).1, (Input.okWide_of_okWideB hok).2, hrow, by
    simp only [Assume.holds]
    exact ⟨by simp, by simp, fun _ => Modest.zero, by simp, by simp⟩⟩
end

end Go.Proofs.YtmjbaimccbkmpaaDoor.base

namespace Go.Proofs.YtmjbaimccbkmpaaDoor.vrs
open Go.RowKit Go.ChangeShapes Go.WideShapes Go.ChangeAt Go.Deep Go.Proofs.YtmjbaimccbkmpaaDoor.base Go.Proofs.YtmjbaimccbkmpaaDoor.tok
set_option linter.unusedVariables false

section
variable {H : Type} {enc : TypeId × Value → H} {w : World} {held : Bool}
theorem field_at {P : Program} {fs : Array Field} {n : Nat} {cs : List Value} {xs : List (DataW H × List MemPlace)} (hg : ∀ (i : Nat) (f : Field), fs[i]? = some f → DataW.trod enc P w 0 (fun _ => true) held n f.type ((cs.drop f.offset).take (P.cellsOf f.type)) = xs[i]?)
    (i T off k : Nat) (hi : (fs[i]?).map (fun f => (f.type, f.offset)) = some (T, off)) (hk : P.cellsOf T = k) : DataW.trod enc P w 0 (fun _ => true) held n T ((cs.drop off).take k) = xs[i]? := by
  cases h : fs[i]? with
  | none => rw [h] at hi; cases hi
  | some f =>
    rw [h] at hi
    simp only [Option.map_some, Option.some.injEq, Prod.mk.injEq] at hi
    obtain ⟨rfl, rfl⟩ := hi
    subst hk
    exact hg i f h
set_option maxRecDepth 100000 in
theorem cells_var {fuel : Nat} {cs : List Value} {x : DataW H × List MemPlace} (h : DataW.trod enc Tryd.prog w 0 (fun _ => true) held fuel 26 cs = some x) :
    ∃ q : Vr, cs = [.string (bs q.1), .string (bs q.2)] ∧ q.1.length ≤ Rows.uptoBulk x.1 ∧ q.2.length ≤ Rows.uptoBulk x.1 := by
  have k2 : Tryd.prog.cellsOf 9 = 1 := by kernel_rfl
  have k6 : Tryd.prog.cellsOf 26 = 2 := by kernel_rfl
  obtain ⟨xs, n, _, rfl, hl, hx, hg⟩ := DataW.trod_struct Tryd.underlying26 h
  rw [k6] at hl
  match cs, hl with
  | [a0, a1], _ =>
    have g0 := field_at hg 0 9 0 1 rfl k2
    have g1 := field_at hg 1 9 1 1 rfl k2
    have hx2 : xs.length = 2 := hx
    match xs, hx2 with
    | [y0, y1], _ =>
      obtain ⟨s0, e0, d0, _⟩ := DataW.trod_string Tryd.underlying9 g0
      obtain ⟨s1, e1, d1, _⟩ := DataW.trod_string Tryd.underlying9 g1
      simp at e0 e1
      subst e0 e1 d0 d1
      refine ⟨(s0.data.toList, s1.data.toList), rfl, ?_, ?_⟩
      · simp only [List.map_cons, List.map_nil, Rows.uptoBulk, Rows.uptoBulkAll]; omega
      · simp only [List.map_cons, List.map_nil, Rows.uptoBulk, Rows.uptoBulkAll]; omega
theorem bulk_pos (d : DataW H) : 1 ≤ Rows.uptoBulk d := by
  cases d with
  | lit l => cases l <;> simp [Rows.uptoBulk]
  | _ => simp [Rows.uptoBulk]
theorem bulk_len : ∀ l : List (DataW H), l.length ≤ Rows.uptoBulkAll l
  | [] => Nat.zero_le _
  | d :: l => by
    have := bulk_len l
    have := bulk_pos d
    simp only [Rows.uptoBulkAll, List.length_cons]
    omega
set_option maxRecDepth 100000 in
theorem open_vars {fuel : Nat} {cs : List Value} {x : DataW H × List MemPlace} (h : DataW.trod enc Tryd.prog w 0 (fun _ => true) held fuel 27 cs = some x) :
    ∃ A n cap V, cs = [.slice A n cap] ∧ n ≤ cap ∧ VRd w w.heap.size A n V ∧ n ≤ Rows.uptoBulk x.1 ∧ ∀ q ∈ V, q.1.length ≤ Rows.uptoBulk x.1 ∧ q.2.length ≤ Rows.uptoBulk x.1 := by
  have k6 : Tryd.prog.cellsOf 26 = 2 := by kernel_rfl
  rcases open_slice Tryd.underlying27 h with ⟨rfl, rfl⟩ | ⟨a, len, cap, m, n, D, Pl, rfl, _, hl, hm, hmm, rfl, hi⟩
  · exact ⟨none, 0, 0, [], rfl, Nat.le_refl _, Rd.nil, Nat.zero_le _, fun q hq => absurd hq List.not_mem_nil⟩
  · simp only [if_true] at hmm
    subst hmm
    rw [k6] at hi
    have hlen : len ≤ Rows.uptoBulk (.slice ((List.range len).map D) ((List.range (m - len)).map fun j => D (len + j))) := by
      have := bulk_len ((List.range len).map D)
      rw [List.length_map, List.length_range] at this
      simp only [Rows.uptoBulk]
      omega
    have hpart : ∀ i, i < len → Rows.uptoBulk (D i) ≤ Rows.uptoBulk (.slice ((List.range len).map D) ((List.range (m - len)).map fun j => D (len + j))) := fun i hi => by
      have := bulk_part (d := D i) (l := (List.range len).map D) (List.mem_map.2 ⟨i, List.mem_range.2 hi, rfl⟩)
      simp only [Rows.uptoBulk]
      omega
    rcases Nat.eq_zero_or_pos len with h0 | h0
    · subst h0
      exact ⟨some a, 0, m, [], rfl, Nat.zero_le _, Rd.nil, Nat.zero_le _, fun q hq => absurd hq List.not_mem_nil⟩
    obtain ⟨c0, hc0, _⟩ := hi 0 (by omega)
    obtain ⟨_, hcl0, hat0⟩ := World.cells?_some hc0
    have hz : w.cell? ((a.add (0 * 2)).add 0) = some (c0[0]'(by omega)) := by
      rw [hat0 0 (by decide)]
      exact List.getElem?_eq_getElem (by omega)
    have hspot : a.spot = none := by
      have := World.cell?_spot hz
      unfold Addr.add at this
      simpa using this
    have hblk := World.block_lt_of_cell? w _ hz
    obtain ⟨b, off, sp⟩ := a
    simp only at hspot
    subst hspot
    obtain ⟨V, hVl, hV⟩ := exists_list (p := fun i (q : Vr) => (∀ j, j < 2 → w.cell? ⟨b, off + i * 2 + j, none⟩ = (vc q)[j]?) ∧ q.1.length ≤ Rows.uptoBulk (D i) ∧ q.2.length ≤ Rows.uptoBulk (D i)) len (fun i hin => by
      obtain ⟨cs', hc, ht'⟩ := hi i (by omega)
      obtain ⟨_, hcl, hat⟩ := World.cells?_some hc
      obtain ⟨q, rfl, hq1, hq2⟩ := cells_var ht'
      refine ⟨q, fun j hj => ?_, hq1, hq2⟩
      have := hat j hj
      rwa [add_none, add_none] at this)
    refine ⟨_, len, m, V, rfl, hl, ⟨hVl, fun _ => ⟨b, off, rfl, by simpa [add_none] using hblk, fun i d hd => (hV i d hd).1⟩⟩, hlen, fun q hq => ?_⟩
    obtain ⟨i, hi2⟩ := List.mem_iff_getElem?.1 hq
    have hil : i < len := by have := (List.getElem?_eq_some_iff.1 hi2).1; omega
    have h3 := hV i q hi2
    have h4 := hpart i hil
    exact ⟨Nat.le_trans h3.2.1 h4, Nat.le_trans h3.2.2 h4⟩
set_option maxRecDepth 100000 in
theorem arg_vars {r : Reach} {b0 : Nat} {v : Value} {d : DataW H} {p : List MemPlace} (hv : Value.okWide Tryd.prog w r b0 27 v) (h : DataW.Trod enc Tryd.prog w 0 (fun _ => true) held 27 v d p) :
    ∃ A n cap V, v = .slice A n cap ∧ n ≤ cap ∧ VRd w w.heap.size A n V ∧ n ≤ Rows.uptoBulk d ∧ ∀ q ∈ V, q.1.length ≤ Rows.uptoBulk d ∧ q.2.length ≤ Rows.uptoBulk d := by
  obtain ⟨a, len, cap, rfl⟩ := okWide_slice Tryd.underlying27 hv
  obtain ⟨fuel, hf⟩ := h
  obtain ⟨A, n, c, V, e, h1, h2, h3, h4⟩ := open_vars hf
  simp [Value.cells] at e
  obtain ⟨rfl, rfl, rfl⟩ := e
  exact ⟨_, _, _, V, rfl, h1, h2, h3, h4⟩
end

end Go.Proofs.YtmjbaimccbkmpaaDoor.vrs

namespace Go.Proofs.YtmjbaimccbkmpaaDoor.vrs
open Go.RowKit Go.Proofs.YtmjbaimccbkmpaaDoor.base Go.Proofs.YtmjbaimccbkmpaaDoor.tok Go.Proofs.YtmjbaimccbkmpaaDoor.rul
set_option linter.unusedVariables false

theorem ring_dec (R : List Vr) : ∃ p : Bs → Bool, ∀ n, p n = true ↔ Ring R n := ⟨fun n => @decide (Ring R n) (Classical.propDecidable _), fun n => @decide_eq_true_iff _ (Classical.propDecidable _)⟩
theorem mem_take_succ {α : Type} {L : List α} {i : Nat} {x : α} {Q : α → Prop} (h : ∀ v ∈ L.take i, Q v) (hx : L[i]? = some x) (hq : Q x) : ∀ v ∈ L.take (i + 1), Q v := fun b hb => by
  rw [List.take_add_one, hx] at hb
  rcases List.mem_append.1 hb with hb | hb
  · exact h b hb
  · have : b = x := by simpa using hb
    rw [this]
    exact hq
theorem resolveD_ct (A : Option Addr) (cap : Nat) (V : List Vr) (p : Bs → Bool) (hp : ∀ n, p n = true ↔ Ring (cntP V) n) (w0 w : World) (hb : Below w0.heap.size w0 w) (hn : V.length ≤ 1000000) (hv : ∀ q ∈ V, q.2.length ≤ 1100000) (hI : VRd w w.heap.size A V.length V) (hF : FoldAt w0) (hm : MaxL w0) :
    Calls Tryd.prog 10 #[.slice A V.length cap] w fun e w' => (∃ A' cap', e = .returned (.slice A' (resP p (cntP V)).length cap') ∧ (resP p (cntP V)).length ≤ cap' ∧ VRd w' w'.heap.size A' (resP p (cntP V)).length (resP p (cntP V))) ∧ Below w.heap.size w w' :=
  resolve_ct (b0 := w0.heap.size) p A cap V w hn hp (mix_left hp (cnt_uq V)) hv hI hb.size ((env_of hF hm).on hb)

set_option maxRecDepth 100000 in
set_option maxHeartbeats 8000000 in
theorem again_at (A : Option Addr) (cap : Nat) (V : List Vr) (w : World) (hn : V.length ≤ 1000000000) (hcap : V.length ≤ cap) (hv : ∀ q ∈ V, q.2.length ≤ 1100000) (hI : VRd w w.heap.size A V.length V) (hF : FoldAt w) (hm : MaxL w) :
    Calls Tryd.prog 4 #[.slice A V.length cap] w fun e w' => e = .returned (.bool true) ∧ Below w.heap.size w w' := by
  have cP := Lib.hid (fact_ct w hF hm)
  obtain ⟨m, hm1⟩ : ∃ m : Nat, min V.length 30 = m := ⟨_, rfl⟩
  have hml : m ≤ V.length := by omega
  have hm30 : m ≤ 30 := by omega
  have hmz : min (V.length : Int) 30 = (m : Int) := by omega
  have hsl := fun w => slice_upto (P := Tryd.prog) (k := 2) Tryd.underlying27 Tryd.sizeOf26 A V.length cap (m : Int) (by omega) (by omega) w
  simp only [Int.toNat_natCast] at hsl
  have HTk := Lib.hid (hI.first hml)
  have htl : (V.take m).length = m := by rw [List.length_take]; omega
  have hvt : ∀ q ∈ V.take m, q.2.length ≤ 1100000 := fun q hq => hv q (List.mem_of_mem_take hq)
  obtain ⟨p, hp⟩ := ring_dec (cntP (V.take m))
  have cR := Lib.hid (fun (W : World) (h : Below w.heap.size w W) => resolveD_ct A cap (V.take m) p hp w W h (by omega) hvt (by rw [htl]; exact HTk.out.keep h h.size) hF hm)
  rw [htl] at cR
  obtain ⟨q, hq⟩ := ring_dec (cntP (resP p (cntP (V.take m))))
  have HAg := Lib.hid (fun h => again (V := V.take m) hq h)
  have hval : ∀ v ∈ resP p (cntP (V.take m)), v.2.length ≤ 400 := fun v hv => res_vals _ _ _ (fun q h => absurd h List.not_mem_nil) v (out_mem hv).1
  have hlen : (resP p (cntP (V.take m))).length ≤ 20 := Nat.le_trans (out_len _ _) (cntP_len _)
  generalize resP p (cntP (V.take m)) = a at *
  have cR2 := Lib.hid (fun (A' : Option Addr) (c' : Nat) (W : World) (h : Below w.heap.size w W) (hI2 : VRd W W.heap.size A' a.length a) => resolveD_ct A' c' a q hq w W h (by omega) (fun v hv => Nat.le_trans (hval v hv) (by omega)) hI2 hF hm)
  have HVal := Lib.hid hval
  clear hI hF hm hv hvt hp hq hval HTk htl hm1
  go_enter Tryd.func4, Tryd.ntmps4
  go_wp2_with (first
    | (go_at_call 7; (with_reducible refine (cP.out).mono ?_); rintro e W1 ⟨rfl, hb1⟩; have HB1 := Lib.hid hb1; clear hb1)
    | (go_at_call 10; (with_reducible refine (cR.out _ HB1.out).mono ?_); rintro e W2 ⟨⟨A2, c2, rfl, hc2, hr2⟩, hb2⟩; have HB2 := Lib.hid (HB1.out.trans (hb2.mono HB1.out.size)); have HR2 := Lib.hid hr2; clear hb2 hr2))
  go_loopw [5] (fun x wr => ∃ i : Nat, i ≤ a.length ∧ x = .int .i64 i ∧ Hid (∀ v ∈ a.take i, 40 ∉ v.2) ∧ Below W2.heap.size W2 wr) (fun x _ => a.length - (intOf x).toNat)
  case atStart => exact ⟨0, Nat.zero_le _, rfl, Lib.hid (fun v h => absurd (show v ∈ [] from h) List.not_mem_nil), Below.refl _ _⟩
  case round =>
    obtain ⟨i, hil, rfl, hno, hbel⟩ := hrel
    have HBl := Lib.hid hbel
    have HBw := Lib.hid (HB2.out.trans (hbel.mono HB2.out.size))
    by_cases hlt : i < a.length
    · have hlt' : (i : Int) < (a.length : Int) := by omega
      obtain ⟨b, off, x, rfl, hbb, hd, c0, c1⟩ := VRd.var (HR2.out.keep hbel hbel.size) hlt
      have q1 : IntKind.i64.wrap ((i : Int) + 1) = (i : Int) + 1 := IntWalk.i64_in _ (by omega)
      have hxl := HVal.out x (List.mem_of_getElem? hd)
      have cT := Lib.hid (show ∀ W1, Calls Tryd.prog 9 #[.string (bs x.2), .string ⟨#[40]⟩] W1 fun e w' => e = .returned (.bool (decide (40 ∈ x.2))) ∧ Below W1.heap.size W1 w' from fun W1 => by
        have := hasText_ct x.2 [40] (by decide) (by omega) (by decide) W1
        rw [hasT_one] at this
        exact this)
      have HD := Lib.hid hd
      obtain ⟨xn, xv⟩ := x
      simp only at c0 c1 cT
      clear hd hbel
      by_cases h40 : 40 ∈ xv
      · rw [decide_eq_true h40] at cT
        clear h40
        go_wp2_with (go_at_call 9; (with_reducible refine (cT.out _).mono ?_); rintro e W3 ⟨rfl, hb3⟩; have HB3 := Lib.hid (HBw.out.trans (hb3.mono HBw.out.size)); clear hb3)
        go_ret
        exact ⟨rfl, HB3.out⟩
      · rw [decide_eq_false h40] at cT
        have HNo := Lib.hid (mem_take_succ (Q := fun v : Vr => 40 ∉ v.2) hno.out HD.out h40)
        clear h40
        go_wp2_with (go_at_call 9; (with_reducible refine (cT.out _).mono ?_); rintro e W3 ⟨rfl, hb3⟩; have HB3 := Lib.hid (HBl.out.trans (hb3.mono HBl.out.size)); clear hb3)
        go_roundw
        case rel => exact ⟨i + 1, by omega, by go_num, Lib.hid HNo.out, HB3.out⟩
        case measure => simp [intOf]; omega
    · obtain rfl : i = a.length := by omega
      have hag := HAg.out (by have := hno.out; rwa [List.take_length] at this)
      have cR3 := Lib.hid (cR2.out A2 c2 wr HBw.out (HR2.out.keep hbel hbel.size))
      rw [hag.2] at cR3
      have HRw := Lib.hid (HR2.out.keep hbel hbel.size)
      clear hbel hag
      go_wp2_with (first
        | (go_at_call 10; (with_reducible refine (cR3.out).mono ?_); rintro e W3 ⟨⟨A3, c3, rfl, hc3, hr3⟩, hb3⟩; have HB3 := Lib.hid (HBw.out.trans (hb3.mono HBw.out.size)); have cS := Lib.hid (same_ct2 A2 A3 c2 c3 a (by omega) W3 (HRw.out.keep hb3 hb3.size) hr3); clear hb3 hr3)
        | (go_at_call 11; (with_reducible refine (cS.out).mono ?_); rintro e W4 ⟨rfl, hb4⟩; have HB4 := Lib.hid (HB3.out.trans (hb4.mono HB3.out.size)); clear hb4))
      go_ret
      exact ⟨rfl, HB4.out⟩

end Go.Proofs.YtmjbaimccbkmpaaDoor.vrs
