/- Contracts and plain law, a bundle: Med6 Med7 Med8 Build2 Rul6 Fold0. -/
import Derived.Maps.AppendAt
import Derived.Lib.LaidTab
import Derived.Lib.Fold
import Derived.Test.YtmjbaimccbkmpaaGreatDoorBG
import Derived.Test.YtmjbaimccbkmpaaGreatDoorBA
import Derived.Test.YtmjbaimccbkmpaaGreatDoorBE

namespace Go.Proofs.YtmjbaimccbkmpaaGreatDoor.med
open Go.RowKit Go.Proofs.YtmjbaimccbkmpaaGreatDoor.base Go.Proofs.YtmjbaimccbkmpaaGreatDoor.tok Go.Proofs.YtmjbaimccbkmpaaGreatDoor.rul
set_option linter.unusedVariables false

/-! ### tokens as a text is cut into them -/
def TokOk (t : Tk) : Prop := EndOk t ∧ (t.k = 7 → t.val = [112, 120] → 2 ≤ t.raw.length) ∧ (t.raw = [40] → t.k = 10)
theorem mblk_too {t : Tk} {L : List Tk} (h : blkOk t L = true) : 2 ≤ blkLen t L := by
  unfold blkOk at h
  unfold blkLen
  cases hc : closeP [closerP t.raw] L with
  | none => rw [hc] at h; cases h
  | some e => have := close_le L _ e hc; simp; omega
theorem mclosed_is {t : Tk} {M : List Tk} (ho : opensP t = true) : (blkP [] (t :: M) 0).getD 0 = if blkOk t M = true then blkLen t M else 0 := by
  rw [blkP, if_pos ho, List.nil_append, blk_close]
  unfold blkOk blkLen
  cases closeP [closerP t.raw] M with
  | none => rfl
  | some e => simp; omega
theorem mmid_is {t : Tk} {M : List Tk} {q : Nat} : ((t :: M).take (q + 2 - 1)).drop 1 = M.take q := rfl
theorem behind_nil (f : Fe) (g : List Tk → Option (List Fe)) : behindT [] f g = some [f] := rfl
theorem behind_and {a : Tk} {R : List Tk} (h : wordT a = [97, 110, 100]) (f : Fe) (g : List Tk → Option (List Fe)) : behindT (a :: R) f g = (g R).map (f :: ·) := if_pos h
theorem behind_no {a : Tk} {R : List Tk} (h : ¬ wordT a = [97, 110, 100]) (f : Fe) (g : List Tk → Option (List Fe)) : behindT (a :: R) f g = none := if_neg h
theorem addr_at {b o k cap i : Nat} (h : i < cap) : addrAt k (some ⟨b, o, none⟩) cap i = some ⟨b, o + i * k, none⟩ := by
  unfold addrAt
  rw [if_neg (by omega)]
  simp only [Option.map_some, Option.some.injEq]
  unfold Addr.add
  split
  · rename_i hz; rw [hz]; rfl
  · rfl

/-- features as they lie -/
abbrev fc (f : Fe) : List Value := [.int .i64 f.k, .int .i64 f.n]
theorem fc_len (f : Fe) : (fc f).length = 2 := rfl
theorem infoF : (Tryz.prog.info? 55).map (fun i => (i.zero, i.size, i.bytes)) = some (some (.agg #[.int .i64 0, .int .i64 0]), 2, 16) := by kernel_rfl
def FS (B : Nat) (w : World) (v : Value) (L : List Fe) : Prop := ∃ A cap, v = .slice A L.length cap ∧ L.length ≤ cap ∧ Rd 2 fc w w.heap.size A L.length L ∧ ∀ b off, A = some ⟨b, off, none⟩ → B ≤ b
theorem FS.on {B : Nat} {w w' : World} {v : Value} {L : List Fe} (h : FS B w v L) (hb : Below w.heap.size w w') : FS B w' v L := by
  obtain ⟨A, cap, rfl, hc, hr, hx⟩ := h
  exact ⟨A, cap, rfl, hc, Rd.keep hr hb hb.size, hx⟩
theorem fs_row {w : World} {base : Nat} {v : Value} {L : List Fe} (h : w.ownsRow base 55 2 v L.length (flatR fc L)) : FS base w v L := by
  obtain ⟨A, cap, rfl, hc, hr⟩ := row_rd fc_len rfl h
  refine ⟨A, cap, rfl, hc, hr, fun b off e => ?_⟩
  subst e
  rcases h.2 with ⟨hv, _⟩ | ⟨g, cap', cur, hv, hb, _⟩
  · cases hv
  · injection hv with h1 h2 h3
    injection h1 with h1
    injection h1 with h1 _ _
    omega

theorem mfeature_ct (v : Value) (X : List Tk) (w : World) (hn : X.length ≤ 1000000) (hok : ∀ t ∈ X, TokOk t) (hts : TS w v X) (hE : MEnv w) :
    Calls Tryz.prog 45 #[v] w fun e w' => FRet (featP X) e ∧ Below w.heap.size w w' := by
  obtain ⟨A, cap, rfl, hc, hr⟩ := hts
  by_cases h3 : X.length = 3
  · match X, h3 with
    | [a, b, c], _ =>
      have ha := hok a (by simp)
      have hcc := hok c (by simp)
      exact mfeature_3 A cap a b c w hr ha.1.2.2.1 hcc.1.2.2.1 hcc.1.2.1 hcc.2.1 hE
  · rw [feat_no3 h3]
    exact mfeature_no3 A X.length cap hn h3 w

/-! ### the walk's worlds -/
abbrev QSt (w W : World) (no : Bool) (fv : Value) : Prop := Below w.heap.size w W ∧ Blk W w.heap.size 53 #[.bool false, .slice none 0 0] ∧ Blk W (w.heap.size + 1) 53 #[.bool no, fv]
theorem QSt.beg (w : World) : QSt w ((w.alloc (.cells #[.bool false, .slice none 0 0] 53)).alloc (.cells #[.bool false, .slice none 0 0] 53)) false (.slice none 0 0) :=
  ⟨((Below.refl w.heap.size w).alloc (Nat.le_refl _) _).alloc (by simp) _, (Blk.new rfl).alloc _, Blk.new (by simp)⟩
theorem QSt.on {w W W' : World} {no : Bool} {fv : Value} (h : QSt w W no fv) (hb : Below W.heap.size W W') : QSt w W' no fv :=
  ⟨h.1.trans (hb.mono h.1.size), h.2.1.below hb h.2.1.lt, h.2.2.below hb h.2.2.lt⟩
theorem QSt.alloc {w W : World} {no : Bool} {fv : Value} (h : QSt w W no fv) (o : Obj) : QSt w (W.alloc o) no fv := h.on ((Below.refl _ _).alloc (Nat.le_refl _) _)
theorem QSt.far {w W : World} {no : Bool} {fv : Value} (h : QSt w W no fv) {p : Addr} (hp : w.heap.size + 2 ≤ p.block) (v : Value) : QSt w (W.setCell p v) no fv :=
  ⟨h.1.setCell (by omega) v, h.2.1.far (by omega) v, h.2.2.far (by omega) v⟩
theorem QSt.grown {w W W' : World} {no : Bool} {fv v : Value} {e : TypeId} {s n : Nat} {xs : List Value} (h : QSt w W no fv) (hg : W.grownBy W' v.ownBlock) (hown : W.ownsRow (w.heap.size + 2) e s v n xs) : QSt w W' no fv := by
  have hz := h.2.2.lt
  refine ⟨below_app h.1 hg hown (by omega) (by omega), ?_, ?_⟩
  · exact (hg.block w.heap.size h.2.1.lt (fun e' => by have := (hown.lt _ e'.symm).1; omega)).trans h.2.1
  · exact (hg.block (w.heap.size + 1) h.2.2.lt (fun e' => by have := (hown.lt _ e'.symm).1; omega)).trans h.2.2
theorem QSt.room {w W : World} {no : Bool} {fv : Value} (h : QSt w W no fv) : w.heap.size + 2 ≤ W.heap.size := h.2.2.lt
theorem QSt.put {w W : World} {no : Bool} {fv : Value} (h : QSt w W no fv) (v : Value) : QSt w (W.setCell ⟨w.heap.size + 1, 1, none⟩ v) no v :=
  ⟨h.1.setCell (Nat.le_succ _) v, h.2.1.far (by simp) v, h.2.2.put 1 v⟩
theorem QSt.not {w W : World} {no : Bool} {fv : Value} (h : QSt w W no fv) : QSt w (W.setCell ⟨w.heap.size + 1, 0, none⟩ (.bool true)) true fv :=
  ⟨h.1.setCell (Nat.le_succ _) _, h.2.1.far (by simp) _, h.2.2.put 0 _⟩
theorem QSt.fin {w W : World} {no : Bool} {fv : Value} (h : QSt w W no fv) : (∀ i, ((W.setCell ⟨w.heap.size, 0, none⟩ (.bool no)).setCell ⟨w.heap.size, 1, none⟩ fv).cell? ⟨w.heap.size, i, none⟩ = (#[.bool no, fv] : Array Value)[i]?) ∧ Below w.heap.size w ((W.setCell ⟨w.heap.size, 0, none⟩ (.bool no)).setCell ⟨w.heap.size, 1, none⟩ fv) :=
  ⟨((h.2.1.put 0 (.bool no)).put 1 fv).cell, (h.1.setCell (Nat.le_refl _) _).setCell (Nat.le_refl _) _⟩

def QRel (w0 w : World) (R : Option (List Fe)) (no : Bool) (x : Value) (wr : World) : Prop :=
  ∃ (M : List Tk) (acc : List Fe) (fv : Value), (∀ t ∈ M, TokOk t) ∧ TS w0 x M ∧ (featsP M).map (acc ++ ·) = R ∧ acc.length + M.length ≤ 1000000 ∧ QSt w wr no fv ∧ wr.ownsRow (w.heap.size + 2) 55 2 fv acc.length (flatR fc acc)
/-- what query hands back -/
def QRet (B : Nat) (R : Option (List Fe)) (no : Bool) (e : Ending) (w' : World) : Prop :=
  (R = none ∧ ∃ bo A n c, e = .returned (.tuple #[.agg #[.bool bo, .slice A n c], .bool false])) ∨ ∃ fs fv, R = some fs ∧ e = .returned (.tuple #[.agg #[.bool no, fv], .bool true]) ∧ FS B w' fv fs
theorem QRet.none_ {B : Nat} {R : Option (List Fe)} {no : Bool} {w' : World} (h : R = none) (bo : Bool) (A : Option Addr) (n c : Nat) : QRet B R no (.returned (.tuple #[.agg #[.bool bo, .slice A n c], .bool false])) w' := .inl ⟨h, bo, A, n, c, rfl⟩
theorem QRet.some_ {B : Nat} {R : Option (List Fe)} {no : Bool} {w' : World} {fs : List Fe} {fv : Value} (h : R = some fs) (hf : FS B w' fv fs) : QRet B R no (.returned (.tuple #[.agg #[.bool no, fv], .bool true])) w' := .inr ⟨fs, fv, h, rfl, hf⟩
theorem row_fin {w W : World} {fv : Value} {n : Nat} {xs : List Value} {v1 v2 : Value} (h : W.ownsRow (w.heap.size + 2) 55 2 fv n xs) : ((W.setCell ⟨w.heap.size, 0, none⟩ v1).setCell ⟨w.heap.size, 1, none⟩ v2).ownsRow (w.heap.size + 2) 55 2 fv n xs :=
  ownsRow_setCell_below (ownsRow_setCell_below h (by simp) _) (by simp) _

theorem mquery_nil (A : Option Addr) (cap : Nat) (w : World) : Calls Tryz.prog 26 #[.slice A 0 cap] w fun e w' => QRet (w.heap.size + 2) (featsP []) false e w' ∧ Below w.heap.size w w' := by
  have HF := (QSt.beg w).fin
  go_enter Tryz.func26, Tryz.ntmps26
  go_wp2_with fail
  refine wp_loop_rounds 1 ?_
  rw [rounds_succ]
  go_wp2_with fail
  refine bodyPost_ret (v := .tuple #[.agg #[.bool false, .slice none 0 0], .bool false]) (by simp [results, Tryz.results26, go_sem]) rfl ⟨QRet.none_ feats_nil _ _ _ _, ?_⟩
  exact ((Below.refl _ _).alloc (Nat.le_refl _) _).alloc (by simp) _

set_option maxRecDepth 100000 in
set_option maxHeartbeats 16000000 in
theorem mquery_plain (t0 : Tk) (L : List Tk) (A : Option Addr) (cap : Nat) (w0 w : World) (hn : L.length ≤ 1000) (hc0 : L.length + 1 ≤ cap) (hL : TRd w0 w0.heap.size A (L.length + 1) (t0 :: L)) (hb0 : Below w0.heap.size w0 w) (hok0 : ∀ t ∈ t0 :: L, TokOk t) (hnot : ¬ wordT t0 = [110, 111, 116]) (hE : MEnv w) :
    Calls Tryz.prog 26 #[.slice A (L.length + 1) cap] w fun e w' => QRet (w.heap.size + 2) (featsP (t0 :: L)) false e w' ∧ Below w.heap.size w w' := by
  obtain ⟨i0, hi, hz0, hz1, hz2⟩ := info_parts infoF
  have Hz0 := Lib.hid hz0
  have Hi := Lib.hid hi
  have Hz1 := Lib.hid hz1
  have Hz2 := Lib.hid hz2
  clear hz0 hi hz1 hz2
  have HB0 := Lib.hid hb0
  have HE := Lib.hid hE
  have HOk0 := Lib.hid hok0
  have HL0 := Lib.hid hL
  obtain ⟨b, off, t', rfl, hbb, hd', e0, e1, e2, e3⟩ := TRd.tok (Rd.keep hL hb0 hb0.size) (k := 0) (Nat.succ_pos _)
  obtain rfl : t0 = t' := Option.some.inj hd'
  simp only [Nat.zero_mul, Nat.add_zero] at e0 e1 e2 e3
  have hz : (0 : Int) < (L.length : Int) + 1 := by omega
  have hn' : (L.length : Int) ≤ 1000 := by omega
  have cW := Lib.hid (fun w => mword_ct t0 (HOk0.out t0 (by simp)).1.2.2.1 w)
  have w1 : ((bs (wordT t0)).toList == [110, 111, 116]) = false := by rw [bs_toList]; simpa using hnot
  have HBeg := Lib.hid (QSt.beg w)
  have HTs0 := Lib.hid (show TS w0 (.slice (some ⟨b, off, none⟩) (L.length + 1) cap) (t0 :: L) from ⟨_, cap, rfl, hc0, HL0.out⟩)
  have HOkL := HOk0
  generalize hR : featsP (t0 :: L) = R
  have HR := Lib.hid hR
  clear hR hL hb0 hE hd' hok0 hnot
  obtain ⟨no, hno⟩ : ∃ no, no = false := ⟨_, rfl⟩
  rw [← hno]
  have HNo := Lib.hid hno
  clear hno
  go_enter Tryz.func26, Tryz.ntmps26
  go_wp2_with (go_at_call 43; (with_reducible refine (cW.out _).mono ?_); rintro e WX ⟨rfl, hbx⟩; have HStX := Lib.hid (HBeg.out.on hbx); clear hbx e0 e1 e2 e3)
  have HStL := Lib.hid (show QSt w _ no (.slice none 0 0) by rw [HNo.out]; exact HStX.out)
  go_loopw [0] (fun x wr => QRel w0 w R no x wr) (fun x _ => lenOf x)
  case atStart => exact ⟨(t0 :: L), [], .slice none 0 0, HOkL.out, HTs0.out, by rw [HR.out]; cases R <;> simp, by simp; omega, HStL.out, World.ownsRow_nil _ _ _ _⟩
  case round =>
    clear HStX
    obtain ⟨M, acc, fv, hok, hts, hinv, hal, hst, hrow⟩ := hrel
    obtain ⟨A, cap, rfl, hc, hrd0⟩ := hts
    obtain ⟨fa, fcap, rfl⟩ := row_form hrow
    have hB0 := HB0.out.trans (hst.1.mono HB0.out.size)
    have hrd := Rd.keep hrd0 hB0 hB0.size
    have HRd0 := Lib.hid hrd0
    have HSt := Lib.hid hst
    have HInv := Lib.hid hinv
    have HRow := Lib.hid hrow
    have HOk := Lib.hid hok
    have HAl := Lib.hid hal
    have cQ := HSt.out.2.2.cell
    have cR := HSt.out.2.1.cell
    have fR := HSt.out.2.1.frozen
    clear hB0 hst hinv hrow hok hrd0
    match M with
    | [] =>
      have HFin := Lib.hid (show R = none by rw [← HInv.out, feats_nil]; rfl)
      simp only [List.length_nil]
      clear hrd hc hal
      go_wp2_with fail
      have hfin := HSt.out.fin
      have hfc := hfin.1
      refine bodyPost_ret (v := .tuple #[.agg #[.bool no, .slice fa acc.length fcap], .bool false]) (by simp [results, Tryz.results26, go_sem, hfc]) rfl ⟨QRet.none_ HFin.out _ _ _ _, hfin.2⟩
    | t :: M =>
      have hlen : (t :: M).length = M.length + 1 := rfl
      rw [hlen] at hrd hc hal ⊢
      obtain ⟨b, off, t', rfl, hbb, hd', e0, e1, e2, e3⟩ := TRd.tok hrd (k := 0) (Nat.succ_pos _)
      obtain rfl : t = t' := Option.some.inj hd'
      simp only [Nat.zero_mul, Nat.add_zero] at e0 e1 e2 e3
      have hz : (0 : Int) < (M.length : Int) + 1 := by omega
      have hM' : (M.length : Int) ≤ 999999 := by omega
      have HTok := Lib.hid (HOk.out t (by simp))
      have cW := Lib.hid (fun w => mword_ct t HTok.out.1.2.2.1 w)
      have cK := Lib.hid (fun w (h : MEnv w) => mkind_ct (wordT t) w h.2.1)
      have kr := kind_range (wordT t)
      have hbb0 : b < wr.heap.size := hbb
      clear hrd hd' hlen hal
      by_cases hr : t.raw = [40]
      · have b1 : ((bs t.raw).toList == [40]) = true := by rw [bs_toList]; simpa using hr
        have ho : opensP t = true := by unfold opensP; rw [HTok.out.2.2 hr]; rfl
        have hcl := mclosed_is (M := M) ho
        have hbd := blkLen_bd t M
        have cN := Lib.hid (fun W (h : Below w.heap.size w W) => mend_ct (some ⟨b, off, none⟩) cap (t :: M) W (by simp only [List.length_cons]; omega) (Rd.keep HRd0.out (HB0.out.trans (h.mono HB0.out.size)) (HB0.out.trans (h.mono HB0.out.size)).size) (fun y hy => (HOk.out y hy).1) (fun y hy => by have e : t = y := (by simpa using hy); rw [← e]; exact ho))
        rw [hcl] at cN
        simp only [List.length_cons] at cN
        cases hbo : blkOk t M
        · have HFin := Lib.hid (show R = none by rw [← HInv.out, feats_open hr hbo]; rfl)
          rw [hbo] at cN
          simp only [Bool.false_eq_true, if_false] at cN
          clear hcl hbd hr hbo
          go_wp2_with (first
            | (go_at_call 43; (with_reducible refine (cW.out _).mono ?_); rintro e W1 ⟨rfl, hb1⟩; have HSt1 := Lib.hid (HSt.out.on hb1); have HB1 := Lib.hid HSt1.out.1; have hrow1 := Lib.hid (row_on HRow.out hb1); have cQ1 := HSt1.out.2.2.cell; have cR1 := HSt1.out.2.1.cell; have fR1 := HSt1.out.2.1.frozen; have zR1 := HSt1.out.2.1.lt; have zQ1 := HSt1.out.2.2.lt; have zB1 : b < W1.heap.size := Nat.lt_of_lt_of_le hbb0 hb1.size; have y1 : W1.cell? ⟨b, off + 1, none⟩ = some (.string (bs t.raw)) := (hb1.cell (p := ⟨b, off + 1, none⟩) hbb0).trans e1; clear hb1 e0 e1 e2 e3)
            | (go_at_call 44; (with_reducible refine (cK.out _ (HE.out.on HB1.out)).mono ?_); rintro e W2 ⟨rfl, rfl⟩)
            | (go_at_call 42; (with_reducible refine (cN.out _ (HB1.out.alloc HB1.out.size _)).mono ?_); rintro e W3 ⟨rfl, hb3⟩; have HSt3 := Lib.hid ((HSt1.out.alloc _).on hb3); have cQ3 := HSt3.out.2.2.cell; have cR3 := HSt3.out.2.1.cell; have fR3 := HSt3.out.2.1.frozen; clear hb3 y1 cQ1 cR1 fR1))
          have hfin := HSt3.out.fin
          have hfc := hfin.1
          refine bodyPost_ret (v := .tuple #[.agg #[.bool no, .slice fa acc.length fcap], .bool false]) (by simp [results, Tryz.results26, go_sem, hfc]) rfl ⟨QRet.none_ HFin.out _ _ _ _, hfin.2⟩
        · obtain ⟨q, hq⟩ : ∃ q, blkLen t M = q + 2 := ⟨blkLen t M - 2, by have := mblk_too hbo; omega⟩
          have HCons := Lib.hid (show (behindT ((t :: M).drop (q + 2)) (featP (M.take q)) featsP).map (acc ++ ·) = R by rw [← HInv.out, feats_blk hr hbo, hq]; rfl)
          rw [hbo, hq] at cN
          simp only [if_true] at cN
          rw [hq] at hbd
          have hbdi := Lib.hid (show (q : Int) + 2 ≤ (M.length : Int) + 1 by omega)
          have hqi : (q : Int) ≤ 999999 := by omega
          have hTm := fun W (h : Below w.heap.size w W) => ts_cut (Rd.keep HRd0.out (HB0.out.trans (h.mono HB0.out.size)) (HB0.out.trans (h.mono HB0.out.size)).size) hc (i := 1) (m := q) (by simp only [List.length_cons]; omega)
          have cF0 := Lib.hid (fun W (h : Below w.heap.size w W) => mfeature_ct _ _ W (by simp only [List.length_take, List.length_drop, List.length_cons]; omega) (fun y hy => HOk.out y (List.mem_of_mem_drop (List.mem_of_mem_take hy))) (hTm W h) (HE.out.on h))
          simp only [List.drop_succ_cons, List.drop_zero] at cF0
          have HGood := feat_good (M.take q)
          have hfe : featP (M.take q) = ⟨(featP (M.take q)).k, (featP (M.take q)).n⟩ := rfl
          obtain ⟨fk, fn, hff⟩ : ∃ k n, featP (M.take q) = ⟨k, n⟩ := ⟨_, _, rfl⟩
          rw [hff] at HCons cF0
          simp only [FRet] at cF0
          have q1 : IntKind.i64.wrap ((q : Int) + 2 - 1) = (q : Int) + 1 := by rw [show (q : Int) + 2 - 1 = (q : Int) + 1 by omega]; exact IntWalk.i64_in _ (by omega)
          have qz : (((q : Int) + 2) == 0) = false := by simp; omega
          have hsb := fun w => slice_both (P := Tryz.prog) (k := 4) Tryz.underlying63 Tryz.sizeOf81 (some ⟨b, off, none⟩) (M.length + 1) cap 1 ((q : Int) + 1) (by omega) (by omega) (by omega) w
          simp only [show (1 : Int).toNat = 1 from rfl, show ((q : Int) + 1).toNat = q + 1 from by omega, Nat.add_sub_cancel] at hsb
          have hsl := fun w => slice_from (P := Tryz.prog) (k := 4) Tryz.underlying63 Tryz.sizeOf81 (some ⟨b, off, none⟩) (M.length + 1) cap ((q : Int) + 2) (by omega) (by omega) w
          simp only [show ((q : Int) + 2).toNat = q + 2 from by omega] at hsl
          clear hcl hr hbo HGood hfe hff hTm
          go_upto_region 15 with (first
            | (go_at_call 43; (with_reducible refine (cW.out _).mono ?_); rintro e W1 ⟨rfl, hb1⟩; have HSt1 := Lib.hid (HSt.out.on hb1); have HB1 := Lib.hid HSt1.out.1; have hrow1 := Lib.hid (row_on HRow.out hb1); have cQ1 := HSt1.out.2.2.cell; have cR1 := HSt1.out.2.1.cell; have fR1 := HSt1.out.2.1.frozen; have zR1 := HSt1.out.2.1.lt; have zQ1 := HSt1.out.2.2.lt; have zB1 : b < W1.heap.size := Nat.lt_of_lt_of_le hbb0 hb1.size; have y1 : W1.cell? ⟨b, off + 1, none⟩ = some (.string (bs t.raw)) := (hb1.cell (p := ⟨b, off + 1, none⟩) hbb0).trans e1; clear hb1 e0 e1 e2 e3)
            | (go_at_call 44; (with_reducible refine (cK.out _ (HE.out.on HB1.out)).mono ?_); rintro e W2 ⟨rfl, rfl⟩)
            | (go_at_call 42; (with_reducible refine (cN.out _ (HB1.out.alloc HB1.out.size _)).mono ?_); rintro e W3 ⟨rfl, hb3⟩; have HSt3 := Lib.hid ((HSt1.out.alloc _).on hb3); have HB3 := Lib.hid HSt3.out.1; have hrow3 := Lib.hid (row_on (hrow1.out.alloc _) hb3); have bF3 := (Blk.new (w := W1) (t := 55) (cs := #[.int .i64 (kindP (wordT t)), .int .i64 0]) rfl).below hb3 (by simp); replace bF3 := Lib.hid bF3; clear hb3 y1 cQ1 cR1 fR1)
            | (go_at_call 45; (with_reducible refine (cF0.out _ HB3.out).mono ?_); rintro e W4 ⟨rfl, hb4⟩; have HSt5 := Lib.hid (HSt3.out.on hb4); have hrow5 := Lib.hid (row_on hrow3.out hb4); have bF5 := bF3.out.below hb4 bF3.out.lt; have cF5 := bF5.cell; have fF5 := bF5.frozen; replace bF5 := Lib.hid bF5; clear hb4))
          generalize hV : (W4.setCell ⟨W1.heap.size, 0, none⟩ (.int .i64 fk)).setCell ⟨W1.heap.size, 1, none⟩ (.int .i64 fn) = V
          have HStV := Lib.hid (show QSt w V no (.slice fa acc.length fcap) by subst hV; exact (HSt5.out.far (by have := HSt1.out.room; simpa using this) _).far (by have := HSt1.out.room; simpa using this) _)
          have HRowV := Lib.hid (show V.ownsRow (w.heap.size + 2) 55 2 (.slice fa acc.length fcap) acc.length (flatR fc acc) by
            subst hV
            have hne : (Value.slice fa acc.length fcap).ownBlock ≠ some W1.heap.size := fun e => by have := (hrow1.out.lt _ e).2; omega
            exact ownsRow_setCell_other (ownsRow_setCell_other hrow5.out hne _) hne _)
          have cF := (show Blk V W1.heap.size 55 #[.int .i64 fk, .int .i64 fn] by subst hV; exact (bF5.out.put 0 _).put 1 _).cell
          have cQV := HStV.out.2.2.cell
          clear hV cF5 fF5
          go_wp2_with (at_builtin; refine wpList_append_own _ rfl _ _ 51 rfl (w.heap.size + 2) 55 i0 (.agg #[.int .i64 0, .int .i64 0]) 2 16 Tryz.underlying51 Hi.out Hz0.out Hz1.out Hz2.out rfl (by decide) _ _ _ rfl (HRowV.out.alloc _) ⟨V.heap.size, 0, none⟩ 1 1 [.int .i64 (fk), .int .i64 (fn)] rfl rfl ?c1 ?c2 ?c3 ?c4 ?c5 ?_)
          case c1 => exact (Blk.new (w := V) (t := 55) (cs := #[.int .i64 (fk), .int .i64 (fn)]) rfl).news
          case c2 => simp [Value.oneCell']
          case c3 => have := HAl.out; unfold maxLen; omega
          case c4 => have := HAl.out; omega
          case c5 => have := HStV.out.room; simp; omega
          intro v' w3 hown3 hgrow3 hnil3
          obtain ⟨va, vc, rfl⟩ := row_form hown3
          have HSt3 := Lib.hid ((HStV.out.alloc _).grown hgrow3 (HRowV.out.alloc _))
          have cQ3 := HSt3.out.2.2.cell
          have fQ3 := HSt3.out.2.2.frozen
          replace hown3 := Lib.hid hown3
          clear hgrow3 hnil3 cF cQV
          go_upto_region 16 with (fail)
          generalize hV2 : w3.setCell ⟨w.heap.size + 1, 1, none⟩ (.slice va (acc.length + 1) vc) = V2
          have HSt4 := Lib.hid (show QSt w V2 no (.slice va (acc.length + 1) vc) by subst hV2; exact HSt3.out.put _)
          have HRow4 := Lib.hid (show V2.ownsRow (w.heap.size + 2) 55 2 (.slice va (acc.length + 1) vc) (acc.length + 1) (flatR fc (acc ++ [⟨fk, fn⟩])) by subst hV2; rw [flatR_snoc]; exact ownsRow_setCell_below hown3.out (by simp) _)
          have cQ4 := HSt4.out.2.2.cell
          have cR4 := HSt4.out.2.1.cell
          have fR4 := HSt4.out.2.1.frozen
          clear hV2 cQ3 fQ3
          have HEq := Lib.hid (show (behindT ((t :: M).drop (q + 2)) ⟨fk, fn⟩ featsP).map (acc ++ ·) = R from HCons.out)
          generalize hRest : ((t :: M).drop (q + 2)) = X at *
          have HX := Lib.hid hRest
          clear hRest
          match X with
          | [] =>
            have HFin := Lib.hid (show R = some (acc ++ [⟨fk, fn⟩]) by rw [← HEq.out, behind_nil]; rfl)
            have z0 : ((((M.length + 1) - (q + 2) : Nat) : Int) == 0) = true := by have h := congrArg List.length HX.out; simp at h; simp; omega
            go_wp2_with fail
            have hfin := HSt4.out.fin
            have hfc := hfin.1
            refine bodyPost_ret (v := .tuple #[.agg #[.bool no, .slice va (acc.length + 1) vc], .bool true]) (by simp [results, Tryz.results26, go_sem, hfc]) rfl ⟨QRet.some_ HFin.out (fs_row (by simpa using row_fin HRow4.out)), hfin.2⟩
          | a :: R' =>
            have hlx := Lib.hid (show M.length + 1 = q + 2 + (R'.length + 1) by have h := congrArg List.length HX.out; simp at h; omega)
            have z0 : (((R'.length + 1 : Nat) : Int) == 0) = false := by simp; omega
            have hcx := hlx.out
            have haddr := addr_at (b := b) (o := off) (k := 4) (cap := cap) (i := q + 2) (by omega)
            have ed : (M.length + 1) - (q + 2) = R'.length + 1 := by omega
            have had : (t :: M)[q + 2]? = some a := by have := congrArg (·[0]?) HX.out; simpa using this
            have HAok := Lib.hid (HOk.out a (List.mem_of_getElem? had))
            obtain ⟨b2, off2, a2, hA2, hbb2, hd2, x0, x1, x2, x3⟩ := TRd.tok (Rd.keep HRd0.out (HB0.out.trans (HSt4.out.1.mono HB0.out.size)) (HB0.out.trans (HSt4.out.1.mono HB0.out.size)).size) (k := q + 2) (by simp only [List.length_cons]; omega)
            obtain rfl : a = a2 := Option.some.inj (had.symm.trans hd2)
            obtain ⟨rfl, rfl⟩ : b = b2 ∧ off = off2 := by injection hA2 with hA2; injection hA2 with q1 q2; exact ⟨q1, q2⟩
            have HTsR := Lib.hid (show TS w0 (.slice (addrAt 4 (some ⟨b, off + (q + 2) * 4, none⟩) (cap - (q + 2)) 1) R'.length (cap - (q + 2) - 1)) R' by
              have h1 := rd_from (n := (M.length + 1)) HRd0.out hc (i := q + 2) (by omega)
              rw [haddr, HX.out, ed] at h1
              have h2 := ts_from h1 (by omega : R'.length + 1 ≤ cap - (q + 2)) (i := 1) (by omega)
              simpa using h2)
            have HOkR := Lib.hid (show ∀ y ∈ R', TokOk y from fun y hy => HOk.out y (List.mem_of_mem_drop (i := q + 2) (by rw [HX.out]; exact List.mem_cons_of_mem _ hy)))
            have hsr := fun w => slice_from (P := Tryz.prog) (k := 4) Tryz.underlying63 Tryz.sizeOf81 (some ⟨b, off + (q + 2) * 4, none⟩) (R'.length + 1) (cap - (q + 2)) 1 (by omega) (by omega) w
            simp only [show (1 : Int).toNat = 1 from rfl, Nat.add_sub_cancel] at hsr
            have hz2 : (0 : Int) < (R'.length : Int) + 1 := by omega
            rw [haddr, ed] at hsl
            have cA := Lib.hid (fun w => mword_ct a HAok.out.1.2.2.1 w)
            clear had hd2 hA2 haddr ed hcx
            by_cases hand : wordT a = [97, 110, 100]
            · have HNew := Lib.hid (show (featsP R').map ((acc ++ [⟨fk, fn⟩]) ++ ·) = R by
                rw [← HEq.out, behind_and hand, Option.map_map]
                congr 1
                funext y
                simp)
              have w1 : ((bs (wordT a)).toList == [97, 110, 100]) = true := by rw [bs_toList]; simpa using hand
              have w2 : ((bs (wordT a)).toList != [97, 110, 100]) = false := by rw [bs_toList]; simpa using hand
              clear hand
              go_wp2_with (go_at_call 43; (with_reducible refine (cA.out _).mono ?_); rintro e W5 ⟨rfl, hb5⟩; have HSt5 := Lib.hid (HSt4.out.on hb5); have hrow5 := Lib.hid (row_on HRow4.out hb5); clear hb5 x0 x1 x2 x3 cQ4 cR4 fR4)
              go_roundw
              case rel => exact ⟨R', acc ++ [⟨fk, fn⟩], .slice va (acc.length + 1) vc, HOkR.out, HTsR.out, HNew.out, (by have h1 := HAl.out; have h2 := hlx.out; simp only [List.length_cons, List.length_append, List.length_nil] at h1 ⊢; omega), HSt5.out, by simpa using hrow5.out⟩
              case measure => simp only [lenOf]; have := hlx.out; omega
            · have HFin := Lib.hid (show R = none by rw [← HEq.out, behind_no hand]; rfl)
              have w1 : ((bs (wordT a)).toList == [97, 110, 100]) = false := by rw [bs_toList]; simpa using hand
              have w2 : ((bs (wordT a)).toList != [97, 110, 100]) = true := by rw [bs_toList]; simpa using hand
              clear hand
              go_wp2_with (go_at_call 43; (with_reducible refine (cA.out _).mono ?_); rintro e W5 ⟨rfl, hb5⟩; have HSt5 := Lib.hid (HSt4.out.on hb5); have cQ5 := HSt5.out.2.2.cell; have cR5 := HSt5.out.2.1.cell; have fR5 := HSt5.out.2.1.frozen; clear hb5 x0 x1 x2 x3 cQ4 cR4 fR4)
              have hfin := HSt5.out.fin
              have hfc := hfin.1
              refine bodyPost_ret (v := .tuple #[.agg #[.bool no, .slice va (acc.length + 1) vc], .bool false]) (by simp [results, Tryz.results26, go_sem, hfc]) rfl ⟨QRet.none_ HFin.out _ _ _ _, hfin.2⟩
      · have b1 : ((bs t.raw).toList == [40]) = false := by rw [bs_toList]; simpa using hr
        by_cases hk : 3 < kindP (wordT t)
        · have HFin := Lib.hid (show R = none by rw [← HInv.out, feats_bad hr hk]; rfl)
          clear hr
          go_wp2_with (first
            | (go_at_call 43; (with_reducible refine (cW.out _).mono ?_); rintro e W1 ⟨rfl, hb1⟩; have HSt1 := Lib.hid (HSt.out.on hb1); have HB1 := Lib.hid HSt1.out.1; have hrow1 := Lib.hid (row_on HRow.out hb1); have cQ1 := HSt1.out.2.2.cell; have cR1 := HSt1.out.2.1.cell; have fR1 := HSt1.out.2.1.frozen; have zR1 := HSt1.out.2.1.lt; have zQ1 := HSt1.out.2.2.lt; have zB1 : b < W1.heap.size := Nat.lt_of_lt_of_le hbb0 hb1.size; have y1 : W1.cell? ⟨b, off + 1, none⟩ = some (.string (bs t.raw)) := (hb1.cell (p := ⟨b, off + 1, none⟩) hbb0).trans e1; clear hb1 e0 e1 e2 e3)
            | (go_at_call 44; (with_reducible refine (cK.out _ (HE.out.on HB1.out)).mono ?_); rintro e W2 ⟨rfl, rfl⟩))
          have hfin := HSt1.out.fin
          have hfc := (((HSt1.out.2.1.put 0 (.bool no)).put 1 (.slice fa acc.length fcap)).alloc (.cells #[.int .i64 (kindP (wordT t)), .int .i64 0] 55)).cell
          refine bodyPost_ret (v := .tuple #[.agg #[.bool no, .slice fa acc.length fcap], .bool false]) (by simp [results, Tryz.results26, go_sem, hfc]) rfl ⟨QRet.none_ HFin.out _ _ _ _, hfin.2.alloc (by have := HSt1.out.1.size; simpa [World.setCell] using this) _⟩
        · have HCons := Lib.hid (show (behindT M ⟨kindP (wordT t), 0⟩ featsP).map (acc ++ ·) = R by rw [← HInv.out, feats_word hr hk])
          have hsl := fun w => slice_from (P := Tryz.prog) (k := 4) Tryz.underlying63 Tryz.sizeOf81 (some ⟨b, off, none⟩) (M.length + 1) cap 1 (by omega) (by omega) w
          simp only [show (1 : Int).toNat = 1 from rfl] at hsl
          clear hr
          go_upto_region 15 with (first
            | (go_at_call 43; (with_reducible refine (cW.out _).mono ?_); rintro e W1 ⟨rfl, hb1⟩; have HSt1 := Lib.hid (HSt.out.on hb1); have HB1 := Lib.hid HSt1.out.1; have hrow1 := Lib.hid (row_on HRow.out hb1); have cQ1 := HSt1.out.2.2.cell; have cR1 := HSt1.out.2.1.cell; have fR1 := HSt1.out.2.1.frozen; have zR1 := HSt1.out.2.1.lt; have zQ1 := HSt1.out.2.2.lt; have zB1 : b < W1.heap.size := Nat.lt_of_lt_of_le hbb0 hb1.size; have y1 : W1.cell? ⟨b, off + 1, none⟩ = some (.string (bs t.raw)) := (hb1.cell (p := ⟨b, off + 1, none⟩) hbb0).trans e1; clear hb1 e0 e1 e2 e3)
            | (go_at_call 44; (with_reducible refine (cK.out _ (HE.out.on HB1.out)).mono ?_); rintro e W2 ⟨rfl, rfl⟩))
          generalize hV : W1.alloc (.cells #[.int .i64 (kindP (wordT t)), .int .i64 0] 55) = V
          have HStV := Lib.hid (show QSt w V no (.slice fa acc.length fcap) by subst hV; exact HSt1.out.alloc _)
          have HRowV := Lib.hid (show V.ownsRow (w.heap.size + 2) 55 2 (.slice fa acc.length fcap) acc.length (flatR fc acc) by subst hV; exact hrow1.out.alloc _)
          have cF := (show Blk V W1.heap.size 55 #[.int .i64 (kindP (wordT t)), .int .i64 0] by subst hV; exact Blk.new rfl).cell
          have cQV := HStV.out.2.2.cell
          clear hV cQ1 cR1 fR1 y1
          go_wp2_with (at_builtin; refine wpList_append_own _ rfl _ _ 51 rfl (w.heap.size + 2) 55 i0 (.agg #[.int .i64 0, .int .i64 0]) 2 16 Tryz.underlying51 Hi.out Hz0.out Hz1.out Hz2.out rfl (by decide) _ _ _ rfl (HRowV.out.alloc _) ⟨V.heap.size, 0, none⟩ 1 1 [.int .i64 (kindP (wordT t)), .int .i64 (0)] rfl rfl ?c1 ?c2 ?c3 ?c4 ?c5 ?_)
          case c1 => exact (Blk.new (w := V) (t := 55) (cs := #[.int .i64 (kindP (wordT t)), .int .i64 (0)]) rfl).news
          case c2 => simp [Value.oneCell']
          case c3 => have := HAl.out; unfold maxLen; omega
          case c4 => have := HAl.out; omega
          case c5 => have := HStV.out.room; simp; omega
          intro v' w3 hown3 hgrow3 hnil3
          obtain ⟨va, vc, rfl⟩ := row_form hown3
          have HSt3 := Lib.hid ((HStV.out.alloc _).grown hgrow3 (HRowV.out.alloc _))
          have cQ3 := HSt3.out.2.2.cell
          have fQ3 := HSt3.out.2.2.frozen
          replace hown3 := Lib.hid hown3
          clear hgrow3 hnil3 cF cQV
          go_upto_region 16 with (fail)
          generalize hV2 : w3.setCell ⟨w.heap.size + 1, 1, none⟩ (.slice va (acc.length + 1) vc) = V2
          have HSt4 := Lib.hid (show QSt w V2 no (.slice va (acc.length + 1) vc) by subst hV2; exact HSt3.out.put _)
          have HRow4 := Lib.hid (show V2.ownsRow (w.heap.size + 2) 55 2 (.slice va (acc.length + 1) vc) (acc.length + 1) (flatR fc (acc ++ [⟨kindP (wordT t), 0⟩])) by subst hV2; rw [flatR_snoc]; exact ownsRow_setCell_below hown3.out (by simp) _)
          have cQ4 := HSt4.out.2.2.cell
          have cR4 := HSt4.out.2.1.cell
          have fR4 := HSt4.out.2.1.frozen
          clear hV2 cQ3 fQ3
          have HEq := Lib.hid (show (behindT ((t :: M).drop (1)) ⟨kindP (wordT t), 0⟩ featsP).map (acc ++ ·) = R from HCons.out)
          generalize hRest : ((t :: M).drop (1)) = X at *
          have HX := Lib.hid hRest
          clear hRest
          match X with
          | [] =>
            have HFin := Lib.hid (show R = some (acc ++ [⟨kindP (wordT t), 0⟩]) by rw [← HEq.out, behind_nil]; rfl)
            have z0 : ((((M.length + 1) - 1 : Nat) : Int) == 0) = true := by have h := congrArg List.length HX.out; simp at h; simp; omega
            go_wp2_with fail
            have hfin := HSt4.out.fin
            have hfc := hfin.1
            refine bodyPost_ret (v := .tuple #[.agg #[.bool no, .slice va (acc.length + 1) vc], .bool true]) (by simp [results, Tryz.results26, go_sem, hfc]) rfl ⟨QRet.some_ HFin.out (fs_row (by simpa using row_fin HRow4.out)), hfin.2⟩
          | a :: R' =>
            have hlx := Lib.hid (show M.length + 1 = 1 + (R'.length + 1) by have h := congrArg List.length HX.out; simp at h; omega)
            have z0 : (((R'.length + 1 : Nat) : Int) == 0) = false := by simp; omega
            have hcx := hlx.out
            have haddr := addr_at (b := b) (o := off) (k := 4) (cap := cap) (i := 1) (by omega)
            have ed : (M.length + 1) - 1 = R'.length + 1 := by omega
            have had : (t :: M)[1]? = some a := by have := congrArg (·[0]?) HX.out; simpa using this
            have HAok := Lib.hid (HOk.out a (List.mem_of_getElem? had))
            obtain ⟨b2, off2, a2, hA2, hbb2, hd2, x0, x1, x2, x3⟩ := TRd.tok (Rd.keep HRd0.out (HB0.out.trans (HSt4.out.1.mono HB0.out.size)) (HB0.out.trans (HSt4.out.1.mono HB0.out.size)).size) (k := 1) (by simp only [List.length_cons]; omega)
            obtain rfl : a = a2 := Option.some.inj (had.symm.trans hd2)
            obtain ⟨rfl, rfl⟩ : b = b2 ∧ off = off2 := by injection hA2 with hA2; injection hA2 with q1 q2; exact ⟨q1, q2⟩
            have HTsR := Lib.hid (show TS w0 (.slice (addrAt 4 (some ⟨b, off + 1 * 4, none⟩) (cap - 1) 1) R'.length (cap - 1 - 1)) R' by
              have h1 := rd_from (n := (M.length + 1)) HRd0.out hc (i := 1) (by omega)
              rw [haddr, HX.out, ed] at h1
              have h2 := ts_from h1 (by omega : R'.length + 1 ≤ cap - 1) (i := 1) (by omega)
              simpa using h2)
            have HOkR := Lib.hid (show ∀ y ∈ R', TokOk y from fun y hy => HOk.out y (List.mem_of_mem_drop (i := 1) (by rw [HX.out]; exact List.mem_cons_of_mem _ hy)))
            have hsr := fun w => slice_from (P := Tryz.prog) (k := 4) Tryz.underlying63 Tryz.sizeOf81 (some ⟨b, off + 1 * 4, none⟩) (R'.length + 1) (cap - 1) 1 (by omega) (by omega) w
            simp only [show (1 : Int).toNat = 1 from rfl, Nat.add_sub_cancel] at hsr
            have hz2 : (0 : Int) < (R'.length : Int) + 1 := by omega
            rw [haddr, ed] at hsl
            have cA := Lib.hid (fun w => mword_ct a HAok.out.1.2.2.1 w)
            clear had hd2 hA2 haddr ed hcx
            by_cases hand : wordT a = [97, 110, 100]
            · have HNew := Lib.hid (show (featsP R').map ((acc ++ [⟨kindP (wordT t), 0⟩]) ++ ·) = R by
                rw [← HEq.out, behind_and hand, Option.map_map]
                congr 1
                funext y
                simp)
              have w1 : ((bs (wordT a)).toList == [97, 110, 100]) = true := by rw [bs_toList]; simpa using hand
              have w2 : ((bs (wordT a)).toList != [97, 110, 100]) = false := by rw [bs_toList]; simpa using hand
              clear hand
              go_wp2_with (go_at_call 43; (with_reducible refine (cA.out _).mono ?_); rintro e W5 ⟨rfl, hb5⟩; have HSt5 := Lib.hid (HSt4.out.on hb5); have hrow5 := Lib.hid (row_on HRow4.out hb5); clear hb5 x0 x1 x2 x3 cQ4 cR4 fR4)
              go_roundw
              case rel => exact ⟨R', acc ++ [⟨kindP (wordT t), 0⟩], .slice va (acc.length + 1) vc, HOkR.out, HTsR.out, HNew.out, (by have h1 := HAl.out; have h2 := hlx.out; simp only [List.length_cons, List.length_append, List.length_nil] at h1 ⊢; omega), HSt5.out, by simpa using hrow5.out⟩
              case measure => simp only [lenOf]; have := hlx.out; omega
            · have HFin := Lib.hid (show R = none by rw [← HEq.out, behind_no hand]; rfl)
              have w1 : ((bs (wordT a)).toList == [97, 110, 100]) = false := by rw [bs_toList]; simpa using hand
              have w2 : ((bs (wordT a)).toList != [97, 110, 100]) = true := by rw [bs_toList]; simpa using hand
              clear hand
              go_wp2_with (go_at_call 43; (with_reducible refine (cA.out _).mono ?_); rintro e W5 ⟨rfl, hb5⟩; have HSt5 := Lib.hid (HSt4.out.on hb5); have cQ5 := HSt5.out.2.2.cell; have cR5 := HSt5.out.2.1.cell; have fR5 := HSt5.out.2.1.frozen; clear hb5 x0 x1 x2 x3 cQ4 cR4 fR4)
              have hfin := HSt5.out.fin
              have hfc := hfin.1
              refine bodyPost_ret (v := .tuple #[.agg #[.bool no, .slice va (acc.length + 1) vc], .bool false]) (by simp [results, Tryz.results26, go_sem, hfc]) rfl ⟨QRet.none_ HFin.out _ _ _ _, hfin.2⟩

set_option maxRecDepth 100000 in
set_option maxHeartbeats 16000000 in
theorem mquery_not (t0 : Tk) (L : List Tk) (A : Option Addr) (cap : Nat) (w0 w : World) (hn : L.length ≤ 1000) (hc0 : L.length + 1 ≤ cap) (hL : TRd w0 w0.heap.size A (L.length + 1) (t0 :: L)) (hb0 : Below w0.heap.size w0 w) (hok0 : ∀ t ∈ t0 :: L, TokOk t) (hnot : wordT t0 = [110, 111, 116]) (hE : MEnv w) :
    Calls Tryz.prog 26 #[.slice A (L.length + 1) cap] w fun e w' => QRet (w.heap.size + 2) (featsP L) true e w' ∧ Below w.heap.size w w' := by
  obtain ⟨i0, hi, hz0, hz1, hz2⟩ := info_parts infoF
  have Hz0 := Lib.hid hz0
  have Hi := Lib.hid hi
  have Hz1 := Lib.hid hz1
  have Hz2 := Lib.hid hz2
  clear hz0 hi hz1 hz2
  have HB0 := Lib.hid hb0
  have HE := Lib.hid hE
  have HOk0 := Lib.hid hok0
  have HL0 := Lib.hid hL
  obtain ⟨b, off, t', rfl, hbb, hd', e0, e1, e2, e3⟩ := TRd.tok (Rd.keep hL hb0 hb0.size) (k := 0) (Nat.succ_pos _)
  obtain rfl : t0 = t' := Option.some.inj hd'
  simp only [Nat.zero_mul, Nat.add_zero] at e0 e1 e2 e3
  have hz : (0 : Int) < (L.length : Int) + 1 := by omega
  have hn' : (L.length : Int) ≤ 1000 := by omega
  have cW := Lib.hid (fun w => mword_ct t0 (HOk0.out t0 (by simp)).1.2.2.1 w)
  have w1 : ((bs (wordT t0)).toList == [110, 111, 116]) = true := by rw [bs_toList]; simpa using hnot
  have HBeg := Lib.hid (QSt.beg w)
  have HTs0 := Lib.hid (show TS w0 (.slice (addrAt 4 (some ⟨b, off, none⟩) cap 1) L.length (cap - 1)) L from by have := ts_from (n := L.length + 1) HL0.out hc0 (i := 1) (by omega); simpa using this)
  have HOkL := Lib.hid (show ∀ t ∈ L, TokOk t from fun t ht => HOk0.out t (List.mem_cons_of_mem _ ht))
  have hsl := fun w => slice_from (P := Tryz.prog) (k := 4) Tryz.underlying63 Tryz.sizeOf81 (some ⟨b, off, none⟩) (L.length + 1) cap 1 (by omega) (by omega) w
  simp only [show (1 : Int).toNat = 1 from rfl, Nat.add_sub_cancel] at hsl
  generalize hR : featsP L = R
  have HR := Lib.hid hR
  clear hR hL hb0 hE hd' hok0 hnot
  obtain ⟨no, hno⟩ : ∃ no, no = true := ⟨_, rfl⟩
  rw [← hno]
  have HNo := Lib.hid hno
  clear hno
  go_enter Tryz.func26, Tryz.ntmps26
  go_wp2_with (go_at_call 43; (with_reducible refine (cW.out _).mono ?_); rintro e WX ⟨rfl, hbx⟩; have HStX := Lib.hid (HBeg.out.on hbx); have cQx := HStX.out.2.2.cell; have fQx := HStX.out.2.2.frozen; clear hbx e0 e1 e2 e3)
  have HStN := Lib.hid HStX.out.not
  clear cQx fQx hsl
  have HStL := Lib.hid (show QSt w _ no (.slice none 0 0) by rw [HNo.out]; exact HStN.out)
  go_loopw [0] (fun x wr => QRel w0 w R no x wr) (fun x _ => lenOf x)
  case atStart => exact ⟨L, [], .slice none 0 0, HOkL.out, HTs0.out, by rw [HR.out]; cases R <;> simp, by simp; omega, HStL.out, World.ownsRow_nil _ _ _ _⟩
  case round =>
    clear HStX
    obtain ⟨M, acc, fv, hok, hts, hinv, hal, hst, hrow⟩ := hrel
    obtain ⟨A, cap, rfl, hc, hrd0⟩ := hts
    obtain ⟨fa, fcap, rfl⟩ := row_form hrow
    have hB0 := HB0.out.trans (hst.1.mono HB0.out.size)
    have hrd := Rd.keep hrd0 hB0 hB0.size
    have HRd0 := Lib.hid hrd0
    have HSt := Lib.hid hst
    have HInv := Lib.hid hinv
    have HRow := Lib.hid hrow
    have HOk := Lib.hid hok
    have HAl := Lib.hid hal
    have cQ := HSt.out.2.2.cell
    have cR := HSt.out.2.1.cell
    have fR := HSt.out.2.1.frozen
    clear hB0 hst hinv hrow hok hrd0
    match M with
    | [] =>
      have HFin := Lib.hid (show R = none by rw [← HInv.out, feats_nil]; rfl)
      simp only [List.length_nil]
      clear hrd hc hal
      go_wp2_with fail
      have hfin := HSt.out.fin
      have hfc := hfin.1
      refine bodyPost_ret (v := .tuple #[.agg #[.bool no, .slice fa acc.length fcap], .bool false]) (by simp [results, Tryz.results26, go_sem, hfc]) rfl ⟨QRet.none_ HFin.out _ _ _ _, hfin.2⟩
    | t :: M =>
      have hlen : (t :: M).length = M.length + 1 := rfl
      rw [hlen] at hrd hc hal ⊢
      obtain ⟨b, off, t', rfl, hbb, hd', e0, e1, e2, e3⟩ := TRd.tok hrd (k := 0) (Nat.succ_pos _)
      obtain rfl : t = t' := Option.some.inj hd'
      simp only [Nat.zero_mul, Nat.add_zero] at e0 e1 e2 e3
      have hz : (0 : Int) < (M.length : Int) + 1 := by omega
      have hM' : (M.length : Int) ≤ 999999 := by omega
      have HTok := Lib.hid (HOk.out t (by simp))
      have cW := Lib.hid (fun w => mword_ct t HTok.out.1.2.2.1 w)
      have cK := Lib.hid (fun w (h : MEnv w) => mkind_ct (wordT t) w h.2.1)
      have kr := kind_range (wordT t)
      have hbb0 : b < wr.heap.size := hbb
      clear hrd hd' hlen hal
      by_cases hr : t.raw = [40]
      · have b1 : ((bs t.raw).toList == [40]) = true := by rw [bs_toList]; simpa using hr
        have ho : opensP t = true := by unfold opensP; rw [HTok.out.2.2 hr]; rfl
        have hcl := mclosed_is (M := M) ho
        have hbd := blkLen_bd t M
        have cN := Lib.hid (fun W (h : Below w.heap.size w W) => mend_ct (some ⟨b, off, none⟩) cap (t :: M) W (by simp only [List.length_cons]; omega) (Rd.keep HRd0.out (HB0.out.trans (h.mono HB0.out.size)) (HB0.out.trans (h.mono HB0.out.size)).size) (fun y hy => (HOk.out y hy).1) (fun y hy => by have e : t = y := (by simpa using hy); rw [← e]; exact ho))
        rw [hcl] at cN
        simp only [List.length_cons] at cN
        cases hbo : blkOk t M
        · have HFin := Lib.hid (show R = none by rw [← HInv.out, feats_open hr hbo]; rfl)
          rw [hbo] at cN
          simp only [Bool.false_eq_true, if_false] at cN
          clear hcl hbd hr hbo
          go_wp2_with (first
            | (go_at_call 43; (with_reducible refine (cW.out _).mono ?_); rintro e W1 ⟨rfl, hb1⟩; have HSt1 := Lib.hid (HSt.out.on hb1); have HB1 := Lib.hid HSt1.out.1; have hrow1 := Lib.hid (row_on HRow.out hb1); have cQ1 := HSt1.out.2.2.cell; have cR1 := HSt1.out.2.1.cell; have fR1 := HSt1.out.2.1.frozen; have zR1 := HSt1.out.2.1.lt; have zQ1 := HSt1.out.2.2.lt; have zB1 : b < W1.heap.size := Nat.lt_of_lt_of_le hbb0 hb1.size; have y1 : W1.cell? ⟨b, off + 1, none⟩ = some (.string (bs t.raw)) := (hb1.cell (p := ⟨b, off + 1, none⟩) hbb0).trans e1; clear hb1 e0 e1 e2 e3)
            | (go_at_call 44; (with_reducible refine (cK.out _ (HE.out.on HB1.out)).mono ?_); rintro e W2 ⟨rfl, rfl⟩)
            | (go_at_call 42; (with_reducible refine (cN.out _ (HB1.out.alloc HB1.out.size _)).mono ?_); rintro e W3 ⟨rfl, hb3⟩; have HSt3 := Lib.hid ((HSt1.out.alloc _).on hb3); have cQ3 := HSt3.out.2.2.cell; have cR3 := HSt3.out.2.1.cell; have fR3 := HSt3.out.2.1.frozen; clear hb3 y1 cQ1 cR1 fR1))
          have hfin := HSt3.out.fin
          have hfc := hfin.1
          refine bodyPost_ret (v := .tuple #[.agg #[.bool no, .slice fa acc.length fcap], .bool false]) (by simp [results, Tryz.results26, go_sem, hfc]) rfl ⟨QRet.none_ HFin.out _ _ _ _, hfin.2⟩
        · obtain ⟨q, hq⟩ : ∃ q, blkLen t M = q + 2 := ⟨blkLen t M - 2, by have := mblk_too hbo; omega⟩
          have HCons := Lib.hid (show (behindT ((t :: M).drop (q + 2)) (featP (M.take q)) featsP).map (acc ++ ·) = R by rw [← HInv.out, feats_blk hr hbo, hq]; rfl)
          rw [hbo, hq] at cN
          simp only [if_true] at cN
          rw [hq] at hbd
          have hbdi := Lib.hid (show (q : Int) + 2 ≤ (M.length : Int) + 1 by omega)
          have hqi : (q : Int) ≤ 999999 := by omega
          have hTm := fun W (h : Below w.heap.size w W) => ts_cut (Rd.keep HRd0.out (HB0.out.trans (h.mono HB0.out.size)) (HB0.out.trans (h.mono HB0.out.size)).size) hc (i := 1) (m := q) (by simp only [List.length_cons]; omega)
          have cF0 := Lib.hid (fun W (h : Below w.heap.size w W) => mfeature_ct _ _ W (by simp only [List.length_take, List.length_drop, List.length_cons]; omega) (fun y hy => HOk.out y (List.mem_of_mem_drop (List.mem_of_mem_take hy))) (hTm W h) (HE.out.on h))
          simp only [List.drop_succ_cons, List.drop_zero] at cF0
          have HGood := feat_good (M.take q)
          have hfe : featP (M.take q) = ⟨(featP (M.take q)).k, (featP (M.take q)).n⟩ := rfl
          obtain ⟨fk, fn, hff⟩ : ∃ k n, featP (M.take q) = ⟨k, n⟩ := ⟨_, _, rfl⟩
          rw [hff] at HCons cF0
          simp only [FRet] at cF0
          have q1 : IntKind.i64.wrap ((q : Int) + 2 - 1) = (q : Int) + 1 := by rw [show (q : Int) + 2 - 1 = (q : Int) + 1 by omega]; exact IntWalk.i64_in _ (by omega)
          have qz : (((q : Int) + 2) == 0) = false := by simp; omega
          have hsb := fun w => slice_both (P := Tryz.prog) (k := 4) Tryz.underlying63 Tryz.sizeOf81 (some ⟨b, off, none⟩) (M.length + 1) cap 1 ((q : Int) + 1) (by omega) (by omega) (by omega) w
          simp only [show (1 : Int).toNat = 1 from rfl, show ((q : Int) + 1).toNat = q + 1 from by omega, Nat.add_sub_cancel] at hsb
          have hsl := fun w => slice_from (P := Tryz.prog) (k := 4) Tryz.underlying63 Tryz.sizeOf81 (some ⟨b, off, none⟩) (M.length + 1) cap ((q : Int) + 2) (by omega) (by omega) w
          simp only [show ((q : Int) + 2).toNat = q + 2 from by omega] at hsl
          clear hcl hr hbo HGood hfe hff hTm
          go_upto_region 15 with (first
            | (go_at_call 43; (with_reducible refine (cW.out _).mono ?_); rintro e W1 ⟨rfl, hb1⟩; have HSt1 := Lib.hid (HSt.out.on hb1); have HB1 := Lib.hid HSt1.out.1; have hrow1 := Lib.hid (row_on HRow.out hb1); have cQ1 := HSt1.out.2.2.cell; have cR1 := HSt1.out.2.1.cell; have fR1 := HSt1.out.2.1.frozen; have zR1 := HSt1.out.2.1.lt; have zQ1 := HSt1.out.2.2.lt; have zB1 : b < W1.heap.size := Nat.lt_of_lt_of_le hbb0 hb1.size; have y1 : W1.cell? ⟨b, off + 1, none⟩ = some (.string (bs t.raw)) := (hb1.cell (p := ⟨b, off + 1, none⟩) hbb0).trans e1; clear hb1 e0 e1 e2 e3)
            | (go_at_call 44; (with_reducible refine (cK.out _ (HE.out.on HB1.out)).mono ?_); rintro e W2 ⟨rfl, rfl⟩)
            | (go_at_call 42; (with_reducible refine (cN.out _ (HB1.out.alloc HB1.out.size _)).mono ?_); rintro e W3 ⟨rfl, hb3⟩; have HSt3 := Lib.hid ((HSt1.out.alloc _).on hb3); have HB3 := Lib.hid HSt3.out.1; have hrow3 := Lib.hid (row_on (hrow1.out.alloc _) hb3); have bF3 := (Blk.new (w := W1) (t := 55) (cs := #[.int .i64 (kindP (wordT t)), .int .i64 0]) rfl).below hb3 (by simp); replace bF3 := Lib.hid bF3; clear hb3 y1 cQ1 cR1 fR1)
            | (go_at_call 45; (with_reducible refine (cF0.out _ HB3.out).mono ?_); rintro e W4 ⟨rfl, hb4⟩; have HSt5 := Lib.hid (HSt3.out.on hb4); have hrow5 := Lib.hid (row_on hrow3.out hb4); have bF5 := bF3.out.below hb4 bF3.out.lt; have cF5 := bF5.cell; have fF5 := bF5.frozen; replace bF5 := Lib.hid bF5; clear hb4))
          generalize hV : (W4.setCell ⟨W1.heap.size, 0, none⟩ (.int .i64 fk)).setCell ⟨W1.heap.size, 1, none⟩ (.int .i64 fn) = V
          have HStV := Lib.hid (show QSt w V no (.slice fa acc.length fcap) by subst hV; exact (HSt5.out.far (by have := HSt1.out.room; simpa using this) _).far (by have := HSt1.out.room; simpa using this) _)
          have HRowV := Lib.hid (show V.ownsRow (w.heap.size + 2) 55 2 (.slice fa acc.length fcap) acc.length (flatR fc acc) by
            subst hV
            have hne : (Value.slice fa acc.length fcap).ownBlock ≠ some W1.heap.size := fun e => by have := (hrow1.out.lt _ e).2; omega
            exact ownsRow_setCell_other (ownsRow_setCell_other hrow5.out hne _) hne _)
          have cF := (show Blk V W1.heap.size 55 #[.int .i64 fk, .int .i64 fn] by subst hV; exact (bF5.out.put 0 _).put 1 _).cell
          have cQV := HStV.out.2.2.cell
          clear hV cF5 fF5
          go_wp2_with (at_builtin; refine wpList_append_own _ rfl _ _ 51 rfl (w.heap.size + 2) 55 i0 (.agg #[.int .i64 0, .int .i64 0]) 2 16 Tryz.underlying51 Hi.out Hz0.out Hz1.out Hz2.out rfl (by decide) _ _ _ rfl (HRowV.out.alloc _) ⟨V.heap.size, 0, none⟩ 1 1 [.int .i64 (fk), .int .i64 (fn)] rfl rfl ?c1 ?c2 ?c3 ?c4 ?c5 ?_)
          case c1 => exact (Blk.new (w := V) (t := 55) (cs := #[.int .i64 (fk), .int .i64 (fn)]) rfl).news
          case c2 => simp [Value.oneCell']
          case c3 => have := HAl.out; unfold maxLen; omega
          case c4 => have := HAl.out; omega
          case c5 => have := HStV.out.room; simp; omega
          intro v' w3 hown3 hgrow3 hnil3
          obtain ⟨va, vc, rfl⟩ := row_form hown3
          have HSt3 := Lib.hid ((HStV.out.alloc _).grown hgrow3 (HRowV.out.alloc _))
          have cQ3 := HSt3.out.2.2.cell
          have fQ3 := HSt3.out.2.2.frozen
          replace hown3 := Lib.hid hown3
          clear hgrow3 hnil3 cF cQV
          go_upto_region 16 with (fail)
          generalize hV2 : w3.setCell ⟨w.heap.size + 1, 1, none⟩ (.slice va (acc.length + 1) vc) = V2
          have HSt4 := Lib.hid (show QSt w V2 no (.slice va (acc.length + 1) vc) by subst hV2; exact HSt3.out.put _)
          have HRow4 := Lib.hid (show V2.ownsRow (w.heap.size + 2) 55 2 (.slice va (acc.length + 1) vc) (acc.length + 1) (flatR fc (acc ++ [⟨fk, fn⟩])) by subst hV2; rw [flatR_snoc]; exact ownsRow_setCell_below hown3.out (by simp) _)
          have cQ4 := HSt4.out.2.2.cell
          have cR4 := HSt4.out.2.1.cell
          have fR4 := HSt4.out.2.1.frozen
          clear hV2 cQ3 fQ3
          have HEq := Lib.hid (show (behindT ((t :: M).drop (q + 2)) ⟨fk, fn⟩ featsP).map (acc ++ ·) = R from HCons.out)
          generalize hRest : ((t :: M).drop (q + 2)) = X at *
          have HX := Lib.hid hRest
          clear hRest
          match X with
          | [] =>
            have HFin := Lib.hid (show R = some (acc ++ [⟨fk, fn⟩]) by rw [← HEq.out, behind_nil]; rfl)
            have z0 : ((((M.length + 1) - (q + 2) : Nat) : Int) == 0) = true := by have h := congrArg List.length HX.out; simp at h; simp; omega
            go_wp2_with fail
            have hfin := HSt4.out.fin
            have hfc := hfin.1
            refine bodyPost_ret (v := .tuple #[.agg #[.bool no, .slice va (acc.length + 1) vc], .bool true]) (by simp [results, Tryz.results26, go_sem, hfc]) rfl ⟨QRet.some_ HFin.out (fs_row (by simpa using row_fin HRow4.out)), hfin.2⟩
          | a :: R' =>
            have hlx := Lib.hid (show M.length + 1 = q + 2 + (R'.length + 1) by have h := congrArg List.length HX.out; simp at h; omega)
            have z0 : (((R'.length + 1 : Nat) : Int) == 0) = false := by simp; omega
            have hcx := hlx.out
            have haddr := addr_at (b := b) (o := off) (k := 4) (cap := cap) (i := q + 2) (by omega)
            have ed : (M.length + 1) - (q + 2) = R'.length + 1 := by omega
            have had : (t :: M)[q + 2]? = some a := by have := congrArg (·[0]?) HX.out; simpa using this
            have HAok := Lib.hid (HOk.out a (List.mem_of_getElem? had))
            obtain ⟨b2, off2, a2, hA2, hbb2, hd2, x0, x1, x2, x3⟩ := TRd.tok (Rd.keep HRd0.out (HB0.out.trans (HSt4.out.1.mono HB0.out.size)) (HB0.out.trans (HSt4.out.1.mono HB0.out.size)).size) (k := q + 2) (by simp only [List.length_cons]; omega)
            obtain rfl : a = a2 := Option.some.inj (had.symm.trans hd2)
            obtain ⟨rfl, rfl⟩ : b = b2 ∧ off = off2 := by injection hA2 with hA2; injection hA2 with q1 q2; exact ⟨q1, q2⟩
            have HTsR := Lib.hid (show TS w0 (.slice (addrAt 4 (some ⟨b, off + (q + 2) * 4, none⟩) (cap - (q + 2)) 1) R'.length (cap - (q + 2) - 1)) R' by
              have h1 := rd_from (n := (M.length + 1)) HRd0.out hc (i := q + 2) (by omega)
              rw [haddr, HX.out, ed] at h1
              have h2 := ts_from h1 (by omega : R'.length + 1 ≤ cap - (q + 2)) (i := 1) (by omega)
              simpa using h2)
            have HOkR := Lib.hid (show ∀ y ∈ R', TokOk y from fun y hy => HOk.out y (List.mem_of_mem_drop (i := q + 2) (by rw [HX.out]; exact List.mem_cons_of_mem _ hy)))
            have hsr := fun w => slice_from (P := Tryz.prog) (k := 4) Tryz.underlying63 Tryz.sizeOf81 (some ⟨b, off + (q + 2) * 4, none⟩) (R'.length + 1) (cap - (q + 2)) 1 (by omega) (by omega) w
            simp only [show (1 : Int).toNat = 1 from rfl, Nat.add_sub_cancel] at hsr
            have hz2 : (0 : Int) < (R'.length : Int) + 1 := by omega
            rw [haddr, ed] at hsl
            have cA := Lib.hid (fun w => mword_ct a HAok.out.1.2.2.1 w)
            clear had hd2 hA2 haddr ed hcx
            by_cases hand : wordT a = [97, 110, 100]
            · have HNew := Lib.hid (show (featsP R').map ((acc ++ [⟨fk, fn⟩]) ++ ·) = R by
                rw [← HEq.out, behind_and hand, Option.map_map]
                congr 1
                funext y
                simp)
              have w1 : ((bs (wordT a)).toList == [97, 110, 100]) = true := by rw [bs_toList]; simpa using hand
              have w2 : ((bs (wordT a)).toList != [97, 110, 100]) = false := by rw [bs_toList]; simpa using hand
              clear hand
              go_wp2_with (go_at_call 43; (with_reducible refine (cA.out _).mono ?_); rintro e W5 ⟨rfl, hb5⟩; have HSt5 := Lib.hid (HSt4.out.on hb5); have hrow5 := Lib.hid (row_on HRow4.out hb5); clear hb5 x0 x1 x2 x3 cQ4 cR4 fR4)
              go_roundw
              case rel => exact ⟨R', acc ++ [⟨fk, fn⟩], .slice va (acc.length + 1) vc, HOkR.out, HTsR.out, HNew.out, (by have h1 := HAl.out; have h2 := hlx.out; simp only [List.length_cons, List.length_append, List.length_nil] at h1 ⊢; omega), HSt5.out, by simpa using hrow5.out⟩
              case measure => simp only [lenOf]; have := hlx.out; omega
            · have HFin := Lib.hid (show R = none by rw [← HEq.out, behind_no hand]; rfl)
              have w1 : ((bs (wordT a)).toList == [97, 110, 100]) = false := by rw [bs_toList]; simpa using hand
              have w2 : ((bs (wordT a)).toList != [97, 110, 100]) = true := by rw [bs_toList]; simpa using hand
              clear hand
              go_wp2_with (go_at_call 43; (with_reducible refine (cA.out _).mono ?_); rintro e W5 ⟨rfl, hb5⟩; have HSt5 := Lib.hid (HSt4.out.on hb5); have cQ5 := HSt5.out.2.2.cell; have cR5 := HSt5.out.2.1.cell; have fR5 := HSt5.out.2.1.frozen; clear hb5 x0 x1 x2 x3 cQ4 cR4 fR4)
              have hfin := HSt5.out.fin
              have hfc := hfin.1
              refine bodyPost_ret (v := .tuple #[.agg #[.bool no, .slice va (acc.length + 1) vc], .bool false]) (by simp [results, Tryz.results26, go_sem, hfc]) rfl ⟨QRet.none_ HFin.out _ _ _ _, hfin.2⟩
      · have b1 : ((bs t.raw).toList == [40]) = false := by rw [bs_toList]; simpa using hr
        by_cases hk : 3 < kindP (wordT t)
        · have HFin := Lib.hid (show R = none by rw [← HInv.out, feats_bad hr hk]; rfl)
          clear hr
          go_wp2_with (first
            | (go_at_call 43; (with_reducible refine (cW.out _).mono ?_); rintro e W1 ⟨rfl, hb1⟩; have HSt1 := Lib.hid (HSt.out.on hb1); have HB1 := Lib.hid HSt1.out.1; have hrow1 := Lib.hid (row_on HRow.out hb1); have cQ1 := HSt1.out.2.2.cell; have cR1 := HSt1.out.2.1.cell; have fR1 := HSt1.out.2.1.frozen; have zR1 := HSt1.out.2.1.lt; have zQ1 := HSt1.out.2.2.lt; have zB1 : b < W1.heap.size := Nat.lt_of_lt_of_le hbb0 hb1.size; have y1 : W1.cell? ⟨b, off + 1, none⟩ = some (.string (bs t.raw)) := (hb1.cell (p := ⟨b, off + 1, none⟩) hbb0).trans e1; clear hb1 e0 e1 e2 e3)
            | (go_at_call 44; (with_reducible refine (cK.out _ (HE.out.on HB1.out)).mono ?_); rintro e W2 ⟨rfl, rfl⟩))
          have hfin := HSt1.out.fin
          have hfc := (((HSt1.out.2.1.put 0 (.bool no)).put 1 (.slice fa acc.length fcap)).alloc (.cells #[.int .i64 (kindP (wordT t)), .int .i64 0] 55)).cell
          refine bodyPost_ret (v := .tuple #[.agg #[.bool no, .slice fa acc.length fcap], .bool false]) (by simp [results, Tryz.results26, go_sem, hfc]) rfl ⟨QRet.none_ HFin.out _ _ _ _, hfin.2.alloc (by have := HSt1.out.1.size; simpa [World.setCell] using this) _⟩
        · have HCons := Lib.hid (show (behindT M ⟨kindP (wordT t), 0⟩ featsP).map (acc ++ ·) = R by rw [← HInv.out, feats_word hr hk])
          have hsl := fun w => slice_from (P := Tryz.prog) (k := 4) Tryz.underlying63 Tryz.sizeOf81 (some ⟨b, off, none⟩) (M.length + 1) cap 1 (by omega) (by omega) w
          simp only [show (1 : Int).toNat = 1 from rfl] at hsl
          clear hr
          go_upto_region 15 with (first
            | (go_at_call 43; (with_reducible refine (cW.out _).mono ?_); rintro e W1 ⟨rfl, hb1⟩; have HSt1 := Lib.hid (HSt.out.on hb1); have HB1 := Lib.hid HSt1.out.1; have hrow1 := Lib.hid (row_on HRow.out hb1); have cQ1 := HSt1.out.2.2.cell; have cR1 := HSt1.out.2.1.cell; have fR1 := HSt1.out.2.1.frozen; have zR1 := HSt1.out.2.1.lt; have zQ1 := HSt1.out.2.2.lt; have zB1 : b < W1.heap.size := Nat.lt_of_lt_of_le hbb0 hb1.size; have y1 : W1.cell? ⟨b, off + 1, none⟩ = some (.string (bs t.raw)) := (hb1.cell (p := ⟨b, off + 1, none⟩) hbb0).trans e1; clear hb1 e0 e1 e2 e3)
            | (go_at_call 44; (with_reducible refine (cK.out _ (HE.out.on HB1.out)).mono ?_); rintro e W2 ⟨rfl, rfl⟩))
          generalize hV : W1.alloc (.cells #[.int .i64 (kindP (wordT t)), .int .i64 0] 55) = V
          have HStV := Lib.hid (show QSt w V no (.slice fa acc.length fcap) by subst hV; exact HSt1.out.alloc _)
          have HRowV := Lib.hid (show V.ownsRow (w.heap.size + 2) 55 2 (.slice fa acc.length fcap) acc.length (flatR fc acc) by subst hV; exact hrow1.out.alloc _)
          have cF := (show Blk V W1.heap.size 55 #[.int .i64 (kindP (wordT t)), .int .i64 0] by subst hV; exact Blk.new rfl).cell
          have cQV := HStV.out.2.2.cell
          clear hV cQ1 cR1 fR1 y1
          go_wp2_with (at_builtin; refine wpList_append_own _ rfl _ _ 51 rfl (w.heap.size + 2) 55 i0 (.agg #[.int .i64 0, .int .i64 0]) 2 16 Tryz.underlying51 Hi.out Hz0.out Hz1.out Hz2.out rfl (by decide) _ _ _ rfl (HRowV.out.alloc _) ⟨V.heap.size, 0, none⟩ 1 1 [.int .i64 (kindP (wordT t)), .int .i64 (0)] rfl rfl ?c1 ?c2 ?c3 ?c4 ?c5 ?_)
          case c1 => exact (Blk.new (w := V) (t := 55) (cs := #[.int .i64 (kindP (wordT t)), .int .i64 (0)]) rfl).news
          case c2 => simp [Value.oneCell']
          case c3 => have := HAl.out; unfold maxLen; omega
          case c4 => have := HAl.out; omega
          case c5 => have := HStV.out.room; simp; omega
          intro v' w3 hown3 hgrow3 hnil3
          obtain ⟨va, vc, rfl⟩ := row_form hown3
          have HSt3 := Lib.hid ((HStV.out.alloc _).grown hgrow3 (HRowV.out.alloc _))
          have cQ3 := HSt3.out.2.2.cell
          have fQ3 := HSt3.out.2.2.frozen
          replace hown3 := Lib.hid hown3
          clear hgrow3 hnil3 cF cQV
          go_upto_region 16 with (fail)
          generalize hV2 : w3.setCell ⟨w.heap.size + 1, 1, none⟩ (.slice va (acc.length + 1) vc) = V2
          have HSt4 := Lib.hid (show QSt w V2 no (.slice va (acc.length + 1) vc) by subst hV2; exact HSt3.out.put _)
          have HRow4 := Lib.hid (show V2.ownsRow (w.heap.size + 2) 55 2 (.slice va (acc.length + 1) vc) (acc.length + 1) (flatR fc (acc ++ [⟨kindP (wordT t), 0⟩])) by subst hV2; rw [flatR_snoc]; exact ownsRow_setCell_below hown3.out (by simp) _)
          have cQ4 := HSt4.out.2.2.cell
          have cR4 := HSt4.out.2.1.cell
          have fR4 := HSt4.out.2.1.frozen
          clear hV2 cQ3 fQ3
          have HEq := Lib.hid (show (behindT ((t :: M).drop (1)) ⟨kindP (wordT t), 0⟩ featsP).map (acc ++ ·) = R from HCons.out)
          generalize hRest : ((t :: M).drop (1)) = X at *
          have HX := Lib.hid hRest
          clear hRest
          match X with
          | [] =>
            have HFin := Lib.hid (show R = some (acc ++ [⟨kindP (wordT t), 0⟩]) by rw [← HEq.out, behind_nil]; rfl)
            have z0 : ((((M.length + 1) - 1 : Nat) : Int) == 0) = true := by have h := congrArg List.length HX.out; simp at h; simp; omega
            go_wp2_with fail
            have hfin := HSt4.out.fin
            have hfc := hfin.1
            refine bodyPost_ret (v := .tuple #[.agg #[.bool no, .slice va (acc.length + 1) vc], .bool true]) (by simp [results, Tryz.results26, go_sem, hfc]) rfl ⟨QRet.some_ HFin.out (fs_row (by simpa using row_fin HRow4.out)), hfin.2⟩
          | a :: R' =>
            have hlx := Lib.hid (show M.length + 1 = 1 + (R'.length + 1) by have h := congrArg List.length HX.out; simp at h; omega)
            have z0 : (((R'.length + 1 : Nat) : Int) == 0) = false := by simp; omega
            have hcx := hlx.out
            have haddr := addr_at (b := b) (o := off) (k := 4) (cap := cap) (i := 1) (by omega)
            have ed : (M.length + 1) - 1 = R'.length + 1 := by omega
            have had : (t :: M)[1]? = some a := by have := congrArg (·[0]?) HX.out; simpa using this
            have HAok := Lib.hid (HOk.out a (List.mem_of_getElem? had))
            obtain ⟨b2, off2, a2, hA2, hbb2, hd2, x0, x1, x2, x3⟩ := TRd.tok (Rd.keep HRd0.out (HB0.out.trans (HSt4.out.1.mono HB0.out.size)) (HB0.out.trans (HSt4.out.1.mono HB0.out.size)).size) (k := 1) (by simp only [List.length_cons]; omega)
            obtain rfl : a = a2 := Option.some.inj (had.symm.trans hd2)
            obtain ⟨rfl, rfl⟩ : b = b2 ∧ off = off2 := by injection hA2 with hA2; injection hA2 with q1 q2; exact ⟨q1, q2⟩
            have HTsR := Lib.hid (show TS w0 (.slice (addrAt 4 (some ⟨b, off + 1 * 4, none⟩) (cap - 1) 1) R'.length (cap - 1 - 1)) R' by
              have h1 := rd_from (n := (M.length + 1)) HRd0.out hc (i := 1) (by omega)
              rw [haddr, HX.out, ed] at h1
              have h2 := ts_from h1 (by omega : R'.length + 1 ≤ cap - 1) (i := 1) (by omega)
              simpa using h2)
            have HOkR := Lib.hid (show ∀ y ∈ R', TokOk y from fun y hy => HOk.out y (List.mem_of_mem_drop (i := 1) (by rw [HX.out]; exact List.mem_cons_of_mem _ hy)))
            have hsr := fun w => slice_from (P := Tryz.prog) (k := 4) Tryz.underlying63 Tryz.sizeOf81 (some ⟨b, off + 1 * 4, none⟩) (R'.length + 1) (cap - 1) 1 (by omega) (by omega) w
            simp only [show (1 : Int).toNat = 1 from rfl, Nat.add_sub_cancel] at hsr
            have hz2 : (0 : Int) < (R'.length : Int) + 1 := by omega
            rw [haddr, ed] at hsl
            have cA := Lib.hid (fun w => mword_ct a HAok.out.1.2.2.1 w)
            clear had hd2 hA2 haddr ed hcx
            by_cases hand : wordT a = [97, 110, 100]
            · have HNew := Lib.hid (show (featsP R').map ((acc ++ [⟨kindP (wordT t), 0⟩]) ++ ·) = R by
                rw [← HEq.out, behind_and hand, Option.map_map]
                congr 1
                funext y
                simp)
              have w1 : ((bs (wordT a)).toList == [97, 110, 100]) = true := by rw [bs_toList]; simpa using hand
              have w2 : ((bs (wordT a)).toList != [97, 110, 100]) = false := by rw [bs_toList]; simpa using hand
              clear hand
              go_wp2_with (go_at_call 43; (with_reducible refine (cA.out _).mono ?_); rintro e W5 ⟨rfl, hb5⟩; have HSt5 := Lib.hid (HSt4.out.on hb5); have hrow5 := Lib.hid (row_on HRow4.out hb5); clear hb5 x0 x1 x2 x3 cQ4 cR4 fR4)
              go_roundw
              case rel => exact ⟨R', acc ++ [⟨kindP (wordT t), 0⟩], .slice va (acc.length + 1) vc, HOkR.out, HTsR.out, HNew.out, (by have h1 := HAl.out; have h2 := hlx.out; simp only [List.length_cons, List.length_append, List.length_nil] at h1 ⊢; omega), HSt5.out, by simpa using hrow5.out⟩
              case measure => simp only [lenOf]; have := hlx.out; omega
            · have HFin := Lib.hid (show R = none by rw [← HEq.out, behind_no hand]; rfl)
              have w1 : ((bs (wordT a)).toList == [97, 110, 100]) = false := by rw [bs_toList]; simpa using hand
              have w2 : ((bs (wordT a)).toList != [97, 110, 100]) = true := by rw [bs_toList]; simpa using hand
              clear hand
              go_wp2_with (go_at_call 43; (with_reducible refine (cA.out _).mono ?_); rintro e W5 ⟨rfl, hb5⟩; have HSt5 := Lib.hid (HSt4.out.on hb5); have cQ5 := HSt5.out.2.2.cell; have cR5 := HSt5.out.2.1.cell; have fR5 := HSt5.out.2.1.frozen; clear hb5 x0 x1 x2 x3 cQ4 cR4 fR4)
              have hfin := HSt5.out.fin
              have hfc := hfin.1
              refine bodyPost_ret (v := .tuple #[.agg #[.bool no, .slice va (acc.length + 1) vc], .bool false]) (by simp [results, Tryz.results26, go_sem, hfc]) rfl ⟨QRet.none_ HFin.out _ _ _ _, hfin.2⟩

end Go.Proofs.YtmjbaimccbkmpaaGreatDoor.med

namespace Go.Proofs.YtmjbaimccbkmpaaGreatDoor.med
open Go.RowKit Go.Proofs.YtmjbaimccbkmpaaGreatDoor.base Go.Proofs.YtmjbaimccbkmpaaGreatDoor.tok Go.Proofs.YtmjbaimccbkmpaaGreatDoor.rul
set_option linter.unusedVariables false

/-- what query hands back, of the tokens -/
def MRet (B : Nat) (L : List Tk) (e : Ending) (w' : World) : Prop :=
  (queP L = none ∧ ∃ bo A n c, e = .returned (.tuple #[.agg #[.bool bo, .slice A n c], .bool false])) ∨ ∃ q A c, queP L = some q ∧ e = .returned (.tuple #[.agg #[.bool q.no, .slice A q.fs.length c], .bool true]) ∧ FS B w' (.slice A q.fs.length c) q.fs
theorem mret_of {B : Nat} {L M : List Tk} {no : Bool} {e : Ending} {w' : World} (hn : notP L = no) (hM : (if no then L.drop 1 else L) = M) (h : QRet B (featsP M) no e w') : MRet B L e w' := by
  have hq : queP L = (featsP M).map fun fs => ⟨no, fs⟩ := by
    unfold queP
    rw [hn, hM]
  rcases h with ⟨h, a, b, c, d, he⟩ | ⟨fs, fv, h, he, hf⟩
  · exact .inl ⟨by rw [hq, h]; rfl, a, b, c, d, he⟩
  · have hf' := hf
    obtain ⟨A, cap, rfl, _⟩ := hf
    exact .inr ⟨⟨no, fs⟩, A, cap, by rw [hq, h]; rfl, he, hf'⟩
theorem mquery_ct (v : Value) (L : List Tk) (w0 w : World) (hn : L.length ≤ 1000) (hL : TS w0 v L) (hb0 : Below w0.heap.size w0 w) (hok : ∀ t ∈ L, TokOk t) (hE : MEnv w) :
    Calls Tryz.prog 26 #[v] w fun e w' => MRet (w.heap.size + 2) L e w' ∧ Below w.heap.size w w' := by
  obtain ⟨A, cap, rfl, hc, hr⟩ := hL
  match L, hn, hc, hr, hok with
  | [], _, _, _, _ => exact (mquery_nil A cap w).mono fun e w' ⟨h, hb⟩ => ⟨mret_of (L := []) (M := []) rfl rfl h, hb⟩
  | t :: L, hn, hc, hr, hok =>
    have hn' : L.length ≤ 1000 := by simp only [List.length_cons] at hn; omega
    by_cases ht : wordT t = [110, 111, 116]
    · exact (mquery_not t L A cap w0 w hn' hc hr hb0 hok ht hE).mono fun e w' ⟨h, hb⟩ => ⟨mret_of (L := t :: L) (M := L) (decide_eq_true ht) rfl h, hb⟩
    · exact (mquery_plain t L A cap w0 w hn' hc hr hb0 hok ht hE).mono fun e w' ⟨h, hb⟩ => ⟨mret_of (L := t :: L) (M := t :: L) (decide_eq_false ht) rfl h, hb⟩

/-! ### solid -/
theorem sol_take {L : List Tk} {k : Nat} {t : Tk} (h : L[k]? = some t) : solP (L.take (k + 1)) = solP (L.take k) ++ (if silP t then [] else [t]) := by
  obtain ⟨hl, he⟩ := List.getElem?_eq_some_iff.1 h
  unfold solP
  rw [List.take_succ_eq_append_getElem hl, List.filter_append, he]
  cases hs : silP t <;> simp [hs]
theorem sol_few (L : List Tk) (k : Nat) : (solP (L.take k)).length ≤ k := by
  have h1 : (solP (L.take k)).length ≤ (L.take k).length := List.length_filter_le _ _
  rw [List.length_take] at h1
  omega
def SolRel (w : World) (L : List Tk) (v x : Value) (wr : World) : Prop :=
  ∃ k : Nat, k ≤ L.length ∧ x = .int .i64 k ∧ wr.ownsRow w.heap.size 81 4 v (solP (L.take k)).length (flatR tcells (solP (L.take k))) ∧ Below w.heap.size w wr

set_option maxRecDepth 100000 in
set_option maxHeartbeats 4000000 in
theorem msolid_ct (A : Option Addr) (cap : Nat) (L : List Tk) (w : World) (hn : L.length ≤ 1000000) (hL : TRd w w.heap.size A L.length L) :
    Calls Tryz.prog 24 #[.slice A L.length cap] w fun e w' => (∃ v, e = .returned v ∧ TS w' v (solP L)) ∧ Below w.heap.size w w' := by
  obtain ⟨i0, hi, hz0, hz1, hz2⟩ := info_parts infoT
  have Hz0 := Lib.hid hz0
  have Hi := Lib.hid hi
  have Hz1 := Lib.hid hz1
  have Hz2 := Lib.hid hz2
  clear hz0 hi hz1 hz2
  have HL := Lib.hid hL
  clear hL
  go_enter Tryz.func24, Tryz.ntmps24
  go_wp2_with fail
  go_loopw [3, 8] (fun v x wr => SolRel w L v x wr) (fun _ x _ => L.length - (intOf x).toNat)
  case atStart => exact ⟨0, by omega, rfl, by simpa [solP, flatR] using World.ownsRow_nil _ _ _ _, Below.refl _ _⟩
  case round =>
    obtain ⟨k, hk, rfl, hrow, hbel⟩ := hrel
    have HBl := Lib.hid hbel
    have HRow := Lib.hid hrow
    have hfew := sol_few L k
    obtain ⟨av, cp, rfl⟩ := row_form hrow
    clear hrow
    by_cases hlt : k < L.length
    · have hlt' : (k : Int) < (L.length : Int) := by omega
      have hki : (k : Int) ≤ 999999 := by omega
      obtain ⟨b, off, t, rfl, hbb, hd, e0, e1, e2, e3⟩ := TRd.tok (HL.out.keep hbel hbel.size) hlt
      have HT := Lib.hid (sol_take hd)
      clear hbel hd
      obtain ⟨tk, tr, tv, tn⟩ := t
      simp only at e0 e1 e2 e3
      cases hs : silP ⟨tk, tr, tv, tn⟩
      · have HNew := Lib.hid (show solP (L.take (k + 1)) = solP (L.take k) ++ [⟨tk, tr, tv, tn⟩] by rw [HT.out, hs]; rfl)
        obtain ⟨n8, n9⟩ : (tk == 8) = false ∧ (tk == 9) = false := by
          simp only [silP, Bool.or_eq_false_iff, decide_eq_false_iff_not] at hs
          exact ⟨by simpa using hs.1, by simpa using hs.2⟩
        have m8 : (tk != 8) = true := by rw [bne, n8]; rfl
        have m9 : (tk != 9) = true := by rw [bne, n9]; rfl
        clear hs
        go_wp2_with (at_builtin; refine wpList_append_own _ rfl _ _ 63 rfl w.heap.size 81 i0 _ 4 48 Tryz.underlying63 Hi.out Hz0.out Hz1.out Hz2.out rfl (by decide) _ _ _ rfl ((HRow.out.alloc _).alloc _) ⟨wr.heap.size + 1, 0, none⟩ 1 1 [.int .i64 tk, .string (bs tr), .string (bs tv), .int .i64 tn] rfl rfl ?c1 ?c2 ?c3 ?c4 ?c5 ?_)
        case c1 => exact (Blk.new (w := wr.alloc (.cells #[.int .i64 tk, .string (bs tr), .string (bs tv), .int .i64 tn] 81)) (t := 81) (cs := #[.int .i64 tk, .string (bs tr), .string (bs tv), .int .i64 tn]) (by simp)).news
        case c2 => simp [Value.oneCell']
        case c3 => unfold maxLen; omega
        case c4 => omega
        case c5 => have := HBl.out.size; simp; omega
        intro v' w3 hown3 hgrow3 hnil3
        have hb3 := Lib.hid (below_app ((HBl.out.alloc HBl.out.size _).alloc (by simp; have := HBl.out.size; omega) _) hgrow3 ((HRow.out.alloc _).alloc _) (Nat.le_refl _) (by simp; have := HBl.out.size; omega))
        replace hown3 := Lib.hid hown3
        clear hgrow3 hnil3
        go_wp2_with fail
        go_roundw
        case rel =>
          refine ⟨k + 1, by omega, by go_num, ?_, hb3.out⟩
          rw [HNew.out, List.length_append, flatR_snoc]
          exact hown3.out
        case measure => simp [intOf]; omega
      · have HNew := Lib.hid (show solP (L.take (k + 1)) = solP (L.take k) by rw [HT.out, hs]; simp)
        have hor : ((tk == 8) = true ∧ (tk != 8) = false) ∨ ((tk == 8) = false ∧ (tk != 8) = true ∧ (tk == 9) = true ∧ (tk != 9) = false) := by
          simp only [silP, Bool.or_eq_true, decide_eq_true_eq] at hs
          rcases hs with rfl | rfl
          · exact .inl ⟨rfl, rfl⟩
          · exact .inr ⟨rfl, rfl, rfl, rfl⟩
        clear hs
        rcases hor with ⟨m8, n8⟩ | ⟨m8, n8, m9, n9⟩
        all_goals
          go_wp2_with fail
          go_roundw
          case rel => exact ⟨k + 1, by omega, by go_num, by rw [HNew.out]; exact HRow.out.alloc _, HBl.out.alloc HBl.out.size _⟩
          case measure => simp [intOf]; omega
    · obtain rfl : k = L.length := by omega
      have HFin := Lib.hid (show solP (L.take L.length) = solP L by rw [List.take_length])
      go_wp2_with fail
      go_ret
      refine ⟨⟨_, rfl, ?_⟩, HBl.out⟩
      rw [← HFin.out]
      obtain ⟨A', c', e', hc', hr'⟩ := row_rd tcells_len rfl HRow.out
      exact ⟨A', c', e', hc', hr'⟩

end Go.Proofs.YtmjbaimccbkmpaaGreatDoor.med

namespace Go.Proofs.YtmjbaimccbkmpaaGreatDoor.med
open Go.RowKit Go.Proofs.YtmjbaimccbkmpaaGreatDoor.base Go.Proofs.YtmjbaimccbkmpaaGreatDoor.tok Go.Proofs.YtmjbaimccbkmpaaGreatDoor.rul
set_option linter.unusedVariables false

theorem infoTS : (Tryz.prog.info? 63).map (fun i => (i.zero, i.size, i.bytes)) = some (some (.slice none 0 0), 1, 24) := by kernel_rfl
/-- slices of tokens, one for each piece -/
def VsOf (w0 : World) (vs : List Value) (P : List (List Tk)) : Prop := vs.length = P.length ∧ ∀ (j : Nat) (v : Value) (p : List Tk), vs[j]? = some v → P[j]? = some p → TS w0 v p
theorem VsOf.nil {w0 : World} : VsOf w0 [] [] := ⟨rfl, fun j v p h => by simp at h⟩
theorem VsOf.snoc {w0 : World} {vs : List Value} {P : List (List Tk)} {v : Value} {p : List Tk} (h : VsOf w0 vs P) (hv : TS w0 v p) : VsOf w0 (vs ++ [v]) (P ++ [p]) := by
  refine ⟨by simp [h.1], fun j v' p' hj hp => ?_⟩
  rcases Nat.lt_or_ge j vs.length with hlt | hge
  · rw [List.getElem?_append_left hlt] at hj
    rw [List.getElem?_append_left (by rw [← h.1]; exact hlt)] at hp
    exact h.2 j v' p' hj hp
  · have hj2 := (List.getElem?_eq_some_iff.1 hj).1
    simp only [List.length_append, List.length_singleton] at hj2
    obtain rfl : j = vs.length := by omega
    rw [List.getElem?_concat_length] at hj
    rw [h.1, List.getElem?_concat_length] at hp
    obtain rfl := Option.some.inj hj
    obtain rfl := Option.some.inj hp
    exact hv
def PcRel (w0 w : World) (L : List Tk) (P : List (List Tk)) (v x y : Value) (wr : World) : Prop :=
  ∃ (f i : Nat) (acc : List (List Tk)) (vs : List Value), f ≤ i ∧ i ≤ L.length ∧ x = .int .i64 f ∧ y = .int .i64 i ∧ acc ++ piecesF (L.drop i) ((L.drop f).take (i - f)) = P ∧ vs.length ≤ i ∧ VsOf w0 vs acc ∧ wr.ownsRow w.heap.size 63 1 v vs.length vs ∧ Below w.heap.size w wr
theorem take_more {L : List Tk} {f i n : Nat} (hf : f ≤ i) : (L.drop f).take (i - f) ++ (L.drop i).take n = (L.drop f).take (i + n - f) := by
  have e : L.drop i = (L.drop f).drop (i - f) := by rw [List.drop_drop]; congr 1; omega
  rw [e, show i + n - f = (i - f) + n by omega, List.take_add]

set_option maxRecDepth 100000 in
set_option maxHeartbeats 16000000 in
theorem mpieces_ct (A : Option Addr) (cap : Nat) (L : List Tk) (w0 w : World) (hn : L.length ≤ 1000000) (hc : L.length ≤ cap) (hL : TRd w0 w0.heap.size A L.length L) (hb0 : Below w0.heap.size w0 w) (hok : ∀ t ∈ L, TokOk t) :
    Calls Tryz.prog 25 #[.slice A L.length cap] w fun e w' => (∃ v vs, e = .returned v ∧ VsOf w0 vs (piecesF L []) ∧ w'.ownsRow w.heap.size 63 1 v vs.length vs) ∧ Below w.heap.size w w' := by
  obtain ⟨i0, hi, hz0, hz1, hz2⟩ := info_parts infoTS
  have Hz0 := Lib.hid hz0
  have Hi := Lib.hid hi
  have Hz1 := Lib.hid hz1
  have Hz2 := Lib.hid hz2
  clear hz0 hi hz1 hz2
  have HL := Lib.hid hL
  have HB0 := Lib.hid hb0
  have HOk := Lib.hid hok
  generalize hP : piecesF L [] = P
  have HP := Lib.hid hP
  clear hL hb0 hok hP
  go_enter Tryz.func25, Tryz.ntmps25
  go_wp2_with fail
  go_loopw [3, 4, 5] (fun v x y wr => PcRel w0 w L P v x y wr) (fun _ _ y _ => L.length - (intOf y).toNat)
  case atStart => exact ⟨0, 0, [], [], Nat.le_refl _, by omega, rfl, rfl, by simpa using HP.out, by simp, VsOf.nil, World.ownsRow_nil _ _ _ _, Below.refl _ _⟩
  case round =>
    obtain ⟨f, i, acc, vs, hfi, hil, rfl, rfl, hinv, hvl, hvs, hrow, hbel⟩ := hrel
    have HBl := Lib.hid hbel
    have HRow := Lib.hid hrow
    have HInv := Lib.hid hinv
    have HVs := Lib.hid hvs
    obtain ⟨av, cp, rfl⟩ := row_form hrow
    have hz0 := HB0.out.trans (hbel.mono HB0.out.size)
    clear hrow hinv hvs HP
    by_cases hlt : i < L.length
    · have hlt' : (i : Int) < (L.length : Int) := by omega
      have hii : (i : Int) ≤ 999999 := by omega
      have hii0 : (0 : Int) ≤ (i : Int) := by omega
      obtain ⟨b, off, t, rfl, hbb, hd, e0, e1, e2, e3⟩ := TRd.tok (Rd.keep HL.out hz0 hz0.size) hlt
      have HTok := Lib.hid (HOk.out t (List.mem_of_getElem? hd))
      have hcons := drop_at hd
      have HCons := Lib.hid hcons
      have HZ0 := Lib.hid hz0
      have q1 : IntKind.i64.wrap ((i : Int) + 1) = (i : Int) + 1 := IntWalk.i64_in _ (by omega)
      clear hbel hd hz0
      obtain ⟨tk, tr, tv, tn⟩ := t
      simp only at e0 e1 e2 e3
      cases ho : opensP ⟨tk, tr, tv, tn⟩
      · obtain ⟨n10, n2⟩ : (tk == 10) = false ∧ (tk == 2) = false := by
          simp only [opensP, Bool.or_eq_false_iff, decide_eq_false_iff_not] at ho
          exact ⟨by simpa using ho.1, by simpa using ho.2⟩
        by_cases hcm : tk = 12 ∧ tr = [44]
        · have HNew := Lib.hid (show (acc ++ [(L.drop f).take (i - f)]) ++ piecesF (L.drop (i + 1)) ((L.drop (i + 1)).take (i + 1 - (i + 1))) = P by
            rw [← HInv.out, HCons.out, pieces_comma ho hcm, Nat.sub_self, List.take_zero]
            simp)
          obtain ⟨rfl, hrt⟩ := hcm
          have b1 : ((bs tr).toList == [44]) = true := by rw [bs_toList]; simpa using hrt
          have hsl := fun w => slice_both (P := Tryz.prog) (k := 4) Tryz.underlying63 Tryz.sizeOf81 (some ⟨b, off, none⟩) L.length cap (f : Int) (i : Int) (by omega) (by omega) (by omega) w
          simp only [Int.toNat_natCast] at hsl
          have HTs := Lib.hid (ts_cut HL.out hc (i := f) (m := i - f) (by omega))
          have hfi' : (f : Int) ≤ (i : Int) := by omega
          clear ho hrt hcons HCons
          go_wp2_with (at_builtin; refine wpList_append_own _ rfl _ _ 73 rfl w.heap.size 63 i0 _ 1 24 Tryz.underlying73 Hi.out Hz0.out Hz1.out Hz2.out rfl (by decide) _ _ _ rfl ((HRow.out.alloc _).alloc _) ⟨wr.heap.size + 1, 0, none⟩ 1 1 [.slice (addrAt 4 (some ⟨b, off, none⟩) cap f) (i - f) (cap - f)] rfl rfl ?c1 ?c2 ?c3 ?c4 ?c5 ?_)
          case c1 => exact (Blk.new (w := wr.alloc (.cells #[.int .i64 12, .string (bs tr), .string (bs tv), .int .i64 tn] 81)) (t := 63) (cs := #[.slice (addrAt 4 (some ⟨b, off, none⟩) cap f) (i - f) (cap - f)]) (by simp)).news
          case c2 => simp [Value.oneCell']
          case c3 => unfold maxLen; omega
          case c4 => omega
          case c5 => have := HBl.out.size; simp; omega
          intro v' w3 hown3 hgrow3 hnil3
          have hb3 := Lib.hid (below_app ((HBl.out.alloc HBl.out.size _).alloc (by simp; have := HBl.out.size; omega) _) hgrow3 ((HRow.out.alloc _).alloc _) (Nat.le_refl _) (by simp; have := HBl.out.size; omega))
          replace hown3 := Lib.hid hown3
          clear hgrow3 hnil3
          go_wp2_with fail
          go_roundw
          case rel => exact ⟨i + 1, i + 1, acc ++ [(L.drop f).take (i - f)], vs ++ [.slice (addrAt 4 (some ⟨b, off, none⟩) cap f) (i - f) (cap - f)], Nat.le_refl _, by omega, by go_num, by go_num, HNew.out, by simp; omega, HVs.out.snoc HTs.out, by simpa using hown3.out, hb3.out⟩
          case measure => simp [intOf]; omega
        · have HNew := Lib.hid (show acc ++ piecesF (L.drop (i + 1)) ((L.drop f).take (i + 1 - f)) = P by
            rw [← HInv.out, HCons.out, pieces_other ho hcm, ← take_more hfi, HCons.out]
            simp)
          have hor : ((tk == 12) = false) ∨ ((tk == 12) = true ∧ ((bs tr).toList == [44]) = false) := by
            by_cases h : tk = 12
            · exact .inr ⟨by simpa using h, by rw [bs_toList]; simpa using fun e => hcm ⟨h, e⟩⟩
            · exact .inl (by simpa using h)
          clear ho hcm hcons HCons
          rcases hor with m1 | ⟨m1, m2⟩
          all_goals
            go_wp2_with fail
            go_roundw
            case rel => exact ⟨f, i + 1, acc, vs, by omega, by omega, rfl, by go_num, HNew.out, by omega, HVs.out, HRow.out.alloc _, HBl.out.alloc HBl.out.size _⟩
            case measure => simp [intOf]; omega
      · obtain ⟨n, hnn⟩ : ∃ n, blkLen ⟨tk, tr, tv, tn⟩ (L.drop (i + 1)) = n := ⟨_, rfl⟩
        have hbd := blkLen_bd ⟨tk, tr, tv, tn⟩ (L.drop (i + 1))
        rw [hnn, List.length_drop] at hbd
        have hbd1 : 1 ≤ n := hbd.1
        have hbd2 : i + n ≤ L.length := by omega
        have HNew := Lib.hid (show acc ++ piecesF (L.drop (i + n)) ((L.drop f).take (i + n - f)) = P by
          rw [← HInv.out, HCons.out, pieces_open ho, hnn, ← HCons.out, List.drop_drop, ← take_more hfi])
        have hcl := mclosed_is (M := L.drop (i + 1)) ho
        rw [← HCons.out, hnn] at hcl
        have haddr := addr_at (b := b) (o := off) (k := 4) (cap := cap) (i := i) (by omega)
        have hll : (L.drop i).length = L.length - i := List.length_drop
        have hrdr := fun W (h : Below w.heap.size w W) => rd_from (Rd.keep HL.out (HB0.out.trans (h.mono HB0.out.size)) (HB0.out.trans (h.mono HB0.out.size)).size) hc (i := i) (by omega)
        have cN := fun W (h : Below w.heap.size w W) => mend_ct (some ⟨b, off + i * 4, none⟩) (cap - i) (L.drop i) W (by omega) (by rw [hll, ← haddr]; exact hrdr W h) (fun y hy => (HOk.out y (List.mem_of_mem_drop hy)).1) (fun y hy => by have e : y = ⟨tk, tr, tv, tn⟩ := (by rw [HCons.out] at hy; simpa using hy.symm); rw [e]; exact ho)
        rw [hcl, hll] at cN
        have hsl := fun w => slice_from (P := Tryz.prog) (k := 4) Tryz.underlying63 Tryz.sizeOf81 (some ⟨b, off, none⟩) L.length cap (i : Int) (by omega) (by omega) w
        simp only [Int.toNat_natCast] at hsl
        rw [haddr] at hsl
        have hkk : (tk == 10) = true ∨ ((tk == 10) = false ∧ (tk == 2) = true) := by
          simp only [opensP, Bool.or_eq_true, decide_eq_true_eq] at ho
          rcases ho with rfl | rfl
          · exact .inl rfl
          · exact .inr ⟨rfl, rfl⟩
        have hni : (n : Int) ≤ 1000000 := by omega
        have q2 : IntKind.i64.wrap ((n : Int) - 1) = (n : Int) - 1 := IntWalk.i64_in _ (by omega)
        have q3 : IntKind.i64.wrap ((i : Int) + ((n : Int) - 1)) = (i : Int) + ((n : Int) - 1) := IntWalk.i64_in _ (by omega)
        have q4 : IntKind.i64.wrap ((i : Int) + ((n : Int) - 1) + 1) = (i : Int) + ((n : Int) - 1) + 1 := IntWalk.i64_in _ (by omega)
        cases hbo : blkOk ⟨tk, tr, tv, tn⟩ (L.drop (i + 1))
        · rw [hbo] at cN
          simp only [Bool.false_eq_true, if_false] at cN
          replace cN := Lib.hid cN
          have hnl : n = L.length - i := by
            have : blkLen ⟨tk, tr, tv, tn⟩ (L.drop (i + 1)) = (L.drop (i + 1)).length + 1 := by
              unfold blkLen
              unfold blkOk at hbo
              cases hcc : closeP [closerP (Tk.raw ⟨tk, tr, tv, tn⟩)] (L.drop (i + 1)) with
              | none => rfl
              | some e => rw [hcc] at hbo; cases hbo
            rw [hnn, List.length_drop] at this
            omega
          have q5 : IntKind.i64.wrap ((L.length : Int) - (i : Int)) = (n : Int) := by rw [IntWalk.i64_in _ (by omega)]; omega
          clear ho hcl haddr hrdr hcons HCons hnn hbd hnl hbo
          rcases hkk with m1 | ⟨m1, m2⟩
          all_goals
            go_wp2_with (go_at_call 42; (with_reducible refine (cN.out _ (HBl.out.alloc HBl.out.size _)).mono ?_); rintro e W2 ⟨rfl, hb2⟩; have HB2 := Lib.hid ((HBl.out.alloc HBl.out.size _).trans (hb2.mono (by have := HBl.out.size; simp; omega))); have hrow2 := Lib.hid (row_on (HRow.out.alloc _) hb2); clear hb2 e0 e1 e2 e3)
            go_roundw
            case rel => exact ⟨f, i + n, acc, vs, by omega, by omega, rfl, by go_num, HNew.out, by omega, HVs.out, hrow2.out, HB2.out⟩
            case measure => simp [intOf]; omega
        · have h2 := mblk_too hbo
          rw [hnn] at h2
          rw [hbo] at cN
          simp only [if_true] at cN
          replace cN := Lib.hid cN
          have z0 : ((n : Int) == 0) = false := by simp; omega
          clear ho hcl haddr hrdr hcons HCons hnn hbd hbo
          rcases hkk with m1 | ⟨m1, m2⟩
          all_goals
            go_wp2_with (go_at_call 42; (with_reducible refine (cN.out _ (HBl.out.alloc HBl.out.size _)).mono ?_); rintro e W2 ⟨rfl, hb2⟩; have HB2 := Lib.hid ((HBl.out.alloc HBl.out.size _).trans (hb2.mono (by have := HBl.out.size; simp; omega))); have hrow2 := Lib.hid (row_on (HRow.out.alloc _) hb2); clear hb2 e0 e1 e2 e3)
            go_roundw
            case rel => exact ⟨f, i + n, acc, vs, by omega, by omega, rfl, by go_num, HNew.out, by omega, HVs.out, hrow2.out, HB2.out⟩
            case measure => simp [intOf]; omega
    · obtain rfl : i = L.length := by omega
      have HFin := Lib.hid (show P = acc ++ [L.drop f] by
        rw [← HInv.out, List.drop_length, pieces_nil, List.take_of_length_le (by rw [List.length_drop]; omega)])
      have hsl := fun w => slice_from (P := Tryz.prog) (k := 4) Tryz.underlying63 Tryz.sizeOf81 A L.length cap (f : Int) (by omega) (by omega) w
      simp only [Int.toNat_natCast] at hsl
      have HTs := Lib.hid (ts_from HL.out hc (i := f) (by omega))
      clear hbel hz0
      go_wp2_with (at_builtin; refine wpList_append_own _ rfl _ _ 73 rfl w.heap.size 63 i0 _ 1 24 Tryz.underlying73 Hi.out Hz0.out Hz1.out Hz2.out rfl (by decide) _ _ _ rfl (HRow.out.alloc _) ⟨wr.heap.size, 0, none⟩ 1 1 [.slice (addrAt 4 A cap f) (L.length - f) (cap - f)] rfl rfl ?c1 ?c2 ?c3 ?c4 ?c5 ?_)
      case c1 => exact (Blk.new (w := wr) (t := 63) (cs := #[.slice (addrAt 4 A cap f) (L.length - f) (cap - f)]) (by simp)).news
      case c2 => simp [Value.oneCell']
      case c3 => unfold maxLen; omega
      case c4 => omega
      case c5 => have := HBl.out.size; simp; omega
      intro v' w3 hown3 hgrow3 hnil3
      have hb3 := Lib.hid (below_app (HBl.out.alloc HBl.out.size _) hgrow3 (HRow.out.alloc _) (Nat.le_refl _) (by simp; have := HBl.out.size; omega))
      replace hown3 := Lib.hid hown3
      clear hgrow3 hnil3
      go_wp2_with fail
      go_ret
      exact ⟨⟨_, vs ++ [.slice (addrAt 4 A cap f) (L.length - f) (cap - f)], rfl, by rw [HFin.out]; exact HVs.out.snoc HTs.out, by simpa using hown3.out⟩, hb3.out⟩

end Go.Proofs.YtmjbaimccbkmpaaGreatDoor.med

namespace Go.Proofs.YtmjbaimccbkmpaaGreatDoor.base
open Go.RowKit
set_option linter.unusedVariables false

theorem copyCheck_far (B b : Nat) (bs : List Value) (w : World) (h : Lib.IsBuilder 103 5 B b bs w) :
    Calls Tryz.prog 77 #[.pointer (some ⟨b, 0, none⟩)] w fun e w' => e = .returned (.tuple #[]) ∧ (Lib.BuilderAt 103 5 B b (.pointer (some ⟨b, 0, none⟩)) bs w' ∧ Below B w w' ∧ w.heap.size = w'.heap.size ∧ ∀ k, k ≠ b → w'.heap[k]? = w.heap[k]?) := by
  rcases h with h | h
  · refine (copyCheck_fresh b w h.cell0 h.shape h.frozen0).mono ?_
    rintro e w' ⟨rfl, rfl⟩
    exact ⟨rfl, h.used _, (Below.refl B w).setCell (p := ⟨b, 0, none⟩) h.1 _, (size_setCell _ _ _).symm, fun k hk => Below.heap_setCell w ⟨b, 0, none⟩ _ k hk⟩
  · refine (copyCheck_used b w h.cell0).mono ?_
    rintro e w' ⟨rfl, rfl⟩
    exact ⟨rfl, h, Below.refl B _, rfl, fun k hk => rfl⟩

/-- a row of another type lies in another block -/
theorem not_row {w : World} {base : Nat} {e : TypeId} {size n k : Nat} {v : Value} {xs : List Value} {t : TypeId} {cs : Array Value} (h : w.ownsRow base e size v n xs) (hk : Blk w k t cs) (ht : t ≠ e) : v.ownBlock ≠ some k := by
  intro hv
  rcases h.2 with ⟨rfl, _⟩ | ⟨g, cap, cur, rfl, _, hg, _⟩
  · simp [Value.ownBlock] at hv
  · simp [Value.ownBlock] at hv
    subst hv
    unfold Blk at hk
    rw [hg] at hk
    simp at hk
    exact ht hk.2.symm

set_option maxHeartbeats 2000000 in
set_option maxRecDepth 100000 in
theorem writeByte_far (B b : Nat) (bs : List Value) (c : Int) (w : World) (h : Lib.IsBuilder 103 5 B b bs w) (hlen : bs.length + 1 ≤ 140737488355328) (hBw : B ≤ w.heap.size) (kx : Nat) (tx : TypeId) (cx : Array Value) (hx : Blk w kx tx cx) (htx : tx ≠ 5) (hkx : kx ≠ b) :
    Calls Tryz.prog 84 #[.pointer (some ⟨b, 0, none⟩), .int .u8 c] w fun e w' => e = .returned .nilIface ∧ (Lib.BuilderAt 103 5 B b (.pointer (some ⟨b, 0, none⟩)) (bs ++ [.int .u8 c]) w' ∧ Below B w w' ∧ Blk w' kx tx cx) := by
  obtain ⟨i0, hi, hz0, hz1, hz2⟩ := info_parts infoByte
  go_enter Tryz.func84, Tryz.ntmps84
  go_wp2_with (go_at_call 77; refine (copyCheck_far B b bs _ h).mono ?_)
  rintro e w1 ⟨rfl, h1, hb1, hsz, hfar⟩
  have hx1 : Blk w1 kx tx cx := (hfar kx hkx).trans hx
  clear hfar
  obtain ⟨hB, v, hbk, hown, hne⟩ := h1
  have HX := Lib.hid hx1
  have HN := Lib.hid (not_row hown hx1 htx)
  have HS := Lib.hid hsz
  clear hx hx1 hsz
  have c0 : w1.cell? ⟨b, 0, none⟩ = some (.pointer (some ⟨b, 0, none⟩)) := by rw [Lib.cell_of_heap hbk]; rfl
  have c1 : w1.cell? ⟨b, 1, none⟩ = some v := by rw [Lib.cell_of_heap hbk]; rfl
  go_wp2_with (at_builtin; refine wpList_append_own _ rfl _ _ 34 rfl B 5 i0 (.int .u8 0) 1 1 Tryz.underlying34 hi hz0 hz1 hz2 rfl (by decide) _ _ _ rfl (hown.alloc _) ⟨w1.heap.size, 0, none⟩ 1 1 [.int .u8 c] rfl rfl ?c1 ?c2 ?c3 ?c4 ?c5 ?_)
  case c1 =>
    intro j u hj
    match j, hj with
    | 0, hj => simp at hj; subst hj; simp [Addr.add]
  case c2 => intro u hu; simp at hu; subst hu; rfl
  case c3 => unfold maxLen; omega
  case c4 => omega
  case c5 => have := hb1.size; simp; omega
  intro v' w2 hown' hgrow _
  have hlt : b < w1.heap.size := by
    rcases Nat.lt_or_ge b w1.heap.size with h' | h'
    · exact h'
    · simp [Array.getElem?_eq_none h'] at hbk
  have hb2 : w2.heap[b]? = some (.cells #[.pointer (some ⟨b, 0, none⟩), v] 103 (0, 0)) := by
    rw [hgrow.block b (by simp; omega) (fun e => hne e.symm), Lib.alloc_old w1 _ b hlt]
    exact hbk
  have d0 : w2.cell? ⟨b, 0, none⟩ = some (.pointer (some ⟨b, 0, none⟩)) := by rw [Lib.cell_of_heap hb2]; rfl
  have d1 : w2.cell? ⟨b, 1, none⟩ = some v := by rw [Lib.cell_of_heap hb2]; rfl
  have f1 : w2.frozen? ⟨b, 1, none⟩ = false := Lib.frozen_of_heap hb2 1
  obtain ⟨g, cap, rfl⟩ : ∃ g cap, v' = .slice (some ⟨g, 0, none⟩) (bs.length + 1) cap := by
    rcases hown'.2 with ⟨_, h0⟩ | ⟨g, cap, cur, hv, _⟩
    · omega
    · exact ⟨g, cap, hv⟩
  go_wp2
  go_ret
  refine ⟨rfl, ?_, ?_, ?_⟩
  · exact Lib.BuilderAt.put (T := 103) (e := 5) hB hb2 (bs' := bs ++ [.int .u8 c]) (by simpa using hown') (by decide)
  · exact ((hb1.alloc (by have := hb1.size; omega) _).grown hgrow (by have := hb1.size; simp; omega) (fun k hk => (hown.lt k hk).1)).setCell (p := ⟨b, 1, none⟩) hB _
  · have h2 : Blk w2 kx tx cx := (hgrow.block kx (by have := HX.out.lt; simp; omega) (fun e => HN.out e.symm)).trans (HX.out.alloc _)
    exact h2.far hkx _

set_option maxHeartbeats 2000000 in
set_option maxRecDepth 100000 in
theorem writeString_far (B b : Nat) (bs : List Value) (s : ByteArray) (w : World) (h : Lib.IsBuilder 103 5 B b bs w) (hlen : bs.length + s.size ≤ 140737488355328) (hBw : B ≤ w.heap.size) (kx : Nat) (tx : TypeId) (cx : Array Value) (hx : Blk w kx tx cx) (htx : tx ≠ 5) (hkx : kx ≠ b) :
    Calls Tryz.prog 48 #[.pointer (some ⟨b, 0, none⟩), .string s] w fun e w' => e = .returned (.tuple #[.int .i64 s.size, .nilIface]) ∧ (Lib.BuilderAt 103 5 B b (.pointer (some ⟨b, 0, none⟩)) (bs ++ Lib.strCells s) w' ∧ Below B w w' ∧ Blk w' kx tx cx) := by
  obtain ⟨i0, hi, hz0, hz1, hz2⟩ := info_parts infoByte
  go_enter Tryz.func48, Tryz.ntmps48
  go_wp2_with (go_at_call 77; refine (copyCheck_far B b bs _ h).mono ?_)
  rintro e w1 ⟨rfl, h1, hb1, hsz, hfar⟩
  have hx1 : Blk w1 kx tx cx := (hfar kx hkx).trans hx
  clear hfar
  obtain ⟨hB, v, hbk, hown, hne⟩ := h1
  have HX := Lib.hid hx1
  have HN := Lib.hid (not_row hown hx1 htx)
  have HS := Lib.hid hsz
  clear hx hx1 hsz
  have c0 : w1.cell? ⟨b, 0, none⟩ = some (.pointer (some ⟨b, 0, none⟩)) := by rw [Lib.cell_of_heap hbk]; rfl
  have c1 : w1.cell? ⟨b, 1, none⟩ = some v := by rw [Lib.cell_of_heap hbk]; rfl
  go_wp2_with (at_builtin; refine Lib.wpList_append_own_string _ rfl _ _ 34 9 rfl B 5 i0 Tryz.underlying34 Tryz.underlying9 hi hz0 hz1 hz2 _ _ _ rfl hown s rfl ?c3 ?c4 ?c5 ?_)
  case c3 => unfold maxLen; omega
  case c4 => omega
  case c5 => have := hb1.size; omega
  intro v' w2 hown' hgrow _
  have hlt : b < w1.heap.size := by
    rcases Nat.lt_or_ge b w1.heap.size with h' | h'
    · exact h'
    · simp [Array.getElem?_eq_none h'] at hbk
  have hb2 : w2.heap[b]? = some (.cells #[.pointer (some ⟨b, 0, none⟩), v] 103 (0, 0)) := by
    rw [hgrow.block b hlt (fun e => hne e.symm)]
    exact hbk
  have d0 : w2.cell? ⟨b, 0, none⟩ = some (.pointer (some ⟨b, 0, none⟩)) := by rw [Lib.cell_of_heap hb2]; rfl
  have d1 : w2.cell? ⟨b, 1, none⟩ = some v := by rw [Lib.cell_of_heap hb2]; rfl
  have f1 : w2.frozen? ⟨b, 1, none⟩ = false := Lib.frozen_of_heap hb2 1
  obtain ⟨ao, n', cap, rfl⟩ : ∃ ao n' cap, v' = .slice ao n' cap := by
    rcases hown'.2 with ⟨hv, _⟩ | ⟨g, cap, cur, hv, _⟩
    · exact ⟨_, _, _, hv⟩
    · exact ⟨_, _, _, hv⟩
  go_wp2
  go_ret2
  refine ⟨rfl, ?_, ?_, ?_⟩
  · exact Lib.BuilderAt.put (T := 103) (e := 5) hB hb2 (bs' := bs ++ Lib.strCells s) (by simpa [Lib.strCells_length] using hown') (by decide)
  · exact (hb1.grown hgrow (by have := hb1.size; omega) (fun k hk => (hown.lt k hk).1)).setCell (p := ⟨b, 1, none⟩) hB _
  · have h2 : Blk w2 kx tx cx := (hgrow.block kx HX.out.lt (fun e => HN.out e.symm)).trans HX.out
    exact h2.far hkx _

/-- WriteByte, on lists of bytes -/
theorem writeByte_on (B b : Nat) (l : List UInt8) (c : UInt8) (w : World) (h : IsB B b l w) (hlen : l.length + 1 ≤ 140737488355328) (hBw : B ≤ w.heap.size) (kx : Nat) (tx : TypeId) (cx : Array Value) (hx : Blk w kx tx cx) (htx : tx ≠ 5) (hkx : kx ≠ b) :
    Calls Tryz.prog 84 #[.pointer (some ⟨b, 0, none⟩), .int .u8 (c.toNat : Int)] w fun e w' => e = .returned .nilIface ∧ IsB B b (l ++ [c]) w' ∧ Below B w w' ∧ Blk w' kx tx cx :=
  (writeByte_far B b _ _ w h (by rw [Lib.byteCells_length]; exact hlen) hBw kx tx cx hx htx hkx).mono fun e w' ⟨he, h1, h2, h3⟩ => ⟨he, Or.inr (by simpa [Lib.byteCells] using h1), h2, h3⟩
/-- WriteString, on lists of bytes -/
theorem writeString_on (B b : Nat) (l : List UInt8) (s : ByteArray) (w : World) (h : IsB B b l w) (hlen : l.length + s.size ≤ 140737488355328) (hBw : B ≤ w.heap.size) (kx : Nat) (tx : TypeId) (cx : Array Value) (hx : Blk w kx tx cx) (htx : tx ≠ 5) (hkx : kx ≠ b) :
    Calls Tryz.prog 48 #[.pointer (some ⟨b, 0, none⟩), .string s] w fun e w' => e = .returned (.tuple #[.int .i64 s.size, .nilIface]) ∧ IsB B b (l ++ s.data.toList) w' ∧ Below B w w' ∧ Blk w' kx tx cx :=
  (writeString_far B b _ s w h (by rw [Lib.byteCells_length]; exact hlen) hBw kx tx cx hx htx hkx).mono fun e w' ⟨he, h1, h2, h3⟩ => ⟨he, Or.inr (by simpa [Lib.byteCells, Lib.strCells] using h1), h2, h3⟩

end Go.Proofs.YtmjbaimccbkmpaaGreatDoor.base

namespace Go.Proofs.YtmjbaimccbkmpaaGreatDoor.rul
open Go.RowKit Go.Proofs.YtmjbaimccbkmpaaGreatDoor.base Go.Proofs.YtmjbaimccbkmpaaGreatDoor.tok
set_option linter.unusedVariables false

/-- the text of tokens, with one blank for all that is silent in a row -/
def headF : List Tk → Bs → Bool → Bs
  | [], out, _ => out
  | t :: L, out, gap => if silP t then headF L out (decide (0 < out.length)) else headF L ((if gap then out ++ [32] else out) ++ t.raw) false
def headP (L : List Tk) : Bs := headF L [] false

theorem wb32 (B b : Nat) (l : List UInt8) (w : World) (h : IsB B b l w) (hlen : l.length + 1 ≤ 140737488355328) (hBw : B ≤ w.heap.size) (kx : Nat) (tx : TypeId) (cx : Array Value) (hx : Blk w kx tx cx) (htx : tx ≠ 5) (hkx : kx ≠ b) :
    Calls Tryz.prog 84 #[.pointer (some ⟨b, 0, none⟩), .int .u8 32] w fun e w' => e = .returned .nilIface ∧ IsB B b (l ++ [32]) w' ∧ Below B w w' ∧ Blk w' kx tx cx := writeByte_on B b l 32 w h hlen hBw kx tx cx hx htx hkx

def HeadRel (L : List Tk) (R : Bs) (w : World) (g i : Value) (wr : World) : Prop :=
  ∃ (k : Nat) (out : Bs) (gap : Bool), k ≤ L.length ∧ g = .bool gap ∧ i = .int .i64 k ∧ headF (L.drop k) out gap = R ∧ out.length ≤ (textOf (L.take k)).length + k ∧ IsB w.heap.size w.heap.size out wr ∧ Below w.heap.size w wr ∧ w.heap.size < wr.heap.size

end Go.Proofs.YtmjbaimccbkmpaaGreatDoor.rul

namespace Go.Proofs.YtmjbaimccbkmpaaGreatDoor.base
open Go.RowKit Go.Proofs.YtmjbaimccbkmpaaGreatDoor.tok
set_option linter.unusedVariables false

/-- the library's table of folds of the first signs -/
def foldTab : List Int := (List.range 128).map fun (c : Nat) => if 65 ≤ c ∧ c ≤ 90 then (c : Int) + 32 else if c = 107 then 8490 else if c = 115 then 383 else if 97 ≤ c ∧ c ≤ 122 then (c : Int) - 32 else (c : Int)
theorem fold_at : ∀ c : Fin 128, 0 ≤ foldTab.getD c.val 0 ∧ foldTab.getD c.val 0 ≤ 65535 := by decide +kernel

set_option maxRecDepth 100000 in
theorem decode_ct (s : ByteArray) (h : 0 < s.size) (hl : (s[0]'h).toNat < 128) (w : World) :
    Calls Tryz.prog 76 #[.string s] w fun e w' => e = .returned (.tuple #[.int .i32 ((s[0]'h).toNat : Int), .int .i64 1]) ∧ w = w' := by
  have he := empty_no h
  have hl' : (((s[0]'h).toNat : Nat) : Int) < 128 := by omega
  go_enter Tryz.func76, Tryz.ntmps76
  go_wp2_with fail
  go_ret2
  exact ⟨rfl, rfl⟩

end Go.Proofs.YtmjbaimccbkmpaaGreatDoor.base
