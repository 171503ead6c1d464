/- Contracts and plain law, a bundle: Cal11 Cal12 Cal13. -/
import Derived.Test.YtbiahfjjngkfgaaDoorBE

namespace Go.Proofs.YtbiahfjjngkfgaaDoor.cal
open Go.RowKit Go.Proofs.YtbiahfjjngkfgaaDoor.base Go.Proofs.YtbiahfjjngkfgaaDoor.tok Go.Proofs.YtbiahfjjngkfgaaDoor.dim Go.Proofs.YtbiahfjjngkfgaaDoor.rul
set_option linter.unusedVariables false

theorem RdrAt.lenV {w : World} {b : Nat} {L : List Tk} {k : Int} {g : Bool} (h : RdrAt w b L k g) : cal.lenV (w.cell? ⟨b, 0, none⟩) = L.length := by
  obtain ⟨A, cap, hc, hb, hr⟩ := h
  rw [hb.cell 0]
  rfl

theorem tm_two {w : World} {c : Nat} {t : TypeId} {t0 t1 : Tm} (h : Blk w c t #[.int .i64 t0.k, .int .i64 t0.n, .string t0.u, .slice t0.a t0.l t0.c, .int .i64 t1.k, .int .i64 t1.n, .string t1.u, .slice t1.a t1.l t1.c]) : TmAt w c 0 [t0, t1] :=
  ⟨h.lt, fun i t ht => by
    rcases two_at ht with ⟨rfl, rfl⟩ | ⟨rfl, rfl⟩
    · exact ⟨h.cell 0, h.cell 1, h.cell 2, h.cell 3⟩
    · exact ⟨h.cell 4, h.cell 5, h.cell 6, h.cell 7⟩⟩
theorem TmAt.grown {w w' : World} {b c o : Nat} {L : List Tm} (h : TmAt w c o L) (hg : w.grownBy w' (some b)) (hne : c ≠ b) : TmAt w' c o L :=
  ⟨Nat.lt_of_lt_of_le h.1 hg.size, fun i t ht => by
    have e : ∀ j, w'.cell? ⟨c, j, none⟩ = w.cell? ⟨c, j, none⟩ := fun j => by
      simp only [World.cell?]
      rw [hg.block c h.1 (fun e => hne (Option.some.inj e))]
    obtain ⟨a0, a1, a2, a3⟩ := h.2 i t ht
    exact ⟨(e _).trans a0, (e _).trans a1, (e _).trans a2, (e _).trans a3⟩⟩
theorem TmAt.far {w : World} {b o : Nat} {L : List Tm} (h : TmAt w b o L) {p : Addr} (hp : b ≠ p.block) (v : Value) : TmAt (w.setCell p v) b o L :=
  ⟨by simpa [World.setCell] using h.1, fun i t ht => by
    have e : ∀ j, (w.setCell p v).cell? ⟨b, j, none⟩ = w.cell? ⟨b, j, none⟩ := fun j => World.cell?_setCell_other w p ⟨b, j, none⟩ v (by intro e; subst e; exact hp rfl)
    obtain ⟨a0, a1, a2, a3⟩ := h.2 i t ht
    exact ⟨(e _).trans a0, (e _).trans a1, (e _).trans a2, (e _).trans a3⟩⟩

set_option maxRecDepth 100000 in
set_option maxHeartbeats 8000000 in
theorem product_mul (b : Nat) (r1 u1 r2 u2 : Bs) (n1 n2 : Int) (s x s2 t : Tk) (T : List Tk) (k : Int) (g : Bool) (hr1 : r1.length < 4294967281) (hr2 : r2.length < 4294967281) (hcut1 : cutP r1 = [⟨7, r1, u1, n1⟩]) (hcut2 : cutP r2 = [⟨7, r2, u2, n2⟩]) (hu1 : u1 ∈ unitsL) (hu2 : u2 ∈ unitsL)
    (hs : silP s = true) (hs2 : silP s2 = true) (hx : x.raw = [42]) (hxs : silP x = false) (hts : silP t = false) (ht1 : t.raw ≠ [42]) (ht2 : t.raw ≠ [47]) (hT : T.length ≤ 900) (hk0 : 0 ≤ k) (hk : k ≤ 20) (w : World)
    (h : RdrAt w b (⟨7, r1, u1, n1⟩ :: s :: x :: s2 :: ⟨7, r2, u2, n2⟩ :: t :: T) k g) (hE : Env b w) :
    Calls Tryd.prog 43 #[.pointer (some ⟨b, 0, none⟩)] w fun e w' => ∃ c, e = .returned (.agg #[.int .i64 4, .int .i64 0, .string ⟨#[]⟩, .slice (some ⟨c, 0, none⟩) 2 2]) ∧ TmAt w' c 0 [leafT n1 (bs u1), leafT n2 (bs u2)] ∧ w.heap.size ≤ c ∧ RdrAt w' b (t :: T) (k + 3) false ∧ w.grownBy w' (some b) := by
  have c1 := Lib.hid (fun w h => gap_no b ⟨7, r1, u1, n1⟩ (s :: x :: s2 :: ⟨7, r2, u2, n2⟩ :: t :: T) k g rfl (by simp; omega) w h)
  have c2 := Lib.hid (fun w h hE => value_num b r1 u1 n1 (s :: x :: s2 :: ⟨7, r2, u2, n2⟩ :: t :: T) k g true hr1 hcut1 hu1 hk0 (by omega) w h hE)
  have c3 := Lib.hid (fun w h => gap_yes b s x (s2 :: ⟨7, r2, u2, n2⟩ :: t :: T) (k + 1) g hs hxs (by simp; omega) w h)
  have c4 := Lib.hid (fun w h => raw_yes b x (s2 :: ⟨7, r2, u2, n2⟩ :: t :: T) (k + 1) true ⟨#[42]⟩ w h hx)
  have c5 := Lib.hid (fun w h => gap_yes b s2 ⟨7, r2, u2, n2⟩ (t :: T) (k + 1) true hs2 rfl (by simp; omega) w h)
  have c6 := Lib.hid (fun w h hE => value_num b r2 u2 n2 (t :: T) (k + 1) true true hr2 hcut2 hu2 (by omega) (by omega) w h hE)
  have c7 := fun c w h => made_yes b (t :: T) (k + 1 + 1) true ⟨4, 0, ⟨#[]⟩, some ⟨c, 0, none⟩, 2, 2⟩ (by omega) (by omega) w h
  dsimp only at c7
  replace c7 := Lib.hid c7
  have hk3 := Lib.hid (show k + 1 + 1 + 1 = k + 3 by omega)
  have c8 := Lib.hid (fun w h => gap_no b t T (k + 3) true hts (by omega) w h)
  have c9 := Lib.hid (fun w h => raw_no b t T (k + 3) false ⟨#[42]⟩ w h ht1)
  have c10 := Lib.hid (fun w h => raw_no b t T (k + 3) false ⟨#[47]⟩ w h ht2)
  clear hr1 hr2 hcut1 hcut2 hu1 hu2 hs hs2 hx hxs hts ht1 ht2 hT
  have hlt := h.lt
  have HR0 := Lib.hid (h.alloc (.cells #[.int .i64 0, .int .i64 0, .string ⟨#[]⟩, .slice none 0 0] 27))
  have HG0 := Lib.hid (show w.grownBy (w.alloc (.cells #[.int .i64 0, .int .i64 0, .string ⟨#[]⟩, .slice none 0 0] 27)) (some b) from grown_alloc (World.grownBy.refl _ _) _)
  have Q0 := Lib.hid (show Blk (w.alloc (.cells #[.int .i64 0, .int .i64 0, .string ⟨#[]⟩, .slice none 0 0] 27)) w.heap.size 27 #[.int .i64 0, .int .i64 0, .string ⟨#[]⟩, .slice none 0 0] from Blk.new rfl)
  replace hE := Lib.hid hE
  clear h
  go_enter Tryd.func43, Tryd.ntmps43
  go_wp2_with (first
    | (go_at_call 10; (with_reducible refine (c1.out _ HR0.out).mono ?_); rintro e W1 ⟨rfl, hr1, hg1⟩; have HR1 := Lib.hid hr1; have HG1 := Lib.hid (HG0.out.trans hg1); have Q1 := Lib.hid (Blk_grown Q0.out hg1 (by omega)); clear hr1 hg1)
    | (go_at_call 11; (with_reducible refine (c2.out _ HR1.out (hE.out.on (below_one HG1.out hlt))).mono ?_); rintro e W2 ⟨rfl, hr2, hg2⟩; have HR2 := Lib.hid hr2; have HG2 := Lib.hid (HG1.out.trans hg2); have Q2 := Lib.hid (Blk_grown Q1.out hg2 (by omega)); clear hr2 hg2))
  have hz2 := HG2.out.size
  have ho := Q2.out.lt
  go_loopw [] (fun wr => (RdrAt wr b (s :: x :: s2 :: ⟨7, r2, u2, n2⟩ :: t :: T) (k + 1) g ∧ Blk wr W2.heap.size 27 #[.int .i64 1, .int .i64 n1, .string (bs u1), .slice none 0 0] ∧ Blk wr w.heap.size 27 #[.int .i64 0, .int .i64 0, .string ⟨#[]⟩, .slice none 0 0] ∧ w.grownBy wr (some b)) ∨
      (∃ c, RdrAt wr b (t :: T) (k + 3) true ∧ Blk wr W2.heap.size 27 #[.int .i64 4, .int .i64 0, .string ⟨#[]⟩, .slice (some ⟨c, 0, none⟩) 2 2] ∧ Blk wr w.heap.size 27 #[.int .i64 0, .int .i64 0, .string ⟨#[]⟩, .slice none 0 0] ∧ w.grownBy wr (some b) ∧ TmAt wr c 0 [leafT n1 (bs u1), leafT n2 (bs u2)] ∧ W2.heap.size < c)) (fun wr => cal.lenV (wr.cell? ⟨b, 0, none⟩))
  case atStart => exact .inl ⟨HR2.out.alloc _, Blk.new rfl, Q2.out.alloc _, grown_alloc HG2.out _⟩
  case round =>
    rcases hrel with ⟨hr, hq, hz, hg⟩ | ⟨c, hr, hq, hz, hg, ht, hcc⟩
    · replace hr := Lib.hid hr
      replace hq := Lib.hid hq
      replace hz := Lib.hid hz
      replace hg := Lib.hid hg
      go_wp2_with (first
        | (go_at_call 10; (with_reducible refine (c3.out _ hr.out).mono ?_); rintro e W3 ⟨rfl, hr3, hg3⟩; have q3 := Blk_grown hq.out hg3 (by omega); have z3 := Lib.hid (Blk_grown hz.out hg3 (by omega)); have G3 := Lib.hid (hg.out.trans hg3); obtain ⟨tb3, off3, cap3, _, _, _, hcl3, hfr3, _, _, _, _, _, _⟩ := hr3.turn; have HR3 := Lib.hid (hr3.gapped true); have Q3 := Lib.hid (q3.far (p := ⟨b, 2, none⟩) (by dsimp only; omega) (.bool true)); clear hr3 hg3 q3)
        | (go_at_call 22; (with_reducible refine (c4.out _ HR3.out).mono ?_); rintro e W4 ⟨rfl, hr4, hg4⟩; have HR4 := Lib.hid hr4; have G4 := Lib.hid ((G3.out.trans (grown_set _ _ _ _)).trans hg4); have Q4 := Lib.hid (Blk_grown Q3.out hg4 (by omega)); have z4 := Lib.hid (Blk_grown (z3.out.far (p := ⟨b, 2, none⟩) (by dsimp only; omega) (.bool true)) hg4 (by omega)); clear hr4 hg4)
        | (go_at_call 10; (with_reducible refine (c5.out _ HR4.out).mono ?_); rintro e W5 ⟨rfl, hr5, hg5⟩; have HR5 := Lib.hid (hr5.on (Below.refl _ _).drew hr5.lt); have G5 := Lib.hid ((G4.out.trans hg5).trans (grown_of_below (Below.refl _ _).drew _)); have Q5 := Lib.hid (Blk_grown Q4.out hg5 (by omega)).drew; have z5 := Lib.hid (Blk_grown z4.out hg5 (by omega)).drew; clear hr5 hg5))
      have qc5 := Q5.out.cell
      have hz5 := G5.out.size
      go_region_with (first
        | (go_at_call 11; (with_reducible refine (c6.out _ HR5.out (hE.out.on (below_one G5.out hlt))).mono ?_); rintro e W6 ⟨rfl, hr6, hg6⟩; have HR6 := Lib.hid hr6; have G6 := Lib.hid (G5.out.trans hg6); have Q6 := Lib.hid (Blk_grown Q5.out hg6 (by omega)); have z6 := Lib.hid (Blk_grown z5.out hg6 (by omega)); have qc6 := Q6.out.cell; have qf6 := Q6.out.frozen; clear hr6 hg6)
        | (go_at_call 20; (with_reducible refine (c7.out _ _ (HR6.out.alloc _)).mono ?_); rintro e W7 ⟨rfl, hr7, hg7⟩; have hb6 := G6.out.size; rw [hk3.out] at hr7; have HR7 := Lib.hid hr7; have G7 := Lib.hid ((grown_alloc G6.out _).trans hg7); have q7 := Blk_grown (Q6.out.alloc _) hg7 (by omega); have z7 := Lib.hid (Blk_grown (z6.out.alloc _) hg7 (by omega)); have t7 := Lib.hid (Blk_grown (Blk.new (w := W6) (k := W6.heap.size) (t := 27) (cs := #[.int .i64 1, .int .i64 n1, .string (bs u1), .slice none 0 0, .int .i64 1, .int .i64 n2, .string (bs u2), .slice none 0 0]) rfl) hg7 (by omega)); have qc7 := q7.cell; have qf7 := q7.frozen; have Q7 := Lib.hid q7; clear hr7 hg7 q7))
      all_goals
        have hw6 := G6.out.size
        have hq6 := Q6.out.lt
        have HRn := Lib.hid ((((HR7.out.far (p := ⟨W2.heap.size, 0, none⟩) (by dsimp only; omega) (.int .i64 4)).far (p := ⟨W2.heap.size, 1, none⟩) (by dsimp only; omega) (.int .i64 0)).far (p := ⟨W2.heap.size, 2, none⟩) (by dsimp only; omega) (.string ⟨#[]⟩)).far (p := ⟨W2.heap.size, 3, none⟩) (by dsimp only; omega) (.slice (some ⟨W6.heap.size, 0, none⟩) 2 2))
        go_wp2
        go_roundw
        case rel =>
          refine .inr ⟨W6.heap.size, HRn.out, Blk.four Q7.out _ _ _ _, ?_, ?_, ?_, hq6⟩
          · exact ((((z7.out.far (by dsimp only; omega) _).far (by dsimp only; omega) _).far (by dsimp only; omega) _).far (by dsimp only; omega) _)
          · exact grown_far (grown_far (grown_far (grown_far G7.out (by dsimp only; omega)) (by dsimp only; omega)) (by dsimp only; omega)) (by dsimp only; omega)
          · exact (((TmAt.far (TmAt.far (TmAt.far (TmAt.far (tm_two (t0 := leafT n1 (bs u1)) (t1 := leafT n2 (bs u2)) t7.out) (by dsimp only; omega) _) (by dsimp only; omega) _) (by dsimp only; omega) _) (by dsimp only; omega) _)))
        case measure =>
          rw [HRn.out.lenV, hr.out.lenV]
          simp only [List.length_cons]
          omega
    · replace hq := Lib.hid hq
      replace hg := Lib.hid hg
      replace ht := Lib.hid ht
      go_wp2_with (first
        | (go_at_call 10; (with_reducible refine (c8.out _ hr).mono ?_); rintro e W3 ⟨rfl, hr3, hg3⟩; have q3 := (Blk_grown hq.out hg3 (by omega)).far (p := ⟨b, 2, none⟩) (by dsimp only; omega) (.bool false); have z3 := Lib.hid ((Blk_grown hz hg3 (by omega)).far (p := ⟨b, 2, none⟩) (by dsimp only; omega) (.bool false)); have G3 := Lib.hid ((hg.out.trans hg3).trans (grown_set W3 b 2 (.bool false))); have t3 := Lib.hid ((ht.out.grown hg3 (by omega)).far (p := ⟨b, 2, none⟩) (by dsimp only; omega) (.bool false)); obtain ⟨tb3, off3, cap3, _, _, _, hcl3, hfr3, _, _, _, _, _, _⟩ := hr3.turn; have HR3 := Lib.hid (hr3.gapped false); have qc3 := q3.cell; have qf3 := q3.frozen; have zc3 := z3.out.cell; have zf3 := z3.out.frozen; clear hr3 hg3 q3)
        | (go_at_call 22; (with_reducible refine (c9.out _ HR3.out).mono ?_); rintro e W4 ⟨rfl, rfl⟩)
        | (go_at_call 22; (with_reducible refine (c10.out _ HR3.out).mono ?_); rintro e W4 ⟨rfl, rfl⟩))
      have e := Blk.cell (Blk.four (z3.out) (.int .i64 4) (.int .i64 0) (.string ⟨#[]⟩) (.slice (some ⟨c, 0, none⟩) 2 2))
      refine bodyPost_ret (v := .agg #[.int .i64 4, .int .i64 0, .string ⟨#[]⟩, .slice (some ⟨c, 0, none⟩) 2 2]) (by simp [results, Tryd.results43, go_sem, e]) rfl ⟨c, rfl, ?_, by omega, ?_, ?_⟩
      · exact (((t3.out.far (by dsimp only; omega) _).far (by dsimp only; omega) _).far (by dsimp only; omega) _).far (by dsimp only; omega) _
      · exact (((HR3.out.far (by dsimp only; omega) _).far (by dsimp only; omega) _).far (by dsimp only; omega) _).far (by dsimp only; omega) _
      · exact grown_far (grown_far (grown_far (grown_far G3.out (Nat.le_refl _)) (Nat.le_refl _)) (Nat.le_refl _)) (Nat.le_refl _)

end Go.Proofs.YtbiahfjjngkfgaaDoor.cal

namespace Go.Proofs.YtbiahfjjngkfgaaDoor.cal
open Go.RowKit Go.Proofs.YtbiahfjjngkfgaaDoor.base Go.Proofs.YtbiahfjjngkfgaaDoor.tok Go.Proofs.YtbiahfjjngkfgaaDoor.dim Go.Proofs.YtbiahfjjngkfgaaDoor.rul
set_option linter.unusedVariables false

set_option maxRecDepth 100000 in
set_option maxHeartbeats 2000000 in
theorem low_ct (s : ByteArray) (hs : s.size ≤ 140737488355328) (w : World) : Calls Tryd.prog 23 #[.string s] w fun e w' => e = .returned (.string (bs (s.data.toList.map lowB))) ∧ Below w.heap.size w w' := by
  have hz := Lib.hid (Lib.size_eq s)
  go_enter Tryd.func23, Tryd.ntmps23
  go_wp2_with fail
  obtain ⟨cp, W1, hcv, hb1, hz1, hby, hfy⟩ := bytes_of s w
  rw [hcv]
  simp only [Result.andThen]
  rw [Oper.upon_value]
  have hB0 := Lib.hid (show BytesAt W1 w.heap.size s.data.toList from ⟨hby, fun j hj => hfy j (by rw [hz.out]; exact hj)⟩)
  replace hb1 := Lib.hid hb1
  clear hcv hby hfy
  go_wp2_with fail
  go_loopw [10] (fun i wr => ∃ k : Nat, k ≤ s.size ∧ i = .int .i64 k ∧ BytesAt wr w.heap.size (lowAt s.data.toList k) ∧ W1.grownBy wr (some w.heap.size)) (fun i _ => s.size - (intOf i).toNat)
  case atStart => exact ⟨0, by omega, rfl, by simpa [lowAt] using hB0.out, World.grownBy.refl _ _⟩
  case round =>
    obtain ⟨k, hk, rfl, hby, hgr⟩ := hrel
    replace hgr := Lib.hid hgr
    by_cases hlt : k < s.size
    · have hlt' : (k : Int) < (s.size : Int) := by omega
      obtain ⟨c, hc⟩ : ∃ c, s.data.toList[k]? = some c := ⟨s.data.toList[k]'(by rw [← Lib.size_eq]; exact hlt), List.getElem?_eq_getElem _⟩
      have hkl : k < (lowAt s.data.toList k).length := by rw [lowAt_len, ← Lib.size_eq]; exact hlt
      have hcell := hby.1 k c (lowAt_get hc)
      have hfr := hby.2 k hkl
      have hst := Lib.hid (lowAt_step hc)
      have hsm := Lib.hid (set_same (lowAt_get hc))
      have hby' := Lib.hid hby
      have c0 := nv_nn c
      have c1 := nv_lt c
      clear hc hby
      by_cases h1 : 65 ≤ nv c
      · by_cases h2 : nv c ≤ 90
        · have hlo := Lib.hid (lowB_great ⟨h1, h2⟩)
          generalize hx : nv c = x at *
          replace hx := Lib.hid hx
          go_wp2_with fail
          go_roundw
          case rel =>
            refine ⟨k + 1, by omega, by go_num, ?_, hgr.out.trans (grown_set _ _ _ _)⟩
            rw [hst.out]
            exact hby'.out.put hkl hlo.out.symm
          case measure => simp [intOf]; omega
        · have hlo := Lib.hid (lowB_other (c := c) (fun h => h2 h.2))
          generalize hx : nv c = x at *
          replace hx := Lib.hid hx
          go_wp2_with fail
          go_roundw
          case rel => exact ⟨k + 1, by omega, by go_num, by rw [hst.out, hlo.out, hsm.out]; exact hby'.out, hgr.out⟩
          case measure => simp [intOf]; omega
      · have hlo := Lib.hid (lowB_other (c := c) (fun h => h1 h.1))
        generalize hx : nv c = x at *
        replace hx := Lib.hid hx
        go_wp2_with fail
        go_roundw
        case rel => exact ⟨k + 1, by omega, by go_num, by rw [hst.out, hlo.out, hsm.out]; exact hby'.out, hgr.out⟩
        case measure => simp [intOf]; omega
    · obtain rfl : k = s.size := by omega
      have hfin : lowAt s.data.toList s.size = s.data.toList.map lowB := by rw [Lib.size_eq]; exact lowAt_end _
      have hln : (s.data.toList.map lowB).length = s.size := by rw [List.length_map, Lib.size_eq]
      have hcv : ∀ cap, (convert 60 9 (.slice (some ⟨w.heap.size, 0, none⟩) s.size cap)).run Tryd.prog wr = .ok (.string (bs (s.data.toList.map lowB))) wr := fun cap => by
        have := run_convert_bytes_back wr 60 9 5 ⟨w.heap.size, 0, none⟩ cap (s.data.toList.map lowB) Tryd.underlying60 Tryd.underlying5 Tryd.underlying9 (fun j hj => by
          rw [add_zero_block]
          have hb2 := hby.1
          rw [hfin] at hb2
          exact hb2 j _ (List.getElem?_eq_getElem hj))
        rw [hln] at this
        exact this
      have hB := Lib.hid (below_grow hb1.out hgr.out (Nat.le_refl _) (by have := hb1.out.size; omega))
      clear hby hfin hln
      go_wp2
      go_ret
      exact ⟨rfl, hB.out⟩


/-- what product tells of the reader's world -/
def ProdAt (b : Nat) (L : List Tk) (t : Tk) (T : List Tk) (k : Int) (g : Bool) (t0 t1 : Tm) (w : World) : Prop :=
  Calls Tryd.prog 43 #[.pointer (some ⟨b, 0, none⟩)] w fun e w' => ∃ c, e = .returned (.agg #[.int .i64 4, .int .i64 0, .string ⟨#[]⟩, .slice (some ⟨c, 0, none⟩) 2 2]) ∧ TmAt w' c 0 [t0, t1] ∧ w.heap.size ≤ c ∧ RdrAt w' b (t :: T) k g ∧ w.grownBy w' (some b)

set_option maxRecDepth 100000 in
set_option maxHeartbeats 4000000 in
theorem sum_one (b : Nat) (L : List Tk) (t : Tk) (T : List Tk) (k0 k : Int) (g0 g : Bool) (t0 t1 : Tm) (hP : ∀ w, RdrAt w b L k0 g0 → Env b w → ProdAt b L t T k g t0 t1 w) (hn1 : t.raw ≠ [43]) (hn2 : t.raw ≠ [45]) (w : World) (h : RdrAt w b L k0 g0) (hE : Env b w) :
    Calls Tryd.prog 21 #[.pointer (some ⟨b, 0, none⟩)] w fun e w' => ∃ c, e = .returned (.agg #[.int .i64 4, .int .i64 0, .string ⟨#[]⟩, .slice (some ⟨c, 0, none⟩) 2 2]) ∧ TmAt w' c 0 [t0, t1] ∧ w.heap.size ≤ c ∧ RdrAt w' b (t :: T) k g ∧ w.grownBy w' (some b) := by
  have cP := Lib.hid hP
  have q1 : ((bs t.raw).toList == [43]) = false := by rw [bs_toList, beq_eq_false_iff_ne]; exact hn1
  have q2 : ((bs t.raw).toList == [45]) = false := by rw [bs_toList, beq_eq_false_iff_ne]; exact hn2
  have hp : 0 < T.length + 1 := by omega
  clear hP hn1 hn2
  have hlt := h.lt
  have HR0 := Lib.hid (h.alloc (.cells #[.int .i64 0, .int .i64 0, .string ⟨#[]⟩, .slice none 0 0] 27))
  have HG0 := Lib.hid (show w.grownBy (w.alloc (.cells #[.int .i64 0, .int .i64 0, .string ⟨#[]⟩, .slice none 0 0] 27)) (some b) from grown_alloc (World.grownBy.refl _ _) _)
  have Q0 := Lib.hid (show Blk (w.alloc (.cells #[.int .i64 0, .int .i64 0, .string ⟨#[]⟩, .slice none 0 0] 27)) w.heap.size 27 #[.int .i64 0, .int .i64 0, .string ⟨#[]⟩, .slice none 0 0] from Blk.new rfl)
  replace hE := Lib.hid hE
  clear h
  unfold ProdAt at cP
  go_enter Tryd.func21, Tryd.ntmps21
  go_wp2_with (go_at_call 43; (with_reducible refine (cP.out _ HR0.out (hE.out.on (below_one HG0.out hlt))).mono ?_); rintro e W1 ⟨c, rfl, ht1, hcz, hr1, hg1⟩; have HR1 := Lib.hid (hr1.alloc (.cells #[.int .i64 4, .int .i64 0, .string ⟨#[]⟩, .slice (some ⟨c, 0, none⟩) 2 2] 27)); have G1 := Lib.hid (grown_alloc (HG0.out.trans hg1) (.cells #[.int .i64 4, .int .i64 0, .string ⟨#[]⟩, .slice (some ⟨c, 0, none⟩) 2 2] 27)); have Q1 := Lib.hid ((Blk_grown Q0.out hg1 (by omega)).alloc (.cells #[.int .i64 4, .int .i64 0, .string ⟨#[]⟩, .slice (some ⟨c, 0, none⟩) 2 2] 27)); have P1 := Lib.hid (show Blk (W1.alloc (.cells #[.int .i64 4, .int .i64 0, .string ⟨#[]⟩, .slice (some ⟨c, 0, none⟩) 2 2] 27)) W1.heap.size 27 #[.int .i64 4, .int .i64 0, .string ⟨#[]⟩, .slice (some ⟨c, 0, none⟩) 2 2] from Blk.new rfl); have T1 := Lib.hid (ht1.on ((Below.refl _ _).alloc (Nat.le_refl _) (.cells #[.int .i64 4, .int .i64 0, .string ⟨#[]⟩, .slice (some ⟨c, 0, none⟩) 2 2] 27))); clear ht1 hr1 hg1)
  rw [World.size_alloc] at hcz
  have hz1 := G1.out.size
  have hq1 := Q1.out.lt
  obtain ⟨W2, hW2⟩ : ∃ W2, W1.alloc (.cells #[.int .i64 4, .int .i64 0, .string ⟨#[]⟩, .slice (some ⟨c, 0, none⟩) 2 2] 27) = W2 := ⟨_, rfl⟩
  rw [hW2] at HR1 G1 Q1 P1 T1 hz1 hq1
  go_loopw [] (fun wr => wr = W2) (fun _ => 0)
  case atStart => exact hW2
  case round =>
    obtain rfl := hrel.symm
    clear hW2
    obtain ⟨tb, off, cap, hcp, htb, hltb, hcl, hfr, e0, e1, e2, e3, hnext, hsl⟩ := HR1.out.turn
    clear hnext hsl
    have p1 := P1.out.cell
    have z1 := Q1.out.cell
    have z2 := Q1.out.frozen
    go_wp2
    have e := Blk.cell (Blk.four (Q1.out) (.int .i64 4) (.int .i64 0) (.string ⟨#[]⟩) (.slice (some ⟨c, 0, none⟩) 2 2))
    refine bodyPost_ret (v := .agg #[.int .i64 4, .int .i64 0, .string ⟨#[]⟩, .slice (some ⟨c, 0, none⟩) 2 2]) (by simp [results, Tryd.results21, go_sem, e]) rfl ⟨c, rfl, ?_, by omega, ?_, ?_⟩
    · exact (((T1.out.far (by dsimp only; omega) _).far (by dsimp only; omega) _).far (by dsimp only; omega) _).far (by dsimp only; omega) _
    · exact (((HR1.out.far (by dsimp only; omega) _).far (by dsimp only; omega) _).far (by dsimp only; omega) _).far (by dsimp only; omega) _
    · exact grown_far (grown_far (grown_far (grown_far G1.out (Nat.le_refl _)) (Nat.le_refl _)) (Nat.le_refl _)) (Nat.le_refl _)

end Go.Proofs.YtbiahfjjngkfgaaDoor.cal

namespace Go.Proofs.YtbiahfjjngkfgaaDoor.cal
open Go.RowKit Go.Proofs.YtbiahfjjngkfgaaDoor.base Go.Proofs.YtbiahfjjngkfgaaDoor.tok Go.Proofs.YtbiahfjjngkfgaaDoor.dim Go.Proofs.YtbiahfjjngkfgaaDoor.rul
set_option linter.unusedVariables false

set_option maxRecDepth 100000 in
set_option maxHeartbeats 8000000 in
theorem value_calc (b : Nat) (raw val : Bs) (num : Int) (L : List Tk) (t : Tk) (T : List Tk) (k0 k : Int) (g0 g : Bool) (t0 t1 : Tm) (hval : val.map lowB = [99, 97, 108, 99])
    (hS : ∀ w, RdrAt w b L k0 g0 → Env b w → Calls Tryd.prog 21 #[.pointer (some ⟨b, 0, none⟩)] w fun e w' => ∃ c, e = .returned (.agg #[.int .i64 4, .int .i64 0, .string ⟨#[]⟩, .slice (some ⟨c, 0, none⟩) 2 2]) ∧ TmAt w' c 0 [t0, t1] ∧ w.heap.size ≤ c ∧ RdrAt w' b (t :: T) k g ∧ w.grownBy w' (some b))
    (ht : t.raw = [41]) (w : World) (h : RdrAt w b (⟨2, raw, val, num⟩ :: L) k0 g0) (hE : Env b w) :
    Calls Tryd.prog 11 #[.pointer (some ⟨b, 0, none⟩), .bool false] w fun e w' => ∃ c, e = .returned (.agg #[.int .i64 4, .int .i64 0, .string ⟨#[]⟩, .slice (some ⟨c, 0, none⟩) 2 2]) ∧ TmAt w' c 0 [t0, t1] ∧ w.heap.size ≤ c ∧ RdrAt w' b T k g ∧ w.grownBy w' (some b) := by
  have cS := Lib.hid hS
  have hvl : val.length = 4 := by have := congrArg List.length hval; simpa using this
  have cL := fun w => low_ct (bs val) (by rw [bs_size]; omega) w
  rw [show (bs val).data.toList = val from rfl, hval] at cL
  replace cL := Lib.hid cL
  have cN := Lib.hid (need_yes b)
  have cR := Lib.hid (fun w h => raw_yes b t T k g ⟨#[41]⟩ w h ht)
  have hq : ((bs [99, 97, 108, 99]).toList == [99, 97, 108, 99]) = true := by rw [bs_toList]; rfl
  clear hS hval ht hvl
  obtain ⟨tb, off, cap, hcp, htb, hlt, hcl, hfr, e0, e1, e2, e3, hnext, hsl⟩ := h.turn
  have hp : 0 < L.length + 1 := by omega
  have htb2 : tb < w.heap.size := by omega
  dsimp only at e0 e1 e2 e3
  have HV0 := Lib.hid (show Below b w (((w.setCell ⟨b, 0, none⟩ (.slice (addrAt 4 (some ⟨tb, off, none⟩) cap 1) L.length (cap - 1))).alloc (.cells #[.int .i64 0, .int .i64 0, .string ⟨#[]⟩, .slice none 0 0] 27)).alloc (.cells #[.int .i64 2, .string (bs raw), .string (bs val), .int .i64 num] 50)) from (((Below.refl b w).setCell (Nat.le_refl _) _).alloc (by simp; omega) _).alloc (by simp; omega) _)
  have HR0 := Lib.hid (show RdrAt (((w.setCell ⟨b, 0, none⟩ (.slice (addrAt 4 (some ⟨tb, off, none⟩) cap 1) L.length (cap - 1))).alloc (.cells #[.int .i64 0, .int .i64 0, .string ⟨#[]⟩, .slice none 0 0] 27)).alloc (.cells #[.int .i64 2, .string (bs raw), .string (bs val), .int .i64 num] 50)) b L k0 g0 from (hnext.alloc _).alloc _)
  have HG0 := Lib.hid (show w.grownBy (((w.setCell ⟨b, 0, none⟩ (.slice (addrAt 4 (some ⟨tb, off, none⟩) cap 1) L.length (cap - 1))).alloc (.cells #[.int .i64 0, .int .i64 0, .string ⟨#[]⟩, .slice none 0 0] 27)).alloc (.cells #[.int .i64 2, .string (bs raw), .string (bs val), .int .i64 num] 50)) (some b) from grown_alloc (grown_alloc (grown_set _ _ _ _) _) _)
  have Q0 := Lib.hid (show Blk (((w.setCell ⟨b, 0, none⟩ (.slice (addrAt 4 (some ⟨tb, off, none⟩) cap 1) L.length (cap - 1))).alloc (.cells #[.int .i64 0, .int .i64 0, .string ⟨#[]⟩, .slice none 0 0] 27)).alloc (.cells #[.int .i64 2, .string (bs raw), .string (bs val), .int .i64 num] 50)) w.heap.size 27 #[.int .i64 0, .int .i64 0, .string ⟨#[]⟩, .slice none 0 0] from (Blk.new (by simp)).alloc _)
  have P0 := Lib.hid (show Blk (((w.setCell ⟨b, 0, none⟩ (.slice (addrAt 4 (some ⟨tb, off, none⟩) cap 1) L.length (cap - 1))).alloc (.cells #[.int .i64 0, .int .i64 0, .string ⟨#[]⟩, .slice none 0 0] 27)).alloc (.cells #[.int .i64 2, .string (bs raw), .string (bs val), .int .i64 num] 50)) (w.heap.size + 1) 50 #[.int .i64 2, .string (bs raw), .string (bs val), .int .i64 num] from Blk.new (by simp))
  have HE0 := Lib.hid (hE.on HV0.out)
  have hz0 := Lib.hid (show w.heap.size + 2 ≤ (((w.setCell ⟨b, 0, none⟩ (.slice (addrAt 4 (some ⟨tb, off, none⟩) cap 1) L.length (cap - 1))).alloc (.cells #[.int .i64 0, .int .i64 0, .string ⟨#[]⟩, .slice none 0 0] 27)).alloc (.cells #[.int .i64 2, .string (bs raw), .string (bs val), .int .i64 num] 50)).heap.size by simp)
  clear h hnext hE HV0
  go_enter Tryd.func11, Tryd.ntmps11
  go_wp2_with (first
    | (go_at_call 12; (with_reducible refine (cN.out _).mono ?_); rintro e W1 ⟨rfl, rfl⟩)
    | (go_at_call 23; (with_reducible refine (cL.out _).mono ?_); rintro e W1 ⟨rfl, hb1⟩; have HR1 := Lib.hid (HR0.out.on hb1 (by have := hz0.out; omega)); have HG1 := Lib.hid (HG0.out.trans (grown_of_below hb1 _)); have Q1 := Lib.hid (Q0.out.below hb1 (by have := hz0.out; omega)); have HE1 := Lib.hid (HE0.out.on (hb1.mono (by have := hz0.out; omega))); have hz1 := Nat.le_trans hz0.out hb1.size; clear hb1)
    | (go_at_call 21; (with_reducible refine (cS.out _ HR1.out HE1.out).mono ?_); rintro e W2 ⟨c, rfl, ht2, hc2, hr2, hg2⟩; have HR2 := Lib.hid (hr2.alloc (.cells #[.int .i64 4, .int .i64 0, .string ⟨#[]⟩, .slice (some ⟨c, 0, none⟩) 2 2] 27)); have HG2 := Lib.hid (grown_alloc (HG1.out.trans hg2) (.cells #[.int .i64 4, .int .i64 0, .string ⟨#[]⟩, .slice (some ⟨c, 0, none⟩) 2 2] 27)); have Q2 := Lib.hid ((Blk_grown Q1.out hg2 (by omega)).alloc (.cells #[.int .i64 4, .int .i64 0, .string ⟨#[]⟩, .slice (some ⟨c, 0, none⟩) 2 2] 27)); have P2 := Lib.hid (show Blk (W2.alloc (.cells #[.int .i64 4, .int .i64 0, .string ⟨#[]⟩, .slice (some ⟨c, 0, none⟩) 2 2] 27)) W2.heap.size 27 #[.int .i64 4, .int .i64 0, .string ⟨#[]⟩, .slice (some ⟨c, 0, none⟩) 2 2] from Blk.new rfl); have T2 := Lib.hid (ht2.on ((Below.refl _ _).alloc (Nat.le_refl _) (.cells #[.int .i64 4, .int .i64 0, .string ⟨#[]⟩, .slice (some ⟨c, 0, none⟩) 2 2] 27))); have hz2 := hg2.size; clear ht2 hr2 hg2)
    | (go_at_call 22; (with_reducible refine (cR.out _ HR2.out).mono ?_); rintro e W3 ⟨rfl, hr3, hg3⟩; have HR3 := Lib.hid hr3; have HG3 := Lib.hid (HG2.out.trans hg3); have Q3 := Blk_grown Q2.out hg3 (by omega); have P3 := Blk_grown P2.out hg3 (by omega); have T3 := Lib.hid (T2.out.grown hg3 (by omega)); have q3c := Q3.cell; have q3f := Q3.frozen; have p3c := P3.cell; have hz3 := hg3.size; rw [World.size_alloc] at hz3; clear hr3 hg3 P3; replace Q3 := Lib.hid Q3))
  have e := Blk.cell (Blk.four (Q3.out) (.int .i64 4) (.int .i64 0) (.string ⟨#[]⟩) (.slice (some ⟨c, 0, none⟩) 2 2))
  refine bodyPost_ret (v := .agg #[.int .i64 4, .int .i64 0, .string ⟨#[]⟩, .slice (some ⟨c, 0, none⟩) 2 2]) (by simp [results, Tryd.results11, go_sem, e]) rfl ⟨c, rfl, ?_, by omega, ?_, ?_⟩
  · exact (((T3.out.far (by dsimp only; omega) _).far (by dsimp only; omega) _).far (by dsimp only; omega) _).far (by dsimp only; omega) _
  · exact (((HR3.out.far (by dsimp only; omega) _).far (by dsimp only; omega) _).far (by dsimp only; omega) _).far (by dsimp only; omega) _
  · exact grown_far (grown_far (grown_far (grown_far HG3.out (Nat.le_refl _)) (Nat.le_refl _)) (Nat.le_refl _)) (Nat.le_refl _)

end Go.Proofs.YtbiahfjjngkfgaaDoor.cal
