/- Contracts and plain law, a bundle: Cal16 Cal17 Cal18. -/
import Derived.Test.YtbiahfjjngkfgaaDoorBE2
import Derived.Test.YtbiahfjjngkfgaaDoorBC4

namespace Go.Proofs.YtbiahfjjngkfgaaDoor.cal
open Go.RowKit Go.Proofs.YtbiahfjjngkfgaaDoor.base Go.Proofs.YtbiahfjjngkfgaaDoor.tok Go.Proofs.YtbiahfjjngkfgaaDoor.dim Go.Proofs.YtbiahfjjngkfgaaDoor.rul
set_option linter.unusedVariables false

/-- the reader over the law's own text -/
theorem value_twice (b : Nat) (w : World) (h : RdrAt w b twiceT 0 false) (hE : Env b w) :
    Calls Tryd.prog 11 #[.pointer (some ⟨b, 0, none⟩), .bool false] w fun e w' => ∃ c, e = .returned (.agg #[.int .i64 4, .int .i64 0, .string ⟨#[]⟩, .slice (some ⟨c, 0, none⟩) 2 2]) ∧ TmAt w' c 0 [leafT 1000 (bs [112, 120]), leafT 2000 (bs [])] ∧ w.heap.size ≤ c ∧ RdrAt w' b [] 3 false ∧ w.grownBy w' (some b) :=
  value_calc b [99, 97, 108, 99, 40] [99, 97, 108, 99] 0 _ ⟨11, [41], [], 0⟩ [] 0 3 false false (leafT 1000 (bs [112, 120])) (leafT 2000 (bs [])) (by decide)
    (fun w h hE => sum_one b _ ⟨11, [41], [], 0⟩ [] 0 3 false false (leafT 1000 (bs [112, 120])) (leafT 2000 (bs []))
      (fun w h hE => product_mul b [49, 112, 120] [112, 120] [50] [] 1000 2000 ⟨8, [32], [], 0⟩ ⟨12, [42], [], 0⟩ ⟨8, [32], [], 0⟩ ⟨11, [41], [], 0⟩ [] 0 false (by decide) (by decide) cut_px cut_2 (by decide) (by decide) (by decide) (by decide) rfl (by decide) (by decide) (by decide) (by decide) (by decide) (by decide) (by decide) w h hE)
      (by decide) (by decide) w h hE)
    rfl w h hE

theorem RdrAt.farE {w : World} {b : Nat} {k : Int} {g : Bool} (h : RdrAt w b [] k g) {p : Addr} (hp : b ≠ p.block) (v : Value) : RdrAt (w.setCell p v) b [] k g := by
  obtain ⟨A, cap, hc, hb, hr⟩ := h
  exact ⟨A, cap, hc, hb.far hp v, rfl, fun h => absurd h (by decide)⟩

theorem cut_text (w : World) (hm : MaxL w) :
    Calls Tryd.prog 9 #[.string ⟨#[99, 97, 108, 99, 40, 49, 112, 120, 32, 42, 32, 50, 41]⟩] w fun e w' => (∃ A cap, e = .returned (.slice A 7 cap) ∧ 7 ≤ cap ∧ TRd w' w'.heap.size A 7 twiceT) ∧ Below w.heap.size w w' := by
  have h := Go.Proofs.YtbiahfjjngkfgaaDoor.tok.cut_ct ⟨#[99, 97, 108, 99, 40, 49, 112, 120, 32, 42, 32, 50, 41]⟩ (by decide) w hm
  rw [show (⟨#[99, 97, 108, 99, 40, 49, 112, 120, 32, 42, 32, 50, 41]⟩ : ByteArray).data.toList = [99, 97, 108, 99, 40, 49, 112, 120, 32, 42, 32, 50, 41] from rfl, cut_twice] at h
  exact h

set_option maxRecDepth 100000 in
set_option maxHeartbeats 8000000 in
theorem read_twice (w : World) (hm : MaxL w) (hU : UnitsAt w) :
    Calls Tryd.prog 5 #[.string ⟨#[99, 97, 108, 99, 40, 49, 112, 120, 32, 42, 32, 50, 41]⟩] w fun e w' => (∃ c, e = .returned (.tuple #[.agg #[.int .i64 4, .int .i64 0, .string ⟨#[]⟩, .slice (some ⟨c, 0, none⟩) 2 2], .int .i64 0]) ∧ TmAt w' c 0 [leafT 1000 (bs [112, 120]), leafT 2000 (bs [])]) ∧ Below w.heap.size w w' := by
  have hmf : ∀ (fn : Fn) (first cap : Array Value) (w : World), (Instr.makeFunc fn first cap).run Tryd.prog w = .ok (.func fn first cap) w := fun _ _ _ _ => rfl
  have cC := Lib.hid cut_text
  have cV := Lib.hid value_twice
  have cG := Lib.hid (fun b w h => gap_no b ⟨2, [99, 97, 108, 99, 40], [99, 97, 108, 99], 0⟩ (twiceT.drop 1) 0 false (by decide) (by decide) w h)
  have cE := Lib.hid (fun b w h => gap_end b 3 false w h)
  have cN := Lib.hid need_yes
  have Hm := Lib.hid hm
  have HU := Lib.hid hU
  clear hm hU
  go_enter_defers Tryd.func5, Tryd.ntmps5
  have HB0 := Lib.hid (show Below w.heap.size w ((w.alloc (.cells #[.int .i64 0, .int .i64 0, .string ⟨#[]⟩, .slice none 0 0] 27)).alloc (.cells #[.int .i64 0] 28)) from ((Below.refl _ _).alloc (Nat.le_refl _) _).alloc (by simp) _)
  have Q0 := Lib.hid (show Blk ((w.alloc (.cells #[.int .i64 0, .int .i64 0, .string ⟨#[]⟩, .slice none 0 0] 27)).alloc (.cells #[.int .i64 0] 28)) w.heap.size 27 #[.int .i64 0, .int .i64 0, .string ⟨#[]⟩, .slice none 0 0] from (Blk.new rfl).alloc _)
  have E0 := Lib.hid (show Blk ((w.alloc (.cells #[.int .i64 0, .int .i64 0, .string ⟨#[]⟩, .slice none 0 0] 27)).alloc (.cells #[.int .i64 0] 28)) (w.heap.size + 1) 28 #[.int .i64 0] from Blk.new (by simp))
  go_wp2_with (first
    | (go_at_call 9; (with_reducible refine (cC.out _ (Hm.out.on HB0.out Hm.out.lt)).mono ?_); rintro e W1 ⟨⟨A, cap, rfl, hcap, hrd⟩, hb1⟩; have hz1 := hb1.size; simp only [World.size_alloc] at hz1; have HB1 := Lib.hid (HB0.out.trans (hb1.mono (by simp <;> omega))); have Q1 := Lib.hid ((Q0.out.below hb1 (by simp <;> omega)).alloc (.cells #[.slice A 7 cap, .int .i64 0, .bool false] 41)); have E1 := Lib.hid ((E0.out.below hb1 (by simp <;> omega)).alloc (.cells #[.slice A 7 cap, .int .i64 0, .bool false] 41)); have HR1 := Lib.hid (show RdrAt (W1.alloc (.cells #[.slice A 7 cap, .int .i64 0, .bool false] 41)) W1.heap.size twiceT 0 false from ⟨A, cap, hcap, Blk.new rfl, Rd.keep hrd ((Below.refl _ _).alloc (Nat.le_refl _) _) (Nat.le_refl _)⟩); have HE1 := Lib.hid (show Env W1.heap.size (W1.alloc (.cells #[.slice A 7 cap, .int .i64 0, .bool false] 41)) from fun v hv => have hB := ((HB1.out.alloc (by omega) (.cells #[.slice A 7 cap, .int .i64 0, .bool false] 41)).trans (hv.mono (by omega))); ⟨Hm.out.on hB Hm.out.lt, HU.out.on hB⟩); have HX1 := Lib.hid (HB1.out.alloc (by omega) (.cells #[.slice A 7 cap, .int .i64 0, .bool false] 41)); clear hrd hb1)
    | (go_at_call 10; (with_reducible refine (cG.out _ _ HR1.out).mono ?_); rintro e W2 ⟨rfl, hr2, hg2⟩; have HR2 := Lib.hid (show RdrAt W2 W1.heap.size twiceT 0 false from hr2); have HE2 := Lib.hid (HE1.out.on (below_one hg2 (by simp))); have Q2 := Lib.hid (Blk_grown Q1.out hg2 (by omega)); have E2 := Lib.hid (Blk_grown E1.out hg2 (by omega)); have HX2 := Lib.hid (HX1.out.trans ((below_one hg2 (by simp)).mono (by omega))); have hz2 := hg2.size; rw [World.size_alloc] at hz2; clear hr2 hg2)
    | (go_at_call 11; (with_reducible refine (cV.out _ _ HR2.out HE2.out).mono ?_); rintro e W3 ⟨c, rfl, ht3, hc3, hr3, hg3⟩; have HR3 := Lib.hid ((((hr3.farE (p := ⟨w.heap.size, 0, none⟩) (by dsimp only; omega) (.int .i64 4)).farE (p := ⟨w.heap.size, 1, none⟩) (by dsimp only; omega) (.int .i64 0)).farE (p := ⟨w.heap.size, 2, none⟩) (by dsimp only; omega) (.string ⟨#[]⟩)).farE (p := ⟨w.heap.size, 3, none⟩) (by dsimp only; omega) (.slice (some ⟨c, 0, none⟩) 2 2)); have T3 := Lib.hid ((((ht3.far (p := ⟨w.heap.size, 0, none⟩) (by dsimp only; omega) (.int .i64 4)).far (p := ⟨w.heap.size, 1, none⟩) (by dsimp only; omega) (.int .i64 0)).far (p := ⟨w.heap.size, 2, none⟩) (by dsimp only; omega) (.string ⟨#[]⟩)).far (p := ⟨w.heap.size, 3, none⟩) (by dsimp only; omega) (.slice (some ⟨c, 0, none⟩) 2 2)); have q3 := Blk_grown Q2.out hg3 (by omega); have q3c := q3.cell; have q3f := q3.frozen; have Q3 := Lib.hid (Blk.four q3 (.int .i64 4) (.int .i64 0) (.string ⟨#[]⟩) (.slice (some ⟨c, 0, none⟩) 2 2)); have E3 := Lib.hid (((((Blk_grown E2.out hg3 (by omega)).far (p := ⟨w.heap.size, 0, none⟩) (by dsimp only; omega) (.int .i64 4)).far (p := ⟨w.heap.size, 1, none⟩) (by dsimp only; omega) (.int .i64 0)).far (p := ⟨w.heap.size, 2, none⟩) (by dsimp only; omega) (.string ⟨#[]⟩)).far (p := ⟨w.heap.size, 3, none⟩) (by dsimp only; omega) (.slice (some ⟨c, 0, none⟩) 2 2)); have HX3 := Lib.hid (((((HX2.out.trans ((below_one hg3 (by omega)).mono (by omega))).setCell (p := ⟨w.heap.size, 0, none⟩) (Nat.le_refl _) (.int .i64 4)).setCell (p := ⟨w.heap.size, 1, none⟩) (Nat.le_refl _) (.int .i64 0)).setCell (p := ⟨w.heap.size, 2, none⟩) (Nat.le_refl _) (.string ⟨#[]⟩)).setCell (p := ⟨w.heap.size, 3, none⟩) (Nat.le_refl _) (.slice (some ⟨c, 0, none⟩) 2 2)); have hz3 := hg3.size; clear ht3 hr3 hg3)
    | (go_at_call 10; (with_reducible refine (cE.out _ _ HR3.out).mono ?_); rintro e W4 ⟨rfl, hr4, hg4⟩; obtain ⟨A4, cap4, hlt4, hcl4⟩ := hr4.noneL; have q4 := Blk_grown Q3.out hg4 (by omega); have q4c := q4.cell; have q4f := q4.frozen; have Q4 := Lib.hid q4; have e4 := Blk_grown E3.out hg4 (by omega); have e4c := e4.cell; have e4f := e4.frozen; have E4 := Lib.hid e4; clear e4; have T4 := Lib.hid (T3.out.grown hg4 (by omega)); have HX4 := Lib.hid (HX3.out.trans ((below_one hg4 (by simp [World.setCell]; omega)).mono (by omega))); clear hr4 hg4 q4)
    | (go_at_call 12; (with_reducible refine (cN.out _ _).mono ?_); rintro e W5 ⟨rfl, rfl⟩))
  refine leaves_cons (f := 8) (args := #[.pointer (some ⟨w.heap.size, 0, none⟩), .pointer (some ⟨w.heap.size + 1, 0, none⟩)]) (by simp) (by simp [go_sem]) ?_
  refine (catch_idle ⟨w.heap.size, 0, none⟩ ⟨w.heap.size + 1, 0, none⟩ _).mono ?_
  rintro e u' w'' ⟨rfl, rfl, rfl⟩
  have ec := ((Blk.four Q4.out (.int .i64 4) (.int .i64 0) (.string ⟨#[]⟩) (.slice (some ⟨c, 0, none⟩) 2 2)).far (p := ⟨w.heap.size + 1, 0, none⟩) (by dsimp only; omega) (.int .i64 0)).cell
  have fc := (((((E4.out.far (p := ⟨w.heap.size, 0, none⟩) (by dsimp only; omega) (.int .i64 4)).far (p := ⟨w.heap.size, 1, none⟩) (by dsimp only; omega) (.int .i64 0)).far (p := ⟨w.heap.size, 2, none⟩) (by dsimp only; omega) (.string ⟨#[]⟩)).far (p := ⟨w.heap.size, 3, none⟩) (by dsimp only; omega) (.slice (some ⟨c, 0, none⟩) 2 2)).put 0 (.int .i64 0)).cell
  have TF := TmAt.far (TmAt.far (TmAt.far (TmAt.far (TmAt.far T4.out (p := ⟨w.heap.size, 0, none⟩) (by dsimp only; omega) (.int .i64 4)) (p := ⟨w.heap.size, 1, none⟩) (by dsimp only; omega) (.int .i64 0)) (p := ⟨w.heap.size, 2, none⟩) (by dsimp only; omega) (.string ⟨#[]⟩)) (p := ⟨w.heap.size, 3, none⟩) (by dsimp only; omega) (.slice (some ⟨c, 0, none⟩) 2 2)) (p := ⟨w.heap.size + 1, 0, none⟩) (by dsimp only; omega) (.int .i64 0)
  have HF := ((((HX4.out.setCell (p := ⟨w.heap.size, 0, none⟩) (Nat.le_refl _) (.int .i64 4)).setCell (p := ⟨w.heap.size, 1, none⟩) (Nat.le_refl _) (.int .i64 0)).setCell (p := ⟨w.heap.size, 2, none⟩) (Nat.le_refl _) (.string ⟨#[]⟩)).setCell (p := ⟨w.heap.size, 3, none⟩) (Nat.le_refl _) (.slice (some ⟨c, 0, none⟩) 2 2)).setCell (p := ⟨w.heap.size + 1, 0, none⟩) (by dsimp only; omega) (.int .i64 0)
  generalize (((((W4.setCell ⟨w.heap.size, 0, none⟩ (.int .i64 4)).setCell ⟨w.heap.size, 1, none⟩ (.int .i64 0)).setCell ⟨w.heap.size, 2, none⟩ (.string ⟨#[]⟩)).setCell ⟨w.heap.size, 3, none⟩ (.slice (some ⟨c, 0, none⟩) 2 2)).setCell ⟨w.heap.size + 1, 0, none⟩ (.int .i64 0)) = WF at *
  simp only [Leaves, settle]
  exact ⟨.tuple #[.agg #[.int .i64 4, .int .i64 0, .string ⟨#[]⟩, .slice (some ⟨c, 0, none⟩) 2 2], .int .i64 0], by simp [results, Tryd.results5, go_sem, ec, fc], ⟨c, rfl, TF⟩, HF⟩

end Go.Proofs.YtbiahfjjngkfgaaDoor.cal

namespace Go.Proofs.YtbiahfjjngkfgaaDoor.cal
open Go.RowKit Go.Proofs.YtbiahfjjngkfgaaDoor.base Go.Proofs.YtbiahfjjngkfgaaDoor.tok Go.Proofs.YtbiahfjjngkfgaaDoor.dim Go.Proofs.YtbiahfjjngkfgaaDoor.rul
set_option linter.unusedVariables false

theorem join_app (ts : List Bs) (sep : Bs) : Lib.join ((ts.map bs).map (·.data.toList)) sep = Lib.join ts sep := by
  congr 1
  rw [List.map_map]
  exact (List.map_congr_left fun x _ => rfl).trans (List.map_id ts)

set_option maxRecDepth 100000 in
set_option maxHeartbeats 4000000 in
theorem text_leaf (n : Int) (u : ByteArray) (s : Bs) (hD : ∀ w, PowAt w → Calls Tryd.prog 14 #[.agg #[.int .i64 n, .string u]] w fun e w' => e = .returned (.string (bs s)) ∧ Below w.heap.size w w') (w : World) (hT : PowAt w) :
    Calls Tryd.prog 7 #[.agg #[.int .i64 1, .int .i64 n, .string u, .slice none 0 0]] w fun e w' => e = .returned (.string (bs s)) ∧ Below w.heap.size w w' := by
  have cS := Lib.hid (fun w => shaped_ct 1 n u none 0 0 (.inl ⟨rfl, rfl⟩) w)
  have cD := Lib.hid hD
  have HT := Lib.hid hT
  clear hD hT
  go_enter Tryd.func7, Tryd.ntmps7
  go_wp2_with (first
    | (go_at_call 13; (with_reducible refine (cS.out _).mono ?_); rintro e W1 ⟨rfl, hb1⟩; have HB1 := Lib.hid (((Below.refl w.heap.size w).alloc (Nat.le_refl _) (.cells #[.int .i64 1, .int .i64 n, .string u, .slice none 0 0] 27)).trans (hb1.mono (by simp))); have hblk := (Blk.new (w := w) (t := 27) (cs := #[.int .i64 1, .int .i64 n, .string u, .slice none 0 0]) (k := w.heap.size) (by simp)).below hb1 (by simp); have r2 := hblk.cell; clear hb1)
    | (go_at_call 14; (with_reducible refine (cD.out _ (HT.out.on HB1.out)).mono ?_); rintro e W2 ⟨rfl, hb2⟩; have HB2 := Lib.hid (HB1.out.trans (hb2.mono HB1.out.size)); clear hb2))
  go_ret
  exact ⟨rfl, HB2.out⟩

set_option maxRecDepth 100000 in
set_option maxHeartbeats 8000000 in
theorem text_node (k n : Int) (u : ByteArray) (b o cap : Nat) (L : List Tm) (ts : List Bs) (wd sg : Bs) (hk : k ≠ 1) (hm : 0 < L.length) (hml : L.length ≤ 1000000) (hcap : L.length ≤ cap) (w : World) (hL : TmAt w b o L) (hts : ts.length = L.length)
    (hS : ∀ w, Calls Tryd.prog 13 #[.agg #[.int .i64 k, .int .i64 n, .string u, .slice (some ⟨b, o, none⟩) L.length cap]] w fun e w' => e = .returned (.bool true) ∧ Below w.heap.size w w')
    (hW : ∀ w, Calls Tryd.prog 15 #[.int .i64 k] w fun e w' => e = .returned (.string (bs wd)) ∧ w = w')
    (hG : ∀ w, Calls Tryd.prog 17 #[.int .i64 k] w fun e w' => e = .returned (.string (bs sg)) ∧ w = w')
    (hC : ∀ (i : Nat) (t : Tm) (s : Bs), L[i]? = some t → ts[i]? = some s → ∀ W, Below w.heap.size w W → Calls Tryd.prog 7 #[t.v] W fun e W' => e = .returned (.string (bs s)) ∧ Below W.heap.size W W')
    (hwd : wd.length ≤ 10) (hlen : (Lib.join ts sg).length ≤ 1000000000) :
    Calls Tryd.prog 7 #[.agg #[.int .i64 k, .int .i64 n, .string u, .slice (some ⟨b, o, none⟩) L.length cap]] w fun e w' => e = .returned (.string (bs (wd ++ [40] ++ Lib.join ts sg ++ [41]))) ∧ Below w.heap.size w w' := by
  obtain ⟨i0, hi, hz0, hz1, hz2⟩ := info_parts infoS
  have Hz0 := Lib.hid hz0
  have Hi := Lib.hid hi
  have Hz1 := Lib.hid hz1
  have Hz2 := Lib.hid hz2
  clear hz0 hi hz1 hz2
  have hcat : bs wd ++ ⟨#[40]⟩ ++ bs (Lib.join ts sg) ++ ⟨#[41]⟩ = bs (wd ++ [40] ++ Lib.join ts sg ++ [41]) := by
    apply ByteArray.ext; apply Array.ext'
    simp [bs, ByteArray.data_append]
  rw [← hcat]
  have hz3 : (bs wd).size ≤ 10 := hwd
  have hz4 : (bs (Lib.join ts sg)).size ≤ 1000000000 := hlen
  have a1 : ¬ 9223372036854775807 < (bs wd).size + 1 := by omega
  have a2 : ¬ 9223372036854775807 < (bs wd).size + 1 + (bs (Lib.join ts sg)).size := by omega
  have a3 : ¬ 9223372036854775807 < (bs wd).size + 1 + (bs (Lib.join ts sg)).size + 1 := by omega
  have k1 : (k == 1) = false := by rw [beq_eq_false_iff_ne]; exact hk
  have cJ : ∀ (w : World) (g z c : Nat), (∀ (j : Nat) x, (ts.map bs)[j]? = some x → w.cell? ⟨g, z + j, none⟩ = some (.string x)) → g < w.heap.size → ts.length ≤ c → Calls Tryd.prog 16 #[.slice (some ⟨g, z, none⟩) ts.length c, .string (bs sg)] w fun e w' => e = .returned (.string (bs (Lib.join ts sg))) ∧ Below w.heap.size w w' := fun w g z c h1 h2 h3 => by
    have h := Tryd.strings_Join g z c (ts.map bs) (bs sg) w h1 h2 (by rw [List.length_map]; omega) (by rw [List.length_map]; exact h3) (by rw [show (bs sg).data.toList = sg from rfl, join_app]; omega)
    rw [List.length_map, show (bs sg).data.toList = sg from rfl, join_app] at h
    exact h
  obtain ⟨m, hmm⟩ : ∃ m, L.length = m := ⟨_, rfl⟩
  have hsz := Lib.hid hmm
  rw [hmm] at hm hml hcap hts ⊢
  simp only [hmm] at hS
  rw [hts] at cJ
  have cS := Lib.hid hS
  have cW := Lib.hid hW
  have cG := Lib.hid hG
  replace hC := Lib.hid hC
  replace hL := Lib.hid hL
  replace cJ := Lib.hid cJ
  replace hts := Lib.hid hts
  clear hS hW hG hmm hcat hk
  go_enter Tryd.func7, Tryd.ntmps7
  go_wp2_with (first
    | (go_at_call 13; (with_reducible refine (cS.out _).mono ?_); rintro e W1 ⟨rfl, hb1⟩; have HB1 := Lib.hid (((Below.refl w.heap.size w).alloc (Nat.le_refl _) (.cells #[.int .i64 k, .int .i64 n, .string u, .slice (some ⟨b, o, none⟩) m cap] 27)).trans (hb1.mono (by simp))); have Q1 := (Blk.new (w := w) (t := 27) (cs := #[.int .i64 k, .int .i64 n, .string u, .slice (some ⟨b, o, none⟩) m cap]) (k := w.heap.size) (by simp)).below hb1 (by simp); have r2 := Q1.cell; replace Q1 := Lib.hid Q1; have hz1 := HB1.out.size; have hz2 := Q1.out.lt; clear hb1))
  go_loopw [3, 18] (fun x i wr => ∃ j : Nat, j ≤ m ∧ i = .int .i64 j ∧ wr.ownsRow (w.heap.size + 1) 9 1 x j ((ts.take j).map (fun s => .string (bs s))) ∧ Below (w.heap.size + 1) W1 wr) (fun _ i _ => m - (intOf i).toNat)
  case atStart => exact ⟨0, by omega, rfl, World.ownsRow_nil _ _ _ _, Below.refl _ _⟩
  case round =>
    obtain ⟨j, hj, rfl, hrow, hbw⟩ := hrel
    have HBw := Lib.hid (HB1.out.trans (hbw.mono (by omega)))
    have q1 := Q1.out.below hbw (by omega)
    have hzz := Nat.le_trans (show w.heap.size + 1 ≤ W1.heap.size by omega) hbw.size
    replace hbw := Lib.hid hbw
    replace hrow := Lib.hid hrow
    by_cases hlt : j < m
    · have hlt' : (j : Int) < (m : Int) := by omega
      obtain ⟨t, ht⟩ : ∃ t, L[j]? = some t := ⟨_, List.getElem?_eq_getElem (by rw [hsz.out]; exact hlt)⟩
      obtain ⟨s, hs⟩ : ∃ s, ts[j]? = some s := ⟨_, List.getElem?_eq_getElem (by rw [hts.out]; exact hlt)⟩
      obtain ⟨g0, g1, g2, g3⟩ := (hL.out.on HBw.out).2 j t ht
      have cT := fun W h => hC.out j t s ht hs W h
      have hst := Lib.hid (show ts.take (j + 1) = ts.take j ++ [s] by
        obtain ⟨h1, h2⟩ := List.getElem?_eq_some_iff.1 hs
        rw [List.take_succ_eq_append_getElem h1, h2])
      obtain ⟨tk, tn, tu, ta, tl, tc⟩ := t
      unfold Tm.v at cT
      dsimp only at g0 g1 g2 g3 cT
      replace cT := Lib.hid cT
      clear ht hs
      have HBa := Lib.hid (HBw.out.alloc HBw.out.size (.cells #[.int .i64 tk, .int .i64 tn, .string tu, .slice ta tl tc] 27))
      have HBb := Lib.hid (hbw.out.alloc (by omega) (.cells #[.int .i64 tk, .int .i64 tn, .string tu, .slice ta tl tc] 27))
      replace q1 := Lib.hid q1
      obtain ⟨a, cp, rfl⟩ := row_form hrow.out
      go_wp2_with (first
        | (go_at_call 7; (with_reducible refine (cT.out _ HBa.out).mono ?_); rintro e W2 ⟨rfl, hb2⟩; have hrow2 := Lib.hid (row_on (hrow.out.alloc _) hb2); have HB2 := Lib.hid (HBb.out.trans (hb2.mono (by have := HBb.out.size; simp; omega))); have hz2 := hb2.size; rw [World.size_alloc] at hz2; clear hb2)
        | (at_builtin; refine wpList_append_own _ rfl _ _ 46 rfl (w.heap.size + 1) 9 i0 (.string .empty) 1 16 Tryd.underlying46 Hi.out Hz0.out Hz1.out Hz2.out rfl (by decide) _ _ _ rfl (hrow2.out.alloc _) ⟨W2.heap.size, 0, none⟩ 1 1 [.string (bs s)] rfl rfl ?c1 ?c2 ?c3 ?c4 ?c5 ?_))
      case c1 => exact (Blk.new (w := W2) (t := 9) (cs := #[.string (bs s)]) rfl).news
      case c2 => simp [Value.oneCell']
      case c3 => unfold maxLen; omega
      case c4 => omega
      case c5 => simp; omega
      intro v' w3 hown3 hgrow3 hnil3
      have hb3 := Lib.hid (below_app (HB2.out.alloc (by omega) _) hgrow3 (hrow2.out.alloc _) (Nat.le_refl _) (by simp; omega))
      replace hown3 := Lib.hid hown3
      clear hgrow3 hnil3
      go_wp2
      go_roundw
      case rel =>
        refine ⟨j + 1, by omega, by go_num, ?_, hb3.out⟩
        rw [hst.out, List.map_append, List.map_take]
        exact hown3.out
      case measure => simp [intOf]; omega
    · obtain rfl : j = m := by omega
      have hr := hrow.out
      rw [List.take_of_length_le (by rw [hts.out]; exact Nat.le_refl _)] at hr
      obtain ⟨a, cp, rfl⟩ := row_form hr
      have h0 : ∃ s, (ts.map (fun s => Value.string (bs s)))[0]? = some s := ⟨_, List.getElem?_eq_getElem (by rw [List.length_map, hts.out]; exact hm)⟩
      obtain ⟨x0, hx0⟩ := h0
      obtain ⟨g, rfl, hg, hgb, hcp, _⟩ := owns_at hr hx0
      have hcells : ∀ (j : Nat) x, (ts.map bs)[j]? = some x → wr.cell? ⟨g, 0 + j, none⟩ = some (.string x) := fun i x hx => by
        rw [List.getElem?_map] at hx
        cases hti : ts[i]? with
        | none => rw [hti] at hx; cases hx
        | some s =>
          rw [hti] at hx
          obtain rfl := Option.some.inj hx
          obtain ⟨g', hg', _, _, _, hc⟩ := owns_at hr (i := i) (x := .string (bs s)) (by rw [List.getElem?_map, hti]; rfl)
          cases hg'
          rw [Nat.zero_add]
          exact hc
      have cJ' := Lib.hid (fun (W : World) (hk : ∀ b o, b < wr.heap.size → W.cell? ⟨b, o, none⟩ = wr.cell? ⟨b, o, none⟩) (hz : wr.heap.size ≤ W.heap.size) => cJ.out W g 0 cp (fun i x hx => (hk g _ hg).trans (hcells i x hx)) (by omega) hcp)
      have qc := q1.cell
      have hlt9 : w.heap.size < wr.heap.size := by omega
      have ZR : wr.heap.size ≤ wr.heap.size := Nat.le_refl _
      clear hr hx0 hcells
      go_wp2_with fail
      go_region_held3 (fun w' => (∀ b o, b < wr.heap.size → w'.cell? ⟨b, o, none⟩ = wr.cell? ⟨b, o, none⟩) ∧ Below wr.heap.size wr w')
        (first | exact As.beg | assumption | exact As.on hb3 (by assumption) ZR)
        (first
          | (go_at_call 15; (with_reducible refine (cW.out _).mono ?_); rintro e W2 ⟨rfl, rfl⟩)
          | (go_at_call 17; (with_reducible refine (cG.out _).mono ?_); rintro e W2 ⟨rfl, rfl⟩)
          | (go_at_call 16; (with_reducible refine (cJ'.out wr.drew (fun _ _ _ => rfl) (Nat.le_refl _)).mono ?_); rintro e W2 ⟨rfl, hb3⟩; have HB3 := Lib.hid (HBw.out.drew.trans (hb3.mono (by have := HBw.out.size; simpa using this)))))
      all_goals
        rename_i hHeld
        clear hHeld
        go_wp2
        go_ret
        exact ⟨rfl, HB3.out⟩

end Go.Proofs.YtbiahfjjngkfgaaDoor.cal

namespace Go.Proofs.YtbiahfjjngkfgaaDoor.cal
open Go.RowKit Go.Proofs.YtbiahfjjngkfgaaDoor.base Go.Proofs.YtbiahfjjngkfgaaDoor.tok Go.Proofs.YtbiahfjjngkfgaaDoor.dim Go.Proofs.YtbiahfjjngkfgaaDoor.rul
set_option linter.unusedVariables false

theorem word_4 (w : World) : Calls Tryd.prog 15 #[.int .i64 4] w fun e w' => e = .returned (.string (bs [])) ∧ w = w' := by
  go_enter Tryd.func15, Tryd.ntmps15
  go_wp2
  go_ret
  exact ⟨rfl, rfl⟩
theorem sign_4 (w : World) : Calls Tryd.prog 17 #[.int .i64 4] w fun e w' => e = .returned (.string (bs [32, 42, 32])) ∧ w = w' := by
  go_enter Tryd.func17, Tryd.ntmps17
  go_wp2
  go_ret
  exact ⟨rfl, rfl⟩
theorem text_twice (c : Nat) (w : World) (hT : PowAt w) (hL : TmAt w c 0 [leafT 1000 (bs [112, 120]), leafT 2000 (bs [])]) :
    Calls Tryd.prog 7 #[.agg #[.int .i64 4, .int .i64 0, .string ⟨#[]⟩, .slice (some ⟨c, 0, none⟩) 2 2]] w fun e w' => e = .returned (.string ⟨#[40, 49, 112, 120, 32, 42, 32, 50, 41]⟩) ∧ Below w.heap.size w w' := by
  have h := text_node 4 0 ⟨#[]⟩ c 0 2 [leafT 1000 (bs [112, 120]), leafT 2000 (bs [])] [[49, 112, 120], [50]] [] [32, 42, 32] (by decide) (by decide) (by decide) (by decide) w hL rfl
    (fun w => shaped_ct 4 0 ⟨#[]⟩ (some ⟨c, 0, none⟩) 2 2 (.inr (.inl ⟨by decide, rfl⟩)) w) word_4 sign_4
    (fun i t s ht hs W hW => by
      rcases two_at ht with ⟨rfl, rfl⟩ | ⟨rfl, rfl⟩
      · obtain rfl := Option.some.inj hs
        exact text_leaf 1000 (bs [112, 120]) [49, 112, 120] (fun w hT => by
          have h := text_plain 1000 (by decide) [112, 120] (by decide) w hT
          rwa [show plainP 1000 ++ [112, 120] = [49, 112, 120] by decide +kernel] at h) W (hT.on hW)
      · obtain rfl := Option.some.inj hs
        exact text_leaf 2000 (bs []) [50] (fun w hT => by
          have h := text_plain 2000 (by decide) [] (by decide) w hT
          rwa [show plainP 2000 ++ [] = [50] by decide +kernel] at h) W (hT.on hW))
    (by decide) (by decide)
  exact h

set_option maxRecDepth 100000 in
set_option maxHeartbeats 4000000 in
theorem twice_ct (w : World) (hm : MaxL w) (hU : UnitsAt w) (hT : PowAt w) :
    Calls Tryd.prog 4 #[] w fun e w' => e = .returned (.bool true) ∧ Below w.heap.size w w' := by
  have cR := Lib.hid (read_twice w hm hU)
  have cT := Lib.hid text_twice
  have HT := Lib.hid hT
  clear hm hU hT
  go_enter Tryd.func4, Tryd.ntmps4
  go_wp2_with (first
    | (go_at_call 5; (with_reducible refine cR.out.mono ?_); rintro e W1 ⟨⟨c, rfl, ht1⟩, hb1⟩; have HB1 := Lib.hid (hb1.alloc hb1.size (.cells #[.int .i64 4, .int .i64 0, .string ⟨#[]⟩, .slice (some ⟨c, 0, none⟩) 2 2] 27)); have T1 := Lib.hid (ht1.on ((Below.refl _ _).alloc (Nat.le_refl _) (.cells #[.int .i64 4, .int .i64 0, .string ⟨#[]⟩, .slice (some ⟨c, 0, none⟩) 2 2] 27))); clear ht1 hb1)
    | (go_at_call 7; (with_reducible refine (cT.out _ _ (HT.out.on HB1.out) T1.out).mono ?_); rintro e W2 ⟨rfl, hb2⟩; have HB2 := Lib.hid (HB1.out.trans (hb2.mono HB1.out.size)); clear hb2))
  go_ret
  exact ⟨rfl, HB2.out⟩

theorem rest7 (a : Int) : ∃ r : Nat, r < 7 ∧ (IntKind.u64.wrap a).tmod 7 = (r : Int) := by
  have h0 : 0 ≤ IntKind.u64.wrap a := by simp [IntKind.wrap, IntKind.bits, IntKind.signed]; omega
  generalize IntKind.u64.wrap a = v at *
  rw [Int.tmod_eq_emod_of_nonneg h0]
  exact ⟨(v % 7).toNat, by omega, by omega⟩
end Go.Proofs.YtbiahfjjngkfgaaDoor.cal
