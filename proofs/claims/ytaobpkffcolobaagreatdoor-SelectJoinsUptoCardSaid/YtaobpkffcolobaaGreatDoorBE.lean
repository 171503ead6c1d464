/- Contracts and plain law, a bundle. -/
import Derived.Lib.Hide
import Derived.Test.YtaobpkffcolobaaGreatDoorBD2
set_option linter.unusedVariables false
set_option maxRecDepth 100000
set_option maxHeartbeats 16000000
open Go.Lib (hid)
namespace Go.Proofs.YtaobpkffcolobaaGreatDoor
namespace sel
open Go.RowKit base tok rul
theorem idx_of {l : Bs} {c : UInt8} {r : Bs} (h : l = c :: r) (hz : 0 < (bs l).size) : (bs l)[0]'hz = c := by
 subst h
 rfl
theorem attr_nil (b : Nat)  (w : World) (h : RdrS w b []) (hE : EnvS b w) :
  Calls Tryz.prog 105 #[(pn b)] w fun e w' => e = .panicked chainN /\ w.grownBy w' (some b) := by
 have cN := hid (fun w h => next_no b w h)
 have hblt := h.lt
 have H0 := hid (h.alloc oZ)
 have G0 := hid (World.grownBy_alloc w oZ (some b))
 have Q0 := hid (show Blk (w.alloc oZ) w.heap.size 26 rZ from Blk.new rfl)
 have cY := hid (need_yes b)
 have cX := hid (need_no b)
 replace hE := hid hE
 clear h
 go_enter Tryz.func105, Tryz.ntmps105
 go_wp2_with (first
  | (go_at_call 59; (with_reducible refine (cN.out _ H0.out).mono ?_); rintro e WX ⟨rfl, hg⟩; have HGX := hid (G0.out.trans hg); clear hg))
 exact ⟨rfl, rfl, HGX.out⟩
theorem attr_word (b : Nat) (u : Tk) (L1 : List Tk) (hu : u.k ≠ 0 /\ u.val.length <= 400) (hx : wordF u 1 [] = none) (w : World) (h : RdrS w b (u :: L1)) (hE : EnvS b w) :
  Calls Tryz.prog 105 #[(pn b)] w fun e w' => e = .panicked chainN /\ w.grownBy w' (some b) := by
 have cN1 := hid (fun w h => next_yes b u L1 hu.1 w h)
 have cW : ∀ w, MaxL w -> Calls Tryz.prog 104 #[(pn b), (aTk u), .int .i64 1, .string ⟨#[]⟩] w fun e w' => e = .panicked chainN /\ Below w.heap.size w w' := fun w hm => by
  have h := word_ct b u 1 [] (by decide) hu.2 w hm
  rw [hx] at h
  exact h
 replace cW := hid cW
 have hblt := h.lt
 have H0 := hid (h.alloc oZ)
 have G0 := hid (World.grownBy_alloc w oZ (some b))
 have Q0 := hid (show Blk (w.alloc oZ) w.heap.size 26 rZ from Blk.new rfl)
 have cY := hid (need_yes b)
 have cX := hid (need_no b)
 replace hE := hid hE
 clear h
 go_enter Tryz.func105, Tryz.ntmps105
 go_wp2_with (first
  | (go_at_call 59; (with_reducible refine (cN1.out _ H0.out).mono ?_); rintro e W1 ⟨rfl, hr, hg⟩; unfold tv; have HR1 := hid hr; have HG1 := hid (G0.out.trans hg); have HQ1 := hid (Blk_grown Q0.out hg (by omega)); have hq1 := HQ1.out.lt; clear hr hg)
  | (go_at_call 104; (with_reducible refine (cW.out _ (hE.out.at_ (below_one (HG1.out.trans (World.grownBy_alloc _ (oTk u) (some b))) hblt)).max).mono ?_); rintro e WX ⟨rfl, hb⟩; have HGX := hid ((HG1.out.trans (World.grownBy_alloc _ (oTk u) (some b))).trans (grown_of_below hb (some b))); clear hb))
 exact ⟨rfl, rfl, HGX.out⟩
theorem attr_name (b : Nat) (u : Tk) (L1 : List Tk) (hu : u.k ≠ 0 /\ u.val.length <= 400) (x : Bs) (hx : wordF u 1 [] = some x) (t : Tk) (M : List Tk) (hL : L1 = t :: M) (ht : t.raw = [93]) (w : World) (h : RdrS w b (u :: L1)) (hE : EnvS b w) :
  Calls Tryz.prog 105 #[(pn b)] w fun e w' => e = .returned (leafV (ts 5 (lowP x))) /\ RdrS w' b M /\ w.grownBy w' (some b) := by
 have cN1 := hid (fun w h => next_yes b u L1 hu.1 w h)
 have cW : ∀ w, MaxL w -> Calls Tryz.prog 104 #[(pn b), (aTk u), .int .i64 1, .string ⟨#[]⟩] w (rt w (.string (bs x))) := fun w hm => by
  have h := word_ct b u 1 [] (by decide) hu.2 w hm
  rw [hx] at h
  exact h
 replace cW := hid cW
 have cL : ∀ w, Calls Tryz.prog 70 #[.string (bs x)] w (rt w (.string (bs (lowP x)))) := fun w => low_ct (bs x) (by rw [bs_size]; have := word_len hx hu.2; omega) w
 replace cL := hid cL
 subst hL
 have cR := hid (fun w h => raw_yes b t M ⟨#[93]⟩ w h ht)
 clear ht
 have hblt := h.lt
 have H0 := hid (h.alloc oZ)
 have G0 := hid (World.grownBy_alloc w oZ (some b))
 have Q0 := hid (show Blk (w.alloc oZ) w.heap.size 26 rZ from Blk.new rfl)
 have cY := hid (need_yes b)
 have cX := hid (need_no b)
 replace hE := hid hE
 clear h
 go_enter Tryz.func105, Tryz.ntmps105
 go_wp2_with (first
  | (go_at_call 59; (with_reducible refine (cN1.out _ H0.out).mono ?_); rintro e W1 ⟨rfl, hr, hg⟩; unfold tv; have HR1 := hid hr; have HG1 := hid (G0.out.trans hg); have HQ1 := hid (Blk_grown Q0.out hg (by omega)); have hq1 := HQ1.out.lt; clear hr hg)
  | (go_at_call 104; (with_reducible refine (cW.out _ (hE.out.at_ (below_one (HG1.out.trans (World.grownBy_alloc _ (oTk u) (some b))) hblt)).max).mono ?_); rintro e W2 ⟨rfl, hb⟩; have HR2 := hid ((HR1.out.alloc (oTk u)).on hb (HR1.out.alloc (oTk u)).lt); have HG2 := hid ((HG1.out.trans (World.grownBy_alloc _ (oTk u) (some b))).trans (grown_of_below hb (some b))); have HQ2 := hid ((HQ1.out.alloc (oTk u)).below hb (HQ1.out.alloc (oTk u)).lt); have hq2 := HQ2.out.lt; clear hb)
  | (go_at_call 70; (with_reducible refine (cL.out _).mono ?_); rintro e W3 ⟨rfl, hb⟩; have HR3 := hid (HR2.out.on hb HR2.out.lt); have HG3 := hid (HG2.out.trans (grown_of_below hb (some b))); have HQ3 := hid (HQ2.out.below hb HQ2.out.lt); have hq3 := HQ3.out.lt; clear hb)
  | (go_at_call 29; (with_reducible refine (cR.out _ (HR3.out.alloc (oN (bs (lowP x))))).mono ?_); rintro e W4 ⟨rfl, hr, hg⟩; have HR4 := hid hr; have HG4 := hid ((HG3.out.trans (World.grownBy_alloc _ (oN (bs (lowP x))) (some b))).trans hg); have HQ4 := hid (Blk_grown (HQ3.out.alloc (oN (bs (lowP x)))) hg (by omega)); have HO4 := hid (Blk_grown (show Blk (W3.alloc (oN (bs (lowP x)))) W3.heap.size 26 (rN (bs (lowP x))) from Blk.new rfl) hg (by omega)); have hq4 := HQ4.out.lt; have ho4 := HO4.out.lt; clear hr hg; have oc := HO4.out.cell; have qc := HQ4.out.cell; have qf := HQ4.out.frozen))
 have e := Blk.cell (blk_seven HQ4.out (.int .i64 5) (.string (bs (lowP x))) (.int .u8 0) (.string ⟨#[]⟩) (.int .i64 0) (.int .i64 0) (.slice none 0 0))
 refine bodyPost_ret (v := (aTs 5 (bs (lowP x)) 0 ⟨#[]⟩ 0 0 none 0 0)) (by simp [results, Tryz.results105, go_sem, e]) rfl ⟨rfl, ?_, ?_⟩
 ·exact HR4.out.seven hblt _ _ _ _ _ _ _
 ·exact grown_seven HG4.out (Nat.le_refl _) _ _ _ _ _ _ _
theorem attr_end (b : Nat) (u : Tk) (hu : u.k ≠ 0 /\ u.val.length <= 400) (x : Bs) (hx : wordF u 1 [] = some x) (w : World) (h : RdrS w b [u]) (hE : EnvS b w) :
  Calls Tryz.prog 105 #[(pn b)] w fun e w' => e = .panicked chainN /\ w.grownBy w' (some b) := by
 have cN1 := hid (fun w h => next_yes b u [] hu.1 w h)
 have cW : ∀ w, MaxL w -> Calls Tryz.prog 104 #[(pn b), (aTk u), .int .i64 1, .string ⟨#[]⟩] w (rt w (.string (bs x))) := fun w hm => by
  have h := word_ct b u 1 [] (by decide) hu.2 w hm
  rw [hx] at h
  exact h
 replace cW := hid cW
 have cL : ∀ w, Calls Tryz.prog 70 #[.string (bs x)] w (rt w (.string (bs (lowP x)))) := fun w => low_ct (bs x) (by rw [bs_size]; have := word_len hx hu.2; omega) w
 replace cL := hid cL
 have cR := hid (fun w h => raw_no b [] ⟨#[93]⟩ w h (by decide))
 have cN2 := hid (fun w h => next_no b w h)
 have hblt := h.lt
 have H0 := hid (h.alloc oZ)
 have G0 := hid (World.grownBy_alloc w oZ (some b))
 have Q0 := hid (show Blk (w.alloc oZ) w.heap.size 26 rZ from Blk.new rfl)
 have cY := hid (need_yes b)
 have cX := hid (need_no b)
 replace hE := hid hE
 clear h
 go_enter Tryz.func105, Tryz.ntmps105
 go_wp2_with (first
  | (go_at_call 59; (with_reducible refine (cN1.out _ H0.out).mono ?_); rintro e W1 ⟨rfl, hr, hg⟩; unfold tv; have HR1 := hid hr; have HG1 := hid (G0.out.trans hg); have HQ1 := hid (Blk_grown Q0.out hg (by omega)); have hq1 := HQ1.out.lt; clear hr hg)
  | (go_at_call 104; (with_reducible refine (cW.out _ (hE.out.at_ (below_one (HG1.out.trans (World.grownBy_alloc _ (oTk u) (some b))) hblt)).max).mono ?_); rintro e W2 ⟨rfl, hb⟩; have HR2 := hid ((HR1.out.alloc (oTk u)).on hb (HR1.out.alloc (oTk u)).lt); have HG2 := hid ((HG1.out.trans (World.grownBy_alloc _ (oTk u) (some b))).trans (grown_of_below hb (some b))); have HQ2 := hid ((HQ1.out.alloc (oTk u)).below hb (HQ1.out.alloc (oTk u)).lt); have hq2 := HQ2.out.lt; clear hb)
  | (go_at_call 70; (with_reducible refine (cL.out _).mono ?_); rintro e W3 ⟨rfl, hb⟩; have HR3 := hid (HR2.out.on hb HR2.out.lt); have HG3 := hid (HG2.out.trans (grown_of_below hb (some b))); have HQ3 := hid (HQ2.out.below hb HQ2.out.lt); have hq3 := HQ3.out.lt; clear hb)
  | (go_at_call 29; (with_reducible refine (cR.out _ (HR3.out.alloc (oN (bs (lowP x))))).mono ?_); rintro e W4 ⟨rfl, hb⟩; have HR4 := hid ((HR3.out.alloc (oN (bs (lowP x)))).on hb (HR3.out.alloc (oN (bs (lowP x)))).lt); have HG4 := hid ((HG3.out.trans (World.grownBy_alloc _ (oN (bs (lowP x))) (some b))).trans (grown_of_below hb (some b))); have HQ4 := hid ((HQ3.out.alloc (oN (bs (lowP x)))).below hb (HQ3.out.alloc (oN (bs (lowP x)))).lt); have HO4 := hid ((show Blk (W3.alloc (oN (bs (lowP x)))) W3.heap.size 26 (rN (bs (lowP x))) from Blk.new rfl).below hb (show Blk (W3.alloc (oN (bs (lowP x)))) W3.heap.size 26 (rN (bs (lowP x))) from Blk.new rfl).lt); have hq4 := HQ4.out.lt; have ho4 := HO4.out.lt; clear hb)
  | (go_at_call 59; (with_reducible refine (cN2.out _ HR4.out).mono ?_); rintro e WX ⟨rfl, hg⟩; have HGX := hid (HG4.out.trans hg); clear hg))
 exact ⟨rfl, rfl, HGX.out⟩
theorem attr_op (b : Nat) (u : Tk) (hu : u.k ≠ 0 /\ u.val.length <= 400) (x : Bs) (hx : wordF u 1 [] = some x) (o : Tk) (ho : o.k ≠ 0) (h93 : o.raw ≠ [93]) (h12 : o.k ≠ 12) (L2 : List Tk) (w : World) (h : RdrS w b (u :: o :: L2)) (hE : EnvS b w) :
  Calls Tryz.prog 105 #[(pn b)] w fun e w' => e = .panicked chainN /\ w.grownBy w' (some b) := by
 have cN1 := hid (fun w h => next_yes b u (o :: L2) hu.1 w h)
 have cW : ∀ w, MaxL w -> Calls Tryz.prog 104 #[(pn b), (aTk u), .int .i64 1, .string ⟨#[]⟩] w (rt w (.string (bs x))) := fun w hm => by
  have h := word_ct b u 1 [] (by decide) hu.2 w hm
  rw [hx] at h
  exact h
 replace cW := hid cW
 have cL : ∀ w, Calls Tryz.prog 70 #[.string (bs x)] w (rt w (.string (bs (lowP x)))) := fun w => low_ct (bs x) (by rw [bs_size]; have := word_len hx hu.2; omega) w
 replace cL := hid cL
 have cR := hid (fun w h => raw_no b (o :: L2) ⟨#[93]⟩ w h h93)
 clear h93
 have cN2 := hid (fun w h => next_yes b o L2 ho w h)
 have k12 : (o.k == 12) = false := bq h12
 clear h12
 have hblt := h.lt
 have H0 := hid (h.alloc oZ)
 have G0 := hid (World.grownBy_alloc w oZ (some b))
 have Q0 := hid (show Blk (w.alloc oZ) w.heap.size 26 rZ from Blk.new rfl)
 have cY := hid (need_yes b)
 have cX := hid (need_no b)
 replace hE := hid hE
 clear h
 go_enter Tryz.func105, Tryz.ntmps105
 go_wp2_with (first
  | (go_at_call 59; (with_reducible refine (cN1.out _ H0.out).mono ?_); rintro e W1 ⟨rfl, hr, hg⟩; unfold tv; have HR1 := hid hr; have HG1 := hid (G0.out.trans hg); have HQ1 := hid (Blk_grown Q0.out hg (by omega)); have hq1 := HQ1.out.lt; clear hr hg)
  | (go_at_call 104; (with_reducible refine (cW.out _ (hE.out.at_ (below_one (HG1.out.trans (World.grownBy_alloc _ (oTk u) (some b))) hblt)).max).mono ?_); rintro e W2 ⟨rfl, hb⟩; have HR2 := hid ((HR1.out.alloc (oTk u)).on hb (HR1.out.alloc (oTk u)).lt); have HG2 := hid ((HG1.out.trans (World.grownBy_alloc _ (oTk u) (some b))).trans (grown_of_below hb (some b))); have HQ2 := hid ((HQ1.out.alloc (oTk u)).below hb (HQ1.out.alloc (oTk u)).lt); have hq2 := HQ2.out.lt; clear hb)
  | (go_at_call 70; (with_reducible refine (cL.out _).mono ?_); rintro e W3 ⟨rfl, hb⟩; have HR3 := hid (HR2.out.on hb HR2.out.lt); have HG3 := hid (HG2.out.trans (grown_of_below hb (some b))); have HQ3 := hid (HQ2.out.below hb HQ2.out.lt); have hq3 := HQ3.out.lt; clear hb)
  | (go_at_call 29; (with_reducible refine (cR.out _ (HR3.out.alloc (oN (bs (lowP x))))).mono ?_); rintro e W4 ⟨rfl, hb⟩; have HR4 := hid ((HR3.out.alloc (oN (bs (lowP x)))).on hb (HR3.out.alloc (oN (bs (lowP x)))).lt); have HG4 := hid ((HG3.out.trans (World.grownBy_alloc _ (oN (bs (lowP x))) (some b))).trans (grown_of_below hb (some b))); have HQ4 := hid ((HQ3.out.alloc (oN (bs (lowP x)))).below hb (HQ3.out.alloc (oN (bs (lowP x)))).lt); have HO4 := hid ((show Blk (W3.alloc (oN (bs (lowP x)))) W3.heap.size 26 (rN (bs (lowP x))) from Blk.new rfl).below hb (show Blk (W3.alloc (oN (bs (lowP x)))) W3.heap.size 26 (rN (bs (lowP x))) from Blk.new rfl).lt); have hq4 := HQ4.out.lt; have ho4 := HO4.out.lt; clear hb)
  | (go_at_call 59; (with_reducible refine (cN2.out _ HR4.out).mono ?_); rintro e W5 ⟨rfl, hr, hg⟩; unfold tv; have HR5 := hid hr; have HG5 := hid (HG4.out.trans hg); have HQ5 := hid (Blk_grown HQ4.out hg (by omega)); have HO5 := hid (Blk_grown HO4.out hg (by omega)); have hq5 := HQ5.out.lt; have ho5 := HO5.out.lt; clear hr hg)
  | (go_at_call 30; (with_reducible refine (cX.out _).mono ?_); rintro e WN ⟨rfl, rfl⟩))
 exact ⟨rfl, rfl, (HG5.out.trans (World.grownBy_alloc _ (oTk o) (some b)))⟩
theorem attr_noeq (b : Nat) (u : Tk) (hu : u.k ≠ 0 /\ u.val.length <= 400) (x : Bs) (hx : wordF u 1 [] = some x) (o : Tk) (ho : o.k ≠ 0) (h93 : o.raw ≠ [93]) (h12 : o.k = 12) (c : UInt8) (cr : Bs) (hraw : o.raw = c :: cr) (h61 : c ≠ 61) (L2 : List Tk) (hq : (headT L2).raw ≠ [61]) (w : World) (h : RdrS w b (u :: o :: L2)) (hE : EnvS b w) :
  Calls Tryz.prog 105 #[(pn b)] w fun e w' => e = .panicked chainN /\ w.grownBy w' (some b) := by
 have cN1 := hid (fun w h => next_yes b u (o :: L2) hu.1 w h)
 have cW : ∀ w, MaxL w -> Calls Tryz.prog 104 #[(pn b), (aTk u), .int .i64 1, .string ⟨#[]⟩] w (rt w (.string (bs x))) := fun w hm => by
  have h := word_ct b u 1 [] (by decide) hu.2 w hm
  rw [hx] at h
  exact h
 replace cW := hid cW
 have cL : ∀ w, Calls Tryz.prog 70 #[.string (bs x)] w (rt w (.string (bs (lowP x)))) := fun w => low_ct (bs x) (by rw [bs_size]; have := word_len hx hu.2; omega) w
 replace cL := hid cL
 have cR := hid (fun w h => raw_no b (o :: L2) ⟨#[93]⟩ w h h93)
 clear h93
 have cN2 := hid (fun w h => next_yes b o L2 ho w h)
 have k12 : (o.k == 12) = true := by rw [h12]; rfl
 have hz9 : 0 < (bs o.raw).size := by rw [bs_size, hraw]; simp
 have hix : (bs o.raw)[0]'hz9 = c := idx_of hraw hz9
 clear h12 hraw
 have k61 : (((c.toNat : Nat) : Int) != 61) = true := by rw [bne, Bool.not_eq_true', beq_eq_false_iff_ne]; intro e; exact h61 (UInt8.toNat_inj.1 (show c.toNat = 61 by omega))
 clear h61
 have cE := hid (fun w h => raw_no b L2 ⟨#[61]⟩ w h hq)
 clear hq
 have hblt := h.lt
 have H0 := hid (h.alloc oZ)
 have G0 := hid (World.grownBy_alloc w oZ (some b))
 have Q0 := hid (show Blk (w.alloc oZ) w.heap.size 26 rZ from Blk.new rfl)
 have cY := hid (need_yes b)
 have cX := hid (need_no b)
 replace hE := hid hE
 clear h
 go_enter Tryz.func105, Tryz.ntmps105
 go_wp2_with (first
  | (go_at_call 59; (with_reducible refine (cN1.out _ H0.out).mono ?_); rintro e W1 ⟨rfl, hr, hg⟩; unfold tv; have HR1 := hid hr; have HG1 := hid (G0.out.trans hg); have HQ1 := hid (Blk_grown Q0.out hg (by omega)); have hq1 := HQ1.out.lt; clear hr hg)
  | (go_at_call 104; (with_reducible refine (cW.out _ (hE.out.at_ (below_one (HG1.out.trans (World.grownBy_alloc _ (oTk u) (some b))) hblt)).max).mono ?_); rintro e W2 ⟨rfl, hb⟩; have HR2 := hid ((HR1.out.alloc (oTk u)).on hb (HR1.out.alloc (oTk u)).lt); have HG2 := hid ((HG1.out.trans (World.grownBy_alloc _ (oTk u) (some b))).trans (grown_of_below hb (some b))); have HQ2 := hid ((HQ1.out.alloc (oTk u)).below hb (HQ1.out.alloc (oTk u)).lt); have hq2 := HQ2.out.lt; clear hb)
  | (go_at_call 70; (with_reducible refine (cL.out _).mono ?_); rintro e W3 ⟨rfl, hb⟩; have HR3 := hid (HR2.out.on hb HR2.out.lt); have HG3 := hid (HG2.out.trans (grown_of_below hb (some b))); have HQ3 := hid (HQ2.out.below hb HQ2.out.lt); have hq3 := HQ3.out.lt; clear hb)
  | (go_at_call 29; (with_reducible refine (cR.out _ (HR3.out.alloc (oN (bs (lowP x))))).mono ?_); rintro e W4 ⟨rfl, hb⟩; have HR4 := hid ((HR3.out.alloc (oN (bs (lowP x)))).on hb (HR3.out.alloc (oN (bs (lowP x)))).lt); have HG4 := hid ((HG3.out.trans (World.grownBy_alloc _ (oN (bs (lowP x))) (some b))).trans (grown_of_below hb (some b))); have HQ4 := hid ((HQ3.out.alloc (oN (bs (lowP x)))).below hb (HQ3.out.alloc (oN (bs (lowP x)))).lt); have HO4 := hid ((show Blk (W3.alloc (oN (bs (lowP x)))) W3.heap.size 26 (rN (bs (lowP x))) from Blk.new rfl).below hb (show Blk (W3.alloc (oN (bs (lowP x)))) W3.heap.size 26 (rN (bs (lowP x))) from Blk.new rfl).lt); have hq4 := HQ4.out.lt; have ho4 := HO4.out.lt; clear hb)
  | (go_at_call 59; (with_reducible refine (cN2.out _ HR4.out).mono ?_); rintro e W5 ⟨rfl, hr, hg⟩; unfold tv; have HR5 := hid hr; have HG5 := hid (HG4.out.trans hg); have HQ5 := hid (Blk_grown HQ4.out hg (by omega)); have HO5 := hid (Blk_grown HO4.out hg (by omega)); have hq5 := HQ5.out.lt; have ho5 := HO5.out.lt; clear hr hg; have o5c := (HO5.out.alloc (oTk o)).cell; have o5f := (HO5.out.alloc (oTk o)).frozen; have o6c := ((HO5.out.put 2 (.int .u8 ((c.toNat : Nat) : Int))).alloc (oTk o)).cell; have t6c := (Blk.new (w := W5.setCell ⟨W3.heap.size, 2, none⟩ (.int .u8 ((c.toNat : Nat) : Int))) (k := W5.heap.size) (t := 70) (cs := (rTk o)) (by simp [World.setCell])).cell)
  | (go_at_call 30; (with_reducible refine (cY.out _).mono ?_); rintro e WN ⟨rfl, rfl⟩)
  | (go_at_call 29; (with_reducible refine (cE.out _ ((HR5.out.far (p := ⟨W3.heap.size, 2, none⟩) (by dsimp only; omega) (.int .u8 ((c.toNat : Nat) : Int))).alloc (oTk o))).mono ?_); rintro e W7 ⟨rfl, hb⟩; have HR7 := hid (((HR5.out.far (p := ⟨W3.heap.size, 2, none⟩) (by dsimp only; omega) (.int .u8 ((c.toNat : Nat) : Int))).alloc (oTk o)).on hb ((HR5.out.far (p := ⟨W3.heap.size, 2, none⟩) (by dsimp only; omega) (.int .u8 ((c.toNat : Nat) : Int))).alloc (oTk o)).lt); have HG7 := hid (((grown_far (p := ⟨W3.heap.size, 2, none⟩) (v := .int .u8 ((c.toNat : Nat) : Int)) HG5.out (by dsimp only; omega)).trans (World.grownBy_alloc _ (oTk o) (some b))).trans (grown_of_below hb (some b))); have HQ7 := hid (((HQ5.out.far (p := ⟨W3.heap.size, 2, none⟩) (by dsimp only; omega) (.int .u8 ((c.toNat : Nat) : Int))).alloc (oTk o)).below hb ((HQ5.out.far (p := ⟨W3.heap.size, 2, none⟩) (by dsimp only; omega) (.int .u8 ((c.toNat : Nat) : Int))).alloc (oTk o)).lt); have HO7 := hid (((HO5.out.put 2 (.int .u8 ((c.toNat : Nat) : Int))).alloc (oTk o)).below hb ((HO5.out.put 2 (.int .u8 ((c.toNat : Nat) : Int))).alloc (oTk o)).lt); have hq7 := HQ7.out.lt; have ho7 := HO7.out.lt; clear hb)
  | (go_at_call 30; (with_reducible refine (cX.out _).mono ?_); rintro e WN ⟨rfl, rfl⟩))
 exact ⟨rfl, rfl, HG7.out⟩
theorem attr_eq_end (b : Nat) (u : Tk) (hu : u.k ≠ 0 /\ u.val.length <= 400) (x : Bs) (hx : wordF u 1 [] = some x) (o : Tk) (ho : o.k ≠ 0) (h93 : o.raw ≠ [93]) (h12 : o.k = 12) (c : UInt8) (cr : Bs) (hraw : o.raw = c :: cr) (h61 : c = 61) (w : World) (h : RdrS w b (u :: o :: [])) (hE : EnvS b w) :
  Calls Tryz.prog 105 #[(pn b)] w fun e w' => e = .panicked chainN /\ w.grownBy w' (some b) := by
 have cN1 := hid (fun w h => next_yes b u (o :: []) hu.1 w h)
 have cW : ∀ w, MaxL w -> Calls Tryz.prog 104 #[(pn b), (aTk u), .int .i64 1, .string ⟨#[]⟩] w (rt w (.string (bs x))) := fun w hm => by
  have h := word_ct b u 1 [] (by decide) hu.2 w hm
  rw [hx] at h
  exact h
 replace cW := hid cW
 have cL : ∀ w, Calls Tryz.prog 70 #[.string (bs x)] w (rt w (.string (bs (lowP x)))) := fun w => low_ct (bs x) (by rw [bs_size]; have := word_len hx hu.2; omega) w
 replace cL := hid cL
 have cR := hid (fun w h => raw_no b (o :: []) ⟨#[93]⟩ w h h93)
 clear h93
 have cN2 := hid (fun w h => next_yes b o [] ho w h)
 have k12 : (o.k == 12) = true := by rw [h12]; rfl
 have hz9 : 0 < (bs o.raw).size := by rw [bs_size, hraw]; simp
 have hix : (bs o.raw)[0]'hz9 = c := idx_of hraw hz9
 clear h12 hraw
 have k61 : (((c.toNat : Nat) : Int) != 61) = false := by rw [h61]; rfl
 clear h61
 have cV := hid (fun w h => next_no b w h)
 have hblt := h.lt
 have H0 := hid (h.alloc oZ)
 have G0 := hid (World.grownBy_alloc w oZ (some b))
 have Q0 := hid (show Blk (w.alloc oZ) w.heap.size 26 rZ from Blk.new rfl)
 have cY := hid (need_yes b)
 have cX := hid (need_no b)
 replace hE := hid hE
 clear h
 go_enter Tryz.func105, Tryz.ntmps105
 go_wp2_with (first
  | (go_at_call 59; (with_reducible refine (cN1.out _ H0.out).mono ?_); rintro e W1 ⟨rfl, hr, hg⟩; unfold tv; have HR1 := hid hr; have HG1 := hid (G0.out.trans hg); have HQ1 := hid (Blk_grown Q0.out hg (by omega)); have hq1 := HQ1.out.lt; clear hr hg)
  | (go_at_call 104; (with_reducible refine (cW.out _ (hE.out.at_ (below_one (HG1.out.trans (World.grownBy_alloc _ (oTk u) (some b))) hblt)).max).mono ?_); rintro e W2 ⟨rfl, hb⟩; have HR2 := hid ((HR1.out.alloc (oTk u)).on hb (HR1.out.alloc (oTk u)).lt); have HG2 := hid ((HG1.out.trans (World.grownBy_alloc _ (oTk u) (some b))).trans (grown_of_below hb (some b))); have HQ2 := hid ((HQ1.out.alloc (oTk u)).below hb (HQ1.out.alloc (oTk u)).lt); have hq2 := HQ2.out.lt; clear hb)
  | (go_at_call 70; (with_reducible refine (cL.out _).mono ?_); rintro e W3 ⟨rfl, hb⟩; have HR3 := hid (HR2.out.on hb HR2.out.lt); have HG3 := hid (HG2.out.trans (grown_of_below hb (some b))); have HQ3 := hid (HQ2.out.below hb HQ2.out.lt); have hq3 := HQ3.out.lt; clear hb)
  | (go_at_call 29; (with_reducible refine (cR.out _ (HR3.out.alloc (oN (bs (lowP x))))).mono ?_); rintro e W4 ⟨rfl, hb⟩; have HR4 := hid ((HR3.out.alloc (oN (bs (lowP x)))).on hb (HR3.out.alloc (oN (bs (lowP x)))).lt); have HG4 := hid ((HG3.out.trans (World.grownBy_alloc _ (oN (bs (lowP x))) (some b))).trans (grown_of_below hb (some b))); have HQ4 := hid ((HQ3.out.alloc (oN (bs (lowP x)))).below hb (HQ3.out.alloc (oN (bs (lowP x)))).lt); have HO4 := hid ((show Blk (W3.alloc (oN (bs (lowP x)))) W3.heap.size 26 (rN (bs (lowP x))) from Blk.new rfl).below hb (show Blk (W3.alloc (oN (bs (lowP x)))) W3.heap.size 26 (rN (bs (lowP x))) from Blk.new rfl).lt); have hq4 := HQ4.out.lt; have ho4 := HO4.out.lt; clear hb)
  | (go_at_call 59; (with_reducible refine (cN2.out _ HR4.out).mono ?_); rintro e W5 ⟨rfl, hr, hg⟩; unfold tv; have HR5 := hid hr; have HG5 := hid (HG4.out.trans hg); have HQ5 := hid (Blk_grown HQ4.out hg (by omega)); have HO5 := hid (Blk_grown HO4.out hg (by omega)); have hq5 := HQ5.out.lt; have ho5 := HO5.out.lt; clear hr hg; have o5c := (HO5.out.alloc (oTk o)).cell; have o5f := (HO5.out.alloc (oTk o)).frozen; have o6c := ((HO5.out.put 2 (.int .u8 ((c.toNat : Nat) : Int))).alloc (oTk o)).cell; have t6c := (Blk.new (w := W5.setCell ⟨W3.heap.size, 2, none⟩ (.int .u8 ((c.toNat : Nat) : Int))) (k := W5.heap.size) (t := 70) (cs := (rTk o)) (by simp [World.setCell])).cell)
  | (go_at_call 30; (with_reducible refine (cY.out _).mono ?_); rintro e WN ⟨rfl, rfl⟩)
  | (go_at_call 59; (with_reducible refine (cV.out _ ((HR5.out.far (p := ⟨W3.heap.size, 2, none⟩) (by dsimp only; omega) (.int .u8 ((c.toNat : Nat) : Int))).alloc (oTk o))).mono ?_); rintro e WX ⟨rfl, hg⟩; have HGX := hid (((grown_far (p := ⟨W3.heap.size, 2, none⟩) (v := .int .u8 ((c.toNat : Nat) : Int)) HG5.out (by dsimp only; omega)).trans (World.grownBy_alloc _ (oTk o) (some b))).trans hg); clear hg))
 exact ⟨rfl, rfl, HGX.out⟩
theorem attr_eq_text_bad (b : Nat) (u : Tk) (hu : u.k ≠ 0 /\ u.val.length <= 400) (x : Bs) (hx : wordF u 1 [] = some x) (o : Tk) (ho : o.k ≠ 0) (h93 : o.raw ≠ [93]) (h12 : o.k = 12) (c : UInt8) (cr : Bs) (hraw : o.raw = c :: cr) (h61 : c = 61) (v : Tk) (hv : v.k ≠ 0 /\ v.val.length <= 400) (h5 : v.k = 5) (L4 : List Tk) (hz : (headT L4).raw ≠ [93]) (w : World) (h : RdrS w b (u :: o :: (v :: L4))) (hE : EnvS b w) :
  Calls Tryz.prog 105 #[(pn b)] w fun e w' => e = .panicked chainN /\ w.grownBy w' (some b) := by
 have cN1 := hid (fun w h => next_yes b u (o :: (v :: L4)) hu.1 w h)
 have cW : ∀ w, MaxL w -> Calls Tryz.prog 104 #[(pn b), (aTk u), .int .i64 1, .string ⟨#[]⟩] w (rt w (.string (bs x))) := fun w hm => by
  have h := word_ct b u 1 [] (by decide) hu.2 w hm
  rw [hx] at h
  exact h
 replace cW := hid cW
 have cL : ∀ w, Calls Tryz.prog 70 #[.string (bs x)] w (rt w (.string (bs (lowP x)))) := fun w => low_ct (bs x) (by rw [bs_size]; have := word_len hx hu.2; omega) w
 replace cL := hid cL
 have cR := hid (fun w h => raw_no b (o :: (v :: L4)) ⟨#[93]⟩ w h h93)
 clear h93
 have cN2 := hid (fun w h => next_yes b o (v :: L4) ho w h)
 have k12 : (o.k == 12) = true := by rw [h12]; rfl
 have hz9 : 0 < (bs o.raw).size := by rw [bs_size, hraw]; simp
 have hix : (bs o.raw)[0]'hz9 = c := idx_of hraw hz9
 clear h12 hraw
 have k61 : (((c.toNat : Nat) : Int) != 61) = false := by rw [h61]; rfl
 clear h61
 have cV := hid (fun w h => next_yes b v L4 hv.1 w h)
 have k5 : (v.k != 5) = false := by rw [h5]; rfl
 clear h5
 have cZ := hid (fun w h => raw_no b L4 ⟨#[93]⟩ w h hz)
 clear hz
 have hblt := h.lt
 have H0 := hid (h.alloc oZ)
 have G0 := hid (World.grownBy_alloc w oZ (some b))
 have Q0 := hid (show Blk (w.alloc oZ) w.heap.size 26 rZ from Blk.new rfl)
 have cY := hid (need_yes b)
 have cX := hid (need_no b)
 replace hE := hid hE
 clear h
 go_enter Tryz.func105, Tryz.ntmps105
 go_wp2_with (first
  | (go_at_call 59; (with_reducible refine (cN1.out _ H0.out).mono ?_); rintro e W1 ⟨rfl, hr, hg⟩; unfold tv; have HR1 := hid hr; have HG1 := hid (G0.out.trans hg); have HQ1 := hid (Blk_grown Q0.out hg (by omega)); have hq1 := HQ1.out.lt; clear hr hg)
  | (go_at_call 104; (with_reducible refine (cW.out _ (hE.out.at_ (below_one (HG1.out.trans (World.grownBy_alloc _ (oTk u) (some b))) hblt)).max).mono ?_); rintro e W2 ⟨rfl, hb⟩; have HR2 := hid ((HR1.out.alloc (oTk u)).on hb (HR1.out.alloc (oTk u)).lt); have HG2 := hid ((HG1.out.trans (World.grownBy_alloc _ (oTk u) (some b))).trans (grown_of_below hb (some b))); have HQ2 := hid ((HQ1.out.alloc (oTk u)).below hb (HQ1.out.alloc (oTk u)).lt); have hq2 := HQ2.out.lt; clear hb)
  | (go_at_call 70; (with_reducible refine (cL.out _).mono ?_); rintro e W3 ⟨rfl, hb⟩; have HR3 := hid (HR2.out.on hb HR2.out.lt); have HG3 := hid (HG2.out.trans (grown_of_below hb (some b))); have HQ3 := hid (HQ2.out.below hb HQ2.out.lt); have hq3 := HQ3.out.lt; clear hb)
  | (go_at_call 29; (with_reducible refine (cR.out _ (HR3.out.alloc (oN (bs (lowP x))))).mono ?_); rintro e W4 ⟨rfl, hb⟩; have HR4 := hid ((HR3.out.alloc (oN (bs (lowP x)))).on hb (HR3.out.alloc (oN (bs (lowP x)))).lt); have HG4 := hid ((HG3.out.trans (World.grownBy_alloc _ (oN (bs (lowP x))) (some b))).trans (grown_of_below hb (some b))); have HQ4 := hid ((HQ3.out.alloc (oN (bs (lowP x)))).below hb (HQ3.out.alloc (oN (bs (lowP x)))).lt); have HO4 := hid ((show Blk (W3.alloc (oN (bs (lowP x)))) W3.heap.size 26 (rN (bs (lowP x))) from Blk.new rfl).below hb (show Blk (W3.alloc (oN (bs (lowP x)))) W3.heap.size 26 (rN (bs (lowP x))) from Blk.new rfl).lt); have hq4 := HQ4.out.lt; have ho4 := HO4.out.lt; clear hb)
  | (go_at_call 59; (with_reducible refine (cN2.out _ HR4.out).mono ?_); rintro e W5 ⟨rfl, hr, hg⟩; unfold tv; have HR5 := hid hr; have HG5 := hid (HG4.out.trans hg); have HQ5 := hid (Blk_grown HQ4.out hg (by omega)); have HO5 := hid (Blk_grown HO4.out hg (by omega)); have hq5 := HQ5.out.lt; have ho5 := HO5.out.lt; clear hr hg; have o5c := (HO5.out.alloc (oTk o)).cell; have o5f := (HO5.out.alloc (oTk o)).frozen; have o6c := ((HO5.out.put 2 (.int .u8 ((c.toNat : Nat) : Int))).alloc (oTk o)).cell; have t6c := (Blk.new (w := W5.setCell ⟨W3.heap.size, 2, none⟩ (.int .u8 ((c.toNat : Nat) : Int))) (k := W5.heap.size) (t := 70) (cs := (rTk o)) (by simp [World.setCell])).cell)
  | (go_at_call 30; (with_reducible refine (cY.out _).mono ?_); rintro e WN ⟨rfl, rfl⟩)
  | (go_at_call 59; (with_reducible refine (cV.out _ ((HR5.out.far (p := ⟨W3.heap.size, 2, none⟩) (by dsimp only; omega) (.int .u8 ((c.toNat : Nat) : Int))).alloc (oTk o))).mono ?_); rintro e W8 ⟨rfl, hr, hg⟩; unfold tv; have HR8 := hid hr; have HG8 := hid (((grown_far (p := ⟨W3.heap.size, 2, none⟩) (v := .int .u8 ((c.toNat : Nat) : Int)) HG5.out (by dsimp only; omega)).trans (World.grownBy_alloc _ (oTk o) (some b))).trans hg); have HQ8 := hid (Blk_grown ((HQ5.out.far (p := ⟨W3.heap.size, 2, none⟩) (by dsimp only; omega) (.int .u8 ((c.toNat : Nat) : Int))).alloc (oTk o)) hg (by omega)); have HO8 := hid (Blk_grown ((HO5.out.put 2 (.int .u8 ((c.toNat : Nat) : Int))).alloc (oTk o)) hg (by omega)); have hq8 := HQ8.out.lt; have ho8 := HO8.out.lt; clear hr hg; have o8c := (HO8.out.alloc (oTk v)).cell; have o8f := (HO8.out.alloc (oTk v)).frozen; have t9c := (Blk.new (w := W8.setCell ⟨W3.heap.size, 3, none⟩ (.string (bs v.val))) (k := W8.heap.size) (t := 70) (cs := (rTk v)) (by simp [World.setCell])).cell)
  | (go_at_call 29; (with_reducible refine (cZ.out _ ((HR8.out.far (p := ⟨W3.heap.size, 3, none⟩) (by dsimp only; omega) (.string (bs v.val))).alloc (oTk v))).mono ?_); rintro e W11 ⟨rfl, hb⟩; have HR11 := hid (((HR8.out.far (p := ⟨W3.heap.size, 3, none⟩) (by dsimp only; omega) (.string (bs v.val))).alloc (oTk v)).on hb ((HR8.out.far (p := ⟨W3.heap.size, 3, none⟩) (by dsimp only; omega) (.string (bs v.val))).alloc (oTk v)).lt); have HG11 := hid (((grown_far (p := ⟨W3.heap.size, 3, none⟩) (v := .string (bs v.val)) HG8.out (by dsimp only; omega)).trans (World.grownBy_alloc _ (oTk v) (some b))).trans (grown_of_below hb (some b))); have HQ11 := hid (((HQ8.out.far (p := ⟨W3.heap.size, 3, none⟩) (by dsimp only; omega) (.string (bs v.val))).alloc (oTk v)).below hb ((HQ8.out.far (p := ⟨W3.heap.size, 3, none⟩) (by dsimp only; omega) (.string (bs v.val))).alloc (oTk v)).lt); have HO11 := hid (((HO8.out.put 3 (.string (bs v.val))).alloc (oTk v)).below hb ((HO8.out.put 3 (.string (bs v.val))).alloc (oTk v)).lt); have hq11 := HQ11.out.lt; have ho11 := HO11.out.lt; clear hb)
  | (go_at_call 30; (with_reducible refine (cX.out _).mono ?_); rintro e WN ⟨rfl, rfl⟩))
 exact ⟨rfl, rfl, HG11.out⟩
theorem attr_eq_text_ok (b : Nat) (u : Tk) (hu : u.k ≠ 0 /\ u.val.length <= 400) (x : Bs) (hx : wordF u 1 [] = some x) (o : Tk) (ho : o.k ≠ 0) (h93 : o.raw ≠ [93]) (h12 : o.k = 12) (c : UInt8) (cr : Bs) (hraw : o.raw = c :: cr) (h61 : c = 61) (v : Tk) (hv : v.k ≠ 0 /\ v.val.length <= 400) (h5 : v.k = 5) (z : Tk) (M : List Tk) (hz : z.raw = [93]) (w : World) (h : RdrS w b (u :: o :: (v :: z :: M))) (hE : EnvS b w) :
  Calls Tryz.prog 105 #[(pn b)] w fun e w' => e = .returned (leafV (.mk 5 (lowP x) c v.val 0 0 [])) /\ RdrS w' b M /\ w.grownBy w' (some b) := by
 have cN1 := hid (fun w h => next_yes b u (o :: (v :: z :: M)) hu.1 w h)
 have cW : ∀ w, MaxL w -> Calls Tryz.prog 104 #[(pn b), (aTk u), .int .i64 1, .string ⟨#[]⟩] w (rt w (.string (bs x))) := fun w hm => by
  have h := word_ct b u 1 [] (by decide) hu.2 w hm
  rw [hx] at h
  exact h
 replace cW := hid cW
 have cL : ∀ w, Calls Tryz.prog 70 #[.string (bs x)] w (rt w (.string (bs (lowP x)))) := fun w => low_ct (bs x) (by rw [bs_size]; have := word_len hx hu.2; omega) w
 replace cL := hid cL
 have cR := hid (fun w h => raw_no b (o :: (v :: z :: M)) ⟨#[93]⟩ w h h93)
 clear h93
 have cN2 := hid (fun w h => next_yes b o (v :: z :: M) ho w h)
 have k12 : (o.k == 12) = true := by rw [h12]; rfl
 have hz9 : 0 < (bs o.raw).size := by rw [bs_size, hraw]; simp
 have hix : (bs o.raw)[0]'hz9 = c := idx_of hraw hz9
 clear h12 hraw
 have k61 : (((c.toNat : Nat) : Int) != 61) = false := by rw [h61]; rfl
 clear h61
 have cV := hid (fun w h => next_yes b v (z :: M) hv.1 w h)
 have k5 : (v.k != 5) = false := by rw [h5]; rfl
 clear h5
 have cZ := hid (fun w h => raw_yes b z M ⟨#[93]⟩ w h hz)
 clear hz
 have hblt := h.lt
 have H0 := hid (h.alloc oZ)
 have G0 := hid (World.grownBy_alloc w oZ (some b))
 have Q0 := hid (show Blk (w.alloc oZ) w.heap.size 26 rZ from Blk.new rfl)
 have cY := hid (need_yes b)
 have cX := hid (need_no b)
 replace hE := hid hE
 clear h
 go_enter Tryz.func105, Tryz.ntmps105
 go_wp2_with (first
  | (go_at_call 59; (with_reducible refine (cN1.out _ H0.out).mono ?_); rintro e W1 ⟨rfl, hr, hg⟩; unfold tv; have HR1 := hid hr; have HG1 := hid (G0.out.trans hg); have HQ1 := hid (Blk_grown Q0.out hg (by omega)); have hq1 := HQ1.out.lt; clear hr hg)
  | (go_at_call 104; (with_reducible refine (cW.out _ (hE.out.at_ (below_one (HG1.out.trans (World.grownBy_alloc _ (oTk u) (some b))) hblt)).max).mono ?_); rintro e W2 ⟨rfl, hb⟩; have HR2 := hid ((HR1.out.alloc (oTk u)).on hb (HR1.out.alloc (oTk u)).lt); have HG2 := hid ((HG1.out.trans (World.grownBy_alloc _ (oTk u) (some b))).trans (grown_of_below hb (some b))); have HQ2 := hid ((HQ1.out.alloc (oTk u)).below hb (HQ1.out.alloc (oTk u)).lt); have hq2 := HQ2.out.lt; clear hb)
  | (go_at_call 70; (with_reducible refine (cL.out _).mono ?_); rintro e W3 ⟨rfl, hb⟩; have HR3 := hid (HR2.out.on hb HR2.out.lt); have HG3 := hid (HG2.out.trans (grown_of_below hb (some b))); have HQ3 := hid (HQ2.out.below hb HQ2.out.lt); have hq3 := HQ3.out.lt; clear hb)
  | (go_at_call 29; (with_reducible refine (cR.out _ (HR3.out.alloc (oN (bs (lowP x))))).mono ?_); rintro e W4 ⟨rfl, hb⟩; have HR4 := hid ((HR3.out.alloc (oN (bs (lowP x)))).on hb (HR3.out.alloc (oN (bs (lowP x)))).lt); have HG4 := hid ((HG3.out.trans (World.grownBy_alloc _ (oN (bs (lowP x))) (some b))).trans (grown_of_below hb (some b))); have HQ4 := hid ((HQ3.out.alloc (oN (bs (lowP x)))).below hb (HQ3.out.alloc (oN (bs (lowP x)))).lt); have HO4 := hid ((show Blk (W3.alloc (oN (bs (lowP x)))) W3.heap.size 26 (rN (bs (lowP x))) from Blk.new rfl).below hb (show Blk (W3.alloc (oN (bs (lowP x)))) W3.heap.size 26 (rN (bs (lowP x))) from Blk.new rfl).lt); have hq4 := HQ4.out.lt; have ho4 := HO4.out.lt; clear hb)
  | (go_at_call 59; (with_reducible refine (cN2.out _ HR4.out).mono ?_); rintro e W5 ⟨rfl, hr, hg⟩; unfold tv; have HR5 := hid hr; have HG5 := hid (HG4.out.trans hg); have HQ5 := hid (Blk_grown HQ4.out hg (by omega)); have HO5 := hid (Blk_grown HO4.out hg (by omega)); have hq5 := HQ5.out.lt; have ho5 := HO5.out.lt; clear hr hg; have o5c := (HO5.out.alloc (oTk o)).cell; have o5f := (HO5.out.alloc (oTk o)).frozen; have o6c := ((HO5.out.put 2 (.int .u8 ((c.toNat : Nat) : Int))).alloc (oTk o)).cell; have t6c := (Blk.new (w := W5.setCell ⟨W3.heap.size, 2, none⟩ (.int .u8 ((c.toNat : Nat) : Int))) (k := W5.heap.size) (t := 70) (cs := (rTk o)) (by simp [World.setCell])).cell)
  | (go_at_call 30; (with_reducible refine (cY.out _).mono ?_); rintro e WN ⟨rfl, rfl⟩)
  | (go_at_call 59; (with_reducible refine (cV.out _ ((HR5.out.far (p := ⟨W3.heap.size, 2, none⟩) (by dsimp only; omega) (.int .u8 ((c.toNat : Nat) : Int))).alloc (oTk o))).mono ?_); rintro e W8 ⟨rfl, hr, hg⟩; unfold tv; have HR8 := hid hr; have HG8 := hid (((grown_far (p := ⟨W3.heap.size, 2, none⟩) (v := .int .u8 ((c.toNat : Nat) : Int)) HG5.out (by dsimp only; omega)).trans (World.grownBy_alloc _ (oTk o) (some b))).trans hg); have HQ8 := hid (Blk_grown ((HQ5.out.far (p := ⟨W3.heap.size, 2, none⟩) (by dsimp only; omega) (.int .u8 ((c.toNat : Nat) : Int))).alloc (oTk o)) hg (by omega)); have HO8 := hid (Blk_grown ((HO5.out.put 2 (.int .u8 ((c.toNat : Nat) : Int))).alloc (oTk o)) hg (by omega)); have hq8 := HQ8.out.lt; have ho8 := HO8.out.lt; clear hr hg; have o8c := (HO8.out.alloc (oTk v)).cell; have o8f := (HO8.out.alloc (oTk v)).frozen; have t9c := (Blk.new (w := W8.setCell ⟨W3.heap.size, 3, none⟩ (.string (bs v.val))) (k := W8.heap.size) (t := 70) (cs := (rTk v)) (by simp [World.setCell])).cell)
  | (go_at_call 29; (with_reducible refine (cZ.out _ ((HR8.out.far (p := ⟨W3.heap.size, 3, none⟩) (by dsimp only; omega) (.string (bs v.val))).alloc (oTk v))).mono ?_); rintro e W11 ⟨rfl, hr, hg⟩; have HR11 := hid hr; have HG11 := hid (((grown_far (p := ⟨W3.heap.size, 3, none⟩) (v := .string (bs v.val)) HG8.out (by dsimp only; omega)).trans (World.grownBy_alloc _ (oTk v) (some b))).trans hg); have HQ11 := hid (Blk_grown ((HQ8.out.far (p := ⟨W3.heap.size, 3, none⟩) (by dsimp only; omega) (.string (bs v.val))).alloc (oTk v)) hg (by omega)); have HO11 := hid (Blk_grown ((HO8.out.put 3 (.string (bs v.val))).alloc (oTk v)) hg (by omega)); have hq11 := HQ11.out.lt; have ho11 := HO11.out.lt; clear hr hg; have oc := HO11.out.cell; have qc := HQ11.out.cell; have qf := HQ11.out.frozen)
  | (go_at_call 30; (with_reducible refine (cY.out _).mono ?_); rintro e WN ⟨rfl, rfl⟩))
 have e := Blk.cell (blk_seven HQ11.out (.int .i64 5) (.string (bs (lowP x))) (.int .u8 ((c.toNat : Nat) : Int)) (.string (bs v.val)) (.int .i64 0) (.int .i64 0) (.slice none 0 0))
 refine bodyPost_ret (v := (aTs 5 (bs (lowP x)) ((c.toNat : Nat) : Int) (bs v.val) 0 0 none 0 0)) (by simp [results, Tryz.results105, go_sem, e]) rfl ⟨rfl, ?_, ?_⟩
 ·exact HR11.out.seven hblt _ _ _ _ _ _ _
 ·exact grown_seven HG11.out (Nat.le_refl _) _ _ _ _ _ _ _
theorem attr_eq_word (b : Nat) (u : Tk) (hu : u.k ≠ 0 /\ u.val.length <= 400) (x : Bs) (hx : wordF u 1 [] = some x) (o : Tk) (ho : o.k ≠ 0) (h93 : o.raw ≠ [93]) (h12 : o.k = 12) (c : UInt8) (cr : Bs) (hraw : o.raw = c :: cr) (h61 : c = 61) (v : Tk) (hv : v.k ≠ 0 /\ v.val.length <= 400) (h5 : v.k ≠ 5) (hy : wordF v 1 [] = none) (L4 : List Tk) (w : World) (h : RdrS w b (u :: o :: (v :: L4))) (hE : EnvS b w) :
  Calls Tryz.prog 105 #[(pn b)] w fun e w' => e = .panicked chainN /\ w.grownBy w' (some b) := by
 have cN1 := hid (fun w h => next_yes b u (o :: (v :: L4)) hu.1 w h)
 have cW : ∀ w, MaxL w -> Calls Tryz.prog 104 #[(pn b), (aTk u), .int .i64 1, .string ⟨#[]⟩] w (rt w (.string (bs x))) := fun w hm => by
  have h := word_ct b u 1 [] (by decide) hu.2 w hm
  rw [hx] at h
  exact h
 replace cW := hid cW
 have cL : ∀ w, Calls Tryz.prog 70 #[.string (bs x)] w (rt w (.string (bs (lowP x)))) := fun w => low_ct (bs x) (by rw [bs_size]; have := word_len hx hu.2; omega) w
 replace cL := hid cL
 have cR := hid (fun w h => raw_no b (o :: (v :: L4)) ⟨#[93]⟩ w h h93)
 clear h93
 have cN2 := hid (fun w h => next_yes b o (v :: L4) ho w h)
 have k12 : (o.k == 12) = true := by rw [h12]; rfl
 have hz9 : 0 < (bs o.raw).size := by rw [bs_size, hraw]; simp
 have hix : (bs o.raw)[0]'hz9 = c := idx_of hraw hz9
 clear h12 hraw
 have k61 : (((c.toNat : Nat) : Int) != 61) = false := by rw [h61]; rfl
 clear h61
 have cV := hid (fun w h => next_yes b v L4 hv.1 w h)
 have k5 : (v.k != 5) = true := by rw [bne, Bool.not_eq_true', beq_eq_false_iff_ne]; exact h5
 clear h5
 have cX2 : ∀ w, MaxL w -> Calls Tryz.prog 104 #[(pn b), (aTk v), .int .i64 1, .string ⟨#[]⟩] w fun e w' => e = .panicked chainN /\ Below w.heap.size w w' := fun w hm => by
  have h := word_ct b v 1 [] (by decide) hv.2 w hm
  rw [hy] at h
  exact h
 replace cX2 := hid cX2
 have hblt := h.lt
 have H0 := hid (h.alloc oZ)
 have G0 := hid (World.grownBy_alloc w oZ (some b))
 have Q0 := hid (show Blk (w.alloc oZ) w.heap.size 26 rZ from Blk.new rfl)
 have cY := hid (need_yes b)
 have cX := hid (need_no b)
 replace hE := hid hE
 clear h
 go_enter Tryz.func105, Tryz.ntmps105
 go_wp2_with (first
  | (go_at_call 59; (with_reducible refine (cN1.out _ H0.out).mono ?_); rintro e W1 ⟨rfl, hr, hg⟩; unfold tv; have HR1 := hid hr; have HG1 := hid (G0.out.trans hg); have HQ1 := hid (Blk_grown Q0.out hg (by omega)); have hq1 := HQ1.out.lt; clear hr hg)
  | (go_at_call 104; (with_reducible refine (cW.out _ (hE.out.at_ (below_one (HG1.out.trans (World.grownBy_alloc _ (oTk u) (some b))) hblt)).max).mono ?_); rintro e W2 ⟨rfl, hb⟩; have HR2 := hid ((HR1.out.alloc (oTk u)).on hb (HR1.out.alloc (oTk u)).lt); have HG2 := hid ((HG1.out.trans (World.grownBy_alloc _ (oTk u) (some b))).trans (grown_of_below hb (some b))); have HQ2 := hid ((HQ1.out.alloc (oTk u)).below hb (HQ1.out.alloc (oTk u)).lt); have hq2 := HQ2.out.lt; clear hb)
  | (go_at_call 70; (with_reducible refine (cL.out _).mono ?_); rintro e W3 ⟨rfl, hb⟩; have HR3 := hid (HR2.out.on hb HR2.out.lt); have HG3 := hid (HG2.out.trans (grown_of_below hb (some b))); have HQ3 := hid (HQ2.out.below hb HQ2.out.lt); have hq3 := HQ3.out.lt; clear hb)
  | (go_at_call 29; (with_reducible refine (cR.out _ (HR3.out.alloc (oN (bs (lowP x))))).mono ?_); rintro e W4 ⟨rfl, hb⟩; have HR4 := hid ((HR3.out.alloc (oN (bs (lowP x)))).on hb (HR3.out.alloc (oN (bs (lowP x)))).lt); have HG4 := hid ((HG3.out.trans (World.grownBy_alloc _ (oN (bs (lowP x))) (some b))).trans (grown_of_below hb (some b))); have HQ4 := hid ((HQ3.out.alloc (oN (bs (lowP x)))).below hb (HQ3.out.alloc (oN (bs (lowP x)))).lt); have HO4 := hid ((show Blk (W3.alloc (oN (bs (lowP x)))) W3.heap.size 26 (rN (bs (lowP x))) from Blk.new rfl).below hb (show Blk (W3.alloc (oN (bs (lowP x)))) W3.heap.size 26 (rN (bs (lowP x))) from Blk.new rfl).lt); have hq4 := HQ4.out.lt; have ho4 := HO4.out.lt; clear hb)
  | (go_at_call 59; (with_reducible refine (cN2.out _ HR4.out).mono ?_); rintro e W5 ⟨rfl, hr, hg⟩; unfold tv; have HR5 := hid hr; have HG5 := hid (HG4.out.trans hg); have HQ5 := hid (Blk_grown HQ4.out hg (by omega)); have HO5 := hid (Blk_grown HO4.out hg (by omega)); have hq5 := HQ5.out.lt; have ho5 := HO5.out.lt; clear hr hg; have o5c := (HO5.out.alloc (oTk o)).cell; have o5f := (HO5.out.alloc (oTk o)).frozen; have o6c := ((HO5.out.put 2 (.int .u8 ((c.toNat : Nat) : Int))).alloc (oTk o)).cell; have t6c := (Blk.new (w := W5.setCell ⟨W3.heap.size, 2, none⟩ (.int .u8 ((c.toNat : Nat) : Int))) (k := W5.heap.size) (t := 70) (cs := (rTk o)) (by simp [World.setCell])).cell)
  | (go_at_call 30; (with_reducible refine (cY.out _).mono ?_); rintro e WN ⟨rfl, rfl⟩)
  | (go_at_call 59; (with_reducible refine (cV.out _ ((HR5.out.far (p := ⟨W3.heap.size, 2, none⟩) (by dsimp only; omega) (.int .u8 ((c.toNat : Nat) : Int))).alloc (oTk o))).mono ?_); rintro e W8 ⟨rfl, hr, hg⟩; unfold tv; have HR8 := hid hr; have HG8 := hid (((grown_far (p := ⟨W3.heap.size, 2, none⟩) (v := .int .u8 ((c.toNat : Nat) : Int)) HG5.out (by dsimp only; omega)).trans (World.grownBy_alloc _ (oTk o) (some b))).trans hg); have HQ8 := hid (Blk_grown ((HQ5.out.far (p := ⟨W3.heap.size, 2, none⟩) (by dsimp only; omega) (.int .u8 ((c.toNat : Nat) : Int))).alloc (oTk o)) hg (by omega)); have HO8 := hid (Blk_grown ((HO5.out.put 2 (.int .u8 ((c.toNat : Nat) : Int))).alloc (oTk o)) hg (by omega)); have hq8 := HQ8.out.lt; have ho8 := HO8.out.lt; clear hr hg; have o8c := (HO8.out.alloc (oTk v)).cell; have o8f := (HO8.out.alloc (oTk v)).frozen; have t9c := (Blk.new (w := W8.setCell ⟨W3.heap.size, 3, none⟩ (.string (bs v.val))) (k := W8.heap.size) (t := 70) (cs := (rTk v)) (by simp [World.setCell])).cell)
  | (go_at_call 104; (with_reducible refine (cX2.out _ (hE.out.at_ (below_one ((grown_far (p := ⟨W3.heap.size, 3, none⟩) (v := .string (bs v.val)) HG8.out (by dsimp only; omega)).trans (World.grownBy_alloc _ (oTk v) (some b))) hblt)).max).mono ?_); rintro e WX ⟨rfl, hb⟩; have HGX := hid (((grown_far (p := ⟨W3.heap.size, 3, none⟩) (v := .string (bs v.val)) HG8.out (by dsimp only; omega)).trans (World.grownBy_alloc _ (oTk v) (some b))).trans (grown_of_below hb (some b))); clear hb))
 exact ⟨rfl, rfl, HGX.out⟩
theorem attr_eq_name_bad (b : Nat) (u : Tk) (hu : u.k ≠ 0 /\ u.val.length <= 400) (x : Bs) (hx : wordF u 1 [] = some x) (o : Tk) (ho : o.k ≠ 0) (h93 : o.raw ≠ [93]) (h12 : o.k = 12) (c : UInt8) (cr : Bs) (hraw : o.raw = c :: cr) (h61 : c = 61) (v : Tk) (hv : v.k ≠ 0 /\ v.val.length <= 400) (h5 : v.k ≠ 5) (y : Bs) (hy : wordF v 1 [] = some y) (L4 : List Tk) (hz : (headT L4).raw ≠ [93]) (w : World) (h : RdrS w b (u :: o :: (v :: L4))) (hE : EnvS b w) :
  Calls Tryz.prog 105 #[(pn b)] w fun e w' => e = .panicked chainN /\ w.grownBy w' (some b) := by
 have cN1 := hid (fun w h => next_yes b u (o :: (v :: L4)) hu.1 w h)
 have cW : ∀ w, MaxL w -> Calls Tryz.prog 104 #[(pn b), (aTk u), .int .i64 1, .string ⟨#[]⟩] w (rt w (.string (bs x))) := fun w hm => by
  have h := word_ct b u 1 [] (by decide) hu.2 w hm
  rw [hx] at h
  exact h
 replace cW := hid cW
 have cL : ∀ w, Calls Tryz.prog 70 #[.string (bs x)] w (rt w (.string (bs (lowP x)))) := fun w => low_ct (bs x) (by rw [bs_size]; have := word_len hx hu.2; omega) w
 replace cL := hid cL
 have cR := hid (fun w h => raw_no b (o :: (v :: L4)) ⟨#[93]⟩ w h h93)
 clear h93
 have cN2 := hid (fun w h => next_yes b o (v :: L4) ho w h)
 have k12 : (o.k == 12) = true := by rw [h12]; rfl
 have hz9 : 0 < (bs o.raw).size := by rw [bs_size, hraw]; simp
 have hix : (bs o.raw)[0]'hz9 = c := idx_of hraw hz9
 clear h12 hraw
 have k61 : (((c.toNat : Nat) : Int) != 61) = false := by rw [h61]; rfl
 clear h61
 have cV := hid (fun w h => next_yes b v L4 hv.1 w h)
 have k5 : (v.k != 5) = true := by rw [bne, Bool.not_eq_true', beq_eq_false_iff_ne]; exact h5
 clear h5
 have cX2 : ∀ w, MaxL w -> Calls Tryz.prog 104 #[(pn b), (aTk v), .int .i64 1, .string ⟨#[]⟩] w (rt w (.string (bs y))) := fun w hm => by
  have h := word_ct b v 1 [] (by decide) hv.2 w hm
  rw [hy] at h
  exact h
 replace cX2 := hid cX2
 have cZ := hid (fun w h => raw_no b L4 ⟨#[93]⟩ w h hz)
 clear hz
 have hblt := h.lt
 have H0 := hid (h.alloc oZ)
 have G0 := hid (World.grownBy_alloc w oZ (some b))
 have Q0 := hid (show Blk (w.alloc oZ) w.heap.size 26 rZ from Blk.new rfl)
 have cY := hid (need_yes b)
 have cX := hid (need_no b)
 replace hE := hid hE
 clear h
 go_enter Tryz.func105, Tryz.ntmps105
 go_wp2_with (first
  | (go_at_call 59; (with_reducible refine (cN1.out _ H0.out).mono ?_); rintro e W1 ⟨rfl, hr, hg⟩; unfold tv; have HR1 := hid hr; have HG1 := hid (G0.out.trans hg); have HQ1 := hid (Blk_grown Q0.out hg (by omega)); have hq1 := HQ1.out.lt; clear hr hg)
  | (go_at_call 104; (with_reducible refine (cW.out _ (hE.out.at_ (below_one (HG1.out.trans (World.grownBy_alloc _ (oTk u) (some b))) hblt)).max).mono ?_); rintro e W2 ⟨rfl, hb⟩; have HR2 := hid ((HR1.out.alloc (oTk u)).on hb (HR1.out.alloc (oTk u)).lt); have HG2 := hid ((HG1.out.trans (World.grownBy_alloc _ (oTk u) (some b))).trans (grown_of_below hb (some b))); have HQ2 := hid ((HQ1.out.alloc (oTk u)).below hb (HQ1.out.alloc (oTk u)).lt); have hq2 := HQ2.out.lt; clear hb)
  | (go_at_call 70; (with_reducible refine (cL.out _).mono ?_); rintro e W3 ⟨rfl, hb⟩; have HR3 := hid (HR2.out.on hb HR2.out.lt); have HG3 := hid (HG2.out.trans (grown_of_below hb (some b))); have HQ3 := hid (HQ2.out.below hb HQ2.out.lt); have hq3 := HQ3.out.lt; clear hb)
  | (go_at_call 29; (with_reducible refine (cR.out _ (HR3.out.alloc (oN (bs (lowP x))))).mono ?_); rintro e W4 ⟨rfl, hb⟩; have HR4 := hid ((HR3.out.alloc (oN (bs (lowP x)))).on hb (HR3.out.alloc (oN (bs (lowP x)))).lt); have HG4 := hid ((HG3.out.trans (World.grownBy_alloc _ (oN (bs (lowP x))) (some b))).trans (grown_of_below hb (some b))); have HQ4 := hid ((HQ3.out.alloc (oN (bs (lowP x)))).below hb (HQ3.out.alloc (oN (bs (lowP x)))).lt); have HO4 := hid ((show Blk (W3.alloc (oN (bs (lowP x)))) W3.heap.size 26 (rN (bs (lowP x))) from Blk.new rfl).below hb (show Blk (W3.alloc (oN (bs (lowP x)))) W3.heap.size 26 (rN (bs (lowP x))) from Blk.new rfl).lt); have hq4 := HQ4.out.lt; have ho4 := HO4.out.lt; clear hb)
  | (go_at_call 59; (with_reducible refine (cN2.out _ HR4.out).mono ?_); rintro e W5 ⟨rfl, hr, hg⟩; unfold tv; have HR5 := hid hr; have HG5 := hid (HG4.out.trans hg); have HQ5 := hid (Blk_grown HQ4.out hg (by omega)); have HO5 := hid (Blk_grown HO4.out hg (by omega)); have hq5 := HQ5.out.lt; have ho5 := HO5.out.lt; clear hr hg; have o5c := (HO5.out.alloc (oTk o)).cell; have o5f := (HO5.out.alloc (oTk o)).frozen; have o6c := ((HO5.out.put 2 (.int .u8 ((c.toNat : Nat) : Int))).alloc (oTk o)).cell; have t6c := (Blk.new (w := W5.setCell ⟨W3.heap.size, 2, none⟩ (.int .u8 ((c.toNat : Nat) : Int))) (k := W5.heap.size) (t := 70) (cs := (rTk o)) (by simp [World.setCell])).cell)
  | (go_at_call 30; (with_reducible refine (cY.out _).mono ?_); rintro e WN ⟨rfl, rfl⟩)
  | (go_at_call 59; (with_reducible refine (cV.out _ ((HR5.out.far (p := ⟨W3.heap.size, 2, none⟩) (by dsimp only; omega) (.int .u8 ((c.toNat : Nat) : Int))).alloc (oTk o))).mono ?_); rintro e W8 ⟨rfl, hr, hg⟩; unfold tv; have HR8 := hid hr; have HG8 := hid (((grown_far (p := ⟨W3.heap.size, 2, none⟩) (v := .int .u8 ((c.toNat : Nat) : Int)) HG5.out (by dsimp only; omega)).trans (World.grownBy_alloc _ (oTk o) (some b))).trans hg); have HQ8 := hid (Blk_grown ((HQ5.out.far (p := ⟨W3.heap.size, 2, none⟩) (by dsimp only; omega) (.int .u8 ((c.toNat : Nat) : Int))).alloc (oTk o)) hg (by omega)); have HO8 := hid (Blk_grown ((HO5.out.put 2 (.int .u8 ((c.toNat : Nat) : Int))).alloc (oTk o)) hg (by omega)); have hq8 := HQ8.out.lt; have ho8 := HO8.out.lt; clear hr hg; have o8c := (HO8.out.alloc (oTk v)).cell; have o8f := (HO8.out.alloc (oTk v)).frozen; have t9c := (Blk.new (w := W8.setCell ⟨W3.heap.size, 3, none⟩ (.string (bs v.val))) (k := W8.heap.size) (t := 70) (cs := (rTk v)) (by simp [World.setCell])).cell)
  | (go_at_call 104; (with_reducible refine (cX2.out _ (hE.out.at_ (below_one ((grown_far (p := ⟨W3.heap.size, 3, none⟩) (v := .string (bs v.val)) HG8.out (by dsimp only; omega)).trans (World.grownBy_alloc _ (oTk v) (some b))) hblt)).max).mono ?_); rintro e W10 ⟨rfl, hb⟩; have HR10 := hid (((HR8.out.far (p := ⟨W3.heap.size, 3, none⟩) (by dsimp only; omega) (.string (bs v.val))).alloc (oTk v)).on hb ((HR8.out.far (p := ⟨W3.heap.size, 3, none⟩) (by dsimp only; omega) (.string (bs v.val))).alloc (oTk v)).lt); have HG10 := hid (((grown_far (p := ⟨W3.heap.size, 3, none⟩) (v := .string (bs v.val)) HG8.out (by dsimp only; omega)).trans (World.grownBy_alloc _ (oTk v) (some b))).trans (grown_of_below hb (some b))); have HQ10 := hid (((HQ8.out.far (p := ⟨W3.heap.size, 3, none⟩) (by dsimp only; omega) (.string (bs v.val))).alloc (oTk v)).below hb ((HQ8.out.far (p := ⟨W3.heap.size, 3, none⟩) (by dsimp only; omega) (.string (bs v.val))).alloc (oTk v)).lt); have HO10 := hid (((HO8.out.put 3 (.string (bs v.val))).alloc (oTk v)).below hb ((HO8.out.put 3 (.string (bs v.val))).alloc (oTk v)).lt); have hq10 := HQ10.out.lt; have ho10 := HO10.out.lt; clear hb; have o10c := HO10.out.cell; have o10f := HO10.out.frozen)
  | (go_at_call 29; (with_reducible refine (cZ.out _ (HR10.out.far (p := ⟨W3.heap.size, 3, none⟩) (by dsimp only; omega) (.string (bs y)))).mono ?_); rintro e W11 ⟨rfl, hb⟩; have HR11 := hid ((HR10.out.far (p := ⟨W3.heap.size, 3, none⟩) (by dsimp only; omega) (.string (bs y))).on hb (HR10.out.far (p := ⟨W3.heap.size, 3, none⟩) (by dsimp only; omega) (.string (bs y))).lt); have HG11 := hid ((grown_far (p := ⟨W3.heap.size, 3, none⟩) (v := .string (bs y)) HG10.out (by dsimp only; omega)).trans (grown_of_below hb (some b))); have HQ11 := hid ((HQ10.out.far (p := ⟨W3.heap.size, 3, none⟩) (by dsimp only; omega) (.string (bs y))).below hb (HQ10.out.far (p := ⟨W3.heap.size, 3, none⟩) (by dsimp only; omega) (.string (bs y))).lt); have HO11 := hid ((HO10.out.put 3 (.string (bs y))).below hb (HO10.out.put 3 (.string (bs y))).lt); have hq11 := HQ11.out.lt; have ho11 := HO11.out.lt; clear hb)
  | (go_at_call 30; (with_reducible refine (cX.out _).mono ?_); rintro e WN ⟨rfl, rfl⟩))
 exact ⟨rfl, rfl, HG11.out⟩
theorem attr_eq_name_ok (b : Nat) (u : Tk) (hu : u.k ≠ 0 /\ u.val.length <= 400) (x : Bs) (hx : wordF u 1 [] = some x) (o : Tk) (ho : o.k ≠ 0) (h93 : o.raw ≠ [93]) (h12 : o.k = 12) (c : UInt8) (cr : Bs) (hraw : o.raw = c :: cr) (h61 : c = 61) (v : Tk) (hv : v.k ≠ 0 /\ v.val.length <= 400) (h5 : v.k ≠ 5) (y : Bs) (hy : wordF v 1 [] = some y) (z : Tk) (M : List Tk) (hz : z.raw = [93]) (w : World) (h : RdrS w b (u :: o :: (v :: z :: M))) (hE : EnvS b w) :
  Calls Tryz.prog 105 #[(pn b)] w fun e w' => e = .returned (leafV (.mk 5 (lowP x) c y 0 0 [])) /\ RdrS w' b M /\ w.grownBy w' (some b) := by
 have cN1 := hid (fun w h => next_yes b u (o :: (v :: z :: M)) hu.1 w h)
 have cW : ∀ w, MaxL w -> Calls Tryz.prog 104 #[(pn b), (aTk u), .int .i64 1, .string ⟨#[]⟩] w (rt w (.string (bs x))) := fun w hm => by
  have h := word_ct b u 1 [] (by decide) hu.2 w hm
  rw [hx] at h
  exact h
 replace cW := hid cW
 have cL : ∀ w, Calls Tryz.prog 70 #[.string (bs x)] w (rt w (.string (bs (lowP x)))) := fun w => low_ct (bs x) (by rw [bs_size]; have := word_len hx hu.2; omega) w
 replace cL := hid cL
 have cR := hid (fun w h => raw_no b (o :: (v :: z :: M)) ⟨#[93]⟩ w h h93)
 clear h93
 have cN2 := hid (fun w h => next_yes b o (v :: z :: M) ho w h)
 have k12 : (o.k == 12) = true := by rw [h12]; rfl
 have hz9 : 0 < (bs o.raw).size := by rw [bs_size, hraw]; simp
 have hix : (bs o.raw)[0]'hz9 = c := idx_of hraw hz9
 clear h12 hraw
 have k61 : (((c.toNat : Nat) : Int) != 61) = false := by rw [h61]; rfl
 clear h61
 have cV := hid (fun w h => next_yes b v (z :: M) hv.1 w h)
 have k5 : (v.k != 5) = true := by rw [bne, Bool.not_eq_true', beq_eq_false_iff_ne]; exact h5
 clear h5
 have cX2 : ∀ w, MaxL w -> Calls Tryz.prog 104 #[(pn b), (aTk v), .int .i64 1, .string ⟨#[]⟩] w (rt w (.string (bs y))) := fun w hm => by
  have h := word_ct b v 1 [] (by decide) hv.2 w hm
  rw [hy] at h
  exact h
 replace cX2 := hid cX2
 have cZ := hid (fun w h => raw_yes b z M ⟨#[93]⟩ w h hz)
 clear hz
 have hblt := h.lt
 have H0 := hid (h.alloc oZ)
 have G0 := hid (World.grownBy_alloc w oZ (some b))
 have Q0 := hid (show Blk (w.alloc oZ) w.heap.size 26 rZ from Blk.new rfl)
 have cY := hid (need_yes b)
 have cX := hid (need_no b)
 replace hE := hid hE
 clear h
 go_enter Tryz.func105, Tryz.ntmps105
 go_wp2_with (first
  | (go_at_call 59; (with_reducible refine (cN1.out _ H0.out).mono ?_); rintro e W1 ⟨rfl, hr, hg⟩; unfold tv; have HR1 := hid hr; have HG1 := hid (G0.out.trans hg); have HQ1 := hid (Blk_grown Q0.out hg (by omega)); have hq1 := HQ1.out.lt; clear hr hg)
  | (go_at_call 104; (with_reducible refine (cW.out _ (hE.out.at_ (below_one (HG1.out.trans (World.grownBy_alloc _ (oTk u) (some b))) hblt)).max).mono ?_); rintro e W2 ⟨rfl, hb⟩; have HR2 := hid ((HR1.out.alloc (oTk u)).on hb (HR1.out.alloc (oTk u)).lt); have HG2 := hid ((HG1.out.trans (World.grownBy_alloc _ (oTk u) (some b))).trans (grown_of_below hb (some b))); have HQ2 := hid ((HQ1.out.alloc (oTk u)).below hb (HQ1.out.alloc (oTk u)).lt); have hq2 := HQ2.out.lt; clear hb)
  | (go_at_call 70; (with_reducible refine (cL.out _).mono ?_); rintro e W3 ⟨rfl, hb⟩; have HR3 := hid (HR2.out.on hb HR2.out.lt); have HG3 := hid (HG2.out.trans (grown_of_below hb (some b))); have HQ3 := hid (HQ2.out.below hb HQ2.out.lt); have hq3 := HQ3.out.lt; clear hb)
  | (go_at_call 29; (with_reducible refine (cR.out _ (HR3.out.alloc (oN (bs (lowP x))))).mono ?_); rintro e W4 ⟨rfl, hb⟩; have HR4 := hid ((HR3.out.alloc (oN (bs (lowP x)))).on hb (HR3.out.alloc (oN (bs (lowP x)))).lt); have HG4 := hid ((HG3.out.trans (World.grownBy_alloc _ (oN (bs (lowP x))) (some b))).trans (grown_of_below hb (some b))); have HQ4 := hid ((HQ3.out.alloc (oN (bs (lowP x)))).below hb (HQ3.out.alloc (oN (bs (lowP x)))).lt); have HO4 := hid ((show Blk (W3.alloc (oN (bs (lowP x)))) W3.heap.size 26 (rN (bs (lowP x))) from Blk.new rfl).below hb (show Blk (W3.alloc (oN (bs (lowP x)))) W3.heap.size 26 (rN (bs (lowP x))) from Blk.new rfl).lt); have hq4 := HQ4.out.lt; have ho4 := HO4.out.lt; clear hb)
  | (go_at_call 59; (with_reducible refine (cN2.out _ HR4.out).mono ?_); rintro e W5 ⟨rfl, hr, hg⟩; unfold tv; have HR5 := hid hr; have HG5 := hid (HG4.out.trans hg); have HQ5 := hid (Blk_grown HQ4.out hg (by omega)); have HO5 := hid (Blk_grown HO4.out hg (by omega)); have hq5 := HQ5.out.lt; have ho5 := HO5.out.lt; clear hr hg; have o5c := (HO5.out.alloc (oTk o)).cell; have o5f := (HO5.out.alloc (oTk o)).frozen; have o6c := ((HO5.out.put 2 (.int .u8 ((c.toNat : Nat) : Int))).alloc (oTk o)).cell; have t6c := (Blk.new (w := W5.setCell ⟨W3.heap.size, 2, none⟩ (.int .u8 ((c.toNat : Nat) : Int))) (k := W5.heap.size) (t := 70) (cs := (rTk o)) (by simp [World.setCell])).cell)
  | (go_at_call 30; (with_reducible refine (cY.out _).mono ?_); rintro e WN ⟨rfl, rfl⟩)
  | (go_at_call 59; (with_reducible refine (cV.out _ ((HR5.out.far (p := ⟨W3.heap.size, 2, none⟩) (by dsimp only; omega) (.int .u8 ((c.toNat : Nat) : Int))).alloc (oTk o))).mono ?_); rintro e W8 ⟨rfl, hr, hg⟩; unfold tv; have HR8 := hid hr; have HG8 := hid (((grown_far (p := ⟨W3.heap.size, 2, none⟩) (v := .int .u8 ((c.toNat : Nat) : Int)) HG5.out (by dsimp only; omega)).trans (World.grownBy_alloc _ (oTk o) (some b))).trans hg); have HQ8 := hid (Blk_grown ((HQ5.out.far (p := ⟨W3.heap.size, 2, none⟩) (by dsimp only; omega) (.int .u8 ((c.toNat : Nat) : Int))).alloc (oTk o)) hg (by omega)); have HO8 := hid (Blk_grown ((HO5.out.put 2 (.int .u8 ((c.toNat : Nat) : Int))).alloc (oTk o)) hg (by omega)); have hq8 := HQ8.out.lt; have ho8 := HO8.out.lt; clear hr hg; have o8c := (HO8.out.alloc (oTk v)).cell; have o8f := (HO8.out.alloc (oTk v)).frozen; have t9c := (Blk.new (w := W8.setCell ⟨W3.heap.size, 3, none⟩ (.string (bs v.val))) (k := W8.heap.size) (t := 70) (cs := (rTk v)) (by simp [World.setCell])).cell)
  | (go_at_call 104; (with_reducible refine (cX2.out _ (hE.out.at_ (below_one ((grown_far (p := ⟨W3.heap.size, 3, none⟩) (v := .string (bs v.val)) HG8.out (by dsimp only; omega)).trans (World.grownBy_alloc _ (oTk v) (some b))) hblt)).max).mono ?_); rintro e W10 ⟨rfl, hb⟩; have HR10 := hid (((HR8.out.far (p := ⟨W3.heap.size, 3, none⟩) (by dsimp only; omega) (.string (bs v.val))).alloc (oTk v)).on hb ((HR8.out.far (p := ⟨W3.heap.size, 3, none⟩) (by dsimp only; omega) (.string (bs v.val))).alloc (oTk v)).lt); have HG10 := hid (((grown_far (p := ⟨W3.heap.size, 3, none⟩) (v := .string (bs v.val)) HG8.out (by dsimp only; omega)).trans (World.grownBy_alloc _ (oTk v) (some b))).trans (grown_of_below hb (some b))); have HQ10 := hid (((HQ8.out.far (p := ⟨W3.heap.size, 3, none⟩) (by dsimp only; omega) (.string (bs v.val))).alloc (oTk v)).below hb ((HQ8.out.far (p := ⟨W3.heap.size, 3, none⟩) (by dsimp only; omega) (.string (bs v.val))).alloc (oTk v)).lt); have HO10 := hid (((HO8.out.put 3 (.string (bs v.val))).alloc (oTk v)).below hb ((HO8.out.put 3 (.string (bs v.val))).alloc (oTk v)).lt); have hq10 := HQ10.out.lt; have ho10 := HO10.out.lt; clear hb; have o10c := HO10.out.cell; have o10f := HO10.out.frozen)
  | (go_at_call 29; (with_reducible refine (cZ.out _ (HR10.out.far (p := ⟨W3.heap.size, 3, none⟩) (by dsimp only; omega) (.string (bs y)))).mono ?_); rintro e W11 ⟨rfl, hr, hg⟩; have HR11 := hid hr; have HG11 := hid ((grown_far (p := ⟨W3.heap.size, 3, none⟩) (v := .string (bs y)) HG10.out (by dsimp only; omega)).trans hg); have HQ11 := hid (Blk_grown (HQ10.out.far (p := ⟨W3.heap.size, 3, none⟩) (by dsimp only; omega) (.string (bs y))) hg (by omega)); have HO11 := hid (Blk_grown (HO10.out.put 3 (.string (bs y))) hg (by omega)); have hq11 := HQ11.out.lt; have ho11 := HO11.out.lt; clear hr hg; have oc := HO11.out.cell; have qc := HQ11.out.cell; have qf := HQ11.out.frozen)
  | (go_at_call 30; (with_reducible refine (cY.out _).mono ?_); rintro e WN ⟨rfl, rfl⟩))
 have e := Blk.cell (blk_seven HQ11.out (.int .i64 5) (.string (bs (lowP x))) (.int .u8 ((c.toNat : Nat) : Int)) (.string (bs y)) (.int .i64 0) (.int .i64 0) (.slice none 0 0))
 refine bodyPost_ret (v := (aTs 5 (bs (lowP x)) ((c.toNat : Nat) : Int) (bs y) 0 0 none 0 0)) (by simp [results, Tryz.results105, go_sem, e]) rfl ⟨rfl, ?_, ?_⟩
 ·exact HR11.out.seven hblt _ _ _ _ _ _ _
 ·exact grown_seven HG11.out (Nat.le_refl _) _ _ _ _ _ _ _
theorem attr_two_end (b : Nat) (u : Tk) (hu : u.k ≠ 0 /\ u.val.length <= 400) (x : Bs) (hx : wordF u 1 [] = some x) (o : Tk) (ho : o.k ≠ 0) (h93 : o.raw ≠ [93]) (h12 : o.k = 12) (c : UInt8) (cr : Bs) (hraw : o.raw = c :: cr) (h61 : c ≠ 61) (q : Tk) (hq : q.raw = [61]) (w : World) (h : RdrS w b (u :: o :: (q :: []))) (hE : EnvS b w) :
  Calls Tryz.prog 105 #[(pn b)] w fun e w' => e = .panicked chainN /\ w.grownBy w' (some b) := by
 have cN1 := hid (fun w h => next_yes b u (o :: (q :: [])) hu.1 w h)
 have cW : ∀ w, MaxL w -> Calls Tryz.prog 104 #[(pn b), (aTk u), .int .i64 1, .string ⟨#[]⟩] w (rt w (.string (bs x))) := fun w hm => by
  have h := word_ct b u 1 [] (by decide) hu.2 w hm
  rw [hx] at h
  exact h
 replace cW := hid cW
 have cL : ∀ w, Calls Tryz.prog 70 #[.string (bs x)] w (rt w (.string (bs (lowP x)))) := fun w => low_ct (bs x) (by rw [bs_size]; have := word_len hx hu.2; omega) w
 replace cL := hid cL
 have cR := hid (fun w h => raw_no b (o :: (q :: [])) ⟨#[93]⟩ w h h93)
 clear h93
 have cN2 := hid (fun w h => next_yes b o (q :: []) ho w h)
 have k12 : (o.k == 12) = true := by rw [h12]; rfl
 have hz9 : 0 < (bs o.raw).size := by rw [bs_size, hraw]; simp
 have hix : (bs o.raw)[0]'hz9 = c := idx_of hraw hz9
 clear h12 hraw
 have k61 : (((c.toNat : Nat) : Int) != 61) = true := by rw [bne, Bool.not_eq_true', beq_eq_false_iff_ne]; intro e; exact h61 (UInt8.toNat_inj.1 (show c.toNat = 61 by omega))
 clear h61
 have cE := hid (fun w h => raw_yes b q [] ⟨#[61]⟩ w h hq)
 clear hq
 have cV := hid (fun w h => next_no b w h)
 have hblt := h.lt
 have H0 := hid (h.alloc oZ)
 have G0 := hid (World.grownBy_alloc w oZ (some b))
 have Q0 := hid (show Blk (w.alloc oZ) w.heap.size 26 rZ from Blk.new rfl)
 have cY := hid (need_yes b)
 have cX := hid (need_no b)
 replace hE := hid hE
 clear h
 go_enter Tryz.func105, Tryz.ntmps105
 go_wp2_with (first
  | (go_at_call 59; (with_reducible refine (cN1.out _ H0.out).mono ?_); rintro e W1 ⟨rfl, hr, hg⟩; unfold tv; have HR1 := hid hr; have HG1 := hid (G0.out.trans hg); have HQ1 := hid (Blk_grown Q0.out hg (by omega)); have hq1 := HQ1.out.lt; clear hr hg)
  | (go_at_call 104; (with_reducible refine (cW.out _ (hE.out.at_ (below_one (HG1.out.trans (World.grownBy_alloc _ (oTk u) (some b))) hblt)).max).mono ?_); rintro e W2 ⟨rfl, hb⟩; have HR2 := hid ((HR1.out.alloc (oTk u)).on hb (HR1.out.alloc (oTk u)).lt); have HG2 := hid ((HG1.out.trans (World.grownBy_alloc _ (oTk u) (some b))).trans (grown_of_below hb (some b))); have HQ2 := hid ((HQ1.out.alloc (oTk u)).below hb (HQ1.out.alloc (oTk u)).lt); have hq2 := HQ2.out.lt; clear hb)
  | (go_at_call 70; (with_reducible refine (cL.out _).mono ?_); rintro e W3 ⟨rfl, hb⟩; have HR3 := hid (HR2.out.on hb HR2.out.lt); have HG3 := hid (HG2.out.trans (grown_of_below hb (some b))); have HQ3 := hid (HQ2.out.below hb HQ2.out.lt); have hq3 := HQ3.out.lt; clear hb)
  | (go_at_call 29; (with_reducible refine (cR.out _ (HR3.out.alloc (oN (bs (lowP x))))).mono ?_); rintro e W4 ⟨rfl, hb⟩; have HR4 := hid ((HR3.out.alloc (oN (bs (lowP x)))).on hb (HR3.out.alloc (oN (bs (lowP x)))).lt); have HG4 := hid ((HG3.out.trans (World.grownBy_alloc _ (oN (bs (lowP x))) (some b))).trans (grown_of_below hb (some b))); have HQ4 := hid ((HQ3.out.alloc (oN (bs (lowP x)))).below hb (HQ3.out.alloc (oN (bs (lowP x)))).lt); have HO4 := hid ((show Blk (W3.alloc (oN (bs (lowP x)))) W3.heap.size 26 (rN (bs (lowP x))) from Blk.new rfl).below hb (show Blk (W3.alloc (oN (bs (lowP x)))) W3.heap.size 26 (rN (bs (lowP x))) from Blk.new rfl).lt); have hq4 := HQ4.out.lt; have ho4 := HO4.out.lt; clear hb)
  | (go_at_call 59; (with_reducible refine (cN2.out _ HR4.out).mono ?_); rintro e W5 ⟨rfl, hr, hg⟩; unfold tv; have HR5 := hid hr; have HG5 := hid (HG4.out.trans hg); have HQ5 := hid (Blk_grown HQ4.out hg (by omega)); have HO5 := hid (Blk_grown HO4.out hg (by omega)); have hq5 := HQ5.out.lt; have ho5 := HO5.out.lt; clear hr hg; have o5c := (HO5.out.alloc (oTk o)).cell; have o5f := (HO5.out.alloc (oTk o)).frozen; have o6c := ((HO5.out.put 2 (.int .u8 ((c.toNat : Nat) : Int))).alloc (oTk o)).cell; have t6c := (Blk.new (w := W5.setCell ⟨W3.heap.size, 2, none⟩ (.int .u8 ((c.toNat : Nat) : Int))) (k := W5.heap.size) (t := 70) (cs := (rTk o)) (by simp [World.setCell])).cell)
  | (go_at_call 30; (with_reducible refine (cY.out _).mono ?_); rintro e WN ⟨rfl, rfl⟩)
  | (go_at_call 29; (with_reducible refine (cE.out _ ((HR5.out.far (p := ⟨W3.heap.size, 2, none⟩) (by dsimp only; omega) (.int .u8 ((c.toNat : Nat) : Int))).alloc (oTk o))).mono ?_); rintro e W7 ⟨rfl, hr, hg⟩; have HR7 := hid hr; have HG7 := hid (((grown_far (p := ⟨W3.heap.size, 2, none⟩) (v := .int .u8 ((c.toNat : Nat) : Int)) HG5.out (by dsimp only; omega)).trans (World.grownBy_alloc _ (oTk o) (some b))).trans hg); have HQ7 := hid (Blk_grown ((HQ5.out.far (p := ⟨W3.heap.size, 2, none⟩) (by dsimp only; omega) (.int .u8 ((c.toNat : Nat) : Int))).alloc (oTk o)) hg (by omega)); have HO7 := hid (Blk_grown ((HO5.out.put 2 (.int .u8 ((c.toNat : Nat) : Int))).alloc (oTk o)) hg (by omega)); have hq7 := HQ7.out.lt; have ho7 := HO7.out.lt; clear hr hg)
  | (go_at_call 30; (with_reducible refine (cY.out _).mono ?_); rintro e WN ⟨rfl, rfl⟩)
  | (go_at_call 59; (with_reducible refine (cV.out _ HR7.out).mono ?_); rintro e WX ⟨rfl, hg⟩; have HGX := hid (HG7.out.trans hg); clear hg))
 exact ⟨rfl, rfl, HGX.out⟩
theorem attr_two_text_bad (b : Nat) (u : Tk) (hu : u.k ≠ 0 /\ u.val.length <= 400) (x : Bs) (hx : wordF u 1 [] = some x) (o : Tk) (ho : o.k ≠ 0) (h93 : o.raw ≠ [93]) (h12 : o.k = 12) (c : UInt8) (cr : Bs) (hraw : o.raw = c :: cr) (h61 : c ≠ 61) (q : Tk) (hq : q.raw = [61]) (v : Tk) (hv : v.k ≠ 0 /\ v.val.length <= 400) (h5 : v.k = 5) (L4 : List Tk) (hz : (headT L4).raw ≠ [93]) (w : World) (h : RdrS w b (u :: o :: (q :: (v :: L4)))) (hE : EnvS b w) :
  Calls Tryz.prog 105 #[(pn b)] w fun e w' => e = .panicked chainN /\ w.grownBy w' (some b) := by
 have cN1 := hid (fun w h => next_yes b u (o :: (q :: (v :: L4))) hu.1 w h)
 have cW : ∀ w, MaxL w -> Calls Tryz.prog 104 #[(pn b), (aTk u), .int .i64 1, .string ⟨#[]⟩] w (rt w (.string (bs x))) := fun w hm => by
  have h := word_ct b u 1 [] (by decide) hu.2 w hm
  rw [hx] at h
  exact h
 replace cW := hid cW
 have cL : ∀ w, Calls Tryz.prog 70 #[.string (bs x)] w (rt w (.string (bs (lowP x)))) := fun w => low_ct (bs x) (by rw [bs_size]; have := word_len hx hu.2; omega) w
 replace cL := hid cL
 have cR := hid (fun w h => raw_no b (o :: (q :: (v :: L4))) ⟨#[93]⟩ w h h93)
 clear h93
 have cN2 := hid (fun w h => next_yes b o (q :: (v :: L4)) ho w h)
 have k12 : (o.k == 12) = true := by rw [h12]; rfl
 have hz9 : 0 < (bs o.raw).size := by rw [bs_size, hraw]; simp
 have hix : (bs o.raw)[0]'hz9 = c := idx_of hraw hz9
 clear h12 hraw
 have k61 : (((c.toNat : Nat) : Int) != 61) = true := by rw [bne, Bool.not_eq_true', beq_eq_false_iff_ne]; intro e; exact h61 (UInt8.toNat_inj.1 (show c.toNat = 61 by omega))
 clear h61
 have cE := hid (fun w h => raw_yes b q (v :: L4) ⟨#[61]⟩ w h hq)
 clear hq
 have cV := hid (fun w h => next_yes b v L4 hv.1 w h)
 have k5 : (v.k != 5) = false := by rw [h5]; rfl
 clear h5
 have cZ := hid (fun w h => raw_no b L4 ⟨#[93]⟩ w h hz)
 clear hz
 have hblt := h.lt
 have H0 := hid (h.alloc oZ)
 have G0 := hid (World.grownBy_alloc w oZ (some b))
 have Q0 := hid (show Blk (w.alloc oZ) w.heap.size 26 rZ from Blk.new rfl)
 have cY := hid (need_yes b)
 have cX := hid (need_no b)
 replace hE := hid hE
 clear h
 go_enter Tryz.func105, Tryz.ntmps105
 go_wp2_with (first
  | (go_at_call 59; (with_reducible refine (cN1.out _ H0.out).mono ?_); rintro e W1 ⟨rfl, hr, hg⟩; unfold tv; have HR1 := hid hr; have HG1 := hid (G0.out.trans hg); have HQ1 := hid (Blk_grown Q0.out hg (by omega)); have hq1 := HQ1.out.lt; clear hr hg)
  | (go_at_call 104; (with_reducible refine (cW.out _ (hE.out.at_ (below_one (HG1.out.trans (World.grownBy_alloc _ (oTk u) (some b))) hblt)).max).mono ?_); rintro e W2 ⟨rfl, hb⟩; have HR2 := hid ((HR1.out.alloc (oTk u)).on hb (HR1.out.alloc (oTk u)).lt); have HG2 := hid ((HG1.out.trans (World.grownBy_alloc _ (oTk u) (some b))).trans (grown_of_below hb (some b))); have HQ2 := hid ((HQ1.out.alloc (oTk u)).below hb (HQ1.out.alloc (oTk u)).lt); have hq2 := HQ2.out.lt; clear hb)
  | (go_at_call 70; (with_reducible refine (cL.out _).mono ?_); rintro e W3 ⟨rfl, hb⟩; have HR3 := hid (HR2.out.on hb HR2.out.lt); have HG3 := hid (HG2.out.trans (grown_of_below hb (some b))); have HQ3 := hid (HQ2.out.below hb HQ2.out.lt); have hq3 := HQ3.out.lt; clear hb)
  | (go_at_call 29; (with_reducible refine (cR.out _ (HR3.out.alloc (oN (bs (lowP x))))).mono ?_); rintro e W4 ⟨rfl, hb⟩; have HR4 := hid ((HR3.out.alloc (oN (bs (lowP x)))).on hb (HR3.out.alloc (oN (bs (lowP x)))).lt); have HG4 := hid ((HG3.out.trans (World.grownBy_alloc _ (oN (bs (lowP x))) (some b))).trans (grown_of_below hb (some b))); have HQ4 := hid ((HQ3.out.alloc (oN (bs (lowP x)))).below hb (HQ3.out.alloc (oN (bs (lowP x)))).lt); have HO4 := hid ((show Blk (W3.alloc (oN (bs (lowP x)))) W3.heap.size 26 (rN (bs (lowP x))) from Blk.new rfl).below hb (show Blk (W3.alloc (oN (bs (lowP x)))) W3.heap.size 26 (rN (bs (lowP x))) from Blk.new rfl).lt); have hq4 := HQ4.out.lt; have ho4 := HO4.out.lt; clear hb)
  | (go_at_call 59; (with_reducible refine (cN2.out _ HR4.out).mono ?_); rintro e W5 ⟨rfl, hr, hg⟩; unfold tv; have HR5 := hid hr; have HG5 := hid (HG4.out.trans hg); have HQ5 := hid (Blk_grown HQ4.out hg (by omega)); have HO5 := hid (Blk_grown HO4.out hg (by omega)); have hq5 := HQ5.out.lt; have ho5 := HO5.out.lt; clear hr hg; have o5c := (HO5.out.alloc (oTk o)).cell; have o5f := (HO5.out.alloc (oTk o)).frozen; have o6c := ((HO5.out.put 2 (.int .u8 ((c.toNat : Nat) : Int))).alloc (oTk o)).cell; have t6c := (Blk.new (w := W5.setCell ⟨W3.heap.size, 2, none⟩ (.int .u8 ((c.toNat : Nat) : Int))) (k := W5.heap.size) (t := 70) (cs := (rTk o)) (by simp [World.setCell])).cell)
  | (go_at_call 30; (with_reducible refine (cY.out _).mono ?_); rintro e WN ⟨rfl, rfl⟩)
  | (go_at_call 29; (with_reducible refine (cE.out _ ((HR5.out.far (p := ⟨W3.heap.size, 2, none⟩) (by dsimp only; omega) (.int .u8 ((c.toNat : Nat) : Int))).alloc (oTk o))).mono ?_); rintro e W7 ⟨rfl, hr, hg⟩; have HR7 := hid hr; have HG7 := hid (((grown_far (p := ⟨W3.heap.size, 2, none⟩) (v := .int .u8 ((c.toNat : Nat) : Int)) HG5.out (by dsimp only; omega)).trans (World.grownBy_alloc _ (oTk o) (some b))).trans hg); have HQ7 := hid (Blk_grown ((HQ5.out.far (p := ⟨W3.heap.size, 2, none⟩) (by dsimp only; omega) (.int .u8 ((c.toNat : Nat) : Int))).alloc (oTk o)) hg (by omega)); have HO7 := hid (Blk_grown ((HO5.out.put 2 (.int .u8 ((c.toNat : Nat) : Int))).alloc (oTk o)) hg (by omega)); have hq7 := HQ7.out.lt; have ho7 := HO7.out.lt; clear hr hg)
  | (go_at_call 30; (with_reducible refine (cY.out _).mono ?_); rintro e WN ⟨rfl, rfl⟩)
  | (go_at_call 59; (with_reducible refine (cV.out _ HR7.out).mono ?_); rintro e W8 ⟨rfl, hr, hg⟩; unfold tv; have HR8 := hid hr; have HG8 := hid (HG7.out.trans hg); have HQ8 := hid (Blk_grown HQ7.out hg (by omega)); have HO8 := hid (Blk_grown HO7.out hg (by omega)); have hq8 := HQ8.out.lt; have ho8 := HO8.out.lt; clear hr hg; have o8c := (HO8.out.alloc (oTk v)).cell; have o8f := (HO8.out.alloc (oTk v)).frozen; have t9c := (Blk.new (w := W8.setCell ⟨W3.heap.size, 3, none⟩ (.string (bs v.val))) (k := W8.heap.size) (t := 70) (cs := (rTk v)) (by simp [World.setCell])).cell)
  | (go_at_call 29; (with_reducible refine (cZ.out _ ((HR8.out.far (p := ⟨W3.heap.size, 3, none⟩) (by dsimp only; omega) (.string (bs v.val))).alloc (oTk v))).mono ?_); rintro e W11 ⟨rfl, hb⟩; have HR11 := hid (((HR8.out.far (p := ⟨W3.heap.size, 3, none⟩) (by dsimp only; omega) (.string (bs v.val))).alloc (oTk v)).on hb ((HR8.out.far (p := ⟨W3.heap.size, 3, none⟩) (by dsimp only; omega) (.string (bs v.val))).alloc (oTk v)).lt); have HG11 := hid (((grown_far (p := ⟨W3.heap.size, 3, none⟩) (v := .string (bs v.val)) HG8.out (by dsimp only; omega)).trans (World.grownBy_alloc _ (oTk v) (some b))).trans (grown_of_below hb (some b))); have HQ11 := hid (((HQ8.out.far (p := ⟨W3.heap.size, 3, none⟩) (by dsimp only; omega) (.string (bs v.val))).alloc (oTk v)).below hb ((HQ8.out.far (p := ⟨W3.heap.size, 3, none⟩) (by dsimp only; omega) (.string (bs v.val))).alloc (oTk v)).lt); have HO11 := hid (((HO8.out.put 3 (.string (bs v.val))).alloc (oTk v)).below hb ((HO8.out.put 3 (.string (bs v.val))).alloc (oTk v)).lt); have hq11 := HQ11.out.lt; have ho11 := HO11.out.lt; clear hb)
  | (go_at_call 30; (with_reducible refine (cX.out _).mono ?_); rintro e WN ⟨rfl, rfl⟩))
 exact ⟨rfl, rfl, HG11.out⟩
theorem attr_two_text_ok (b : Nat) (u : Tk) (hu : u.k ≠ 0 /\ u.val.length <= 400) (x : Bs) (hx : wordF u 1 [] = some x) (o : Tk) (ho : o.k ≠ 0) (h93 : o.raw ≠ [93]) (h12 : o.k = 12) (c : UInt8) (cr : Bs) (hraw : o.raw = c :: cr) (h61 : c ≠ 61) (q : Tk) (hq : q.raw = [61]) (v : Tk) (hv : v.k ≠ 0 /\ v.val.length <= 400) (h5 : v.k = 5) (z : Tk) (M : List Tk) (hz : z.raw = [93]) (w : World) (h : RdrS w b (u :: o :: (q :: (v :: z :: M)))) (hE : EnvS b w) :
  Calls Tryz.prog 105 #[(pn b)] w fun e w' => e = .returned (leafV (.mk 5 (lowP x) c v.val 0 0 [])) /\ RdrS w' b M /\ w.grownBy w' (some b) := by
 have cN1 := hid (fun w h => next_yes b u (o :: (q :: (v :: z :: M))) hu.1 w h)
 have cW : ∀ w, MaxL w -> Calls Tryz.prog 104 #[(pn b), (aTk u), .int .i64 1, .string ⟨#[]⟩] w (rt w (.string (bs x))) := fun w hm => by
  have h := word_ct b u 1 [] (by decide) hu.2 w hm
  rw [hx] at h
  exact h
 replace cW := hid cW
 have cL : ∀ w, Calls Tryz.prog 70 #[.string (bs x)] w (rt w (.string (bs (lowP x)))) := fun w => low_ct (bs x) (by rw [bs_size]; have := word_len hx hu.2; omega) w
 replace cL := hid cL
 have cR := hid (fun w h => raw_no b (o :: (q :: (v :: z :: M))) ⟨#[93]⟩ w h h93)
 clear h93
 have cN2 := hid (fun w h => next_yes b o (q :: (v :: z :: M)) ho w h)
 have k12 : (o.k == 12) = true := by rw [h12]; rfl
 have hz9 : 0 < (bs o.raw).size := by rw [bs_size, hraw]; simp
 have hix : (bs o.raw)[0]'hz9 = c := idx_of hraw hz9
 clear h12 hraw
 have k61 : (((c.toNat : Nat) : Int) != 61) = true := by rw [bne, Bool.not_eq_true', beq_eq_false_iff_ne]; intro e; exact h61 (UInt8.toNat_inj.1 (show c.toNat = 61 by omega))
 clear h61
 have cE := hid (fun w h => raw_yes b q (v :: z :: M) ⟨#[61]⟩ w h hq)
 clear hq
 have cV := hid (fun w h => next_yes b v (z :: M) hv.1 w h)
 have k5 : (v.k != 5) = false := by rw [h5]; rfl
 clear h5
 have cZ := hid (fun w h => raw_yes b z M ⟨#[93]⟩ w h hz)
 clear hz
 have hblt := h.lt
 have H0 := hid (h.alloc oZ)
 have G0 := hid (World.grownBy_alloc w oZ (some b))
 have Q0 := hid (show Blk (w.alloc oZ) w.heap.size 26 rZ from Blk.new rfl)
 have cY := hid (need_yes b)
 have cX := hid (need_no b)
 replace hE := hid hE
 clear h
 go_enter Tryz.func105, Tryz.ntmps105
 go_wp2_with (first
  | (go_at_call 59; (with_reducible refine (cN1.out _ H0.out).mono ?_); rintro e W1 ⟨rfl, hr, hg⟩; unfold tv; have HR1 := hid hr; have HG1 := hid (G0.out.trans hg); have HQ1 := hid (Blk_grown Q0.out hg (by omega)); have hq1 := HQ1.out.lt; clear hr hg)
  | (go_at_call 104; (with_reducible refine (cW.out _ (hE.out.at_ (below_one (HG1.out.trans (World.grownBy_alloc _ (oTk u) (some b))) hblt)).max).mono ?_); rintro e W2 ⟨rfl, hb⟩; have HR2 := hid ((HR1.out.alloc (oTk u)).on hb (HR1.out.alloc (oTk u)).lt); have HG2 := hid ((HG1.out.trans (World.grownBy_alloc _ (oTk u) (some b))).trans (grown_of_below hb (some b))); have HQ2 := hid ((HQ1.out.alloc (oTk u)).below hb (HQ1.out.alloc (oTk u)).lt); have hq2 := HQ2.out.lt; clear hb)
  | (go_at_call 70; (with_reducible refine (cL.out _).mono ?_); rintro e W3 ⟨rfl, hb⟩; have HR3 := hid (HR2.out.on hb HR2.out.lt); have HG3 := hid (HG2.out.trans (grown_of_below hb (some b))); have HQ3 := hid (HQ2.out.below hb HQ2.out.lt); have hq3 := HQ3.out.lt; clear hb)
  | (go_at_call 29; (with_reducible refine (cR.out _ (HR3.out.alloc (oN (bs (lowP x))))).mono ?_); rintro e W4 ⟨rfl, hb⟩; have HR4 := hid ((HR3.out.alloc (oN (bs (lowP x)))).on hb (HR3.out.alloc (oN (bs (lowP x)))).lt); have HG4 := hid ((HG3.out.trans (World.grownBy_alloc _ (oN (bs (lowP x))) (some b))).trans (grown_of_below hb (some b))); have HQ4 := hid ((HQ3.out.alloc (oN (bs (lowP x)))).below hb (HQ3.out.alloc (oN (bs (lowP x)))).lt); have HO4 := hid ((show Blk (W3.alloc (oN (bs (lowP x)))) W3.heap.size 26 (rN (bs (lowP x))) from Blk.new rfl).below hb (show Blk (W3.alloc (oN (bs (lowP x)))) W3.heap.size 26 (rN (bs (lowP x))) from Blk.new rfl).lt); have hq4 := HQ4.out.lt; have ho4 := HO4.out.lt; clear hb)
  | (go_at_call 59; (with_reducible refine (cN2.out _ HR4.out).mono ?_); rintro e W5 ⟨rfl, hr, hg⟩; unfold tv; have HR5 := hid hr; have HG5 := hid (HG4.out.trans hg); have HQ5 := hid (Blk_grown HQ4.out hg (by omega)); have HO5 := hid (Blk_grown HO4.out hg (by omega)); have hq5 := HQ5.out.lt; have ho5 := HO5.out.lt; clear hr hg; have o5c := (HO5.out.alloc (oTk o)).cell; have o5f := (HO5.out.alloc (oTk o)).frozen; have o6c := ((HO5.out.put 2 (.int .u8 ((c.toNat : Nat) : Int))).alloc (oTk o)).cell; have t6c := (Blk.new (w := W5.setCell ⟨W3.heap.size, 2, none⟩ (.int .u8 ((c.toNat : Nat) : Int))) (k := W5.heap.size) (t := 70) (cs := (rTk o)) (by simp [World.setCell])).cell)
  | (go_at_call 30; (with_reducible refine (cY.out _).mono ?_); rintro e WN ⟨rfl, rfl⟩)
  | (go_at_call 29; (with_reducible refine (cE.out _ ((HR5.out.far (p := ⟨W3.heap.size, 2, none⟩) (by dsimp only; omega) (.int .u8 ((c.toNat : Nat) : Int))).alloc (oTk o))).mono ?_); rintro e W7 ⟨rfl, hr, hg⟩; have HR7 := hid hr; have HG7 := hid (((grown_far (p := ⟨W3.heap.size, 2, none⟩) (v := .int .u8 ((c.toNat : Nat) : Int)) HG5.out (by dsimp only; omega)).trans (World.grownBy_alloc _ (oTk o) (some b))).trans hg); have HQ7 := hid (Blk_grown ((HQ5.out.far (p := ⟨W3.heap.size, 2, none⟩) (by dsimp only; omega) (.int .u8 ((c.toNat : Nat) : Int))).alloc (oTk o)) hg (by omega)); have HO7 := hid (Blk_grown ((HO5.out.put 2 (.int .u8 ((c.toNat : Nat) : Int))).alloc (oTk o)) hg (by omega)); have hq7 := HQ7.out.lt; have ho7 := HO7.out.lt; clear hr hg)
  | (go_at_call 30; (with_reducible refine (cY.out _).mono ?_); rintro e WN ⟨rfl, rfl⟩)
  | (go_at_call 59; (with_reducible refine (cV.out _ HR7.out).mono ?_); rintro e W8 ⟨rfl, hr, hg⟩; unfold tv; have HR8 := hid hr; have HG8 := hid (HG7.out.trans hg); have HQ8 := hid (Blk_grown HQ7.out hg (by omega)); have HO8 := hid (Blk_grown HO7.out hg (by omega)); have hq8 := HQ8.out.lt; have ho8 := HO8.out.lt; clear hr hg; have o8c := (HO8.out.alloc (oTk v)).cell; have o8f := (HO8.out.alloc (oTk v)).frozen; have t9c := (Blk.new (w := W8.setCell ⟨W3.heap.size, 3, none⟩ (.string (bs v.val))) (k := W8.heap.size) (t := 70) (cs := (rTk v)) (by simp [World.setCell])).cell)
  | (go_at_call 29; (with_reducible refine (cZ.out _ ((HR8.out.far (p := ⟨W3.heap.size, 3, none⟩) (by dsimp only; omega) (.string (bs v.val))).alloc (oTk v))).mono ?_); rintro e W11 ⟨rfl, hr, hg⟩; have HR11 := hid hr; have HG11 := hid (((grown_far (p := ⟨W3.heap.size, 3, none⟩) (v := .string (bs v.val)) HG8.out (by dsimp only; omega)).trans (World.grownBy_alloc _ (oTk v) (some b))).trans hg); have HQ11 := hid (Blk_grown ((HQ8.out.far (p := ⟨W3.heap.size, 3, none⟩) (by dsimp only; omega) (.string (bs v.val))).alloc (oTk v)) hg (by omega)); have HO11 := hid (Blk_grown ((HO8.out.put 3 (.string (bs v.val))).alloc (oTk v)) hg (by omega)); have hq11 := HQ11.out.lt; have ho11 := HO11.out.lt; clear hr hg; have oc := HO11.out.cell; have qc := HQ11.out.cell; have qf := HQ11.out.frozen)
  | (go_at_call 30; (with_reducible refine (cY.out _).mono ?_); rintro e WN ⟨rfl, rfl⟩))
 have e := Blk.cell (blk_seven HQ11.out (.int .i64 5) (.string (bs (lowP x))) (.int .u8 ((c.toNat : Nat) : Int)) (.string (bs v.val)) (.int .i64 0) (.int .i64 0) (.slice none 0 0))
 refine bodyPost_ret (v := (aTs 5 (bs (lowP x)) ((c.toNat : Nat) : Int) (bs v.val) 0 0 none 0 0)) (by simp [results, Tryz.results105, go_sem, e]) rfl ⟨rfl, ?_, ?_⟩
 ·exact HR11.out.seven hblt _ _ _ _ _ _ _
 ·exact grown_seven HG11.out (Nat.le_refl _) _ _ _ _ _ _ _
theorem attr_two_word (b : Nat) (u : Tk) (hu : u.k ≠ 0 /\ u.val.length <= 400) (x : Bs) (hx : wordF u 1 [] = some x) (o : Tk) (ho : o.k ≠ 0) (h93 : o.raw ≠ [93]) (h12 : o.k = 12) (c : UInt8) (cr : Bs) (hraw : o.raw = c :: cr) (h61 : c ≠ 61) (q : Tk) (hq : q.raw = [61]) (v : Tk) (hv : v.k ≠ 0 /\ v.val.length <= 400) (h5 : v.k ≠ 5) (hy : wordF v 1 [] = none) (L4 : List Tk) (w : World) (h : RdrS w b (u :: o :: (q :: (v :: L4)))) (hE : EnvS b w) :
  Calls Tryz.prog 105 #[(pn b)] w fun e w' => e = .panicked chainN /\ w.grownBy w' (some b) := by
 have cN1 := hid (fun w h => next_yes b u (o :: (q :: (v :: L4))) hu.1 w h)
 have cW : ∀ w, MaxL w -> Calls Tryz.prog 104 #[(pn b), (aTk u), .int .i64 1, .string ⟨#[]⟩] w (rt w (.string (bs x))) := fun w hm => by
  have h := word_ct b u 1 [] (by decide) hu.2 w hm
  rw [hx] at h
  exact h
 replace cW := hid cW
 have cL : ∀ w, Calls Tryz.prog 70 #[.string (bs x)] w (rt w (.string (bs (lowP x)))) := fun w => low_ct (bs x) (by rw [bs_size]; have := word_len hx hu.2; omega) w
 replace cL := hid cL
 have cR := hid (fun w h => raw_no b (o :: (q :: (v :: L4))) ⟨#[93]⟩ w h h93)
 clear h93
 have cN2 := hid (fun w h => next_yes b o (q :: (v :: L4)) ho w h)
 have k12 : (o.k == 12) = true := by rw [h12]; rfl
 have hz9 : 0 < (bs o.raw).size := by rw [bs_size, hraw]; simp
 have hix : (bs o.raw)[0]'hz9 = c := idx_of hraw hz9
 clear h12 hraw
 have k61 : (((c.toNat : Nat) : Int) != 61) = true := by rw [bne, Bool.not_eq_true', beq_eq_false_iff_ne]; intro e; exact h61 (UInt8.toNat_inj.1 (show c.toNat = 61 by omega))
 clear h61
 have cE := hid (fun w h => raw_yes b q (v :: L4) ⟨#[61]⟩ w h hq)
 clear hq
 have cV := hid (fun w h => next_yes b v L4 hv.1 w h)
 have k5 : (v.k != 5) = true := by rw [bne, Bool.not_eq_true', beq_eq_false_iff_ne]; exact h5
 clear h5
 have cX2 : ∀ w, MaxL w -> Calls Tryz.prog 104 #[(pn b), (aTk v), .int .i64 1, .string ⟨#[]⟩] w fun e w' => e = .panicked chainN /\ Below w.heap.size w w' := fun w hm => by
  have h := word_ct b v 1 [] (by decide) hv.2 w hm
  rw [hy] at h
  exact h
 replace cX2 := hid cX2
 have hblt := h.lt
 have H0 := hid (h.alloc oZ)
 have G0 := hid (World.grownBy_alloc w oZ (some b))
 have Q0 := hid (show Blk (w.alloc oZ) w.heap.size 26 rZ from Blk.new rfl)
 have cY := hid (need_yes b)
 have cX := hid (need_no b)
 replace hE := hid hE
 clear h
 go_enter Tryz.func105, Tryz.ntmps105
 go_wp2_with (first
  | (go_at_call 59; (with_reducible refine (cN1.out _ H0.out).mono ?_); rintro e W1 ⟨rfl, hr, hg⟩; unfold tv; have HR1 := hid hr; have HG1 := hid (G0.out.trans hg); have HQ1 := hid (Blk_grown Q0.out hg (by omega)); have hq1 := HQ1.out.lt; clear hr hg)
  | (go_at_call 104; (with_reducible refine (cW.out _ (hE.out.at_ (below_one (HG1.out.trans (World.grownBy_alloc _ (oTk u) (some b))) hblt)).max).mono ?_); rintro e W2 ⟨rfl, hb⟩; have HR2 := hid ((HR1.out.alloc (oTk u)).on hb (HR1.out.alloc (oTk u)).lt); have HG2 := hid ((HG1.out.trans (World.grownBy_alloc _ (oTk u) (some b))).trans (grown_of_below hb (some b))); have HQ2 := hid ((HQ1.out.alloc (oTk u)).below hb (HQ1.out.alloc (oTk u)).lt); have hq2 := HQ2.out.lt; clear hb)
  | (go_at_call 70; (with_reducible refine (cL.out _).mono ?_); rintro e W3 ⟨rfl, hb⟩; have HR3 := hid (HR2.out.on hb HR2.out.lt); have HG3 := hid (HG2.out.trans (grown_of_below hb (some b))); have HQ3 := hid (HQ2.out.below hb HQ2.out.lt); have hq3 := HQ3.out.lt; clear hb)
  | (go_at_call 29; (with_reducible refine (cR.out _ (HR3.out.alloc (oN (bs (lowP x))))).mono ?_); rintro e W4 ⟨rfl, hb⟩; have HR4 := hid ((HR3.out.alloc (oN (bs (lowP x)))).on hb (HR3.out.alloc (oN (bs (lowP x)))).lt); have HG4 := hid ((HG3.out.trans (World.grownBy_alloc _ (oN (bs (lowP x))) (some b))).trans (grown_of_below hb (some b))); have HQ4 := hid ((HQ3.out.alloc (oN (bs (lowP x)))).below hb (HQ3.out.alloc (oN (bs (lowP x)))).lt); have HO4 := hid ((show Blk (W3.alloc (oN (bs (lowP x)))) W3.heap.size 26 (rN (bs (lowP x))) from Blk.new rfl).below hb (show Blk (W3.alloc (oN (bs (lowP x)))) W3.heap.size 26 (rN (bs (lowP x))) from Blk.new rfl).lt); have hq4 := HQ4.out.lt; have ho4 := HO4.out.lt; clear hb)
  | (go_at_call 59; (with_reducible refine (cN2.out _ HR4.out).mono ?_); rintro e W5 ⟨rfl, hr, hg⟩; unfold tv; have HR5 := hid hr; have HG5 := hid (HG4.out.trans hg); have HQ5 := hid (Blk_grown HQ4.out hg (by omega)); have HO5 := hid (Blk_grown HO4.out hg (by omega)); have hq5 := HQ5.out.lt; have ho5 := HO5.out.lt; clear hr hg; have o5c := (HO5.out.alloc (oTk o)).cell; have o5f := (HO5.out.alloc (oTk o)).frozen; have o6c := ((HO5.out.put 2 (.int .u8 ((c.toNat : Nat) : Int))).alloc (oTk o)).cell; have t6c := (Blk.new (w := W5.setCell ⟨W3.heap.size, 2, none⟩ (.int .u8 ((c.toNat : Nat) : Int))) (k := W5.heap.size) (t := 70) (cs := (rTk o)) (by simp [World.setCell])).cell)
  | (go_at_call 30; (with_reducible refine (cY.out _).mono ?_); rintro e WN ⟨rfl, rfl⟩)
  | (go_at_call 29; (with_reducible refine (cE.out _ ((HR5.out.far (p := ⟨W3.heap.size, 2, none⟩) (by dsimp only; omega) (.int .u8 ((c.toNat : Nat) : Int))).alloc (oTk o))).mono ?_); rintro e W7 ⟨rfl, hr, hg⟩; have HR7 := hid hr; have HG7 := hid (((grown_far (p := ⟨W3.heap.size, 2, none⟩) (v := .int .u8 ((c.toNat : Nat) : Int)) HG5.out (by dsimp only; omega)).trans (World.grownBy_alloc _ (oTk o) (some b))).trans hg); have HQ7 := hid (Blk_grown ((HQ5.out.far (p := ⟨W3.heap.size, 2, none⟩) (by dsimp only; omega) (.int .u8 ((c.toNat : Nat) : Int))).alloc (oTk o)) hg (by omega)); have HO7 := hid (Blk_grown ((HO5.out.put 2 (.int .u8 ((c.toNat : Nat) : Int))).alloc (oTk o)) hg (by omega)); have hq7 := HQ7.out.lt; have ho7 := HO7.out.lt; clear hr hg)
  | (go_at_call 30; (with_reducible refine (cY.out _).mono ?_); rintro e WN ⟨rfl, rfl⟩)
  | (go_at_call 59; (with_reducible refine (cV.out _ HR7.out).mono ?_); rintro e W8 ⟨rfl, hr, hg⟩; unfold tv; have HR8 := hid hr; have HG8 := hid (HG7.out.trans hg); have HQ8 := hid (Blk_grown HQ7.out hg (by omega)); have HO8 := hid (Blk_grown HO7.out hg (by omega)); have hq8 := HQ8.out.lt; have ho8 := HO8.out.lt; clear hr hg; have o8c := (HO8.out.alloc (oTk v)).cell; have o8f := (HO8.out.alloc (oTk v)).frozen; have t9c := (Blk.new (w := W8.setCell ⟨W3.heap.size, 3, none⟩ (.string (bs v.val))) (k := W8.heap.size) (t := 70) (cs := (rTk v)) (by simp [World.setCell])).cell)
  | (go_at_call 104; (with_reducible refine (cX2.out _ (hE.out.at_ (below_one ((grown_far (p := ⟨W3.heap.size, 3, none⟩) (v := .string (bs v.val)) HG8.out (by dsimp only; omega)).trans (World.grownBy_alloc _ (oTk v) (some b))) hblt)).max).mono ?_); rintro e WX ⟨rfl, hb⟩; have HGX := hid (((grown_far (p := ⟨W3.heap.size, 3, none⟩) (v := .string (bs v.val)) HG8.out (by dsimp only; omega)).trans (World.grownBy_alloc _ (oTk v) (some b))).trans (grown_of_below hb (some b))); clear hb))
 exact ⟨rfl, rfl, HGX.out⟩
theorem attr_two_name_bad (b : Nat) (u : Tk) (hu : u.k ≠ 0 /\ u.val.length <= 400) (x : Bs) (hx : wordF u 1 [] = some x) (o : Tk) (ho : o.k ≠ 0) (h93 : o.raw ≠ [93]) (h12 : o.k = 12) (c : UInt8) (cr : Bs) (hraw : o.raw = c :: cr) (h61 : c ≠ 61) (q : Tk) (hq : q.raw = [61]) (v : Tk) (hv : v.k ≠ 0 /\ v.val.length <= 400) (h5 : v.k ≠ 5) (y : Bs) (hy : wordF v 1 [] = some y) (L4 : List Tk) (hz : (headT L4).raw ≠ [93]) (w : World) (h : RdrS w b (u :: o :: (q :: (v :: L4)))) (hE : EnvS b w) :
  Calls Tryz.prog 105 #[(pn b)] w fun e w' => e = .panicked chainN /\ w.grownBy w' (some b) := by
 have cN1 := hid (fun w h => next_yes b u (o :: (q :: (v :: L4))) hu.1 w h)
 have cW : ∀ w, MaxL w -> Calls Tryz.prog 104 #[(pn b), (aTk u), .int .i64 1, .string ⟨#[]⟩] w (rt w (.string (bs x))) := fun w hm => by
  have h := word_ct b u 1 [] (by decide) hu.2 w hm
  rw [hx] at h
  exact h
 replace cW := hid cW
 have cL : ∀ w, Calls Tryz.prog 70 #[.string (bs x)] w (rt w (.string (bs (lowP x)))) := fun w => low_ct (bs x) (by rw [bs_size]; have := word_len hx hu.2; omega) w
 replace cL := hid cL
 have cR := hid (fun w h => raw_no b (o :: (q :: (v :: L4))) ⟨#[93]⟩ w h h93)
 clear h93
 have cN2 := hid (fun w h => next_yes b o (q :: (v :: L4)) ho w h)
 have k12 : (o.k == 12) = true := by rw [h12]; rfl
 have hz9 : 0 < (bs o.raw).size := by rw [bs_size, hraw]; simp
 have hix : (bs o.raw)[0]'hz9 = c := idx_of hraw hz9
 clear h12 hraw
 have k61 : (((c.toNat : Nat) : Int) != 61) = true := by rw [bne, Bool.not_eq_true', beq_eq_false_iff_ne]; intro e; exact h61 (UInt8.toNat_inj.1 (show c.toNat = 61 by omega))
 clear h61
 have cE := hid (fun w h => raw_yes b q (v :: L4) ⟨#[61]⟩ w h hq)
 clear hq
 have cV := hid (fun w h => next_yes b v L4 hv.1 w h)
 have k5 : (v.k != 5) = true := by rw [bne, Bool.not_eq_true', beq_eq_false_iff_ne]; exact h5
 clear h5
 have cX2 : ∀ w, MaxL w -> Calls Tryz.prog 104 #[(pn b), (aTk v), .int .i64 1, .string ⟨#[]⟩] w (rt w (.string (bs y))) := fun w hm => by
  have h := word_ct b v 1 [] (by decide) hv.2 w hm
  rw [hy] at h
  exact h
 replace cX2 := hid cX2
 have cZ := hid (fun w h => raw_no b L4 ⟨#[93]⟩ w h hz)
 clear hz
 have hblt := h.lt
 have H0 := hid (h.alloc oZ)
 have G0 := hid (World.grownBy_alloc w oZ (some b))
 have Q0 := hid (show Blk (w.alloc oZ) w.heap.size 26 rZ from Blk.new rfl)
 have cY := hid (need_yes b)
 have cX := hid (need_no b)
 replace hE := hid hE
 clear h
 go_enter Tryz.func105, Tryz.ntmps105
 go_wp2_with (first
  | (go_at_call 59; (with_reducible refine (cN1.out _ H0.out).mono ?_); rintro e W1 ⟨rfl, hr, hg⟩; unfold tv; have HR1 := hid hr; have HG1 := hid (G0.out.trans hg); have HQ1 := hid (Blk_grown Q0.out hg (by omega)); have hq1 := HQ1.out.lt; clear hr hg)
  | (go_at_call 104; (with_reducible refine (cW.out _ (hE.out.at_ (below_one (HG1.out.trans (World.grownBy_alloc _ (oTk u) (some b))) hblt)).max).mono ?_); rintro e W2 ⟨rfl, hb⟩; have HR2 := hid ((HR1.out.alloc (oTk u)).on hb (HR1.out.alloc (oTk u)).lt); have HG2 := hid ((HG1.out.trans (World.grownBy_alloc _ (oTk u) (some b))).trans (grown_of_below hb (some b))); have HQ2 := hid ((HQ1.out.alloc (oTk u)).below hb (HQ1.out.alloc (oTk u)).lt); have hq2 := HQ2.out.lt; clear hb)
  | (go_at_call 70; (with_reducible refine (cL.out _).mono ?_); rintro e W3 ⟨rfl, hb⟩; have HR3 := hid (HR2.out.on hb HR2.out.lt); have HG3 := hid (HG2.out.trans (grown_of_below hb (some b))); have HQ3 := hid (HQ2.out.below hb HQ2.out.lt); have hq3 := HQ3.out.lt; clear hb)
  | (go_at_call 29; (with_reducible refine (cR.out _ (HR3.out.alloc (oN (bs (lowP x))))).mono ?_); rintro e W4 ⟨rfl, hb⟩; have HR4 := hid ((HR3.out.alloc (oN (bs (lowP x)))).on hb (HR3.out.alloc (oN (bs (lowP x)))).lt); have HG4 := hid ((HG3.out.trans (World.grownBy_alloc _ (oN (bs (lowP x))) (some b))).trans (grown_of_below hb (some b))); have HQ4 := hid ((HQ3.out.alloc (oN (bs (lowP x)))).below hb (HQ3.out.alloc (oN (bs (lowP x)))).lt); have HO4 := hid ((show Blk (W3.alloc (oN (bs (lowP x)))) W3.heap.size 26 (rN (bs (lowP x))) from Blk.new rfl).below hb (show Blk (W3.alloc (oN (bs (lowP x)))) W3.heap.size 26 (rN (bs (lowP x))) from Blk.new rfl).lt); have hq4 := HQ4.out.lt; have ho4 := HO4.out.lt; clear hb)
  | (go_at_call 59; (with_reducible refine (cN2.out _ HR4.out).mono ?_); rintro e W5 ⟨rfl, hr, hg⟩; unfold tv; have HR5 := hid hr; have HG5 := hid (HG4.out.trans hg); have HQ5 := hid (Blk_grown HQ4.out hg (by omega)); have HO5 := hid (Blk_grown HO4.out hg (by omega)); have hq5 := HQ5.out.lt; have ho5 := HO5.out.lt; clear hr hg; have o5c := (HO5.out.alloc (oTk o)).cell; have o5f := (HO5.out.alloc (oTk o)).frozen; have o6c := ((HO5.out.put 2 (.int .u8 ((c.toNat : Nat) : Int))).alloc (oTk o)).cell; have t6c := (Blk.new (w := W5.setCell ⟨W3.heap.size, 2, none⟩ (.int .u8 ((c.toNat : Nat) : Int))) (k := W5.heap.size) (t := 70) (cs := (rTk o)) (by simp [World.setCell])).cell)
  | (go_at_call 30; (with_reducible refine (cY.out _).mono ?_); rintro e WN ⟨rfl, rfl⟩)
  | (go_at_call 29; (with_reducible refine (cE.out _ ((HR5.out.far (p := ⟨W3.heap.size, 2, none⟩) (by dsimp only; omega) (.int .u8 ((c.toNat : Nat) : Int))).alloc (oTk o))).mono ?_); rintro e W7 ⟨rfl, hr, hg⟩; have HR7 := hid hr; have HG7 := hid (((grown_far (p := ⟨W3.heap.size, 2, none⟩) (v := .int .u8 ((c.toNat : Nat) : Int)) HG5.out (by dsimp only; omega)).trans (World.grownBy_alloc _ (oTk o) (some b))).trans hg); have HQ7 := hid (Blk_grown ((HQ5.out.far (p := ⟨W3.heap.size, 2, none⟩) (by dsimp only; omega) (.int .u8 ((c.toNat : Nat) : Int))).alloc (oTk o)) hg (by omega)); have HO7 := hid (Blk_grown ((HO5.out.put 2 (.int .u8 ((c.toNat : Nat) : Int))).alloc (oTk o)) hg (by omega)); have hq7 := HQ7.out.lt; have ho7 := HO7.out.lt; clear hr hg)
  | (go_at_call 30; (with_reducible refine (cY.out _).mono ?_); rintro e WN ⟨rfl, rfl⟩)
  | (go_at_call 59; (with_reducible refine (cV.out _ HR7.out).mono ?_); rintro e W8 ⟨rfl, hr, hg⟩; unfold tv; have HR8 := hid hr; have HG8 := hid (HG7.out.trans hg); have HQ8 := hid (Blk_grown HQ7.out hg (by omega)); have HO8 := hid (Blk_grown HO7.out hg (by omega)); have hq8 := HQ8.out.lt; have ho8 := HO8.out.lt; clear hr hg; have o8c := (HO8.out.alloc (oTk v)).cell; have o8f := (HO8.out.alloc (oTk v)).frozen; have t9c := (Blk.new (w := W8.setCell ⟨W3.heap.size, 3, none⟩ (.string (bs v.val))) (k := W8.heap.size) (t := 70) (cs := (rTk v)) (by simp [World.setCell])).cell)
  | (go_at_call 104; (with_reducible refine (cX2.out _ (hE.out.at_ (below_one ((grown_far (p := ⟨W3.heap.size, 3, none⟩) (v := .string (bs v.val)) HG8.out (by dsimp only; omega)).trans (World.grownBy_alloc _ (oTk v) (some b))) hblt)).max).mono ?_); rintro e W10 ⟨rfl, hb⟩; have HR10 := hid (((HR8.out.far (p := ⟨W3.heap.size, 3, none⟩) (by dsimp only; omega) (.string (bs v.val))).alloc (oTk v)).on hb ((HR8.out.far (p := ⟨W3.heap.size, 3, none⟩) (by dsimp only; omega) (.string (bs v.val))).alloc (oTk v)).lt); have HG10 := hid (((grown_far (p := ⟨W3.heap.size, 3, none⟩) (v := .string (bs v.val)) HG8.out (by dsimp only; omega)).trans (World.grownBy_alloc _ (oTk v) (some b))).trans (grown_of_below hb (some b))); have HQ10 := hid (((HQ8.out.far (p := ⟨W3.heap.size, 3, none⟩) (by dsimp only; omega) (.string (bs v.val))).alloc (oTk v)).below hb ((HQ8.out.far (p := ⟨W3.heap.size, 3, none⟩) (by dsimp only; omega) (.string (bs v.val))).alloc (oTk v)).lt); have HO10 := hid (((HO8.out.put 3 (.string (bs v.val))).alloc (oTk v)).below hb ((HO8.out.put 3 (.string (bs v.val))).alloc (oTk v)).lt); have hq10 := HQ10.out.lt; have ho10 := HO10.out.lt; clear hb; have o10c := HO10.out.cell; have o10f := HO10.out.frozen)
  | (go_at_call 29; (with_reducible refine (cZ.out _ (HR10.out.far (p := ⟨W3.heap.size, 3, none⟩) (by dsimp only; omega) (.string (bs y)))).mono ?_); rintro e W11 ⟨rfl, hb⟩; have HR11 := hid ((HR10.out.far (p := ⟨W3.heap.size, 3, none⟩) (by dsimp only; omega) (.string (bs y))).on hb (HR10.out.far (p := ⟨W3.heap.size, 3, none⟩) (by dsimp only; omega) (.string (bs y))).lt); have HG11 := hid ((grown_far (p := ⟨W3.heap.size, 3, none⟩) (v := .string (bs y)) HG10.out (by dsimp only; omega)).trans (grown_of_below hb (some b))); have HQ11 := hid ((HQ10.out.far (p := ⟨W3.heap.size, 3, none⟩) (by dsimp only; omega) (.string (bs y))).below hb (HQ10.out.far (p := ⟨W3.heap.size, 3, none⟩) (by dsimp only; omega) (.string (bs y))).lt); have HO11 := hid ((HO10.out.put 3 (.string (bs y))).below hb (HO10.out.put 3 (.string (bs y))).lt); have hq11 := HQ11.out.lt; have ho11 := HO11.out.lt; clear hb)
  | (go_at_call 30; (with_reducible refine (cX.out _).mono ?_); rintro e WN ⟨rfl, rfl⟩))
 exact ⟨rfl, rfl, HG11.out⟩
theorem attr_two_name_ok (b : Nat) (u : Tk) (hu : u.k ≠ 0 /\ u.val.length <= 400) (x : Bs) (hx : wordF u 1 [] = some x) (o : Tk) (ho : o.k ≠ 0) (h93 : o.raw ≠ [93]) (h12 : o.k = 12) (c : UInt8) (cr : Bs) (hraw : o.raw = c :: cr) (h61 : c ≠ 61) (q : Tk) (hq : q.raw = [61]) (v : Tk) (hv : v.k ≠ 0 /\ v.val.length <= 400) (h5 : v.k ≠ 5) (y : Bs) (hy : wordF v 1 [] = some y) (z : Tk) (M : List Tk) (hz : z.raw = [93]) (w : World) (h : RdrS w b (u :: o :: (q :: (v :: z :: M)))) (hE : EnvS b w) :
  Calls Tryz.prog 105 #[(pn b)] w fun e w' => e = .returned (leafV (.mk 5 (lowP x) c y 0 0 [])) /\ RdrS w' b M /\ w.grownBy w' (some b) := by
 have cN1 := hid (fun w h => next_yes b u (o :: (q :: (v :: z :: M))) hu.1 w h)
 have cW : ∀ w, MaxL w -> Calls Tryz.prog 104 #[(pn b), (aTk u), .int .i64 1, .string ⟨#[]⟩] w (rt w (.string (bs x))) := fun w hm => by
  have h := word_ct b u 1 [] (by decide) hu.2 w hm
  rw [hx] at h
  exact h
 replace cW := hid cW
 have cL : ∀ w, Calls Tryz.prog 70 #[.string (bs x)] w (rt w (.string (bs (lowP x)))) := fun w => low_ct (bs x) (by rw [bs_size]; have := word_len hx hu.2; omega) w
 replace cL := hid cL
 have cR := hid (fun w h => raw_no b (o :: (q :: (v :: z :: M))) ⟨#[93]⟩ w h h93)
 clear h93
 have cN2 := hid (fun w h => next_yes b o (q :: (v :: z :: M)) ho w h)
 have k12 : (o.k == 12) = true := by rw [h12]; rfl
 have hz9 : 0 < (bs o.raw).size := by rw [bs_size, hraw]; simp
 have hix : (bs o.raw)[0]'hz9 = c := idx_of hraw hz9
 clear h12 hraw
 have k61 : (((c.toNat : Nat) : Int) != 61) = true := by rw [bne, Bool.not_eq_true', beq_eq_false_iff_ne]; intro e; exact h61 (UInt8.toNat_inj.1 (show c.toNat = 61 by omega))
 clear h61
 have cE := hid (fun w h => raw_yes b q (v :: z :: M) ⟨#[61]⟩ w h hq)
 clear hq
 have cV := hid (fun w h => next_yes b v (z :: M) hv.1 w h)
 have k5 : (v.k != 5) = true := by rw [bne, Bool.not_eq_true', beq_eq_false_iff_ne]; exact h5
 clear h5
 have cX2 : ∀ w, MaxL w -> Calls Tryz.prog 104 #[(pn b), (aTk v), .int .i64 1, .string ⟨#[]⟩] w (rt w (.string (bs y))) := fun w hm => by
  have h := word_ct b v 1 [] (by decide) hv.2 w hm
  rw [hy] at h
  exact h
 replace cX2 := hid cX2
 have cZ := hid (fun w h => raw_yes b z M ⟨#[93]⟩ w h hz)
 clear hz
 have hblt := h.lt
 have H0 := hid (h.alloc oZ)
 have G0 := hid (World.grownBy_alloc w oZ (some b))
 have Q0 := hid (show Blk (w.alloc oZ) w.heap.size 26 rZ from Blk.new rfl)
 have cY := hid (need_yes b)
 have cX := hid (need_no b)
 replace hE := hid hE
 clear h
 go_enter Tryz.func105, Tryz.ntmps105
 go_wp2_with (first
  | (go_at_call 59; (with_reducible refine (cN1.out _ H0.out).mono ?_); rintro e W1 ⟨rfl, hr, hg⟩; unfold tv; have HR1 := hid hr; have HG1 := hid (G0.out.trans hg); have HQ1 := hid (Blk_grown Q0.out hg (by omega)); have hq1 := HQ1.out.lt; clear hr hg)
  | (go_at_call 104; (with_reducible refine (cW.out _ (hE.out.at_ (below_one (HG1.out.trans (World.grownBy_alloc _ (oTk u) (some b))) hblt)).max).mono ?_); rintro e W2 ⟨rfl, hb⟩; have HR2 := hid ((HR1.out.alloc (oTk u)).on hb (HR1.out.alloc (oTk u)).lt); have HG2 := hid ((HG1.out.trans (World.grownBy_alloc _ (oTk u) (some b))).trans (grown_of_below hb (some b))); have HQ2 := hid ((HQ1.out.alloc (oTk u)).below hb (HQ1.out.alloc (oTk u)).lt); have hq2 := HQ2.out.lt; clear hb)
  | (go_at_call 70; (with_reducible refine (cL.out _).mono ?_); rintro e W3 ⟨rfl, hb⟩; have HR3 := hid (HR2.out.on hb HR2.out.lt); have HG3 := hid (HG2.out.trans (grown_of_below hb (some b))); have HQ3 := hid (HQ2.out.below hb HQ2.out.lt); have hq3 := HQ3.out.lt; clear hb)
  | (go_at_call 29; (with_reducible refine (cR.out _ (HR3.out.alloc (oN (bs (lowP x))))).mono ?_); rintro e W4 ⟨rfl, hb⟩; have HR4 := hid ((HR3.out.alloc (oN (bs (lowP x)))).on hb (HR3.out.alloc (oN (bs (lowP x)))).lt); have HG4 := hid ((HG3.out.trans (World.grownBy_alloc _ (oN (bs (lowP x))) (some b))).trans (grown_of_below hb (some b))); have HQ4 := hid ((HQ3.out.alloc (oN (bs (lowP x)))).below hb (HQ3.out.alloc (oN (bs (lowP x)))).lt); have HO4 := hid ((show Blk (W3.alloc (oN (bs (lowP x)))) W3.heap.size 26 (rN (bs (lowP x))) from Blk.new rfl).below hb (show Blk (W3.alloc (oN (bs (lowP x)))) W3.heap.size 26 (rN (bs (lowP x))) from Blk.new rfl).lt); have hq4 := HQ4.out.lt; have ho4 := HO4.out.lt; clear hb)
  | (go_at_call 59; (with_reducible refine (cN2.out _ HR4.out).mono ?_); rintro e W5 ⟨rfl, hr, hg⟩; unfold tv; have HR5 := hid hr; have HG5 := hid (HG4.out.trans hg); have HQ5 := hid (Blk_grown HQ4.out hg (by omega)); have HO5 := hid (Blk_grown HO4.out hg (by omega)); have hq5 := HQ5.out.lt; have ho5 := HO5.out.lt; clear hr hg; have o5c := (HO5.out.alloc (oTk o)).cell; have o5f := (HO5.out.alloc (oTk o)).frozen; have o6c := ((HO5.out.put 2 (.int .u8 ((c.toNat : Nat) : Int))).alloc (oTk o)).cell; have t6c := (Blk.new (w := W5.setCell ⟨W3.heap.size, 2, none⟩ (.int .u8 ((c.toNat : Nat) : Int))) (k := W5.heap.size) (t := 70) (cs := (rTk o)) (by simp [World.setCell])).cell)
  | (go_at_call 30; (with_reducible refine (cY.out _).mono ?_); rintro e WN ⟨rfl, rfl⟩)
  | (go_at_call 29; (with_reducible refine (cE.out _ ((HR5.out.far (p := ⟨W3.heap.size, 2, none⟩) (by dsimp only; omega) (.int .u8 ((c.toNat : Nat) : Int))).alloc (oTk o))).mono ?_); rintro e W7 ⟨rfl, hr, hg⟩; have HR7 := hid hr; have HG7 := hid (((grown_far (p := ⟨W3.heap.size, 2, none⟩) (v := .int .u8 ((c.toNat : Nat) : Int)) HG5.out (by dsimp only; omega)).trans (World.grownBy_alloc _ (oTk o) (some b))).trans hg); have HQ7 := hid (Blk_grown ((HQ5.out.far (p := ⟨W3.heap.size, 2, none⟩) (by dsimp only; omega) (.int .u8 ((c.toNat : Nat) : Int))).alloc (oTk o)) hg (by omega)); have HO7 := hid (Blk_grown ((HO5.out.put 2 (.int .u8 ((c.toNat : Nat) : Int))).alloc (oTk o)) hg (by omega)); have hq7 := HQ7.out.lt; have ho7 := HO7.out.lt; clear hr hg)
  | (go_at_call 30; (with_reducible refine (cY.out _).mono ?_); rintro e WN ⟨rfl, rfl⟩)
  | (go_at_call 59; (with_reducible refine (cV.out _ HR7.out).mono ?_); rintro e W8 ⟨rfl, hr, hg⟩; unfold tv; have HR8 := hid hr; have HG8 := hid (HG7.out.trans hg); have HQ8 := hid (Blk_grown HQ7.out hg (by omega)); have HO8 := hid (Blk_grown HO7.out hg (by omega)); have hq8 := HQ8.out.lt; have ho8 := HO8.out.lt; clear hr hg; have o8c := (HO8.out.alloc (oTk v)).cell; have o8f := (HO8.out.alloc (oTk v)).frozen; have t9c := (Blk.new (w := W8.setCell ⟨W3.heap.size, 3, none⟩ (.string (bs v.val))) (k := W8.heap.size) (t := 70) (cs := (rTk v)) (by simp [World.setCell])).cell)
  | (go_at_call 104; (with_reducible refine (cX2.out _ (hE.out.at_ (below_one ((grown_far (p := ⟨W3.heap.size, 3, none⟩) (v := .string (bs v.val)) HG8.out (by dsimp only; omega)).trans (World.grownBy_alloc _ (oTk v) (some b))) hblt)).max).mono ?_); rintro e W10 ⟨rfl, hb⟩; have HR10 := hid (((HR8.out.far (p := ⟨W3.heap.size, 3, none⟩) (by dsimp only; omega) (.string (bs v.val))).alloc (oTk v)).on hb ((HR8.out.far (p := ⟨W3.heap.size, 3, none⟩) (by dsimp only; omega) (.string (bs v.val))).alloc (oTk v)).lt); have HG10 := hid (((grown_far (p := ⟨W3.heap.size, 3, none⟩) (v := .string (bs v.val)) HG8.out (by dsimp only; omega)).trans (World.grownBy_alloc _ (oTk v) (some b))).trans (grown_of_below hb (some b))); have HQ10 := hid (((HQ8.out.far (p := ⟨W3.heap.size, 3, none⟩) (by dsimp only; omega) (.string (bs v.val))).alloc (oTk v)).below hb ((HQ8.out.far (p := ⟨W3.heap.size, 3, none⟩) (by dsimp only; omega) (.string (bs v.val))).alloc (oTk v)).lt); have HO10 := hid (((HO8.out.put 3 (.string (bs v.val))).alloc (oTk v)).below hb ((HO8.out.put 3 (.string (bs v.val))).alloc (oTk v)).lt); have hq10 := HQ10.out.lt; have ho10 := HO10.out.lt; clear hb; have o10c := HO10.out.cell; have o10f := HO10.out.frozen)
  | (go_at_call 29; (with_reducible refine (cZ.out _ (HR10.out.far (p := ⟨W3.heap.size, 3, none⟩) (by dsimp only; omega) (.string (bs y)))).mono ?_); rintro e W11 ⟨rfl, hr, hg⟩; have HR11 := hid hr; have HG11 := hid ((grown_far (p := ⟨W3.heap.size, 3, none⟩) (v := .string (bs y)) HG10.out (by dsimp only; omega)).trans hg); have HQ11 := hid (Blk_grown (HQ10.out.far (p := ⟨W3.heap.size, 3, none⟩) (by dsimp only; omega) (.string (bs y))) hg (by omega)); have HO11 := hid (Blk_grown (HO10.out.put 3 (.string (bs y))) hg (by omega)); have hq11 := HQ11.out.lt; have ho11 := HO11.out.lt; clear hr hg; have oc := HO11.out.cell; have qc := HQ11.out.cell; have qf := HQ11.out.frozen)
  | (go_at_call 30; (with_reducible refine (cY.out _).mono ?_); rintro e WN ⟨rfl, rfl⟩))
 have e := Blk.cell (blk_seven HQ11.out (.int .i64 5) (.string (bs (lowP x))) (.int .u8 ((c.toNat : Nat) : Int)) (.string (bs y)) (.int .i64 0) (.int .i64 0) (.slice none 0 0))
 refine bodyPost_ret (v := (aTs 5 (bs (lowP x)) ((c.toNat : Nat) : Int) (bs y) 0 0 none 0 0)) (by simp [results, Tryz.results105, go_sem, e]) rfl ⟨rfl, ?_, ?_⟩
 ·exact HR11.out.seven hblt _ _ _ _ _ _ _
 ·exact grown_seven HG11.out (Nat.le_refl _) _ _ _ _ _ _ _
end sel
end Go.Proofs.YtaobpkffcolobaaGreatDoor
