/- Contracts and plain law, a bundle. -/
import Derived.Lib.Hide
import Derived.Test.YtaobpkffcolobaaGreatDoorBE
set_option linter.unusedVariables false
set_option maxRecDepth 100000
set_option maxHeartbeats 16000000
open Go.Lib (hid)
namespace Go.Proofs.YtaobpkffcolobaaGreatDoor
namespace sel
open Go.RowKit base tok rul
theorem attr_ct (b : Nat) (L : List Tk) (hg : GoodS L) (w : World) (h : RdrS w b L) (hE : EnvS b w) : Calls Tryz.prog 105 #[(pn b)] w (RetA b w (attrF L)) := by
 cases L with
 | nil => exact (attr_nil b w h hE).mono fun e w' h => h
 | cons u L1 =>
  have hu := hg.2 u (List.mem_cons_self ..)
  have hu2 : u.k ≠ 0 /\ u.val.length <= 400 := ⟨hu.1, hu.2.2.2⟩
  rw [attrF]
  cases hx : wordF u 1 [] with
  | none =>
   rw [Option.bind_none]
   exact (attr_word b u L1 hu2 hx w h hE).mono fun e w' h => h
  | some x =>
   rw [Option.bind_some]
   cases L1 with
   | nil => exact (attr_end b u hu2 x hx w h hE).mono fun e w' h => h
   | cons o L2 =>
    have ho := hg.tail.2 o (List.mem_cons_self ..)
    have hg2 := hg.tail.tail
    rw [rawF]
    by_cases h93 : o.raw = [93]
    ·rw [if_pos h93]
     exact (attr_name b u (o :: L2) hu2 x hx o L2 rfl h93 w h hE).mono fun e w' h => h
    ·rw [if_neg h93]
     simp only
     by_cases h12 : o.k = 12
     ·rw [if_pos h12]
      cases hraw : o.raw with
      | nil => exact absurd hraw ho.2.1
      | cons c cr =>
       simp only
       by_cases h61 : c = 61
       ·rw [if_pos h61]
        have hgv := hg2
        cases L2 with
        | nil =>
         rw [attrV]
         exact (attr_eq_end b u hu2 x hx o ho.1 h93 h12 c cr hraw h61 w h hE).mono fun e w' h => h
        | cons v L4 =>
         have hv := (hgv.2 v (List.mem_cons_self ..))
         have hv2 : v.k ≠ 0 /\ v.val.length <= 400 := ⟨hv.1, hv.2.2.2⟩
         rw [attrV]
         by_cases h5 : v.k = 5
         ·rw [if_pos h5, Option.bind_some]
          cases L4 with
          | nil =>
           rw [rawF, Option.map_none]
           exact (attr_eq_text_bad b u hu2 x hx o ho.1 h93 h12 c cr hraw h61 v hv2 h5 [] (by decide) w h hE).mono fun e w' h => h
          | cons z M =>
           rw [rawF]
           by_cases hz : z.raw = [93]
           ·rw [if_pos hz, Option.map_some]
            exact (attr_eq_text_ok b u hu2 x hx o ho.1 h93 h12 c cr hraw h61 v hv2 h5 z M hz w h hE).mono fun e w' h => h
           ·rw [if_neg hz, Option.map_none]
            exact (attr_eq_text_bad b u hu2 x hx o ho.1 h93 h12 c cr hraw h61 v hv2 h5 (z :: M) hz w h hE).mono fun e w' h => h
         ·rw [if_neg h5]
          cases hy : wordF v 1 [] with
          | none =>
           rw [Option.bind_none]
           exact (attr_eq_word b u hu2 x hx o ho.1 h93 h12 c cr hraw h61 v hv2 h5 hy L4 w h hE).mono fun e w' h => h
          | some y =>
           rw [Option.bind_some]
           cases L4 with
           | nil =>
            rw [rawF, Option.map_none]
            exact (attr_eq_name_bad b u hu2 x hx o ho.1 h93 h12 c cr hraw h61 v hv2 h5 y hy [] (by decide) w h hE).mono fun e w' h => h
           | cons z M =>
            rw [rawF]
            by_cases hz : z.raw = [93]
            ·rw [if_pos hz, Option.map_some]
             exact (attr_eq_name_ok b u hu2 x hx o ho.1 h93 h12 c cr hraw h61 v hv2 h5 y hy z M hz w h hE).mono fun e w' h => h
            ·rw [if_neg hz, Option.map_none]
             exact (attr_eq_name_bad b u hu2 x hx o ho.1 h93 h12 c cr hraw h61 v hv2 h5 y hy (z :: M) hz w h hE).mono fun e w' h => h
       ·rw [if_neg h61]
        cases L2 with
        | nil =>
         rw [rawF, Option.bind_none]
         exact (attr_noeq b u hu2 x hx o ho.1 h93 h12 c cr hraw h61 [] (by decide) w h hE).mono fun e w' h => h
        | cons q L3 =>
         rw [rawF]
         by_cases hq : q.raw = [61]
         ·rw [if_pos hq, Option.bind_some]
          have hgv := hg2.tail
          cases L3 with
          | nil =>
           rw [attrV]
           exact (attr_two_end b u hu2 x hx o ho.1 h93 h12 c cr hraw h61 q hq w h hE).mono fun e w' h => h
          | cons v L4 =>
           have hv := (hgv.2 v (List.mem_cons_self ..))
           have hv2 : v.k ≠ 0 /\ v.val.length <= 400 := ⟨hv.1, hv.2.2.2⟩
           rw [attrV]
           by_cases h5 : v.k = 5
           ·rw [if_pos h5, Option.bind_some]
            cases L4 with
            | nil =>
             rw [rawF, Option.map_none]
             exact (attr_two_text_bad b u hu2 x hx o ho.1 h93 h12 c cr hraw h61 q hq v hv2 h5 [] (by decide) w h hE).mono fun e w' h => h
            | cons z M =>
             rw [rawF]
             by_cases hz : z.raw = [93]
             ·rw [if_pos hz, Option.map_some]
              exact (attr_two_text_ok b u hu2 x hx o ho.1 h93 h12 c cr hraw h61 q hq v hv2 h5 z M hz w h hE).mono fun e w' h => h
             ·rw [if_neg hz, Option.map_none]
              exact (attr_two_text_bad b u hu2 x hx o ho.1 h93 h12 c cr hraw h61 q hq v hv2 h5 (z :: M) hz w h hE).mono fun e w' h => h
           ·rw [if_neg h5]
            cases hy : wordF v 1 [] with
            | none =>
             rw [Option.bind_none]
             exact (attr_two_word b u hu2 x hx o ho.1 h93 h12 c cr hraw h61 q hq v hv2 h5 hy L4 w h hE).mono fun e w' h => h
            | some y =>
             rw [Option.bind_some]
             cases L4 with
             | nil =>
              rw [rawF, Option.map_none]
              exact (attr_two_name_bad b u hu2 x hx o ho.1 h93 h12 c cr hraw h61 q hq v hv2 h5 y hy [] (by decide) w h hE).mono fun e w' h => h
             | cons z M =>
              rw [rawF]
              by_cases hz : z.raw = [93]
              ·rw [if_pos hz, Option.map_some]
               exact (attr_two_name_ok b u hu2 x hx o ho.1 h93 h12 c cr hraw h61 q hq v hv2 h5 y hy z M hz w h hE).mono fun e w' h => h
              ·rw [if_neg hz, Option.map_none]
               exact (attr_two_name_bad b u hu2 x hx o ho.1 h93 h12 c cr hraw h61 q hq v hv2 h5 y hy (z :: M) hz w h hE).mono fun e w' h => h
         ·rw [if_neg hq, Option.bind_none]
          exact (attr_noeq b u hu2 x hx o ho.1 h93 h12 c cr hraw h61 (q :: L3) hq w h hE).mono fun e w' h => h
     ·rw [if_neg h12]
      exact (attr_op b u hu2 x hx o ho.1 h93 h12 L2 w h hE).mono fun e w' h => h
end sel
namespace sel
open Go.RowKit base tok rul
theorem pseudo_nil (b : Nat)  (w : World) (h : RdrS w b []) (hE : EnvS b w) :
  Calls Tryz.prog 106 #[(pn b)] w fun e w' => e = .panicked chainN /\ w.grownBy w' (some b) := by
 have cN := hid (fun w h => next_no b w h)
 have hblt := h.lt
 have H0 := hid (h.alloc oZ)
 have G0 := hid (World.grownBy_alloc w oZ (some b))
 have Q0 := hid (show Blk (w.alloc oZ) w.heap.size 26 rZ from Blk.new rfl)
 replace hE := hid hE
 clear h
 go_enter Tryz.func106, Tryz.ntmps106
 go_wp2_with (first
  | (go_at_call 59; (with_reducible refine (cN.out _ H0.out).mono ?_); rintro e WX ⟨rfl, hg⟩; have HGX := hid (G0.out.trans hg); clear hg))
 exact ⟨rfl, rfl, HGX.out⟩
theorem pseudo_root (b : Nat) (t : Tk) (M : List Tk) (ht : t.k ≠ 0 /\ t.val.length <= 400) (hk : t.k = 1) (hr : t.raw = t.val) (hv : lowP t.val = rootT) (w : World) (h : RdrS w b (t :: M)) (hE : EnvS b w) :
  Calls Tryz.prog 106 #[(pn b)] w fun e w' => e = .returned (leafV (.mk 6 [] 0 [] 0 0 [])) /\ RdrS w' b M /\ w.grownBy w' (some b) := by
 have cN1 := hid (fun w h => next_yes b t M ht.1 w h)
 have cL : ∀ w, Calls Tryz.prog 70 #[.string (bs t.val)] w (rt w (.string (bs (lowP t.val)))) := fun w => low_ct (bs t.val) (by rw [bs_size]; have := ht.2; omega) w
 rw [hv] at cL
 obtain ⟨v, hv3⟩ : ∃ v, v = rootT := ⟨_, rfl⟩
 rw [<- hv3] at cL
 replace cL := hid cL
 clear hv
 have hv := hv3
 clear hv3
 have e_root : ((bs v).toList == [114, 111, 111, 116]) = true := by rw [bs_toList, hv]; rfl
 clear hv
 have k1 : (t.k == 1) = true := by rw [hk]; rfl
 have k1r : ((bs t.raw).toList == (bs t.val).toList) = true := by rw [hr]; simp
 clear hk hr
 have hblt := h.lt
 have H0 := hid (h.alloc oZ)
 have G0 := hid (World.grownBy_alloc w oZ (some b))
 have Q0 := hid (show Blk (w.alloc oZ) w.heap.size 26 rZ from Blk.new rfl)
 replace hE := hid hE
 clear h
 go_enter Tryz.func106, Tryz.ntmps106
 go_wp2_with (first
  | (go_at_call 59; (with_reducible refine (cN1.out _ H0.out).mono ?_); rintro e W1 ⟨rfl, hr, hg⟩; unfold tv; have HR1 := hid hr; have HG1 := hid (G0.out.trans hg); have HQ1 := hid (Blk_grown Q0.out hg (by omega)); have hq1 := HQ1.out.lt; clear hr hg)
  | (go_at_call 70; (with_reducible refine (cL.out _).mono ?_); rintro e W2 ⟨rfl, hb⟩; have HR2 := hid ((HR1.out.alloc (oTk t)).on hb (HR1.out.alloc (oTk t)).lt); have HG2 := hid ((HG1.out.trans (World.grownBy_alloc _ (oTk t) (some b))).trans (grown_of_below hb (some b))); have HQ2 := hid ((HQ1.out.alloc (oTk t)).below hb (HQ1.out.alloc (oTk t)).lt); have hq2 := HQ2.out.lt; have t2 := (show Blk (W1.alloc (oTk t)) W1.heap.size 70 (rTk t) from Blk.new rfl).below hb (by simp); have t2c := t2.cell; have q2c := HQ2.out.cell; have q2f := HQ2.out.frozen; clear hb t2))
 have e := Blk.cell (blk_seven HQ2.out (.int .i64 6) (.string ⟨#[]⟩) (.int .u8 0) (.string ⟨#[]⟩) (.int .i64 0) (.int .i64 0) (.slice none 0 0))
 refine bodyPost_ret (v := (aTs 6 ⟨#[]⟩ 0 ⟨#[]⟩ 0 0 none 0 0)) (by simp [results, Tryz.results106, go_sem, e]) rfl ⟨rfl, ?_, ?_⟩
 ·exact HR2.out.seven hblt _ _ _ _ _ _ _
 ·exact grown_seven HG2.out (Nat.le_refl _) _ _ _ _ _ _ _
theorem pseudo_empty (b : Nat) (t : Tk) (M : List Tk) (ht : t.k ≠ 0 /\ t.val.length <= 400) (hk : t.k = 1) (hr : t.raw = t.val) (hv : lowP t.val = emptyT) (w : World) (h : RdrS w b (t :: M)) (hE : EnvS b w) :
  Calls Tryz.prog 106 #[(pn b)] w fun e w' => e = .returned (leafV (.mk 7 [] 0 [] 0 0 [])) /\ RdrS w' b M /\ w.grownBy w' (some b) := by
 have cN1 := hid (fun w h => next_yes b t M ht.1 w h)
 have cL : ∀ w, Calls Tryz.prog 70 #[.string (bs t.val)] w (rt w (.string (bs (lowP t.val)))) := fun w => low_ct (bs t.val) (by rw [bs_size]; have := ht.2; omega) w
 rw [hv] at cL
 obtain ⟨v, hv3⟩ : ∃ v, v = emptyT := ⟨_, rfl⟩
 rw [<- hv3] at cL
 replace cL := hid cL
 clear hv
 have hv := hv3
 clear hv3
 have e_root : ((bs v).toList == [114, 111, 111, 116]) = false := by rw [bs_toList, beq_eq_false_iff_ne]; exact (by rw [hv]; decide)
 have e_empty : ((bs v).toList == [101, 109, 112, 116, 121]) = true := by rw [bs_toList, hv]; rfl
 clear hv
 have k1 : (t.k == 1) = true := by rw [hk]; rfl
 have k1r : ((bs t.raw).toList == (bs t.val).toList) = true := by rw [hr]; simp
 clear hk hr
 have hblt := h.lt
 have H0 := hid (h.alloc oZ)
 have G0 := hid (World.grownBy_alloc w oZ (some b))
 have Q0 := hid (show Blk (w.alloc oZ) w.heap.size 26 rZ from Blk.new rfl)
 replace hE := hid hE
 clear h
 go_enter Tryz.func106, Tryz.ntmps106
 go_wp2_with (first
  | (go_at_call 59; (with_reducible refine (cN1.out _ H0.out).mono ?_); rintro e W1 ⟨rfl, hr, hg⟩; unfold tv; have HR1 := hid hr; have HG1 := hid (G0.out.trans hg); have HQ1 := hid (Blk_grown Q0.out hg (by omega)); have hq1 := HQ1.out.lt; clear hr hg)
  | (go_at_call 70; (with_reducible refine (cL.out _).mono ?_); rintro e W2 ⟨rfl, hb⟩; have HR2 := hid ((HR1.out.alloc (oTk t)).on hb (HR1.out.alloc (oTk t)).lt); have HG2 := hid ((HG1.out.trans (World.grownBy_alloc _ (oTk t) (some b))).trans (grown_of_below hb (some b))); have HQ2 := hid ((HQ1.out.alloc (oTk t)).below hb (HQ1.out.alloc (oTk t)).lt); have hq2 := HQ2.out.lt; have t2 := (show Blk (W1.alloc (oTk t)) W1.heap.size 70 (rTk t) from Blk.new rfl).below hb (by simp); have t2c := t2.cell; have q2c := HQ2.out.cell; have q2f := HQ2.out.frozen; clear hb t2))
 have e := Blk.cell (blk_seven HQ2.out (.int .i64 7) (.string ⟨#[]⟩) (.int .u8 0) (.string ⟨#[]⟩) (.int .i64 0) (.int .i64 0) (.slice none 0 0))
 refine bodyPost_ret (v := (aTs 7 ⟨#[]⟩ 0 ⟨#[]⟩ 0 0 none 0 0)) (by simp [results, Tryz.results106, go_sem, e]) rfl ⟨rfl, ?_, ?_⟩
 ·exact HR2.out.seven hblt _ _ _ _ _ _ _
 ·exact grown_seven HG2.out (Nat.le_refl _) _ _ _ _ _ _ _
theorem pseudo_first (b : Nat) (t : Tk) (M : List Tk) (ht : t.k ≠ 0 /\ t.val.length <= 400) (hk : t.k = 1) (hr : t.raw = t.val) (hv : lowP t.val = firstT) (w : World) (h : RdrS w b (t :: M)) (hE : EnvS b w) :
  Calls Tryz.prog 106 #[(pn b)] w fun e w' => e = .returned (leafV (.mk 8 [] 0 [] 0 1 [])) /\ RdrS w' b M /\ w.grownBy w' (some b) := by
 have cN1 := hid (fun w h => next_yes b t M ht.1 w h)
 have cL : ∀ w, Calls Tryz.prog 70 #[.string (bs t.val)] w (rt w (.string (bs (lowP t.val)))) := fun w => low_ct (bs t.val) (by rw [bs_size]; have := ht.2; omega) w
 rw [hv] at cL
 obtain ⟨v, hv3⟩ : ∃ v, v = firstT := ⟨_, rfl⟩
 rw [<- hv3] at cL
 replace cL := hid cL
 clear hv
 have hv := hv3
 clear hv3
 have e_root : ((bs v).toList == [114, 111, 111, 116]) = false := by rw [bs_toList, beq_eq_false_iff_ne]; exact (by rw [hv]; decide)
 have e_empty : ((bs v).toList == [101, 109, 112, 116, 121]) = false := by rw [bs_toList, beq_eq_false_iff_ne]; exact (by rw [hv]; decide)
 have e_first : ((bs v).toList == [102, 105, 114, 115, 116, 45, 99, 104, 105, 108, 100]) = true := by rw [bs_toList, hv]; rfl
 clear hv
 have k1 : (t.k == 1) = true := by rw [hk]; rfl
 have k1r : ((bs t.raw).toList == (bs t.val).toList) = true := by rw [hr]; simp
 clear hk hr
 have hblt := h.lt
 have H0 := hid (h.alloc oZ)
 have G0 := hid (World.grownBy_alloc w oZ (some b))
 have Q0 := hid (show Blk (w.alloc oZ) w.heap.size 26 rZ from Blk.new rfl)
 replace hE := hid hE
 clear h
 go_enter Tryz.func106, Tryz.ntmps106
 go_wp2_with (first
  | (go_at_call 59; (with_reducible refine (cN1.out _ H0.out).mono ?_); rintro e W1 ⟨rfl, hr, hg⟩; unfold tv; have HR1 := hid hr; have HG1 := hid (G0.out.trans hg); have HQ1 := hid (Blk_grown Q0.out hg (by omega)); have hq1 := HQ1.out.lt; clear hr hg)
  | (go_at_call 70; (with_reducible refine (cL.out _).mono ?_); rintro e W2 ⟨rfl, hb⟩; have HR2 := hid ((HR1.out.alloc (oTk t)).on hb (HR1.out.alloc (oTk t)).lt); have HG2 := hid ((HG1.out.trans (World.grownBy_alloc _ (oTk t) (some b))).trans (grown_of_below hb (some b))); have HQ2 := hid ((HQ1.out.alloc (oTk t)).below hb (HQ1.out.alloc (oTk t)).lt); have hq2 := HQ2.out.lt; have t2 := (show Blk (W1.alloc (oTk t)) W1.heap.size 70 (rTk t) from Blk.new rfl).below hb (by simp); have t2c := t2.cell; have q2c := HQ2.out.cell; have q2f := HQ2.out.frozen; clear hb t2))
 have e := Blk.cell (blk_seven HQ2.out (.int .i64 8) (.string ⟨#[]⟩) (.int .u8 0) (.string ⟨#[]⟩) (.int .i64 0) (.int .i64 1) (.slice none 0 0))
 refine bodyPost_ret (v := (aTs 8 ⟨#[]⟩ 0 ⟨#[]⟩ 0 1 none 0 0)) (by simp [results, Tryz.results106, go_sem, e]) rfl ⟨rfl, ?_, ?_⟩
 ·exact HR2.out.seven hblt _ _ _ _ _ _ _
 ·exact grown_seven HG2.out (Nat.le_refl _) _ _ _ _ _ _ _
theorem pseudo_last (b : Nat) (t : Tk) (M : List Tk) (ht : t.k ≠ 0 /\ t.val.length <= 400) (hk : t.k = 1) (hr : t.raw = t.val) (hv : lowP t.val = lastT) (w : World) (h : RdrS w b (t :: M)) (hE : EnvS b w) :
  Calls Tryz.prog 106 #[(pn b)] w fun e w' => e = .returned (leafV (.mk 9 [] 0 [] 0 1 [])) /\ RdrS w' b M /\ w.grownBy w' (some b) := by
 have cN1 := hid (fun w h => next_yes b t M ht.1 w h)
 have cL : ∀ w, Calls Tryz.prog 70 #[.string (bs t.val)] w (rt w (.string (bs (lowP t.val)))) := fun w => low_ct (bs t.val) (by rw [bs_size]; have := ht.2; omega) w
 rw [hv] at cL
 obtain ⟨v, hv3⟩ : ∃ v, v = lastT := ⟨_, rfl⟩
 rw [<- hv3] at cL
 replace cL := hid cL
 clear hv
 have hv := hv3
 clear hv3
 have e_root : ((bs v).toList == [114, 111, 111, 116]) = false := by rw [bs_toList, beq_eq_false_iff_ne]; exact (by rw [hv]; decide)
 have e_empty : ((bs v).toList == [101, 109, 112, 116, 121]) = false := by rw [bs_toList, beq_eq_false_iff_ne]; exact (by rw [hv]; decide)
 have e_first : ((bs v).toList == [102, 105, 114, 115, 116, 45, 99, 104, 105, 108, 100]) = false := by rw [bs_toList, beq_eq_false_iff_ne]; exact (by rw [hv]; decide)
 have e_last : ((bs v).toList == [108, 97, 115, 116, 45, 99, 104, 105, 108, 100]) = true := by rw [bs_toList, hv]; rfl
 clear hv
 have k1 : (t.k == 1) = true := by rw [hk]; rfl
 have k1r : ((bs t.raw).toList == (bs t.val).toList) = true := by rw [hr]; simp
 clear hk hr
 have hblt := h.lt
 have H0 := hid (h.alloc oZ)
 have G0 := hid (World.grownBy_alloc w oZ (some b))
 have Q0 := hid (show Blk (w.alloc oZ) w.heap.size 26 rZ from Blk.new rfl)
 replace hE := hid hE
 clear h
 go_enter Tryz.func106, Tryz.ntmps106
 go_wp2_with (first
  | (go_at_call 59; (with_reducible refine (cN1.out _ H0.out).mono ?_); rintro e W1 ⟨rfl, hr, hg⟩; unfold tv; have HR1 := hid hr; have HG1 := hid (G0.out.trans hg); have HQ1 := hid (Blk_grown Q0.out hg (by omega)); have hq1 := HQ1.out.lt; clear hr hg)
  | (go_at_call 70; (with_reducible refine (cL.out _).mono ?_); rintro e W2 ⟨rfl, hb⟩; have HR2 := hid ((HR1.out.alloc (oTk t)).on hb (HR1.out.alloc (oTk t)).lt); have HG2 := hid ((HG1.out.trans (World.grownBy_alloc _ (oTk t) (some b))).trans (grown_of_below hb (some b))); have HQ2 := hid ((HQ1.out.alloc (oTk t)).below hb (HQ1.out.alloc (oTk t)).lt); have hq2 := HQ2.out.lt; have t2 := (show Blk (W1.alloc (oTk t)) W1.heap.size 70 (rTk t) from Blk.new rfl).below hb (by simp); have t2c := t2.cell; have q2c := HQ2.out.cell; have q2f := HQ2.out.frozen; clear hb t2))
 have e := Blk.cell (blk_seven HQ2.out (.int .i64 9) (.string ⟨#[]⟩) (.int .u8 0) (.string ⟨#[]⟩) (.int .i64 0) (.int .i64 1) (.slice none 0 0))
 refine bodyPost_ret (v := (aTs 9 ⟨#[]⟩ 0 ⟨#[]⟩ 0 1 none 0 0)) (by simp [results, Tryz.results106, go_sem, e]) rfl ⟨rfl, ?_, ?_⟩
 ·exact HR2.out.seven hblt _ _ _ _ _ _ _
 ·exact grown_seven HG2.out (Nat.le_refl _) _ _ _ _ _ _ _
theorem pseudo_noname (b : Nat) (t : Tk) (M : List Tk) (ht : t.k ≠ 0 /\ t.val.length <= 400) (hk : t.k = 1) (hr : t.raw = t.val) (hno_root : lowP t.val ≠ rootT) (hno_empty : lowP t.val ≠ emptyT) (hno_first : lowP t.val ≠ firstT) (hno_last : lowP t.val ≠ lastT) (w : World) (h : RdrS w b (t :: M)) (hE : EnvS b w) :
  Calls Tryz.prog 106 #[(pn b)] w fun e w' => e = .panicked chainN /\ w.grownBy w' (some b) := by
 have cN1 := hid (fun w h => next_yes b t M ht.1 w h)
 have cL : ∀ w, Calls Tryz.prog 70 #[.string (bs t.val)] w (rt w (.string (bs (lowP t.val)))) := fun w => low_ct (bs t.val) (by rw [bs_size]; have := ht.2; omega) w
 generalize lowP t.val = v at *
 replace cL := hid cL
 have e_root : ((bs v).toList == [114, 111, 111, 116]) = false := by rw [bs_toList, beq_eq_false_iff_ne]; exact hno_root
 have e_empty : ((bs v).toList == [101, 109, 112, 116, 121]) = false := by rw [bs_toList, beq_eq_false_iff_ne]; exact hno_empty
 have e_first : ((bs v).toList == [102, 105, 114, 115, 116, 45, 99, 104, 105, 108, 100]) = false := by rw [bs_toList, beq_eq_false_iff_ne]; exact hno_first
 have e_last : ((bs v).toList == [108, 97, 115, 116, 45, 99, 104, 105, 108, 100]) = false := by rw [bs_toList, beq_eq_false_iff_ne]; exact hno_last
 clear hno_root hno_empty hno_first hno_last
 have k2 : (t.k == 2) = false := by rw [hk]; rfl
 have k1 : (t.k == 1) = true := by rw [hk]; rfl
 have k1r : ((bs t.raw).toList == (bs t.val).toList) = true := by rw [hr]; simp
 clear hk hr
 have hblt := h.lt
 have H0 := hid (h.alloc oZ)
 have G0 := hid (World.grownBy_alloc w oZ (some b))
 have Q0 := hid (show Blk (w.alloc oZ) w.heap.size 26 rZ from Blk.new rfl)
 replace hE := hid hE
 clear h
 go_enter Tryz.func106, Tryz.ntmps106
 go_wp2_with (first
  | (go_at_call 59; (with_reducible refine (cN1.out _ H0.out).mono ?_); rintro e W1 ⟨rfl, hr, hg⟩; unfold tv; have HR1 := hid hr; have HG1 := hid (G0.out.trans hg); have HQ1 := hid (Blk_grown Q0.out hg (by omega)); have hq1 := HQ1.out.lt; clear hr hg)
  | (go_at_call 70; (with_reducible refine (cL.out _).mono ?_); rintro e W2 ⟨rfl, hb⟩; have HR2 := hid ((HR1.out.alloc (oTk t)).on hb (HR1.out.alloc (oTk t)).lt); have HG2 := hid ((HG1.out.trans (World.grownBy_alloc _ (oTk t) (some b))).trans (grown_of_below hb (some b))); have HQ2 := hid ((HQ1.out.alloc (oTk t)).below hb (HQ1.out.alloc (oTk t)).lt); have hq2 := HQ2.out.lt; have t2 := (show Blk (W1.alloc (oTk t)) W1.heap.size 70 (rTk t) from Blk.new rfl).below hb (by simp); have t2c := t2.cell; have q2c := HQ2.out.cell; have q2f := HQ2.out.frozen; clear hb t2))
 exact ⟨rfl, rfl, HG2.out⟩
theorem pseudo_kind (b : Nat) (t : Tk) (M : List Tk) (ht : t.k ≠ 0 /\ t.val.length <= 400) (hk : t.k ≠ 1) (hk2 : t.k ≠ 2) (w : World) (h : RdrS w b (t :: M)) (hE : EnvS b w) :
  Calls Tryz.prog 106 #[(pn b)] w fun e w' => e = .panicked chainN /\ w.grownBy w' (some b) := by
 have cN1 := hid (fun w h => next_yes b t M ht.1 w h)
 have cL : ∀ w, Calls Tryz.prog 70 #[.string (bs t.val)] w (rt w (.string (bs (lowP t.val)))) := fun w => low_ct (bs t.val) (by rw [bs_size]; have := ht.2; omega) w
 generalize lowP t.val = v at *
 replace cL := hid cL
 have k1 : (t.k == 1) = false := bq hk
 have k2 : (t.k == 2) = false := bq hk2
 clear hk hk2
 have hblt := h.lt
 have H0 := hid (h.alloc oZ)
 have G0 := hid (World.grownBy_alloc w oZ (some b))
 have Q0 := hid (show Blk (w.alloc oZ) w.heap.size 26 rZ from Blk.new rfl)
 replace hE := hid hE
 clear h
 go_enter Tryz.func106, Tryz.ntmps106
 go_wp2_with (first
  | (go_at_call 59; (with_reducible refine (cN1.out _ H0.out).mono ?_); rintro e W1 ⟨rfl, hr, hg⟩; unfold tv; have HR1 := hid hr; have HG1 := hid (G0.out.trans hg); have HQ1 := hid (Blk_grown Q0.out hg (by omega)); have hq1 := HQ1.out.lt; clear hr hg)
  | (go_at_call 70; (with_reducible refine (cL.out _).mono ?_); rintro e W2 ⟨rfl, hb⟩; have HR2 := hid ((HR1.out.alloc (oTk t)).on hb (HR1.out.alloc (oTk t)).lt); have HG2 := hid ((HG1.out.trans (World.grownBy_alloc _ (oTk t) (some b))).trans (grown_of_below hb (some b))); have HQ2 := hid ((HQ1.out.alloc (oTk t)).below hb (HQ1.out.alloc (oTk t)).lt); have hq2 := HQ2.out.lt; have t2 := (show Blk (W1.alloc (oTk t)) W1.heap.size 70 (rTk t) from Blk.new rfl).below hb (by simp); have t2c := t2.cell; have q2c := HQ2.out.cell; have q2f := HQ2.out.frozen; clear hb t2))
 exact ⟨rfl, rfl, HG2.out⟩
theorem pseudo_raw1 (b : Nat) (t : Tk) (M : List Tk) (ht : t.k ≠ 0 /\ t.val.length <= 400) (hk : t.k = 1) (hr : t.raw ≠ t.val) (w : World) (h : RdrS w b (t :: M)) (hE : EnvS b w) :
  Calls Tryz.prog 106 #[(pn b)] w fun e w' => e = .panicked chainN /\ w.grownBy w' (some b) := by
 have cN1 := hid (fun w h => next_yes b t M ht.1 w h)
 have cL : ∀ w, Calls Tryz.prog 70 #[.string (bs t.val)] w (rt w (.string (bs (lowP t.val)))) := fun w => low_ct (bs t.val) (by rw [bs_size]; have := ht.2; omega) w
 generalize lowP t.val = v at *
 replace cL := hid cL
 have k1 : (t.k == 1) = true := by rw [hk]; rfl
 have k2 : (t.k == 2) = false := by rw [hk]; rfl
 have k1r : ((bs t.raw).toList == (bs t.val).toList) = false := by rw [bs_toList, bs_toList, beq_eq_false_iff_ne]; exact hr
 clear hk hr
 have hblt := h.lt
 have H0 := hid (h.alloc oZ)
 have G0 := hid (World.grownBy_alloc w oZ (some b))
 have Q0 := hid (show Blk (w.alloc oZ) w.heap.size 26 rZ from Blk.new rfl)
 replace hE := hid hE
 clear h
 go_enter Tryz.func106, Tryz.ntmps106
 go_wp2_with (first
  | (go_at_call 59; (with_reducible refine (cN1.out _ H0.out).mono ?_); rintro e W1 ⟨rfl, hr, hg⟩; unfold tv; have HR1 := hid hr; have HG1 := hid (G0.out.trans hg); have HQ1 := hid (Blk_grown Q0.out hg (by omega)); have hq1 := HQ1.out.lt; clear hr hg)
  | (go_at_call 70; (with_reducible refine (cL.out _).mono ?_); rintro e W2 ⟨rfl, hb⟩; have HR2 := hid ((HR1.out.alloc (oTk t)).on hb (HR1.out.alloc (oTk t)).lt); have HG2 := hid ((HG1.out.trans (World.grownBy_alloc _ (oTk t) (some b))).trans (grown_of_below hb (some b))); have HQ2 := hid ((HQ1.out.alloc (oTk t)).below hb (HQ1.out.alloc (oTk t)).lt); have hq2 := HQ2.out.lt; have t2 := (show Blk (W1.alloc (oTk t)) W1.heap.size 70 (rTk t) from Blk.new rfl).below hb (by simp); have t2c := t2.cell; have q2c := HQ2.out.cell; have q2f := HQ2.out.frozen; clear hb t2))
 exact ⟨rfl, rfl, HG2.out⟩
end sel
namespace sel
open Go.RowKit base tok rul
theorem heap_seven (w : World) (k : Nat) (x0 x1 x2 x3 x4 x5 x6 : Value) (c : Nat) (hc : c ≠ k) : (((((((w.setCell ⟨k, 0, none⟩ x0).setCell ⟨k, 1, none⟩ x1).setCell ⟨k, 2, none⟩ x2).setCell ⟨k, 3, none⟩ x3).setCell ⟨k, 4, none⟩ x4).setCell ⟨k, 5, none⟩ x5).setCell ⟨k, 6, none⟩ x6).heap[c]? = w.heap[c]? :=
 (Below.heap_setCell _ ⟨k, 6, none⟩ x6 c hc).trans ((Below.heap_setCell _ ⟨k, 5, none⟩ x5 c hc).trans ((Below.heap_setCell _ ⟨k, 4, none⟩ x4 c hc).trans ((Below.heap_setCell _ ⟨k, 3, none⟩ x3 c hc).trans ((Below.heap_setCell _ ⟨k, 2, none⟩ x2 c hc).trans ((Below.heap_setCell _ ⟨k, 1, none⟩ x1 c hc).trans (Below.heap_setCell _ ⟨k, 0, none⟩ x0 c hc))))))
def PasV (X : Nat -> Prop) (w : World) (l : List Pa) (A : Option Addr) (cap : Nat) : Prop := l.length <= cap /\ (0 < l.length -> ∃ c o, A = some ⟨c, o, none⟩ /\ X c /\ c < w.heap.size /\ PasAt X w c o l)
theorem PasV.keep {X Y : Nat -> Prop} {w w' : World} (hs : w.heap.size <= w'.heap.size) (hk : ∀ c, X c -> c < w.heap.size -> Y c /\ w'.heap[c]? = w.heap[c]?) {l : List Pa} {A : Option Addr} {cap : Nat} (h : PasV X w l A cap) : PasV Y w' l A cap := by
 refine ⟨h.1, fun h0 => ?_⟩
 obtain ⟨c, o, hA, hX, hlt, hx⟩ := h.2 h0
 obtain ⟨k1, k2⟩ := hk c hX hlt
 exact ⟨c, o, hA, k1, Nat.lt_of_lt_of_le hlt hs, PasAt.keep hs hk c k2 l o hx⟩
def RetT (b : Nat) (w : World) : Option (Ts × List Tk) -> Ending -> World -> Prop
 | some r, e, w' => w.grownBy w' (some b) /\ (∃ xs : List Value, e = .returned (.agg xs.toArray) /\ TsAt (fun c => w.heap.size <= c) w' r.1 xs) /\ RdrS w' b r.2
 | none, e, w' => e = .panicked chainN /\ w.grownBy w' (some b)
def RetLs (b : Nat) (w : World) : Option (List Pa × List Tk) -> Ending -> World -> Prop
 | some r, e, w' => w.grownBy w' (some b) /\ (∃ A cap, e = .returned (.slice A r.1.length cap) /\ PasV (fun c => w.heap.size <= c) w' r.1 A cap) /\ RdrS w' b r.2
 | none, e, w' => e = .panicked chainN /\ w.grownBy w' (some b)
theorem ts_leaf (X : Nat -> Prop) (w : World) (k : Int) (n : Bs) (op : UInt8) (v : Bs) (a b : Int) : TsAt X w (.mk k n op v a b []) [.int .i64 k, .string (bs n), .int .u8 (nv op), .string (bs v), .int .i64 a, .int .i64 b, .slice none 0 0] := by
 rw [TsAt]
 exact ⟨none, 0, rfl, Nat.le_refl _, fun h => absurd h (Nat.not_lt_zero _)⟩
theorem pseudo_raw2 (b : Nat) (t : Tk) (M : List Tk) (ht : t.k ≠ 0 /\ t.val.length <= 400) (hk : t.k = 2) (hr : t.raw ≠ t.val ++ [40]) (w : World) (h : RdrS w b (t :: M)) (hE : EnvS b w) :
  Calls Tryz.prog 106 #[(pn b)] w fun e w' => e = .panicked chainN /\ w.grownBy w' (some b) := by
 have cN1 := hid (fun w h => next_yes b t M ht.1 w h)
 have cL : ∀ w, Calls Tryz.prog 70 #[.string (bs t.val)] w (rt w (.string (bs (lowP t.val)))) := fun w => low_ct (bs t.val) (by rw [bs_size]; have := ht.2; omega) w
 generalize lowP t.val = v at *
 replace cL := hid cL
 have k1 : (t.k == 1) = false := by rw [hk]; rfl
 have k2 : (t.k == 2) = true := by rw [hk]; rfl
 have hcat : bs t.val ++ ⟨#[40]⟩ = bs (t.val ++ [40]) := bs_cat t.val [40]
 have hsz : (bs t.val).size = t.val.length := rfl
 have a1 : ¬ 9223372036854775807 < (bs t.val).size + 1 := by have := ht.2; omega
 have k2r : ((bs t.raw).toList == (bs (t.val ++ [40])).toList) = false := by rw [bs_toList, bs_toList, beq_eq_false_iff_ne]; exact hr
 clear hk hr hsz
 have hblt := h.lt
 have H0 := hid (h.alloc oZ)
 have G0 := hid (World.grownBy_alloc w oZ (some b))
 have Q0 := hid (show Blk (w.alloc oZ) w.heap.size 26 rZ from Blk.new rfl)
 replace hE := hid hE
 clear h
 go_enter Tryz.func106, Tryz.ntmps106
 go_wp2_with (first
  | (go_at_call 59; (with_reducible refine (cN1.out _ H0.out).mono ?_); rintro e W1 ⟨rfl, hr, hg⟩; unfold tv; have HR1 := hid hr; have HG1 := hid (G0.out.trans hg); have HQ1 := hid (Blk_grown Q0.out hg (by omega)); have hq1 := HQ1.out.lt; clear hr hg)
  | (go_at_call 70; (with_reducible refine (cL.out _).mono ?_); rintro e W2 ⟨rfl, hb⟩; have HR2 := hid ((HR1.out.alloc (oTk t)).on hb (HR1.out.alloc (oTk t)).lt); have HG2 := hid ((HG1.out.trans (World.grownBy_alloc _ (oTk t) (some b))).trans (grown_of_below hb (some b))); have HQ2 := hid ((HQ1.out.alloc (oTk t)).below hb (HQ1.out.alloc (oTk t)).lt); have hq2 := HQ2.out.lt; have t2 := (show Blk (W1.alloc (oTk t)) W1.heap.size 70 (rTk t) from Blk.new rfl).below hb (by simp); have t2c := t2.cell; have q2c := HQ2.out.cell; have q2f := HQ2.out.frozen; clear hb t2))
 exact ⟨rfl, rfl, HG2.out⟩
theorem pseudo_nofunc (b : Nat) (t : Tk) (M : List Tk) (ht : t.k ≠ 0 /\ t.val.length <= 400) (hk : t.k = 2) (hr : t.raw = t.val ++ [40]) (hno_nth : lowP t.val ≠ nthT) (hno_nthl : lowP t.val ≠ nthLastT) (hno_not : lowP t.val ≠ notT) (hno_is : lowP t.val ≠ isT) (w : World) (h : RdrS w b (t :: M)) (hE : EnvS b w) :
  Calls Tryz.prog 106 #[(pn b)] w fun e w' => e = .panicked chainN /\ w.grownBy w' (some b) := by
 have cN1 := hid (fun w h => next_yes b t M ht.1 w h)
 have cL : ∀ w, Calls Tryz.prog 70 #[.string (bs t.val)] w (rt w (.string (bs (lowP t.val)))) := fun w => low_ct (bs t.val) (by rw [bs_size]; have := ht.2; omega) w
 generalize lowP t.val = v at *
 replace cL := hid cL
 have e_nth : ((bs v).toList == [110, 116, 104, 45, 99, 104, 105, 108, 100]) = false := by rw [bs_toList, beq_eq_false_iff_ne]; exact hno_nth
 have e_nthl : ((bs v).toList == [110, 116, 104, 45, 108, 97, 115, 116, 45, 99, 104, 105, 108, 100]) = false := by rw [bs_toList, beq_eq_false_iff_ne]; exact hno_nthl
 have e_not : ((bs v).toList == [110, 111, 116]) = false := by rw [bs_toList, beq_eq_false_iff_ne]; exact hno_not
 have e_is : ((bs v).toList == [105, 115]) = false := by rw [bs_toList, beq_eq_false_iff_ne]; exact hno_is
 clear hno_nth hno_nthl hno_not hno_is
 have k1 : (t.k == 1) = false := by rw [hk]; rfl
 have k2 : (t.k == 2) = true := by rw [hk]; rfl
 have hcat : bs t.val ++ ⟨#[40]⟩ = bs (t.val ++ [40]) := bs_cat t.val [40]
 have hsz : (bs t.val).size = t.val.length := rfl
 have a1 : ¬ 9223372036854775807 < (bs t.val).size + 1 := by have := ht.2; omega
 have k2r : ((bs t.raw).toList == (bs (t.val ++ [40])).toList) = true := by rw [bs_toList, bs_toList, hr]; simp
 clear hk hr hsz
 have hblt := h.lt
 have H0 := hid (h.alloc oZ)
 have G0 := hid (World.grownBy_alloc w oZ (some b))
 have Q0 := hid (show Blk (w.alloc oZ) w.heap.size 26 rZ from Blk.new rfl)
 replace hE := hid hE
 clear h
 go_enter Tryz.func106, Tryz.ntmps106
 go_wp2_with (first
  | (go_at_call 59; (with_reducible refine (cN1.out _ H0.out).mono ?_); rintro e W1 ⟨rfl, hr, hg⟩; unfold tv; have HR1 := hid hr; have HG1 := hid (G0.out.trans hg); have HQ1 := hid (Blk_grown Q0.out hg (by omega)); have hq1 := HQ1.out.lt; clear hr hg)
  | (go_at_call 70; (with_reducible refine (cL.out _).mono ?_); rintro e W2 ⟨rfl, hb⟩; have HR2 := hid ((HR1.out.alloc (oTk t)).on hb (HR1.out.alloc (oTk t)).lt); have HG2 := hid ((HG1.out.trans (World.grownBy_alloc _ (oTk t) (some b))).trans (grown_of_below hb (some b))); have HQ2 := hid ((HQ1.out.alloc (oTk t)).below hb (HQ1.out.alloc (oTk t)).lt); have hq2 := HQ2.out.lt; have t2 := (show Blk (W1.alloc (oTk t)) W1.heap.size 70 (rTk t) from Blk.new rfl).below hb (by simp); have t2c := t2.cell; have q2c := HQ2.out.cell; have q2f := HQ2.out.frozen; clear hb t2))
 exact ⟨rfl, rfl, HG2.out⟩
theorem pseudo_nth_bad (b : Nat) (t : Tk) (M : List Tk) (ht : t.k ≠ 0 /\ t.val.length <= 400) (hgm : GoodS M) (hk : t.k = 2) (hr : t.raw = t.val ++ [40]) (hv : lowP t.val = nthT) (hc : countedF 8 M = none) (w : World) (h : RdrS w b (t :: M)) (hE : EnvS b w) :
  Calls Tryz.prog 106 #[(pn b)] w fun e w' => e = .panicked chainN /\ w.grownBy w' (some b) := by
 have cN1 := hid (fun w h => next_yes b t M ht.1 w h)
 have cL : ∀ w, Calls Tryz.prog 70 #[.string (bs t.val)] w (rt w (.string (bs (lowP t.val)))) := fun w => low_ct (bs t.val) (by rw [bs_size]; have := ht.2; omega) w
 rw [hv] at cL
 obtain ⟨v, hv3⟩ : ∃ v, v = nthT := ⟨_, rfl⟩
 rw [<- hv3] at cL
 replace cL := hid cL
 clear hv
 have hv := hv3
 clear hv3
 have e_nth : ((bs v).toList == [110, 116, 104, 45, 99, 104, 105, 108, 100]) = true := by rw [bs_toList, hv]; rfl
 clear hv
 have k1 : (t.k == 1) = false := by rw [hk]; rfl
 have k2 : (t.k == 2) = true := by rw [hk]; rfl
 have hcat : bs t.val ++ ⟨#[40]⟩ = bs (t.val ++ [40]) := bs_cat t.val [40]
 have hsz : (bs t.val).size = t.val.length := rfl
 have a1 : ¬ 9223372036854775807 < (bs t.val).size + 1 := by have := ht.2; omega
 have k2r : ((bs t.raw).toList == (bs (t.val ++ [40])).toList) = true := by rw [bs_toList, bs_toList, hr]; simp
 clear hk hr hsz
 have cC := fun w h hE => counted_ct b 8 M hgm w h hE
 rw [hc] at cC
 unfold RetA at cC
 replace cC := hid cC
 clear hc
 have hblt := h.lt
 have H0 := hid (h.alloc oZ)
 have G0 := hid (World.grownBy_alloc w oZ (some b))
 have Q0 := hid (show Blk (w.alloc oZ) w.heap.size 26 rZ from Blk.new rfl)
 replace hE := hid hE
 clear h
 go_enter Tryz.func106, Tryz.ntmps106
 go_wp2_with (first
  | (go_at_call 59; (with_reducible refine (cN1.out _ H0.out).mono ?_); rintro e W1 ⟨rfl, hr, hg⟩; unfold tv; have HR1 := hid hr; have HG1 := hid (G0.out.trans hg); have HQ1 := hid (Blk_grown Q0.out hg (by omega)); have hq1 := HQ1.out.lt; clear hr hg)
  | (go_at_call 70; (with_reducible refine (cL.out _).mono ?_); rintro e W2 ⟨rfl, hb⟩; have HR2 := hid ((HR1.out.alloc (oTk t)).on hb (HR1.out.alloc (oTk t)).lt); have HG2 := hid ((HG1.out.trans (World.grownBy_alloc _ (oTk t) (some b))).trans (grown_of_below hb (some b))); have HQ2 := hid ((HQ1.out.alloc (oTk t)).below hb (HQ1.out.alloc (oTk t)).lt); have hq2 := HQ2.out.lt; have t2 := (show Blk (W1.alloc (oTk t)) W1.heap.size 70 (rTk t) from Blk.new rfl).below hb (by simp); have t2c := t2.cell; have q2c := HQ2.out.cell; have q2f := HQ2.out.frozen; clear hb t2)
  | (go_at_call 119; (with_reducible refine (cC.out _ HR2.out (hE.out.on (below_one HG2.out hblt))).mono ?_); rintro e W3 ⟨rfl, hg⟩; have HG3 := hid (HG2.out.trans hg); clear hg))
 exact ⟨rfl, rfl, HG3.out⟩
theorem pseudo_nth_ok (b : Nat) (t : Tk) (M : List Tk) (ht : t.k ≠ 0 /\ t.val.length <= 400) (hgm : GoodS M) (hk : t.k = 2) (hr : t.raw = t.val ++ [40]) (hv : lowP t.val = nthT) (p q : Int) (M2 : List Tk) (hc : countedF 8 M = some (.mk 8 [] 0 [] p q [], M2)) (w : World) (h : RdrS w b (t :: M)) (hE : EnvS b w) :
  Calls Tryz.prog 106 #[(pn b)] w fun e w' => e = .returned (leafV (.mk 8 [] 0 [] p q [])) /\ RdrS w' b M2 /\ w.grownBy w' (some b) := by
 have cN1 := hid (fun w h => next_yes b t M ht.1 w h)
 have cL : ∀ w, Calls Tryz.prog 70 #[.string (bs t.val)] w (rt w (.string (bs (lowP t.val)))) := fun w => low_ct (bs t.val) (by rw [bs_size]; have := ht.2; omega) w
 rw [hv] at cL
 obtain ⟨v, hv3⟩ : ∃ v, v = nthT := ⟨_, rfl⟩
 rw [<- hv3] at cL
 replace cL := hid cL
 clear hv
 have hv := hv3
 clear hv3
 have e_nth : ((bs v).toList == [110, 116, 104, 45, 99, 104, 105, 108, 100]) = true := by rw [bs_toList, hv]; rfl
 clear hv
 have k1 : (t.k == 1) = false := by rw [hk]; rfl
 have k2 : (t.k == 2) = true := by rw [hk]; rfl
 have hcat : bs t.val ++ ⟨#[40]⟩ = bs (t.val ++ [40]) := bs_cat t.val [40]
 have hsz : (bs t.val).size = t.val.length := rfl
 have a1 : ¬ 9223372036854775807 < (bs t.val).size + 1 := by have := ht.2; omega
 have k2r : ((bs t.raw).toList == (bs (t.val ++ [40])).toList) = true := by rw [bs_toList, bs_toList, hr]; simp
 clear hk hr hsz
 have cC := fun w h hE => counted_ct b 8 M hgm w h hE
 rw [hc] at cC
 unfold RetA at cC
 replace cC := hid cC
 clear hc
 have hblt := h.lt
 have H0 := hid (h.alloc oZ)
 have G0 := hid (World.grownBy_alloc w oZ (some b))
 have Q0 := hid (show Blk (w.alloc oZ) w.heap.size 26 rZ from Blk.new rfl)
 replace hE := hid hE
 clear h
 go_enter Tryz.func106, Tryz.ntmps106
 go_wp2_with (first
  | (go_at_call 59; (with_reducible refine (cN1.out _ H0.out).mono ?_); rintro e W1 ⟨rfl, hr, hg⟩; unfold tv; have HR1 := hid hr; have HG1 := hid (G0.out.trans hg); have HQ1 := hid (Blk_grown Q0.out hg (by omega)); have hq1 := HQ1.out.lt; clear hr hg)
  | (go_at_call 70; (with_reducible refine (cL.out _).mono ?_); rintro e W2 ⟨rfl, hb⟩; have HR2 := hid ((HR1.out.alloc (oTk t)).on hb (HR1.out.alloc (oTk t)).lt); have HG2 := hid ((HG1.out.trans (World.grownBy_alloc _ (oTk t) (some b))).trans (grown_of_below hb (some b))); have HQ2 := hid ((HQ1.out.alloc (oTk t)).below hb (HQ1.out.alloc (oTk t)).lt); have hq2 := HQ2.out.lt; have t2 := (show Blk (W1.alloc (oTk t)) W1.heap.size 70 (rTk t) from Blk.new rfl).below hb (by simp); have t2c := t2.cell; have q2c := HQ2.out.cell; have q2f := HQ2.out.frozen; clear hb t2)
  | (go_at_call 119; (with_reducible refine (cC.out _ HR2.out (hE.out.on (below_one HG2.out hblt))).mono ?_); rintro e W3 ⟨rfl, hr, hg⟩; unfold leafV; have HR3 := hid hr; have HG3 := hid (HG2.out.trans hg); have HQ3 := hid (Blk_grown HQ2.out hg (by omega)); have hq3 := HQ3.out.lt; have q3c := HQ3.out.cell; have q3f := HQ3.out.frozen; clear hr hg))
 have e := Blk.cell (blk_seven HQ3.out (.int .i64 8) (.string (bs [])) (.int .u8 (nv 0)) (.string (bs [])) (.int .i64 p) (.int .i64 q) (.slice none 0 0))
 refine bodyPost_ret (v := (aTs 8 (bs []) (nv 0) (bs []) p q none 0 0)) (by simp [results, Tryz.results106, go_sem, e]) rfl ⟨rfl, ?_, ?_⟩
 ·exact HR3.out.seven hblt _ _ _ _ _ _ _
 ·exact grown_seven HG3.out (Nat.le_refl _) _ _ _ _ _ _ _
theorem pseudo_nthl_bad (b : Nat) (t : Tk) (M : List Tk) (ht : t.k ≠ 0 /\ t.val.length <= 400) (hgm : GoodS M) (hk : t.k = 2) (hr : t.raw = t.val ++ [40]) (hv : lowP t.val = nthLastT) (hc : countedF 9 M = none) (w : World) (h : RdrS w b (t :: M)) (hE : EnvS b w) :
  Calls Tryz.prog 106 #[(pn b)] w fun e w' => e = .panicked chainN /\ w.grownBy w' (some b) := by
 have cN1 := hid (fun w h => next_yes b t M ht.1 w h)
 have cL : ∀ w, Calls Tryz.prog 70 #[.string (bs t.val)] w (rt w (.string (bs (lowP t.val)))) := fun w => low_ct (bs t.val) (by rw [bs_size]; have := ht.2; omega) w
 rw [hv] at cL
 obtain ⟨v, hv3⟩ : ∃ v, v = nthLastT := ⟨_, rfl⟩
 rw [<- hv3] at cL
 replace cL := hid cL
 clear hv
 have hv := hv3
 clear hv3
 have e_nth : ((bs v).toList == [110, 116, 104, 45, 99, 104, 105, 108, 100]) = false := by rw [bs_toList, beq_eq_false_iff_ne]; exact (by rw [hv]; decide)
 have e_nthl : ((bs v).toList == [110, 116, 104, 45, 108, 97, 115, 116, 45, 99, 104, 105, 108, 100]) = true := by rw [bs_toList, hv]; rfl
 clear hv
 have k1 : (t.k == 1) = false := by rw [hk]; rfl
 have k2 : (t.k == 2) = true := by rw [hk]; rfl
 have hcat : bs t.val ++ ⟨#[40]⟩ = bs (t.val ++ [40]) := bs_cat t.val [40]
 have hsz : (bs t.val).size = t.val.length := rfl
 have a1 : ¬ 9223372036854775807 < (bs t.val).size + 1 := by have := ht.2; omega
 have k2r : ((bs t.raw).toList == (bs (t.val ++ [40])).toList) = true := by rw [bs_toList, bs_toList, hr]; simp
 clear hk hr hsz
 have cC := fun w h hE => counted_ct b 9 M hgm w h hE
 rw [hc] at cC
 unfold RetA at cC
 replace cC := hid cC
 clear hc
 have hblt := h.lt
 have H0 := hid (h.alloc oZ)
 have G0 := hid (World.grownBy_alloc w oZ (some b))
 have Q0 := hid (show Blk (w.alloc oZ) w.heap.size 26 rZ from Blk.new rfl)
 replace hE := hid hE
 clear h
 go_enter Tryz.func106, Tryz.ntmps106
 go_wp2_with (first
  | (go_at_call 59; (with_reducible refine (cN1.out _ H0.out).mono ?_); rintro e W1 ⟨rfl, hr, hg⟩; unfold tv; have HR1 := hid hr; have HG1 := hid (G0.out.trans hg); have HQ1 := hid (Blk_grown Q0.out hg (by omega)); have hq1 := HQ1.out.lt; clear hr hg)
  | (go_at_call 70; (with_reducible refine (cL.out _).mono ?_); rintro e W2 ⟨rfl, hb⟩; have HR2 := hid ((HR1.out.alloc (oTk t)).on hb (HR1.out.alloc (oTk t)).lt); have HG2 := hid ((HG1.out.trans (World.grownBy_alloc _ (oTk t) (some b))).trans (grown_of_below hb (some b))); have HQ2 := hid ((HQ1.out.alloc (oTk t)).below hb (HQ1.out.alloc (oTk t)).lt); have hq2 := HQ2.out.lt; have t2 := (show Blk (W1.alloc (oTk t)) W1.heap.size 70 (rTk t) from Blk.new rfl).below hb (by simp); have t2c := t2.cell; have q2c := HQ2.out.cell; have q2f := HQ2.out.frozen; clear hb t2)
  | (go_at_call 119; (with_reducible refine (cC.out _ HR2.out (hE.out.on (below_one HG2.out hblt))).mono ?_); rintro e W3 ⟨rfl, hg⟩; have HG3 := hid (HG2.out.trans hg); clear hg))
 exact ⟨rfl, rfl, HG3.out⟩
theorem pseudo_nthl_ok (b : Nat) (t : Tk) (M : List Tk) (ht : t.k ≠ 0 /\ t.val.length <= 400) (hgm : GoodS M) (hk : t.k = 2) (hr : t.raw = t.val ++ [40]) (hv : lowP t.val = nthLastT) (p q : Int) (M2 : List Tk) (hc : countedF 9 M = some (.mk 9 [] 0 [] p q [], M2)) (w : World) (h : RdrS w b (t :: M)) (hE : EnvS b w) :
  Calls Tryz.prog 106 #[(pn b)] w fun e w' => e = .returned (leafV (.mk 9 [] 0 [] p q [])) /\ RdrS w' b M2 /\ w.grownBy w' (some b) := by
 have cN1 := hid (fun w h => next_yes b t M ht.1 w h)
 have cL : ∀ w, Calls Tryz.prog 70 #[.string (bs t.val)] w (rt w (.string (bs (lowP t.val)))) := fun w => low_ct (bs t.val) (by rw [bs_size]; have := ht.2; omega) w
 rw [hv] at cL
 obtain ⟨v, hv3⟩ : ∃ v, v = nthLastT := ⟨_, rfl⟩
 rw [<- hv3] at cL
 replace cL := hid cL
 clear hv
 have hv := hv3
 clear hv3
 have e_nth : ((bs v).toList == [110, 116, 104, 45, 99, 104, 105, 108, 100]) = false := by rw [bs_toList, beq_eq_false_iff_ne]; exact (by rw [hv]; decide)
 have e_nthl : ((bs v).toList == [110, 116, 104, 45, 108, 97, 115, 116, 45, 99, 104, 105, 108, 100]) = true := by rw [bs_toList, hv]; rfl
 clear hv
 have k1 : (t.k == 1) = false := by rw [hk]; rfl
 have k2 : (t.k == 2) = true := by rw [hk]; rfl
 have hcat : bs t.val ++ ⟨#[40]⟩ = bs (t.val ++ [40]) := bs_cat t.val [40]
 have hsz : (bs t.val).size = t.val.length := rfl
 have a1 : ¬ 9223372036854775807 < (bs t.val).size + 1 := by have := ht.2; omega
 have k2r : ((bs t.raw).toList == (bs (t.val ++ [40])).toList) = true := by rw [bs_toList, bs_toList, hr]; simp
 clear hk hr hsz
 have cC := fun w h hE => counted_ct b 9 M hgm w h hE
 rw [hc] at cC
 unfold RetA at cC
 replace cC := hid cC
 clear hc
 have hblt := h.lt
 have H0 := hid (h.alloc oZ)
 have G0 := hid (World.grownBy_alloc w oZ (some b))
 have Q0 := hid (show Blk (w.alloc oZ) w.heap.size 26 rZ from Blk.new rfl)
 replace hE := hid hE
 clear h
 go_enter Tryz.func106, Tryz.ntmps106
 go_wp2_with (first
  | (go_at_call 59; (with_reducible refine (cN1.out _ H0.out).mono ?_); rintro e W1 ⟨rfl, hr, hg⟩; unfold tv; have HR1 := hid hr; have HG1 := hid (G0.out.trans hg); have HQ1 := hid (Blk_grown Q0.out hg (by omega)); have hq1 := HQ1.out.lt; clear hr hg)
  | (go_at_call 70; (with_reducible refine (cL.out _).mono ?_); rintro e W2 ⟨rfl, hb⟩; have HR2 := hid ((HR1.out.alloc (oTk t)).on hb (HR1.out.alloc (oTk t)).lt); have HG2 := hid ((HG1.out.trans (World.grownBy_alloc _ (oTk t) (some b))).trans (grown_of_below hb (some b))); have HQ2 := hid ((HQ1.out.alloc (oTk t)).below hb (HQ1.out.alloc (oTk t)).lt); have hq2 := HQ2.out.lt; have t2 := (show Blk (W1.alloc (oTk t)) W1.heap.size 70 (rTk t) from Blk.new rfl).below hb (by simp); have t2c := t2.cell; have q2c := HQ2.out.cell; have q2f := HQ2.out.frozen; clear hb t2)
  | (go_at_call 119; (with_reducible refine (cC.out _ HR2.out (hE.out.on (below_one HG2.out hblt))).mono ?_); rintro e W3 ⟨rfl, hr, hg⟩; unfold leafV; have HR3 := hid hr; have HG3 := hid (HG2.out.trans hg); have HQ3 := hid (Blk_grown HQ2.out hg (by omega)); have hq3 := HQ3.out.lt; have q3c := HQ3.out.cell; have q3f := HQ3.out.frozen; clear hr hg))
 have e := Blk.cell (blk_seven HQ3.out (.int .i64 9) (.string (bs [])) (.int .u8 (nv 0)) (.string (bs [])) (.int .i64 p) (.int .i64 q) (.slice none 0 0))
 refine bodyPost_ret (v := (aTs 9 (bs []) (nv 0) (bs []) p q none 0 0)) (by simp [results, Tryz.results106, go_sem, e]) rfl ⟨rfl, ?_, ?_⟩
 ·exact HR3.out.seven hblt _ _ _ _ _ _ _
 ·exact grown_seven HG3.out (Nat.le_refl _) _ _ _ _ _ _ _
theorem pseudo_not_bad (b : Nat) (t : Tk) (M : List Tk) (ht : t.k ≠ 0 /\ t.val.length <= 400) (hk : t.k = 2) (hr : t.raw = t.val ++ [40]) (hv : lowP t.val = notT) (hc : ∀ w, RdrS w b M -> EnvS b w -> Calls Tryz.prog 18 #[(pn b), .string ⟨#[41]⟩] w (RetLs b w none)) (w : World) (h : RdrS w b (t :: M)) (hE : EnvS b w) :
  Calls Tryz.prog 106 #[(pn b)] w fun e w' => e = .panicked chainN /\ w.grownBy w' (some b) := by
 have cN1 := hid (fun w h => next_yes b t M ht.1 w h)
 have cL : ∀ w, Calls Tryz.prog 70 #[.string (bs t.val)] w (rt w (.string (bs (lowP t.val)))) := fun w => low_ct (bs t.val) (by rw [bs_size]; have := ht.2; omega) w
 rw [hv] at cL
 obtain ⟨v, hv3⟩ : ∃ v, v = notT := ⟨_, rfl⟩
 rw [<- hv3] at cL
 replace cL := hid cL
 clear hv
 have hv := hv3
 clear hv3
 have e_nth : ((bs v).toList == [110, 116, 104, 45, 99, 104, 105, 108, 100]) = false := by rw [bs_toList, beq_eq_false_iff_ne]; exact (by rw [hv]; decide)
 have e_nthl : ((bs v).toList == [110, 116, 104, 45, 108, 97, 115, 116, 45, 99, 104, 105, 108, 100]) = false := by rw [bs_toList, beq_eq_false_iff_ne]; exact (by rw [hv]; decide)
 have e_not : ((bs v).toList == [110, 111, 116]) = true := by rw [bs_toList, hv]; rfl
 clear hv
 have k1 : (t.k == 1) = false := by rw [hk]; rfl
 have k2 : (t.k == 2) = true := by rw [hk]; rfl
 have hcat : bs t.val ++ ⟨#[40]⟩ = bs (t.val ++ [40]) := bs_cat t.val [40]
 have hsz : (bs t.val).size = t.val.length := rfl
 have a1 : ¬ 9223372036854775807 < (bs t.val).size + 1 := by have := ht.2; omega
 have k2r : ((bs t.raw).toList == (bs (t.val ++ [40])).toList) = true := by rw [bs_toList, bs_toList, hr]; simp
 clear hk hr hsz
 unfold RetLs at hc
 have cC := hid hc
 clear hc
 have hblt := h.lt
 have H0 := hid (h.alloc oZ)
 have G0 := hid (World.grownBy_alloc w oZ (some b))
 have Q0 := hid (show Blk (w.alloc oZ) w.heap.size 26 rZ from Blk.new rfl)
 replace hE := hid hE
 clear h
 go_enter Tryz.func106, Tryz.ntmps106
 go_wp2_with (first
  | (go_at_call 59; (with_reducible refine (cN1.out _ H0.out).mono ?_); rintro e W1 ⟨rfl, hr, hg⟩; unfold tv; have HR1 := hid hr; have HG1 := hid (G0.out.trans hg); have HQ1 := hid (Blk_grown Q0.out hg (by omega)); have hq1 := HQ1.out.lt; clear hr hg)
  | (go_at_call 70; (with_reducible refine (cL.out _).mono ?_); rintro e W2 ⟨rfl, hb⟩; have HR2 := hid ((HR1.out.alloc (oTk t)).on hb (HR1.out.alloc (oTk t)).lt); have HG2 := hid ((HG1.out.trans (World.grownBy_alloc _ (oTk t) (some b))).trans (grown_of_below hb (some b))); have HQ2 := hid ((HQ1.out.alloc (oTk t)).below hb (HQ1.out.alloc (oTk t)).lt); have hq2 := HQ2.out.lt; have t2 := (show Blk (W1.alloc (oTk t)) W1.heap.size 70 (rTk t) from Blk.new rfl).below hb (by simp); have t2c := t2.cell; have q2c := HQ2.out.cell; have q2f := HQ2.out.frozen; clear hb t2)
  | (go_at_call 18; (with_reducible refine (cC.out _ HR2.out (hE.out.on (below_one HG2.out hblt))).mono ?_); rintro e W3 ⟨rfl, hg⟩; have HG3 := hid (HG2.out.trans hg); clear hg))
 exact ⟨rfl, rfl, HG3.out⟩
theorem pseudo_not_ok (b : Nat) (t : Tk) (M : List Tk) (ht : t.k ≠ 0 /\ t.val.length <= 400) (hk : t.k = 2) (hr : t.raw = t.val ++ [40]) (hv : lowP t.val = notT) (l : List Pa) (M2 : List Tk) (hc : ∀ w, RdrS w b M -> EnvS b w -> Calls Tryz.prog 18 #[(pn b), .string ⟨#[41]⟩] w (RetLs b w (some (l, M2)))) (w : World) (h : RdrS w b (t :: M)) (hE : EnvS b w) :
  Calls Tryz.prog 106 #[(pn b)] w (RetT b w (some (.mk 10 [] 0 [] 0 0 l, M2))) := by
 have cN1 := hid (fun w h => next_yes b t M ht.1 w h)
 have cL : ∀ w, Calls Tryz.prog 70 #[.string (bs t.val)] w (rt w (.string (bs (lowP t.val)))) := fun w => low_ct (bs t.val) (by rw [bs_size]; have := ht.2; omega) w
 rw [hv] at cL
 obtain ⟨v, hv3⟩ : ∃ v, v = notT := ⟨_, rfl⟩
 rw [<- hv3] at cL
 replace cL := hid cL
 clear hv
 have hv := hv3
 clear hv3
 have e_nth : ((bs v).toList == [110, 116, 104, 45, 99, 104, 105, 108, 100]) = false := by rw [bs_toList, beq_eq_false_iff_ne]; exact (by rw [hv]; decide)
 have e_nthl : ((bs v).toList == [110, 116, 104, 45, 108, 97, 115, 116, 45, 99, 104, 105, 108, 100]) = false := by rw [bs_toList, beq_eq_false_iff_ne]; exact (by rw [hv]; decide)
 have e_not : ((bs v).toList == [110, 111, 116]) = true := by rw [bs_toList, hv]; rfl
 clear hv
 have k1 : (t.k == 1) = false := by rw [hk]; rfl
 have k2 : (t.k == 2) = true := by rw [hk]; rfl
 have hcat : bs t.val ++ ⟨#[40]⟩ = bs (t.val ++ [40]) := bs_cat t.val [40]
 have hsz : (bs t.val).size = t.val.length := rfl
 have a1 : ¬ 9223372036854775807 < (bs t.val).size + 1 := by have := ht.2; omega
 have k2r : ((bs t.raw).toList == (bs (t.val ++ [40])).toList) = true := by rw [bs_toList, bs_toList, hr]; simp
 clear hk hr hsz
 unfold RetLs at hc
 have cC := hid hc
 clear hc
 have hblt := h.lt
 have H0 := hid (h.alloc oZ)
 have G0 := hid (World.grownBy_alloc w oZ (some b))
 have Q0 := hid (show Blk (w.alloc oZ) w.heap.size 26 rZ from Blk.new rfl)
 replace hE := hid hE
 clear h
 go_enter Tryz.func106, Tryz.ntmps106
 go_wp2_with (first
  | (go_at_call 59; (with_reducible refine (cN1.out _ H0.out).mono ?_); rintro e W1 ⟨rfl, hr, hg⟩; unfold tv; have HR1 := hid hr; have HG1 := hid (G0.out.trans hg); have HQ1 := hid (Blk_grown Q0.out hg (by omega)); have hq1 := HQ1.out.lt; clear hr hg)
  | (go_at_call 70; (with_reducible refine (cL.out _).mono ?_); rintro e W2 ⟨rfl, hb⟩; have HR2 := hid ((HR1.out.alloc (oTk t)).on hb (HR1.out.alloc (oTk t)).lt); have HG2 := hid ((HG1.out.trans (World.grownBy_alloc _ (oTk t) (some b))).trans (grown_of_below hb (some b))); have HQ2 := hid ((HQ1.out.alloc (oTk t)).below hb (HQ1.out.alloc (oTk t)).lt); have hq2 := HQ2.out.lt; have t2 := (show Blk (W1.alloc (oTk t)) W1.heap.size 70 (rTk t) from Blk.new rfl).below hb (by simp); have t2c := t2.cell; have q2c := HQ2.out.cell; have q2f := HQ2.out.frozen; clear hb t2)
  | (go_at_call 18; (with_reducible refine (cC.out _ HR2.out (hE.out.on (below_one HG2.out hblt))).mono ?_); rintro e W3 ⟨hg, ⟨A, cap, rfl, hp⟩, hr⟩; have hz2 := HG2.out.size; have hz3 := hg.size; have HP := hid hp; have HR3 := hid hr; have HG3 := hid (HG2.out.trans hg); have HQ3 := hid (Blk_grown HQ2.out hg (by omega)); have hq3 := HQ3.out.lt; have q3c := HQ3.out.cell; have q3f := HQ3.out.frozen; clear hr hg hp))
 have e := Blk.cell (blk_seven HQ3.out (.int .i64 10) (.string ⟨#[]⟩) (.int .u8 0) (.string ⟨#[]⟩) (.int .i64 0) (.int .i64 0) (.slice A l.length cap))
 have HP2 := HP.out.keep (Y := fun c => w.heap.size <= c) (w' := (((((((W3.setCell ⟨w.heap.size, 0, none⟩ (.int .i64 10)).setCell ⟨w.heap.size, 1, none⟩ (.string ⟨#[]⟩)).setCell ⟨w.heap.size, 2, none⟩ (.int .u8 0)).setCell ⟨w.heap.size, 3, none⟩ (.string ⟨#[]⟩)).setCell ⟨w.heap.size, 4, none⟩ (.int .i64 0)).setCell ⟨w.heap.size, 5, none⟩ (.int .i64 0)).setCell ⟨w.heap.size, 6, none⟩ (.slice A l.length cap))) (by simp [World.setCell]) (fun c (h : W2.heap.size <= c) _ => ⟨by omega, heap_seven _ _ _ _ _ _ _ _ _ c (by omega)⟩)
 refine bodyPost_ret (v := (aTs 10 ⟨#[]⟩ 0 ⟨#[]⟩ 0 0 A l.length cap)) (by simp [results, Tryz.results106, go_sem, e]) rfl (show RetT b w (some (.mk 10 [] 0 [] 0 0 l, M2)) _ _ from ⟨?_, ⟨_, rfl, ?_⟩, ?_⟩)
 ·exact grown_seven HG3.out (Nat.le_refl _) _ _ _ _ _ _ _
 ·rw [TsAt]
  exact ⟨A, cap, rfl, HP2.1, HP2.2⟩
 ·exact HR3.out.seven hblt _ _ _ _ _ _ _
theorem pseudo_is_bad (b : Nat) (t : Tk) (M : List Tk) (ht : t.k ≠ 0 /\ t.val.length <= 400) (hk : t.k = 2) (hr : t.raw = t.val ++ [40]) (hv : lowP t.val = isT) (hc : ∀ w, RdrS w b M -> EnvS b w -> Calls Tryz.prog 18 #[(pn b), .string ⟨#[41]⟩] w (RetLs b w none)) (w : World) (h : RdrS w b (t :: M)) (hE : EnvS b w) :
  Calls Tryz.prog 106 #[(pn b)] w fun e w' => e = .panicked chainN /\ w.grownBy w' (some b) := by
 have cN1 := hid (fun w h => next_yes b t M ht.1 w h)
 have cL : ∀ w, Calls Tryz.prog 70 #[.string (bs t.val)] w (rt w (.string (bs (lowP t.val)))) := fun w => low_ct (bs t.val) (by rw [bs_size]; have := ht.2; omega) w
 rw [hv] at cL
 obtain ⟨v, hv3⟩ : ∃ v, v = isT := ⟨_, rfl⟩
 rw [<- hv3] at cL
 replace cL := hid cL
 clear hv
 have hv := hv3
 clear hv3
 have e_nth : ((bs v).toList == [110, 116, 104, 45, 99, 104, 105, 108, 100]) = false := by rw [bs_toList, beq_eq_false_iff_ne]; exact (by rw [hv]; decide)
 have e_nthl : ((bs v).toList == [110, 116, 104, 45, 108, 97, 115, 116, 45, 99, 104, 105, 108, 100]) = false := by rw [bs_toList, beq_eq_false_iff_ne]; exact (by rw [hv]; decide)
 have e_not : ((bs v).toList == [110, 111, 116]) = false := by rw [bs_toList, beq_eq_false_iff_ne]; exact (by rw [hv]; decide)
 have e_is : ((bs v).toList == [105, 115]) = true := by rw [bs_toList, hv]; rfl
 clear hv
 have k1 : (t.k == 1) = false := by rw [hk]; rfl
 have k2 : (t.k == 2) = true := by rw [hk]; rfl
 have hcat : bs t.val ++ ⟨#[40]⟩ = bs (t.val ++ [40]) := bs_cat t.val [40]
 have hsz : (bs t.val).size = t.val.length := rfl
 have a1 : ¬ 9223372036854775807 < (bs t.val).size + 1 := by have := ht.2; omega
 have k2r : ((bs t.raw).toList == (bs (t.val ++ [40])).toList) = true := by rw [bs_toList, bs_toList, hr]; simp
 clear hk hr hsz
 unfold RetLs at hc
 have cC := hid hc
 clear hc
 have hblt := h.lt
 have H0 := hid (h.alloc oZ)
 have G0 := hid (World.grownBy_alloc w oZ (some b))
 have Q0 := hid (show Blk (w.alloc oZ) w.heap.size 26 rZ from Blk.new rfl)
 replace hE := hid hE
 clear h
 go_enter Tryz.func106, Tryz.ntmps106
 go_wp2_with (first
  | (go_at_call 59; (with_reducible refine (cN1.out _ H0.out).mono ?_); rintro e W1 ⟨rfl, hr, hg⟩; unfold tv; have HR1 := hid hr; have HG1 := hid (G0.out.trans hg); have HQ1 := hid (Blk_grown Q0.out hg (by omega)); have hq1 := HQ1.out.lt; clear hr hg)
  | (go_at_call 70; (with_reducible refine (cL.out _).mono ?_); rintro e W2 ⟨rfl, hb⟩; have HR2 := hid ((HR1.out.alloc (oTk t)).on hb (HR1.out.alloc (oTk t)).lt); have HG2 := hid ((HG1.out.trans (World.grownBy_alloc _ (oTk t) (some b))).trans (grown_of_below hb (some b))); have HQ2 := hid ((HQ1.out.alloc (oTk t)).below hb (HQ1.out.alloc (oTk t)).lt); have hq2 := HQ2.out.lt; have t2 := (show Blk (W1.alloc (oTk t)) W1.heap.size 70 (rTk t) from Blk.new rfl).below hb (by simp); have t2c := t2.cell; have q2c := HQ2.out.cell; have q2f := HQ2.out.frozen; clear hb t2)
  | (go_at_call 18; (with_reducible refine (cC.out _ HR2.out (hE.out.on (below_one HG2.out hblt))).mono ?_); rintro e W3 ⟨rfl, hg⟩; have HG3 := hid (HG2.out.trans hg); clear hg))
 exact ⟨rfl, rfl, HG3.out⟩
theorem pseudo_is_ok (b : Nat) (t : Tk) (M : List Tk) (ht : t.k ≠ 0 /\ t.val.length <= 400) (hk : t.k = 2) (hr : t.raw = t.val ++ [40]) (hv : lowP t.val = isT) (l : List Pa) (M2 : List Tk) (hc : ∀ w, RdrS w b M -> EnvS b w -> Calls Tryz.prog 18 #[(pn b), .string ⟨#[41]⟩] w (RetLs b w (some (l, M2)))) (w : World) (h : RdrS w b (t :: M)) (hE : EnvS b w) :
  Calls Tryz.prog 106 #[(pn b)] w (RetT b w (some (.mk 11 [] 0 [] 0 0 l, M2))) := by
 have cN1 := hid (fun w h => next_yes b t M ht.1 w h)
 have cL : ∀ w, Calls Tryz.prog 70 #[.string (bs t.val)] w (rt w (.string (bs (lowP t.val)))) := fun w => low_ct (bs t.val) (by rw [bs_size]; have := ht.2; omega) w
 rw [hv] at cL
 obtain ⟨v, hv3⟩ : ∃ v, v = isT := ⟨_, rfl⟩
 rw [<- hv3] at cL
 replace cL := hid cL
 clear hv
 have hv := hv3
 clear hv3
 have e_nth : ((bs v).toList == [110, 116, 104, 45, 99, 104, 105, 108, 100]) = false := by rw [bs_toList, beq_eq_false_iff_ne]; exact (by rw [hv]; decide)
 have e_nthl : ((bs v).toList == [110, 116, 104, 45, 108, 97, 115, 116, 45, 99, 104, 105, 108, 100]) = false := by rw [bs_toList, beq_eq_false_iff_ne]; exact (by rw [hv]; decide)
 have e_not : ((bs v).toList == [110, 111, 116]) = false := by rw [bs_toList, beq_eq_false_iff_ne]; exact (by rw [hv]; decide)
 have e_is : ((bs v).toList == [105, 115]) = true := by rw [bs_toList, hv]; rfl
 clear hv
 have k1 : (t.k == 1) = false := by rw [hk]; rfl
 have k2 : (t.k == 2) = true := by rw [hk]; rfl
 have hcat : bs t.val ++ ⟨#[40]⟩ = bs (t.val ++ [40]) := bs_cat t.val [40]
 have hsz : (bs t.val).size = t.val.length := rfl
 have a1 : ¬ 9223372036854775807 < (bs t.val).size + 1 := by have := ht.2; omega
 have k2r : ((bs t.raw).toList == (bs (t.val ++ [40])).toList) = true := by rw [bs_toList, bs_toList, hr]; simp
 clear hk hr hsz
 unfold RetLs at hc
 have cC := hid hc
 clear hc
 have hblt := h.lt
 have H0 := hid (h.alloc oZ)
 have G0 := hid (World.grownBy_alloc w oZ (some b))
 have Q0 := hid (show Blk (w.alloc oZ) w.heap.size 26 rZ from Blk.new rfl)
 replace hE := hid hE
 clear h
 go_enter Tryz.func106, Tryz.ntmps106
 go_wp2_with (first
  | (go_at_call 59; (with_reducible refine (cN1.out _ H0.out).mono ?_); rintro e W1 ⟨rfl, hr, hg⟩; unfold tv; have HR1 := hid hr; have HG1 := hid (G0.out.trans hg); have HQ1 := hid (Blk_grown Q0.out hg (by omega)); have hq1 := HQ1.out.lt; clear hr hg)
  | (go_at_call 70; (with_reducible refine (cL.out _).mono ?_); rintro e W2 ⟨rfl, hb⟩; have HR2 := hid ((HR1.out.alloc (oTk t)).on hb (HR1.out.alloc (oTk t)).lt); have HG2 := hid ((HG1.out.trans (World.grownBy_alloc _ (oTk t) (some b))).trans (grown_of_below hb (some b))); have HQ2 := hid ((HQ1.out.alloc (oTk t)).below hb (HQ1.out.alloc (oTk t)).lt); have hq2 := HQ2.out.lt; have t2 := (show Blk (W1.alloc (oTk t)) W1.heap.size 70 (rTk t) from Blk.new rfl).below hb (by simp); have t2c := t2.cell; have q2c := HQ2.out.cell; have q2f := HQ2.out.frozen; clear hb t2)
  | (go_at_call 18; (with_reducible refine (cC.out _ HR2.out (hE.out.on (below_one HG2.out hblt))).mono ?_); rintro e W3 ⟨hg, ⟨A, cap, rfl, hp⟩, hr⟩; have hz2 := HG2.out.size; have hz3 := hg.size; have HP := hid hp; have HR3 := hid hr; have HG3 := hid (HG2.out.trans hg); have HQ3 := hid (Blk_grown HQ2.out hg (by omega)); have hq3 := HQ3.out.lt; have q3c := HQ3.out.cell; have q3f := HQ3.out.frozen; clear hr hg hp))
 have e := Blk.cell (blk_seven HQ3.out (.int .i64 11) (.string ⟨#[]⟩) (.int .u8 0) (.string ⟨#[]⟩) (.int .i64 0) (.int .i64 0) (.slice A l.length cap))
 have HP2 := HP.out.keep (Y := fun c => w.heap.size <= c) (w' := (((((((W3.setCell ⟨w.heap.size, 0, none⟩ (.int .i64 11)).setCell ⟨w.heap.size, 1, none⟩ (.string ⟨#[]⟩)).setCell ⟨w.heap.size, 2, none⟩ (.int .u8 0)).setCell ⟨w.heap.size, 3, none⟩ (.string ⟨#[]⟩)).setCell ⟨w.heap.size, 4, none⟩ (.int .i64 0)).setCell ⟨w.heap.size, 5, none⟩ (.int .i64 0)).setCell ⟨w.heap.size, 6, none⟩ (.slice A l.length cap))) (by simp [World.setCell]) (fun c (h : W2.heap.size <= c) _ => ⟨by omega, heap_seven _ _ _ _ _ _ _ _ _ c (by omega)⟩)
 refine bodyPost_ret (v := (aTs 11 ⟨#[]⟩ 0 ⟨#[]⟩ 0 0 A l.length cap)) (by simp [results, Tryz.results106, go_sem, e]) rfl (show RetT b w (some (.mk 11 [] 0 [] 0 0 l, M2)) _ _ from ⟨?_, ⟨_, rfl, ?_⟩, ?_⟩)
 ·exact grown_seven HG3.out (Nat.le_refl _) _ _ _ _ _ _ _
 ·rw [TsAt]
  exact ⟨A, cap, rfl, HP2.1, HP2.2⟩
 ·exact HR3.out.seven hblt _ _ _ _ _ _ _
end sel
end Go.Proofs.YtaobpkffcolobaaGreatDoor
