/- Contracts and plain law, a bundle. -/
import Derived.Lib.Hide
import Derived.Test.YtaobpkffcolobaaGreatDoorBE1
set_option linter.unusedVariables false
set_option maxRecDepth 100000
set_option maxHeartbeats 16000000
open Go.Lib (hid)
namespace Go.Proofs.YtaobpkffcolobaaGreatDoor
namespace sel
open Go.RowKit base tok rul
def ListC (N : Nat) : Prop := ∀ (b : Nat) (shut : Bool) (L : List Tk) (d : Nat) (w : World), L.length <= N -> GoodS L -> 6 * L.length + 4 <= d -> RdrS w b L -> EnvS b w ->
 Calls Tryz.prog 18 #[(pn b), .string (if shut then ⟨#[41]⟩ else ⟨#[]⟩)] w (RetLs b w (listF d shut [] L))
def PseC (N : Nat) : Prop := ∀ (b : Nat) (L : List Tk) (d : Nat) (w : World), L.length <= N -> GoodS L -> 6 * L.length + 1 <= d -> RdrS w b L -> EnvS b w ->
 Calls Tryz.prog 106 #[(pn b)] w (RetT b w (pseudoF d L))
theorem ret_leaf {b : Nat} {w w' : World} {k : Int} {n : Bs} {op : UInt8} {v : Bs} {a c : Int} {M : List Tk} {e : Ending} (h : e = .returned (leafV (.mk k n op v a c [])) /\ RdrS w' b M /\ w.grownBy w' (some b)) : RetT b w (some (.mk k n op v a c [], M)) e w' :=
 ⟨h.2.2, ⟨_, h.1, ts_leaf _ _ _ _ _ _ _ _⟩, h.2.1⟩
theorem counted_form {k : Int} {L M : List Tk} {t : Ts} (h : countedF k L = some (t, M)) : ∃ p q, t = .mk k [] 0 [] p q [] := by
 unfold countedF at h
 obtain ⟨⟨s, K⟩, _, h1⟩ := bind_some' h
 obtain ⟨p, _, h2⟩ := map_some' h1
 obtain ⟨rfl, _⟩ := Prod.mk.inj h2
 exact ⟨p.1, p.2, rfl⟩
theorem pseudo_ct (N : Nat) (hLC : ListC N) : PseC (N + 1) := by
 intro b L d w hl hg hd h hE
 obtain ⟨d, rfl⟩ : ∃ e, d = e + 1 := ⟨d - 1, by omega⟩
 cases L with
 | nil =>
  rw [pseudoF]
  exact (pseudo_nil b w h hE).mono fun e w' h => h
 | cons t M =>
  have ht0 := hg.2 t (List.mem_cons_self ..)
  have ht : t.k ≠ 0 /\ t.val.length <= 400 := ⟨ht0.1, ht0.2.2.2⟩
  have hgm := hg.tail
  simp only [List.length_cons] at hl hd
  have hlist := fun w h hE => hLC b true M d w (by omega) hgm (by omega) h hE
  rw [if_pos rfl] at hlist
  rw [pseudoF]
  by_cases h1 : t.k = 1 /\ t.raw = t.val
  ·rw [if_pos h1]
   obtain ⟨hk, hr⟩ := h1
   unfold pseudoN
   by_cases e1 : lowP t.val = rootT
   ·rw [if_pos e1]
    exact (pseudo_root b t M ht hk hr e1 w h hE).mono fun e w' h => ret_leaf h
   ·rw [if_neg e1]
    by_cases e2 : lowP t.val = emptyT
    ·rw [if_pos e2]
     exact (pseudo_empty b t M ht hk hr e2 w h hE).mono fun e w' h => ret_leaf h
    ·rw [if_neg e2]
     by_cases e3 : lowP t.val = firstT
     ·rw [if_pos e3]
      exact (pseudo_first b t M ht hk hr e3 w h hE).mono fun e w' h => ret_leaf h
     ·rw [if_neg e3]
      by_cases e4 : lowP t.val = lastT
      ·rw [if_pos e4]
       exact (pseudo_last b t M ht hk hr e4 w h hE).mono fun e w' h => ret_leaf h
      ·rw [if_neg e4]
       exact (pseudo_noname b t M ht hk hr e1 e2 e3 e4 w h hE).mono fun e w' h => h
  ·rw [if_neg h1]
   by_cases h2 : t.k = 2 /\ t.raw = t.val ++ [40]
   ·rw [if_pos h2]
    obtain ⟨hk, hr⟩ := h2
    by_cases e1 : lowP t.val = nthT
    ·rw [if_pos e1]
     cases hc : countedF 8 M with
     | none => exact (pseudo_nth_bad b t M ht hgm hk hr e1 hc w h hE).mono fun e w' h => h
     | some r =>
      obtain ⟨x, M2⟩ := r
      obtain ⟨p, q, rfl⟩ := counted_form hc
      exact (pseudo_nth_ok b t M ht hgm hk hr e1 p q M2 hc w h hE).mono fun e w' h => ret_leaf h
    ·rw [if_neg e1]
     by_cases e2 : lowP t.val = nthLastT
     ·rw [if_pos e2]
      cases hc : countedF 9 M with
      | none => exact (pseudo_nthl_bad b t M ht hgm hk hr e2 hc w h hE).mono fun e w' h => h
      | some r =>
       obtain ⟨x, M2⟩ := r
       obtain ⟨p, q, rfl⟩ := counted_form hc
       exact (pseudo_nthl_ok b t M ht hgm hk hr e2 p q M2 hc w h hE).mono fun e w' h => ret_leaf h
     ·rw [if_neg e2]
      by_cases e3 : lowP t.val = notT
      ·rw [if_pos e3]
       cases hc : listF d true [] M with
       | none =>
        rw [hc] at hlist
        exact (pseudo_not_bad b t M ht hk hr e3 hlist w h hE).mono fun e w' h => h
       | some r =>
        obtain ⟨l, M2⟩ := r
        rw [hc] at hlist
        exact pseudo_not_ok b t M ht hk hr e3 l M2 hlist w h hE
      ·rw [if_neg e3]
       by_cases e4 : lowP t.val = isT
       ·rw [if_pos e4]
        cases hc : listF d true [] M with
        | none =>
         rw [hc] at hlist
         exact (pseudo_is_bad b t M ht hk hr e4 hlist w h hE).mono fun e w' h => h
        | some r =>
         obtain ⟨l, M2⟩ := r
         rw [hc] at hlist
         exact pseudo_is_ok b t M ht hk hr e4 l M2 hlist w h hE
       ·rw [if_neg e4]
        exact (pseudo_nofunc b t M ht hk hr e1 e2 e3 e4 w h hE).mono fun e w' h => h
   ·rw [if_neg h2]
    by_cases k1 : t.k = 1
    ·exact (pseudo_raw1 b t M ht k1 (fun e => h1 ⟨k1, e⟩) w h hE).mono fun e w' h => h
    ·by_cases k2 : t.k = 2
     ·exact (pseudo_raw2 b t M ht k2 (fun e => h2 ⟨k2, e⟩) w h hE).mono fun e w' h => h
     ·exact (pseudo_kind b t M ht k1 k2 w h hE).mono fun e w' h => h
end sel
namespace sel
open Go.RowKit base tok rul
def zeroT : Value := (aTs 0 ⟨#[]⟩ 0 ⟨#[]⟩ 0 0 none 0 0)
def RetO (b : Nat) (w : World) : Option (Option Ts × List Tk) -> Ending -> World -> Prop
 | some (some t, M), e, w' => w.grownBy w' (some b) /\ (∃ xs : List Value, e = .returned (.tuple #[.agg xs.toArray, .bool true]) /\ TsAt (fun c => w.heap.size <= c) w' t xs) /\ RdrS w' b M
 | some (none, M), e, w' => w.grownBy w' (some b) /\ e = .returned (.tuple #[zeroT, .bool false]) /\ RdrS w' b M
 | none, e, w' => e = .panicked chainN /\ w.grownBy w' (some b)
theorem one_star (b : Nat) (t : Tk) (M : List Tk) (ht : t.k ≠ 0 /\ t.val.length <= 400) (h_star : t.raw = [42]) (w : World) (h : RdrS w b (t :: M)) (hE : EnvS b w) :
  Calls Tryz.prog 87 #[(pn b)] w (RetO b w (some (some (ts 1 []), M))) := by
 have cP : ∀ w, RdrS w b (t :: M) -> Calls Tryz.prog 57 #[(pn b)] w (rt w (aTk t)) := fun w h => peek_ct b (t :: M) w h
 replace cP := hid cP
 have cN1 := hid (fun w h => next_yes b t M ht.1 w h)
 have e_star : ((bs t.raw).toList == [42]) = true := by rw [bs_toList, h_star]; rfl
 clear h_star
 have hblt := h.lt
 have H0 := hid (h.alloc oZ)
 have G0 := hid (World.grownBy_alloc w oZ (some b))
 have Q0 := hid (show Blk (w.alloc oZ) w.heap.size 26 rZ from Blk.new rfl)
 replace hE := hid hE
 clear h
 go_enter Tryz.func87, Tryz.ntmps87
 go_wp2_with (first
  | (go_at_call 57; (with_reducible refine (cP.out _ H0.out).mono ?_); rintro e W1 ⟨rfl, hb⟩; have HR1 := hid (H0.out.on hb H0.out.lt); have HG1 := hid (G0.out.trans (grown_of_below hb (some b))); have HQ1 := hid (Q0.out.below hb Q0.out.lt); have hq1 := HQ1.out.lt; have q1c := HQ1.out.cell; have q1f := HQ1.out.frozen; clear hb)
  | (go_at_call 59; (with_reducible refine (cN1.out _ (HR1.out.alloc (oTk t))).mono ?_); rintro e W2 ⟨rfl, hr, hg⟩; unfold tv; have HR2 := hid hr; have HG2 := hid ((HG1.out.trans (World.grownBy_alloc _ (oTk t) (some b))).trans hg); have HQ2 := hid (Blk_grown (HQ1.out.alloc (oTk t)) hg (by omega)); have hq2 := HQ2.out.lt; clear hr hg; have q2c := HQ2.out.cell; have q2f := HQ2.out.frozen))
 have e := Blk.cell (blk_seven HQ2.out (.int .i64 1) (.string ⟨#[]⟩) (.int .u8 0) (.string ⟨#[]⟩) (.int .i64 0) (.int .i64 0) (.slice none 0 0))
 refine bodyPost_ret (v := .tuple #[(aTs 1 ⟨#[]⟩ 0 ⟨#[]⟩ 0 0 none 0 0), .bool true]) (by simp [results, Tryz.results87, go_sem, e]) rfl (show RetO b w (some (some (ts 1 []), M)) _ _ from ⟨?_, ⟨_, rfl, ts_leaf _ _ _ _ _ _ _ _⟩, ?_⟩)
 ·exact grown_seven HG2.out (Nat.le_refl _) _ _ _ _ _ _ _
 ·exact HR2.out.seven hblt _ _ _ _ _ _ _
theorem one_name_bad (b : Nat) (t : Tk) (M : List Tk) (ht : t.k ≠ 0 /\ t.val.length <= 400) (n_star : t.raw ≠ [42]) (h_name : t.k = 1) (hx : wordF t 1 [] = none) (w : World) (h : RdrS w b (t :: M)) (hE : EnvS b w) :
  Calls Tryz.prog 87 #[(pn b)] w fun e w' => e = .panicked chainN /\ w.grownBy w' (some b) := by
 have cP : ∀ w, RdrS w b (t :: M) -> Calls Tryz.prog 57 #[(pn b)] w (rt w (aTk t)) := fun w h => peek_ct b (t :: M) w h
 replace cP := hid cP
 have cN1 := hid (fun w h => next_yes b t M ht.1 w h)
 have e_star : ((bs t.raw).toList == [42]) = false := by rw [bs_toList, beq_eq_false_iff_ne]; exact n_star
 have e_name : (t.k == 1) = true := by rw [h_name]; rfl
 clear n_star h_name
 have cW : ∀ w, MaxL w -> Calls Tryz.prog 104 #[(pn b), (aTk t), .int .i64 1, .string ⟨#[]⟩] w fun e w' => e = .panicked chainN /\ Below w.heap.size w w' := fun w hm => by
  have h := word_ct b t 1 [] (by decide) ht.2 w hm
  rw [hx] at h
  exact h
 replace cW := hid cW
 have hblt := h.lt
 have H0 := hid (h.alloc oZ)
 have G0 := hid (World.grownBy_alloc w oZ (some b))
 have Q0 := hid (show Blk (w.alloc oZ) w.heap.size 26 rZ from Blk.new rfl)
 replace hE := hid hE
 clear h
 go_enter Tryz.func87, Tryz.ntmps87
 go_wp2_with (first
  | (go_at_call 57; (with_reducible refine (cP.out _ H0.out).mono ?_); rintro e W1 ⟨rfl, hb⟩; have HR1 := hid (H0.out.on hb H0.out.lt); have HG1 := hid (G0.out.trans (grown_of_below hb (some b))); have HQ1 := hid (Q0.out.below hb Q0.out.lt); have hq1 := HQ1.out.lt; have q1c := HQ1.out.cell; have q1f := HQ1.out.frozen; clear hb)
  | (go_at_call 59; (with_reducible refine (cN1.out _ (HR1.out.alloc (oTk t))).mono ?_); rintro e W2 ⟨rfl, hr, hg⟩; unfold tv; have HR2 := hid hr; have HG2 := hid ((HG1.out.trans (World.grownBy_alloc _ (oTk t) (some b))).trans hg); have HQ2 := hid (Blk_grown (HQ1.out.alloc (oTk t)) hg (by omega)); have hq2 := HQ2.out.lt; clear hr hg)
  | (go_at_call 104; (with_reducible refine (cW.out _ (hE.out.at_ (below_one HG2.out hblt)).max).mono ?_); rintro e WX ⟨rfl, hb⟩; have HGX := hid (HG2.out.trans (grown_of_below hb (some b))); clear hb))
 exact ⟨rfl, rfl, HGX.out⟩
theorem one_name_ok (b : Nat) (t : Tk) (M : List Tk) (ht : t.k ≠ 0 /\ t.val.length <= 400) (n_star : t.raw ≠ [42]) (h_name : t.k = 1) (x : Bs) (hx : wordF t 1 [] = some x) (w : World) (h : RdrS w b (t :: M)) (hE : EnvS b w) :
  Calls Tryz.prog 87 #[(pn b)] w (RetO b w (some (some (ts 2 (lowP x)), M))) := by
 have cP : ∀ w, RdrS w b (t :: M) -> Calls Tryz.prog 57 #[(pn b)] w (rt w (aTk t)) := fun w h => peek_ct b (t :: M) w h
 replace cP := hid cP
 have cN1 := hid (fun w h => next_yes b t M ht.1 w h)
 have e_star : ((bs t.raw).toList == [42]) = false := by rw [bs_toList, beq_eq_false_iff_ne]; exact n_star
 have e_name : (t.k == 1) = true := by rw [h_name]; rfl
 clear n_star h_name
 have cW : ∀ w, MaxL w -> Calls Tryz.prog 104 #[(pn b), (aTk t), .int .i64 1, .string ⟨#[]⟩] w (rt w (.string (bs x))) := fun w hm => by
  have h := word_ct b t 1 [] (by decide) ht.2 w hm
  rw [hx] at h
  exact h
 replace cW := hid cW
 have cL : ∀ w, Calls Tryz.prog 70 #[.string (bs x)] w (rt w (.string (bs (lowP x)))) := fun w => low_ct (bs x) (by rw [bs_size]; have := word_len hx ht.2; omega) w
 replace cL := hid cL
 have hblt := h.lt
 have H0 := hid (h.alloc oZ)
 have G0 := hid (World.grownBy_alloc w oZ (some b))
 have Q0 := hid (show Blk (w.alloc oZ) w.heap.size 26 rZ from Blk.new rfl)
 replace hE := hid hE
 clear h
 go_enter Tryz.func87, Tryz.ntmps87
 go_wp2_with (first
  | (go_at_call 57; (with_reducible refine (cP.out _ H0.out).mono ?_); rintro e W1 ⟨rfl, hb⟩; have HR1 := hid (H0.out.on hb H0.out.lt); have HG1 := hid (G0.out.trans (grown_of_below hb (some b))); have HQ1 := hid (Q0.out.below hb Q0.out.lt); have hq1 := HQ1.out.lt; have q1c := HQ1.out.cell; have q1f := HQ1.out.frozen; clear hb)
  | (go_at_call 59; (with_reducible refine (cN1.out _ (HR1.out.alloc (oTk t))).mono ?_); rintro e W2 ⟨rfl, hr, hg⟩; unfold tv; have HR2 := hid hr; have HG2 := hid ((HG1.out.trans (World.grownBy_alloc _ (oTk t) (some b))).trans hg); have HQ2 := hid (Blk_grown (HQ1.out.alloc (oTk t)) hg (by omega)); have hq2 := HQ2.out.lt; clear hr hg)
  | (go_at_call 104; (with_reducible refine (cW.out _ (hE.out.at_ (below_one HG2.out hblt)).max).mono ?_); rintro e W3 ⟨rfl, hb⟩; have HR3 := hid (HR2.out.on hb HR2.out.lt); have HG3 := hid (HG2.out.trans (grown_of_below hb (some b))); have HQ3 := hid (HQ2.out.below hb HQ2.out.lt); have hq3 := HQ3.out.lt; clear hb; have q3c := HQ3.out.cell; have q3f := HQ3.out.frozen)
  | (go_at_call 70; (with_reducible refine (cL.out _).mono ?_); rintro e W4 ⟨rfl, hb⟩; have HR4 := hid (HR3.out.on hb HR3.out.lt); have HG4 := hid (HG3.out.trans (grown_of_below hb (some b))); have HQ4 := hid (HQ3.out.below hb HQ3.out.lt); have hq4 := HQ4.out.lt; clear hb; have q4c := HQ4.out.cell; have q4f := HQ4.out.frozen))
 have e := Blk.cell (blk_seven HQ4.out (.int .i64 2) (.string (bs (lowP x))) (.int .u8 0) (.string ⟨#[]⟩) (.int .i64 0) (.int .i64 0) (.slice none 0 0))
 refine bodyPost_ret (v := .tuple #[(aTs 2 (bs (lowP x)) 0 ⟨#[]⟩ 0 0 none 0 0), .bool true]) (by simp [results, Tryz.results87, go_sem, e]) rfl (show RetO b w (some (some (ts 2 (lowP x)), M)) _ _ from ⟨?_, ⟨_, rfl, ts_leaf _ _ _ _ _ _ _ _⟩, ?_⟩)
 ·exact grown_seven HG4.out (Nat.le_refl _) _ _ _ _ _ _ _
 ·exact HR4.out.seven hblt _ _ _ _ _ _ _
theorem one_hash_bad (b : Nat) (t : Tk) (M : List Tk) (ht : t.k ≠ 0 /\ t.val.length <= 400) (n_star : t.raw ≠ [42]) (n_name : t.k ≠ 1) (h_hash : t.k = 4) (hx : wordF t 4 [35] = none) (w : World) (h : RdrS w b (t :: M)) (hE : EnvS b w) :
  Calls Tryz.prog 87 #[(pn b)] w fun e w' => e = .panicked chainN /\ w.grownBy w' (some b) := by
 have cP : ∀ w, RdrS w b (t :: M) -> Calls Tryz.prog 57 #[(pn b)] w (rt w (aTk t)) := fun w h => peek_ct b (t :: M) w h
 replace cP := hid cP
 have cN1 := hid (fun w h => next_yes b t M ht.1 w h)
 have e_star : ((bs t.raw).toList == [42]) = false := by rw [bs_toList, beq_eq_false_iff_ne]; exact n_star
 have e_name : (t.k == 1) = false := bq n_name
 have e_hash : (t.k == 4) = true := by rw [h_hash]; rfl
 clear n_star n_name h_hash
 have cW : ∀ w, MaxL w -> Calls Tryz.prog 104 #[(pn b), (aTk t), .int .i64 4, .string ⟨#[35]⟩] w fun e w' => e = .panicked chainN /\ Below w.heap.size w w' := fun w hm => by
  have h := word_ct b t 4 [35] (by decide) ht.2 w hm
  rw [hx] at h
  exact h
 replace cW := hid cW
 have hblt := h.lt
 have H0 := hid (h.alloc oZ)
 have G0 := hid (World.grownBy_alloc w oZ (some b))
 have Q0 := hid (show Blk (w.alloc oZ) w.heap.size 26 rZ from Blk.new rfl)
 replace hE := hid hE
 clear h
 go_enter Tryz.func87, Tryz.ntmps87
 go_wp2_with (first
  | (go_at_call 57; (with_reducible refine (cP.out _ H0.out).mono ?_); rintro e W1 ⟨rfl, hb⟩; have HR1 := hid (H0.out.on hb H0.out.lt); have HG1 := hid (G0.out.trans (grown_of_below hb (some b))); have HQ1 := hid (Q0.out.below hb Q0.out.lt); have hq1 := HQ1.out.lt; have q1c := HQ1.out.cell; have q1f := HQ1.out.frozen; clear hb)
  | (go_at_call 59; (with_reducible refine (cN1.out _ (HR1.out.alloc (oTk t))).mono ?_); rintro e W2 ⟨rfl, hr, hg⟩; unfold tv; have HR2 := hid hr; have HG2 := hid ((HG1.out.trans (World.grownBy_alloc _ (oTk t) (some b))).trans hg); have HQ2 := hid (Blk_grown (HQ1.out.alloc (oTk t)) hg (by omega)); have hq2 := HQ2.out.lt; clear hr hg)
  | (go_at_call 104; (with_reducible refine (cW.out _ (hE.out.at_ (below_one HG2.out hblt)).max).mono ?_); rintro e WX ⟨rfl, hb⟩; have HGX := hid (HG2.out.trans (grown_of_below hb (some b))); clear hb))
 exact ⟨rfl, rfl, HGX.out⟩
theorem one_hash_ok (b : Nat) (t : Tk) (M : List Tk) (ht : t.k ≠ 0 /\ t.val.length <= 400) (n_star : t.raw ≠ [42]) (n_name : t.k ≠ 1) (h_hash : t.k = 4) (x : Bs) (hx : wordF t 4 [35] = some x) (w : World) (h : RdrS w b (t :: M)) (hE : EnvS b w) :
  Calls Tryz.prog 87 #[(pn b)] w (RetO b w (some (some (ts 3 x), M))) := by
 have cP : ∀ w, RdrS w b (t :: M) -> Calls Tryz.prog 57 #[(pn b)] w (rt w (aTk t)) := fun w h => peek_ct b (t :: M) w h
 replace cP := hid cP
 have cN1 := hid (fun w h => next_yes b t M ht.1 w h)
 have e_star : ((bs t.raw).toList == [42]) = false := by rw [bs_toList, beq_eq_false_iff_ne]; exact n_star
 have e_name : (t.k == 1) = false := bq n_name
 have e_hash : (t.k == 4) = true := by rw [h_hash]; rfl
 clear n_star n_name h_hash
 have cW : ∀ w, MaxL w -> Calls Tryz.prog 104 #[(pn b), (aTk t), .int .i64 4, .string ⟨#[35]⟩] w (rt w (.string (bs x))) := fun w hm => by
  have h := word_ct b t 4 [35] (by decide) ht.2 w hm
  rw [hx] at h
  exact h
 replace cW := hid cW
 have hblt := h.lt
 have H0 := hid (h.alloc oZ)
 have G0 := hid (World.grownBy_alloc w oZ (some b))
 have Q0 := hid (show Blk (w.alloc oZ) w.heap.size 26 rZ from Blk.new rfl)
 replace hE := hid hE
 clear h
 go_enter Tryz.func87, Tryz.ntmps87
 go_wp2_with (first
  | (go_at_call 57; (with_reducible refine (cP.out _ H0.out).mono ?_); rintro e W1 ⟨rfl, hb⟩; have HR1 := hid (H0.out.on hb H0.out.lt); have HG1 := hid (G0.out.trans (grown_of_below hb (some b))); have HQ1 := hid (Q0.out.below hb Q0.out.lt); have hq1 := HQ1.out.lt; have q1c := HQ1.out.cell; have q1f := HQ1.out.frozen; clear hb)
  | (go_at_call 59; (with_reducible refine (cN1.out _ (HR1.out.alloc (oTk t))).mono ?_); rintro e W2 ⟨rfl, hr, hg⟩; unfold tv; have HR2 := hid hr; have HG2 := hid ((HG1.out.trans (World.grownBy_alloc _ (oTk t) (some b))).trans hg); have HQ2 := hid (Blk_grown (HQ1.out.alloc (oTk t)) hg (by omega)); have hq2 := HQ2.out.lt; clear hr hg)
  | (go_at_call 104; (with_reducible refine (cW.out _ (hE.out.at_ (below_one HG2.out hblt)).max).mono ?_); rintro e W3 ⟨rfl, hb⟩; have HR3 := hid (HR2.out.on hb HR2.out.lt); have HG3 := hid (HG2.out.trans (grown_of_below hb (some b))); have HQ3 := hid (HQ2.out.below hb HQ2.out.lt); have hq3 := HQ3.out.lt; clear hb; have q3c := HQ3.out.cell; have q3f := HQ3.out.frozen))
 have e := Blk.cell (blk_seven HQ3.out (.int .i64 3) (.string (bs x)) (.int .u8 0) (.string ⟨#[]⟩) (.int .i64 0) (.int .i64 0) (.slice none 0 0))
 refine bodyPost_ret (v := .tuple #[(aTs 3 (bs x) 0 ⟨#[]⟩ 0 0 none 0 0), .bool true]) (by simp [results, Tryz.results87, go_sem, e]) rfl (show RetO b w (some (some (ts 3 x), M)) _ _ from ⟨?_, ⟨_, rfl, ts_leaf _ _ _ _ _ _ _ _⟩, ?_⟩)
 ·exact grown_seven HG3.out (Nat.le_refl _) _ _ _ _ _ _ _
 ·exact HR3.out.seven hblt _ _ _ _ _ _ _
theorem one_dot_end (b : Nat) (t : Tk) (ht : t.k ≠ 0 /\ t.val.length <= 400) (n_star : t.raw ≠ [42]) (n_name : t.k ≠ 1) (n_hash : t.k ≠ 4) (h_dot : t.raw = [46]) (w : World) (h : RdrS w b [t]) (hE : EnvS b w) :
  Calls Tryz.prog 87 #[(pn b)] w fun e w' => e = .panicked chainN /\ w.grownBy w' (some b) := by
 have cP : ∀ w, RdrS w b (t :: []) -> Calls Tryz.prog 57 #[(pn b)] w (rt w (aTk t)) := fun w h => peek_ct b (t :: []) w h
 replace cP := hid cP
 have cN1 := hid (fun w h => next_yes b t [] ht.1 w h)
 have e_star : ((bs t.raw).toList == [42]) = false := by rw [bs_toList, beq_eq_false_iff_ne]; exact n_star
 have e_name : (t.k == 1) = false := bq n_name
 have e_hash : (t.k == 4) = false := bq n_hash
 have e_dot : ((bs t.raw).toList == [46]) = true := by rw [bs_toList, h_dot]; rfl
 clear n_star n_name n_hash h_dot
 have cN2 := hid (fun w h => next_no b w h)
 have hblt := h.lt
 have H0 := hid (h.alloc oZ)
 have G0 := hid (World.grownBy_alloc w oZ (some b))
 have Q0 := hid (show Blk (w.alloc oZ) w.heap.size 26 rZ from Blk.new rfl)
 replace hE := hid hE
 clear h
 go_enter Tryz.func87, Tryz.ntmps87
 go_wp2_with (first
  | (go_at_call 57; (with_reducible refine (cP.out _ H0.out).mono ?_); rintro e W1 ⟨rfl, hb⟩; have HR1 := hid (H0.out.on hb H0.out.lt); have HG1 := hid (G0.out.trans (grown_of_below hb (some b))); have HQ1 := hid (Q0.out.below hb Q0.out.lt); have hq1 := HQ1.out.lt; have q1c := HQ1.out.cell; have q1f := HQ1.out.frozen; clear hb)
  | (go_at_call 59; (with_reducible refine (cN1.out _ (HR1.out.alloc (oTk t))).mono ?_); rintro e W2 ⟨rfl, hr, hg⟩; unfold tv; have HR2 := hid hr; have HG2 := hid ((HG1.out.trans (World.grownBy_alloc _ (oTk t) (some b))).trans hg); have HQ2 := hid (Blk_grown (HQ1.out.alloc (oTk t)) hg (by omega)); have hq2 := HQ2.out.lt; clear hr hg)
  | (go_at_call 59; (with_reducible refine (cN2.out _ HR2.out).mono ?_); rintro e WX ⟨rfl, hg⟩; have HGX := hid (HG2.out.trans hg); clear hg))
 exact ⟨rfl, rfl, HGX.out⟩
theorem one_dot_bad (b : Nat) (t : Tk) (ht : t.k ≠ 0 /\ t.val.length <= 400) (u : Tk) (M : List Tk) (hu : u.k ≠ 0 /\ u.val.length <= 400) (n_star : t.raw ≠ [42]) (n_name : t.k ≠ 1) (n_hash : t.k ≠ 4) (h_dot : t.raw = [46]) (hx : wordF u 1 [] = none) (w : World) (h : RdrS w b (t :: u :: M)) (hE : EnvS b w) :
  Calls Tryz.prog 87 #[(pn b)] w fun e w' => e = .panicked chainN /\ w.grownBy w' (some b) := by
 have cP : ∀ w, RdrS w b (t :: (u :: M)) -> Calls Tryz.prog 57 #[(pn b)] w (rt w (aTk t)) := fun w h => peek_ct b (t :: (u :: M)) w h
 replace cP := hid cP
 have cN1 := hid (fun w h => next_yes b t (u :: M) ht.1 w h)
 have e_star : ((bs t.raw).toList == [42]) = false := by rw [bs_toList, beq_eq_false_iff_ne]; exact n_star
 have e_name : (t.k == 1) = false := bq n_name
 have e_hash : (t.k == 4) = false := bq n_hash
 have e_dot : ((bs t.raw).toList == [46]) = true := by rw [bs_toList, h_dot]; rfl
 clear n_star n_name n_hash h_dot
 have cN2 := hid (fun w h => next_yes b u M hu.1 w h)
 have cW : ∀ w, MaxL w -> Calls Tryz.prog 104 #[(pn b), (aTk u), .int .i64 1, .string ⟨#[]⟩] w fun e w' => e = .panicked chainN /\ Below w.heap.size w w' := fun w hm => by
  have h := word_ct b u 1 [] (by decide) hu.2 w hm
  rw [hx] at h
  exact h
 replace cW := hid cW
 have hblt := h.lt
 have H0 := hid (h.alloc oZ)
 have G0 := hid (World.grownBy_alloc w oZ (some b))
 have Q0 := hid (show Blk (w.alloc oZ) w.heap.size 26 rZ from Blk.new rfl)
 replace hE := hid hE
 clear h
 go_enter Tryz.func87, Tryz.ntmps87
 go_wp2_with (first
  | (go_at_call 57; (with_reducible refine (cP.out _ H0.out).mono ?_); rintro e W1 ⟨rfl, hb⟩; have HR1 := hid (H0.out.on hb H0.out.lt); have HG1 := hid (G0.out.trans (grown_of_below hb (some b))); have HQ1 := hid (Q0.out.below hb Q0.out.lt); have hq1 := HQ1.out.lt; have q1c := HQ1.out.cell; have q1f := HQ1.out.frozen; clear hb)
  | (go_at_call 59; (with_reducible refine (cN1.out _ (HR1.out.alloc (oTk t))).mono ?_); rintro e W2 ⟨rfl, hr, hg⟩; unfold tv; have HR2 := hid hr; have HG2 := hid ((HG1.out.trans (World.grownBy_alloc _ (oTk t) (some b))).trans hg); have HQ2 := hid (Blk_grown (HQ1.out.alloc (oTk t)) hg (by omega)); have hq2 := HQ2.out.lt; clear hr hg)
  | (go_at_call 59; (with_reducible refine (cN2.out _ HR2.out).mono ?_); rintro e W3 ⟨rfl, hr, hg⟩; unfold tv; have HR3 := hid hr; have HG3 := hid (HG2.out.trans hg); have HQ3 := hid (Blk_grown HQ2.out hg (by omega)); have hq3 := HQ3.out.lt; clear hr hg)
  | (go_at_call 104; (with_reducible refine (cW.out _ (hE.out.at_ (below_one HG3.out hblt)).max).mono ?_); rintro e WX ⟨rfl, hb⟩; have HGX := hid (HG3.out.trans (grown_of_below hb (some b))); clear hb))
 exact ⟨rfl, rfl, HGX.out⟩
theorem one_dot_ok (b : Nat) (t : Tk) (ht : t.k ≠ 0 /\ t.val.length <= 400) (u : Tk) (M : List Tk) (hu : u.k ≠ 0 /\ u.val.length <= 400) (n_star : t.raw ≠ [42]) (n_name : t.k ≠ 1) (n_hash : t.k ≠ 4) (h_dot : t.raw = [46]) (x : Bs) (hx : wordF u 1 [] = some x) (w : World) (h : RdrS w b (t :: u :: M)) (hE : EnvS b w) :
  Calls Tryz.prog 87 #[(pn b)] w (RetO b w (some (some (ts 4 x), M))) := by
 have cP : ∀ w, RdrS w b (t :: (u :: M)) -> Calls Tryz.prog 57 #[(pn b)] w (rt w (aTk t)) := fun w h => peek_ct b (t :: (u :: M)) w h
 replace cP := hid cP
 have cN1 := hid (fun w h => next_yes b t (u :: M) ht.1 w h)
 have e_star : ((bs t.raw).toList == [42]) = false := by rw [bs_toList, beq_eq_false_iff_ne]; exact n_star
 have e_name : (t.k == 1) = false := bq n_name
 have e_hash : (t.k == 4) = false := bq n_hash
 have e_dot : ((bs t.raw).toList == [46]) = true := by rw [bs_toList, h_dot]; rfl
 clear n_star n_name n_hash h_dot
 have cN2 := hid (fun w h => next_yes b u M hu.1 w h)
 have cW : ∀ w, MaxL w -> Calls Tryz.prog 104 #[(pn b), (aTk u), .int .i64 1, .string ⟨#[]⟩] w (rt w (.string (bs x))) := fun w hm => by
  have h := word_ct b u 1 [] (by decide) hu.2 w hm
  rw [hx] at h
  exact h
 replace cW := hid cW
 have hblt := h.lt
 have H0 := hid (h.alloc oZ)
 have G0 := hid (World.grownBy_alloc w oZ (some b))
 have Q0 := hid (show Blk (w.alloc oZ) w.heap.size 26 rZ from Blk.new rfl)
 replace hE := hid hE
 clear h
 go_enter Tryz.func87, Tryz.ntmps87
 go_wp2_with (first
  | (go_at_call 57; (with_reducible refine (cP.out _ H0.out).mono ?_); rintro e W1 ⟨rfl, hb⟩; have HR1 := hid (H0.out.on hb H0.out.lt); have HG1 := hid (G0.out.trans (grown_of_below hb (some b))); have HQ1 := hid (Q0.out.below hb Q0.out.lt); have hq1 := HQ1.out.lt; have q1c := HQ1.out.cell; have q1f := HQ1.out.frozen; clear hb)
  | (go_at_call 59; (with_reducible refine (cN1.out _ (HR1.out.alloc (oTk t))).mono ?_); rintro e W2 ⟨rfl, hr, hg⟩; unfold tv; have HR2 := hid hr; have HG2 := hid ((HG1.out.trans (World.grownBy_alloc _ (oTk t) (some b))).trans hg); have HQ2 := hid (Blk_grown (HQ1.out.alloc (oTk t)) hg (by omega)); have hq2 := HQ2.out.lt; clear hr hg)
  | (go_at_call 59; (with_reducible refine (cN2.out _ HR2.out).mono ?_); rintro e W3 ⟨rfl, hr, hg⟩; unfold tv; have HR3 := hid hr; have HG3 := hid (HG2.out.trans hg); have HQ3 := hid (Blk_grown HQ2.out hg (by omega)); have hq3 := HQ3.out.lt; clear hr hg)
  | (go_at_call 104; (with_reducible refine (cW.out _ (hE.out.at_ (below_one HG3.out hblt)).max).mono ?_); rintro e W4 ⟨rfl, hb⟩; have HR4 := hid (HR3.out.on hb HR3.out.lt); have HG4 := hid (HG3.out.trans (grown_of_below hb (some b))); have HQ4 := hid (HQ3.out.below hb HQ3.out.lt); have hq4 := HQ4.out.lt; clear hb; have q4c := HQ4.out.cell; have q4f := HQ4.out.frozen))
 have e := Blk.cell (blk_seven HQ4.out (.int .i64 4) (.string (bs x)) (.int .u8 0) (.string ⟨#[]⟩) (.int .i64 0) (.int .i64 0) (.slice none 0 0))
 refine bodyPost_ret (v := .tuple #[(aTs 4 (bs x) 0 ⟨#[]⟩ 0 0 none 0 0), .bool true]) (by simp [results, Tryz.results87, go_sem, e]) rfl (show RetO b w (some (some (ts 4 x), M)) _ _ from ⟨?_, ⟨_, rfl, ts_leaf _ _ _ _ _ _ _ _⟩, ?_⟩)
 ·exact grown_seven HG4.out (Nat.le_refl _) _ _ _ _ _ _ _
 ·exact HR4.out.seven hblt _ _ _ _ _ _ _
end sel
namespace sel
open Go.RowKit base tok rul
theorem ts_form {X : Nat -> Prop} {w : World} {k : Int} {n : Bs} {op : UInt8} {v : Bs} {a c : Int} {subs : List Pa} {xs : List Value} (h : TsAt X w (.mk k n op v a c subs) xs) : ∃ A cap, xs = [.int .i64 k, .string (bs n), .int .u8 (nv op), .string (bs v), .int .i64 a, .int .i64 c, .slice A subs.length cap] /\ PasV X w subs A cap := by
 rw [TsAt] at h
 obtain ⟨A, cap, e, h1, h2⟩ := h
 exact ⟨A, cap, e, h1, h2⟩
theorem one_brk_bad (b : Nat) (t : Tk) (M : List Tk) (ht : t.k ≠ 0 /\ t.val.length <= 400) (hgm : GoodS M) (n_star : t.raw ≠ [42]) (n_name : t.k ≠ 1) (n_hash : t.k ≠ 4) (n_dot : t.raw ≠ [46]) (h_brk : t.raw = [91]) (hc : attrF M = none) (w : World) (h : RdrS w b (t :: M)) (hE : EnvS b w) :
  Calls Tryz.prog 87 #[(pn b)] w fun e w' => e = .panicked chainN /\ w.grownBy w' (some b) := by
 have cP : ∀ w, RdrS w b (t :: M) -> Calls Tryz.prog 57 #[(pn b)] w (rt w (aTk t)) := fun w h => peek_ct b (t :: M) w h
 replace cP := hid cP
 have cN1 := hid (fun w h => next_yes b t M ht.1 w h)
 have e_star : ((bs t.raw).toList == [42]) = false := by rw [bs_toList, beq_eq_false_iff_ne]; exact n_star
 have e_name : (t.k == 1) = false := bq n_name
 have e_hash : (t.k == 4) = false := bq n_hash
 have e_dot : ((bs t.raw).toList == [46]) = false := by rw [bs_toList, beq_eq_false_iff_ne]; exact n_dot
 have e_brk : ((bs t.raw).toList == [91]) = true := by rw [bs_toList, h_brk]; rfl
 clear n_star n_name n_hash n_dot h_brk
 have cC := fun w h hE => attr_ct b M hgm w h hE
 rw [hc] at cC
 unfold RetA at cC
 replace cC := hid cC
 clear hc
 have hblt := h.lt
 have H0 := hid (h.alloc oZ)
 have G0 := hid (World.grownBy_alloc w oZ (some b))
 have Q0 := hid (show Blk (w.alloc oZ) w.heap.size 26 rZ from Blk.new rfl)
 replace hE := hid hE
 clear h
 go_enter Tryz.func87, Tryz.ntmps87
 go_wp2_with (first
  | (go_at_call 57; (with_reducible refine (cP.out _ H0.out).mono ?_); rintro e W1 ⟨rfl, hb⟩; have HR1 := hid (H0.out.on hb H0.out.lt); have HG1 := hid (G0.out.trans (grown_of_below hb (some b))); have HQ1 := hid (Q0.out.below hb Q0.out.lt); have hq1 := HQ1.out.lt; have q1c := HQ1.out.cell; have q1f := HQ1.out.frozen; clear hb)
  | (go_at_call 59; (with_reducible refine (cN1.out _ (HR1.out.alloc (oTk t))).mono ?_); rintro e W2 ⟨rfl, hr, hg⟩; unfold tv; have HR2 := hid hr; have HG2 := hid ((HG1.out.trans (World.grownBy_alloc _ (oTk t) (some b))).trans hg); have HQ2 := hid (Blk_grown (HQ1.out.alloc (oTk t)) hg (by omega)); have hq2 := HQ2.out.lt; clear hr hg)
  | (go_at_call 105; (with_reducible refine (cC.out _ HR2.out (hE.out.on (below_one HG2.out hblt))).mono ?_); rintro e W3 ⟨rfl, hg⟩; have HGX := hid (HG2.out.trans hg); clear hg))
 exact ⟨rfl, rfl, HGX.out⟩
theorem one_brk_ok (b : Nat) (t : Tk) (M : List Tk) (ht : t.k ≠ 0 /\ t.val.length <= 400) (hgm : GoodS M) (n_star : t.raw ≠ [42]) (n_name : t.k ≠ 1) (n_hash : t.k ≠ 4) (n_dot : t.raw ≠ [46]) (h_brk : t.raw = [91]) (n : Bs) (op : UInt8) (v : Bs) (M2 : List Tk) (hc : attrF M = some (.mk 5 n op v 0 0 [], M2)) (w : World) (h : RdrS w b (t :: M)) (hE : EnvS b w) :
  Calls Tryz.prog 87 #[(pn b)] w (RetO b w (some (some (.mk 5 n op v 0 0 []), M2))) := by
 have cP : ∀ w, RdrS w b (t :: M) -> Calls Tryz.prog 57 #[(pn b)] w (rt w (aTk t)) := fun w h => peek_ct b (t :: M) w h
 replace cP := hid cP
 have cN1 := hid (fun w h => next_yes b t M ht.1 w h)
 have e_star : ((bs t.raw).toList == [42]) = false := by rw [bs_toList, beq_eq_false_iff_ne]; exact n_star
 have e_name : (t.k == 1) = false := bq n_name
 have e_hash : (t.k == 4) = false := bq n_hash
 have e_dot : ((bs t.raw).toList == [46]) = false := by rw [bs_toList, beq_eq_false_iff_ne]; exact n_dot
 have e_brk : ((bs t.raw).toList == [91]) = true := by rw [bs_toList, h_brk]; rfl
 clear n_star n_name n_hash n_dot h_brk
 have cC := fun w h hE => attr_ct b M hgm w h hE
 rw [hc] at cC
 unfold RetA at cC
 replace cC := hid cC
 clear hc
 have hblt := h.lt
 have H0 := hid (h.alloc oZ)
 have G0 := hid (World.grownBy_alloc w oZ (some b))
 have Q0 := hid (show Blk (w.alloc oZ) w.heap.size 26 rZ from Blk.new rfl)
 replace hE := hid hE
 clear h
 go_enter Tryz.func87, Tryz.ntmps87
 go_wp2_with (first
  | (go_at_call 57; (with_reducible refine (cP.out _ H0.out).mono ?_); rintro e W1 ⟨rfl, hb⟩; have HR1 := hid (H0.out.on hb H0.out.lt); have HG1 := hid (G0.out.trans (grown_of_below hb (some b))); have HQ1 := hid (Q0.out.below hb Q0.out.lt); have hq1 := HQ1.out.lt; have q1c := HQ1.out.cell; have q1f := HQ1.out.frozen; clear hb)
  | (go_at_call 59; (with_reducible refine (cN1.out _ (HR1.out.alloc (oTk t))).mono ?_); rintro e W2 ⟨rfl, hr, hg⟩; unfold tv; have HR2 := hid hr; have HG2 := hid ((HG1.out.trans (World.grownBy_alloc _ (oTk t) (some b))).trans hg); have HQ2 := hid (Blk_grown (HQ1.out.alloc (oTk t)) hg (by omega)); have hq2 := HQ2.out.lt; clear hr hg)
  | (go_at_call 105; (with_reducible refine (cC.out _ HR2.out (hE.out.on (below_one HG2.out hblt))).mono ?_); rintro e W3 ⟨rfl, hr, hg⟩; unfold leafV; have HR3 := hid hr; have HG3 := hid (HG2.out.trans hg); have HQ3 := hid (Blk_grown HQ2.out hg (by omega)); have hq3 := HQ3.out.lt; have q3c := HQ3.out.cell; have q3f := HQ3.out.frozen; clear hr hg))
 have e := Blk.cell (blk_seven HQ3.out (.int .i64 5) (.string (bs n)) (.int .u8 (nv op)) (.string (bs v)) (.int .i64 0) (.int .i64 0) (.slice none 0 0))
 refine bodyPost_ret (v := .tuple #[(aTs 5 (bs n) (nv op) (bs v) 0 0 none 0 0), .bool true]) (by simp [results, Tryz.results87, go_sem, e]) rfl (show RetO b w (some (some (.mk 5 n op v 0 0 []), M2)) _ _ from ⟨?_, ⟨_, rfl, ts_leaf _ _ _ _ _ _ _ _⟩, ?_⟩)
 ·exact grown_seven HG3.out (Nat.le_refl _) _ _ _ _ _ _ _
 ·exact HR3.out.seven hblt _ _ _ _ _ _ _
theorem one_col_bad (b : Nat) (t : Tk) (M : List Tk) (ht : t.k ≠ 0 /\ t.val.length <= 400) (n_star : t.raw ≠ [42]) (n_name : t.k ≠ 1) (n_hash : t.k ≠ 4) (n_dot : t.raw ≠ [46]) (n_brk : t.raw ≠ [91]) (h_col : t.raw = [58]) (hc : ∀ w, RdrS w b M -> EnvS b w -> Calls Tryz.prog 106 #[(pn b)] w (RetT b w none)) (w : World) (h : RdrS w b (t :: M)) (hE : EnvS b w) :
  Calls Tryz.prog 87 #[(pn b)] w fun e w' => e = .panicked chainN /\ w.grownBy w' (some b) := by
 have cP : ∀ w, RdrS w b (t :: M) -> Calls Tryz.prog 57 #[(pn b)] w (rt w (aTk t)) := fun w h => peek_ct b (t :: M) w h
 replace cP := hid cP
 have cN1 := hid (fun w h => next_yes b t M ht.1 w h)
 have e_star : ((bs t.raw).toList == [42]) = false := by rw [bs_toList, beq_eq_false_iff_ne]; exact n_star
 have e_name : (t.k == 1) = false := bq n_name
 have e_hash : (t.k == 4) = false := bq n_hash
 have e_dot : ((bs t.raw).toList == [46]) = false := by rw [bs_toList, beq_eq_false_iff_ne]; exact n_dot
 have e_brk : ((bs t.raw).toList == [91]) = false := by rw [bs_toList, beq_eq_false_iff_ne]; exact n_brk
 have e_col : ((bs t.raw).toList == [58]) = true := by rw [bs_toList, h_col]; rfl
 clear n_star n_name n_hash n_dot n_brk h_col
 unfold RetT at hc
 have cC := hid hc
 clear hc
 have hblt := h.lt
 have H0 := hid (h.alloc oZ)
 have G0 := hid (World.grownBy_alloc w oZ (some b))
 have Q0 := hid (show Blk (w.alloc oZ) w.heap.size 26 rZ from Blk.new rfl)
 replace hE := hid hE
 clear h
 go_enter Tryz.func87, Tryz.ntmps87
 go_wp2_with (first
  | (go_at_call 57; (with_reducible refine (cP.out _ H0.out).mono ?_); rintro e W1 ⟨rfl, hb⟩; have HR1 := hid (H0.out.on hb H0.out.lt); have HG1 := hid (G0.out.trans (grown_of_below hb (some b))); have HQ1 := hid (Q0.out.below hb Q0.out.lt); have hq1 := HQ1.out.lt; have q1c := HQ1.out.cell; have q1f := HQ1.out.frozen; clear hb)
  | (go_at_call 59; (with_reducible refine (cN1.out _ (HR1.out.alloc (oTk t))).mono ?_); rintro e W2 ⟨rfl, hr, hg⟩; unfold tv; have HR2 := hid hr; have HG2 := hid ((HG1.out.trans (World.grownBy_alloc _ (oTk t) (some b))).trans hg); have HQ2 := hid (Blk_grown (HQ1.out.alloc (oTk t)) hg (by omega)); have hq2 := HQ2.out.lt; clear hr hg)
  | (go_at_call 106; (with_reducible refine (cC.out _ HR2.out (hE.out.on (below_one HG2.out hblt))).mono ?_); rintro e W3 ⟨rfl, hg⟩; have HGX := hid (HG2.out.trans hg); clear hg))
 exact ⟨rfl, rfl, HGX.out⟩
theorem one_col_ok (b : Nat) (t : Tk) (M : List Tk) (ht : t.k ≠ 0 /\ t.val.length <= 400) (n_star : t.raw ≠ [42]) (n_name : t.k ≠ 1) (n_hash : t.k ≠ 4) (n_dot : t.raw ≠ [46]) (n_brk : t.raw ≠ [91]) (h_col : t.raw = [58]) (k : Int) (n : Bs) (op : UInt8) (v : Bs) (x y : Int) (subs : List Pa) (M2 : List Tk) (hc : ∀ w, RdrS w b M -> EnvS b w -> Calls Tryz.prog 106 #[(pn b)] w (RetT b w (some (.mk k n op v x y subs, M2)))) (w : World) (h : RdrS w b (t :: M)) (hE : EnvS b w) :
  Calls Tryz.prog 87 #[(pn b)] w (RetO b w (some (some (.mk k n op v x y subs), M2))) := by
 have cP : ∀ w, RdrS w b (t :: M) -> Calls Tryz.prog 57 #[(pn b)] w (rt w (aTk t)) := fun w h => peek_ct b (t :: M) w h
 replace cP := hid cP
 have cN1 := hid (fun w h => next_yes b t M ht.1 w h)
 have e_star : ((bs t.raw).toList == [42]) = false := by rw [bs_toList, beq_eq_false_iff_ne]; exact n_star
 have e_name : (t.k == 1) = false := bq n_name
 have e_hash : (t.k == 4) = false := bq n_hash
 have e_dot : ((bs t.raw).toList == [46]) = false := by rw [bs_toList, beq_eq_false_iff_ne]; exact n_dot
 have e_brk : ((bs t.raw).toList == [91]) = false := by rw [bs_toList, beq_eq_false_iff_ne]; exact n_brk
 have e_col : ((bs t.raw).toList == [58]) = true := by rw [bs_toList, h_col]; rfl
 clear n_star n_name n_hash n_dot n_brk h_col
 unfold RetT at hc
 have cC := hid hc
 clear hc
 have hblt := h.lt
 have H0 := hid (h.alloc oZ)
 have G0 := hid (World.grownBy_alloc w oZ (some b))
 have Q0 := hid (show Blk (w.alloc oZ) w.heap.size 26 rZ from Blk.new rfl)
 replace hE := hid hE
 clear h
 go_enter Tryz.func87, Tryz.ntmps87
 go_wp2_with (first
  | (go_at_call 57; (with_reducible refine (cP.out _ H0.out).mono ?_); rintro e W1 ⟨rfl, hb⟩; have HR1 := hid (H0.out.on hb H0.out.lt); have HG1 := hid (G0.out.trans (grown_of_below hb (some b))); have HQ1 := hid (Q0.out.below hb Q0.out.lt); have hq1 := HQ1.out.lt; have q1c := HQ1.out.cell; have q1f := HQ1.out.frozen; clear hb)
  | (go_at_call 59; (with_reducible refine (cN1.out _ (HR1.out.alloc (oTk t))).mono ?_); rintro e W2 ⟨rfl, hr, hg⟩; unfold tv; have HR2 := hid hr; have HG2 := hid ((HG1.out.trans (World.grownBy_alloc _ (oTk t) (some b))).trans hg); have HQ2 := hid (Blk_grown (HQ1.out.alloc (oTk t)) hg (by omega)); have hq2 := HQ2.out.lt; clear hr hg)
  | (go_at_call 106; (with_reducible refine (cC.out _ HR2.out (hE.out.on (below_one HG2.out hblt))).mono ?_); rintro e W3 ⟨hg, ⟨xs, rfl, hts⟩, hr⟩; obtain ⟨A, cap, rfl, hp⟩ := ts_form hts; have hz2 := HG2.out.size; have hz3 := hg.size; have HP := hid hp; have HR3 := hid hr; have HG3 := hid (HG2.out.trans hg); have HQ3 := hid (Blk_grown HQ2.out hg (by omega)); have hq3 := HQ3.out.lt; have q3c := HQ3.out.cell; have q3f := HQ3.out.frozen; clear hr hg hp hts))
 have e := Blk.cell (blk_seven HQ3.out (.int .i64 k) (.string (bs n)) (.int .u8 (nv op)) (.string (bs v)) (.int .i64 x) (.int .i64 y) (.slice A subs.length cap))
 have HP2 := HP.out.keep (Y := fun c => w.heap.size <= c) (w' := (((((((W3.setCell ⟨w.heap.size, 0, none⟩ (.int .i64 k)).setCell ⟨w.heap.size, 1, none⟩ (.string (bs n))).setCell ⟨w.heap.size, 2, none⟩ (.int .u8 (nv op))).setCell ⟨w.heap.size, 3, none⟩ (.string (bs v))).setCell ⟨w.heap.size, 4, none⟩ (.int .i64 x)).setCell ⟨w.heap.size, 5, none⟩ (.int .i64 y)).setCell ⟨w.heap.size, 6, none⟩ (.slice A subs.length cap))) (by simp [World.setCell]) (fun c (h : W2.heap.size <= c) _ => ⟨by omega, heap_seven _ _ _ _ _ _ _ _ _ c (by omega)⟩)
 refine bodyPost_ret (v := .tuple #[(aTs k (bs n) (nv op) (bs v) x y A subs.length cap), .bool true]) (by simp [results, Tryz.results87, go_sem, e]) rfl (show RetO b w (some (some (.mk k n op v x y subs), M2)) _ _ from ⟨?_, ⟨_, rfl, ?_⟩, ?_⟩)
 ·exact grown_seven HG3.out (Nat.le_refl _) _ _ _ _ _ _ _
 ·rw [TsAt]
  exact ⟨A, cap, rfl, HP2.1, HP2.2⟩
 ·exact HR3.out.seven hblt _ _ _ _ _ _ _
theorem one_none (b : Nat) (t : Tk) (M : List Tk) (ht : t.k ≠ 0 /\ t.val.length <= 400) (n_star : t.raw ≠ [42]) (n_name : t.k ≠ 1) (n_hash : t.k ≠ 4) (n_dot : t.raw ≠ [46]) (n_brk : t.raw ≠ [91]) (n_col : t.raw ≠ [58]) (w : World) (h : RdrS w b (t :: M)) (hE : EnvS b w) :
  Calls Tryz.prog 87 #[(pn b)] w (RetO b w (some (none, t :: M))) := by
 have cP : ∀ w, RdrS w b (t :: M) -> Calls Tryz.prog 57 #[(pn b)] w (rt w (aTk t)) := fun w h => peek_ct b (t :: M) w h
 replace cP := hid cP
 have cN1 := hid (fun w h => next_yes b t M ht.1 w h)
 have e_star : ((bs t.raw).toList == [42]) = false := by rw [bs_toList, beq_eq_false_iff_ne]; exact n_star
 have e_name : (t.k == 1) = false := bq n_name
 have e_hash : (t.k == 4) = false := bq n_hash
 have e_dot : ((bs t.raw).toList == [46]) = false := by rw [bs_toList, beq_eq_false_iff_ne]; exact n_dot
 have e_brk : ((bs t.raw).toList == [91]) = false := by rw [bs_toList, beq_eq_false_iff_ne]; exact n_brk
 have e_col : ((bs t.raw).toList == [58]) = false := by rw [bs_toList, beq_eq_false_iff_ne]; exact n_col
 clear n_star n_name n_hash n_dot n_brk n_col
 have hblt := h.lt
 have H0 := hid (h.alloc oZ)
 have G0 := hid (World.grownBy_alloc w oZ (some b))
 have Q0 := hid (show Blk (w.alloc oZ) w.heap.size 26 rZ from Blk.new rfl)
 replace hE := hid hE
 clear h
 go_enter Tryz.func87, Tryz.ntmps87
 go_wp2_with (first
  | (go_at_call 57; (with_reducible refine (cP.out _ H0.out).mono ?_); rintro e W1 ⟨rfl, hb⟩; have HR1 := hid (H0.out.on hb H0.out.lt); have HG1 := hid (G0.out.trans (grown_of_below hb (some b))); have HQ1 := hid (Q0.out.below hb Q0.out.lt); have hq1 := HQ1.out.lt; have q1c := HQ1.out.cell; have q1f := HQ1.out.frozen; clear hb))
 have e := Blk.cell ((blk_seven HQ1.out (.int .i64 0) (.string ⟨#[]⟩) (.int .u8 0) (.string ⟨#[]⟩) (.int .i64 0) (.int .i64 0) (.slice none 0 0)).alloc (oTk t))
 refine bodyPost_ret (v := .tuple #[(aTs 0 ⟨#[]⟩ 0 ⟨#[]⟩ 0 0 none 0 0), .bool false]) (by simp [results, Tryz.results87, go_sem, e]) rfl (show RetO b w (some (none, t :: M)) _ _ from ⟨?_, rfl, ?_⟩)
 ·exact (grown_seven HG1.out (Nat.le_refl _) (.int .i64 0) (.string ⟨#[]⟩) (.int .u8 0) (.string ⟨#[]⟩) (.int .i64 0) (.int .i64 0) (.slice none 0 0)).trans (World.grownBy_alloc _ _ _)
 ·exact (HR1.out.seven hblt (.int .i64 0) (.string ⟨#[]⟩) (.int .u8 0) (.string ⟨#[]⟩) (.int .i64 0) (.int .i64 0) (.slice none 0 0)).alloc _
theorem one_nil (b : Nat)  (w : World) (h : RdrS w b []) (hE : EnvS b w) :
  Calls Tryz.prog 87 #[(pn b)] w (RetO b w (some (none, []))) := by
 have cP : ∀ w, RdrS w b [] -> Calls Tryz.prog 57 #[(pn b)] w (rt w (.agg #[.int .i64 0, .string (bs []), .string (bs []), .int .i64 0])) := fun w h => peek_ct b [] w h
 replace cP := hid cP
 have e_star : ((bs []).toList == [42]) = false := by rw [bs_toList]; rfl
 have e_dot : ((bs []).toList == [46]) = false := by rw [bs_toList]; rfl
 have e_brk : ((bs []).toList == [91]) = false := by rw [bs_toList]; rfl
 have e_col : ((bs []).toList == [58]) = false := by rw [bs_toList]; rfl
 have hblt := h.lt
 have H0 := hid (h.alloc oZ)
 have G0 := hid (World.grownBy_alloc w oZ (some b))
 have Q0 := hid (show Blk (w.alloc oZ) w.heap.size 26 rZ from Blk.new rfl)
 replace hE := hid hE
 clear h
 go_enter Tryz.func87, Tryz.ntmps87
 go_wp2_with (first
  | (go_at_call 57; (with_reducible refine (cP.out _ H0.out).mono ?_); rintro e W1 ⟨rfl, hb⟩; have HR1 := hid (H0.out.on hb H0.out.lt); have HG1 := hid (G0.out.trans (grown_of_below hb (some b))); have HQ1 := hid (Q0.out.below hb Q0.out.lt); have hq1 := HQ1.out.lt; have q1c := HQ1.out.cell; have q1f := HQ1.out.frozen; clear hb))
 have e := Blk.cell ((blk_seven HQ1.out (.int .i64 0) (.string ⟨#[]⟩) (.int .u8 0) (.string ⟨#[]⟩) (.int .i64 0) (.int .i64 0) (.slice none 0 0)).alloc (.cells #[.int .i64 0, .string (bs []), .string (bs []), .int .i64 0] 70))
 refine bodyPost_ret (v := .tuple #[(aTs 0 ⟨#[]⟩ 0 ⟨#[]⟩ 0 0 none 0 0), .bool false]) (by simp [results, Tryz.results87, go_sem, e]) rfl (show RetO b w (some (none, [])) _ _ from ⟨?_, rfl, ?_⟩)
 ·exact (grown_seven HG1.out (Nat.le_refl _) (.int .i64 0) (.string ⟨#[]⟩) (.int .u8 0) (.string ⟨#[]⟩) (.int .i64 0) (.int .i64 0) (.slice none 0 0)).trans (World.grownBy_alloc _ _ _)
 ·exact (HR1.out.seven hblt (.int .i64 0) (.string ⟨#[]⟩) (.int .u8 0) (.string ⟨#[]⟩) (.int .i64 0) (.int .i64 0) (.slice none 0 0)).alloc _
end sel
end Go.Proofs.YtaobpkffcolobaaGreatDoor
