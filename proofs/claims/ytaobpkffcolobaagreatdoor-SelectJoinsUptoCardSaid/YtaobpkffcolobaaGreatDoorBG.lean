/- Contracts and plain law, a bundle. -/
import Derived.Lib.Hide
import Derived.Test.YtaobpkffcolobaaGreatDoorBE3
set_option linter.unusedVariables false
set_option maxRecDepth 100000
set_option maxHeartbeats 16000000
open Go.Lib (hid)
namespace Go.Proofs.YtaobpkffcolobaaGreatDoor
namespace sel
open Go.RowKit base tok rul
theorem step_none (N : Nat) (hO : OneC N) (b : Nat) (L : List Tk) (d : Nat) (w : World) (hl : L.length <= N) (hg : GoodS L) (hd : 6 * L.length + 2 <= d + 1) (h : RdrS w b L) (hE : EnvS b w) (M : List Tk) (ho : oneF d L = some (none, M)) :
  Calls Tryz.prog 58 #[(pn b)] w fun e w' => e = .panicked chainN /\ w.grownBy w' (some b) := by
 have cO := hO b L d w hl hg (by omega) h hE
 rw [ho] at cO
 unfold RetO zeroT at cO
 replace cO := hid cO
 have cX := hid (need_no b)
 clear ho hO h hE
 go_enter Tryz.func58, Tryz.ntmps58
 go_wp2_with (go_at_call 87; (with_reducible refine cO.out.mono ?_); rintro e W1 ⟨hg1, rfl, hr1⟩; have HG1 := hid hg1; clear hg1 hr1)
 go_loopw [3, 4, 5] (fun x p i wr => x = .slice none 0 0 /\ i = .bool false /\ w.grownBy wr (some b)) (fun _ _ _ _ => 0)
 case atStart => exact ⟨rfl, rfl, HG1.out.trans (World.grownBy_alloc _ _ _)⟩
 case round =>
  obtain ⟨rfl, rfl, hgr⟩ := hrel
  have HR := hid hgr
  clear hgr
  go_wp2_with (go_at_call 30; (with_reducible refine (cX.out _).mono ?_); rintro e W2 ⟨rfl, rfl⟩)
  exact ⟨rfl, rfl, HR.out⟩
end sel
namespace sel
open Go.RowKit base tok rul
def boolN : Value -> Nat
 | .bool true => 1
 | _ => 0
def StepRel (b : Nat) (w : World) (N : Nat) (R : Option (List Ts × List Tk)) (x p i : Value) (wr : World) : Prop :=
 ∃ (acc : List Ts) (ys : List Value) (o : Option Ts) (M : List Tk) (q d : Nat) (a0 a1 a2 a3 a4 a5 a6 : Value), p = (pn q) /\ i = .bool o.isSome /\ goS d acc (o, M) = R /\ (o = none -> acc ≠ []) /\ (∀ t, o = some t -> 6 * M.length + 2 <= d /\ acc.length + M.length + 1 <= 400) /\ M.length <= N /\ GoodS M /\
  RdrS wr b M /\ w.grownBy wr (some b) /\ wr.ownsRow w.heap.size 26 7 x acc.length ys /\ TvAt (XS w.heap.size [x.ownBlock, some q]) wr acc ys /\
  Blk wr q 26 #[a0, a1, a2, a3, a4, a5, a6] /\ w.heap.size <= q /\ some q ≠ x.ownBlock /\ ∀ t, o = some t -> TsAt (XS w.heap.size [x.ownBlock, some q]) wr t [a0, a1, a2, a3, a4, a5, a6]
theorem step_some (N : Nat) (hO : OneC N) (b : Nat) (L : List Tk) (d : Nat) (w : World) (hl : L.length <= N) (hg : GoodS L) (hd : 6 * L.length + 2 <= d + 1) (h : RdrS w b L) (hE : EnvS b w) (k : Int) (n : Bs) (op : UInt8) (v : Bs) (x1 x2 : Int) (subs : List Pa) (M : List Tk) (ho : oneF d L = some (some (.mk k n op v x1 x2 subs), M)) :
  Calls Tryz.prog 58 #[(pn b)] w (RetS b w (stepF d [.mk k n op v x1 x2 subs] M)) := by
 obtain ⟨i0, hi, hz0, hz1, hz2⟩ := info_parts infoTs
 have Hz0 := hid hz0
 have Hi := hid hi
 have Hz1 := hid hz1
 have Hz2 := hid hz2
 clear hz0 hi hz1 hz2
 have cO := hO b L d w hl hg (by omega) h hE
 rw [ho] at cO
 obtain ⟨hfw1, hfw2, -⟩ := (fw_all d).1 L _ M ho
 have hML := hfw2 _ rfl
 have hgM := hg.suf hfw1
 unfold RetO at cO
 replace cO := hid cO
 have cY := hid (need_yes b)
 have hblt := h.lt
 have hL4 := hg.1
 generalize hR : stepF d [.mk k n op v x1 x2 subs] M = R
 replace hR := hid hR
 replace hE := hid hE
 replace hgM := hid hgM
 clear ho h hfw1 hfw2 hg
 go_enter Tryz.func58, Tryz.ntmps58
 go_wp2_with (go_at_call 87; (with_reducible refine cO.out.mono ?_); rintro e W1 ⟨hg1, ⟨xs, rfl, ht1⟩, hr1⟩; obtain ⟨sA, sc, rfl, -⟩ := ts_form ht1; have HG1 := hid hg1; have HT1 := hid ht1; have HR1 := hid hr1; have hz1 := hg1.size; clear hg1 hr1 ht1)
 go_loopw [3, 4, 5] (StepRel b w N R) (fun _ _ i wr => sel.lenV (wr.cell? ⟨b, 0, none⟩) + boolN i)
 case atStart =>
  refine ⟨[], [], some (.mk k n op v x1 x2 subs), M, W1.heap.size, d, _, _, _, _, _, _, _, rfl, rfl, hR.out, (fun h => by cases h), (fun t _ => ⟨by omega, by simp only [List.length_nil]; omega⟩), by omega, hgM.out, HR1.out.alloc _, HG1.out.trans (World.grownBy_alloc _ _ _), World.ownsRow_nil _ _ _ _, rfl, Blk.new rfl, hz1, (fun e => by cases e), ?_⟩
  rintro t ⟨⟩
  exact TsAt.keep (by simp) (fun c (hc : w.heap.size <= c) hl => ⟨⟨hc, fun e => by simp [Value.ownBlock] at e; omega⟩, Below.heap_alloc _ _ c hl⟩) _ _ HT1.out
 case round =>
  clear hR HT1 HR1 HG1 cO
  obtain ⟨acc, ys, o, M, q, d, a0, a1, a2, a3, a4, a5, a6, rfl, rfl, hR, hon, hdl, hMN, hgd, hr, hgr, hrow, htv, hq, hqz, hqx, ht⟩ := hrel
  obtain ⟨va, vc, rfl⟩ := row_form hrow
  have hlenV := hr.lenV
  have HR := hid hr
  have HG := hid hgr
  have HO := hid hrow
  have HTV := hid htv
  have HQ := hid hq
  have hwz := hgr.size
  have hneb := hid (show (Value.slice va acc.length vc).ownBlock ≠ some b from fun e => by have := (hrow.lt _ e).1; omega)
  cases o with
  | none =>
   have hacc := hon rfl
   rw [goS, if_neg hacc] at hR
   subst hR
   have hp : 0 < acc.length := List.length_pos_iff.2 hacc
   have hd0 : decide ((0 : Int) < (acc.length : Int)) = true := dt (by omega)
   clear hon hr hgr hrow htv hq ht hacc hdl
   go_wp2_with (go_at_call 30; (with_reducible refine (cY.out _).mono ?_); rintro e W2 ⟨rfl, rfl⟩)
   go_ret
   exact ⟨HG.out, ⟨va, vc, rfl, ss_row HO.out rfl (TvAt.keep (Nat.le_refl _) (fun c h _ => ⟨h.1, rfl⟩) _ _ HTV.out) (fun g _ h => h)⟩, HR.out⟩
  | some t =>
   obtain ⟨k, n, op, v, x1, x2, subs⟩ := t
   have ht1 := ht _ rfl
   obtain ⟨hd, hlen⟩ := hdl _ rfl
   obtain ⟨sA, sc, hxs, -⟩ := ts_form ht1
   simp only [List.cons.injEq, and_true] at hxs
   obtain ⟨rfl, rfl, rfl, rfl, rfl, rfl, rfl⟩ := hxs
   have HT := hid ht1
   obtain ⟨d, rfl⟩ : ∃ e, d = e + 1 := ⟨d - 1, by omega⟩
   rw [goS, stepF_go] at hR
   have cO := fun w h hE => hO b M d w hMN hgd (by omega) h hE
   have hfw := (fw_all d).1 M
   have hqc := hq.cell
   have hql := hq.lt
   have HGD := hid hgd
   clear hon hr hgr hrow htv hq ht ht1 hgd hdl
   cases hv : oneF d M with
   | none =>
    rw [hv] at cO hR
    simp only [Option.bind_none] at hR
    subst hR
    unfold RetO at cO
    replace cO := hid cO
    clear hfw hv
    go_wp2_with (first
     | (at_builtin; refine wpList_append_own_at _ rfl _ _ 27 rfl w.heap.size 26 i0 _ 7 88 Tryz.underlying27 Hi.out Hz0.out Hz1.out Hz2.out rfl (by decide) _ _ _ rfl (HO.out.alloc (oTs k (bs n) (nv op) (bs v) x1 x2 sA subs.length sc)) ⟨wr.heap.size, 0, none⟩ 1 1 [.int .i64 k, .string (bs n), .int .u8 (nv op), .string (bs v), .int .i64 x1, .int .i64 x2, .slice sA subs.length sc] rfl rfl (Blk.new (w := wr) (t := 26) (cs := (rTs k (bs n) (nv op) (bs v) x1 x2 sA subs.length sc)) rfl).news (by simp [Value.oneCell']) (by unfold maxLen; omega) (by omega) (by simp; omega) ?_; intro v3 w3 hown3 hgrow3 _ hat3; obtain ⟨a3, c3, rfl⟩ := row_form hown3; have hb3 := below_app ((Below.refl w.heap.size wr).alloc hwz (oTs k (bs n) (nv op) (bs v) x1 x2 sA subs.length sc)) hgrow3 (HO.out.alloc _) (Nat.le_refl _) (by simp; omega); have q3 := (hgrow3.block q (by simp; omega) hqx).trans (HQ.out.alloc (oTs k (bs n) (nv op) (bs v) x1 x2 sA subs.length sc)); have q3c := Blk.cell q3; have R3 := hid (HR.out.on hb3 hblt); have G3 := hid (grown_lowS HG.out hb3 (Nat.le_refl _)); have O3 := hid hown3; have hz3 := Nat.le_trans hwz hb3.size; have A3 := hid (show some w3.heap.size ≠ (Value.slice a3 (acc.length + 1) c3).ownBlock from fun e => by have := (O3.out.lt _ e.symm).2; omega); have K3 := hid ((Kp.alloc (B := w.heap.size) (S := [(Value.slice va acc.length vc).ownBlock, some q]) (oTs k (bs n) (nv op) (bs v) x1 x2 sA subs.length sc)).trans ((Kp.app (S' := [(Value.slice a3 (acc.length + 1) c3).ownBlock, some q]) hgrow3 (List.mem_cons_self ..) (fun x hx => app_mem hat3 hx)).trans (Kp.move (S' := [(Value.slice a3 (acc.length + 1) c3).ownBlock, some w3.heap.size]) (fun x hx => move_mem hx)))); clear hown3 hgrow3 hat3 hb3 q3)
     | (go_at_call 87; (with_reducible refine (cO.out _ (R3.out.alloc _) (hE.out.on (below_one (grown_allocS G3.out _) hblt))).mono ?_); rintro e W4 ⟨rfl, hg4⟩; have G4 := hid ((grown_allocS G3.out _).trans hg4); clear hg4))
    exact ⟨rfl, rfl, G4.out⟩
   | some r =>
    obtain ⟨o2, M2⟩ := r
    rw [hv] at cO hR
    simp only [Option.bind_some] at hR
    obtain ⟨hfs, hfl, hfe⟩ := hfw _ _ hv
    have HGM := hid (HGD.out.suf hfs)
    have hle := hfs.length_le
    replace hR := hid hR
    clear hfw hv
    cases o2 with
    | none =>
     unfold RetO zeroT at cO
     replace cO := hid cO
     clear hfl hfe hfs
     go_wp2_with (first
      | (at_builtin; refine wpList_append_own_at _ rfl _ _ 27 rfl w.heap.size 26 i0 _ 7 88 Tryz.underlying27 Hi.out Hz0.out Hz1.out Hz2.out rfl (by decide) _ _ _ rfl (HO.out.alloc (oTs k (bs n) (nv op) (bs v) x1 x2 sA subs.length sc)) ⟨wr.heap.size, 0, none⟩ 1 1 [.int .i64 k, .string (bs n), .int .u8 (nv op), .string (bs v), .int .i64 x1, .int .i64 x2, .slice sA subs.length sc] rfl rfl (Blk.new (w := wr) (t := 26) (cs := (rTs k (bs n) (nv op) (bs v) x1 x2 sA subs.length sc)) rfl).news (by simp [Value.oneCell']) (by unfold maxLen; omega) (by omega) (by simp; omega) ?_; intro v3 w3 hown3 hgrow3 _ hat3; obtain ⟨a3, c3, rfl⟩ := row_form hown3; have hb3 := below_app ((Below.refl w.heap.size wr).alloc hwz (oTs k (bs n) (nv op) (bs v) x1 x2 sA subs.length sc)) hgrow3 (HO.out.alloc _) (Nat.le_refl _) (by simp; omega); have q3 := (hgrow3.block q (by simp; omega) hqx).trans (HQ.out.alloc (oTs k (bs n) (nv op) (bs v) x1 x2 sA subs.length sc)); have q3c := Blk.cell q3; have R3 := hid (HR.out.on hb3 hblt); have G3 := hid (grown_lowS HG.out hb3 (Nat.le_refl _)); have O3 := hid hown3; have hz3 := Nat.le_trans hwz hb3.size; have A3 := hid (show some w3.heap.size ≠ (Value.slice a3 (acc.length + 1) c3).ownBlock from fun e => by have := (O3.out.lt _ e.symm).2; omega); have K3 := hid ((Kp.alloc (B := w.heap.size) (S := [(Value.slice va acc.length vc).ownBlock, some q]) (oTs k (bs n) (nv op) (bs v) x1 x2 sA subs.length sc)).trans ((Kp.app (S' := [(Value.slice a3 (acc.length + 1) c3).ownBlock, some q]) hgrow3 (List.mem_cons_self ..) (fun x hx => app_mem hat3 hx)).trans (Kp.move (S' := [(Value.slice a3 (acc.length + 1) c3).ownBlock, some w3.heap.size]) (fun x hx => move_mem hx)))); clear hown3 hgrow3 hat3 hb3 q3)
      | (go_at_call 87; (with_reducible refine (cO.out _ (R3.out.alloc _) (hE.out.on (below_one (grown_allocS G3.out _) hblt))).mono ?_); rintro e W4 ⟨hg4, rfl, hr4⟩; have G4 := hid ((grown_allocS G3.out _).trans hg4); have R4 := hid hr4; have Q4 := hid (Blk_grown (Blk.new (w := w3) (t := 26) (cs := (rTs k (bs n) (nv op) (bs v) x1 x2 sA subs.length sc)) rfl) hg4 (by omega)); have q4c := Q4.out.cell; have q4f := Q4.out.frozen; have q4l := Q4.out.lt; have O4 := hid ((O3.out.alloc _).kept hg4 (.inr (fun e => by have := (O3.out.lt _ e).1; omega))); have K4 := hid (K3.out.trans ((Kp.alloc (oTs k (bs n) (nv op) (bs v) x1 x2 sA subs.length sc)).trans (Kp.grown hg4 hblt))); clear hg4 hr4))
     go_roundw
     case rel =>
      refine ⟨acc ++ [.mk k n op v x1 x2 subs], ys ++ [.int .i64 k, .string (bs n), .int .u8 (nv op), .string (bs v), .int .i64 x1, .int .i64 x2, .slice sA subs.length sc], none, M2, w3.heap.size, d, .int .i64 0, .string ⟨#[]⟩, .int .u8 0, .string ⟨#[]⟩, .int .i64 0, .int .i64 0, .slice none 0 0, rfl, rfl, hR.out, ?_, ?_, by omega, HGM.out, R4.out.seven (by omega) _ _ _ _ _ _ _, grown_seven G4.out (by omega) _ _ _ _ _ _ _, ?_, ((K4.out.trans (Kp.seven (k := w3.heap.size) (by simp) _ _ _ _ _ _ _)).tv HTV.out).snoc ((K4.out.trans (Kp.seven (k := w3.heap.size) (by simp) _ _ _ _ _ _ _)).ts HT.out), blk_seven Q4.out _ _ _ _ _ _ _, by omega, A3.out, ?_⟩
      ·exact fun _ => by simp
      ·exact fun t e => by cases e
      ·rw [List.length_append]
       exact own_seven O4.out (fun e => A3.out e.symm) _ _ _ _ _ _ _
      ·exact fun t e => by cases e
     case measure =>
      rw [(R4.out.seven (k := w3.heap.size) (by omega) (.int .i64 0) (.string ⟨#[]⟩) (.int .u8 0) (.string ⟨#[]⟩) (.int .i64 0) (.int .i64 0) (.slice none 0 0)).lenV, hlenV]
      simp [boolN]
      omega
    | some t2 =>
     have hlt := hfl _ rfl
     obtain ⟨k2, n2, op2, v2, y1, y2, subs2⟩ := t2
     unfold RetO at cO
     replace cO := hid cO
     clear hfl hfe hfs
     go_wp2_with (first
      | (at_builtin; refine wpList_append_own_at _ rfl _ _ 27 rfl w.heap.size 26 i0 _ 7 88 Tryz.underlying27 Hi.out Hz0.out Hz1.out Hz2.out rfl (by decide) _ _ _ rfl (HO.out.alloc (oTs k (bs n) (nv op) (bs v) x1 x2 sA subs.length sc)) ⟨wr.heap.size, 0, none⟩ 1 1 [.int .i64 k, .string (bs n), .int .u8 (nv op), .string (bs v), .int .i64 x1, .int .i64 x2, .slice sA subs.length sc] rfl rfl (Blk.new (w := wr) (t := 26) (cs := (rTs k (bs n) (nv op) (bs v) x1 x2 sA subs.length sc)) rfl).news (by simp [Value.oneCell']) (by unfold maxLen; omega) (by omega) (by simp; omega) ?_; intro v3 w3 hown3 hgrow3 _ hat3; obtain ⟨a3, c3, rfl⟩ := row_form hown3; have hb3 := below_app ((Below.refl w.heap.size wr).alloc hwz (oTs k (bs n) (nv op) (bs v) x1 x2 sA subs.length sc)) hgrow3 (HO.out.alloc _) (Nat.le_refl _) (by simp; omega); have q3 := (hgrow3.block q (by simp; omega) hqx).trans (HQ.out.alloc (oTs k (bs n) (nv op) (bs v) x1 x2 sA subs.length sc)); have q3c := Blk.cell q3; have R3 := hid (HR.out.on hb3 hblt); have G3 := hid (grown_lowS HG.out hb3 (Nat.le_refl _)); have O3 := hid hown3; have hz3 := Nat.le_trans hwz hb3.size; have A3 := hid (show some w3.heap.size ≠ (Value.slice a3 (acc.length + 1) c3).ownBlock from fun e => by have := (O3.out.lt _ e.symm).2; omega); have K3 := hid ((Kp.alloc (B := w.heap.size) (S := [(Value.slice va acc.length vc).ownBlock, some q]) (oTs k (bs n) (nv op) (bs v) x1 x2 sA subs.length sc)).trans ((Kp.app (S' := [(Value.slice a3 (acc.length + 1) c3).ownBlock, some q]) hgrow3 (List.mem_cons_self ..) (fun x hx => app_mem hat3 hx)).trans (Kp.move (S' := [(Value.slice a3 (acc.length + 1) c3).ownBlock, some w3.heap.size]) (fun x hx => move_mem hx)))); clear hown3 hgrow3 hat3 hb3 q3)
      | (go_at_call 87; (with_reducible refine (cO.out _ (R3.out.alloc _) (hE.out.on (below_one (grown_allocS G3.out _) hblt))).mono ?_); rintro e W4 ⟨hg4, ⟨xs4, rfl, ht4⟩, hr4⟩; obtain ⟨tA, tc, rfl, -⟩ := ts_form ht4; have G4 := hid ((grown_allocS G3.out _).trans hg4); have R4 := hid hr4; have Q4 := hid (Blk_grown (Blk.new (w := w3) (t := 26) (cs := (rTs k (bs n) (nv op) (bs v) x1 x2 sA subs.length sc)) rfl) hg4 (by omega)); have q4c := Q4.out.cell; have q4f := Q4.out.frozen; have q4l := Q4.out.lt; have O4 := hid ((O3.out.alloc _).kept hg4 (.inr (fun e => by have := (O3.out.lt _ e).1; omega))); have K4 := hid (K3.out.trans ((Kp.alloc (oTs k (bs n) (nv op) (bs v) x1 x2 sA subs.length sc)).trans (Kp.grown hg4 hblt))); have T4 := hid (ht4.fresh (B := w.heap.size) (S := [(Value.slice a3 (acc.length + 1) c3).ownBlock, some w3.heap.size]) (by simp; omega) (fun x hx k hk => fresh_mem O3.out hx hk)); clear hg4 hr4 ht4))
     go_roundw
     case rel =>
      refine ⟨acc ++ [.mk k n op v x1 x2 subs], ys ++ [.int .i64 k, .string (bs n), .int .u8 (nv op), .string (bs v), .int .i64 x1, .int .i64 x2, .slice sA subs.length sc], some (.mk k2 n2 op2 v2 y1 y2 subs2), M2, w3.heap.size, d, .int .i64 k2, .string (bs n2), .int .u8 (nv op2), .string (bs v2), .int .i64 y1, .int .i64 y2, .slice tA subs2.length tc, rfl, rfl, hR.out, ?_, ?_, by omega, HGM.out, R4.out.seven (by omega) _ _ _ _ _ _ _, grown_seven G4.out (by omega) _ _ _ _ _ _ _, ?_, ((K4.out.trans (Kp.seven (k := w3.heap.size) (by simp) _ _ _ _ _ _ _)).tv HTV.out).snoc ((K4.out.trans (Kp.seven (k := w3.heap.size) (by simp) _ _ _ _ _ _ _)).ts HT.out), blk_seven Q4.out _ _ _ _ _ _ _, by omega, A3.out, ?_⟩
      ·exact fun _ => by simp
      ·exact fun t _ => ⟨by omega, by simp only [List.length_append, List.length_cons, List.length_nil]; omega⟩
      ·rw [List.length_append]
       exact own_seven O4.out (fun e => A3.out e.symm) _ _ _ _ _ _ _
      ·rintro t ⟨⟩
       exact (Kp.seven (k := w3.heap.size) (by simp) _ _ _ _ _ _ _).ts T4.out
     case measure =>
      rw [(R4.out.seven (k := w3.heap.size) (by omega) (.int .i64 k2) (.string (bs n2)) (.int .u8 (nv op2)) (.string (bs v2)) (.int .i64 y1) (.int .i64 y2) (.slice tA subs2.length tc)).lenV, hlenV]
      simp [boolN]
      omega
theorem step_ct (N : Nat) (hO : OneC N) : StepC N := by
 intro b L d w hl hg hd h hE
 obtain ⟨d, rfl⟩ : ∃ e, d = e + 1 := ⟨d - 1, by omega⟩
 rw [stepF_go]
 cases ho : oneF d L with
 | none =>
  have cO := hO b L d w hl hg (by omega) h hE
  rw [ho] at cO
  exact step_die b w cO
 | some r =>
  obtain ⟨o, M⟩ := r
  cases o with
  | none => exact step_none N hO b L d w hl hg hd h hE M ho
  | some t =>
   obtain ⟨k, n, op, v, x1, x2, subs⟩ := t
   exact step_some N hO b L d w hl hg hd h hE k n op v x1 x2 subs M ho
end sel
end Go.Proofs.YtaobpkffcolobaaGreatDoor
