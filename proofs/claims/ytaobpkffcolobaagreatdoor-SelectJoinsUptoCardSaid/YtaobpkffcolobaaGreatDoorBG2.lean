/- Contracts and plain law, a bundle. -/
import Derived.Lib.Hide
import Derived.Test.YtaobpkffcolobaaGreatDoorBG1
set_option linter.unusedVariables false
set_option maxRecDepth 100000
set_option maxHeartbeats 16000000
open Go.Lib (hid)
namespace Go.Proofs.YtaobpkffcolobaaGreatDoor
namespace sel
open Go.RowKit base tok rul
theorem RdrS.cells {w : World} {b : Nat} {L : List Tk} (h : RdrS w b L) : ∃ A cap, b < w.heap.size /\ ∀ i, w.cell? ⟨b, i, none⟩ = (#[.slice A L.length cap] : Array Value)[i]? := by
 obtain ⟨A, cap, hc, hb, hr⟩ := h
 exact ⟨A, cap, hb.lt, hb.cell⟩
theorem pa_form {X : Nat -> Prop} {w : World} {p : Pa} {x0 x1 : Value} (h : PaAt X w p [x0, x1]) : ∃ A p0 c0 B n d, x0 = .slice A p0 c0 /\ x1 = .slice B n d := by
 obtain ⟨steps, joins⟩ := p
 rw [PaAt] at h
 obtain ⟨A, cap, v, e, hc, hj, -⟩ := h
 obtain ⟨B, c, rfl, -⟩ := hj
 simp only [List.cons.injEq, and_true] at e
 exact ⟨_, _, _, _, _, _, e.1, e.2⟩
theorem fresh_one {B : Nat} {w : World} {base : Nat} {e : TypeId} {size n : Nat} {v : Value} {xs : List Value} (hB : B <= w.heap.size) (h : w.ownsRow base e size v n xs) {c : Nat} (hc : w.heap.size <= c) : XS B [v.ownBlock] c := by
 refine ⟨by omega, fun h1 => ?_⟩
 simp only [List.mem_cons, List.not_mem_nil, or_false] at h1
 have := (h.lt _ h1.symm).2
 omega
theorem one_mem {v v' : Option Nat} {n : Nat} (h : v' = v ∨ v' = some n) {x : Option Nat} (hx : x ∈ [v']) : x ∈ [v] ∨ x = some n := by
 simp only [List.mem_cons, List.not_mem_nil, or_false] at hx ⊢
 subst hx
 exact h
theorem pas_row {X : Nat -> Prop} {w : World} {base : Nat} {l : List Pa} {ys : List Value} {A : Option Addr} {n cap : Nat} (ho : w.ownsRow base 36 2 (.slice A n cap) n ys) (hn : l.length = n) (hv : PvAt X w l ys) (hX : ∀ g, A = some ⟨g, 0, none⟩ -> base <= g -> X g) : PasV X w l A cap := by
 subst hn
 obtain ⟨hc, h⟩ := row_cells ho
 refine ⟨hc, fun h0 => ?_⟩
 obtain ⟨g, rfl, h1, h2, h3⟩ := h h0
 exact ⟨g, 0, rfl, hX g rfl h1, h2, PvAt.at_ hv h3⟩
def listG (d : Nat) (shut : Bool) (acc : List Pa) (p : Pa × List Tk) : Option (List Pa × List Tk) :=
 match gapP p.2 with
 | [] => if shut then none else some (acc ++ [p.1], [])
 | t :: M =>
  if t.raw = [44] then listF d shut (acc ++ [p.1]) M
  else if shut then (if t.raw = [41] then some (acc ++ [p.1], M) else none)
  else none
theorem listF_go (d : Nat) (shut : Bool) (acc : List Pa) (L : List Tk) : listF (d + 1) shut acc L = (pathP d (gapP L)).bind (listG d shut acc) := by
 rw [listF, pathP, Option.bind_assoc]
 rfl
theorem path_fw {d : Nat} {L M : List Tk} {p : Pa} (h : pathP d L = some (p, M)) : M <:+ L /\ M.length < L.length := by
 unfold pathP at h
 obtain ⟨⟨s, K⟩, h1, h2⟩ := bind_some' h
 obtain ⟨a1, -, a2⟩ := (fw_all d).2.2.1 [] L s K h1
 have a3 := (fw_all d).2.2.2.1 [s] [] K p M h2
 have := a3.length_le
 have := a2 rfl
 exact ⟨a3.trans a1, by omega⟩
def ListRel (b : Nat) (w : World) (N : Nat) (shut : Bool) (R : Option (List Pa × List Tk)) (x : Value) (wr : World) : Prop :=
 ∃ (acc : List Pa) (ys : List Value) (L : List Tk) (d : Nat), listF d shut acc L = R /\ L.length <= N /\ GoodS L /\ 6 * L.length + 4 <= d /\ acc.length + L.length <= 400 /\
  RdrS wr b L /\ w.grownBy wr (some b) /\ wr.ownsRow w.heap.size 36 2 x acc.length ys /\ PvAt (XS w.heap.size [x.ownBlock]) wr acc ys
theorem list_open (N : Nat) (hP : PathC N) (b : Nat) (L : List Tk) (d : Nat) (w : World) (hl : L.length <= N) (hg : GoodS L) (hd : 6 * L.length + 4 <= d) (h : RdrS w b L) (hE : EnvS b w) :
  Calls Tryz.prog 18 #[(pn b), .string ⟨#[]⟩] w (RetLs b w (listF d false [] L)) := by
 obtain ⟨iP, hi, hz0, hz1, hz2⟩ := info_parts infoPa
 have HpP0 := hid hz0
 have HiP := hid hi
 have HpP1 := hid hz1
 have HpP2 := hid hz2
 clear hz0 hi hz1 hz2
 have hblt := h.lt
 have hL4 := hg.1
 have H0 := hid h
 have cY := hid (need_yes b)
 have cX := hid (need_no b)
 generalize hR : listF d false [] L = R
 replace hR := hid hR
 replace hg := hid hg
 replace hE := hid hE
 clear h
 go_enter Tryz.func18, Tryz.ntmps18
 go_wp2_with fail
 go_loopw [5] (ListRel b w N false R) (fun _ wr => sel.lenV (wr.cell? ⟨b, 0, none⟩))
 case atStart => exact ⟨[], [], L, d, hR.out, hl, hg.out, hd, by simpa using hL4, H0.out, grown_of_below (Below.refl _ _) _, World.ownsRow_nil _ _ _ _, rfl⟩
 case round =>
  clear hR hg H0 hl hd hL4
  obtain ⟨acc, ys, L, d, hR, hLN, hgd, hd, hlen, hr, hgr, hrow, hv⟩ := hrel
  obtain ⟨va, vc, rfl⟩ := row_form hrow
  obtain ⟨d, rfl⟩ : ∃ e, d = e + 1 := ⟨d - 1, by omega⟩
  have hlenV := hr.lenV
  have hwz := hgr.size
  have HR := hid hr
  have HG := hid hgr
  have HO := hid hrow
  have HV := hid hv
  have hneb := hid (show (Value.slice va acc.length vc).ownBlock ≠ some b from fun e => by have := (hrow.lt _ e).1; omega)
  have hL4 := hgd.1
  have cG := hid (fun w h => gap_ct b L w h (by omega))
  have hgsl := (gap_suf L).length_le
  have hgg := hgd.suf (gap_suf L)
  have cS := fun w h hE => hP b (gapP L) d w (by omega) hgg (by omega) h hE
  have hF := hR
  rw [listF_go] at hF
  clear hr hgr hrow hv hR hgd
  cases hp : pathP d (gapP L) with
  | none =>
   rw [hp] at cS hF
   simp only [Option.bind_none] at hF
   subst hF
   unfold RetPa at cS
   replace cS := hid cS
   clear hp
   go_wp2_with (first
    | (go_at_call 27; (with_reducible refine (cG.out _ HR.out).mono ?_); rintro e W2 ⟨rfl, hr2, hg2⟩; have HR2 := hid hr2; have HG2 := hid (HG.out.trans hg2); have HO2 := hid (HO.out.kept hg2 (.inr hneb.out)); have K2 := hid (Kp.grown (B := w.heap.size) (S := [(Value.slice va acc.length vc).ownBlock]) hg2 hblt); clear hr2 hg2)
    | (go_at_call 28; (with_reducible refine (cS.out _ HR2.out (hE.out.on (below_one HG2.out hblt))).mono ?_); rintro e W3 ⟨rfl, hg3⟩; have HG3 := hid (HG2.out.trans hg3); clear hg3))
   exact ⟨rfl, rfl, HG3.out⟩
  | some r =>
   obtain ⟨p, M⟩ := r
   rw [hp] at cS hF
   simp only [Option.bind_some] at hF
   unfold listG at hF
   dsimp only at hF
   obtain ⟨hMs, hMl⟩ := path_fw hp
   have hMl2 := Nat.lt_of_lt_of_le hMl hgsl
   have hgM := hgg.suf hMs
   unfold RetPa at cS
   replace cS := hid cS
   have cG2 := hid (fun w h => gap_ct b M w h (by omega))
   have hgs2 := (gap_suf M).length_le
   have hgM2 := hgM.suf (gap_suf M)
   clear hp hMs hgM hgg
   generalize gapP M = K at *
   cases K with
   | nil =>
    have cR := hid (fun w h => raw_no b [] ⟨#[44]⟩ w h (by decide))
    simp only [if_neg Bool.false_ne_true] at hF
    subst hF
    clear hgM2
    go_wp2_with (first
     | (go_at_call 27; (with_reducible refine (cG.out _ HR.out).mono ?_); rintro e W2 ⟨rfl, hr2, hg2⟩; have HR2 := hid hr2; have HG2 := hid (HG.out.trans hg2); have HO2 := hid (HO.out.kept hg2 (.inr hneb.out)); have K2 := hid (Kp.grown (B := w.heap.size) (S := [(Value.slice va acc.length vc).ownBlock]) hg2 hblt); clear hr2 hg2)
     | (go_at_call 28; (with_reducible refine (cS.out _ HR2.out (hE.out.on (below_one HG2.out hblt))).mono ?_); rintro e W3 ⟨hg3, ⟨x0, x1, rfl, hp3⟩, hr3⟩; (try dsimp only at hp3 hr3); obtain ⟨A0, p0, c0, B0, n0, d0, rfl, rfl⟩ := pa_form hp3; have HR3 := hid hr3; have HG3 := hid (HG2.out.trans hg3); have HO3 := hid (HO2.out.kept hg3 (.inr hneb.out)); have K3 := hid (K2.out.trans (Kp.grown hg3 hblt)); have P3 := hid (PaAt.keep (w := W3) (w' := W3) (X := fun c => W2.heap.size <= c) (Y := XS w.heap.size [(Value.slice va acc.length vc).ownBlock]) (Nat.le_refl _) (fun c (h : W2.heap.size <= c) _ => ⟨fresh_one HG2.out.size HO2.out h, rfl⟩) _ _ hp3); have hz3 := HG3.out.size; clear hg3 hp3 hr3)
     | (at_builtin; refine wpList_append_own_at _ rfl _ _ 24 rfl w.heap.size 36 iP (.agg #[.slice none 0 0, .slice none 0 0]) 2 48 Tryz.underlying24 HiP.out HpP0.out HpP1.out HpP2.out rfl (by decide) _ _ _ rfl (HO3.out.alloc (.cells #[.slice A0 p0 c0, .slice B0 n0 d0] 36)) ⟨W3.heap.size, 0, none⟩ 1 1 [.slice A0 p0 c0, .slice B0 n0 d0] rfl rfl (Blk.new (w := W3) (t := 36) (cs := #[.slice A0 p0 c0, .slice B0 n0 d0]) rfl).news (by simp [Value.oneCell']) (by unfold maxLen; omega) (by omega) (by simp; omega) ?_; intro v4 w4 hown4 hgrow4 _ hat4; obtain ⟨a4, c4, rfl⟩ := row_form hown4; have hb4 := below_app ((Below.refl w.heap.size W3).alloc hz3 (.cells #[.slice A0 p0 c0, .slice B0 n0 d0] 36)) hgrow4 (HO3.out.alloc _) (Nat.le_refl _) (by simp; omega); have HR4 := hid (HR3.out.on hb4 hblt); have HG4 := hid (grown_lowS HG3.out hb4 (Nat.le_refl _)); have HO4 := hid hown4; have k4 := (Kp.alloc (B := w.heap.size) (S := [(Value.slice va acc.length vc).ownBlock]) (.cells #[.slice A0 p0 c0, .slice B0 n0 d0] 36)).trans (Kp.app (S' := [(Value.slice a4 (acc.length + 1) c4).ownBlock]) hgrow4 (List.mem_cons_self ..) (fun x hx => one_mem hat4 hx)); have V4 := hid (PvAt.snoc (k4.pa P3.out) (k4.pv (K3.out.pv HV.out))); have hneb4 := hid (show (Value.slice a4 (acc.length + 1) c4).ownBlock ≠ some b from fun e => by have := (hown4.lt _ e).1; omega); clear hown4 hgrow4 hat4 hb4 k4)
     | (go_at_call 27; (with_reducible refine (cG2.out _ HR4.out).mono ?_); rintro e W5 ⟨rfl, hr5, hg5⟩; have HR5 := hid hr5; have HG5 := hid (HG4.out.trans hg5); have HO5 := hid (HO4.out.kept hg5 (.inr hneb4.out)); have V5 := hid ((Kp.grown hg5 hblt).pv V4.out); clear hr5 hg5)
     | (go_at_call 29; (with_reducible refine (cR.out _ HR5.out).mono ?_); rintro e W6 ⟨rfl, hb6⟩; have HR6 := hid (HR5.out.on hb6 HR5.out.lt); have HG6 := hid (HG5.out.trans (grown_of_below hb6 (some b))); have HO6 := hid (row_on HO5.out hb6); have V6 := hid ((Kp.below hb6).pv V5.out); obtain ⟨rA, rc, hrl, hrc⟩ := HR6.out.cells; clear hb6)
     | (go_at_call 30; (with_reducible refine (cY.out _).mono ?_); rintro e W9 ⟨rfl, rfl⟩))
    go_ret
    refine ⟨HG6.out, ⟨a4, c4, by simp, ?_⟩, HR6.out⟩
    exact pas_row HO6.out (by simp) (PvAt.keep (Nat.le_refl _) (fun c h _ => ⟨h.1, rfl⟩) V6.out) (fun g _ h => h)
   | cons t K =>
    simp only [List.length_cons] at hgs2
    by_cases h44 : t.raw = [44]
    ·simp only [if_pos h44] at hF
     have cR := hid (fun w h => raw_yes b t K ⟨#[44]⟩ w h h44)
     have HM2 := hid hgM2.tail
     have hR := hid hF
     clear h44 hF hgM2
     go_wp2_with (first
      | (go_at_call 27; (with_reducible refine (cG.out _ HR.out).mono ?_); rintro e W2 ⟨rfl, hr2, hg2⟩; have HR2 := hid hr2; have HG2 := hid (HG.out.trans hg2); have HO2 := hid (HO.out.kept hg2 (.inr hneb.out)); have K2 := hid (Kp.grown (B := w.heap.size) (S := [(Value.slice va acc.length vc).ownBlock]) hg2 hblt); clear hr2 hg2)
      | (go_at_call 28; (with_reducible refine (cS.out _ HR2.out (hE.out.on (below_one HG2.out hblt))).mono ?_); rintro e W3 ⟨hg3, ⟨x0, x1, rfl, hp3⟩, hr3⟩; (try dsimp only at hp3 hr3); obtain ⟨A0, p0, c0, B0, n0, d0, rfl, rfl⟩ := pa_form hp3; have HR3 := hid hr3; have HG3 := hid (HG2.out.trans hg3); have HO3 := hid (HO2.out.kept hg3 (.inr hneb.out)); have K3 := hid (K2.out.trans (Kp.grown hg3 hblt)); have P3 := hid (PaAt.keep (w := W3) (w' := W3) (X := fun c => W2.heap.size <= c) (Y := XS w.heap.size [(Value.slice va acc.length vc).ownBlock]) (Nat.le_refl _) (fun c (h : W2.heap.size <= c) _ => ⟨fresh_one HG2.out.size HO2.out h, rfl⟩) _ _ hp3); have hz3 := HG3.out.size; clear hg3 hp3 hr3)
      | (at_builtin; refine wpList_append_own_at _ rfl _ _ 24 rfl w.heap.size 36 iP (.agg #[.slice none 0 0, .slice none 0 0]) 2 48 Tryz.underlying24 HiP.out HpP0.out HpP1.out HpP2.out rfl (by decide) _ _ _ rfl (HO3.out.alloc (.cells #[.slice A0 p0 c0, .slice B0 n0 d0] 36)) ⟨W3.heap.size, 0, none⟩ 1 1 [.slice A0 p0 c0, .slice B0 n0 d0] rfl rfl (Blk.new (w := W3) (t := 36) (cs := #[.slice A0 p0 c0, .slice B0 n0 d0]) rfl).news (by simp [Value.oneCell']) (by unfold maxLen; omega) (by omega) (by simp; omega) ?_; intro v4 w4 hown4 hgrow4 _ hat4; obtain ⟨a4, c4, rfl⟩ := row_form hown4; have hb4 := below_app ((Below.refl w.heap.size W3).alloc hz3 (.cells #[.slice A0 p0 c0, .slice B0 n0 d0] 36)) hgrow4 (HO3.out.alloc _) (Nat.le_refl _) (by simp; omega); have HR4 := hid (HR3.out.on hb4 hblt); have HG4 := hid (grown_lowS HG3.out hb4 (Nat.le_refl _)); have HO4 := hid hown4; have k4 := (Kp.alloc (B := w.heap.size) (S := [(Value.slice va acc.length vc).ownBlock]) (.cells #[.slice A0 p0 c0, .slice B0 n0 d0] 36)).trans (Kp.app (S' := [(Value.slice a4 (acc.length + 1) c4).ownBlock]) hgrow4 (List.mem_cons_self ..) (fun x hx => one_mem hat4 hx)); have V4 := hid (PvAt.snoc (k4.pa P3.out) (k4.pv (K3.out.pv HV.out))); have hneb4 := hid (show (Value.slice a4 (acc.length + 1) c4).ownBlock ≠ some b from fun e => by have := (hown4.lt _ e).1; omega); clear hown4 hgrow4 hat4 hb4 k4)
      | (go_at_call 27; (with_reducible refine (cG2.out _ HR4.out).mono ?_); rintro e W5 ⟨rfl, hr5, hg5⟩; have HR5 := hid hr5; have HG5 := hid (HG4.out.trans hg5); have HO5 := hid (HO4.out.kept hg5 (.inr hneb4.out)); have V5 := hid ((Kp.grown hg5 hblt).pv V4.out); clear hr5 hg5)
      | (go_at_call 29; (with_reducible refine (cR.out _ HR5.out).mono ?_); rintro e W6 ⟨rfl, hr6, hg6⟩; have HR6 := hid hr6; have HG6 := hid (HG5.out.trans hg6); have HO6 := hid (HO5.out.kept hg6 (.inr hneb4.out)); have V6 := hid ((Kp.grown hg6 hblt).pv V5.out); clear hr6 hg6))
     go_roundw
     case rel => exact ⟨acc ++ [p], _, K, d, hR.out, by omega, HM2.out, by omega, by simp only [List.length_append, List.length_cons, List.length_nil]; omega, HR6.out, HG6.out, (by rw [List.length_append]; exact HO6.out), V6.out⟩
     case measure =>
      rw [HR6.out.lenV, hlenV]
      omega
    ·simp only [if_neg h44] at hF
     have cR := hid (fun w h => raw_no b (t :: K) ⟨#[44]⟩ w h h44)
     simp only [if_neg Bool.false_ne_true] at hF
     subst hF
     have n0 : (((K.length : Int) + 1) == 0) = false := bq (by omega)
     clear h44 hgM2
     go_wp2_with (first
      | (go_at_call 27; (with_reducible refine (cG.out _ HR.out).mono ?_); rintro e W2 ⟨rfl, hr2, hg2⟩; have HR2 := hid hr2; have HG2 := hid (HG.out.trans hg2); have HO2 := hid (HO.out.kept hg2 (.inr hneb.out)); have K2 := hid (Kp.grown (B := w.heap.size) (S := [(Value.slice va acc.length vc).ownBlock]) hg2 hblt); clear hr2 hg2)
      | (go_at_call 28; (with_reducible refine (cS.out _ HR2.out (hE.out.on (below_one HG2.out hblt))).mono ?_); rintro e W3 ⟨hg3, ⟨x0, x1, rfl, hp3⟩, hr3⟩; (try dsimp only at hp3 hr3); obtain ⟨A0, p0, c0, B0, n0, d0, rfl, rfl⟩ := pa_form hp3; have HR3 := hid hr3; have HG3 := hid (HG2.out.trans hg3); have HO3 := hid (HO2.out.kept hg3 (.inr hneb.out)); have K3 := hid (K2.out.trans (Kp.grown hg3 hblt)); have P3 := hid (PaAt.keep (w := W3) (w' := W3) (X := fun c => W2.heap.size <= c) (Y := XS w.heap.size [(Value.slice va acc.length vc).ownBlock]) (Nat.le_refl _) (fun c (h : W2.heap.size <= c) _ => ⟨fresh_one HG2.out.size HO2.out h, rfl⟩) _ _ hp3); have hz3 := HG3.out.size; clear hg3 hp3 hr3)
      | (at_builtin; refine wpList_append_own_at _ rfl _ _ 24 rfl w.heap.size 36 iP (.agg #[.slice none 0 0, .slice none 0 0]) 2 48 Tryz.underlying24 HiP.out HpP0.out HpP1.out HpP2.out rfl (by decide) _ _ _ rfl (HO3.out.alloc (.cells #[.slice A0 p0 c0, .slice B0 n0 d0] 36)) ⟨W3.heap.size, 0, none⟩ 1 1 [.slice A0 p0 c0, .slice B0 n0 d0] rfl rfl (Blk.new (w := W3) (t := 36) (cs := #[.slice A0 p0 c0, .slice B0 n0 d0]) rfl).news (by simp [Value.oneCell']) (by unfold maxLen; omega) (by omega) (by simp; omega) ?_; intro v4 w4 hown4 hgrow4 _ hat4; obtain ⟨a4, c4, rfl⟩ := row_form hown4; have hb4 := below_app ((Below.refl w.heap.size W3).alloc hz3 (.cells #[.slice A0 p0 c0, .slice B0 n0 d0] 36)) hgrow4 (HO3.out.alloc _) (Nat.le_refl _) (by simp; omega); have HR4 := hid (HR3.out.on hb4 hblt); have HG4 := hid (grown_lowS HG3.out hb4 (Nat.le_refl _)); have HO4 := hid hown4; have k4 := (Kp.alloc (B := w.heap.size) (S := [(Value.slice va acc.length vc).ownBlock]) (.cells #[.slice A0 p0 c0, .slice B0 n0 d0] 36)).trans (Kp.app (S' := [(Value.slice a4 (acc.length + 1) c4).ownBlock]) hgrow4 (List.mem_cons_self ..) (fun x hx => one_mem hat4 hx)); have V4 := hid (PvAt.snoc (k4.pa P3.out) (k4.pv (K3.out.pv HV.out))); have hneb4 := hid (show (Value.slice a4 (acc.length + 1) c4).ownBlock ≠ some b from fun e => by have := (hown4.lt _ e).1; omega); clear hown4 hgrow4 hat4 hb4 k4)
      | (go_at_call 27; (with_reducible refine (cG2.out _ HR4.out).mono ?_); rintro e W5 ⟨rfl, hr5, hg5⟩; have HR5 := hid hr5; have HG5 := hid (HG4.out.trans hg5); have HO5 := hid (HO4.out.kept hg5 (.inr hneb4.out)); have V5 := hid ((Kp.grown hg5 hblt).pv V4.out); clear hr5 hg5)
      | (go_at_call 29; (with_reducible refine (cR.out _ HR5.out).mono ?_); rintro e W6 ⟨rfl, hb6⟩; have HR6 := hid (HR5.out.on hb6 HR5.out.lt); have HG6 := hid (HG5.out.trans (grown_of_below hb6 (some b))); have HO6 := hid (row_on HO5.out hb6); have V6 := hid ((Kp.below hb6).pv V5.out); obtain ⟨rA, rc, hrl, hrc⟩ := HR6.out.cells; clear hb6)
      | (go_at_call 30; (with_reducible refine (cX.out _).mono ?_); rintro e W9 ⟨rfl, rfl⟩))
     exact ⟨rfl, rfl, HG6.out⟩
theorem list_shut (N : Nat) (hP : PathC N) (b : Nat) (L : List Tk) (d : Nat) (w : World) (hl : L.length <= N) (hg : GoodS L) (hd : 6 * L.length + 4 <= d) (h : RdrS w b L) (hE : EnvS b w) :
  Calls Tryz.prog 18 #[(pn b), .string ⟨#[41]⟩] w (RetLs b w (listF d true [] L)) := by
 obtain ⟨iP, hi, hz0, hz1, hz2⟩ := info_parts infoPa
 have HpP0 := hid hz0
 have HiP := hid hi
 have HpP1 := hid hz1
 have HpP2 := hid hz2
 clear hz0 hi hz1 hz2
 have hblt := h.lt
 have hL4 := hg.1
 have H0 := hid h
 have cY := hid (need_yes b)
 have cX := hid (need_no b)
 generalize hR : listF d true [] L = R
 replace hR := hid hR
 replace hg := hid hg
 replace hE := hid hE
 clear h
 go_enter Tryz.func18, Tryz.ntmps18
 go_wp2_with fail
 go_loopw [5] (ListRel b w N true R) (fun _ wr => sel.lenV (wr.cell? ⟨b, 0, none⟩))
 case atStart => exact ⟨[], [], L, d, hR.out, hl, hg.out, hd, by simpa using hL4, H0.out, grown_of_below (Below.refl _ _) _, World.ownsRow_nil _ _ _ _, rfl⟩
 case round =>
  clear hR hg H0 hl hd hL4
  obtain ⟨acc, ys, L, d, hR, hLN, hgd, hd, hlen, hr, hgr, hrow, hv⟩ := hrel
  obtain ⟨va, vc, rfl⟩ := row_form hrow
  obtain ⟨d, rfl⟩ : ∃ e, d = e + 1 := ⟨d - 1, by omega⟩
  have hlenV := hr.lenV
  have hwz := hgr.size
  have HR := hid hr
  have HG := hid hgr
  have HO := hid hrow
  have HV := hid hv
  have hneb := hid (show (Value.slice va acc.length vc).ownBlock ≠ some b from fun e => by have := (hrow.lt _ e).1; omega)
  have hL4 := hgd.1
  have cG := hid (fun w h => gap_ct b L w h (by omega))
  have hgsl := (gap_suf L).length_le
  have hgg := hgd.suf (gap_suf L)
  have cS := fun w h hE => hP b (gapP L) d w (by omega) hgg (by omega) h hE
  have hF := hR
  rw [listF_go] at hF
  clear hr hgr hrow hv hR hgd
  cases hp : pathP d (gapP L) with
  | none =>
   rw [hp] at cS hF
   simp only [Option.bind_none] at hF
   subst hF
   unfold RetPa at cS
   replace cS := hid cS
   clear hp
   go_wp2_with (first
    | (go_at_call 27; (with_reducible refine (cG.out _ HR.out).mono ?_); rintro e W2 ⟨rfl, hr2, hg2⟩; have HR2 := hid hr2; have HG2 := hid (HG.out.trans hg2); have HO2 := hid (HO.out.kept hg2 (.inr hneb.out)); have K2 := hid (Kp.grown (B := w.heap.size) (S := [(Value.slice va acc.length vc).ownBlock]) hg2 hblt); clear hr2 hg2)
    | (go_at_call 28; (with_reducible refine (cS.out _ HR2.out (hE.out.on (below_one HG2.out hblt))).mono ?_); rintro e W3 ⟨rfl, hg3⟩; have HG3 := hid (HG2.out.trans hg3); clear hg3))
   exact ⟨rfl, rfl, HG3.out⟩
  | some r =>
   obtain ⟨p, M⟩ := r
   rw [hp] at cS hF
   simp only [Option.bind_some] at hF
   unfold listG at hF
   dsimp only at hF
   obtain ⟨hMs, hMl⟩ := path_fw hp
   have hMl2 := Nat.lt_of_lt_of_le hMl hgsl
   have hgM := hgg.suf hMs
   unfold RetPa at cS
   replace cS := hid cS
   have cG2 := hid (fun w h => gap_ct b M w h (by omega))
   have hgs2 := (gap_suf M).length_le
   have hgM2 := hgM.suf (gap_suf M)
   clear hp hMs hgM hgg
   generalize gapP M = K at *
   cases K with
   | nil =>
    have cR := hid (fun w h => raw_no b [] ⟨#[44]⟩ w h (by decide))
    simp only [if_pos trivial] at hF
    subst hF
    clear hgM2
    have cR2 := hid (fun w h => raw_no b [] ⟨#[41]⟩ w h (by decide))
    go_wp2_with (first
     | (go_at_call 27; (with_reducible refine (cG.out _ HR.out).mono ?_); rintro e W2 ⟨rfl, hr2, hg2⟩; have HR2 := hid hr2; have HG2 := hid (HG.out.trans hg2); have HO2 := hid (HO.out.kept hg2 (.inr hneb.out)); have K2 := hid (Kp.grown (B := w.heap.size) (S := [(Value.slice va acc.length vc).ownBlock]) hg2 hblt); clear hr2 hg2)
     | (go_at_call 28; (with_reducible refine (cS.out _ HR2.out (hE.out.on (below_one HG2.out hblt))).mono ?_); rintro e W3 ⟨hg3, ⟨x0, x1, rfl, hp3⟩, hr3⟩; (try dsimp only at hp3 hr3); obtain ⟨A0, p0, c0, B0, n0, d0, rfl, rfl⟩ := pa_form hp3; have HR3 := hid hr3; have HG3 := hid (HG2.out.trans hg3); have HO3 := hid (HO2.out.kept hg3 (.inr hneb.out)); have K3 := hid (K2.out.trans (Kp.grown hg3 hblt)); have P3 := hid (PaAt.keep (w := W3) (w' := W3) (X := fun c => W2.heap.size <= c) (Y := XS w.heap.size [(Value.slice va acc.length vc).ownBlock]) (Nat.le_refl _) (fun c (h : W2.heap.size <= c) _ => ⟨fresh_one HG2.out.size HO2.out h, rfl⟩) _ _ hp3); have hz3 := HG3.out.size; clear hg3 hp3 hr3)
     | (at_builtin; refine wpList_append_own_at _ rfl _ _ 24 rfl w.heap.size 36 iP (.agg #[.slice none 0 0, .slice none 0 0]) 2 48 Tryz.underlying24 HiP.out HpP0.out HpP1.out HpP2.out rfl (by decide) _ _ _ rfl (HO3.out.alloc (.cells #[.slice A0 p0 c0, .slice B0 n0 d0] 36)) ⟨W3.heap.size, 0, none⟩ 1 1 [.slice A0 p0 c0, .slice B0 n0 d0] rfl rfl (Blk.new (w := W3) (t := 36) (cs := #[.slice A0 p0 c0, .slice B0 n0 d0]) rfl).news (by simp [Value.oneCell']) (by unfold maxLen; omega) (by omega) (by simp; omega) ?_; intro v4 w4 hown4 hgrow4 _ hat4; obtain ⟨a4, c4, rfl⟩ := row_form hown4; have hb4 := below_app ((Below.refl w.heap.size W3).alloc hz3 (.cells #[.slice A0 p0 c0, .slice B0 n0 d0] 36)) hgrow4 (HO3.out.alloc _) (Nat.le_refl _) (by simp; omega); have HR4 := hid (HR3.out.on hb4 hblt); have HG4 := hid (grown_lowS HG3.out hb4 (Nat.le_refl _)); have HO4 := hid hown4; have k4 := (Kp.alloc (B := w.heap.size) (S := [(Value.slice va acc.length vc).ownBlock]) (.cells #[.slice A0 p0 c0, .slice B0 n0 d0] 36)).trans (Kp.app (S' := [(Value.slice a4 (acc.length + 1) c4).ownBlock]) hgrow4 (List.mem_cons_self ..) (fun x hx => one_mem hat4 hx)); have V4 := hid (PvAt.snoc (k4.pa P3.out) (k4.pv (K3.out.pv HV.out))); have hneb4 := hid (show (Value.slice a4 (acc.length + 1) c4).ownBlock ≠ some b from fun e => by have := (hown4.lt _ e).1; omega); clear hown4 hgrow4 hat4 hb4 k4)
     | (go_at_call 27; (with_reducible refine (cG2.out _ HR4.out).mono ?_); rintro e W5 ⟨rfl, hr5, hg5⟩; have HR5 := hid hr5; have HG5 := hid (HG4.out.trans hg5); have HO5 := hid (HO4.out.kept hg5 (.inr hneb4.out)); have V5 := hid ((Kp.grown hg5 hblt).pv V4.out); clear hr5 hg5)
     | (go_at_call 29; (with_reducible refine (cR.out _ HR5.out).mono ?_); rintro e W6 ⟨rfl, hb6⟩; have HR6 := hid (HR5.out.on hb6 HR5.out.lt); have HG6 := hid (HG5.out.trans (grown_of_below hb6 (some b))); have HO6 := hid (row_on HO5.out hb6); have V6 := hid ((Kp.below hb6).pv V5.out); obtain ⟨rA, rc, hrl, hrc⟩ := HR6.out.cells; clear hb6)
     | (go_at_call 29; (with_reducible refine (cR2.out _ HR6.out).mono ?_); rintro e W7 ⟨rfl, hb7⟩; have HR7 := hid (HR6.out.on hb7 HR6.out.lt); have HG7 := hid (HG6.out.trans (grown_of_below hb7 (some b))); have HO7 := hid (row_on HO6.out hb7); have V7 := hid ((Kp.below hb7).pv V6.out); clear hb7)
     | (go_at_call 30; (with_reducible refine (cX.out _).mono ?_); rintro e W9 ⟨rfl, rfl⟩))
    exact ⟨rfl, rfl, HG7.out⟩
   | cons t K =>
    simp only [List.length_cons] at hgs2
    by_cases h44 : t.raw = [44]
    ·simp only [if_pos h44] at hF
     have cR := hid (fun w h => raw_yes b t K ⟨#[44]⟩ w h h44)
     have HM2 := hid hgM2.tail
     have hR := hid hF
     clear h44 hF hgM2
     go_wp2_with (first
      | (go_at_call 27; (with_reducible refine (cG.out _ HR.out).mono ?_); rintro e W2 ⟨rfl, hr2, hg2⟩; have HR2 := hid hr2; have HG2 := hid (HG.out.trans hg2); have HO2 := hid (HO.out.kept hg2 (.inr hneb.out)); have K2 := hid (Kp.grown (B := w.heap.size) (S := [(Value.slice va acc.length vc).ownBlock]) hg2 hblt); clear hr2 hg2)
      | (go_at_call 28; (with_reducible refine (cS.out _ HR2.out (hE.out.on (below_one HG2.out hblt))).mono ?_); rintro e W3 ⟨hg3, ⟨x0, x1, rfl, hp3⟩, hr3⟩; (try dsimp only at hp3 hr3); obtain ⟨A0, p0, c0, B0, n0, d0, rfl, rfl⟩ := pa_form hp3; have HR3 := hid hr3; have HG3 := hid (HG2.out.trans hg3); have HO3 := hid (HO2.out.kept hg3 (.inr hneb.out)); have K3 := hid (K2.out.trans (Kp.grown hg3 hblt)); have P3 := hid (PaAt.keep (w := W3) (w' := W3) (X := fun c => W2.heap.size <= c) (Y := XS w.heap.size [(Value.slice va acc.length vc).ownBlock]) (Nat.le_refl _) (fun c (h : W2.heap.size <= c) _ => ⟨fresh_one HG2.out.size HO2.out h, rfl⟩) _ _ hp3); have hz3 := HG3.out.size; clear hg3 hp3 hr3)
      | (at_builtin; refine wpList_append_own_at _ rfl _ _ 24 rfl w.heap.size 36 iP (.agg #[.slice none 0 0, .slice none 0 0]) 2 48 Tryz.underlying24 HiP.out HpP0.out HpP1.out HpP2.out rfl (by decide) _ _ _ rfl (HO3.out.alloc (.cells #[.slice A0 p0 c0, .slice B0 n0 d0] 36)) ⟨W3.heap.size, 0, none⟩ 1 1 [.slice A0 p0 c0, .slice B0 n0 d0] rfl rfl (Blk.new (w := W3) (t := 36) (cs := #[.slice A0 p0 c0, .slice B0 n0 d0]) rfl).news (by simp [Value.oneCell']) (by unfold maxLen; omega) (by omega) (by simp; omega) ?_; intro v4 w4 hown4 hgrow4 _ hat4; obtain ⟨a4, c4, rfl⟩ := row_form hown4; have hb4 := below_app ((Below.refl w.heap.size W3).alloc hz3 (.cells #[.slice A0 p0 c0, .slice B0 n0 d0] 36)) hgrow4 (HO3.out.alloc _) (Nat.le_refl _) (by simp; omega); have HR4 := hid (HR3.out.on hb4 hblt); have HG4 := hid (grown_lowS HG3.out hb4 (Nat.le_refl _)); have HO4 := hid hown4; have k4 := (Kp.alloc (B := w.heap.size) (S := [(Value.slice va acc.length vc).ownBlock]) (.cells #[.slice A0 p0 c0, .slice B0 n0 d0] 36)).trans (Kp.app (S' := [(Value.slice a4 (acc.length + 1) c4).ownBlock]) hgrow4 (List.mem_cons_self ..) (fun x hx => one_mem hat4 hx)); have V4 := hid (PvAt.snoc (k4.pa P3.out) (k4.pv (K3.out.pv HV.out))); have hneb4 := hid (show (Value.slice a4 (acc.length + 1) c4).ownBlock ≠ some b from fun e => by have := (hown4.lt _ e).1; omega); clear hown4 hgrow4 hat4 hb4 k4)
      | (go_at_call 27; (with_reducible refine (cG2.out _ HR4.out).mono ?_); rintro e W5 ⟨rfl, hr5, hg5⟩; have HR5 := hid hr5; have HG5 := hid (HG4.out.trans hg5); have HO5 := hid (HO4.out.kept hg5 (.inr hneb4.out)); have V5 := hid ((Kp.grown hg5 hblt).pv V4.out); clear hr5 hg5)
      | (go_at_call 29; (with_reducible refine (cR.out _ HR5.out).mono ?_); rintro e W6 ⟨rfl, hr6, hg6⟩; have HR6 := hid hr6; have HG6 := hid (HG5.out.trans hg6); have HO6 := hid (HO5.out.kept hg6 (.inr hneb4.out)); have V6 := hid ((Kp.grown hg6 hblt).pv V5.out); clear hr6 hg6))
     go_roundw
     case rel => exact ⟨acc ++ [p], _, K, d, hR.out, by omega, HM2.out, by omega, by simp only [List.length_append, List.length_cons, List.length_nil]; omega, HR6.out, HG6.out, (by rw [List.length_append]; exact HO6.out), V6.out⟩
     case measure =>
      rw [HR6.out.lenV, hlenV]
      omega
    ·simp only [if_neg h44] at hF
     have cR := hid (fun w h => raw_no b (t :: K) ⟨#[44]⟩ w h h44)
     simp only [if_pos trivial] at hF
     by_cases h41 : t.raw = [41]
     ·rw [if_pos h41] at hF
      subst hF
      have cR2 := hid (fun w h => raw_yes b t K ⟨#[41]⟩ w h h41)
      clear h44 h41 hgM2
      go_wp2_with (first
       | (go_at_call 27; (with_reducible refine (cG.out _ HR.out).mono ?_); rintro e W2 ⟨rfl, hr2, hg2⟩; have HR2 := hid hr2; have HG2 := hid (HG.out.trans hg2); have HO2 := hid (HO.out.kept hg2 (.inr hneb.out)); have K2 := hid (Kp.grown (B := w.heap.size) (S := [(Value.slice va acc.length vc).ownBlock]) hg2 hblt); clear hr2 hg2)
       | (go_at_call 28; (with_reducible refine (cS.out _ HR2.out (hE.out.on (below_one HG2.out hblt))).mono ?_); rintro e W3 ⟨hg3, ⟨x0, x1, rfl, hp3⟩, hr3⟩; (try dsimp only at hp3 hr3); obtain ⟨A0, p0, c0, B0, n0, d0, rfl, rfl⟩ := pa_form hp3; have HR3 := hid hr3; have HG3 := hid (HG2.out.trans hg3); have HO3 := hid (HO2.out.kept hg3 (.inr hneb.out)); have K3 := hid (K2.out.trans (Kp.grown hg3 hblt)); have P3 := hid (PaAt.keep (w := W3) (w' := W3) (X := fun c => W2.heap.size <= c) (Y := XS w.heap.size [(Value.slice va acc.length vc).ownBlock]) (Nat.le_refl _) (fun c (h : W2.heap.size <= c) _ => ⟨fresh_one HG2.out.size HO2.out h, rfl⟩) _ _ hp3); have hz3 := HG3.out.size; clear hg3 hp3 hr3)
       | (at_builtin; refine wpList_append_own_at _ rfl _ _ 24 rfl w.heap.size 36 iP (.agg #[.slice none 0 0, .slice none 0 0]) 2 48 Tryz.underlying24 HiP.out HpP0.out HpP1.out HpP2.out rfl (by decide) _ _ _ rfl (HO3.out.alloc (.cells #[.slice A0 p0 c0, .slice B0 n0 d0] 36)) ⟨W3.heap.size, 0, none⟩ 1 1 [.slice A0 p0 c0, .slice B0 n0 d0] rfl rfl (Blk.new (w := W3) (t := 36) (cs := #[.slice A0 p0 c0, .slice B0 n0 d0]) rfl).news (by simp [Value.oneCell']) (by unfold maxLen; omega) (by omega) (by simp; omega) ?_; intro v4 w4 hown4 hgrow4 _ hat4; obtain ⟨a4, c4, rfl⟩ := row_form hown4; have hb4 := below_app ((Below.refl w.heap.size W3).alloc hz3 (.cells #[.slice A0 p0 c0, .slice B0 n0 d0] 36)) hgrow4 (HO3.out.alloc _) (Nat.le_refl _) (by simp; omega); have HR4 := hid (HR3.out.on hb4 hblt); have HG4 := hid (grown_lowS HG3.out hb4 (Nat.le_refl _)); have HO4 := hid hown4; have k4 := (Kp.alloc (B := w.heap.size) (S := [(Value.slice va acc.length vc).ownBlock]) (.cells #[.slice A0 p0 c0, .slice B0 n0 d0] 36)).trans (Kp.app (S' := [(Value.slice a4 (acc.length + 1) c4).ownBlock]) hgrow4 (List.mem_cons_self ..) (fun x hx => one_mem hat4 hx)); have V4 := hid (PvAt.snoc (k4.pa P3.out) (k4.pv (K3.out.pv HV.out))); have hneb4 := hid (show (Value.slice a4 (acc.length + 1) c4).ownBlock ≠ some b from fun e => by have := (hown4.lt _ e).1; omega); clear hown4 hgrow4 hat4 hb4 k4)
       | (go_at_call 27; (with_reducible refine (cG2.out _ HR4.out).mono ?_); rintro e W5 ⟨rfl, hr5, hg5⟩; have HR5 := hid hr5; have HG5 := hid (HG4.out.trans hg5); have HO5 := hid (HO4.out.kept hg5 (.inr hneb4.out)); have V5 := hid ((Kp.grown hg5 hblt).pv V4.out); clear hr5 hg5)
       | (go_at_call 29; (with_reducible refine (cR.out _ HR5.out).mono ?_); rintro e W6 ⟨rfl, hb6⟩; have HR6 := hid (HR5.out.on hb6 HR5.out.lt); have HG6 := hid (HG5.out.trans (grown_of_below hb6 (some b))); have HO6 := hid (row_on HO5.out hb6); have V6 := hid ((Kp.below hb6).pv V5.out); obtain ⟨rA, rc, hrl, hrc⟩ := HR6.out.cells; clear hb6)
       | (go_at_call 29; (with_reducible refine (cR2.out _ HR6.out).mono ?_); rintro e W7 ⟨rfl, hr7, hg7⟩; have HR7 := hid hr7; have HG7 := hid (HG6.out.trans hg7); have HO7 := hid (HO6.out.kept hg7 (.inr hneb4.out)); have V7 := hid ((Kp.grown hg7 hblt).pv V6.out); clear hr7 hg7)
       | (go_at_call 30; (with_reducible refine (cY.out _).mono ?_); rintro e W9 ⟨rfl, rfl⟩))
      go_ret
      refine ⟨HG7.out, ⟨a4, c4, by simp, ?_⟩, HR7.out⟩
      exact pas_row HO7.out (by simp) (PvAt.keep (Nat.le_refl _) (fun c h _ => ⟨h.1, rfl⟩) V7.out) (fun g _ h => h)
     ·rw [if_neg h41] at hF
      subst hF
      have cR2 := hid (fun w h => raw_no b (t :: K) ⟨#[41]⟩ w h h41)
      clear h44 h41 hgM2
      go_wp2_with (first
       | (go_at_call 27; (with_reducible refine (cG.out _ HR.out).mono ?_); rintro e W2 ⟨rfl, hr2, hg2⟩; have HR2 := hid hr2; have HG2 := hid (HG.out.trans hg2); have HO2 := hid (HO.out.kept hg2 (.inr hneb.out)); have K2 := hid (Kp.grown (B := w.heap.size) (S := [(Value.slice va acc.length vc).ownBlock]) hg2 hblt); clear hr2 hg2)
       | (go_at_call 28; (with_reducible refine (cS.out _ HR2.out (hE.out.on (below_one HG2.out hblt))).mono ?_); rintro e W3 ⟨hg3, ⟨x0, x1, rfl, hp3⟩, hr3⟩; (try dsimp only at hp3 hr3); obtain ⟨A0, p0, c0, B0, n0, d0, rfl, rfl⟩ := pa_form hp3; have HR3 := hid hr3; have HG3 := hid (HG2.out.trans hg3); have HO3 := hid (HO2.out.kept hg3 (.inr hneb.out)); have K3 := hid (K2.out.trans (Kp.grown hg3 hblt)); have P3 := hid (PaAt.keep (w := W3) (w' := W3) (X := fun c => W2.heap.size <= c) (Y := XS w.heap.size [(Value.slice va acc.length vc).ownBlock]) (Nat.le_refl _) (fun c (h : W2.heap.size <= c) _ => ⟨fresh_one HG2.out.size HO2.out h, rfl⟩) _ _ hp3); have hz3 := HG3.out.size; clear hg3 hp3 hr3)
       | (at_builtin; refine wpList_append_own_at _ rfl _ _ 24 rfl w.heap.size 36 iP (.agg #[.slice none 0 0, .slice none 0 0]) 2 48 Tryz.underlying24 HiP.out HpP0.out HpP1.out HpP2.out rfl (by decide) _ _ _ rfl (HO3.out.alloc (.cells #[.slice A0 p0 c0, .slice B0 n0 d0] 36)) ⟨W3.heap.size, 0, none⟩ 1 1 [.slice A0 p0 c0, .slice B0 n0 d0] rfl rfl (Blk.new (w := W3) (t := 36) (cs := #[.slice A0 p0 c0, .slice B0 n0 d0]) rfl).news (by simp [Value.oneCell']) (by unfold maxLen; omega) (by omega) (by simp; omega) ?_; intro v4 w4 hown4 hgrow4 _ hat4; obtain ⟨a4, c4, rfl⟩ := row_form hown4; have hb4 := below_app ((Below.refl w.heap.size W3).alloc hz3 (.cells #[.slice A0 p0 c0, .slice B0 n0 d0] 36)) hgrow4 (HO3.out.alloc _) (Nat.le_refl _) (by simp; omega); have HR4 := hid (HR3.out.on hb4 hblt); have HG4 := hid (grown_lowS HG3.out hb4 (Nat.le_refl _)); have HO4 := hid hown4; have k4 := (Kp.alloc (B := w.heap.size) (S := [(Value.slice va acc.length vc).ownBlock]) (.cells #[.slice A0 p0 c0, .slice B0 n0 d0] 36)).trans (Kp.app (S' := [(Value.slice a4 (acc.length + 1) c4).ownBlock]) hgrow4 (List.mem_cons_self ..) (fun x hx => one_mem hat4 hx)); have V4 := hid (PvAt.snoc (k4.pa P3.out) (k4.pv (K3.out.pv HV.out))); have hneb4 := hid (show (Value.slice a4 (acc.length + 1) c4).ownBlock ≠ some b from fun e => by have := (hown4.lt _ e).1; omega); clear hown4 hgrow4 hat4 hb4 k4)
       | (go_at_call 27; (with_reducible refine (cG2.out _ HR4.out).mono ?_); rintro e W5 ⟨rfl, hr5, hg5⟩; have HR5 := hid hr5; have HG5 := hid (HG4.out.trans hg5); have HO5 := hid (HO4.out.kept hg5 (.inr hneb4.out)); have V5 := hid ((Kp.grown hg5 hblt).pv V4.out); clear hr5 hg5)
       | (go_at_call 29; (with_reducible refine (cR.out _ HR5.out).mono ?_); rintro e W6 ⟨rfl, hb6⟩; have HR6 := hid (HR5.out.on hb6 HR5.out.lt); have HG6 := hid (HG5.out.trans (grown_of_below hb6 (some b))); have HO6 := hid (row_on HO5.out hb6); have V6 := hid ((Kp.below hb6).pv V5.out); obtain ⟨rA, rc, hrl, hrc⟩ := HR6.out.cells; clear hb6)
       | (go_at_call 29; (with_reducible refine (cR2.out _ HR6.out).mono ?_); rintro e W7 ⟨rfl, hb7⟩; have HR7 := hid (HR6.out.on hb7 HR6.out.lt); have HG7 := hid (HG6.out.trans (grown_of_below hb7 (some b))); have HO7 := hid (row_on HO6.out hb7); have V7 := hid ((Kp.below hb7).pv V6.out); clear hb7)
       | (go_at_call 30; (with_reducible refine (cX.out _).mono ?_); rintro e W9 ⟨rfl, rfl⟩))
      exact ⟨rfl, rfl, HG7.out⟩
theorem list_ct (N : Nat) (hP : PathC N) : ListC N := by
 intro b shut L d w hl hg hd h hE
 cases shut with
 | false => exact list_open N hP b L d w hl hg hd h hE
 | true => exact list_shut N hP b L d w hl hg hd h hE
theorem one_zero : OneC 0 := by
 intro b L d w hl hg hd h hE
 obtain rfl := List.eq_nil_of_length_eq_zero (Nat.le_zero.1 hl)
 obtain ⟨d, rfl⟩ : ∃ e, d = e + 1 := ⟨d - 1, by omega⟩
 rw [oneF]
 exact one_nil b w h hE
theorem pse_zero : PseC 0 := by
 intro b L d w hl hg hd h hE
 obtain rfl := List.eq_nil_of_length_eq_zero (Nat.le_zero.1 hl)
 obtain ⟨d, rfl⟩ : ∃ e, d = e + 1 := ⟨d - 1, by omega⟩
 rw [pseudoF]
 exact (pseudo_nil b w h hE).mono fun e w' h => h
theorem reads_all : ∀ N, PseC N /\ ListC N
 | 0 => ⟨pse_zero, list_ct 0 (path_ct 0 (step_ct 0 one_zero))⟩
 | N + 1 => by
  obtain ⟨hP, hL⟩ := reads_all N
  exact ⟨pseudo_ct N hL, list_ct (N + 1) (path_ct (N + 1) (step_ct (N + 1) (one_ct N hP)))⟩
end sel
end Go.Proofs.YtaobpkffcolobaaGreatDoor
