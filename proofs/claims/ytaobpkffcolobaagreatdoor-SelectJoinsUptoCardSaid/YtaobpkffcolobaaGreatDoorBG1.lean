/- Contracts and plain law, a bundle. -/
import Derived.Deep.RegionLaw
import Derived.Lib.Hide
import Derived.Test.YtaobpkffcolobaaGreatDoorBG
import Derived.Test.YtaobpkffcolobaaGreatDoorBE3
set_option linter.unusedVariables false
set_option maxRecDepth 100000
set_option maxHeartbeats 16000000
open Go.Lib (hid)
namespace Go.Proofs.YtaobpkffcolobaaGreatDoor
namespace sel
open Go.RowKit base tok rul
theorem step_append_own {P : Program} {ops : Array Oper} {o : Oper} {a : Act} {w : World} {K : Act -> World -> Prop} {Q : Exit -> Act -> World -> Prop} {E : Prop}
  (hg : o.guard = none) (s x : Operand) (t : TypeId) (hop : o.op = Op.call { callee := Callee.builtin Builtin.append, args := #[s, x], argTypes := #[t, t] })
  (base : Nat) (e : TypeId) (i : TypeInfo) (z : Value) (size bytes : Nat) (ht : P.underlying t = some (.slice e)) (hi : P.info? e = some i) (hz : i.zero = some z)
  (hsize : i.size = size) (hby : i.bytes = bytes) (hzs : z.cells.size = size) (hsz : 0 < size)
  (v : Value) (n : Nat) (xs : List Value) (hs : a.eval s = v) (hown : w.ownsRow base e size v n xs)
  (ad : Addr) (m c : Nat) (news : List Value) (hx : a.eval x = .slice (some ad) m c) (hl : news.length = m * size) (hnews : ∀ j u, news[j]? = some u -> w.cell? (ad.add j) = some u) (h1 : ∀ u ∈ news, u.oneCell' = true)
  (h63 : n + m <= maxLen) (hbytes : (n + m) * bytes <= 140737488355328) (hbase : base <= w.heap.size)
  (hK : ∀ v' w', w'.ownsRow base e size v' (n + m) (xs ++ news) -> w.grownBy w' v.ownBlock -> (v'.ownBlock = v.ownBlock ∨ v'.ownBlock = some w.heap.size) -> K (a.put o.dst v') w') :
  if Region.wanted o (yielded ops a.tmps) = true then Oper.wp P o a w K Q else E := by
 have hw : Region.wanted o (yielded ops a.tmps) = true := by simp [Region.wanted, hg]
 rw [if_pos hw]
 obtain ⟨v', w', hr, h2, h3, h4, h5⟩ := run_append_own_at (P := P) w base t o.type e i z size bytes ht hi hz hsize hby hzs hsz v n xs hown ad m c news hl hnews h1 h63 hbytes hbase
 unfold Oper.wp execOp
 simp only [hop, resolve, invoke, builtin, Sem.run_bind, Sem.run_pure, Result.andThen_ok, List.map_toArray, List.map_cons, List.map_nil, hs, hx, hr]
 exact hK v' w' h2 h3 h5
def RetPa (b : Nat) (w : World) : Option (Pa × List Tk) -> Ending -> World -> Prop
 | some r, e, w' => w.grownBy w' (some b) /\ (∃ x0 x1, e = .returned (.agg #[x0, x1]) /\ PaAt (fun c => w.heap.size <= c) w' r.1 [x0, x1]) /\ RdrS w' b r.2
 | none, e, w' => e = .panicked chainN /\ w.grownBy w' (some b)
def pathP (d : Nat) (L : List Tk) : Option (Pa × List Tk) := (stepF d [] L).bind fun s => pathF d [s.1] [] s.2
theorem news_two (W : World) (o : Obj) (cs : Array Value) (t : TypeId) : ∀ j u, cs.toList[j]? = some u -> ((W.alloc o).alloc (.cells cs t)).cell? ((⟨W.heap.size + 1, 0, none⟩ : Addr).add j) = some u := by
 have h := (Blk.new (w := W.alloc o) (t := t) (cs := cs) rfl).news
 rw [World.size_alloc] at h
 exact h
def PathC (N : Nat) : Prop := ∀ (b : Nat) (L : List Tk) (d : Nat) (w : World), L.length <= N -> GoodS L -> 6 * L.length + 3 <= d -> RdrS w b L -> EnvS b w ->
 Calls Tryz.prog 28 #[(pn b)] w (RetPa b w (pathP d L))
theorem PSt.fresh {B z q : Nat} {steps : List (List Ts)} {joins : Bs} {vs vj : Value} {w : World} (h : PSt B z q steps joins vs vj w) {c : Nat} (hB : B <= w.heap.size) (hc : w.heap.size <= c) : XS B [vs.ownBlock, vj.ownBlock, some z, some q] c := by
 obtain ⟨ys, o1, -⟩ := h.os
 have h1 := h.zc.lt
 have h2 := h.pc.lt
 refine ⟨by omega, fun e => ?_⟩
 simp only [List.mem_cons, List.not_mem_nil, or_false, Option.some.injEq] at e
 rcases e with e | e | e | e
 ·have := (o1.lt _ e.symm).2; omega
 ·have := (h.oj.lt _ e.symm).2; omega
 ·omega
 ·omega
theorem Kp.pa {B : Nat} {S S' : List (Option Nat)} {w w' : World} (h : Kp B S w S' w') {p : Pa} {xs : List Value} (hv : PaAt (XS B S) w p xs) : PaAt (XS B S') w' p xs := PaAt.keep h.1 h.2 _ _ hv
theorem die_anyS {G : Prop} {P : Program} {a : Act} {w : World} (h : wpAny P .any #[] (fun _ _ _ => G) 0 #[] a w) : G := h.2
def PathRel (b : Nat) (w : World) (q N : Nat) (R : Option (Pa × List Tk)) (wr : World) : Prop :=
 ∃ (steps : List (List Ts)) (joins : Bs) (L : List Tk) (d : Nat) (vs vj : Value), pathF d steps joins L = R /\ L.length <= N /\ GoodS L /\ 6 * L.length + 3 <= d /\ steps.length + L.length <= 401 /\ joins.length + 1 = steps.length /\
  RdrS wr b L /\ w.grownBy wr (some b) /\ PSt w.heap.size w.heap.size q steps joins vs vj wr
theorem path_die (b : Nat) (L : List Tk) (w : World) (h : RdrS w b L) (hE : EnvS b w) (hc : ∀ w, RdrS w b L -> EnvS b w -> Calls Tryz.prog 58 #[(pn b)] w (RetS b w none)) :
  Calls Tryz.prog 28 #[(pn b)] w fun e w' => e = .panicked chainN /\ w.grownBy w' (some b) := by
 unfold RetS at hc
 have cS := hid hc
 have H0 := hid (h.alloc (.cells #[.slice none 0 0, .slice none 0 0] 36))
 have G0 := hid (World.grownBy_alloc w (.cells #[.slice none 0 0, .slice none 0 0] 36) (some b))
 have hblt := h.lt
 have E0 := hid (hE.on (below_one G0.out hblt))
 clear hc h
 go_enter Tryz.func28, Tryz.ntmps28
 go_wp2_with (go_at_call 58; (with_reducible refine (cS.out _ H0.out E0.out).mono ?_); rintro e W1 ⟨rfl, hg1⟩; have HG1 := hid (G0.out.trans hg1); clear hg1)
 exact ⟨rfl, rfl, HG1.out⟩
theorem path_go (N : Nat) (hS : StepC N) (b : Nat) (L : List Tk) (d : Nat) (w : World) (hl : L.length <= N) (hg : GoodS L) (hd : 6 * L.length + 3 <= d) (h : RdrS w b L) (hE : EnvS b w) (s : List Ts) (M : List Tk) (hs : stepF d [] L = some (s, M)) :
  Calls Tryz.prog 28 #[(pn b)] w (RetPa b w (pathF d [s] [] M)) := by
 obtain ⟨iS, hi, hz0, hz1, hz2⟩ := info_parts infoSl
 have HsS0 := hid hz0
 have HiS := hid hi
 have HsS1 := hid hz1
 have HsS2 := hid hz2
 clear hz0 hi hz1 hz2
 obtain ⟨iB, hi, hz0, hz1, hz2⟩ := info_parts infoBy
 have HbB0 := hid hz0
 have HiB := hid hi
 have HbB1 := hid hz1
 have HbB2 := hid hz2
 clear hz0 hi hz1 hz2
 have cS0 := fun w h hE => hS b L d w hl hg (by omega) h hE
 rw [hs] at cS0
 obtain ⟨hfs, -, hfl⟩ := (fw_all d).2.2.1 [] L s M hs
 have hfl := hfl rfl
 have hgM := hg.suf hfs
 unfold RetS at cS0
 replace cS0 := hid cS0
 have H0 := hid (h.alloc (.cells #[.slice none 0 0, .slice none 0 0] 36))
 have G0 := hid (World.grownBy_alloc w (.cells #[.slice none 0 0, .slice none 0 0] 36) (some b))
 have Z0 := hid (show Blk (w.alloc (.cells #[.slice none 0 0, .slice none 0 0] 36)) w.heap.size 36 #[.slice none 0 0, .slice none 0 0] from Blk.new rfl)
 have hblt := h.lt
 have hL4 := hg.1
 have E0 := hid (hE.on (below_one G0.out hblt))
 generalize hR : pathF d [s] [] M = R
 replace hR := hid hR
 replace hgM := hid hgM
 replace hE := hid hE
 clear h hs hfs hg
 go_enter Tryz.func28, Tryz.ntmps28
 go_wp2_with (go_at_call 58; (with_reducible refine (cS0.out _ H0.out E0.out).mono ?_); rintro e W1 ⟨hg1, ⟨sA, sc, rfl, hs1⟩, hr1⟩; dsimp only at hs1 hr1; have HG1 := hid (G0.out.trans hg1); have HR1 := hid hr1; have hz1 := hg1.size; rw [World.size_alloc] at hz1; have HP1 := hid (PSt.first hz1 (SsV.keep (Nat.le_refl _) (fun c hc _ => ⟨(by rw [<- World.size_alloc w (.cells #[.slice none 0 0, .slice none 0 0] 36)]; exact hc), rfl⟩) hs1) (Blk_grown Z0.out hg1 (by omega))); clear hg1 hs1 hr1)
 go_loopw [] (PathRel b w (W1.heap.size + 1) N R) (fun wr => sel.lenV (wr.cell? ⟨b, 0, none⟩))
 case atStart => exact ⟨[s], [], M, d, _, _, hR.out, by omega, hgM.out, by omega, by simp only [List.length_cons, List.length_nil]; omega, rfl, (HR1.out.alloc _).alloc _, grown_allocS (grown_allocS HG1.out _) _, HP1.out⟩
 case round =>
  clear hR hgM HR1 HG1 HP1 cS0 H0 G0 Z0 E0 hl hd hL4 hfl
  obtain ⟨steps, joins, L, d, vs, vj, hR, hLN, hgd, hd, hlen, hjn, hr, hgr, hp⟩ := hrel
  obtain ⟨va, vc, rfl⟩ : ∃ a c, vs = .slice a steps.length c := by
   obtain ⟨ys, o1, -⟩ := hp.os
   exact row_form o1
  obtain ⟨ja, jc, rfl⟩ := row_form hp.oj
  obtain ⟨d, rfl⟩ : ∃ e, d = e + 1 := ⟨d - 1, by omega⟩
  have hlenV := hr.lenV
  have hwz := hgr.size
  have HR := hid hr
  have HG := hid hgr
  have HP := hid hp
  have hL4 := hgd.1
  have cG := hid (fun w h => gap_ct b L w h (by omega))
  have hgsl := (gap_suf L).length_le
  have hgg := hgd.suf (gap_suf L)
  have hF := hR
  rw [pathF] at hF
  clear hr hgr hp hR
  have hj4 : joins.length <= 401 := by omega
  replace hjn := hid hjn
  have hgb : gapB L = decide ((gapP L).length < L.length) := rfl
  generalize gapB L = gb at *
  generalize hgp : gapP L = Lg at *
  cases Lg with
  | nil =>
   simp only at hF
   subst hF
   have cP : ∀ w, RdrS w b [] -> Calls Tryz.prog 57 #[(pn b)] w (rt w (.agg #[.int .i64 0, .string (bs []), .string (bs []), .int .i64 0])) := fun w h => peek_ct b [] w h
   replace cP := hid cP
   have e62 : ((bs []).toList == [62]) = false := by rw [bs_toList]; rfl
   have e43 : ((bs []).toList == [43]) = false := by rw [bs_toList]; rfl
   have e126 : ((bs []).toList == [126]) = false := by rw [bs_toList]; rfl
   clear hgb hgp hgg hgd
   rcases gb with _ | _
   all_goals
    go_wp2_with (first
     | (go_at_call 27; (with_reducible refine (cG.out _ HR.out).mono ?_); rintro e W2 ⟨rfl, hr2, hg2⟩; have HR2 := hid hr2; have HG2 := hid (HG.out.trans hg2); have HP2 := hid (HP.out.on hg2 hblt); clear hr2 hg2)
     | (go_at_call 57; (with_reducible refine (cP.out _ HR2.out).mono ?_); rintro e W3 ⟨rfl, hb3⟩; have HR3 := hid (HR2.out.on hb3 HR2.out.lt); have HG3 := hid (HG2.out.trans (grown_of_below hb3 (some b))); have hp3 := HP2.out.below hb3; have HP3 := hid hp3; have p3c := hp3.pc.cell; have z3c := hp3.zc.cell; have z3f := hp3.zc.frozen; have z3l := hp3.zc.lt; have p3l := hp3.pc.lt; clear hb3 hp3))
    have e := Blk.cell (((HP3.out.zc.put 0 (.slice va steps.length vc)).put 1 (.slice ja joins.length jc)).alloc (.cells #[.int .i64 0, .string (bs []), .string (bs []), .int .i64 0] 70))
    refine bodyPost_ret (v := .agg #[.slice va steps.length vc, .slice ja joins.length jc]) (by simp [results, Tryz.results28, go_sem, e]) rfl (show RetPa b w (some (.mk steps joins, [])) _ _ from ⟨?_, ⟨_, _, rfl, ?_⟩, ?_⟩)
    ·exact grown_allocS (grown_far (grown_far HG3.out (Nat.le_refl _)) (Nat.le_refl _)) _
    ·exact PaAt.keep (Nat.le_refl _) (fun c h _ => ⟨h.1, rfl⟩) _ _ (((Kp.set (p := ⟨w.heap.size, 0, none⟩) (by simp) _).trans ((Kp.set (p := ⟨w.heap.size, 1, none⟩) (by simp) _).trans (Kp.alloc _))).pa HP3.out.done)
    ·exact ((HR3.out.far hblt _).far hblt _).alloc _
  | cons t M =>
   have ht0 := hgg.2 t (List.mem_cons_self ..)
   have hk0 := ht0.1
   have hgM := hgg.tail
   have hgT := hid hgg
   simp only [List.length_cons] at hgsl hgb
   simp only at hF
   clear hgp hgg hgd
   by_cases hj : joinP t = true
   ·rw [if_pos hj] at hF
    have hj3 : t.raw = [62] ∨ t.raw = [43] ∨ t.raw = [126] := by simpa [joinP, or_assoc] using hj
    clear hj hgb
    rcases hj3 with hraw | hraw | hraw
    ·have hg5 : GoodS (gapP M) := hgM.suf (gap_suf M)
     have cN := hid (fun w h => next_yes b t M hk0 w h)
     have hix : ∀ h, (((⟨#[62]⟩ : ByteArray)[0]'h).toNat : Int) = 62 := fun h => rfl
     have cG2 := hid (fun w h => gap_ct b M w h (by omega))
     have hl5 := (gap_suf M).length_le
     rw [hraw] at hF
     have hfw := hid ((fw_all d).2.2.1 [] (gapP M))
     have HG5' := hid hg5
     replace hF := hid hF
     clear hg5
     have cP : ∀ w, RdrS w b (t :: M) -> Calls Tryz.prog 57 #[(pn b)] w (rt w (.agg #[.int .i64 t.k, .string ⟨#[62]⟩, .string (bs t.val), .int .i64 t.num])) := fun w h => by
      have h1 := peek_ct b (t :: M) w h
      unfold tv headT at h1
      dsimp only at h1
      rw [hraw] at h1
      exact h1
     replace cP := hid cP
     go_wp2_with (first
      | (go_at_call 27; (with_reducible refine (cG.out _ HR.out).mono ?_); rintro e W2 ⟨rfl, hr2, hg2⟩; have HR2 := hid hr2; have HG2 := hid (HG.out.trans hg2); have HP2 := hid (HP.out.on hg2 hblt); clear hr2 hg2)
      | (go_at_call 57; (with_reducible refine (cP.out _ HR2.out).mono ?_); rintro e W3 ⟨rfl, hb3⟩; have HR3 := hid ((HR2.out.on hb3 HR2.out.lt).alloc (.cells #[.int .i64 t.k, .string ⟨#[62]⟩, .string (bs t.val), .int .i64 t.num] 70)); have HG3 := hid (grown_allocS (HG2.out.trans (grown_of_below hb3 (some b))) (.cells #[.int .i64 t.k, .string ⟨#[62]⟩, .string (bs t.val), .int .i64 t.num] 70)); have HP3 := hid ((HP2.out.below hb3).alloc (.cells #[.int .i64 t.k, .string ⟨#[62]⟩, .string (bs t.val), .int .i64 t.num] 70)); have T3 := hid (show Blk (W3.alloc (.cells #[.int .i64 t.k, .string ⟨#[62]⟩, .string (bs t.val), .int .i64 t.num] 70)) W3.heap.size 70 #[.int .i64 t.k, .string ⟨#[62]⟩, .string (bs t.val), .int .i64 t.num] from Blk.new rfl); have hz3 := Nat.le_trans HG2.out.size hb3.size; clear hb3)
      | (go_at_call 59; (with_reducible refine (cN.out _ HR3.out).mono ?_); (rintro e W4 ⟨rfl, hr4, hg4⟩; unfold tv; have HR4 := hid hr4; have HG4 := hid (HG3.out.trans hg4); have HP4 := hid (HP3.out.on hg4 hblt); have T4 := hid (Blk_grown T3.out hg4 (by omega)); clear hr4 hg4))
      | (go_at_call 27; (with_reducible refine (cG2.out _ HR4.out).mono ?_); rintro e W5 ⟨rfl, hr5, hg5⟩; have HR5 := hid (hr5.on (Below.refl _ _).drew hr5.lt); have HG5 := hid ((HG4.out.trans hg5).trans (grown_of_below (Below.refl _ _).drew (some b))); have hp5 := HP4.out.on hg5 hblt; have HP5 := hid hp5.drew; have T5 := Blk_grown T4.out hg5 (by omega); have t5c := T5.cell; have t5l := T5.lt; have p5 := hp5.pc; have p5c := p5.cell; have p5f := p5.frozen; have p5l := p5.lt; have p5a := (p5.alloc (.cells #[.int .u8 62] 5)).cell; have t5a := (T5.alloc (.cells #[.int .u8 62] 5)).cell; have hz5 := HG5.out.size; have hz5b : w.heap.size <= W5.heap.size := hz5; clear hr5 hg5 T5 p5 hp5))
     go_region_law (refine step_append_own rfl _ _ 34 rfl w.heap.size 5 iB (.int .u8 0) 1 1 Tryz.underlying34 HiB.out HbB0.out HbB1.out HbB2.out rfl (by decide) _ _ _ rfl (HP5.out.oj.alloc (.cells #[.int .u8 62] 5)) ⟨W5.drew.heap.size, 0, none⟩ 1 1 [.int .u8 62] rfl rfl (Blk.new (w := W5.drew) (t := 5) (cs := #[.int .u8 62]) rfl).news (by simp [Value.oneCell']) (by unfold maxLen; omega) (by omega) (by simp; omega) ?_; intro v6 w6 hown6 hgrow6 hat6; obtain ⟨ja6, jc6, rfl⟩ := row_form hown6; have hb6 := below_app (Below.refl w.heap.size (W5.drew.alloc (.cells #[.int .u8 62] 5))) hgrow6 (HP5.out.oj.alloc _) (Nat.le_refl _) (by simp; omega); have hp6 := (HP5.out.alloc (.cells #[.int .u8 62] 5)).join 62 (by simp; omega) hown6 hgrow6 hat6; have q6 := grown_block (HP5.out.pc.alloc (.cells #[.int .u8 62] 5)) hgrow6 HP5.out.ne.2.2.2.1; have q6c := q6.cell; have q6f := q6.frozen; have q6l := q6.lt; have hz6 := hb6.size; have HB6 := hid hb6; have HP6 := hid hp6; clear hown6 hgrow6 hat6 hb6 hp6 q6)
     all_goals
      have HRV := hid (((HR5.out.alloc (.cells #[.int .u8 62] 5)).on HB6.out hblt).far (p := ⟨(W1.heap.size + 1), 1, none⟩) (by dsimp only; omega) (.slice ja6 (joins.length + 1) jc6))
      have HGV := hid (grown_far (p := ⟨(W1.heap.size + 1), 1, none⟩) (v := .slice ja6 (joins.length + 1) jc6) (grown_lowS (grown_allocS HG5.out (.cells #[.int .u8 62] 5)) HB6.out (Nat.le_refl _)) (by dsimp only; omega))
      generalize w6.setCell ⟨(W1.heap.size + 1), 1, none⟩ (.slice ja6 (joins.length + 1) jc6) = V at *
      have hg5 := HG5'.out
      have cS := fun w h hE => hS b (gapP M) d w (by omega) hg5 (by omega) h hE
      cases hv : stepF d [] (gapP M) with
      | none =>
       have hF := hF.out
       rw [hv] at cS hF
       simp only [Option.bind_none] at hF
       subst hF
       unfold RetS at cS
       replace cS := hid cS
       clear hfw hv hg5
       have hzV := HGV.out.size
       have RD := hid (HRV.out.on (Below.refl _ _).drew HRV.out.lt)
       have GD := hid (HGV.out.trans (grown_of_below (Below.refl _ _).drew (some b)))
       have pd := HP6.out.drew
       have pdc := pd.pc.cell
       have pdl := pd.pc.lt
       have PD := hid pd
       have XD := hid (fun c hc => pd.fresh (c := c) hzV hc)
       clear HRV HGV HP6 pd
       go_wp2_with fail
       go_region_with (go_at_call 58; (with_reducible refine (cS.out _ RD.out (hE.out.on (below_one GD.out hblt))).mono ?_); rintro e W7 ⟨rfl, hg7⟩; have G7 := hid (GD.out.trans hg7); clear hg7; refine die_anyS (P := Tryz.prog) (a := ⟨#[], []⟩) (w := w) ?_)
       all_goals exact ⟨rfl, rfl, G7.out⟩
      | some r =>
       obtain ⟨s, M2⟩ := r
       have hF := hF.out
       rw [hv] at cS hF
       simp only [Option.bind_some] at hF
       obtain ⟨hfs, -, hfl⟩ := hfw.out _ _ hv
       have hfl := hfl (by first | rfl | trivial)
       have HM2 := hid (hg5.suf hfs)
       have hR := hid hF
       unfold RetS at cS
       replace cS := hid cS
       clear hfw hv hfs hF hg5
       have hzV := HGV.out.size
       have RD := hid (HRV.out.on (Below.refl _ _).drew HRV.out.lt)
       have GD := hid (HGV.out.trans (grown_of_below (Below.refl _ _).drew (some b)))
       have pd := HP6.out.drew
       have pdc := pd.pc.cell
       have pdl := pd.pc.lt
       have PD := hid pd
       have XD := hid (fun c hc => pd.fresh (c := c) hzV hc)
       clear HRV HGV HP6 pd
       go_wp2_with fail
       go_region_law (first
        | (refine step_append_own rfl _ _ 33 rfl w.heap.size 27 iS (.slice none 0 0) 1 24 Tryz.underlying33 HiS.out HsS0.out HsS1.out HsS2.out rfl (by decide) _ _ _ rfl HO7.out ⟨W7.heap.size, 0, none⟩ 1 1 [.slice sA s.length sc] rfl rfl (Blk.new (w := W7) (t := 27) (cs := #[.slice sA s.length sc]) rfl).news (by simp [Value.oneCell']) (by unfold maxLen; omega) (by omega) (by simp; omega) ?_; intro v8 w8 hown8 hgrow8 hat8; obtain ⟨va8, vc8, rfl⟩ := row_form hown8; have hb8 := below_app (Below.refl w.heap.size (W7.alloc (.cells #[.slice sA s.length sc] 27))) hgrow8 HO7.out (Nat.le_refl _) (by simp; omega); have hp8 := HP7.out.step s sA sc (by simp; omega) HS7.out HO7.out HV7.out hown8 hgrow8 hat8; have q8 := grown_block HP7.out.pc hgrow8 HP7.out.ne.2.1; have q8c := q8.cell; have q8f := q8.frozen; have q8l := q8.lt; have HP8 := hid hp8; have R8 := hid ((R7.out.on hb8 hblt).far (p := ⟨(W1.heap.size + 1), 0, none⟩) (by dsimp only; omega) (.slice va8 (steps.length + 1) vc8)); have G8 := hid (grown_far (p := ⟨(W1.heap.size + 1), 0, none⟩) (v := .slice va8 (steps.length + 1) vc8) (grown_lowS G7.out hb8 (Nat.le_refl _)) (by dsimp only; omega)); clear hown8 hgrow8 hat8 hb8 hp8 q8)
        | (go_simp; go_wp2_with ((go_at_call 58; (with_reducible refine (cS.out _ RD.out (hE.out.on (below_one GD.out hblt))).mono ?_); rintro e W7 ⟨hg7, ⟨sA, sc, rfl, hs7⟩, hr7⟩; (try dsimp only at hs7 hr7); have hz7 := Nat.le_trans GD.out.size hg7.size; have hp7 := PD.out.on hg7 hblt; have p7c := hp7.pc.cell; have p7l := hp7.pc.lt; have pa7 := (hp7.pc.alloc (.cells #[.slice sA s.length sc] 27)).cell; have HP7 := hid (hp7.alloc (.cells #[.slice sA s.length sc] 27)); obtain ⟨ys, ho7, hv7⟩ := HP7.out.os; have HO7 := hid ho7; have HV7 := hid hv7; have HS7 := hid (SsV.keep (w := W7) (w' := W7.alloc (.cells #[.slice sA s.length sc] 27)) (by simp) (fun c hc hl => ⟨XD.out c hc, Below.heap_alloc _ _ c hl⟩) hs7); have G7 := hid (grown_allocS (GD.out.trans hg7) (.cells #[.slice sA s.length sc] 27)); have R7 := hid (hr7.alloc (.cells #[.slice sA s.length sc] 27)); clear hg7 hs7 hr7 hp7 ho7 hv7))))
       all_goals
        go_wp2
        go_roundw
        case rel => exact ⟨steps ++ [s], joins ++ [62], M2, d, _, _, hR.out, by omega, HM2.out, by omega, by simp only [List.length_append, List.length_cons, List.length_nil]; omega, by have := hjn.out; simp only [List.length_append, List.length_cons, List.length_nil]; omega, R8.out, G8.out, HP8.out⟩
        case measure =>
         rw [R8.out.lenV, hlenV]
         omega
    ·have hg5 : GoodS (gapP M) := hgM.suf (gap_suf M)
     have cN := hid (fun w h => next_yes b t M hk0 w h)
     have hix : ∀ h, (((⟨#[43]⟩ : ByteArray)[0]'h).toNat : Int) = 43 := fun h => rfl
     have cG2 := hid (fun w h => gap_ct b M w h (by omega))
     have hl5 := (gap_suf M).length_le
     rw [hraw] at hF
     have hfw := hid ((fw_all d).2.2.1 [] (gapP M))
     have HG5' := hid hg5
     replace hF := hid hF
     clear hg5
     have cP : ∀ w, RdrS w b (t :: M) -> Calls Tryz.prog 57 #[(pn b)] w (rt w (.agg #[.int .i64 t.k, .string ⟨#[43]⟩, .string (bs t.val), .int .i64 t.num])) := fun w h => by
      have h1 := peek_ct b (t :: M) w h
      unfold tv headT at h1
      dsimp only at h1
      rw [hraw] at h1
      exact h1
     replace cP := hid cP
     go_wp2_with (first
      | (go_at_call 27; (with_reducible refine (cG.out _ HR.out).mono ?_); rintro e W2 ⟨rfl, hr2, hg2⟩; have HR2 := hid hr2; have HG2 := hid (HG.out.trans hg2); have HP2 := hid (HP.out.on hg2 hblt); clear hr2 hg2)
      | (go_at_call 57; (with_reducible refine (cP.out _ HR2.out).mono ?_); rintro e W3 ⟨rfl, hb3⟩; have HR3 := hid ((HR2.out.on hb3 HR2.out.lt).alloc (.cells #[.int .i64 t.k, .string ⟨#[43]⟩, .string (bs t.val), .int .i64 t.num] 70)); have HG3 := hid (grown_allocS (HG2.out.trans (grown_of_below hb3 (some b))) (.cells #[.int .i64 t.k, .string ⟨#[43]⟩, .string (bs t.val), .int .i64 t.num] 70)); have HP3 := hid ((HP2.out.below hb3).alloc (.cells #[.int .i64 t.k, .string ⟨#[43]⟩, .string (bs t.val), .int .i64 t.num] 70)); have T3 := hid (show Blk (W3.alloc (.cells #[.int .i64 t.k, .string ⟨#[43]⟩, .string (bs t.val), .int .i64 t.num] 70)) W3.heap.size 70 #[.int .i64 t.k, .string ⟨#[43]⟩, .string (bs t.val), .int .i64 t.num] from Blk.new rfl); have hz3 := Nat.le_trans HG2.out.size hb3.size; clear hb3)
      | (go_at_call 59; (with_reducible refine (cN.out _ HR3.out).mono ?_); (rintro e W4 ⟨rfl, hr4, hg4⟩; unfold tv; have HR4 := hid hr4; have HG4 := hid (HG3.out.trans hg4); have HP4 := hid (HP3.out.on hg4 hblt); have T4 := hid (Blk_grown T3.out hg4 (by omega)); clear hr4 hg4))
      | (go_at_call 27; (with_reducible refine (cG2.out _ HR4.out).mono ?_); rintro e W5 ⟨rfl, hr5, hg5⟩; have HR5 := hid (hr5.on (Below.refl _ _).drew hr5.lt); have HG5 := hid ((HG4.out.trans hg5).trans (grown_of_below (Below.refl _ _).drew (some b))); have hp5 := HP4.out.on hg5 hblt; have HP5 := hid hp5.drew; have T5 := Blk_grown T4.out hg5 (by omega); have t5c := T5.cell; have t5l := T5.lt; have p5 := hp5.pc; have p5c := p5.cell; have p5f := p5.frozen; have p5l := p5.lt; have p5a := (p5.alloc (.cells #[.int .u8 43] 5)).cell; have t5a := (T5.alloc (.cells #[.int .u8 43] 5)).cell; have hz5 := HG5.out.size; have hz5b : w.heap.size <= W5.heap.size := hz5; clear hr5 hg5 T5 p5 hp5))
     go_region_law (refine step_append_own rfl _ _ 34 rfl w.heap.size 5 iB (.int .u8 0) 1 1 Tryz.underlying34 HiB.out HbB0.out HbB1.out HbB2.out rfl (by decide) _ _ _ rfl (HP5.out.oj.alloc (.cells #[.int .u8 43] 5)) ⟨W5.drew.heap.size, 0, none⟩ 1 1 [.int .u8 43] rfl rfl (Blk.new (w := W5.drew) (t := 5) (cs := #[.int .u8 43]) rfl).news (by simp [Value.oneCell']) (by unfold maxLen; omega) (by omega) (by simp; omega) ?_; intro v6 w6 hown6 hgrow6 hat6; obtain ⟨ja6, jc6, rfl⟩ := row_form hown6; have hb6 := below_app (Below.refl w.heap.size (W5.drew.alloc (.cells #[.int .u8 43] 5))) hgrow6 (HP5.out.oj.alloc _) (Nat.le_refl _) (by simp; omega); have hp6 := (HP5.out.alloc (.cells #[.int .u8 43] 5)).join 43 (by simp; omega) hown6 hgrow6 hat6; have q6 := grown_block (HP5.out.pc.alloc (.cells #[.int .u8 43] 5)) hgrow6 HP5.out.ne.2.2.2.1; have q6c := q6.cell; have q6f := q6.frozen; have q6l := q6.lt; have hz6 := hb6.size; have HB6 := hid hb6; have HP6 := hid hp6; clear hown6 hgrow6 hat6 hb6 hp6 q6)
     all_goals
      have HRV := hid (((HR5.out.alloc (.cells #[.int .u8 43] 5)).on HB6.out hblt).far (p := ⟨(W1.heap.size + 1), 1, none⟩) (by dsimp only; omega) (.slice ja6 (joins.length + 1) jc6))
      have HGV := hid (grown_far (p := ⟨(W1.heap.size + 1), 1, none⟩) (v := .slice ja6 (joins.length + 1) jc6) (grown_lowS (grown_allocS HG5.out (.cells #[.int .u8 43] 5)) HB6.out (Nat.le_refl _)) (by dsimp only; omega))
      generalize w6.setCell ⟨(W1.heap.size + 1), 1, none⟩ (.slice ja6 (joins.length + 1) jc6) = V at *
      have hg5 := HG5'.out
      have cS := fun w h hE => hS b (gapP M) d w (by omega) hg5 (by omega) h hE
      cases hv : stepF d [] (gapP M) with
      | none =>
       have hF := hF.out
       rw [hv] at cS hF
       simp only [Option.bind_none] at hF
       subst hF
       unfold RetS at cS
       replace cS := hid cS
       clear hfw hv hg5
       have hzV := HGV.out.size
       have RD := hid (HRV.out.on (Below.refl _ _).drew HRV.out.lt)
       have GD := hid (HGV.out.trans (grown_of_below (Below.refl _ _).drew (some b)))
       have pd := HP6.out.drew
       have pdc := pd.pc.cell
       have pdl := pd.pc.lt
       have PD := hid pd
       have XD := hid (fun c hc => pd.fresh (c := c) hzV hc)
       clear HRV HGV HP6 pd
       go_wp2_with fail
       go_region_with (go_at_call 58; (with_reducible refine (cS.out _ RD.out (hE.out.on (below_one GD.out hblt))).mono ?_); rintro e W7 ⟨rfl, hg7⟩; have G7 := hid (GD.out.trans hg7); clear hg7; refine die_anyS (P := Tryz.prog) (a := ⟨#[], []⟩) (w := w) ?_)
       all_goals exact ⟨rfl, rfl, G7.out⟩
      | some r =>
       obtain ⟨s, M2⟩ := r
       have hF := hF.out
       rw [hv] at cS hF
       simp only [Option.bind_some] at hF
       obtain ⟨hfs, -, hfl⟩ := hfw.out _ _ hv
       have hfl := hfl (by first | rfl | trivial)
       have HM2 := hid (hg5.suf hfs)
       have hR := hid hF
       unfold RetS at cS
       replace cS := hid cS
       clear hfw hv hfs hF hg5
       have hzV := HGV.out.size
       have RD := hid (HRV.out.on (Below.refl _ _).drew HRV.out.lt)
       have GD := hid (HGV.out.trans (grown_of_below (Below.refl _ _).drew (some b)))
       have pd := HP6.out.drew
       have pdc := pd.pc.cell
       have pdl := pd.pc.lt
       have PD := hid pd
       have XD := hid (fun c hc => pd.fresh (c := c) hzV hc)
       clear HRV HGV HP6 pd
       go_wp2_with fail
       go_region_law (first
        | (refine step_append_own rfl _ _ 33 rfl w.heap.size 27 iS (.slice none 0 0) 1 24 Tryz.underlying33 HiS.out HsS0.out HsS1.out HsS2.out rfl (by decide) _ _ _ rfl HO7.out ⟨W7.heap.size, 0, none⟩ 1 1 [.slice sA s.length sc] rfl rfl (Blk.new (w := W7) (t := 27) (cs := #[.slice sA s.length sc]) rfl).news (by simp [Value.oneCell']) (by unfold maxLen; omega) (by omega) (by simp; omega) ?_; intro v8 w8 hown8 hgrow8 hat8; obtain ⟨va8, vc8, rfl⟩ := row_form hown8; have hb8 := below_app (Below.refl w.heap.size (W7.alloc (.cells #[.slice sA s.length sc] 27))) hgrow8 HO7.out (Nat.le_refl _) (by simp; omega); have hp8 := HP7.out.step s sA sc (by simp; omega) HS7.out HO7.out HV7.out hown8 hgrow8 hat8; have q8 := grown_block HP7.out.pc hgrow8 HP7.out.ne.2.1; have q8c := q8.cell; have q8f := q8.frozen; have q8l := q8.lt; have HP8 := hid hp8; have R8 := hid ((R7.out.on hb8 hblt).far (p := ⟨(W1.heap.size + 1), 0, none⟩) (by dsimp only; omega) (.slice va8 (steps.length + 1) vc8)); have G8 := hid (grown_far (p := ⟨(W1.heap.size + 1), 0, none⟩) (v := .slice va8 (steps.length + 1) vc8) (grown_lowS G7.out hb8 (Nat.le_refl _)) (by dsimp only; omega)); clear hown8 hgrow8 hat8 hb8 hp8 q8)
        | (go_simp; go_wp2_with ((go_at_call 58; (with_reducible refine (cS.out _ RD.out (hE.out.on (below_one GD.out hblt))).mono ?_); rintro e W7 ⟨hg7, ⟨sA, sc, rfl, hs7⟩, hr7⟩; (try dsimp only at hs7 hr7); have hz7 := Nat.le_trans GD.out.size hg7.size; have hp7 := PD.out.on hg7 hblt; have p7c := hp7.pc.cell; have p7l := hp7.pc.lt; have pa7 := (hp7.pc.alloc (.cells #[.slice sA s.length sc] 27)).cell; have HP7 := hid (hp7.alloc (.cells #[.slice sA s.length sc] 27)); obtain ⟨ys, ho7, hv7⟩ := HP7.out.os; have HO7 := hid ho7; have HV7 := hid hv7; have HS7 := hid (SsV.keep (w := W7) (w' := W7.alloc (.cells #[.slice sA s.length sc] 27)) (by simp) (fun c hc hl => ⟨XD.out c hc, Below.heap_alloc _ _ c hl⟩) hs7); have G7 := hid (grown_allocS (GD.out.trans hg7) (.cells #[.slice sA s.length sc] 27)); have R7 := hid (hr7.alloc (.cells #[.slice sA s.length sc] 27)); clear hg7 hs7 hr7 hp7 ho7 hv7))))
       all_goals
        go_wp2
        go_roundw
        case rel => exact ⟨steps ++ [s], joins ++ [43], M2, d, _, _, hR.out, by omega, HM2.out, by omega, by simp only [List.length_append, List.length_cons, List.length_nil]; omega, by have := hjn.out; simp only [List.length_append, List.length_cons, List.length_nil]; omega, R8.out, G8.out, HP8.out⟩
        case measure =>
         rw [R8.out.lenV, hlenV]
         omega
    ·have hg5 : GoodS (gapP M) := hgM.suf (gap_suf M)
     have cN := hid (fun w h => next_yes b t M hk0 w h)
     have hix : ∀ h, (((⟨#[126]⟩ : ByteArray)[0]'h).toNat : Int) = 126 := fun h => rfl
     have cG2 := hid (fun w h => gap_ct b M w h (by omega))
     have hl5 := (gap_suf M).length_le
     rw [hraw] at hF
     have hfw := hid ((fw_all d).2.2.1 [] (gapP M))
     have HG5' := hid hg5
     replace hF := hid hF
     clear hg5
     have cP : ∀ w, RdrS w b (t :: M) -> Calls Tryz.prog 57 #[(pn b)] w (rt w (.agg #[.int .i64 t.k, .string ⟨#[126]⟩, .string (bs t.val), .int .i64 t.num])) := fun w h => by
      have h1 := peek_ct b (t :: M) w h
      unfold tv headT at h1
      dsimp only at h1
      rw [hraw] at h1
      exact h1
     replace cP := hid cP
     go_wp2_with (first
      | (go_at_call 27; (with_reducible refine (cG.out _ HR.out).mono ?_); rintro e W2 ⟨rfl, hr2, hg2⟩; have HR2 := hid hr2; have HG2 := hid (HG.out.trans hg2); have HP2 := hid (HP.out.on hg2 hblt); clear hr2 hg2)
      | (go_at_call 57; (with_reducible refine (cP.out _ HR2.out).mono ?_); rintro e W3 ⟨rfl, hb3⟩; have HR3 := hid ((HR2.out.on hb3 HR2.out.lt).alloc (.cells #[.int .i64 t.k, .string ⟨#[126]⟩, .string (bs t.val), .int .i64 t.num] 70)); have HG3 := hid (grown_allocS (HG2.out.trans (grown_of_below hb3 (some b))) (.cells #[.int .i64 t.k, .string ⟨#[126]⟩, .string (bs t.val), .int .i64 t.num] 70)); have HP3 := hid ((HP2.out.below hb3).alloc (.cells #[.int .i64 t.k, .string ⟨#[126]⟩, .string (bs t.val), .int .i64 t.num] 70)); have T3 := hid (show Blk (W3.alloc (.cells #[.int .i64 t.k, .string ⟨#[126]⟩, .string (bs t.val), .int .i64 t.num] 70)) W3.heap.size 70 #[.int .i64 t.k, .string ⟨#[126]⟩, .string (bs t.val), .int .i64 t.num] from Blk.new rfl); have hz3 := Nat.le_trans HG2.out.size hb3.size; clear hb3)
      | (go_at_call 59; (with_reducible refine (cN.out _ HR3.out).mono ?_); (rintro e W4 ⟨rfl, hr4, hg4⟩; unfold tv; have HR4 := hid hr4; have HG4 := hid (HG3.out.trans hg4); have HP4 := hid (HP3.out.on hg4 hblt); have T4 := hid (Blk_grown T3.out hg4 (by omega)); clear hr4 hg4))
      | (go_at_call 27; (with_reducible refine (cG2.out _ HR4.out).mono ?_); rintro e W5 ⟨rfl, hr5, hg5⟩; have HR5 := hid (hr5.on (Below.refl _ _).drew hr5.lt); have HG5 := hid ((HG4.out.trans hg5).trans (grown_of_below (Below.refl _ _).drew (some b))); have hp5 := HP4.out.on hg5 hblt; have HP5 := hid hp5.drew; have T5 := Blk_grown T4.out hg5 (by omega); have t5c := T5.cell; have t5l := T5.lt; have p5 := hp5.pc; have p5c := p5.cell; have p5f := p5.frozen; have p5l := p5.lt; have p5a := (p5.alloc (.cells #[.int .u8 126] 5)).cell; have t5a := (T5.alloc (.cells #[.int .u8 126] 5)).cell; have hz5 := HG5.out.size; have hz5b : w.heap.size <= W5.heap.size := hz5; clear hr5 hg5 T5 p5 hp5))
     go_region_law (refine step_append_own rfl _ _ 34 rfl w.heap.size 5 iB (.int .u8 0) 1 1 Tryz.underlying34 HiB.out HbB0.out HbB1.out HbB2.out rfl (by decide) _ _ _ rfl (HP5.out.oj.alloc (.cells #[.int .u8 126] 5)) ⟨W5.drew.heap.size, 0, none⟩ 1 1 [.int .u8 126] rfl rfl (Blk.new (w := W5.drew) (t := 5) (cs := #[.int .u8 126]) rfl).news (by simp [Value.oneCell']) (by unfold maxLen; omega) (by omega) (by simp; omega) ?_; intro v6 w6 hown6 hgrow6 hat6; obtain ⟨ja6, jc6, rfl⟩ := row_form hown6; have hb6 := below_app (Below.refl w.heap.size (W5.drew.alloc (.cells #[.int .u8 126] 5))) hgrow6 (HP5.out.oj.alloc _) (Nat.le_refl _) (by simp; omega); have hp6 := (HP5.out.alloc (.cells #[.int .u8 126] 5)).join 126 (by simp; omega) hown6 hgrow6 hat6; have q6 := grown_block (HP5.out.pc.alloc (.cells #[.int .u8 126] 5)) hgrow6 HP5.out.ne.2.2.2.1; have q6c := q6.cell; have q6f := q6.frozen; have q6l := q6.lt; have hz6 := hb6.size; have HB6 := hid hb6; have HP6 := hid hp6; clear hown6 hgrow6 hat6 hb6 hp6 q6)
     all_goals
      have HRV := hid (((HR5.out.alloc (.cells #[.int .u8 126] 5)).on HB6.out hblt).far (p := ⟨(W1.heap.size + 1), 1, none⟩) (by dsimp only; omega) (.slice ja6 (joins.length + 1) jc6))
      have HGV := hid (grown_far (p := ⟨(W1.heap.size + 1), 1, none⟩) (v := .slice ja6 (joins.length + 1) jc6) (grown_lowS (grown_allocS HG5.out (.cells #[.int .u8 126] 5)) HB6.out (Nat.le_refl _)) (by dsimp only; omega))
      generalize w6.setCell ⟨(W1.heap.size + 1), 1, none⟩ (.slice ja6 (joins.length + 1) jc6) = V at *
      have hg5 := HG5'.out
      have cS := fun w h hE => hS b (gapP M) d w (by omega) hg5 (by omega) h hE
      cases hv : stepF d [] (gapP M) with
      | none =>
       have hF := hF.out
       rw [hv] at cS hF
       simp only [Option.bind_none] at hF
       subst hF
       unfold RetS at cS
       replace cS := hid cS
       clear hfw hv hg5
       have hzV := HGV.out.size
       have RD := hid (HRV.out.on (Below.refl _ _).drew HRV.out.lt)
       have GD := hid (HGV.out.trans (grown_of_below (Below.refl _ _).drew (some b)))
       have pd := HP6.out.drew
       have pdc := pd.pc.cell
       have pdl := pd.pc.lt
       have PD := hid pd
       have XD := hid (fun c hc => pd.fresh (c := c) hzV hc)
       clear HRV HGV HP6 pd
       go_wp2_with fail
       go_region_with (go_at_call 58; (with_reducible refine (cS.out _ RD.out (hE.out.on (below_one GD.out hblt))).mono ?_); rintro e W7 ⟨rfl, hg7⟩; have G7 := hid (GD.out.trans hg7); clear hg7; refine die_anyS (P := Tryz.prog) (a := ⟨#[], []⟩) (w := w) ?_)
       all_goals exact ⟨rfl, rfl, G7.out⟩
      | some r =>
       obtain ⟨s, M2⟩ := r
       have hF := hF.out
       rw [hv] at cS hF
       simp only [Option.bind_some] at hF
       obtain ⟨hfs, -, hfl⟩ := hfw.out _ _ hv
       have hfl := hfl (by first | rfl | trivial)
       have HM2 := hid (hg5.suf hfs)
       have hR := hid hF
       unfold RetS at cS
       replace cS := hid cS
       clear hfw hv hfs hF hg5
       have hzV := HGV.out.size
       have RD := hid (HRV.out.on (Below.refl _ _).drew HRV.out.lt)
       have GD := hid (HGV.out.trans (grown_of_below (Below.refl _ _).drew (some b)))
       have pd := HP6.out.drew
       have pdc := pd.pc.cell
       have pdl := pd.pc.lt
       have PD := hid pd
       have XD := hid (fun c hc => pd.fresh (c := c) hzV hc)
       clear HRV HGV HP6 pd
       go_wp2_with fail
       go_region_law (first
        | (refine step_append_own rfl _ _ 33 rfl w.heap.size 27 iS (.slice none 0 0) 1 24 Tryz.underlying33 HiS.out HsS0.out HsS1.out HsS2.out rfl (by decide) _ _ _ rfl HO7.out ⟨W7.heap.size, 0, none⟩ 1 1 [.slice sA s.length sc] rfl rfl (Blk.new (w := W7) (t := 27) (cs := #[.slice sA s.length sc]) rfl).news (by simp [Value.oneCell']) (by unfold maxLen; omega) (by omega) (by simp; omega) ?_; intro v8 w8 hown8 hgrow8 hat8; obtain ⟨va8, vc8, rfl⟩ := row_form hown8; have hb8 := below_app (Below.refl w.heap.size (W7.alloc (.cells #[.slice sA s.length sc] 27))) hgrow8 HO7.out (Nat.le_refl _) (by simp; omega); have hp8 := HP7.out.step s sA sc (by simp; omega) HS7.out HO7.out HV7.out hown8 hgrow8 hat8; have q8 := grown_block HP7.out.pc hgrow8 HP7.out.ne.2.1; have q8c := q8.cell; have q8f := q8.frozen; have q8l := q8.lt; have HP8 := hid hp8; have R8 := hid ((R7.out.on hb8 hblt).far (p := ⟨(W1.heap.size + 1), 0, none⟩) (by dsimp only; omega) (.slice va8 (steps.length + 1) vc8)); have G8 := hid (grown_far (p := ⟨(W1.heap.size + 1), 0, none⟩) (v := .slice va8 (steps.length + 1) vc8) (grown_lowS G7.out hb8 (Nat.le_refl _)) (by dsimp only; omega)); clear hown8 hgrow8 hat8 hb8 hp8 q8)
        | (go_simp; go_wp2_with ((go_at_call 58; (with_reducible refine (cS.out _ RD.out (hE.out.on (below_one GD.out hblt))).mono ?_); rintro e W7 ⟨hg7, ⟨sA, sc, rfl, hs7⟩, hr7⟩; (try dsimp only at hs7 hr7); have hz7 := Nat.le_trans GD.out.size hg7.size; have hp7 := PD.out.on hg7 hblt; have p7c := hp7.pc.cell; have p7l := hp7.pc.lt; have pa7 := (hp7.pc.alloc (.cells #[.slice sA s.length sc] 27)).cell; have HP7 := hid (hp7.alloc (.cells #[.slice sA s.length sc] 27)); obtain ⟨ys, ho7, hv7⟩ := HP7.out.os; have HO7 := hid ho7; have HV7 := hid hv7; have HS7 := hid (SsV.keep (w := W7) (w' := W7.alloc (.cells #[.slice sA s.length sc] 27)) (by simp) (fun c hc hl => ⟨XD.out c hc, Below.heap_alloc _ _ c hl⟩) hs7); have G7 := hid (grown_allocS (GD.out.trans hg7) (.cells #[.slice sA s.length sc] 27)); have R7 := hid (hr7.alloc (.cells #[.slice sA s.length sc] 27)); clear hg7 hs7 hr7 hp7 ho7 hv7))))
       all_goals
        go_wp2
        go_roundw
        case rel => exact ⟨steps ++ [s], joins ++ [126], M2, d, _, _, hR.out, by omega, HM2.out, by omega, by simp only [List.length_append, List.length_cons, List.length_nil]; omega, by have := hjn.out; simp only [List.length_append, List.length_cons, List.length_nil]; omega, R8.out, G8.out, HP8.out⟩
        case measure =>
         rw [R8.out.lenV, hlenV]
         omega
   ·rw [if_neg hj] at hF
    have hj3 : t.raw ≠ [62] /\ t.raw ≠ [43] /\ t.raw ≠ [126] := by simpa [joinP, and_assoc] using hj
    obtain ⟨n62, n43, n126⟩ := hj3
    have e62 : ((bs t.raw).toList == [62]) = false := by rw [bs_toList, beq_eq_false_iff_ne]; exact n62
    have e43 : ((bs t.raw).toList == [43]) = false := by rw [bs_toList, beq_eq_false_iff_ne]; exact n43
    have e126 : ((bs t.raw).toList == [126]) = false := by rw [bs_toList, beq_eq_false_iff_ne]; exact n126
    clear hj n62 n43 n126
    have k0 : (t.k == 0) = false := bq hk0
    by_cases hc : (gb && !decide (t.raw = [44]) && !decide (t.raw = [41])) = true
    ·rw [if_pos hc] at hF
     have hc3 : gb = true /\ t.raw ≠ [44] /\ t.raw ≠ [41] := by simpa [and_assoc] using hc
     obtain ⟨rfl, n44, n41⟩ := hc3
     have hlt := of_decide_eq_true hgb.symm
     have e44 : ((bs t.raw).toList == [44]) = false := by rw [bs_toList, beq_eq_false_iff_ne]; exact n44
     have e41 : ((bs t.raw).toList == [41]) = false := by rw [bs_toList, beq_eq_false_iff_ne]; exact n41
     clear hc hgb n44 n41
     have hg5 : GoodS (t :: M) := hgT.out
     have htm : (t :: M).length = M.length + 1 := rfl
     have hfw := hid ((fw_all d).2.2.1 [] (t :: M))
     have HG5' := hid hg5
     replace hF := hid hF
     clear hg5
     have cP : ∀ w, RdrS w b (t :: M) -> Calls Tryz.prog 57 #[(pn b)] w (rt w (aTk t)) := fun w h => peek_ct b (t :: M) w h
     replace cP := hid cP
     go_wp2_with (first
      | (go_at_call 27; (with_reducible refine (cG.out _ HR.out).mono ?_); rintro e W2 ⟨rfl, hr2, hg2⟩; have HR2 := hid hr2; have HG2 := hid (HG.out.trans hg2); have HP2 := hid (HP.out.on hg2 hblt); clear hr2 hg2)
      | (go_at_call 57; (with_reducible refine (cP.out _ HR2.out).mono ?_); rintro e W3 ⟨rfl, hb3⟩; have HR5 := hid ((HR2.out.on hb3 HR2.out.lt).alloc (oTk t)); have HG5 := hid (grown_allocS (HG2.out.trans (grown_of_below hb3 (some b))) (oTk t)); have HP5 := hid ((HP2.out.below hb3).alloc (oTk t)); have p5 := HP5.out.pc; have p5c := p5.cell; have p5l := p5.lt; have hz5 := Nat.le_trans HG2.out.size hb3.size; clear hb3 p5)
      | (at_builtin; refine wpList_append_own_at _ rfl _ _ 34 rfl w.heap.size 5 iB (.int .u8 0) 1 1 Tryz.underlying34 HiB.out HbB0.out HbB1.out HbB2.out rfl (by decide) _ _ _ rfl (HP5.out.oj.alloc (.cells #[.int .u8 32] 5)) ⟨W3.heap.size + 1, 0, none⟩ 1 1 [.int .u8 32] rfl rfl (news_two W3 (oTk t) #[.int .u8 32] 5) (by simp [Value.oneCell']) (by unfold maxLen; omega) (by omega) (by simp; omega) ?_; intro v6 w6 hown6 hgrow6 _ hat6; obtain ⟨ja6, jc6, rfl⟩ := row_form hown6; have hb6 := below_app (Below.refl w.heap.size ((W3.alloc (oTk t)).alloc (.cells #[.int .u8 32] 5))) hgrow6 (HP5.out.oj.alloc _) (Nat.le_refl _) (by simp; omega); have hp6 := (HP5.out.alloc (.cells #[.int .u8 32] 5)).join 32 (by simp; omega) hown6 hgrow6 hat6; have q6 := grown_block (HP5.out.pc.alloc (.cells #[.int .u8 32] 5)) hgrow6 HP5.out.ne.2.2.2.1; have q6c := q6.cell; have q6f := q6.frozen; have q6l := q6.lt; have hz6 := hb6.size; have HB6 := hid hb6; have HP6 := hid hp6; clear hown6 hgrow6 hat6 hb6 hp6 q6))
     have HRV := hid (((HR5.out.alloc (.cells #[.int .u8 32] 5)).on HB6.out hblt).far (p := ⟨(W1.heap.size + 1), 1, none⟩) (by dsimp only; omega) (.slice ja6 (joins.length + 1) jc6))
     have HGV := hid (grown_far (p := ⟨(W1.heap.size + 1), 1, none⟩) (v := .slice ja6 (joins.length + 1) jc6) (grown_lowS (grown_allocS HG5.out (.cells #[.int .u8 32] 5)) HB6.out (Nat.le_refl _)) (by dsimp only; omega))
     generalize w6.setCell ⟨(W1.heap.size + 1), 1, none⟩ (.slice ja6 (joins.length + 1) jc6) = V at *
     have hg5 := HG5'.out
     have cS := fun w h hE => hS b (t :: M) d w (by omega) hg5 (by omega) h hE
     cases hv : stepF d [] (t :: M) with
     | none =>
      have hF := hF.out
      rw [hv] at cS hF
      simp only [Option.bind_none] at hF
      subst hF
      unfold RetS at cS
      replace cS := hid cS
      clear hfw hv hg5
      have hzV := HGV.out.size
      have RD := hid (HRV.out.on (Below.refl _ _).drew HRV.out.lt)
      have GD := hid (HGV.out.trans (grown_of_below (Below.refl _ _).drew (some b)))
      have pd := HP6.out.drew
      have pdc := pd.pc.cell
      have pdl := pd.pc.lt
      have PD := hid pd
      have XD := hid (fun c hc => pd.fresh (c := c) hzV hc)
      clear HRV HGV HP6 pd
      go_wp2_with fail
      go_region_with (go_at_call 58; (with_reducible refine (cS.out _ RD.out (hE.out.on (below_one GD.out hblt))).mono ?_); rintro e W7 ⟨rfl, hg7⟩; have G7 := hid (GD.out.trans hg7); clear hg7; refine die_anyS (P := Tryz.prog) (a := ⟨#[], []⟩) (w := w) ?_)
      all_goals exact ⟨rfl, rfl, G7.out⟩
     | some r =>
      obtain ⟨s, M2⟩ := r
      have hF := hF.out
      rw [hv] at cS hF
      simp only [Option.bind_some] at hF
      obtain ⟨hfs, -, hfl⟩ := hfw.out _ _ hv
      have hfl := hfl (by first | rfl | trivial)
      have HM2 := hid (hg5.suf hfs)
      have hR := hid hF
      unfold RetS at cS
      replace cS := hid cS
      clear hfw hv hfs hF hg5
      have hzV := HGV.out.size
      have RD := hid (HRV.out.on (Below.refl _ _).drew HRV.out.lt)
      have GD := hid (HGV.out.trans (grown_of_below (Below.refl _ _).drew (some b)))
      have pd := HP6.out.drew
      have pdc := pd.pc.cell
      have pdl := pd.pc.lt
      have PD := hid pd
      have XD := hid (fun c hc => pd.fresh (c := c) hzV hc)
      clear HRV HGV HP6 pd
      go_wp2_with fail
      go_region_law (first
       | (refine step_append_own rfl _ _ 33 rfl w.heap.size 27 iS (.slice none 0 0) 1 24 Tryz.underlying33 HiS.out HsS0.out HsS1.out HsS2.out rfl (by decide) _ _ _ rfl HO7.out ⟨W7.heap.size, 0, none⟩ 1 1 [.slice sA s.length sc] rfl rfl (Blk.new (w := W7) (t := 27) (cs := #[.slice sA s.length sc]) rfl).news (by simp [Value.oneCell']) (by unfold maxLen; omega) (by omega) (by simp; omega) ?_; intro v8 w8 hown8 hgrow8 hat8; obtain ⟨va8, vc8, rfl⟩ := row_form hown8; have hb8 := below_app (Below.refl w.heap.size (W7.alloc (.cells #[.slice sA s.length sc] 27))) hgrow8 HO7.out (Nat.le_refl _) (by simp; omega); have hp8 := HP7.out.step s sA sc (by simp; omega) HS7.out HO7.out HV7.out hown8 hgrow8 hat8; have q8 := grown_block HP7.out.pc hgrow8 HP7.out.ne.2.1; have q8c := q8.cell; have q8f := q8.frozen; have q8l := q8.lt; have HP8 := hid hp8; have R8 := hid ((R7.out.on hb8 hblt).far (p := ⟨(W1.heap.size + 1), 0, none⟩) (by dsimp only; omega) (.slice va8 (steps.length + 1) vc8)); have G8 := hid (grown_far (p := ⟨(W1.heap.size + 1), 0, none⟩) (v := .slice va8 (steps.length + 1) vc8) (grown_lowS G7.out hb8 (Nat.le_refl _)) (by dsimp only; omega)); clear hown8 hgrow8 hat8 hb8 hp8 q8)
       | (go_simp; go_wp2_with ((go_at_call 58; (with_reducible refine (cS.out _ RD.out (hE.out.on (below_one GD.out hblt))).mono ?_); rintro e W7 ⟨hg7, ⟨sA, sc, rfl, hs7⟩, hr7⟩; (try dsimp only at hs7 hr7); have hz7 := Nat.le_trans GD.out.size hg7.size; have hp7 := PD.out.on hg7 hblt; have p7c := hp7.pc.cell; have p7l := hp7.pc.lt; have pa7 := (hp7.pc.alloc (.cells #[.slice sA s.length sc] 27)).cell; have HP7 := hid (hp7.alloc (.cells #[.slice sA s.length sc] 27)); obtain ⟨ys, ho7, hv7⟩ := HP7.out.os; have HO7 := hid ho7; have HV7 := hid hv7; have HS7 := hid (SsV.keep (w := W7) (w' := W7.alloc (.cells #[.slice sA s.length sc] 27)) (by simp) (fun c hc hl => ⟨XD.out c hc, Below.heap_alloc _ _ c hl⟩) hs7); have G7 := hid (grown_allocS (GD.out.trans hg7) (.cells #[.slice sA s.length sc] 27)); have R7 := hid (hr7.alloc (.cells #[.slice sA s.length sc] 27)); clear hg7 hs7 hr7 hp7 ho7 hv7))))
      all_goals
       go_wp2
       go_roundw
       case rel => exact ⟨steps ++ [s], joins ++ [32], M2, d, _, _, hR.out, by omega, HM2.out, by omega, by simp only [List.length_append, List.length_cons, List.length_nil]; omega, by have := hjn.out; simp only [List.length_append, List.length_cons, List.length_nil]; omega, R8.out, G8.out, HP8.out⟩
       case measure =>
        rw [R8.out.lenV, hlenV]
        omega
    ·rw [if_neg hc] at hF
     subst hF
     have hc3 : gb = false ∨ (gb = true /\ t.raw = [44]) ∨ (gb = true /\ t.raw ≠ [44] /\ t.raw = [41]) := by
      cases gb
      ·exact .inl rfl
      ·by_cases h1 : t.raw = [44]
       ·exact .inr (.inl ⟨rfl, h1⟩)
       ·exact .inr (.inr ⟨rfl, h1, by simpa [h1] using hc⟩)
     clear hc hgb
     have cP : ∀ w, RdrS w b (t :: M) -> Calls Tryz.prog 57 #[(pn b)] w (rt w (aTk t)) := fun w h => peek_ct b (t :: M) w h
     replace cP := hid cP
     rcases hc3 with rfl | ⟨rfl, h44⟩ | ⟨rfl, n44, h41⟩
     ·skip
      go_wp2_with (first
       | (go_at_call 27; (with_reducible refine (cG.out _ HR.out).mono ?_); rintro e W2 ⟨rfl, hr2, hg2⟩; have HR2 := hid hr2; have HG2 := hid (HG.out.trans hg2); have HP2 := hid (HP.out.on hg2 hblt); clear hr2 hg2)
       | (go_at_call 57; (with_reducible refine (cP.out _ HR2.out).mono ?_); rintro e W3 ⟨rfl, hb3⟩; have HR3 := hid (HR2.out.on hb3 HR2.out.lt); have HG3 := hid (HG2.out.trans (grown_of_below hb3 (some b))); have hp3 := HP2.out.below hb3; have HP3 := hid hp3; have p3c := hp3.pc.cell; have z3c := hp3.zc.cell; have z3f := hp3.zc.frozen; have z3l := hp3.zc.lt; have p3l := hp3.pc.lt; clear hb3 hp3))
      have e := Blk.cell (((HP3.out.zc.put 0 (.slice va steps.length vc)).put 1 (.slice ja joins.length jc)).alloc (oTk t))
      refine bodyPost_ret (v := .agg #[.slice va steps.length vc, .slice ja joins.length jc]) (by simp [results, Tryz.results28, go_sem, e]) rfl (show RetPa b w (some (.mk steps joins, t :: M)) _ _ from ⟨?_, ⟨_, _, rfl, ?_⟩, ?_⟩)
      ·exact grown_allocS (grown_far (grown_far HG3.out (Nat.le_refl _)) (Nat.le_refl _)) _
      ·exact PaAt.keep (Nat.le_refl _) (fun c h _ => ⟨h.1, rfl⟩) _ _ (((Kp.set (p := ⟨w.heap.size, 0, none⟩) (by simp) _).trans ((Kp.set (p := ⟨w.heap.size, 1, none⟩) (by simp) _).trans (Kp.alloc _))).pa HP3.out.done)
      ·exact ((HR3.out.far hblt _).far hblt _).alloc _
     ·have e44 : ((bs t.raw).toList == [44]) = true := by rw [bs_toList, h44]; rfl
      clear h44
      go_wp2_with (first
       | (go_at_call 27; (with_reducible refine (cG.out _ HR.out).mono ?_); rintro e W2 ⟨rfl, hr2, hg2⟩; have HR2 := hid hr2; have HG2 := hid (HG.out.trans hg2); have HP2 := hid (HP.out.on hg2 hblt); clear hr2 hg2)
       | (go_at_call 57; (with_reducible refine (cP.out _ HR2.out).mono ?_); rintro e W3 ⟨rfl, hb3⟩; have HR3 := hid (HR2.out.on hb3 HR2.out.lt); have HG3 := hid (HG2.out.trans (grown_of_below hb3 (some b))); have hp3 := HP2.out.below hb3; have HP3 := hid hp3; have p3c := hp3.pc.cell; have z3c := hp3.zc.cell; have z3f := hp3.zc.frozen; have z3l := hp3.zc.lt; have p3l := hp3.pc.lt; clear hb3 hp3))
      have e := Blk.cell (((HP3.out.zc.put 0 (.slice va steps.length vc)).put 1 (.slice ja joins.length jc)).alloc (oTk t))
      refine bodyPost_ret (v := .agg #[.slice va steps.length vc, .slice ja joins.length jc]) (by simp [results, Tryz.results28, go_sem, e]) rfl (show RetPa b w (some (.mk steps joins, t :: M)) _ _ from ⟨?_, ⟨_, _, rfl, ?_⟩, ?_⟩)
      ·exact grown_allocS (grown_far (grown_far HG3.out (Nat.le_refl _)) (Nat.le_refl _)) _
      ·exact PaAt.keep (Nat.le_refl _) (fun c h _ => ⟨h.1, rfl⟩) _ _ (((Kp.set (p := ⟨w.heap.size, 0, none⟩) (by simp) _).trans ((Kp.set (p := ⟨w.heap.size, 1, none⟩) (by simp) _).trans (Kp.alloc _))).pa HP3.out.done)
      ·exact ((HR3.out.far hblt _).far hblt _).alloc _
     ·have e44 : ((bs t.raw).toList == [44]) = false := by rw [bs_toList, beq_eq_false_iff_ne]; exact n44
      have e41 : ((bs t.raw).toList == [41]) = true := by rw [bs_toList, h41]; rfl
      clear n44 h41
      go_wp2_with (first
       | (go_at_call 27; (with_reducible refine (cG.out _ HR.out).mono ?_); rintro e W2 ⟨rfl, hr2, hg2⟩; have HR2 := hid hr2; have HG2 := hid (HG.out.trans hg2); have HP2 := hid (HP.out.on hg2 hblt); clear hr2 hg2)
       | (go_at_call 57; (with_reducible refine (cP.out _ HR2.out).mono ?_); rintro e W3 ⟨rfl, hb3⟩; have HR3 := hid (HR2.out.on hb3 HR2.out.lt); have HG3 := hid (HG2.out.trans (grown_of_below hb3 (some b))); have hp3 := HP2.out.below hb3; have HP3 := hid hp3; have p3c := hp3.pc.cell; have z3c := hp3.zc.cell; have z3f := hp3.zc.frozen; have z3l := hp3.zc.lt; have p3l := hp3.pc.lt; clear hb3 hp3))
      have e := Blk.cell (((HP3.out.zc.put 0 (.slice va steps.length vc)).put 1 (.slice ja joins.length jc)).alloc (oTk t))
      refine bodyPost_ret (v := .agg #[.slice va steps.length vc, .slice ja joins.length jc]) (by simp [results, Tryz.results28, go_sem, e]) rfl (show RetPa b w (some (.mk steps joins, t :: M)) _ _ from ⟨?_, ⟨_, _, rfl, ?_⟩, ?_⟩)
      ·exact grown_allocS (grown_far (grown_far HG3.out (Nat.le_refl _)) (Nat.le_refl _)) _
      ·exact PaAt.keep (Nat.le_refl _) (fun c h _ => ⟨h.1, rfl⟩) _ _ (((Kp.set (p := ⟨w.heap.size, 0, none⟩) (by simp) _).trans ((Kp.set (p := ⟨w.heap.size, 1, none⟩) (by simp) _).trans (Kp.alloc _))).pa HP3.out.done)
      ·exact ((HR3.out.far hblt _).far hblt _).alloc _
theorem path_ct (N : Nat) (hS : StepC N) : PathC N := by
 intro b L d w hl hg hd h hE
 have cS := fun w h hE => hS b L d w hl hg (by omega) h hE
 unfold pathP
 cases hs : stepF d [] L with
 | none =>
  rw [hs] at cS
  exact path_die b L w h hE cS
 | some r =>
  obtain ⟨s, M⟩ := r
  exact path_go N hS b L d w hl hg hd h hE s M hs
end sel
end Go.Proofs.YtaobpkffcolobaaGreatDoor
