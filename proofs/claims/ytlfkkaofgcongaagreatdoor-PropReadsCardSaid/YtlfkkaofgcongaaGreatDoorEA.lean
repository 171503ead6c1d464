/- Contracts and plain law, a bundle. -/
import Derived.Maps.AppendAt
import Derived.Deep.RegionLaw
import Derived.Lib.Hide
import Derived.Test.YtlfkkaofgcongaaGreatDoorE9
set_option linter.unusedVariables false
set_option maxRecDepth 100000
set_option maxHeartbeats 16000000
open Go.Lib (hid)
namespace Go.Proofs.YtlfkkaofgcongaaGreatDoor
namespace clb
open Go.RowKit base tok dim rul cal
theorem infoTe : (Tryz.prog.info? 50).map (fun i => (i.zero, i.size, i.bytes)) = some (some (.agg #[.int .i64 0, .int .i64 0, .string .empty, .slice none 0 0]), 4, 56) := by kernel_rfl
theorem step_append_own {P : Program} {ops : Array Oper} {o : Oper} {a : Act} {w : World} {K : Act -> World -> Prop} {Q : Exit -> Act -> World -> Prop} {E : Prop}
  (hg : o.guard = none) (s x : Operand) (t : TypeId) (hop : o.op = Op.call { callee := Callee.builtin Builtin.append, args := #[s, x], argTypes := #[t, t] })
  (base : Nat) (e : TypeId) (i : TypeInfo) (z : Value) (size bytes : Nat) (ht : P.underlying t = some (.slice e)) (hi : P.info? e = some i) (hz : i.zero = some z)
  (hsize : i.size = size) (hby : i.bytes = bytes) (hzs : z.cells.size = size) (hsz : 0 < size)
  (v : Value) (n : Nat) (xs : List Value) (hs : a.eval s = v) (hown : w.ownsRow base e size v n xs)
  (ad : Addr) (m c : Nat) (news : List Value) (hx : a.eval x = .slice (some ad) m c) (hl : news.length = m * size) (hnews : ∀ j u, news[j]? = some u -> w.cell? (ad.add j) = some u) (h1 : ∀ u ∈ news, u.oneCell' = true)
  (h63 : n + m <= maxLen) (hbytes : (n + m) * bytes <= 140737488355328) (hbase : base <= w.heap.size)
  (hK : ∀ v' w', w'.ownsRow base e size v' (n + m) (xs ++ news) -> w.grownBy w' v.ownBlock -> (v'.ownBlock = v.ownBlock ∨ v'.ownBlock = some w.heap.size) -> K (a.put o.dst v') w') :
  if Region.wanted o (yielded ops a.tmps) = true then Oper.wp P o a w K Q else E := by
 have hw : Region.wanted o (yielded ops a.tmps) = true := by simp [Region.wanted, hg]
 rw [if_pos hw]
 obtain ⟨v', w', hr, h2, h3, h4, h5⟩ := run_append_own_at (P := P) w base t o.type e i z size bytes ht hi hz hsize hby hzs hsz v n xs hown ad m c news hl hnews h1 h63 hbytes hbase
 unfold Oper.wp execOp
 simp only [hop, resolve, invoke, builtin, Sem.run_bind, Sem.run_pure, Result.andThen_ok, List.map_toArray, List.map_cons, List.map_nil, hs, hx, hr]
 exact hK v' w' h2 h3 h5
theorem grown_low {w w1 w2 : World} {B b : Nat} (h : w.grownBy w1 (some b)) (hb : Below B w1 w2) (hB : w.heap.size <= B) : w.grownBy w2 (some b) :=
 ⟨hb.os.trans h.os, hb.tape.trans h.tape, hb.output.trans h.output, Nat.le_trans h.size hb.size, fun k hk hne => (hb.block k (Nat.lt_of_lt_of_le hk hB)).trans (h.block k hk hne)⟩
theorem te_row {X : Nat -> Prop} {w : World} {base : Nat} {kk : Int} {l : List Te} {xs : List Value} {a : Option Addr} {n cap : Nat} (ho : w.ownsRow base 50 4 (.slice a n cap) n xs) (hn : l.length = n) (h0 : 0 < n) (hv : VsAt X w l xs) (hX : ∀ g, base <= g -> X g) : TeAt X w (.op kk l) (.agg #[.int .i64 kk, .int .i64 0, .string ⟨#[]⟩, .slice a n cap]) := by
 subst hn
 rcases ho.2 with ⟨_, h⟩ | ⟨g, cap', cur, hv', hb, hg, hc, _⟩
 ·omega
 ·injection hv' with h1 h2 h3
  subst h1 h3
  rw [TeAt]
  refine ⟨g, 0, cap, rfl, hc, hX g hb, (ho.lt g rfl).2, VsAt.at_ hv (fun j u hj => ?_)⟩
  have h4 := ho.cells (g := g) rfl j u hj
  rw [show (⟨g, 0, none⟩ : Addr).add j = ⟨g, j, none⟩ by unfold Addr.add; split <;> simp_all] at h4
  rw [Nat.zero_add]
  exact h4
def LRel (b : Nat) (w : World) (q : Nat) (N : Nat) (kk : Int) (R : Option (Te × List Tk × Nat)) (wr : World) : Prop :=
 ∃ (l : List Te) (L : List Tk) (n d : Nat) (g : Bool) (v : Value) (xs : List Value), listF d kk l L n = R /\ L.length <= N /\ GoodR L /\ n <= 30 /\ 6 * L.length + 5 <= d /\ RdrAt wr b L (n : Int) g /\
  wr.ownsRow (q + 1) 50 4 v l.length xs /\ VsAt (fun c => q + 1 <= c /\ some c ≠ v.ownBlock) wr l xs /\ Blk wr q 50 #[.int .i64 kk, .int .i64 0, .string ⟨#[]⟩, v] /\
  Blk wr w.heap.size 50 #[.int .i64 0, .int .i64 0, .string ⟨#[]⟩, .slice none 0 0] /\ w.grownBy wr (some b) /\ q + 1 <= wr.heap.size /\ l.length + L.length <= 400
theorem v_list (N : Nat) (hS : SumC N) (b : Nat) (raw val : Bs) (num : Int) (L : List Tk) (n : Nat) (g inb : Bool) (d : Nat) (hLN : L.length <= N) (hgood : GoodR L) (hn : n <= 30) (hd : 6 * L.length + 5 <= d) (hca : ¬ val.map lowB = calcT) (hkn : ¬ kindI (val.map lowB) = 0) (hio : inb = false ∨ ¬ raw = [40]) (hvl : val.length <= 400)
  (w : World) (h : RdrAt w b (⟨2, raw, val, num⟩ :: L) (n : Int) g) (hE : Env b w) : Calls Tryz.prog 62 #[.pointer (some ⟨b, 0, none⟩), .bool inb] w (RetV b w (listF d (kindI (val.map lowB)) [] L n)) := by
 obtain ⟨i0, hi, hz0, hz1, hz2⟩ := info_parts infoTe
 have Hz0 := hid hz0
 have Hi := hid hi
 have Hz1 := hid hz1
 have Hz2 := hid hz2
 clear hz0 hi hz1 hz2
 have cN := hid (need_yes b)
 have cX := hid (need_no b)
 have cL := fun w => low_ct (bs val) (by rw [bs_size]; omega) w
 rw [show (bs val).data.toList = val from rfl] at cL
 have hk68 := kind_of hkn
 obtain ⟨kk, hkk⟩ : ∃ kk, kindI (val.map lowB) = kk := ⟨_, rfl⟩
 rw [hkk] at hk68 hkn ⊢
 generalize val.map lowB = nm at *
 replace cL := hid cL
 have hq2 : ((bs nm).toList == [99, 97, 108, 99]) = false := by rw [bs_toList, beq_eq_false_iff_ne]; exact hca
 have cI := hid (fun (w : World) (k : Nat) (t : TypeId) (h : Blk w k t #[.string ⟨#[]⟩, .string ⟨#[]⟩, .string ⟨#[]⟩, .string ⟨#[]⟩, .string ⟨#[]⟩, .string ⟨#[]⟩, .string ⟨#[109, 105, 110]⟩, .string ⟨#[109, 97, 120]⟩, .string ⟨#[99, 108, 97, 109, 112]⟩]) => (index_word (s := nm) h).mono (R' := fun e w' => e = .returned (.int .i64 kk) /\ w = w') fun e w' ⟨⟨r, he, hr⟩, hw⟩ => ⟨by rcases hr with h | h; exact absurd (hkk.symm.trans h.1) hkn; rw [he, h.2, hkk], hw⟩)
 have hkp : (0 : Int) < kk := by omega
 have hq : inb = false ∨ (inb = true /\ ((bs raw).toList == [40]) = false) := by
  cases inb with
  | false => exact .inl rfl
  | true => exact .inr ⟨rfl, by rw [bs_toList, beq_eq_false_iff_ne]; rcases hio with h | h; exact absurd h (by decide); exact h⟩
 have HGD := hid hgood
 have hL400 := hgood.1
 replace hE := hid hE
 generalize hR : listF d kk [] L n = R
 replace hR := hid hR
 clear hvl hio hca hkn hkk hgood
 obtain ⟨tb, off, cap, hcp, htb, hlt, hcl, hfr, e0, e1, e2, e3, hnext, hsl⟩ := h.turn
 have hp : 0 < L.length + 1 := by omega
 have htb2 : tb < w.heap.size := by omega
 dsimp only at e0 e1 e2 e3
 have HV0 := hid (show Below b w (((w.setCell ⟨b, 0, none⟩ (.slice (addrAt 4 (some ⟨tb, off, none⟩) cap 1) L.length (cap - 1))).alloc (.cells #[.int .i64 0, .int .i64 0, .string ⟨#[]⟩, .slice none 0 0] 50)).alloc (.cells #[.int .i64 2, .string (bs raw), .string (bs val), .int .i64 num] 86)) from (((Below.refl b w).setCell (Nat.le_refl _) _).alloc (by simp; omega) _).alloc (by simp; omega) _)
 have HR0 := hid (show RdrAt (((w.setCell ⟨b, 0, none⟩ (.slice (addrAt 4 (some ⟨tb, off, none⟩) cap 1) L.length (cap - 1))).alloc (.cells #[.int .i64 0, .int .i64 0, .string ⟨#[]⟩, .slice none 0 0] 50)).alloc (.cells #[.int .i64 2, .string (bs raw), .string (bs val), .int .i64 num] 86)) b L (n : Int) g from (hnext.alloc _).alloc _)
 have HG0 := hid (show w.grownBy (((w.setCell ⟨b, 0, none⟩ (.slice (addrAt 4 (some ⟨tb, off, none⟩) cap 1) L.length (cap - 1))).alloc (.cells #[.int .i64 0, .int .i64 0, .string ⟨#[]⟩, .slice none 0 0] 50)).alloc (.cells #[.int .i64 2, .string (bs raw), .string (bs val), .int .i64 num] 86)) (some b) from grown_alloc (grown_alloc (grown_set _ _ _ _) _) _)
 have Q0 := hid (show Blk (((w.setCell ⟨b, 0, none⟩ (.slice (addrAt 4 (some ⟨tb, off, none⟩) cap 1) L.length (cap - 1))).alloc (.cells #[.int .i64 0, .int .i64 0, .string ⟨#[]⟩, .slice none 0 0] 50)).alloc (.cells #[.int .i64 2, .string (bs raw), .string (bs val), .int .i64 num] 86)) w.heap.size 50 #[.int .i64 0, .int .i64 0, .string ⟨#[]⟩, .slice none 0 0] from (Blk.new (by simp)).alloc _)
 have P0 := hid (show Blk (((w.setCell ⟨b, 0, none⟩ (.slice (addrAt 4 (some ⟨tb, off, none⟩) cap 1) L.length (cap - 1))).alloc (.cells #[.int .i64 0, .int .i64 0, .string ⟨#[]⟩, .slice none 0 0] 50)).alloc (.cells #[.int .i64 2, .string (bs raw), .string (bs val), .int .i64 num] 86)) (w.heap.size + 1) 86 #[.int .i64 2, .string (bs raw), .string (bs val), .int .i64 num] from Blk.new (by simp))
 have HE0 := hid (hE.out.on HV0.out)
 have hz0 := hid (show w.heap.size + 2 <= (((w.setCell ⟨b, 0, none⟩ (.slice (addrAt 4 (some ⟨tb, off, none⟩) cap 1) L.length (cap - 1))).alloc (.cells #[.int .i64 0, .int .i64 0, .string ⟨#[]⟩, .slice none 0 0] 50)).alloc (.cells #[.int .i64 2, .string (bs raw), .string (bs val), .int .i64 num] 86)).heap.size by simp)
 clear h hnext HV0
 rcases hq with rfl | ⟨rfl, q40⟩
 all_goals
  go_enter Tryz.func62, Tryz.ntmps62
  go_wp2_with (first
   | (go_at_call 63; (with_reducible refine (cN.out _).mono ?_); rintro e W1a ⟨rfl, rfl⟩)
   | (go_at_call 63; (with_reducible refine (cX.out _).mono ?_); rintro e W9a ⟨rfl, rfl⟩)
   | (go_at_call 94; (with_reducible refine (cL.out _).mono ?_); rintro e W1 ⟨rfl, hb1⟩; have HR1 := hid (HR0.out.on hb1 (by have := hz0.out; omega)); have HG1 := hid (HG0.out.trans (grown_of_below hb1 _)); have Q1 := hid (Q0.out.below hb1 (by have := hz0.out; omega)); have HE1 := hid (HE0.out.on (hb1.mono (by have := hz0.out; omega))); have hz1 := Nat.le_trans hz0.out hb1.size; clear hb1)
   | (go_at_call 52; (with_reducible refine (cI.out _ _ _ (Blk.new rfl)).mono ?_); rintro e W2 ⟨rfl, rfl⟩))
  go_loopw [] (fun wr => LRel b w (W1.heap.size + 1) N kk R wr) (fun wr => cal.lenV (wr.cell? ⟨b, 0, none⟩))
  case atStart =>
   refine ⟨[], L, n, d, g, .slice none 0 0, [], hR.out, hLN, HGD.out, hn, hd, (HR1.out.alloc _).alloc _, World.ownsRow_nil _ _ _ _, rfl, Blk.new (by simp), (Q1.out.alloc _).alloc _, grown_alloc (grown_alloc HG1.out _) _, by simp, by simpa using hL400⟩
  case round =>
   clear hR HGD hLN hn hd hL400
   obtain ⟨l, L, n, d, g, v, xs, hR, hLN, hgd, hn, hd, hr, hrow, hvs, hq, hz, hgr, hlo, hll⟩ := hrel
   obtain ⟨va, vc, rfl⟩ := row_form hrow
   obtain ⟨d, rfl⟩ : ∃ e, d = e + 1 := ⟨d - 1, by omega⟩
   have hF := hR
   rw [listF] at hF
   clear hR
   have hlenV := hr.lenV
   have qc := hq.cell
   have hneb := hid (show (Value.slice va l.length vc).ownBlock ≠ some b from fun e => by have := (hrow.lt _ e).1; omega)
   have hbd : Below b wr wr.drew := (Below.refl _ _).drew
   have hr5 := hid (hr.on (Below.refl _ _).drew hr.lt)
   have hgr5 := hid (hgr.trans (grown_of_below (Below.refl _ _).drew _))
   have hq5 := hid hq.drew
   have hz5 := hid hz.drew
   have hrow5 := hid (row_on hrow (Below.refl _ _).drew)
   have hvs5 := hid (VsAt.keep (w := wr) (w' := wr.drew) (Y := fun c => W1.heap.size + 2 <= c /\ some c ≠ (Value.slice va l.length vc).ownBlock) (Nat.le_refl _) (fun c h _ => ⟨h, rfl⟩) _ _ hvs)
   have hlo5 : W1.heap.size + 2 <= wr.drew.heap.size := hlo
   have cS := fun w h hE => hS b L n g d w hLN hgd hn (by omega) h hE
   have hinv := (inv_all d).2.2.2.1 L n
   have HGD := hid hgd
   clear hr hgr hz hrow hvs hgd
   cases hv : sumF d L n with
   | none =>
    rw [hv] at cS hF
    replace cS := hid cS
    simp only [Option.bind_none] at hF
    obtain rfl := hF
    clear hinv
    go_wp2_with fail
    go_region_with (go_at_call 92; (with_reducible refine (cS.out _ hr5.out (hE.out.on (below_one hgr5.out hlt))).mono ?_); rintro e W6 ⟨hg6, x, hx, rfl⟩; have HX := hid hx; have G6 := hid (hgr5.out.trans hg6); clear hg6 hx; refine die_any (P := Tryz.prog) (a := ⟨#[], []⟩) (w := w) ?_)
    all_goals exact ⟨rfl, G6.out, x, HX.out, rfl⟩
   | some r =>
    obtain ⟨t, M, m, g2⟩ := r
    rw [hv] at cS hF
    replace cS := hid cS
    obtain ⟨-, -, hm30, hMs, hMl⟩ := hinv t M m g2 HGD.out.good hv
    have HM := hid (HGD.out.suf hMs)
    simp only [Option.bind_some] at hF
    clear hinv hMs hv
    go_wp2_with fail
    go_region_law (first
     | (refine step_append_own rfl _ _ 48 rfl (W1.heap.size + 2) 50 i0 (.agg #[.int .i64 0, .int .i64 0, .string .empty, .slice none 0 0]) 4 56 Tryz.underlying48 Hi.out Hz0.out Hz1.out Hz2.out rfl (by decide) _ _ _ rfl (R6.out.alloc (.cells #[.int .i64 uk, .int .i64 un, .string uu, .slice ua ul uc] 50)) ⟨W6.heap.size, 0, none⟩ 1 1 [.int .i64 uk, .int .i64 un, .string uu, .slice ua ul uc] rfl rfl (Blk.new (w := W6) (t := 50) (cs := #[.int .i64 uk, .int .i64 un, .string uu, .slice ua ul uc]) rfl).news (by simp [Value.oneCell']) (by unfold maxLen; omega) (by omega) (by simp; omega) ?_; intro v7 w7 hown7 hgrow7 hat7; obtain ⟨a7, c7, rfl⟩ := row_form hown7; have hb7 := below_app (Below.refl (W1.heap.size + 2) (W6.alloc (.cells #[.int .i64 uk, .int .i64 un, .string uu, .slice ua ul uc] 50))) hgrow7 (R6.out.alloc (.cells #[.int .i64 uk, .int .i64 un, .string uu, .slice ua ul uc] 50)) (Nat.le_refl _) (by simp; omega); have q7 := Blk.below (Q6.out.alloc (.cells #[.int .i64 uk, .int .i64 un, .string uu, .slice ua ul uc] 50)) hb7 (by omega); have qc7 := q7.cell; have qf7 := q7.frozen; have Q7 := hid q7; have HB7 := hid hb7; have HG7 := hid hgrow7; have HO7 := hid hown7; have HA7 := hid hat7; clear q7 hb7 hgrow7 hown7 hat7)
     | (go_simp; go_wp2_with ((go_at_call 92; (with_reducible refine (cS.out _ hr5.out (hE.out.on (below_one hgr5.out hlt))).mono ?_); rintro e W6 ⟨hg6, uv, rfl, hu6, hr6⟩; obtain ⟨uk, un, uu, ua, ul, uc, rfl⟩ := hu6.four; have HS6 := hid hg6.size; have HR6 := hid hr6; have G6 := hid (hgr5.out.trans hg6); have Q6 := hid (Blk_grown hq5.out hg6 (by omega)); have qc6 := Q6.out.cell; have qa6 := (Q6.out.alloc (.cells #[.int .i64 uk, .int .i64 un, .string uu, .slice ua ul uc] 50)).cell; have z6 := hid (Blk_grown hz5.out hg6 (by omega)); have R6 := hid (hrow5.out.kept hg6 (.inr hneb.out)); have V6 := hid (VsAt.keep (Y := fun c => W1.heap.size + 2 <= c /\ some c ≠ (Value.slice va l.length vc).ownBlock) hg6.size (fun c (h : W1.heap.size + 2 <= c /\ some c ≠ (Value.slice va l.length vc).ownBlock) h2 => ⟨h, hg6.block c h2 (fun e => by have := Option.some.inj e; omega)⟩) _ _ hvs5.out); have U6 := hid (hu6.wide (Y := fun c => W1.heap.size + 2 <= c /\ some c ≠ (Value.slice va l.length vc).ownBlock) (fun c h _ => ⟨Nat.le_trans hlo5 h, fun e => by have h1 := (hrow5.out.lt _ e.symm).2; have h3 := Nat.lt_of_lt_of_le h1 h; omega⟩)); have hlo6 := Nat.le_trans hlo5 hg6.size; clear hg6 hu6 hr6))))
    all_goals
     have HB8 := (HB7.out.mono (Nat.le_succ (W1.heap.size + 1))).setCell (p := ⟨W1.heap.size + 1, 3, none⟩) (Nat.le_refl _) (.slice a7 (l.length + 1) c7)
     have hz8 := HB8.size
     rw [World.size_alloc] at hz8
     have R8 := hid ((HR6.out.alloc (.cells #[.int .i64 uk, .int .i64 un, .string uu, .slice ua ul uc] 50)).on HB8 (by omega))
     have Z8 := hid ((z6.out.alloc (.cells #[.int .i64 uk, .int .i64 un, .string uu, .slice ua ul uc] 50)).below HB8 (by omega))
     have G8 := hid (grown_low (grown_alloc G6.out (.cells #[.int .i64 uk, .int .i64 un, .string uu, .slice ua ul uc] 50)) HB8 (by omega))
     have q8 := Q7.out.put 3 (.slice a7 (l.length + 1) c7)
     have O8 := hid (HO7.out.kept (grown_set w7 (W1.heap.size + 1) 3 (.slice a7 (l.length + 1) c7)) (.inr (fun e => by have := (HO7.out.lt _ e).1; omega)))
     have hstep : ∀ c, c < W6.heap.size -> some c ≠ (Value.slice va l.length vc).ownBlock -> W1.heap.size + 2 <= c -> some c ≠ (Value.slice a7 (l.length + 1) c7).ownBlock /\ (w7.setCell ⟨W1.heap.size + 1, 3, none⟩ (.slice a7 (l.length + 1) c7)).heap[c]? = W6.heap[c]? := fun c h1 h2 h3 =>
      ⟨fun e => by
       rcases HA7.out with h4 | h4
       ·exact h2 (e.trans h4)
       ·have h5 := Option.some.inj (e.trans h4)
        rw [World.size_alloc] at h5
        omega, (Below.heap_setCell w7 ⟨W1.heap.size + 1, 3, none⟩ _ c (by dsimp only; omega)).trans ((HG7.out.block c (by rw [World.size_alloc]; omega) h2).trans (Below.heap_alloc W6 (.cells #[.int .i64 uk, .int .i64 un, .string uu, .slice ua ul uc] 50) c h1))⟩
     have V8 := hid (VsAt.snoc (TeAt.keep (Y := fun c => W1.heap.size + 2 <= c /\ some c ≠ (Value.slice a7 (l.length + 1) c7).ownBlock) (by omega) (fun c (h : W1.heap.size + 2 <= c /\ some c ≠ (Value.slice va l.length vc).ownBlock) h2 => ⟨⟨h.1, (hstep c h2 h.2 h.1).1⟩, (hstep c h2 h.2 h.1).2⟩) _ _ U6.out) (VsAt.keep (Y := fun c => W1.heap.size + 2 <= c /\ some c ≠ (Value.slice a7 (l.length + 1) c7).ownBlock) (by omega) (fun c (h : W1.heap.size + 2 <= c /\ some c ≠ (Value.slice va l.length vc).ownBlock) h2 => ⟨⟨h.1, (hstep c h2 h.2 h.1).1⟩, (hstep c h2 h.2 h.1).2⟩) _ _ V6.out))
     clear hstep HB8
     have hz9 : W1.heap.size + 2 <= (w7.setCell ⟨W1.heap.size + 1, 3, none⟩ (.slice a7 (l.length + 1) c7)).heap.size := by omega
     generalize w7.setCell ⟨W1.heap.size + 1, 3, none⟩ (.slice a7 (l.length + 1) c7) = W8 at *
     have q8c := q8.cell
     have q8f := q8.frozen
     have Q8 := hid q8
     have hlenS : (l ++ [t]).length = l.length + 1 := by simp
     replace hlenS := hid hlenS
     clear q8 HB7 HG7 HO7 HA7 Q7 U6 V6 G6 z6 HR6
     rcases M with _ | ⟨c, M⟩
     ·simp only at hF
      obtain rfl := hF
      have c9 := hid (fun w h => raw_end b (m : Int) g2 ⟨#[44]⟩ w h)
      have c10 := hid (fun w h => raw_end b (m : Int) g2 ⟨#[41]⟩ w h)
      go_wp2_with (first
       | (go_at_call 93; (with_reducible refine (c9.out _ R8.out).mono ?_); rintro e W9 ⟨rfl, rfl⟩)
       | (go_at_call 93; (with_reducible refine (c10.out _ R8.out).mono ?_); rintro e W9 ⟨rfl, rfl⟩)
       | (go_at_call 63; (with_reducible refine (cX.out _).mono ?_); rintro e W9a ⟨rfl, rfl⟩))
      exact ⟨rfl, G8.out, 4, .inr rfl, rfl⟩
     ·simp only at hF
      by_cases h44 : c.raw = [44]
      ·rw [if_pos h44] at hF
       have c9 := hid (fun w h => raw_yes b c M (m : Int) g2 ⟨#[44]⟩ w h h44)
       replace hF := hid hF
       clear h44
       go_wp2_with (go_at_call 93; (with_reducible refine (c9.out _ R8.out).mono ?_); rintro e W9 ⟨rfl, hr9, hg9⟩; have R9 := hid hr9; have G9 := hid (G8.out.trans hg9); have Q9 := hid (Blk_grown Q8.out hg9 (by omega)); have Z9 := hid (Blk_grown Z8.out hg9 (by omega)); have O9 := hid (O8.out.kept hg9 (.inr (fun e => by have := (O8.out.lt _ e).1; omega))); have V9 := hid (VsAt.keep hg9.size (fun c (h : W1.heap.size + 2 <= c /\ some c ≠ (Value.slice a7 (l.length + 1) c7).ownBlock) h2 => ⟨h, hg9.block c h2 (fun e => by have := Option.some.inj e; omega)⟩) _ _ V8.out); have hz10 := hg9.size; clear hr9 hg9)
       go_roundw
       case rel =>
        simp only [List.length_cons] at hMl
        exact ⟨l ++ [t], M, m, d, g2, .slice a7 (l.length + 1) c7, _, hF.out, by omega, HM.out.suf (List.suffix_cons c M), hm30, by omega, R9.out, by rw [hlenS.out]; exact O9.out, V9.out, Q9.out, Z9.out, G9.out, by omega, by rw [hlenS.out]; omega⟩
       case measure =>
        simp only [List.length_cons] at hMl
        rw [R9.out.lenV, hlenV]
        omega
      ·rw [if_neg h44] at hF
       have c9 := hid (fun w h => raw_no b c M (m : Int) g2 ⟨#[44]⟩ w h h44)
       by_cases h41 : c.raw = [41]
       ·have c10 := hid (fun w h => raw_yes b c M (m : Int) g2 ⟨#[41]⟩ w h h41)
        have cH := hid (fun w => shaped_any kk 0 ⟨#[]⟩ a7 (l.length + 1) c7 (by omega) w)
        by_cases hsp : shapedP kk (l.length + 1) = true
        ·rw [if_pos ⟨h41, hsp⟩] at hF
         rw [hsp] at cH
         unfold madeP at hF
         by_cases h30 : m + 1 <= 30
         ·rw [if_pos h30] at hF
          obtain rfl := hF
          have c11 := fun w h => made_yes b M (m : Int) g2 ⟨kk, 0, ⟨#[]⟩, a7, l.length + 1, c7⟩ (by omega) (by omega) w h
          dsimp only at c11
          replace c11 := hid c11
          clear h44 h41
          go_wp2_with (first
           | (go_at_call 93; (with_reducible refine (c9.out _ R8.out).mono ?_); rintro e W9a ⟨rfl, rfl⟩)
           | (go_at_call 93; (with_reducible refine (c10.out _ R8.out).mono ?_); rintro e W9 ⟨rfl, hr9, hg9⟩; have hz10 := hg9.size; have R9 := hid hr9; have G9 := hid (G8.out.trans hg9); have q9 := Blk_grown Q8.out hg9 (by omega); have q9c := q9.cell; have Z9 := hid (Blk_grown Z8.out hg9 (by omega)); have O9 := (O8.out.kept hg9 (.inr (fun e => by have := (O8.out.lt _ e).1; omega))); have V9 := VsAt.keep (Y := fun c => W1.heap.size + 2 <= c) hg9.size (fun c (h : W1.heap.size + 2 <= c /\ some c ≠ (Value.slice a7 (l.length + 1) c7).ownBlock) h2 => ⟨h.1, hg9.block c h2 (fun e => by have := Option.some.inj e; omega)⟩) _ _ V8.out; have T9 := hid (te_row (kk := kk) O9 hlenS.out (by omega) V9 (fun g hg => hg)); clear hr9 hg9 O9 V9; replace q9 := hid q9)
           | (go_at_call 64; (with_reducible refine (cH.out _).mono ?_); rintro e W10 ⟨rfl, hb10⟩; have R10 := hid (R9.out.on hb10 R9.out.lt); have G10 := hid (G9.out.trans (grown_of_below hb10 _)); have q10 := q9.out.below hb10 q9.out.lt; have q10c := q10.cell; have q10f := q10.frozen; have Z10 := hid (Z9.out.below hb10 Z9.out.lt); have T10 := hid (T9.out.on hb10); have hz11 := hb10.size; clear hb10 q10)
           | (go_at_call 63; (with_reducible refine (cN.out _).mono ?_); rintro e W1a ⟨rfl, rfl⟩)
           | (go_at_call 91; (with_reducible refine (c11.out _ R10.out).mono ?_); rintro e W11 ⟨rfl, hr11, hg11⟩; have R11 := hid hr11; have G11 := hid (G10.out.trans hg11); have z11 := Blk_grown Z10.out hg11 (by omega); have z11c := z11.cell; have z11f := z11.frozen; have Z11 := hid z11; have T11 := hid (T10.out.grown hg11 (fun c (h : W1.heap.size + 2 <= c) => by omega)); clear hr11 hg11 z11))
          have e := Blk.cell (Blk.four (Z11.out) (.int .i64 kk) (.int .i64 0) (.string ⟨#[]⟩) (.slice a7 (l.length + 1) c7))
          refine bodyPost_ret (v := .agg #[.int .i64 kk, .int .i64 0, .string ⟨#[]⟩, .slice a7 (l.length + 1) c7]) (by simp [results, Tryz.results62, go_sem, e]) rfl ⟨?_, _, g2, rfl, ?_, ?_⟩
          ·exact grown_far (grown_far (grown_far (grown_far G11.out (Nat.le_refl _)) (Nat.le_refl _)) (Nat.le_refl _)) (Nat.le_refl _)
          ·exact TeAt.wide (((((T11.out.far (p := ⟨w.heap.size, 0, none⟩) (fun c (h : W1.heap.size + 2 <= c) => by dsimp only; omega) _).far (p := ⟨w.heap.size, 1, none⟩) (fun c (h : W1.heap.size + 2 <= c) => by dsimp only; omega) _).far (p := ⟨w.heap.size, 2, none⟩) (fun c (h : W1.heap.size + 2 <= c) => by dsimp only; omega) _).far (p := ⟨w.heap.size, 3, none⟩) (fun c (h : W1.heap.size + 2 <= c) => by dsimp only; omega) _)) (fun c (h : W1.heap.size + 2 <= c) _ => (by omega : w.heap.size <= c))
          ·exact (((R11.out.far (by dsimp only; omega) _).far (by dsimp only; omega) _).far (by dsimp only; omega) _).far (by dsimp only; omega) _
         ·rw [if_neg h30] at hF
          obtain rfl := hF
          have c11 := fun w h => made_no b M (m : Int) g2 ⟨kk, 0, ⟨#[]⟩, a7, l.length + 1, c7⟩ (by omega) w h
          dsimp only at c11
          replace c11 := hid c11
          clear h44 h41
          go_wp2_with (first
           | (go_at_call 93; (with_reducible refine (c9.out _ R8.out).mono ?_); rintro e W9a ⟨rfl, rfl⟩)
           | (go_at_call 93; (with_reducible refine (c10.out _ R8.out).mono ?_); rintro e W9 ⟨rfl, hr9, hg9⟩; have hz10 := hg9.size; have R9 := hid hr9; have G9 := hid (G8.out.trans hg9); have q9 := Blk_grown Q8.out hg9 (by omega); have q9c := q9.cell; have Z9 := hid (Blk_grown Z8.out hg9 (by omega)); have O9 := (O8.out.kept hg9 (.inr (fun e => by have := (O8.out.lt _ e).1; omega))); have V9 := VsAt.keep (Y := fun c => W1.heap.size + 2 <= c) hg9.size (fun c (h : W1.heap.size + 2 <= c /\ some c ≠ (Value.slice a7 (l.length + 1) c7).ownBlock) h2 => ⟨h.1, hg9.block c h2 (fun e => by have := Option.some.inj e; omega)⟩) _ _ V8.out; have T9 := hid (te_row (kk := kk) O9 hlenS.out (by omega) V9 (fun g hg => hg)); clear hr9 hg9 O9 V9; replace q9 := hid q9)
           | (go_at_call 64; (with_reducible refine (cH.out _).mono ?_); rintro e W10 ⟨rfl, hb10⟩; have R10 := hid (R9.out.on hb10 R9.out.lt); have G10 := hid (G9.out.trans (grown_of_below hb10 _)); have q10 := q9.out.below hb10 q9.out.lt; have q10c := q10.cell; have q10f := q10.frozen; have Z10 := hid (Z9.out.below hb10 Z9.out.lt); have T10 := hid (T9.out.on hb10); have hz11 := hb10.size; clear hb10 q10)
           | (go_at_call 63; (with_reducible refine (cN.out _).mono ?_); rintro e W1a ⟨rfl, rfl⟩)
           | (go_at_call 91; (with_reducible refine (c11.out _ R10.out).mono ?_); rintro e W11 ⟨rfl, hg11⟩; have G11 := hid (G10.out.trans hg11); clear hg11))
          exact ⟨rfl, G11.out, 2, .inl rfl, rfl⟩
        ·have hspf : shapedP kk (l.length + 1) = false := by
          cases h9 : shapedP kk (l.length + 1) with
          | false => rfl
          | true => exact absurd h9 hsp
         rw [if_neg (fun h => hsp h.2)] at hF
         obtain rfl := hF
         rw [hspf] at cH
         clear h44 h41 hsp
         go_wp2_with (first
          | (go_at_call 93; (with_reducible refine (c9.out _ R8.out).mono ?_); rintro e W9a ⟨rfl, rfl⟩)
          | (go_at_call 93; (with_reducible refine (c10.out _ R8.out).mono ?_); rintro e W9 ⟨rfl, hr9, hg9⟩; have hz10 := hg9.size; have R9 := hid hr9; have G9 := hid (G8.out.trans hg9); have q9 := Blk_grown Q8.out hg9 (by omega); have q9c := q9.cell; have Z9 := hid (Blk_grown Z8.out hg9 (by omega)); have O9 := (O8.out.kept hg9 (.inr (fun e => by have := (O8.out.lt _ e).1; omega))); have V9 := VsAt.keep (Y := fun c => W1.heap.size + 2 <= c) hg9.size (fun c (h : W1.heap.size + 2 <= c /\ some c ≠ (Value.slice a7 (l.length + 1) c7).ownBlock) h2 => ⟨h.1, hg9.block c h2 (fun e => by have := Option.some.inj e; omega)⟩) _ _ V8.out; have T9 := hid (te_row (kk := kk) O9 hlenS.out (by omega) V9 (fun g hg => hg)); clear hr9 hg9 O9 V9; replace q9 := hid q9)
          | (go_at_call 64; (with_reducible refine (cH.out _).mono ?_); rintro e W10 ⟨rfl, hb10⟩; have R10 := hid (R9.out.on hb10 R9.out.lt); have G10 := hid (G9.out.trans (grown_of_below hb10 _)); have q10 := q9.out.below hb10 q9.out.lt; have q10c := q10.cell; have q10f := q10.frozen; have Z10 := hid (Z9.out.below hb10 Z9.out.lt); have T10 := hid (T9.out.on hb10); have hz11 := hb10.size; clear hb10 q10)
          | (go_at_call 63; (with_reducible refine (cX.out _).mono ?_); rintro e W9a ⟨rfl, rfl⟩))
         exact ⟨rfl, G10.out, 4, .inr rfl, rfl⟩
       ·rw [if_neg (fun h => h41 h.1)] at hF
        obtain rfl := hF
        have c10 := hid (fun w h => raw_no b c M (m : Int) g2 ⟨#[41]⟩ w h h41)
        clear h44 h41
        go_wp2_with (first
         | (go_at_call 93; (with_reducible refine (c9.out _ R8.out).mono ?_); rintro e W9 ⟨rfl, rfl⟩)
         | (go_at_call 93; (with_reducible refine (c10.out _ R8.out).mono ?_); rintro e W9 ⟨rfl, rfl⟩)
         | (go_at_call 63; (with_reducible refine (cX.out _).mono ?_); rintro e W9a ⟨rfl, rfl⟩))
        exact ⟨rfl, G8.out, 4, .inr rfl, rfl⟩
end clb
namespace clb
open Go.RowKit base tok dim rul cal
theorem ret_die {b : Nat} {w : World} {e : Ending} {w' : World} (h : ∃ x, IsErr x /\ e = .panicked (chainP x) /\ w.grownBy w' (some b)) : RetV b w none e w' := by
 obtain ⟨x, h1, h2, h3⟩ := h
 exact ⟨h3, x, h1, h2⟩
theorem val_zero : ValC 0 := by
 intro b inb L n g d w hL hgood hn hd h hE
 obtain rfl := List.eq_nil_of_length_eq_zero (Nat.le_zero.1 hL)
 obtain ⟨d, rfl⟩ : ∃ e, d = e + 1 := ⟨d - 1, by omega⟩
 rw [valF]
 exact (v_nil b n g inb w h).mono fun e w' h => ret_die h
theorem close_cases {d : Nat} {L : List Tk} {n : Nat} : (sumF d L n = none /\ (sumF d L n).bind closeF = none) ∨ (∃ t m g, sumF d L n = some (t, [], m, g) /\ (sumF d L n).bind closeF = none) ∨
  (∃ t c M m g, sumF d L n = some (t, c :: M, m, g) /\ c.raw ≠ [41] /\ (sumF d L n).bind closeF = none) ∨ ∃ t c M m g, sumF d L n = some (t, c :: M, m, g) /\ c.raw = [41] /\ (sumF d L n).bind closeF = some (t, M, m) := by
 cases h : sumF d L n with
 | none => exact .inl ⟨rfl, rfl⟩
 | some r =>
  obtain ⟨t, M, m, g⟩ := r
  cases M with
  | nil => exact .inr (.inl ⟨t, m, g, rfl, rfl⟩)
  | cons c M =>
   by_cases hc : c.raw = [41]
   ·exact .inr (.inr (.inr ⟨t, c, M, m, g, rfl, hc, by rw [Option.bind_some, closeF, if_pos hc]⟩))
   ·exact .inr (.inr (.inl ⟨t, c, M, m, g, rfl, hc, by rw [Option.bind_some, closeF, if_neg hc]⟩))
theorem val_step (N : Nat) (hS : SumC N) : ValC (N + 1) := by
 intro b inb L n g d w hL hgood hn hd h hE
 obtain ⟨d, rfl⟩ : ∃ e, d = e + 1 := ⟨d - 1, by omega⟩
 cases L with
 | nil =>
  rw [valF]
  exact (v_nil b n g inb w h).mono fun e w' h => ret_die h
 | cons c L =>
  have hc := hgood.2 c (List.mem_cons_self ..)
  have hgL := hgood.suf (List.suffix_cons c L)
  simp only [List.length_cons] at hL hd
  have cS := fun w h hE => hS b L n g d w (by omega) hgL hn (by omega) h hE
  have hclose : ∀ (o : Option (Te × List Tk × Nat)), (sumF d L n).bind closeF = o -> ∀ (cl : Bool), True := fun _ _ _ => trivial
  obtain ⟨tk, raw, val, num⟩ := c
  obtain ⟨hcut, hrl, hvl⟩ := hc
  simp only at hcut hrl hvl
  rw [valF]
  simp only
  by_cases h7 : tk = 7
  ·subst h7
   rw [if_pos rfl]
   by_cases hu : val ∈ unitsL
   ·rw [if_pos hu]
    unfold madeP
    by_cases h30 : n + 1 <= 30
    ·rw [if_pos h30]
     refine (value_num b raw val num L (n : Int) g inb (by omega) hcut hu (by omega) (by omega) w h hE).mono fun e w' ⟨he, hr, hg⟩ => ?_
     exact ⟨hg, _, g, he, by rw [TeAt], hr⟩
    ·rw [if_neg h30]
     exact (v_num_full b raw val num L (n : Int) g inb (by omega) hcut hu (by omega) w h hE).mono fun e w' h => ret_die h
   ·rw [if_neg hu]
    exact (v_num_bad b raw val num L (n : Int) g inb (by omega) hcut hu w h hE).mono fun e w' h => ret_die h
  ·rw [if_neg h7]
   by_cases ho : inb = true /\ raw = [40]
   ·rw [if_pos ho]
    obtain ⟨rfl, hr40⟩ := ho
    rcases close_cases (d := d) (L := L) (n := n) with ⟨h1, h2⟩ | ⟨t, m, g2, h1, h2⟩ | ⟨t, c, M, m, g2, h1, hc, h2⟩ | ⟨t, c, M, m, g2, h1, hc, h2⟩
    ·rw [h2]
     rw [h1] at cS
     exact (v_open_die b tk raw val num L n g h7 hr40 cS w h hE).mono fun e w' h => ret_die h
    ·rw [h2]
     rw [h1] at cS
     exact (v_open_end b tk raw val num L n g h7 hr40 [] t m g2 cS w h hE).mono fun e w' h => ret_die h
    ·rw [h2]
     rw [h1] at cS
     exact (v_open_bad b c hc tk raw val num L n g h7 hr40 M t m g2 cS w h hE).mono fun e w' h => ret_die h
    ·rw [h2]
     rw [h1] at cS
     exact (v_open_ok b c hc tk raw val num L n g h7 hr40 M t m g2 cS w h hE).mono fun e w' ⟨hg, v, he, ht, hr⟩ => ⟨hg, v, g2, he, ht, hr⟩
   ·rw [if_neg ho]
    have hio : inb = false ∨ ¬ raw = [40] := by
     cases inb with
     | false => exact .inl rfl
     | true => exact .inr fun e => ho ⟨rfl, e⟩
    by_cases h2k : tk = 2
    ·subst h2k
     rw [if_pos rfl]
     by_cases hca : val.map lowB = calcT
     ·rw [if_pos hca]
      rcases close_cases (d := d) (L := L) (n := n) with ⟨h1, h2⟩ | ⟨t, m, g2, h1, h2⟩ | ⟨t, c, M, m, g2, h1, hc, h2⟩ | ⟨t, c, M, m, g2, h1, hc, h2⟩
      ·rw [h2]
       rw [h1] at cS
       exact (v_calc_die b raw val num L n g inb hca hio hvl cS w h hE).mono fun e w' h => ret_die h
      ·rw [h2]
       rw [h1] at cS
       exact (v_calc_end b raw val num L n g inb hca hio hvl [] t m g2 cS w h hE).mono fun e w' h => ret_die h
      ·rw [h2]
       rw [h1] at cS
       exact (v_calc_bad b c hc raw val num L n g inb hca hio hvl M t m g2 cS w h hE).mono fun e w' h => ret_die h
      ·rw [h2]
       rw [h1] at cS
       exact (v_calc_ok b c hc raw val num L n g inb hca hio hvl M t m g2 cS w h hE).mono fun e w' ⟨hg, v, he, ht, hr⟩ => ⟨hg, v, g2, he, ht, hr⟩
     ·rw [if_neg hca]
      by_cases hk : kindI (val.map lowB) = 0
      ·rw [if_pos hk]
       exact (v_word b raw val num L n g inb hca hk hio hvl w h hE).mono fun e w' h => ret_die h
      ·rw [if_neg hk]
       exact v_list N hS b raw val num L n g inb d (by omega) hgL hn (by omega) hca hk hio hvl w h hE
    ·rw [if_neg h2k]
     exact (v_kind b tk raw val num L n g inb h7 h2k hio w h hE).mono fun e w' h => ret_die h
theorem all_ct : ∀ N, ValC N /\ SumC N
 | 0 => ⟨val_zero, sum_ct 0 (prod_ct 0 val_zero)⟩
 | N + 1 => by
  have hV := val_step N (all_ct N).2
  exact ⟨hV, sum_ct (N + 1) (prod_ct (N + 1) hV)⟩
end clb
end Go.Proofs.YtlfkkaofgcongaaGreatDoor
