/- Contracts and plain law, a bundle. -/
import Derived.Lib.Hide
import Derived.Test.YtaobpkffcolobaaGreatDoorBO
set_option linter.unusedVariables false
set_option maxRecDepth 100000
set_option maxHeartbeats 16000000
open Go.Lib (hid)
namespace Go.Proofs.YtaobpkffcolobaaGreatDoor
namespace sel
open Go.RowKit base tok rul quo
def Between (j : UInt8) (bt : Bs) : Prop := ∃ Bt : List Tk, (∀ X, HeadX X -> cutP (bt ++ X) = Bt ++ cutP X) /\ (∀ X, EndN (bt ++ X)) /\ (∃ u M, Bt = u :: M /\ EndTk u) /\
 ((∃ M : List Tk, joinP (tkG j) = true /\ ∀ (u : Tk) (R : List Tk), HeadT u -> gapP (Bt ++ u :: R) = tkG j :: (M ++ u :: R) /\ gapP (M ++ u :: R) = u :: R) ∨ (j = 32 /\ ∀ (u : Tk) (R : List Tk), HeadT u -> gapP (Bt ++ u :: R) = u :: R))
theorem told_join {a b : List Ts} (ha0 : a ≠ []) (hb0 : b ≠ []) (hA : ToldS 0 a) (hB : ToldS 0 b) {j : UInt8} {bt : Bs} (hb : Between j bt) : ∃ d0 : Nat, ∀ d, d0 <= d -> listF d false [] (cutP (ssTx a ++ (bt ++ ssTx b))) = some ([.mk [a, b] [j]], []) := by
 obtain ⟨Bt, hcut, hend, ⟨z, Z, rfl, hz⟩, hgo⟩ := hb
 obtain ⟨-, -, K, hK, cutA, d1, readA⟩ := hA
 obtain ⟨hB1, -, K2, hK2, cutB, d2, readB⟩ := hB
 obtain ⟨u, K', rfl, hu⟩ := hK ha0
 obtain ⟨v, L', rfl, hv⟩ := hK2 hb0
 refine ⟨max d1 d2 + 2, fun d hd => ?_⟩
 obtain ⟨d, rfl⟩ : ∃ e, d = e + 2 := ⟨d - 2, by omega⟩
 have hc : cutP (ssTx a ++ (bt ++ ssTx b)) = u :: K' ++ (z :: Z ++ v :: L') := by
  have h2 := cutB [] (.inl rfl)
  rw [List.append_nil, cutP_nil, List.append_nil] at h2
  rw [cutA _ (hend _), hcut _ (hB1 hb0), h2]
 have s1 := readA (d + 1) (by omega) [] (z :: Z ++ v :: L') (.inr ⟨z, _, rfl, hz⟩)
 rw [List.nil_append, if_neg ha0] at s1
 have s2 := readB d (by omega) [] [] (.inl rfl)
 rw [List.nil_append, if_neg hb0, List.append_nil] at s2
 have hp : pathF (d + 1) [a] [] (z :: Z ++ v :: L') = some (.mk [a, b] [j], []) := by
  have hend : ∀ d, pathF (d + 1) [a, b] [j] [] = some (.mk [a, b] [j], []) := fun d => by rw [pathF]; rfl
  obtain ⟨d, rfl⟩ : ∃ e, d = e + 1 := by
   cases d with
   | zero =>
    exfalso
    rw [stepF] at s2
    cases s2
   | succ d => exact ⟨d, rfl⟩
  rw [pathF]
  rcases hgo with ⟨M, hj, hg⟩ | ⟨rfl, hg⟩
  ·obtain ⟨g1, g2⟩ := hg v L' hv
   rw [g1]
   simp only
   rw [if_pos hj, g2, s2, Option.bind_some]
   exact hend d
  ·have g1 := hg v L' hv
   have hb : gapB (z :: Z ++ v :: L') = true := by
    unfold gapB
    rw [g1]
    simp
    omega
   rw [g1]
   simp only
   rw [if_neg (by rw [hv.2.2.2]; simp), if_pos (by rw [hb]; simp [hv.2.1, hv.2.2.1]), s2, Option.bind_some]
   exact hend d
 rw [hc, listF_go]
 have hg : gapP (u :: K' ++ (z :: Z ++ v :: L')) = u :: K' ++ (z :: Z ++ v :: L') := gap_not hu.1
 unfold pathP
 rw [hg, s1, Option.bind_some]
 show (pathF (d + 1) [a] [] (z :: Z ++ v :: L')).bind _ = _
 rw [hp, Option.bind_some]
 rfl
def nut : Bs := [47, 42, 42, 47]
theorem cut_nut (X : Bs) : cutP (nut ++ X) = ⟨9, nut, [], 0⟩ :: cutP X := by
 have hf : firstP (nut ++ X) = ⟨9, nut, [], 0⟩ := by
  have a1 : ¬ 0 < spaceP (nut ++ X) := by
   unfold spaceP nut
   rw [List.cons_append, List.takeWhile_cons_of_neg (by decide)]
   simp
  have a2 : Lib.hasPrefix (nut ++ X) [47, 42] = true := by simp [nut, Lib.hasPrefix, List.isPrefixOf]
  have hi : Lib.index ((nut ++ X).drop 2) [42, 47] = 0 := by
   show Lib.index (42 :: 47 :: X) [42, 47] = 0
   simp [Lib.index, List.isPrefixOf]
  rw [firstP, if_neg a1, if_pos a2]
  unfold noteP
  rw [hi, if_pos (by decide)]
  show (⟨9, (nut ++ X).take nut.length, [], 0⟩ : Tk) = _
  rw [List.take_left]
 rw [cutP_cons (by simp [nut]), hf]
 simp
abbrev tkNut : Tk := ⟨9, nut, [], 0⟩
theorem nut_head (X : Bs) : HeadX (nut ++ X) := ⟨47, _, rfl, by decide, by decide, fun e => absurd e (by decide)⟩
theorem plusX {X : Bs} (h : HeadX X) : cutP (43 :: X) = tkG 43 :: cutP X := by
 obtain ⟨c, r, rfl, -, h2, h3⟩ := h
 exact cut_plus h2 (fun e d q hr => by
  obtain ⟨d', q', e2, h4⟩ := h3 e
  rw [hr] at e2
  obtain ⟨rfl, rfl⟩ := List.cons.inj e2
  exact h4)
theorem gapsX (sp : Bs) (h0 : sp ≠ []) (h : ∀ x ∈ sp, blankB x = true) {X : Bs} (hX : HeadX X) : cutP (sp ++ X) = ⟨8, sp, [], 0⟩ :: cutP X := by
 obtain ⟨c, r, rfl, hb, -⟩ := hX
 exact tc.cut_gaps sp h0 h c hb r
theorem gap_u {u : Tk} {R : List Tk} (h : HeadT u) : gapP (u :: R) = u :: R := gap_not h.1
theorem btw0 : Between 62 [62] := ⟨[tkG 62], fun X _ => tc.cut_solo X (by decide), fun X => endN_cons (by decide), ⟨_, _, rfl, by decide⟩, .inl ⟨[], by decide, fun u R h => ⟨gap_not rfl, gap_u h⟩⟩⟩
theorem btw1 : Between 62 [32, 62, 32] := ⟨sepK 62, fun X h => cut_sep (j := 62) (by decide) h, fun X => endN_cons (by decide), ⟨_, _, rfl, by decide⟩, .inl ⟨[tkB], by decide, fun u R h => ⟨(gap_sil rfl).trans (gap_not rfl), (gap_sil rfl).trans (gap_u h)⟩⟩⟩
theorem btw2 : Between 62 [47, 42, 42, 47, 62, 10] := by
 refine ⟨[tkNut, tkG 62, ⟨8, [10], [], 0⟩], fun X h => ?_, fun X => endN_cons (by decide), ⟨_, _, rfl, by decide⟩, .inl ⟨[⟨8, [10], [], 0⟩], by decide, fun u R h => ⟨(gap_sil rfl).trans (gap_not rfl), (gap_sil rfl).trans (gap_u h)⟩⟩⟩
 show cutP (nut ++ (62 :: ([10] ++ X))) = _
 rw [cut_nut, tc.cut_solo _ (by decide), gapsX [10] (by decide) (by decide) h]
 rfl
theorem btw3 : Between 43 [43] := ⟨[tkG 43], fun X h => plusX h, fun X => endN_cons (by decide), ⟨_, _, rfl, by decide⟩, .inl ⟨[], by decide, fun u R h => ⟨gap_not rfl, gap_u h⟩⟩⟩
theorem btw4 : Between 43 [32, 43] := by
 refine ⟨[tkB, tkG 43], fun X h => ?_, fun X => endN_cons (by decide), ⟨_, _, rfl, by decide⟩, .inl ⟨[], by decide, fun u R h => ⟨(gap_sil rfl).trans (gap_not rfl), gap_u h⟩⟩⟩
 show cutP (32 :: 43 :: X) = _
 rw [headX_blank ⟨43, X, rfl, by decide, by decide, fun e => absurd e (by decide)⟩, plusX h]
 rfl
theorem btw5 : Between 43 [43, 32, 47, 42, 42, 47] := by
 refine ⟨[tkG 43, tkB, tkNut], fun X h => ?_, fun X => endN_cons (by decide), ⟨_, _, rfl, by decide⟩, .inl ⟨[tkB, tkNut], by decide, fun u R h => ⟨gap_not rfl, (gap_sil rfl).trans ((gap_sil rfl).trans (gap_u h))⟩⟩⟩
 show cutP (43 :: 32 :: (nut ++ X)) = _
 rw [cut_plus (by decide) (fun e => absurd e (by decide)), headX_blank (nut_head X), cut_nut]
 rfl
theorem btw6 : Between 126 [126] := ⟨[tkG 126], fun X _ => tc.cut_solo X (by decide), fun X => endN_cons (by decide), ⟨_, _, rfl, by decide⟩, .inl ⟨[], by decide, fun u R h => ⟨gap_not rfl, gap_u h⟩⟩⟩
theorem btw7 : Between 126 [32, 126, 32] := ⟨sepK 126, fun X h => cut_sep (j := 126) (by decide) h, fun X => endN_cons (by decide), ⟨_, _, rfl, by decide⟩, .inl ⟨[tkB], by decide, fun u R h => ⟨(gap_sil rfl).trans (gap_not rfl), (gap_sil rfl).trans (gap_u h)⟩⟩⟩
theorem btw8 : Between 32 [32] := ⟨[tkB], fun X h => headX_blank h, fun X => endN_cons (by decide), ⟨_, _, rfl, by decide⟩, .inr ⟨rfl, fun u R h => (gap_sil rfl).trans (gap_u h)⟩⟩
theorem btw9 : Between 32 [9, 10] := ⟨[⟨8, [9, 10], [], 0⟩], fun X h => gapsX [9, 10] (by decide) (by decide) h, fun X => endN_cons (by decide), ⟨_, _, rfl, by decide⟩, .inr ⟨rfl, fun u R h => (gap_sil rfl).trans (gap_u h)⟩⟩
theorem btwA : Between 32 [47, 42, 42, 47] := ⟨[tkNut], fun X _ => cut_nut X, fun X => endN_cons (by decide), ⟨_, _, rfl, by decide⟩, .inr ⟨rfl, fun u R h => (gap_sil rfl).trans (gap_u h)⟩⟩
def joinsT : Nat -> UInt8
 | 0 => 62
 | 1 => 43
 | 2 => 126
 | _ => 32
def betweenT : Nat -> Nat -> Bs
 | 0, 0 => [62]
 | 0, 1 => [32, 62, 32]
 | 0, _ => [47, 42, 42, 47, 62, 10]
 | 1, 0 => [43]
 | 1, 1 => [32, 43]
 | 1, _ => [43, 32, 47, 42, 42, 47]
 | 2, 0 => [126]
 | 2, 1 => [32, 126, 32]
 | 2, _ => [126]
 | _, 0 => [32]
 | _, 1 => [9, 10]
 | _, _ => [47, 42, 42, 47]
theorem between_all : ∀ r i : Nat, Between (joinsT r) (betweenT r i)
 | 0, 0 => btw0
 | 0, 1 => btw1
 | 0, _ + 2 => btw2
 | 1, 0 => btw3
 | 1, 1 => btw4
 | 1, _ + 2 => btw5
 | 2, 0 => btw6
 | 2, 1 => btw7
 | 2, _ + 2 => btw6
 | _ + 3, 0 => btw8
 | _ + 3, 1 => btw9
 | _ + 3, _ + 2 => btwA
theorem join_read {a b : List Ts} (ha0 : a ≠ []) (hb0 : b ≠ []) (ha : okS 0 a = true) (hb : okS 0 b = true) (r i : Nat) : ∃ d, 2404 <= d /\ readS d (ssTx a ++ (betweenT r i ++ ssTx b)) = (if 400 < (ssTx a ++ (betweenT r i ++ ssTx b)).length then none else if checkB [.mk [a, b] [joinsT r]] then some [.mk [a, b] [joinsT r]] else none) := by
 obtain ⟨d0, hd⟩ := told_join ha0 hb0 (told_S a 0 ha) (told_S b 0 hb) (between_all r i)
 refine ⟨max d0 2404, by omega, ?_⟩
 unfold readS
 rw [hd _ (by omega)]
end sel
namespace sel
open Go.RowKit base tok rul
abbrev own2 (V : World) (A : Option Addr) (m c : Nat) (B : Option Addr) (n d : Nat) (j : Int) : World := ((V.alloc (.cells #[.slice A m c, .slice B n d] 27)).alloc (.cells #[.int .u8 j] 5)).alloc (.cells #[.slice (some ⟨V.heap.size, 0, none⟩) 2 2, .slice (some ⟨V.heap.size + 1, 0, none⟩) 1 1] 36)
theorem own2_below (V : World) (A : Option Addr) (m c : Nat) (B : Option Addr) (n d : Nat) (j : Int) : Below V.heap.size V (own2 V A m c B n d j) := ((ba _ _).alloc (by simp) _).alloc (by simp; omega) _
def StV (w : World) (a : List Ts) (A : Option Addr) (c : Nat) : Prop := a.length <= c /\ (0 < a.length -> ∃ d o, A = some ⟨d, o, none⟩ /\ d < w.heap.size /\ SsAt (fun _ => True) w d o a)
theorem StV.on {w w' : World} {a : List Ts} {A : Option Addr} {c : Nat} (h : StV w a A c) (hb : Below w.heap.size w w') : StV w' a A c := by
 refine ⟨h.1, fun h0 => ?_⟩
 obtain ⟨d, o, e, hl, hs⟩ := h.2 h0
 exact ⟨d, o, e, Nat.lt_of_lt_of_le hl hb.size, SsAt.keep hb.size (fun c hc hl => ⟨hc, hb.block c hl⟩) d (hb.block d hl) a o hs⟩
theorem own_one {a : List Ts} {A : Option Addr} {ca : Nat} {V : World} (ha : StV V a A ca) : PasV (fun _ => True) ((V.alloc (.cells #[.slice A a.length ca] 27)).alloc (.cells #[.slice (some ⟨V.heap.size, 0, none⟩) 1 1, .slice none 0 0] 36)) [.mk [a] []] (some ⟨V.heap.size + 1, 0, none⟩) 1 := by
 have b1 : Blk ((V.alloc (.cells #[.slice A a.length ca] 27)).alloc (.cells #[.slice (some ⟨V.heap.size, 0, none⟩) 1 1, .slice none 0 0] 36)) V.heap.size 27 #[.slice A a.length ca] := Blk.alloc (Blk.new rfl) _
 have b2 : Blk ((V.alloc (.cells #[.slice A a.length ca] 27)).alloc (.cells #[.slice (some ⟨V.heap.size, 0, none⟩) 1 1, .slice none 0 0] 36)) (V.heap.size + 1) 36 #[.slice (some ⟨V.heap.size, 0, none⟩) 1 1, .slice none 0 0] := Blk.new (by simp)
 have ha2 := ha.on (w' := ((V.alloc (.cells #[.slice A a.length ca] 27)).alloc (.cells #[.slice (some ⟨V.heap.size, 0, none⟩) 1 1, .slice none 0 0] 36))) ((ba _ _).alloc (by simp) _)
 refine ⟨Nat.le_refl _, fun _ => ⟨V.heap.size + 1, 0, rfl, trivial, b2.lt, ?_⟩⟩
 rw [PasAt, PasAt]
 refine ⟨⟨_, _, b2.cell 0, b2.cell 1, ?_⟩, trivial⟩
 rw [PaAt]
 refine ⟨some ⟨V.heap.size, 0, none⟩, 1, .slice none 0 0, rfl, Nat.le_refl _, ⟨none, 0, rfl, Nat.le_refl _, fun h => absurd h (Nat.not_lt_zero _)⟩, fun _ => ⟨V.heap.size, 0, rfl, trivial, b1.lt, ?_⟩⟩
 rw [SssAt, SssAt]
 refine ⟨⟨A, ca, b1.cell 0, ha2.1, fun h0 => ?_⟩, trivial⟩
 obtain ⟨d, o, e, hl, hs⟩ := ha2.2 h0
 exact ⟨d, o, e, trivial, hl, hs⟩
theorem own_two {a b : List Ts} {A B : Option Addr} {ca cb : Nat} {j : UInt8} {V : World} (ha : StV V a A ca) (hb : StV V b B cb) : PasV (fun _ => True) (((V.alloc (.cells #[.slice A a.length ca, .slice B b.length cb] 27)).alloc (.cells #[.int .u8 (nv j)] 5)).alloc (.cells #[.slice (some ⟨V.heap.size, 0, none⟩) 2 2, .slice (some ⟨V.heap.size + 1, 0, none⟩) 1 1] 36)) [.mk [a, b] [j]] (some ⟨V.heap.size + 2, 0, none⟩) 1 := by
 have b1 : Blk (((V.alloc (.cells #[.slice A a.length ca, .slice B b.length cb] 27)).alloc (.cells #[.int .u8 (nv j)] 5)).alloc (.cells #[.slice (some ⟨V.heap.size, 0, none⟩) 2 2, .slice (some ⟨V.heap.size + 1, 0, none⟩) 1 1] 36)) V.heap.size 27 #[.slice A a.length ca, .slice B b.length cb] := Blk.alloc (Blk.alloc (Blk.new rfl) _) _
 have b2 : Blk (((V.alloc (.cells #[.slice A a.length ca, .slice B b.length cb] 27)).alloc (.cells #[.int .u8 (nv j)] 5)).alloc (.cells #[.slice (some ⟨V.heap.size, 0, none⟩) 2 2, .slice (some ⟨V.heap.size + 1, 0, none⟩) 1 1] 36)) (V.heap.size + 1) 5 #[.int .u8 (nv j)] := Blk.alloc (Blk.new (by simp)) _
 have b3 : Blk (((V.alloc (.cells #[.slice A a.length ca, .slice B b.length cb] 27)).alloc (.cells #[.int .u8 (nv j)] 5)).alloc (.cells #[.slice (some ⟨V.heap.size, 0, none⟩) 2 2, .slice (some ⟨V.heap.size + 1, 0, none⟩) 1 1] 36)) (V.heap.size + 2) 36 #[.slice (some ⟨V.heap.size, 0, none⟩) 2 2, .slice (some ⟨V.heap.size + 1, 0, none⟩) 1 1] := Blk.new (by simp)
 have hB : Below V.heap.size V (((V.alloc (.cells #[.slice A a.length ca, .slice B b.length cb] 27)).alloc (.cells #[.int .u8 (nv j)] 5)).alloc (.cells #[.slice (some ⟨V.heap.size, 0, none⟩) 2 2, .slice (some ⟨V.heap.size + 1, 0, none⟩) 1 1] 36)) := ((ba _ _).alloc (by simp) _).alloc (by simp; omega) _
 have ha2 := ha.on hB
 have hb2 := hb.on hB
 refine ⟨Nat.le_refl _, fun _ => ⟨V.heap.size + 2, 0, rfl, trivial, b3.lt, ?_⟩⟩
 rw [PasAt, PasAt]
 refine ⟨⟨_, _, b3.cell 0, b3.cell 1, ?_⟩, trivial⟩
 rw [PaAt]
 refine ⟨some ⟨V.heap.size, 0, none⟩, 2, .slice (some ⟨V.heap.size + 1, 0, none⟩) 1 1, rfl, Nat.le_refl _, ⟨some ⟨V.heap.size + 1, 0, none⟩, 1, rfl, Nat.le_refl _, fun _ => ⟨V.heap.size + 1, 0, rfl, trivial, b2.lt, fun i x hi => ?_⟩⟩, fun _ => ⟨V.heap.size, 0, rfl, trivial, b1.lt, ?_⟩⟩
 ·cases i with
  | zero =>
   obtain rfl := Option.some.inj hi
   exact b2.cell 0
  | succ i => cases hi
 rw [SssAt, SssAt, SssAt]
 refine ⟨⟨A, ca, b1.cell 0, ha2.1, fun h0 => ?_⟩, ⟨B, cb, b1.cell 1, hb2.1, fun h0 => ?_⟩, trivial⟩
 ·obtain ⟨d, o, e, hl, hs⟩ := ha2.2 h0
  exact ⟨d, o, e, trivial, hl, hs⟩
 ·obtain ⟨d, o, e, hl, hs⟩ := hb2.2 h0
  exact ⟨d, o, e, trivial, hl, hs⟩
theorem same_len_no2 (A A' : Option Addr) (n m cap cap' : Nat) (h : n ≠ m) (w : World) :
  Calls Tryz.prog 10 #[.slice A n cap, .slice A' m cap'] w (rt w (.bool false)) := by
 have h1 : ((n : Int) == (m : Int)) = false := bq (by omega)
 have h2 : ((n : Int) != (m : Int)) = true := by rw [bne, h1]; rfl
 go_enter Tryz.func10, Tryz.ntmps10
 go_wp2_with fail
 go_ret
 exact ⟨rfl, Below.refl _ _⟩
def JoinC (s : Bs) (p : Pa) : Prop :=
 (∀ w, SEnv w -> Calls Tryz.prog 9 #[.string (bs s)] w fun e w' => (∃ A cap, e = .returned (.tuple #[.slice A 1 cap, .int .i64 0]) /\ PasV (fun c => w.heap.size <= c) w' [p] A cap) /\ Below w.heap.size w w') /\ SmL [p] /\ cntL [p] <= 40 ∨
 (∀ w, SEnv w -> Calls Tryz.prog 9 #[.string (bs s)] w (rt w (.tuple #[.slice none 0 0, .int .i64 2]))) ∨
 (∀ w, SEnv w -> Calls Tryz.prog 9 #[.string (bs s)] w (rt w (.tuple #[.slice none 0 0, .int .i64 4]))) /\ errC [p] ≠ 0
theorem join_c {a b : List Ts} (ha0 : a ≠ []) (hb0 : b ≠ []) (ha : okS 0 a = true) (hb : okS 0 b = true) (r i : Nat) : JoinC (ssTx a ++ (betweenT r i ++ ssTx b)) (.mk [a, b] [joinsT r]) := by
 obtain ⟨d, hd, hr⟩ := join_read ha0 hb0 ha hb r i
 have hR := sread_any (ssTx a ++ (betweenT r i ++ ssTx b)) d hd
 unfold JoinC
 by_cases h4 : 400 < (ssTx a ++ (betweenT r i ++ ssTx b)).length
 ·rw [if_pos h4] at hr
  rw [hr] at hR
  unfold SReadC badN at hR
  rw [if_pos h4] at hR
  exact .inr (.inl hR)
 ·rw [if_neg h4] at hr
  by_cases hc : checkB [.mk [a, b] [joinsT r]] = true
  ·rw [if_pos hc] at hr
   obtain ⟨-, h1, -, h2⟩ := read_small hr
   rw [hr] at hR
   unfold SReadC at hR
   exact .inl ⟨hR, h1, h2⟩
  ·rw [if_neg hc] at hr
   rw [hr] at hR
   unfold SReadC badN at hR
   rw [if_neg h4] at hR
   exact .inr (.inr ⟨hR, fun h => hc (errC_ok.1 h)⟩)
end sel
namespace sel
open Go.RowKit base tok dim rul
theorem joins_no (a b : List Ts) (A B : Option Addr) (ca cb : Nat) (n : Int) (x y : Int) (sa sb : Bs) (hTa : ∀ A cap X w, MaxL w -> PowAt w -> PasV X w [.mk [a] []] A cap -> Calls Tryz.prog 12 #[.slice A 1 cap] w (rt w (.tuple #[.string (bs sa), .int .i64 x]))) (hTb : ∀ A cap X w, MaxL w -> PowAt w -> PasV X w [.mk [b] []] A cap -> Calls Tryz.prog 12 #[.slice A 1 cap] w (rt w (.tuple #[.string (bs sb), .int .i64 y]))) (hxy : x ≠ 0 ∨ (x = 0 /\ y ≠ 0)) (w : World) (hE : SEnv w) (hT : PowAt w) (ha : StV w a A ca) (hb : StV w b B cb) :
  Calls Tryz.prog 6 #[.slice A a.length ca, .slice B b.length cb, .int .i64 n] w (rt w (.bool true)) := by
 have cL := hid (fun w hE => listed_ct w hE)
 have HE := hid hE
 have HT := hid hT
 have HA := hid ha
 have HB := hid hb
 have cTa := hid hTa
 have cTb := hid hTb
 have hc : ((x == 0) = false /\ (x != 0) = true) ∨ ((x == 0) = true /\ (x != 0) = false /\ (y == 0) = false /\ (y != 0) = true) := by
  rcases hxy with h | ⟨h, h2⟩
  ·exact .inl ⟨by simpa using h, by simpa using h⟩
  ·exact .inr ⟨by simpa using h, by simpa using h, by simpa using h2, by simpa using h2⟩
 clear hTa hTb hxy hE hT ha hb
 rcases hc with ⟨f0, f1⟩ | ⟨f0, f1, f2, f3⟩
 all_goals
  go_enter Tryz.func6, Tryz.ntmps6
  go_wp2_with (first
   | (go_at_call 8; (with_reducible refine (cL.out _ HE.out).mono ?_); rintro e W1 ⟨rfl, hb1⟩; have HB1 := hid hb1; have PA := own_one (HA.out.on hb1); have PB := own_one (V := ((W1.alloc (.cells #[.slice A a.length ca] 27)).alloc (.cells #[.slice (some ⟨W1.heap.size, 0, none⟩) 1 1, .slice none 0 0] 36))) ((HB.out.on hb1).on ((ba _ _).alloc (by simp) _)); have BQ := hid (show Below w.heap.size w ((((W1.alloc (.cells #[.slice A a.length ca] 27)).alloc (.cells #[.slice (some ⟨W1.heap.size, 0, none⟩) 1 1, .slice none 0 0] 36)).alloc (.cells #[.slice B b.length cb] 27)).alloc (.cells #[.slice (some ⟨W1.heap.size + 2, 0, none⟩) 1 1, .slice none 0 0] 36)) from (((hb1.alloc hb1.size _).alloc (by have := hb1.size; simp; omega) _).alloc (by have := hb1.size; simp; omega) _).alloc (by have := hb1.size; simp; omega) _); have PA2 := hid (PasV.on PA (w' := ((((W1.alloc (.cells #[.slice A a.length ca] 27)).alloc (.cells #[.slice (some ⟨W1.heap.size, 0, none⟩) 1 1, .slice none 0 0] 36)).alloc (.cells #[.slice B b.length cb] 27)).alloc (.cells #[.slice (some ⟨W1.heap.size + 2, 0, none⟩) 1 1, .slice none 0 0] 36))) ((ba _ _).alloc (by simp) _)); simp only [World.size_alloc] at PB; have PB2 := hid PB; clear hb1 PA PB)
   | (go_at_call 12; (with_reducible refine (cTa.out _ _ _ _ (HE.out.on BQ.out).max (HT.out.on BQ.out) PA2.out).mono ?_); rintro e W2 ⟨rfl, hb2⟩; have HB2 := hid (tb BQ hb2); have PB3 := hid (PB2.out.on hb2); replace cTa := hid trivial; clear hb2)
   | (go_at_call 12; (with_reducible refine (cTb.out _ _ _ _ (HE.out.on HB2.out).max (HT.out.on HB2.out) PB3.out).mono ?_); rintro e W3 ⟨rfl, hb3⟩; have HB3 := hid (tb HB2 hb3); clear hb3))
  go_ret
  exact ⟨rfl, HB3.out⟩
end sel
end Go.Proofs.YtaobpkffcolobaaGreatDoor
