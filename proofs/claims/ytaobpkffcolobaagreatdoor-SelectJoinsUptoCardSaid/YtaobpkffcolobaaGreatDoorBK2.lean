/- Contracts and plain law, a bundle. -/
import Derived.Laws.CopyRow
import Derived.BigQuiet
import Derived.Lib.Hide
import Derived.Test.YtaobpkffcolobaaGreatDoorBK1
import Derived.Test.YtaobpkffcolobaaGreatDoorBE3
set_option linter.unusedVariables false
set_option maxRecDepth 100000
set_option maxHeartbeats 16000000
open Go.Lib (hid)
namespace Go.Proofs.YtaobpkffcolobaaGreatDoor
namespace quo
open Go.RowKit base tok rul sel
def qB (c : UInt8) : Bool := c == 10 || c == 34 || c == 92
def qC (c : UInt8) : Bs := if qB c = true then [92, c] else [c]
def quoteP (s : Bs) : Bs := s.flatMap qC
def spN (s : Bs) : Nat := (s.filter qB).length
theorem quote_cons (c : UInt8) (s : Bs) : quoteP (c :: s) = qC c ++ quoteP s := rfl
theorem quote_len : ∀ s : Bs, (quoteP s).length = s.length + spN s
 | [] => rfl
 | c :: s => by
  rw [quote_cons, List.length_append, quote_len s, List.length_cons]
  unfold spN qC
  by_cases h : qB c = true
  ·rw [if_pos h, List.filter_cons_of_pos h]; simp; omega
  ·rw [if_neg h, List.filter_cons_of_neg h]; simp; omega
theorem quote_none : ∀ s : Bs, spN s = 0 -> quoteP s = s
 | [], _ => rfl
 | c :: s, h => by
  unfold spN at h
  by_cases hq : qB c = true
  ·rw [List.filter_cons_of_pos hq] at h; cases h
  ·rw [List.filter_cons_of_neg hq] at h
   rw [quote_cons, quote_none s h, qC, if_neg hq]; rfl
theorem quote_step {s : Bs} {k : Nat} {c : UInt8} (h : s[k]? = some c) : quoteP (s.take (k + 1)) = quoteP (s.take k) ++ qC c := by
 obtain ⟨h1, h2⟩ := List.getElem?_eq_some_iff.1 h
 rw [List.take_succ_eq_append_getElem h1, h2, quoteP, List.flatMap_append]
 simp [quoteP]
theorem sp_step {s : Bs} {k : Nat} {c : UInt8} (h : s[k]? = some c) : spN (s.take (k + 1)) = spN (s.take k) + (if qB c = true then 1 else 0) := by
 obtain ⟨h1, h2⟩ := List.getElem?_eq_some_iff.1 h
 unfold spN
 rw [List.take_succ_eq_append_getElem h1, h2, List.filter_append, List.length_append]
 by_cases hq : qB c = true
 ·rw [if_pos hq, List.filter_cons_of_pos hq]; rfl
 ·rw [if_neg hq, List.filter_cons_of_neg hq]; rfl
theorem quote_le (s : Bs) (k : Nat) : (quoteP (s.take k)).length <= (quoteP s).length := by
 have h : quoteP s = quoteP (s.take k) ++ quoteP (s.drop k) := by
  rw [quoteP, quoteP, quoteP, <- List.flatMap_append, List.take_append_drop]
 rw [h, List.length_append]
 omega
theorem sp_le (s : Bs) : spN s <= s.length := List.length_filter_le _ _
theorem idx_bs {s : Bs} {k : Nat} {c : UInt8} (h : s[k]? = some c) (hk : k < (bs s).size) : ((((bs s)[k]'hk).toNat : Nat) : Int) = nv c := by
 obtain ⟨h1, h2⟩ := List.getElem?_eq_some_iff.1 h
 unfold nv
 congr 1
 rw [<- h2]
 rfl
theorem row_blk {w : World} {base : Nat} {e : TypeId} {g n : Nat} {xs : List Value} (h : w.ownsRow base e 1 (.slice (some ⟨g, 0, none⟩) n n) n xs) : ∃ cur, Blk w g e cur /\ cur.size = n := by
 rcases h.2 with ⟨h1, _⟩ | ⟨g', cap, cur, hv, _, hg, _, _, hs, _⟩
 ·cases h1
 ·injection hv with h1 h2 h3
  cases h1
  exact ⟨cur, hg, by rw [hs, <- h3, Nat.mul_one]⟩
theorem pre_one {s : Bs} {k J N x : Nat} {c : UInt8} {cur : Array Value} (hJ : (quoteP (s.take k)).length = J) (hcs : cur.size = N) (hJN : J < N) (hpre : ∀ (m : Nat) (y : UInt8), (quoteP (s.take k))[m]? = some y -> cur[m]? = some (.int .u8 (nv y))) (hx : nv c = (x : Int)) (m : Nat) (y : UInt8) (hm : (quoteP (s.take k) ++ [c])[m]? = some y) :
  (cur.setIfInBounds J (.int .u8 (x : Int)))[m]? = some (.int .u8 (nv y)) := by
 by_cases h : m < J
 ·rw [List.getElem?_append_left (by omega)] at hm
  rw [Array.getElem?_setIfInBounds_ne (by omega)]
  exact hpre m y hm
 ·rw [List.getElem?_append_right (by omega)] at hm
  have h2 : m = J := by
   have := (List.getElem?_eq_some_iff.1 hm).1
   simp at this
   omega
  subst h2
  rw [hJ, Nat.sub_self] at hm
  obtain rfl : c = y := by simpa using hm
  rw [Array.getElem?_setIfInBounds_self_of_lt (by omega), hx]
theorem pre_two {s : Bs} {k J N x : Nat} {c : UInt8} {cur : Array Value} (hJ : (quoteP (s.take k)).length = J) (hcs : cur.size = N) (hJN : J + 2 <= N) (hpre : ∀ (m : Nat) (y : UInt8), (quoteP (s.take k))[m]? = some y -> cur[m]? = some (.int .u8 (nv y))) (hx : nv c = (x : Int)) (m : Nat) (y : UInt8) (hm : (quoteP (s.take k) ++ [92, c])[m]? = some y) :
  (cur.toList.take J ++ [Value.int .u8 92, Value.int .u8 (x : Int)] ++ cur.toList.drop (J + 2)).toArray[m]? = some (.int .u8 (nv y)) := by
 have hl : (cur.toList.take J).length = J := by rw [List.length_take, Array.length_toList]; omega
 rw [List.getElem?_toArray]
 by_cases h : m < J
 ·rw [List.getElem?_append_left (by omega)] at hm
  rw [List.getElem?_append_left (by rw [List.length_append, hl]; omega), List.getElem?_append_left (by omega), List.getElem?_take_of_lt h]
  have := hpre m y hm
  simpa using this
 ·rw [List.getElem?_append_right (by omega), hJ] at hm
  have h2 := (List.getElem?_eq_some_iff.1 hm).1
  simp only [List.length_cons, List.length_nil] at h2
  rw [List.getElem?_append_left (by rw [List.length_append, hl]; simp; omega), List.getElem?_append_right (by omega), hl]
  obtain ⟨q, rfl⟩ : ∃ q, m = J + q := ⟨m - J, by omega⟩
  rw [Nat.add_sub_cancel_left] at hm h2 ⊢
  match q, h2, hm with
  | 0, _, hm => obtain rfl := Option.some.inj hm; rfl
  | 1, _, hm => obtain rfl := Option.some.inj hm; rw [hx]; rfl
def LookAt (w : World) (R : Nat) : Prop := ∀ c : UInt8,
 (qB c = true -> ∃ g cp, w.cell? ⟨R, c.toNat, none⟩ = some (.slice (some ⟨g, 0, none⟩) 2 cp) /\ g < w.heap.size /\ ∀ (i : Nat) (x : UInt8), ([92, c] : Bs)[i]? = some x -> w.cell? ⟨g, i, none⟩ = some (.int .u8 (nv x))) /\
 (qB c = false -> w.cell? ⟨R, c.toNat, none⟩ = some (.slice none 0 0))
def LookL (lo : Nat) (w : World) (R : Nat) : Prop := ∀ c : UInt8,
 (qB c = true -> ∃ g cp, w.cell? ⟨R, c.toNat, none⟩ = some (.slice (some ⟨g, 0, none⟩) 2 cp) /\ lo <= g /\ g < w.heap.size /\ ∀ (i : Nat) (x : UInt8), ([92, c] : Bs)[i]? = some x -> w.cell? ⟨g, i, none⟩ = some (.int .u8 (nv x))) /\
 (qB c = false -> w.cell? ⟨R, c.toNat, none⟩ = some (.slice none 0 0))
theorem LookL.at_ {lo : Nat} {w : World} {R : Nat} (h : LookL lo w R) : LookAt w R := fun c => ⟨fun hq => by
 obtain ⟨g, cp, h1, _, h3⟩ := (h c).1 hq
 exact ⟨g, cp, h1, h3⟩, (h c).2⟩
theorem look_of {w w' : World} {R : Nat} {X : List Value} (h : RSt w R D3 X w') : LookL w.heap.size w' R := by
 obtain ⟨cs, tv, hbl, hcs, htv, hrow, htR, hrep, _⟩ := h
 intro c
 have hr := hrep c.toNat c.toNat_lt
 refine ⟨fun hq => ?_, fun hq => ?_⟩
 ·have h1 : c = 10 ∨ c = 34 ∨ c = 92 := by simpa [qB, or_assoc] using hq
  rcases hr with ⟨n, g, cp, hm, hc, hX, hg, hx⟩ | ⟨hno, _⟩
  ·have hn : n = [92, c] := by
    simp only [D3, List.mem_cons, List.not_mem_nil, or_false, Prod.mk.injEq] at hm
    rcases h1 with rfl | rfl | rfl <;> rcases hm with ⟨e, h⟩ | ⟨e, h⟩ | ⟨e, h⟩ <;> first | exact h | (exact absurd e (by decide))
   subst hn
   exact ⟨g, cp, (hbl.cell _).trans hc, hX.1, hg, hx⟩
  ·exfalso
   rcases h1 with rfl | rfl | rfl
   ·exact hno [92, 10] (by decide)
   ·exact hno [92, 34] (by decide)
   ·exact hno [92, 92] (by decide)
 ·refine (hbl.cell _).trans (hr.none (fun n hm => ?_))
  simp only [D3, List.mem_cons, List.not_mem_nil, or_false, Prod.mk.injEq] at hm
  have h2 : ¬ (c = 10 ∨ c = 34 ∨ c = 92) := by
   intro h
   rcases h with rfl | rfl | rfl <;> cases hq
  rcases hm with ⟨e, _⟩ | ⟨e, _⟩ | ⟨e, _⟩
  ·exact h2 (.inl (UInt8.toNat_inj.1 e))
  ·exact h2 (.inr (.inl (UInt8.toNat_inj.1 e)))
  ·exact h2 (.inr (.inr (UInt8.toNat_inj.1 e)))
theorem repl_short (R tg tc : Nat) (w : World) (hLK : LookAt w R) (hRl : R < w.heap.size) (ht : w.cell? ⟨R, 256, none⟩ = some (.slice (some ⟨tg, 0, none⟩) 3 tc)) (s : Bs) (hs : s.length < 24) :
  Calls Tryz.prog 196 #[(pn R), .string (bs s)] w (rt w (.string (bs (quoteP s)))) := by
 obtain ⟨iB, hi, hz0, hz1, hz2⟩ := info_parts infoBy
 have HbB0 := hid hz0
 have HiB := hid hi
 have HbB1 := hid hz1
 have HbB2 := hid hz2
 clear hz0 hi hz1 hz2
 have hsz : (bs s).size = s.length := rfl
 have hle8 : decide ((24 : Int) <= (s.length : Int)) = false := df (by omega)
 have HLK := hid hLK
 obtain ⟨N, hN⟩ : ∃ N, s.length + spN s = N := ⟨_, rfl⟩
 have hNq : (quoteP s).length = N := by rw [quote_len, hN]
 have hN2 : N <= 48 := by have := sp_le s; omega
 clear hLK
 go_enter Tryz.func196, Tryz.ntmps196
 go_wp2_with fail
 go_loopw [5, 6, 10] (fun n a i wr => ∃ k : Nat, k <= s.length /\ i = .int .i64 k /\ n = .int .i64 ((s.length + spN (s.take k) : Nat) : Int) /\ a = .bool (decide (0 < spN (s.take k))) /\ wr = w) (fun _ _ i _ => s.length - (intOf i).toNat)
 case atStart => exact ⟨0, Nat.zero_le _, rfl, by rw [List.take_zero]; rfl, by rw [List.take_zero]; rfl, rfl⟩
 case round =>
  obtain ⟨k, hk, rfl, rfl, rfl, hwr⟩ := hrel
  obtain rfl := hwr.symm
  by_cases hlt : k < s.length
  ·have hlt' : (k : Int) < (s.length : Int) := by omega
   obtain ⟨c, hc⟩ : ∃ c, s[k]? = some c := ⟨_, List.getElem?_eq_getElem hlt⟩
   obtain ⟨x, hx, hx256⟩ : ∃ x : Nat, nv c = (x : Int) /\ x = c.toNat := ⟨c.toNat, rfl, rfl⟩
   have hxl : x < 256 := by rw [hx256]; exact c.toNat_lt
   have hidx : ∀ h, ((((bs s)[k]'h).toNat : Nat) : Int) = (x : Int) := fun h => by rw [<- hx]; exact idx_bs hc h
   have hlook := HLK.out c
   rw [<- hx256] at hlook
   have hstep := sp_step hc
   have hspl : spN (s.take k) <= k := by have := sp_le (s.take k); rw [List.length_take] at this; omega
   obtain ⟨P, hP⟩ : ∃ P, spN (s.take k) = P := ⟨_, rfl⟩
   rw [hP] at hstep hspl ⊢
   clear hP hc hx hx256
   by_cases hq : qB c = true
   ·obtain ⟨g, cp, hcell, hgl, hgc⟩ := hlook.1 hq
    have hne : ∀ W : World, (binOp .neq 34 (.slice (some ⟨g, 0, none⟩) 2 cp) (.slice none 0 0)).run Tryz.prog W = .ok (.bool true) W := fun W => rfl
    rw [if_pos hq] at hstep
    have HST := hid hstep
    clear hlook hstep hgc
    go_wp2_with fail
    go_roundw
    case rel => exact ⟨k + 1, by omega, by go_num, by rw [HST.out]; simp; omega, by rw [HST.out]; simp, by trivial⟩
    case measure => simp [intOf]; omega
   ·have hq0 : qB c = false := by simpa using hq
    have hcell := hlook.2 hq0
    have hne : ∀ W : World, (binOp .neq 34 (.slice none 0 0) (.slice none 0 0)).run Tryz.prog W = .ok (.bool false) W := fun W => rfl
    rw [if_neg hq] at hstep
    have HST := hid hstep
    clear hlook hstep
    go_wp2_with fail
    go_roundw
    case rel => exact ⟨k + 1, by omega, by go_num, by rw [HST.out]; simp, by rw [HST.out]; simp, by trivial⟩
    case measure => simp [intOf]; omega
  ·obtain rfl : k = s.length := by omega
   rw [List.take_length, hN]
   have HBW := hid (Below.refl w.heap.size w)
   by_cases hz : spN s = 0
   ·have hd0 : decide (0 < spN s) = false := df (by omega)
    have hq := hid (quote_none s hz)
    clear hz
    go_wp2_with fail
    go_ret
    exact ⟨congrArg (fun z => Ending.returned (.string (bs z))) hq.out.symm, HBW.out⟩
   ·have hd0 : decide (0 < spN s) = true := dt (by omega)
    clear hz
    go_wp2_with (at_make; refine wpList_make_full _ rfl _ _ 34 rfl w.heap.size 5 iB (.int .u8 0) 1 Tryz.underlying34 HiB.out HbB0.out HbB1.out .i64 .i64 _ _ N rfl rfl (by omega) (by omega) (by rw [HbB2.out]; omega) (by unfold maxLen; omega) (Nat.le_refl _) ?_; intro w5 hrow5 hgrow5; obtain ⟨cur, hbl5, hcs5⟩ := row_blk hrow5; have HB5 := hid (HBW.out.trans ((show Below w.heap.size w w5 from ⟨hgrow5.os, hgrow5.tape, hgrow5.output, hgrow5.size, fun k hk => hgrow5.block k hk (by simp)⟩).mono HBW.out.size)); have HL5 := hid hbl5; have HC5 := hid hcs5; have hBz := HBW.out.size; clear hrow5 hgrow5 hbl5 hcs5)
    go_loopw [13, 14] (fun j i wr => ∃ (k : Nat) (cur : Array Value), k <= s.length /\ i = .int .i64 k /\ j = .int .i64 ((quoteP (s.take k)).length : Int) /\ Blk wr w.heap.size 5 cur /\ cur.size = N /\ (∀ (m : Nat) (x : UInt8), (quoteP (s.take k))[m]? = some x -> cur[m]? = some (.int .u8 (nv x))) /\ Below w.heap.size w wr) (fun _ i _ => s.length - (intOf i).toNat)
    case atStart => exact ⟨0, cur, Nat.zero_le _, rfl, by rw [List.take_zero]; rfl, HL5.out, HC5.out, (fun m x h => by rw [List.take_zero] at h; cases h), HB5.out⟩
    case round =>
     obtain ⟨k, cur, hk, rfl, rfl, hbl, hcs, hpre, hb⟩ := hrel
     by_cases hlt : k < s.length
     ·have hlt' : (k : Int) < (s.length : Int) := by omega
      obtain ⟨c, hc⟩ : ∃ c, s[k]? = some c := ⟨_, List.getElem?_eq_getElem hlt⟩
      obtain ⟨x, hx, hx256⟩ : ∃ x : Nat, nv c = (x : Int) /\ x = c.toNat := ⟨c.toNat, rfl, rfl⟩
      have hxl : x < 256 := by rw [hx256]; exact c.toNat_lt
      have hidx : ∀ h, ((((bs s)[k]'h).toNat : Nat) : Int) = (x : Int) := fun h => by rw [<- hx]; exact idx_bs hc h
      have hlook := HLK.out c
      rw [<- hx256] at hlook
      have hstep := quote_step hc
      have hqk := quote_le s (k + 1)
      by_cases hq : qB c = true
      ·obtain ⟨g, cp, hcell, hgl, hgc⟩ := hlook.1 hq
       have hcell2 := (hb.cell (p := ⟨R, x, none⟩) hRl).trans hcell
       have e2 : (quoteP (s.take (k + 1))).length = (quoteP (s.take k)).length + 2 := by rw [hstep, List.length_append, qC, if_pos hq]; rfl
       obtain ⟨J, hJ⟩ : ∃ J, (quoteP (s.take k)).length = J := ⟨_, rfl⟩
       have hne : ∀ W : World, (binOp .neq 34 (.slice (some ⟨g, 0, none⟩) 2 cp) (.slice none 0 0)).run Tryz.prog W = .ok (.bool true) W := fun W => rfl
       have hJ2 : J + 2 <= N := by omega
       have hsl : ∀ W : World, (Instr.slice 34 (.slice (some ⟨w.heap.size, 0, none⟩) N N) (some (.int .i64 (J : Int))) none none).run Tryz.prog W = .ok (.slice (some ⟨w.heap.size, J, none⟩) (N - J) (N - J)) W := fun W => by
        rw [slice_from (P := Tryz.prog) (k := 1) Tryz.underlying34 Tryz.sizeOf5 (some ⟨w.heap.size, 0, none⟩) N N (J : Int) (by omega) (by omega) W]
        rw [Int.toNat_natCast]
        unfold addrAt
        rw [if_neg (by omega), Option.map_some, Nat.mul_one]
        rw [add_zero_block]
       have hcp : ∀ ty, (Builtin.copy_ #[34, 34] ty #[.slice (some ⟨w.heap.size, J, none⟩) (N - J) (N - J), .slice (some ⟨g, 0, none⟩) 2 cp]).run Tryz.prog wr.drew = .ok (goInt 2) (wr.drew.setRow w.heap.size (cur.toList.take J ++ [Value.int .u8 92, Value.int .u8 (x : Int)] ++ cur.toList.drop (J + 2)).toArray) := fun ty =>
        run_copy_row (P := Tryz.prog) wr.drew 34 34 ty 5 w.heap.size J (N - J) (N - J) ⟨g, 0, none⟩ 2 cp cur 5 [.int .u8 92, .int .u8 (x : Int)] Tryz.underlying34 (by kernel_rfl) hbl (show 2 = Nat.min 2 (N - J) from (Nat.min_eq_left (by omega)).symm) (fun j v hv => by
         rw [add_zero_block]
         have := (hb.cell (p := ⟨g, j, none⟩) hgl)
         match j, hv with
         | 0, hv => cases hv; exact this.trans (hgc 0 92 rfl)
         | 1, hv => cases hv; rw [<- hx]; exact this.trans (hgc 1 c rfl)) (by simp; omega) (by simp [Value.oneCell'])
       have HBL := hid hbl
       have HCS := hid hcs
       have HPRE := hid hpre
       have HB := hid hb
       have HST := hid hstep
       have HE2 := hid e2
       have HJ := hid hJ
       have HX := hid hx
       have HQ := hid hq
       rw [hJ]
       clear hbl hcs hpre hb hstep e2 hJ hlook hcell hgc hc hx hx256 hq hqk
       go_wp2_with fail
       go_region
       all_goals
        go_wp2_with fail
        go_roundw
        case rel =>
         refine ⟨k + 1, _, by omega, by go_num, ?_, setRow_heap wr.drew w.heap.size cur _ 5 (0, 0) HBL.out, ?_, ?_, ?_⟩
         ·rw [HE2.out, HJ.out]; simp
         ·simp; have := HCS.out; omega
         ·intro m y hm
          rw [HST.out, qC, if_pos HQ.out] at hm
          have h9 := pre_two HJ.out HCS.out (by omega) HPRE.out HX.out m y hm
          rw [List.append_assoc] at h9
          exact h9
         ·exact HB.out.trans ⟨rfl, rfl, rfl, by simp, fun q hq => setRow_other _ _ q _ (by omega)⟩
        case measure => simp [intOf]; omega
      ·have hq0 : qB c = false := by simpa using hq
       have hcell2 := (hb.cell (p := ⟨R, x, none⟩) hRl).trans (hlook.2 hq0)
       have e1 : (quoteP (s.take (k + 1))).length = (quoteP (s.take k)).length + 1 := by rw [hstep, List.length_append, qC, if_neg hq]; rfl
       obtain ⟨J, hJ⟩ : ∃ J, (quoteP (s.take k)).length = J := ⟨_, rfl⟩
       have hne : ∀ W : World, (binOp .neq 34 (.slice none 0 0) (.slice none 0 0)).run Tryz.prog W = .ok (.bool false) W := fun W => rfl
       have hJ2 : J < N := by omega
       have hbc := hbl.cell J
       obtain ⟨u9, hu9⟩ : ∃ u, cur[J]? = some u := ⟨_, Array.getElem?_eq_getElem (show J < cur.size by omega)⟩
       rw [hu9] at hbc
       clear hu9
       have hbf := hbl.frozen J
       have HBL := hid hbl
       have HCS := hid hcs
       have HPRE := hid hpre
       have HB := hid hb
       have HST := hid hstep
       have HE2 := hid e1
       have HJ := hid hJ
       have HX := hid hx
       have HQ := hid hq0
       rw [hJ]
       clear hbl hcs hpre hb hstep e1 hJ hlook hc hx hx256 hq hq0 hqk
       go_wp2_with fail
       go_roundw
       case rel =>
        refine ⟨k + 1, _, by omega, by go_num, ?_, HBL.out.put J (.int .u8 (x : Int)), ?_, ?_, HB.out.setCell (by dsimp only; omega) _⟩
        ·rw [HE2.out, HJ.out]; simp
        ·rw [Array.size_setIfInBounds]; exact HCS.out
        ·intro m y hm
         rw [HST.out, qC, HQ.out, if_neg Bool.false_ne_true] at hm
         exact pre_one HJ.out HCS.out (by omega) HPRE.out HX.out m y hm
       case measure => simp [intOf]; omega
     ·obtain rfl : k = s.length := by omega
      rw [List.take_length] at hpre
      have hN : (quoteP s).length = N := by omega
      have hcv : (convert 34 9 (.slice (some ⟨w.heap.size, 0, none⟩) N N)).run Tryz.prog wr = .ok (.string (bs (quoteP s))) wr := by
       have := run_convert_bytes_back wr 34 9 5 ⟨w.heap.size, 0, none⟩ N (quoteP s) Tryz.underlying34 Tryz.underlying5 Tryz.underlying9 (fun j hj => by
        rw [add_zero_block, hbl.cell j]
        exact hpre j _ (List.getElem?_eq_getElem hj))
       rw [hN] at this
       exact this
      have HB := hid hb
      clear hbl hcs hpre hb hN
      go_wp2_with fail
      go_ret
      exact ⟨rfl, HB.out⟩
def cntK (s : Bs) : Nat -> Nat
 | 0 => 0
 | 1 => 0 + Lib.countByte s 10
 | 2 => 0 + Lib.countByte s 10 + Lib.countByte s 34
 | _ => 0 + Lib.countByte s 10 + Lib.countByte s 34 + Lib.countByte s 92
theorem cnt_le (s : Bs) (k : Nat) : cntK s k <= 3 * s.length := by
 have h1 : Lib.countByte s 10 <= s.length := List.count_le_length
 have h2 : Lib.countByte s 34 <= s.length := List.count_le_length
 have h3 : Lib.countByte s 92 <= s.length := List.count_le_length
 unfold cntK
 split <;> omega
theorem cnt_sp : ∀ s : Bs, cntK s 3 = spN s
 | [] => rfl
 | c :: s => by
  have ih : 0 + List.count 10 s + List.count 34 s + List.count 92 s = spN s := cnt_sp s
  have e : spN (c :: s) = spN s + (if qB c = true then 1 else 0) := by
   unfold spN
   by_cases h : qB c = true
   ·rw [List.filter_cons_of_pos h, if_pos h]; rfl
   ·rw [List.filter_cons_of_neg h, if_neg h]; rfl
  show 0 + List.count 10 (c :: s) + List.count 34 (c :: s) + List.count 92 (c :: s) = spN (c :: s)
  rw [e, List.count_cons, List.count_cons, List.count_cons]
  have hq : (if qB c = true then 1 else 0) = (if (c == 10) = true then 1 else 0) + (if (c == 34) = true then 1 else 0) + (if (c == 92) = true then (1 : Nat) else 0) := by
   unfold qB
   by_cases h1 : c = 10
   ·subst h1; rfl
   ·by_cases h2 : c = 34
    ·subst h2; rfl
    ·by_cases h3 : c = 92
     ·subst h3; rfl
     ·simp [h1, h2, h3]
  omega
theorem repl_long (R tg tc : Nat) (w : World) (hLK : LookAt w R) (hRl : R < w.heap.size) (ht : w.cell? ⟨R, 256, none⟩ = some (.slice (some ⟨tg, 0, none⟩) 3 tc)) (htl : tg < w.heap.size) (htx : ∀ (j : Nat) (u : Value), X3[j]? = some u -> w.cell? ⟨tg, j, none⟩ = some u) (htc : 3 <= tc) (s : Bs) (hs : 24 <= s.length) (hs2 : s.length <= 2000000) :
  Calls Tryz.prog 196 #[(pn R), .string (bs s)] w (rt w (.string (bs (quoteP s)))) := by
 obtain ⟨iB, hi, hz0, hz1, hz2⟩ := info_parts infoBy
 have HbB0 := hid hz0
 have HiB := hid hi
 have HbB1 := hid hz1
 have HbB2 := hid hz2
 clear hz0 hi hz1 hz2
 have hsz : (bs s).size = s.length := rfl
 have hle8 : decide ((24 : Int) <= (s.length : Int)) = true := dt (by omega)
 have HLK := hid hLK
 obtain ⟨N, hN⟩ : ∃ N, s.length + spN s = N := ⟨_, rfl⟩
 have hNq : (quoteP s).length = N := by rw [quote_len, hN]
 have hN2 : N <= 4000000 := by have := sp_le s; omega
 clear hLK
 go_enter Tryz.func196, Tryz.ntmps196
 go_wp2_with fail
 go_loopw [5, 6, 32] (fun n a i wr => ∃ k : Nat, k <= 3 /\ i = .int .i64 k /\ n = .int .i64 ((s.length + cntK s k : Nat) : Int) /\ a = .bool (decide (0 < cntK s k)) /\ Below w.heap.size w wr) (fun _ _ i _ => 3 - (intOf i).toNat)
 case atStart => exact ⟨0, by decide, rfl, rfl, rfl, Below.refl _ _⟩
 case round =>
  obtain ⟨wE, hwE⟩ : ∃ x, x = wr := ⟨wr, rfl⟩
  subst hwE
  obtain ⟨k, hk, rfl, rfl, rfl, hb⟩ := hrel
  by_cases h3 : k = 3
  ·subst h3
   rw [cnt_sp, hN]
   have HBW := hid hb
   have HLK0 := HLK
   clear HLK
   have HLK := HLK0
   clear HLK0 hb ht htx
   by_cases hz : spN s = 0
   ·have hd0 : decide (0 < spN s) = false := df (by omega)
    have hq := hid (quote_none s hz)
    clear hz
    go_wp2_with fail
    go_ret
    exact ⟨congrArg (fun z => Ending.returned (.string (bs z))) hq.out.symm, HBW.out⟩
   ·have hd0 : decide (0 < spN s) = true := dt (by omega)
    clear hz
    go_wp2_with (at_make; refine wpList_make_full _ rfl _ _ 34 rfl wE.heap.size 5 iB (.int .u8 0) 1 Tryz.underlying34 HiB.out HbB0.out HbB1.out .i64 .i64 _ _ N rfl rfl (by omega) (by omega) (by rw [HbB2.out]; omega) (by unfold maxLen; omega) (Nat.le_refl _) ?_; intro w5 hrow5 hgrow5; obtain ⟨cur, hbl5, hcs5⟩ := row_blk hrow5; have HB5 := hid (HBW.out.trans ((show Below wE.heap.size wE w5 from ⟨hgrow5.os, hgrow5.tape, hgrow5.output, hgrow5.size, fun k hk => hgrow5.block k hk (by simp)⟩).mono HBW.out.size)); have HL5 := hid hbl5; have HC5 := hid hcs5; have hBz := HBW.out.size; clear hrow5 hgrow5 hbl5 hcs5)
    go_loopw [13, 14] (fun j i wr => ∃ (k : Nat) (cur : Array Value), k <= s.length /\ i = .int .i64 k /\ j = .int .i64 ((quoteP (s.take k)).length : Int) /\ Blk wr wE.heap.size 5 cur /\ cur.size = N /\ (∀ (m : Nat) (x : UInt8), (quoteP (s.take k))[m]? = some x -> cur[m]? = some (.int .u8 (nv x))) /\ Below w.heap.size w wr) (fun _ i _ => s.length - (intOf i).toNat)
    case atStart => exact ⟨0, cur, Nat.zero_le _, rfl, by rw [List.take_zero]; rfl, HL5.out, HC5.out, (fun m x h => by rw [List.take_zero] at h; cases h), HB5.out⟩
    case round =>
     obtain ⟨k, cur, hk, rfl, rfl, hbl, hcs, hpre, hb⟩ := hrel
     by_cases hlt : k < s.length
     ·have hlt' : (k : Int) < (s.length : Int) := by omega
      obtain ⟨c, hc⟩ : ∃ c, s[k]? = some c := ⟨_, List.getElem?_eq_getElem hlt⟩
      obtain ⟨x, hx, hx256⟩ : ∃ x : Nat, nv c = (x : Int) /\ x = c.toNat := ⟨c.toNat, rfl, rfl⟩
      have hxl : x < 256 := by rw [hx256]; exact c.toNat_lt
      have hidx : ∀ h, ((((bs s)[k]'h).toNat : Nat) : Int) = (x : Int) := fun h => by rw [<- hx]; exact idx_bs hc h
      have hlook := HLK.out c
      rw [<- hx256] at hlook
      have hstep := quote_step hc
      have hqk := quote_le s (k + 1)
      by_cases hq : qB c = true
      ·obtain ⟨g, cp, hcell, hgl, hgc⟩ := hlook.1 hq
       have hcell2 := (hb.cell (p := ⟨R, x, none⟩) hRl).trans hcell
       have e2 : (quoteP (s.take (k + 1))).length = (quoteP (s.take k)).length + 2 := by rw [hstep, List.length_append, qC, if_pos hq]; rfl
       obtain ⟨J, hJ⟩ : ∃ J, (quoteP (s.take k)).length = J := ⟨_, rfl⟩
       have hne : ∀ W : World, (binOp .neq 34 (.slice (some ⟨g, 0, none⟩) 2 cp) (.slice none 0 0)).run Tryz.prog W = .ok (.bool true) W := fun W => rfl
       have hJ2 : J + 2 <= N := by omega
       have hsl : ∀ W : World, (Instr.slice 34 (.slice (some ⟨wE.heap.size, 0, none⟩) N N) (some (.int .i64 (J : Int))) none none).run Tryz.prog W = .ok (.slice (some ⟨wE.heap.size, J, none⟩) (N - J) (N - J)) W := fun W => by
        rw [slice_from (P := Tryz.prog) (k := 1) Tryz.underlying34 Tryz.sizeOf5 (some ⟨wE.heap.size, 0, none⟩) N N (J : Int) (by omega) (by omega) W]
        rw [Int.toNat_natCast]
        unfold addrAt
        rw [if_neg (by omega), Option.map_some, Nat.mul_one]
        rw [add_zero_block]
       have hcp : ∀ ty, (Builtin.copy_ #[34, 34] ty #[.slice (some ⟨wE.heap.size, J, none⟩) (N - J) (N - J), .slice (some ⟨g, 0, none⟩) 2 cp]).run Tryz.prog wr.drew = .ok (goInt 2) (wr.drew.setRow wE.heap.size (cur.toList.take J ++ [Value.int .u8 92, Value.int .u8 (x : Int)] ++ cur.toList.drop (J + 2)).toArray) := fun ty =>
        run_copy_row (P := Tryz.prog) wr.drew 34 34 ty 5 wE.heap.size J (N - J) (N - J) ⟨g, 0, none⟩ 2 cp cur 5 [.int .u8 92, .int .u8 (x : Int)] Tryz.underlying34 (by kernel_rfl) hbl (show 2 = Nat.min 2 (N - J) from (Nat.min_eq_left (by omega)).symm) (fun j v hv => by
         rw [add_zero_block]
         have := (hb.cell (p := ⟨g, j, none⟩) hgl)
         match j, hv with
         | 0, hv => cases hv; exact this.trans (hgc 0 92 rfl)
         | 1, hv => cases hv; rw [<- hx]; exact this.trans (hgc 1 c rfl)) (by simp; omega) (by simp [Value.oneCell'])
       have HBL := hid hbl
       have HCS := hid hcs
       have HPRE := hid hpre
       have HB := hid hb
       have HST := hid hstep
       have HE2 := hid e2
       have HJ := hid hJ
       have HX := hid hx
       have HQ := hid hq
       rw [hJ]
       clear hbl hcs hpre hb hstep e2 hJ hlook hcell hgc hc hx hx256 hq hqk
       go_wp2_with fail
       go_region
       all_goals
        go_wp2_with fail
        go_roundw
        case rel =>
         refine ⟨k + 1, _, by omega, by go_num, ?_, setRow_heap wr.drew wE.heap.size cur _ 5 (0, 0) HBL.out, ?_, ?_, ?_⟩
         ·rw [HE2.out, HJ.out]; simp
         ·simp; have := HCS.out; omega
         ·intro m y hm
          rw [HST.out, qC, if_pos HQ.out] at hm
          have h9 := pre_two HJ.out HCS.out (by omega) HPRE.out HX.out m y hm
          rw [List.append_assoc] at h9
          exact h9
         ·exact HB.out.trans ⟨rfl, rfl, rfl, by simp, fun q hq => setRow_other _ _ q _ (by omega)⟩
        case measure => simp [intOf]; omega
      ·have hq0 : qB c = false := by simpa using hq
       have hcell2 := (hb.cell (p := ⟨R, x, none⟩) hRl).trans (hlook.2 hq0)
       have e1 : (quoteP (s.take (k + 1))).length = (quoteP (s.take k)).length + 1 := by rw [hstep, List.length_append, qC, if_neg hq]; rfl
       obtain ⟨J, hJ⟩ : ∃ J, (quoteP (s.take k)).length = J := ⟨_, rfl⟩
       have hne : ∀ W : World, (binOp .neq 34 (.slice none 0 0) (.slice none 0 0)).run Tryz.prog W = .ok (.bool false) W := fun W => rfl
       have hJ2 : J < N := by omega
       have hbc := hbl.cell J
       obtain ⟨u9, hu9⟩ : ∃ u, cur[J]? = some u := ⟨_, Array.getElem?_eq_getElem (show J < cur.size by omega)⟩
       rw [hu9] at hbc
       clear hu9
       have hbf := hbl.frozen J
       have HBL := hid hbl
       have HCS := hid hcs
       have HPRE := hid hpre
       have HB := hid hb
       have HST := hid hstep
       have HE2 := hid e1
       have HJ := hid hJ
       have HX := hid hx
       have HQ := hid hq0
       rw [hJ]
       clear hbl hcs hpre hb hstep e1 hJ hlook hc hx hx256 hq hq0 hqk
       go_wp2_with fail
       go_roundw
       case rel =>
        refine ⟨k + 1, _, by omega, by go_num, ?_, HBL.out.put J (.int .u8 (x : Int)), ?_, ?_, HB.out.setCell (by dsimp only; omega) _⟩
        ·rw [HE2.out, HJ.out]; simp
        ·rw [Array.size_setIfInBounds]; exact HCS.out
        ·intro m y hm
         rw [HST.out, qC, HQ.out, if_neg Bool.false_ne_true] at hm
         exact pre_one HJ.out HCS.out (by omega) HPRE.out HX.out m y hm
       case measure => simp [intOf]; omega
     ·obtain rfl : k = s.length := by omega
      rw [List.take_length] at hpre
      have hN : (quoteP s).length = N := by omega
      have hcv : (convert 34 9 (.slice (some ⟨wE.heap.size, 0, none⟩) N N)).run Tryz.prog wr = .ok (.string (bs (quoteP s))) wr := by
       have := run_convert_bytes_back wr 34 9 5 ⟨wE.heap.size, 0, none⟩ N (quoteP s) Tryz.underlying34 Tryz.underlying5 Tryz.underlying9 (fun j hj => by
        rw [add_zero_block, hbl.cell j]
        exact hpre j _ (List.getElem?_eq_getElem hj))
       rw [hN] at this
       exact this
      have HB := hid hb
      clear hbl hcs hpre hb hN
      go_wp2_with fail
      go_ret
      exact ⟨rfl, HB.out⟩
  ·have hk2 : k = 0 ∨ k = 1 ∨ k = 2 := by omega
   ·rcases hk2 with rfl | rfl | rfl
    ·obtain ⟨n, hn⟩ : ∃ n, Lib.countByte s 10 = n := ⟨_, rfl⟩
     have cC : ∀ w, Calls Tryz.prog 198 #[.string (bs s), .string ⟨#[10]⟩] w fun e w' => e = .returned (.int .i64 (n : Int)) /\ w = w' := fun w => by
      have h := Tryz.strings_Count_one (bs s) 10 w
      rw [show (bs s).data.toList = s from rfl, hn] at h
      exact h.mono fun e w' ⟨h1, h2⟩ => ⟨h1, h2.symm⟩
     have hnl : n <= s.length := by rw [<- hn]; exact List.count_le_length
     have ct := (hb.cell (p := ⟨tg, 0, none⟩) htl).trans (htx 0 _ rfl)
     obtain ⟨g, cp, hcell, hgl, -⟩ := (HLK.out 10).1 rfl
     have hcell2 := (hb.cell (p := ⟨R, 10, none⟩) hRl).trans hcell
     have hix : ∀ h, (((⟨#[10]⟩ : ByteArray)[0]'h).toNat : Int) = 10 := fun h => rfl
     have hstep := hid (show cntK s 1 = cntK s 0 + n by unfold cntK; rw [<- hn]; rfl)
     have hkl : cntK s 0 <= 6000000 := by have := cnt_le s 0; omega
     obtain ⟨P, hP⟩ : ∃ P, cntK s 0 = P := ⟨_, rfl⟩
     have HP := hid hP
     rw [hP] at hkl
     rw [hP]
     replace cC := hid cC
     have HB := hid hb
     clear hn hcell hb hP
     by_cases h0 : n = 0
     ·subst h0
      go_wp2_with (go_at_call 198; (with_reducible refine (cC.out _).mono ?_); rintro e W1 ⟨rfl, rfl⟩)
      go_roundw
      case rel => exact ⟨1, by decide, by go_num, by rw [hstep.out, HP.out]; simp, by rw [hstep.out, HP.out]; simp, HB.out⟩
      case measure => simp [intOf]
     ·have hn0 : ((n : Int) == 0) = false := bq (by omega)
      have hp0 : 0 < n := by omega
      clear h0
      go_wp2_with (go_at_call 198; (with_reducible refine (cC.out _).mono ?_); rintro e W1 ⟨rfl, rfl⟩)
      go_region
      all_goals
       go_wp2_with fail
       go_roundw
       case rel => exact ⟨1, by decide, by go_num, by rw [hstep.out, HP.out]; simp; omega, by rw [hstep.out, HP.out]; simp; omega, HB.out.drew⟩
       case measure => simp [intOf]
    ·obtain ⟨n, hn⟩ : ∃ n, Lib.countByte s 34 = n := ⟨_, rfl⟩
     have cC : ∀ w, Calls Tryz.prog 198 #[.string (bs s), .string ⟨#[34]⟩] w fun e w' => e = .returned (.int .i64 (n : Int)) /\ w = w' := fun w => by
      have h := Tryz.strings_Count_one (bs s) 34 w
      rw [show (bs s).data.toList = s from rfl, hn] at h
      exact h.mono fun e w' ⟨h1, h2⟩ => ⟨h1, h2.symm⟩
     have hnl : n <= s.length := by rw [<- hn]; exact List.count_le_length
     have ct := (hb.cell (p := ⟨tg, 1, none⟩) htl).trans (htx 1 _ rfl)
     obtain ⟨g, cp, hcell, hgl, -⟩ := (HLK.out 34).1 rfl
     have hcell2 := (hb.cell (p := ⟨R, 34, none⟩) hRl).trans hcell
     have hix : ∀ h, (((⟨#[34]⟩ : ByteArray)[0]'h).toNat : Int) = 34 := fun h => rfl
     have hstep := hid (show cntK s 2 = cntK s 1 + n by unfold cntK; rw [<- hn]; rfl)
     have hkl : cntK s 1 <= 6000000 := by have := cnt_le s 1; omega
     obtain ⟨P, hP⟩ : ∃ P, cntK s 1 = P := ⟨_, rfl⟩
     have HP := hid hP
     rw [hP] at hkl
     rw [hP]
     replace cC := hid cC
     have HB := hid hb
     clear hn hcell hb hP
     by_cases h0 : n = 0
     ·subst h0
      go_wp2_with (go_at_call 198; (with_reducible refine (cC.out _).mono ?_); rintro e W1 ⟨rfl, rfl⟩)
      go_roundw
      case rel => exact ⟨2, by decide, by go_num, by rw [hstep.out, HP.out]; simp, by rw [hstep.out, HP.out]; simp, HB.out⟩
      case measure => simp [intOf]
     ·have hn0 : ((n : Int) == 0) = false := bq (by omega)
      have hp0 : 0 < n := by omega
      clear h0
      go_wp2_with (go_at_call 198; (with_reducible refine (cC.out _).mono ?_); rintro e W1 ⟨rfl, rfl⟩)
      go_region
      all_goals
       go_wp2_with fail
       go_roundw
       case rel => exact ⟨2, by decide, by go_num, by rw [hstep.out, HP.out]; simp; omega, by rw [hstep.out, HP.out]; simp; omega, HB.out.drew⟩
       case measure => simp [intOf]
    ·obtain ⟨n, hn⟩ : ∃ n, Lib.countByte s 92 = n := ⟨_, rfl⟩
     have cC : ∀ w, Calls Tryz.prog 198 #[.string (bs s), .string ⟨#[92]⟩] w fun e w' => e = .returned (.int .i64 (n : Int)) /\ w = w' := fun w => by
      have h := Tryz.strings_Count_one (bs s) 92 w
      rw [show (bs s).data.toList = s from rfl, hn] at h
      exact h.mono fun e w' ⟨h1, h2⟩ => ⟨h1, h2.symm⟩
     have hnl : n <= s.length := by rw [<- hn]; exact List.count_le_length
     have ct := (hb.cell (p := ⟨tg, 2, none⟩) htl).trans (htx 2 _ rfl)
     obtain ⟨g, cp, hcell, hgl, -⟩ := (HLK.out 92).1 rfl
     have hcell2 := (hb.cell (p := ⟨R, 92, none⟩) hRl).trans hcell
     have hix : ∀ h, (((⟨#[92]⟩ : ByteArray)[0]'h).toNat : Int) = 92 := fun h => rfl
     have hstep := hid (show cntK s 3 = cntK s 2 + n by unfold cntK; rw [<- hn]; rfl)
     have hkl : cntK s 2 <= 6000000 := by have := cnt_le s 2; omega
     obtain ⟨P, hP⟩ : ∃ P, cntK s 2 = P := ⟨_, rfl⟩
     have HP := hid hP
     rw [hP] at hkl
     rw [hP]
     replace cC := hid cC
     have HB := hid hb
     clear hn hcell hb hP
     by_cases h0 : n = 0
     ·subst h0
      go_wp2_with (go_at_call 198; (with_reducible refine (cC.out _).mono ?_); rintro e W1 ⟨rfl, rfl⟩)
      go_roundw
      case rel => exact ⟨3, by decide, by go_num, by rw [hstep.out, HP.out]; simp, by rw [hstep.out, HP.out]; simp, HB.out⟩
      case measure => simp [intOf]
     ·have hn0 : ((n : Int) == 0) = false := bq (by omega)
      have hp0 : 0 < n := by omega
      clear h0
      go_wp2_with (go_at_call 198; (with_reducible refine (cC.out _).mono ?_); rintro e W1 ⟨rfl, rfl⟩)
      go_region
      all_goals
       go_wp2_with fail
       go_roundw
       case rel => exact ⟨3, by decide, by go_num, by rw [hstep.out, HP.out]; simp; omega, by rw [hstep.out, HP.out]; simp; omega, HB.out.drew⟩
       case measure => simp [intOf]
end quo
namespace quo
open Go.RowKit base tok rul sel
structure Ready (lo : Nat) (w : World) (R : Nat) : Prop where
 look : LookL lo w R
 at_ : lo <= R /\ R < w.heap.size
 row : ∃ tg tc, w.cell? ⟨R, 256, none⟩ = some (.slice (some ⟨tg, 0, none⟩) 3 tc) /\ lo <= tg /\ tg < w.heap.size /\ 3 <= tc /\ ∀ (j : Nat) (u : Value), X3[j]? = some u -> w.cell? ⟨tg, j, none⟩ = some u
theorem Ready.keep {lo : Nat} {w w' : World} {R : Nat} (h : Ready lo w R) (hs : w.heap.size <= w'.heap.size) (hk : ∀ c, lo <= c -> c < w.heap.size -> w'.heap[c]? = w.heap[c]?) : Ready lo w' R := by
 obtain ⟨h1, h2⟩ := h.at_
 have hc : ∀ c j, lo <= c -> c < w.heap.size -> w'.cell? ⟨c, j, none⟩ = w.cell? ⟨c, j, none⟩ := fun c j a b => World.cell?_of_block (w := w) (w' := w') (a := ⟨c, j, none⟩) (hk c a b)
 refine ⟨fun c => ⟨fun hq => ?_, fun hq => (hc R _ h1 h2).trans ((h.look c).2 hq)⟩, ⟨h1, by omega⟩, ?_⟩
 ·obtain ⟨g, cp, a1, a2, a3, a4⟩ := (h.look c).1 hq
  exact ⟨g, cp, (hc R _ h1 h2).trans a1, a2, by omega, fun i x hx => (hc g i a2 a3).trans (a4 i x hx)⟩
 ·obtain ⟨tg, tc, a1, a2, a3, a4, a5⟩ := h.row
  exact ⟨tg, tc, (hc R _ h1 h2).trans a1, a2, by omega, a4, fun j u hu => (hc tg j a2 a3).trans (a5 j u hu)⟩
theorem ready_of {w w' : World} {R : Nat} (h : RSt w R D3 X3 w') : Ready w.heap.size w' R := by
 have hl := look_of h
 obtain ⟨cs, tv, hbl, hcs, htv, hrow, htR, hrep, hb, h1, h2⟩ := h
 obtain ⟨tg, tc, rfl, a1, a2, a3, a4⟩ := row_fresh (w := w) hrow (by decide)
 exact ⟨hl, ⟨h1, h2⟩, tg, tc, (hbl.cell 256).trans htv, a1, a2, a3, a4⟩
theorem once_ct (b g cap : Nat) (w : World) (hb : Blk w b 154 #[.int .u32 0, .int .i32 1, .int .u32 0, .nilIface, .slice (some ⟨g, 0, none⟩) 6 cap]) (hgl : g < w.heap.size) (hg : ∀ (j : Nat) (u : Value), pairs[j]? = some u -> w.cell? ⟨g, j, none⟩ = some u) :
  Calls Tryz.prog 116 #[(pn b)] w fun e w' => e = .returned (.tuple #[]) /\ (∃ R, Blk w' b 154 #[.int .u32 0, .int .i32 1, .int .u32 0, .iface 183 ((pn R)), .slice none 0 0] /\ Ready w.heap.size w' R /\ w.grownBy w' (some b)) := by
 have cB := hid (build_ct b g cap 0 1 0 w hb hgl hg)
 have HB := hid hb
 have hbl := hb.lt
 clear hb hg
 go_enter Tryz.func116, Tryz.ntmps116
 go_wp2_with (go_at_call 124; (with_reducible refine cB.out.mono ?_); rintro e W1 ⟨R, rfl, hst⟩; have hrd := ready_of hst; have hb1 := (show Below w.heap.size w W1 from by obtain ⟨_, _, _, _, _, _, _, _, h, _⟩ := hst; exact h); have q1 := HB.out.below hb1 hbl; have q1c := q1.cell; have q1f := q1.frozen; have Q1 := hid q1; have HRD := hid hrd; have HB1 := hid hb1; clear hst hrd hb1 q1)
 first | go_end0 | go_ret
 refine ⟨rfl, R, (Q1.out.put 3 _).put 4 _, HRD.out.keep (by simp [World.setCell]) (fun c hc hl => (Below.heap_setCell _ _ _ c (by dsimp only; omega)).trans (Below.heap_setCell _ _ _ c (by dsimp only; omega))), (grown_of_below HB1.out (some b)).trans ((grown_set W1 b 3 _).trans (grown_set _ b 4 _))⟩
theorem repl_any (lo R : Nat) (w : World) (h : Ready lo w R) (s : Bs) (hs : s.length <= 2000000) :
  Calls Tryz.prog 196 #[(pn R), .string (bs s)] w (rt w (.string (bs (quoteP s)))) := by
 obtain ⟨tg, tc, a1, a2, a3, a4, a5⟩ := h.row
 by_cases hl : s.length < 24
 ·exact repl_short R tg tc w h.look.at_ h.at_.2 a1 s hl
 ·exact repl_long R tg tc w h.look.at_ h.at_.2 a1 a3 a5 a4 s (by omega) hs
theorem replace_ct (b g cap : Nat) (w : World) (hb : Blk w b 154 #[.int .u32 0, .int .i32 0, .int .u32 0, .nilIface, .slice (some ⟨g, 0, none⟩) 6 cap]) (hgl : g < w.heap.size) (hgb : g ≠ b) (hg : ∀ (j : Nat) (u : Value), pairs[j]? = some u -> w.cell? ⟨g, j, none⟩ = some u) (s : Bs) (hs : s.length <= 2000000) :
  Calls Tryz.prog 98 #[(pn b), .string (bs s)] w fun e w' => e = .returned (.string (bs (quoteP s))) /\ w.grownBy w' (some b) := by
 have hbl := hb.lt
 have hsz : (w.setCell ⟨b, 1, none⟩ (.int .i32 1)).heap.size = w.heap.size := by simp [World.setCell]
 have hO := once_ct b g cap (w.setCell ⟨b, 1, none⟩ (.int .i32 1)) (hb.put 1 (.int .i32 1)) (by rw [hsz]; exact hgl) (fun j u hu => (World.cell?_setCell_other w ⟨b, 1, none⟩ ⟨g, j, none⟩ _ (by simp)).trans (hg j u hu))
 have hD := q_do b w (hb.cell 0) (hb.cell 1) (hb.frozen 0) (hb.frozen 1) (fun w' => ∃ R, Blk w' b 154 #[.int .u32 0, .int .i32 1, .int .u32 0, .iface 183 ((pn R)), .slice none 0 0] /\ Ready w.heap.size w' R /\ w.grownBy w' (some b))
  (hO.mono fun e w' ⟨he, R, h1, h2, h3⟩ => ⟨he, ⟨R, h1, hsz ▸ h2, (grown_set w b 1 _).trans h3⟩, h1.cell 0, h1.cell 1, h1.frozen 0, h1.frozen 1⟩)
 have cD := hid (hD.mono (R' := fun e w' => e = .returned (.tuple #[]) /\ ∃ R, Blk w' b 154 #[.int .u32 1, .int .i32 0, .int .u32 0, .iface 183 ((pn R)), .slice none 0 0] /\ Ready w.heap.size w' R /\ w.grownBy w' (some b)) (by
  rintro e w' ⟨he, w2, ⟨R, hb2, hr2, hg2⟩, rfl⟩
  exact ⟨he, R, (hb2.drew.put 0 (.int .u32 1)).put 1 (.int .i32 0), hr2.keep (by simp [World.setCell]) (fun c hc hl => (Below.heap_setCell _ _ _ c (by dsimp only; omega)).trans (Below.heap_setCell _ _ _ c (by dsimp only; omega))), (hg2.trans (grown_of_below (Below.refl _ _).drew (some b))).trans ((grown_set w2.drew b 0 (.int .u32 1)).trans (grown_set _ b 1 (.int .i32 0)))⟩))
 have cR := hid (fun (R : Nat) (W : World) (h : Ready w.heap.size W R) => repl_any w.heap.size R W h s hs)
 have hmf : ∀ (fn : Fn) (first cap : Array Value) (w : World), (Instr.makeFunc fn first cap).run Tryz.prog w = .ok (.func fn first cap) w := fun _ _ _ _ => rfl
 have hm : ∀ (R : Nat) (W : World), (method 356 183 ((pn R)) "Replace").run Tryz.prog W = .ok (196, (pn R)) W := fun R W => rfl
 clear hb hO hg hsz hD
 go_enter Tryz.func98, Tryz.ntmps98
 go_wp2_with (first
  | (go_at_call 115; (with_reducible refine cD.out.mono ?_); rintro e W1 ⟨rfl, R, hb2, hr2, hg2⟩; have q3c := hb2.cell; have HR3 := hid hr2; have HG3 := hid hg2; clear hb2 hr2 hg2)
  | (go_at_call 196; (with_reducible refine (cR.out _ _ HR3.out).mono ?_); rintro e W4 ⟨rfl, hb4⟩; have HG4 := hid (HG3.out.trans (grown_of_below hb4 (some b))); clear hb4))
 go_ret
 exact ⟨rfl, HG4.out⟩
theorem quote_ct (s : Bs) (hs : s.length <= 2000000) (w : World) :
  Calls Tryz.prog 66 #[.string (bs s)] w (rt w (.string (bs (quoteP s)))) := by
 have cN := hid (new_ct w.heap.size (w.alloc (.cells pairs 9)) (Blk.new rfl))
 have cR := hid (fun (b g cap : Nat) (W : World) hb hgl hgb hg => replace_ct b g cap W hb hgl hgb hg s hs)
 go_enter Tryz.func66, Tryz.ntmps66
 go_wp2_with (first
  | (go_at_call 97; refine cN.out.mono ?_; rintro e W1 ⟨b, g, cap, rfl, hb1, hg1, hgb, hcap, hbl, hx⟩; have hz := hb1.size; rw [World.size_alloc] at hz hg1; have HB1 := hid ((ba w (.cells pairs 9)).trans (hb1.mono (by rw [World.size_alloc]; omega))); have HBL := hid hbl; have HX := hid hx; clear hb1 hbl hx)
  | (go_at_call 98; (with_reducible refine (cR.out _ _ _ _ HBL.out (Nat.lt_trans hgb HBL.out.lt) (Nat.ne_of_lt hgb) HX.out).mono ?_); rintro e W2 ⟨rfl, hg2⟩; have HB2 := hid (HB1.out.grown hg2 HB1.out.size (fun k e => by cases e; omega)); clear hg2))
 go_ret
 exact ⟨rfl, HB2.out⟩
end quo
end Go.Proofs.YtaobpkffcolobaaGreatDoor
