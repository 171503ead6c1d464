/- Contracts and plain law, a bundle. -/
import Derived.Maps.AppendAt
import Derived.Lib.SlBuf
import Derived.Lib.LazyBuf
import Derived.Shelf.Spec.SlicesInsert
import Derived.Deep.RegionLaw
import Derived.Lib.Hide
import Derived.Test.YthgffoanecknoaaGreatDoorG0
import Derived.Test.YthgffoanecknoaaGreatDoorD3
set_option linter.unusedVariables false
set_option maxRecDepth 100000
set_option maxHeartbeats 16000000
open Go.Lib (hid)
namespace Go.Proofs.YthgffoanecknoaaGreatDoor
namespace prp
open Go.RowKit base tok dim
set_option linter.unusedSimpArgs false
theorem isColor_any (s : Bs) (hs : s.length <= 140737488355328) (w : World) (hm : MaxL w) (hE : col.ErrsAt w) (hT : PowAt w) :
  Calls Tryz.prog 67 #[.string (bs s)] w fun e w' => (∃ b : Bool, e = .returned (.bool b)) /\ Below w.heap.size w w' := by
 have cR := hid (col.read_any s hs w hm hE hT)
 have cL := hid (fun w => lower_ct (bs s) (by rw [bs_size]; omega) w)
 rw [show (bs s).data.toList = s from rfl] at cL
 generalize s.map lowB = l at *
 clear hs hm hE hT
 go_enter Tryz.func67, Tryz.ntmps67
 go_upto_region 2 with (go_at_call 102; (with_reducible refine cR.out.mono ?_); rintro e W1 ⟨⟨c, x, rfl, hx, -, -⟩, hb1⟩; have HX := hid hx; have HB1 := hid hb1; clear hb1 hx)
 rcases HX.out with rfl | rfl
 ·go_wp2_with fail
  exact bodyPost_ret (v := .bool true) (by simp [results, Tryz.results67, go_sem]) rfl ⟨.inr rfl, HB1.out⟩
 ·go_wp2_with (go_at_call 43; (with_reducible refine (cL.out _).mono ?_); rintro e W2 ⟨rfl, hb2⟩; have HB2 := hid (tb HB1 hb2); clear hb2)
  go_ret
  exact ⟨⟨_, rfl⟩, HB2.out⟩
theorem border_any (A : Option Addr) (cap n : Nat) (L : List Bs) (hn : L.length = n) (hbig : n <= 4194304) (hL : ∀ x ∈ L, x.length <= 4194304) (w : World) (hR : SRd w w.heap.size A n L) (hm : MaxL w) (hE : col.ErrsAt w) (hT : PowAt w) :
  Calls Tryz.prog 45 #[.slice A n cap] w fun e w' => (∃ (wd sh : ByteArray) (b : Bool), e = .returned (.tuple #[.string wd, .string sh, .bool b])) /\ Below w.heap.size w w' := by
 have HR := hid hR
 have HL := hid hL
 have HM := hid hm
 have HE := hid hE
 have HT := hid hT
 clear hR hL hm hE hT hn
 go_enter Tryz.func45, Tryz.ntmps45
 go_wp2_with fail
 go_loopw [2, 3, 5, 10] (fun a b c i wr => ∃ (k : Nat) (wd sh : ByteArray) (so : Bool), k <= n /\ i = .int .i64 k /\ a = .string wd /\ b = .string sh /\ c = .bool so /\ Below w.heap.size w wr) (fun _ _ _ i _ => n - (intOf i).toNat)
 case atStart => exact ⟨0, _, _, _, by omega, rfl, rfl, rfl, rfl, Below.refl _ _⟩
 case round =>
  obtain ⟨k, wd, sh, so, hk, rfl, rfl, rfl, rfl, hbw⟩ := hrel
  by_cases hlt : k < n
  ·have hlt' : (k : Int) < (n : Int) := by omega
   obtain ⟨b, off, x, rfl, hb0, hx, hc⟩ := SRd.get HR.out hlt
   have hcw := (hbw.cell (p := ⟨b, off + k, none⟩) hb0).trans hc
   have hxl := HL.out x (List.mem_of_getElem? hx)
   have cL := hid (fun w => lower_ct (bs x) (by rw [bs_size]; omega) w)
   rw [show (bs x).data.toList = x from rfl] at cL
   have cI := hid (fun w hm hE hT => isColor_any x (by omega) w hm hE hT)
   have HB0 := hid hbw
   clear hbw hc hx hxl
   generalize x.map lowB = l at *
   cases hq : ((bs l).toList == [115, 111, 108, 105, 100])
   ·go_wp2_with (first
     | (go_at_call 67; (with_reducible refine (cI.out _ (HM.out.on HB0.out HM.out.lt) (HE.out.on HB0.out) (HT.out.on HB0.out)).mono ?_); rintro e W2 ⟨⟨b2, rfl⟩, hb⟩; have HB0 := hid (tb HB0 hb); clear hb)
     | (go_at_call 43; (with_reducible refine (cL.out _).mono ?_); rintro e W2 ⟨rfl, hb⟩; have HB0 := hid (tb HB0 hb); clear hb))
    all_goals
     first
      | exact ⟨⟨k + 1, _, _, _, by omega, by go_num, rfl, rfl, rfl, HB0.out⟩, by simp [intOf]; omega⟩
      | (go_ret3; first | exact ⟨⟨_, _, _, rfl⟩, HB0.out⟩ | exact ⟨⟨_, _, .inl rfl⟩, HB0.out⟩ | exact ⟨⟨_, _, .inr rfl⟩, HB0.out⟩)
   ·cases so
    ·go_wp2_with (go_at_call 43; (with_reducible refine (cL.out _).mono ?_); rintro e W1 ⟨rfl, hb⟩; have HB1 := hid (tb HB0 hb); clear hb)
     go_roundw
     case rel => exact ⟨k + 1, _, _, _, by omega, by go_num, rfl, rfl, rfl, HB1.out⟩
     case measure => simp [intOf]; omega
    ·go_upto_region 8 with (go_at_call 43; (with_reducible refine (cL.out _).mono ?_); rintro e W1 ⟨rfl, hb⟩; have HB1 := hid (tb HB0 hb); clear hb)
     go_wp2_with (first
      | (go_at_call 67; (with_reducible refine (cI.out _ (HM.out.on HB1.out HM.out.lt) (HE.out.on HB1.out) (HT.out.on HB1.out)).mono ?_); rintro e W2 ⟨⟨b2, rfl⟩, hb⟩; have HB1 := hid (tb HB1 hb); clear hb)
      | (go_at_call 43; (with_reducible refine (cL.out _).mono ?_); rintro e W2 ⟨rfl, hb⟩; have HB1 := hid (tb HB1 hb); clear hb))
     all_goals
      first
       | exact ⟨⟨k + 1, _, _, _, by omega, by go_num, rfl, rfl, rfl, HB1.out⟩, by simp [intOf]; omega⟩
       | (go_ret3; first | exact ⟨⟨_, _, _, rfl⟩, HB1.out⟩ | exact ⟨⟨_, _, .inl rfl⟩, HB1.out⟩ | exact ⟨⟨_, _, .inr rfl⟩, HB1.out⟩)
  ·obtain rfl : k = n := by omega
   have HB0 := hid hbw
   by_cases h1 : k = 1
   ·subst h1
    obtain ⟨b, off, x, rfl, hb0, hx, hc⟩ := SRd.get HR.out (show 0 < 1 by decide)
    have hcw := (hbw.cell (p := ⟨b, off + 0, none⟩) hb0).trans hc
    rw [Nat.add_zero] at hcw
    have hxl := HL.out x (List.mem_of_getElem? hx)
    have cL := hid (fun w => lower_ct (bs x) (by rw [bs_size]; omega) w)
    rw [show (bs x).data.toList = x from rfl] at cL
    clear hbw hc hx hxl
    generalize x.map lowB = l at *
    go_wp2_with (go_at_call 43; (with_reducible refine (cL.out _).mono ?_); rintro e W2 ⟨rfl, hb⟩; have HB0 := hid (tb HB0 hb); clear hb)
    all_goals (go_ret3; first | exact ⟨⟨_, _, _, rfl⟩, HB0.out⟩ | exact ⟨⟨_, _, .inl rfl⟩, HB0.out⟩ | exact ⟨⟨_, _, .inr rfl⟩, HB0.out⟩)
   ·have h1' : ¬ (k : Int) = 1 := by omega
    have g1 : ((k : Int) == 1) = false := by rw [beq_eq_false_iff_ne]; exact h1'
    clear hbw
    go_wp2_with fail
    all_goals (go_ret3; first | exact ⟨⟨_, _, _, rfl⟩, HB0.out⟩ | exact ⟨⟨_, _, .inl rfl⟩, HB0.out⟩ | exact ⟨⟨_, _, .inr rfl⟩, HB0.out⟩)
end prp
namespace prp
open Go.RowKit base tok dim
set_option linter.unusedSimpArgs false
def widthT : Bs := [45, 119, 105, 100, 116, 104]
def shadeT : Bs := [45, 99, 111, 108, 111, 114]
def halfD (N : List Bs) (t : Bs) (v : Bs) : List (Bs × Bs) := if v = [] then [] else N.map fun s => (s ++ t, v)
def bordD (N : List Bs) (wd sh : Bs) : List (Bs × Bs) := halfD N widthT wd ++ halfD N shadeT sh
def stageD (N : List Bs) (wd sh : Bs) : Nat -> List (Bs × Bs)
 | 0 => []
 | 1 => halfD N widthT wd
 | _ => bordD N wd sh
theorem half_le (N : List Bs) (t v : Bs) : (halfD N t v).length <= N.length := by
 unfold halfD
 split <;> simp
theorem bordered_any (A C : Option Addr) (cap cap2 n m : Nat) (L N : List Bs) (hn : L.length = n) (hbig : n <= 4194304) (hL : ∀ x ∈ L, x.length <= 4194304) (hm8 : m <= 8) (hNl : N.length = m) (hNs : ∀ x ∈ N, x.length <= 100) (w : World) (hR : SRd w w.heap.size A n L) (hN : SRd w w.heap.size C m N) (hm : MaxL w) (hE : col.ErrsAt w) (hT : PowAt w) :
  Calls Tryz.prog 26 #[.slice A n cap, .slice C m cap2] w fun e w' => (∃ (v : Value) (b : Bool) (D : List (Bs × Bs)), e = .returned (.tuple #[v, .bool b]) /\ w'.ownsRow w.heap.size 49 3 v D.length (flatR dcellsG D) /\ ((b = false /\ D = []) ∨ (b = true /\ ∃ wd sh, D = bordD N wd sh))) /\ Below w.heap.size w w' := by
 obtain ⟨i0, hi, hz0, hz1, hz2⟩ := info_parts infoDG
 have Hz0 := hid hz0
 have Hi := hid hi
 have Hz1 := hid hz1
 have Hz2 := hid hz2
 have cB := hid (border_any A cap n L hn hbig hL w hR hm hE hT)
 have HN := hid hN
 have HNs := hid hNs
 have HNl := hid hNl
 clear hz0 hi hz1 hz2 hN hNs hR hL hn hm hE hT hNl
 go_enter Tryz.func26, Tryz.ntmps26
 go_upto_if 21 with (go_at_call 45; (with_reducible refine cB.out.mono ?_); rintro e W1 ⟨⟨wd, sh, b, rfl⟩, hb⟩; have HB1 := hid hb; clear hb)
 cases b
 ·go_wp2_with fail
  go_ret2
  exact ⟨⟨_, _, [], rfl, World.ownsRow_nil _ _ _ _, .inl ⟨rfl, rfl⟩⟩, HB1.out⟩
 ·obtain ⟨wl, rfl⟩ : ∃ l, wd = bs l := ⟨wd.data.toList, rfl⟩
  obtain ⟨sl, rfl⟩ : ∃ l, sh = bs l := ⟨sh.data.toList, rfl⟩
  go_wp2_with fail
  go_loopw [9, 27] (fun v i wr => ∃ (j : Nat) (D : List (Bs × Bs)), j <= 2 /\ i = .int .i64 j /\ D = stageD N wl sl j /\ wr.ownsRow w.heap.size 49 3 v D.length (flatR dcellsG D) /\ Below w.heap.size w wr) (fun _ i _ => 2 - (intOf i).toNat)
  case atStart => exact ⟨0, [], by omega, rfl, rfl, World.ownsRow_nil _ _ _ _, HB1.out⟩
  case round =>
   obtain ⟨j, D, hj, rfl, hD, hown, hbw⟩ := hrel
   by_cases hlt : j < 2
   ·obtain ⟨sfx, val, hix, hst, hsx⟩ : ∃ sfx val, (∀ W, (Instr.index 99 (.agg #[.string ⟨#[45, 119, 105, 100, 116, 104]⟩, .string (bs wl), .string ⟨#[45, 99, 111, 108, 111, 114]⟩, .string (bs sl)]) (.int .i64 j)).run Tryz.prog W = .ok (.agg #[.string (bs sfx), .string (bs val)]) W) /\ stageD N wl sl (j + 1) = D ++ halfD N sfx val /\ sfx.length <= 10 := by
     have h01 : j = 0 ∨ j = 1 := by omega
     rcases h01 with rfl | rfl
     ·exact ⟨widthT, wl, fun W => by kernel_rfl, by rw [hD]; rfl, by decide⟩
     ·exact ⟨shadeT, sl, fun W => by kernel_rfl, by rw [hD]; rfl, by decide⟩
    have hlt' : decide ((j : Int) < 2) = true := decide_eq_true (by omega)
    have hlt2 : (j : Int) < 2 := by omega
    have HSt := hid hst
    have hDl : D.length <= 8 := by
     rw [hD]
     have h01 : j = 0 ∨ j = 1 := by omega
     have hw := half_le N widthT wl
     rw [HNl.out] at hw
     rcases h01 with rfl | rfl
     ·simp [stageD]
     ·simp only [stageD]; omega
    have HOwn := hid hown
    have HBw := hid hbw
    have HLj := hid hlt
    clear hst hD hown hbw
    go_wp2_with fail
    have hpb : Blk (wr.alloc (.cells #[.string (bs sfx), .string (bs val)] 98)) wr.heap.size 98 #[.string (bs sfx), .string (bs val)] := Blk.new rfl
    have hob : u9.ownBlock ≠ some wr.heap.size := fun e => by have := (HOwn.out.lt _ e).2; omega
    have hbz := HBw.out.size
    have hown0 := HOwn.out.alloc (.cells #[.string (bs sfx), .string (bs val)] 98)
    have hb0 := HBw.out.alloc hbz (.cells #[.string (bs sfx), .string (bs val)] 98)
    obtain ⟨PB, hPB⟩ : ∃ PB, wr.heap.size = PB := ⟨_, rfl⟩
    rw [hPB] at hpb hob hbz ⊢
    generalize hWP : wr.alloc (.cells #[.string (bs sfx), .string (bs val)] 98) = WP at *
    replace hPB := hid hPB
    replace hWP := hid hWP
    replace hpb := hid hpb
    replace hob := hid hob
    replace hown0 := hid hown0
    replace hb0 := hid hb0
    go_loopw [9, 32] (fun v i wq => ∃ (k : Nat) (E : List (Bs × Bs)), k <= m /\ i = .int .i64 k /\ E = D ++ halfD (N.take k) sfx val /\ wq.ownsRow w.heap.size 49 3 v E.length (flatR dcellsG E) /\ v.ownBlock ≠ some PB /\ Blk wq PB 98 #[.string (bs sfx), .string (bs val)] /\ Below w.heap.size w wq) (fun _ i _ => m - (intOf i).toNat)
    case atStart => exact ⟨0, D, by omega, rfl, by unfold halfD; simp, hown0.out, hob.out, hpb.out, hb0.out⟩
    case round =>
     obtain ⟨k, E, hk, rfl, hE, hown, hne, hblk, hbq⟩ := hrel
     by_cases hlk : k < m
     ·have hlk' : (k : Int) < (m : Int) := by omega
      obtain ⟨b, off, x, rfl, hb0, hx, hc⟩ := SRd.get (Rd.keep HN.out hbq hbq.size) hlk
      have hxs := HNs.out x (List.mem_of_getElem? hx)
      have pc := hblk.cell
      have hEl : E.length <= 16 := by
       rw [hE, List.length_append]
       have h1 := half_le (N.take k) sfx val
       rw [List.length_take] at h1
       omega
      by_cases hv : val = []
      ·subst hv
       have hv0 : ((bs ([] : Bs)).toList == []) = true := by rw [bs_toList]; rfl
       have hE2 : E = D ++ halfD (N.take (k + 1)) sfx [] := by rw [hE]; rfl
       replace hown := hid hown
       replace hne := hid hne
       replace hblk := hid hblk
       replace hbq := hid hbq
       replace hE2 := hid hE2
       clear hE hx
       go_wp2_with fail
       exact ⟨⟨k + 1, E, by omega, by go_num, hE2.out, hown.out, hne.out, hblk.out, hbq.out⟩, by simp [intOf]; omega⟩
      ·have hv0 : ((bs val).toList == []) = false := by rw [bs_toList, beq_eq_false_iff_ne]; exact hv
       have hE2 : D ++ halfD (N.take (k + 1)) sfx val = E ++ [(x ++ sfx, val)] := by
        obtain ⟨h1, h2⟩ := List.getElem?_eq_some_iff.1 hx
        rw [hE]
        unfold halfD
        rw [if_neg hv, if_neg hv, List.take_succ_eq_append_getElem h1, List.map_append, List.append_assoc, h2]
        rfl
       have hfl : flatR dcellsG (E ++ [(x ++ sfx, val)]) = flatR dcellsG E ++ [strv (x ++ sfx), strv val, .bool false] := by rw [flatR_snoc]; rfl
       have hcat := bs_cat2 x sfx
       have a1 : ¬ 9223372036854775807 < (bs x).size + (bs sfx).size := by rw [bs_size, bs_size]; omega
       replace hown := hid hown
       replace hne := hid hne
       replace hblk := hid hblk
       replace hbq := hid hbq
       replace hE2 := hid hE2
       replace hfl := hid hfl
       have hqz := hbq.out.size
       clear hE hx
       go_wp2_with (at_builtin; refine wpList_append_own_at _ rfl _ _ 43 rfl w.heap.size 49 i0 (.agg #[.string .empty, .string .empty, .bool false]) 3 40 Tryz.underlying43 Hi.out Hz0.out Hz1.out Hz2.out rfl (by decide) _ _ _ rfl (hown.out.alloc _) ⟨wr.heap.size, 0, none⟩ 1 1 [strv (x ++ sfx), strv val, .bool false] rfl rfl ?c1 ?c2 ?c3 ?c4 ?c5 ?_)
       case c1 => exact (Blk.new (w := wr) (t := 49) (cs := #[strv (x ++ sfx), strv val, .bool false]) rfl).news
       case c2 => simp [Value.oneCell', strv]
       case c3 => unfold maxLen; omega
       case c4 => omega
       case c5 => first | omega | (simp; omega)
       intro v' w1 hown1 hgrow hnil hat
       have hb1 := hid (below_app (hbq.out.alloc hqz _) hgrow (hown.out.alloc _) (Nat.le_refl _) (by simp; omega))
       have hblk1 := hid (Blk_grown7 (hblk.out.alloc _) hgrow (Ne.symm hne.out))
       have hne1 : v'.ownBlock ≠ some PB := fun e => by
        rcases hat with h | h
        ·exact hne.out (h.symm.trans e)
        ·have h3 := Option.some.inj (h.symm.trans e)
         have h4 := hblk.out.lt
         first | omega | (simp at h3; omega)
       replace hown1 := hid hown1
       replace hne1 := hid hne1
       clear hgrow hnil hat
       go_wp2_with fail
       go_roundw
       case rel =>
        refine ⟨_, _, _, _, _, _, _, _, _, _, _, _, _, _, _, _, _, _, _, _, ?_, rfl⟩
        exact ⟨k + 1, E ++ [(x ++ sfx, val)], by omega, by go_num, hE2.out.symm, by rw [hfl.out, List.length_append]; exact hown1.out, hne1.out, hblk1.out, hb1.out⟩
       case measure => simp [intOf]; omega
     ·obtain rfl : k = m := by omega
      have hE3 := hid (show E = stageD N wl sl (j + 1) by rw [HSt.out, hE, List.take_of_length_le (by rw [HNl.out]; exact Nat.le_refl _)])
      replace hown := hid hown
      replace hbq := hid hbq
      clear hne hblk hE
      go_wp2_with fail
      exact ⟨⟨j + 1, E, by omega, by go_num, hE3.out, hown.out, hbq.out⟩, by simp [intOf]; omega⟩
   ·obtain rfl : j = 2 := by omega
    have hD2 := hid (show D = bordD N wl sl from hD)
    have hown2 := hid hown
    have hbw2 := hid hbw
    clear hD hown hbw
    go_wp2_with fail
    go_ret2
    exact ⟨⟨_, true, D, rfl, hown2.out, .inr ⟨rfl, wl, sl, hD2.out⟩⟩, hbw2.out⟩
end prp
namespace prp
open Go.RowKit base tok dim
set_option linter.unusedSimpArgs false
theorem mul_ct (c : Nat) (hc : c <= 8) (w : World) : Calls Tryz.prog 44 #[.int .u64 1, .int .u64 c] w fun e w' => e = .returned (.tuple #[.int .u64 0, .int .u64 c]) /\ w' = w := by
 have h := Any.bits_Mul Tryz.lays212 1 c (by decide) (by omega) w
 rw [Nat.one_mul, Nat.div_eq_of_lt (show c < 18446744073709551616 by omega), Nat.mod_eq_of_lt (show c < 18446744073709551616 by omega)] at h
 exact h
theorem Addr.add_zero' (b off : Nat) : (⟨b, off, none⟩ : Addr).add 0 = ⟨b, off, none⟩ := by unfold Addr.add; split <;> simp_all
theorem row_blkS {w : World} {base : Nat} {e : TypeId} {g n : Nat} {xs : List Value} (h : w.ownsRow base e 1 (.slice (some ⟨g, 0, none⟩) n n) n xs) : ∃ f, w.rowIs g e n f := by
 rcases h.2 with ⟨h1, _⟩ | ⟨g', cap, cur, hv, _, hg, _, _, hs, _⟩
 ·cases h1
 ·injection hv with h1 h2 h3
  cases h1
  refine ⟨fun i => cur[i]?.getD default, cur, hg, by rw [hs, <- h3, Nat.mul_one], fun i hi => ?_⟩
  have : i < cur.size := by rw [hs, <- h3]; omega
  simp [this]
def Filled (w : World) (PB c n : Nat) (s : Bs) : Prop := ∃ f, w.rowIs PB 9 c f /\ ∀ j, j < n -> f j = strv s
theorem copy_fill {w : World} {PB c n : Nat} {s : Bs} (h : Filled w PB c n s) (m : Nat) (src : Addr) (dCap sLen sCap : Nat) (ty : TypeId) (hm : m = Nat.min sLen (c - n)) (hnm : n + m <= c) (hsrc : ∀ j, j < m -> w.cell? (src.add j) = some (strv s)) :
  (Builtin.copy_ #[41, 41] ty #[.slice (some ⟨PB, n, none⟩) (c - n) dCap, .slice (some src) sLen sCap]).run Tryz.prog w = .ok (goInt m) (w.setCells PB n (List.replicate m (strv s))) /\ Filled (w.setCells PB n (List.replicate m (strv s))) PB c (n + m) s := by
 obtain ⟨f, hr, hf⟩ := h
 obtain ⟨i0, hi, hz0, hz1, hz2⟩ := info_parts infoS
 have hs : (Tryz.prog.info? 9).map (·.size) = some 1 := by rw [hi]; simp [hz1]
 have hl : (List.replicate m (strv s)).length = m := List.length_replicate
 refine ⟨?_, _, rowIs_setCells _ n w f hr, fun j hj => ?_⟩
 ·have := run_copy_cells (P := Tryz.prog) w 41 41 ty 9 PB n (c - n) dCap src sLen sCap (List.replicate m (strv s)) Tryz.underlying41 hs (by rw [hl]; exact hm)
   (fun j v hj => by
    rw [List.getElem?_replicate] at hj
    split at hj
    ·rw [<- Option.some.inj hj]; exact hsrc j (by assumption)
    ·cases hj)
   (fun j hj => by rw [hl] at hj; rw [hr.cell (by omega)]; rfl) (fun j hj => hr.frozen _) (fun v hv => by rw [List.eq_of_mem_replicate hv]; rfl)
  rw [hl] at this
  exact this
 ·rw [hl]
  by_cases h1 : n <= j /\ j < n + m
  ·rw [if_pos h1]
   simp [List.getElem?_replicate, show j - n < m by omega]
  ·rw [if_neg h1]
   exact hf j (by omega)
theorem repeat_ct (A : Option Addr) (cap : Nat) (s : Bs) (c : Nat) (h1 : 1 <= c) (h8 : c <= 8) (w : World) (hR : SRd w w.heap.size A 1 [s]) :
  Calls Tryz.prog 25 #[.slice A 1 cap, .int .i64 c] w fun e w' => (∃ B c2, e = .returned (.slice B c c2) /\ SRd w' w'.heap.size B c (List.replicate c s)) /\ Below w.heap.size w w' := by
 obtain ⟨i0, hi, hz0, hz1, hz2⟩ := info_parts infoS
 have Hz0 := hid hz0
 have Hi := hid hi
 have Hz1 := hid hz1
 have Hz2 := hid hz2
 clear hz0 hi hz1 hz2
 obtain ⟨b, off, x, rfl, hb, hx, hc⟩ := SRd.get hR (show 0 < 1 by decide)
 obtain rfl : s = x := by simpa using hx
 clear hR hx
 rw [Nat.add_zero] at hc
 have cM := hid (fun w => mul_ct c h8 w)
 have w1 : ¬ (c : Int) < 0 := by omega
 have w2 : IntKind.u64.wrap (c : Int) = (c : Int) := by rw [IntKind.wrap_u64]; omega
 have w3 : ¬ (9223372036854775807 < (c : Int)) := by omega
 have w4 : IntKind.i64.wrap (c : Int) = (c : Int) := by rw [IntKind.wrap_i64]; omega
 have HC := hid hc
 have HBB := hid hb
 clear hc hb
 go_enter Tryz.func25, Tryz.ntmps25
 go_wp2_with (first
  | (go_at_call 44; (with_reducible refine (cM.out _).mono ?_); rintro e W1 ⟨rfl, rfl⟩)
  | (at_make; refine wpList_make_full _ rfl _ _ 41 rfl W1.heap.size 9 i0 (.string .empty) 1 Tryz.underlying41 Hi.out Hz0.out Hz1.out .i64 .i64 _ _ c rfl rfl (by omega) (by omega) (by rw [Hz2.out]; omega) (by unfold maxLen; omega) (Nat.le_refl _) ?_; intro w5 hrow5 hgrow5; obtain ⟨f5, hf5⟩ := row_blkS hrow5; obtain ⟨hcp5, hfl5⟩ := copy_fill (n := 0) (s := s) ⟨f5, hf5, fun j hj => absurd hj (by omega)⟩ 1 ⟨b, off, none⟩ c 1 cap 3 (by simp only [Nat.min_def]; split <;> omega) (by omega) (fun j hj => by (obtain rfl : j = 0 := (by omega)); rw [Addr.add_zero']; exact (hgrow5.cell HC.out (by simp))); rw [Nat.sub_zero] at hcp5; have HB5 := hid ((show Below W1.heap.size W1 w5 from ⟨hgrow5.os, hgrow5.tape, hgrow5.output, hgrow5.size, fun k hk => hgrow5.block k hk (by simp)⟩)); have HF5 := hid hfl5; have HP5 := hid hcp5; clear hrow5 hgrow5 hcp5 hfl5 hf5)
  | (have hcp := HP5.out; clear HP5; refine Lib.wpList_copy_run _ rfl (.tmp 31) (.tmp 32) 41 41 rfl _ _ rfl rfl hcp ?_; clear hcp))
 obtain ⟨W5, hW5⟩ : ∃ W5, W5 = w5.setCells W1.heap.size 0 [strv s] := ⟨_, rfl⟩
 have HB6 := hid (show Below W1.heap.size W1 W5 by rw [hW5]; exact HB5.out.setCell (p := ⟨W1.heap.size, 0, none⟩) (Nat.le_refl _) _)
 replace HF5 := hid (show Filled W5 W1.heap.size c 1 s by rw [hW5]; exact HF5.out)
 rw [<- hW5]
 replace hW5 := hid hW5
 obtain ⟨PB, hPB⟩ : ∃ PB, W1.heap.size = PB := ⟨_, rfl⟩
 rw [hPB] at HF5 ⊢
 replace hPB := hid hPB
 clear HB5 cM
 go_loopw [8] (fun i wr => ∃ n : Nat, 1 <= n /\ n <= c /\ i = .int .i64 n /\ Filled wr PB c n s /\ Below W1.heap.size W1 wr) (fun i _ => c - (intOf i).toNat)
 case atStart => exact ⟨1, by omega, by omega, rfl, HF5.out, HB6.out⟩
 case round =>
  obtain ⟨n, hn1, hnc, rfl, hfl, hbw⟩ := hrel
  by_cases hlt : n < c
  ·have hlt' : (n : Int) < (c : Int) := by omega
   have hs1 : ∀ W, (Instr.slice 41 (.slice (some ⟨PB, 0, none⟩) c c) (some (.int .i64 n)) none none).run Tryz.prog W = .ok (.slice (some ⟨PB, n, none⟩) (c - n) (c - n)) W := fun W => by
    have := Lib.run_slice_tailV (P := Tryz.prog) W 41 9 Tryz.underlying41 (fun w => by kernel_rfl) PB c n (by omega)
    rw [this, Lib.tailV, if_neg (by omega)]
   obtain ⟨m, hm⟩ : ∃ m, m = Nat.min n (c - n) := ⟨_, rfl⟩
   have hm1 : 1 <= m /\ n + m <= c := by
    rw [hm]; simp only [Nat.min_def]; split <;> omega
   obtain ⟨f, hrow, hf⟩ := hfl
   obtain ⟨hcp, hfl2⟩ := copy_fill (w := wr.drew) (n := n) (s := s) ⟨f, hrow, hf⟩ m ⟨PB, 0, none⟩ (c - n) n c 3 hm hm1.2 (fun j hj => by
    have e : (⟨PB, 0, none⟩ : Addr).add j = ⟨PB, j, none⟩ := by unfold Addr.add; split <;> simp_all
    rw [e]
    have h2 := hrow.cell (i := j) (by omega)
    rw [hf j (by rw [hm] at hj; simp only [Nat.min_def] at hj; split at hj <;> omega)] at h2
    exact h2)
   obtain ⟨W6, hW6⟩ : ∃ W6, W6 = wr.drew.setCells PB n (List.replicate m (strv s)) := ⟨_, rfl⟩
   have HB7 := hid (show Below W1.heap.size W1 W6 by rw [hW6]; exact _root_.Go.below_setCells (by have := hPB.out; omega) _ _ _ (hbw.drew))
   rw [<- hW6] at hcp hfl2
   have HF7 := hid hfl2
   have HP7 := hid hcp
   have HM := hid hm1
   clear hcp hfl2 hm hW6 hrow hf hbw hm1
   have w6 : IntKind.i64.wrap ((n : Int) + (m : Int)) = (n : Int) + m := by rw [IntKind.wrap_i64]; have := HM.out; omega
   replace w6 := hid w6
   go_wp2_with fail
   go_region_law (refine step_copy_runI rfl (.tmp 41) (.tmp 44) 41 41 rfl (.slice (some ⟨PB, n, none⟩) (c - n) (c - n)) (.slice (some ⟨PB, 0, none⟩) n c) (by simp [Act.eval, Act.put]) (by simp [Act.eval, Act.put]) HP7.out ?_)
   go_wp2_with fail
   go_roundw
   case rel =>
    refine ⟨_, _, _, _, _, _, _, _, _, _, _, _, _, _, ?_, rfl⟩
    exact ⟨n + m, by omega, HM.out.2, by rw [w6.out]; go_num, HF7.out, HB7.out⟩
   case measure =>
    have := HM.out
    show c - (intOf (.int .i64 (IntKind.i64.wrap ((n : Int) + (m : Int))))).toNat < c - (intOf (.int .i64 (n : Int))).toNat
    rw [w6.out]
    simp only [intOf]
    omega
  ·obtain rfl : n = c := by omega
   go_wp2
   go_ret
   refine ⟨⟨_, _, rfl, ?_⟩, hbw⟩
   obtain ⟨f, hrow, hf⟩ := hfl
   refine ⟨List.length_replicate, fun _ => ⟨PB, 0, rfl, ?_, fun i d hd j hj => ?_⟩⟩
   ·obtain ⟨cc, hcc, _⟩ := hrow
    exact (Array.getElem?_eq_some_iff.1 hcc).1
   ·obtain rfl : j = 0 := by omega
    rw [List.getElem?_replicate] at hd
    split at hd
    ·obtain rfl := Option.some.inj hd
     rw [Nat.mul_one, Nat.add_zero, Nat.zero_add, hrow.cell (by assumption), hf _ (by assumption)]
     rfl
    ·cases hd
end prp
namespace prp
open Go.RowKit base tok dim
set_option linter.unusedSimpArgs false
theorem step_append_ownS {P : Program} {ops : Array Oper} {o : Oper} {a : Act} {w : World} {K : Act -> World -> Prop} {Q : Exit -> Act -> World -> Prop} {E : Prop}
  (hg : o.guard = none) (s x : Operand) (t : TypeId) (hop : o.op = Op.call { callee := Callee.builtin Builtin.append, args := #[s, x], argTypes := #[t, t] })
  (base : Nat) (e : TypeId) (i : TypeInfo) (z : Value) (size bytes : Nat) (ht : P.underlying t = some (.slice e)) (hi : P.info? e = some i) (hz : i.zero = some z)
  (hsize : i.size = size) (hby : i.bytes = bytes) (hzs : z.cells.size = size) (hsz : 0 < size)
  (v : Value) (n : Nat) (xs : List Value) (hs : a.eval s = v) (hown : w.ownsRow base e size v n xs)
  (ad : Addr) (m c : Nat) (news : List Value) (hx : a.eval x = .slice (some ad) m c) (hl : news.length = m * size) (hnews : ∀ j u, news[j]? = some u -> w.cell? (ad.add j) = some u) (h1 : ∀ u ∈ news, u.oneCell' = true)
  (h63 : n + m <= maxLen) (hbytes : (n + m) * bytes <= 140737488355328) (hbase : base <= w.heap.size)
  (hK : ∀ v' w', w'.ownsRow base e size v' (n + m) (xs ++ news) -> w.grownBy w' v.ownBlock -> (v'.ownBlock = v.ownBlock ∨ v'.ownBlock = some w.heap.size) -> K (a.put o.dst v') w') :
  if Region.wanted o (yielded ops a.tmps) = true then Oper.wp P o a w K Q else E := by
 have hw : Region.wanted o (yielded ops a.tmps) = true := by simp [Region.wanted, hg]
 rw [if_pos hw]
 obtain ⟨v', w', hr, h2, h3, h4, h5⟩ := run_append_own_at (P := P) w base t o.type e i z size bytes ht hi hz hsize hby hzs hsz v n xs hown ad m c news hl hnews h1 h63 hbytes hbase
 unfold Oper.wp execOp
 simp only [hop, resolve, invoke, builtin, Sem.run_bind, Sem.run_pure, Result.andThen_ok, List.map_toArray, List.map_cons, List.map_nil, hs, hx, hr]
 exact hK v' w' h2 h3 h5
def flexT : List Bs := [[], [49], [48]]
theorem flex_news {w : World} {h n : Nat} (hc : ∀ j u, (flexT.map strv)[j]? = some u -> w.cell? ⟨h, j, none⟩ = some u) (hn3 : n <= 3) : ∀ j u, ((flexT.drop n).map strv)[j]? = some u -> w.cell? ((if 3 = n then (⟨h, 0, none⟩ : Addr) else ⟨h, n, none⟩).add j) = some u := fun j u hj => by
 by_cases h3 : 3 = n
 ·subst h3
  simp [flexT] at hj
 ·rw [if_neg h3]
  have e : (⟨h, n, none⟩ : Addr).add j = ⟨h, n + j, none⟩ := by unfold Addr.add; split <;> simp_all
  rw [e]
  refine hc _ _ ?_
  rw [<- hj, List.getElem?_map, List.getElem?_map, List.getElem?_drop]
theorem flex_cells (w : World) : ∀ j u, (flexT.map strv)[j]? = some u -> (w.alloc (.cells #[.string ⟨#[]⟩, .string ⟨#[49]⟩, .string ⟨#[48]⟩] 9)).cell? ⟨w.heap.size, j, none⟩ = some u := fun j u hj => by
 rw [World.cell?_alloc_mark]
 have e : (#[.string ⟨#[]⟩, .string ⟨#[49]⟩, .string ⟨#[48]⟩] : Array Value) = (flexT.map strv).toArray := rfl
 rw [e]
 simpa using hj
theorem envA {w W1 : World} {v : Value} {n : Nat} {xs : List Value} (ho : W1.ownsRow w.drew.heap.size 9 1 v n xs) (hb : Below w.drew.heap.size w.drew W1) (h3 : n <= 3) :
  (W1.alloc (.cells #[.string ⟨#[]⟩, .string ⟨#[49]⟩, .string ⟨#[48]⟩] 9)).ownsRow w.heap.size 9 1 v n xs /\ (∀ j u, ((flexT.drop n).map strv)[j]? = some u -> (W1.alloc (.cells #[.string ⟨#[]⟩, .string ⟨#[49]⟩, .string ⟨#[48]⟩] 9)).cell? ((if 3 = n then (⟨W1.heap.size, 0, none⟩ : Addr) else ⟨W1.heap.size, n, none⟩).add j) = some u) /\ Below w.heap.size w (W1.alloc (.cells #[.string ⟨#[]⟩, .string ⟨#[49]⟩, .string ⟨#[48]⟩] 9)) /\ w.heap.size <= (W1.alloc (.cells #[.string ⟨#[]⟩, .string ⟨#[49]⟩, .string ⟨#[48]⟩] 9)).heap.size := by
 have hb' : Below w.heap.size w W1 := (Below.refl w.heap.size w).drew.trans hb
 have hz : w.heap.size <= W1.heap.size := hb'.size
 exact ⟨ho.alloc _, flex_news (flex_cells W1) h3, hb'.alloc hz _, by rw [World.size_alloc]; omega⟩
theorem envB {w W1 : World} {v : Value} {n : Nat} {xs : List Value} (ho : W1.ownsRow (w.alloc (.cells #[.string ⟨#[]⟩, .string ⟨#[49]⟩, .string ⟨#[48]⟩] 9)).drew.heap.size 9 1 v n xs) (hb : Below (w.alloc (.cells #[.string ⟨#[]⟩, .string ⟨#[49]⟩, .string ⟨#[48]⟩] 9)).drew.heap.size (w.alloc (.cells #[.string ⟨#[]⟩, .string ⟨#[49]⟩, .string ⟨#[48]⟩] 9)).drew W1) (h3 : n <= 3) :
  W1.ownsRow w.heap.size 9 1 v n xs /\ (∀ j u, ((flexT.drop n).map strv)[j]? = some u -> W1.cell? ((if 3 = n then (⟨w.heap.size, 0, none⟩ : Addr) else ⟨w.heap.size, n, none⟩).add j) = some u) /\ Below w.heap.size w W1 /\ w.heap.size <= W1.heap.size := by
 have hz : (w.alloc (.cells #[.string ⟨#[]⟩, .string ⟨#[49]⟩, .string ⟨#[48]⟩] 9)).drew.heap.size = w.heap.size + 1 := World.size_alloc _ _
 have h1 : Below w.heap.size w W1 := (ba w (.cells #[.string ⟨#[]⟩, .string ⟨#[49]⟩, .string ⟨#[48]⟩] 9)).drew.trans (hb.mono (by omega))
 refine ⟨ho.mono (by omega), flex_news (fun j u hj => ?_) h3, h1, h1.size⟩
 exact (hb.cell (p := ⟨w.heap.size, j, none⟩) (by show w.heap.size < _; omega)).trans (flex_cells w j u hj)
theorem flex_done {w : World} {base n : Nat} {v : Value} {L : List Bs} (hn : L.length = n) (h3 : n <= 3) (h : w.ownsRow base 9 1 v (n + (3 - n)) (L.map strv ++ (flexT.drop n).map strv)) : ∃ A cap, v = .slice A 3 cap /\ SRd w w.heap.size A 3 (L ++ flexT.drop n) := by
 rw [<- List.map_append, show n + (3 - n) = 3 by omega] at h
 obtain ⟨A, cap, hv, -, hr⟩ := row_srd (by rw [List.length_append, List.length_drop, hn]; simp only [flexT, List.length_cons, List.length_nil]; omega) h
 exact ⟨A, cap, hv, hr⟩
def FlexR (w : World) : Ending -> World -> Prop := fun e w' => (e = .returned (.tuple #[.slice none 0 0, .bool false]) ∨ ∃ B c2 V, e = .returned (.tuple #[.slice B 3 c2, .bool true]) /\ SRd w' w'.heap.size B 3 V) /\ Below w.heap.size w w'
theorem flex_any (A : Option Addr) (cap n : Nat) (L : List Bs) (hn : L.length = n) (hL : ∀ x ∈ L, x.length <= 4194304) (w : World) (hR : SRd w w.heap.size A n L) :
  Calls Tryz.prog 28 #[.slice A n cap] w (FlexR w) := by
 obtain ⟨i0, hi, hz0, hz1, hz2⟩ := info_parts infoS
 have Hz0 := hid hz0
 have Hi := hid hi
 have Hz1 := hid hz1
 have Hz2 := hid hz2
 have HR := hid hR
 clear hz0 hi hz1 hz2
 by_cases h03 : n < 1 ∨ 3 < n
 ·clear hR hn hL
  rcases h03 with h | h
  ·have h1 : (n : Int) < 1 := by omega
   go_enter Tryz.func28, Tryz.ntmps28
   go_wp2_with fail
   go_ret2
   exact ⟨.inl rfl, Below.refl _ _⟩
  ·have h1 : ¬ (n : Int) < 1 := by omega
   have h3 : (3 : Int) < (n : Int) := by omega
   go_enter Tryz.func28, Tryz.ntmps28
   go_wp2_with fail
   go_ret2
   exact ⟨.inl rfl, Below.refl _ _⟩
 ·have h1 : ¬ (n : Int) < 1 := by omega
  have h3 : ¬ (3 : Int) < (n : Int) := by omega
  have hs1 : ∀ W b, (Instr.slice 41 (.slice (some ⟨b, 0, none⟩) 3 3) (some (.int .i64 n)) none none).run Tryz.prog W = .ok (Lib.tailV b 3 n) W := fun W b =>
   Lib.run_slice_tailV (P := Tryz.prog) W 41 9 Tryz.underlying41 (fun w => by kernel_rfl) b 3 n (by omega)
  have cC := hid (fun w (hI : SRd w w.heap.size A n L) => (show Calls Tryz.prog 46 #[.slice A n cap] w fun e w' => (∃ v, e = .returned v /\ w'.ownsRow w.heap.size 9 1 v n (L.map strv)) /\ Below w.heap.size w w' from by
   subst hn
   exact clone_ct A cap L (by omega) w hI))
  have hnews : ∀ w h, (∀ j u, (flexT.map strv)[j]? = some u -> World.cell? w ⟨h, j, none⟩ = some u) -> _ := fun w h hc => flex_news (n := n) (w := w) (h := h) hc (by omega)
  have HN := hid hnews
  have HN3 : n <= 3 := by omega
  have HLn := hid hn
  clear hnews
  go_enter Tryz.func28, Tryz.ntmps28
  by_cases hn1 : n = 1
  ·have g1 : ((n : Int) == 1) = true := by rw [hn1]; rfl
   have g2 : decide ((n : Int) = 1) = true := decide_eq_true (by omega)
   have g3 : (0 : Int) < (n : Int) := by omega
   obtain ⟨b, off, x, rfl, hb0, hx, hc⟩ := SRd.get hR (show 0 < n by omega)
   rw [Nat.add_zero] at hc
   have hxl := hL x (List.mem_of_getElem? hx)
   have cL := hid (fun w => lower_ct (bs x) (by rw [bs_size]; omega) w)
   rw [show (bs x).data.toList = x from rfl] at cL
   generalize x.map lowB = l at *
   clear h03 hR hn hL hx hxl hb0 hn1
   go_upto_region 5 with (go_at_call 43; (with_reducible refine (cL.out _).mono ?_); rintro e W0 ⟨rfl, hb⟩; have HB0 := hid hb; have HR0 := hid (Rd.keep HR.out hb hb.size); clear hb)
   by_cases hl1 : l = [110, 111, 110, 101]
   ·subst hl1
    have e1 : ((bs ([110, 111, 110, 101] : Bs)).toList == [110, 111, 110, 101]) = true := by rw [bs_toList]; rfl
    go_wp2_with fail
    go_ret2
    obtain ⟨B, c2, hv, -, hr⟩ := row_srd (by decide) (row_lit W0 [[48], [48], [97, 117, 116, 111]] 3 (by decide) (by decide))
    cases hv
    exact ⟨.inr ⟨_, _, _, rfl, hr⟩, HB0.out.alloc HB0.out.size _⟩
   by_cases hl2 : l = [97, 117, 116, 111]
   ·subst hl2
    have e1 : ((bs ([97, 117, 116, 111] : Bs)).toList == [110, 111, 110, 101]) = false := by rw [bs_toList]; rfl
    have e2 : ((bs ([97, 117, 116, 111] : Bs)).toList == [97, 117, 116, 111]) = true := by rw [bs_toList]; rfl
    go_wp2_with fail
    go_ret2
    obtain ⟨B, c2, hv, -, hr⟩ := row_srd (by decide) (row_lit W0 [[49], [49], [97, 117, 116, 111]] 3 (by decide) (by decide))
    cases hv
    exact ⟨.inr ⟨_, _, _, rfl, hr⟩, HB0.out.alloc HB0.out.size _⟩
   have e1 : ((bs l).toList == [110, 111, 110, 101]) = false := by rw [bs_toList, beq_eq_false_iff_ne]; exact hl1
   have e2 : ((bs l).toList == [97, 117, 116, 111]) = false := by rw [bs_toList, beq_eq_false_iff_ne]; exact hl2
   go_wp2_with fail
   have HRB := hid (show SRd (W0.alloc (.cells #[.string ⟨#[]⟩, .string ⟨#[49]⟩, .string ⟨#[48]⟩] 9)).drew (W0.alloc (.cells #[.string ⟨#[]⟩, .string ⟨#[49]⟩, .string ⟨#[48]⟩] 9)).drew.heap.size (some ⟨b, off, none⟩) n L from Rd.keep HR0.out ((ba W0 (.cells #[.string ⟨#[]⟩, .string ⟨#[49]⟩, .string ⟨#[48]⟩] 9)).drew) (by show _ <= (W0.alloc (.cells #[.string ⟨#[]⟩, .string ⟨#[49]⟩, .string ⟨#[48]⟩] 9)).heap.size; rw [World.size_alloc]; exact Nat.le_succ _))
   go_region_law (first
    | (refine step_append_ownS rfl _ _ 41 rfl _ 9 i0 (.string .empty) 1 16 Tryz.underlying41 Hi.out Hz0.out Hz1.out Hz2.out rfl (by decide) _ _ _ rfl HO2.out _ (3 - n) (3 - n) _ rfl (by simp [flexT]) HN2.out (strs_one _) (by unfold maxLen; omega) (by omega) HZ2.out ?_; intro v4 w4 ho4 hg4 ha4; have HB4 := hid (below_app HB2.out hg4 HO2.out (Nat.le_refl _) HB2.out.size); obtain ⟨A4, c4, hv4, hr4⟩ := flex_done HLn.out HN3 ho4; cases hv4; have HR4 := hid hr4; clear ho4 hg4 ha4 hr4)
    | (go_simp; go_wp2_with (first
      | (go_at_call 46; have HSR : SRd W0.drew W0.drew.heap.size (some ⟨b, off, none⟩) n L := HR0.out; (with_reducible refine (cC.out _ HSR).mono ?_); clear HSR; rintro e W1 ⟨⟨v, rfl, ho⟩, hb⟩; obtain ⟨he1, he2, he3, he4⟩ := envA ho hb HN3; have HO2 := hid he1; have HN2 := hid he2; have HB2 := hid he3; have HZ2 := hid he4; clear ho hb he1 he2 he3 he4)
      | (go_at_call 46; have HSR : SRd (W0.alloc (.cells #[.string ⟨#[]⟩, .string ⟨#[49]⟩, .string ⟨#[48]⟩] 9)).drew (W0.alloc (.cells #[.string ⟨#[]⟩, .string ⟨#[49]⟩, .string ⟨#[48]⟩] 9)).drew.heap.size (some ⟨b, off, none⟩) n L := HRB.out; (with_reducible refine (cC.out _ HSR).mono ?_); clear HSR; rintro e W1 ⟨⟨v, rfl, ho⟩, hb⟩; obtain ⟨he1, he2, he3, he4⟩ := envB ho hb HN3; have HO2 := hid he1; have HN2 := hid he2; have HB2 := hid he3; have HZ2 := hid he4; clear ho hb he1 he2 he3 he4))))
   all_goals
    go_wp2_with fail
    go_ret2
    exact ⟨.inr ⟨_, _, _, rfl, HR4.out⟩, HB0.out.trans (HB4.out.mono HB0.out.size)⟩
  ·have g1 : ((n : Int) == 1) = false := bq (by omega)
   have g2 : ¬ (n : Int) = 1 := by omega
   clear h03 hn1 hR hn
   go_wp2_with fail
   have HRB := hid (show SRd (w.alloc (.cells #[.string ⟨#[]⟩, .string ⟨#[49]⟩, .string ⟨#[48]⟩] 9)).drew (w.alloc (.cells #[.string ⟨#[]⟩, .string ⟨#[49]⟩, .string ⟨#[48]⟩] 9)).drew.heap.size A n L from Rd.keep HR.out ((ba w (.cells #[.string ⟨#[]⟩, .string ⟨#[49]⟩, .string ⟨#[48]⟩] 9)).drew) (by show _ <= (w.alloc (.cells #[.string ⟨#[]⟩, .string ⟨#[49]⟩, .string ⟨#[48]⟩] 9)).heap.size; rw [World.size_alloc]; exact Nat.le_succ _))
   go_region_law (first
    | (refine step_append_ownS rfl _ _ 41 rfl _ 9 i0 (.string .empty) 1 16 Tryz.underlying41 Hi.out Hz0.out Hz1.out Hz2.out rfl (by decide) _ _ _ rfl HO2.out _ (3 - n) (3 - n) _ rfl (by simp [flexT]) HN2.out (strs_one _) (by unfold maxLen; omega) (by omega) HZ2.out ?_; intro v4 w4 ho4 hg4 ha4; have HB4 := hid (below_app HB2.out hg4 HO2.out (Nat.le_refl _) HB2.out.size); obtain ⟨A4, c4, hv4, hr4⟩ := flex_done HLn.out HN3 ho4; cases hv4; have HR4 := hid hr4; clear ho4 hg4 ha4 hr4)
    | (go_simp; go_wp2_with (first
      | (go_at_call 46; have HSR : SRd w.drew w.drew.heap.size A n L := HR.out; (with_reducible refine (cC.out _ HSR).mono ?_); clear HSR; rintro e W1 ⟨⟨v, rfl, ho⟩, hb⟩; obtain ⟨he1, he2, he3, he4⟩ := envA ho hb HN3; have HO2 := hid he1; have HN2 := hid he2; have HB2 := hid he3; have HZ2 := hid he4; clear ho hb he1 he2 he3 he4)
      | (go_at_call 46; have HSR : SRd (w.alloc (.cells #[.string ⟨#[]⟩, .string ⟨#[49]⟩, .string ⟨#[48]⟩] 9)).drew (w.alloc (.cells #[.string ⟨#[]⟩, .string ⟨#[49]⟩, .string ⟨#[48]⟩] 9)).drew.heap.size A n L := HRB.out; (with_reducible refine (cC.out _ HSR).mono ?_); clear HSR; rintro e W1 ⟨⟨v, rfl, ho⟩, hb⟩; obtain ⟨he1, he2, he3, he4⟩ := envB ho hb HN3; have HO2 := hid he1; have HN2 := hid he2; have HB2 := hid he3; have HZ2 := hid he4; clear ho hb he1 he2 he3 he4))))
   all_goals
    go_wp2_with fail
    go_ret2
    exact ⟨.inr ⟨_, _, _, rfl, HR4.out⟩, HB4.out⟩
end prp
end Go.Proofs.YthgffoanecknoaaGreatDoor
