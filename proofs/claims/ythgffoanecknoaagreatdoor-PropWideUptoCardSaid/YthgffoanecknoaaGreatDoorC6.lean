/- Contracts and plain law, a bundle. -/
import Derived.Deep.Onto
import Derived.Lib.Hide
import Derived.Test.YthgffoanecknoaaGreatDoorC4
set_option linter.unusedVariables false
set_option maxRecDepth 100000
set_option maxHeartbeats 16000000
open Go.Lib (hid)
namespace Go.Proofs.YthgffoanecknoaaGreatDoor
namespace prp
open Go.RowKit base tok
set_option linter.unusedSimpArgs false
def strv (x : Bs) : Value := .string (bs x)
theorem bs_cat2 (a b : Bs) : bs a ++ bs b = bs (a ++ b) := by
 apply ByteArray.ext; apply Array.ext'
 simp [bs, ByteArray.data_append]
theorem set_last {ini : List Bs} {la x : Bs} {j : Nat} (h : ini.length = j) : ((ini ++ [la]).map strv).set j (strv x) = (ini ++ [x]).map strv := by
 subst h
 rw [List.map_append, List.set_append_right _ _ (by simp)]
 simp
theorem row_at7 {w : World} {base : Nat} {e : TypeId} {size : Nat} {v : Value} {n : Nat} {xs : List Value} (h : w.ownsRow base e size v n xs) (h0 : 0 < n) : ∃ g cap, v = .slice (some ⟨g, 0, none⟩) n cap /\ base <= g /\ g < w.heap.size := by
 obtain ⟨g, cap, rfl⟩ : ∃ g cap, v = .slice (some ⟨g, 0, none⟩) n cap := by
  rcases h.2 with ⟨rfl, h'⟩ | ⟨g, cap, cur, rfl, _⟩
  ·omega
  ·exact ⟨_, _, rfl⟩
 have := h.lt g rfl
 exact ⟨g, cap, rfl, this.1, this.2⟩
theorem Blk_grown7 {w w' : World} {k : Nat} {r : Option Nat} {t : TypeId} {cs : Array Value} (h : Blk w k t cs) (hg : w.grownBy w' r) (hk : some k ≠ r) : Blk w' k t cs := (hg.block k h.lt hk).trans h
def Rel7 (L : List Tk) (w W1 : World) (v d o i : Value) (wr : World) : Prop :=
 ∃ k : Nat, k <= L.length /\ i = .int .i64 k /\ d = .int .i64 (partsF (L.take k)).deep /\ o = .bool (partsF (L.take k)).op /\ wr.ownsRow W1.heap.size 9 1 v (partsF (L.take k)).out.length ((partsF (L.take k)).out.map strv) /\ Below W1.heap.size W1 wr
theorem Rel7.next {L : List Tk} {w W1 : World} {k : Nat} {t : Tk} (ht : L[k]? = some t) {S : Pst} (hS : stepP (partsF (L.take k)) t = S) (v d o : Value) (wr : World) (h : d = .int .i64 S.deep /\ o = .bool S.op /\ wr.ownsRow W1.heap.size 9 1 v S.out.length (S.out.map strv) /\ Below W1.heap.size W1 wr) : Rel7 L w W1 v d o (.int .i64 ((k : Int) + 1)) wr := by
 obtain ⟨hk, _⟩ := List.getElem?_eq_some_iff.1 ht
 refine ⟨k + 1, by omega, by go_num, ?_⟩
 rw [parts_step ht, hS]
 exact h
theorem parts_row (s : ByteArray) (hs : s.size < 4294967281) (w : World) (hm : MaxL w) : Calls Tryz.prog 22 #[.string s] w fun e w' => (∃ v, e = .returned v /\ w'.ownsRow w.heap.size 9 1 v (partsP s.data.toList).length ((partsP s.data.toList).map strv)) /\ Below w.heap.size w w' := by
 obtain ⟨i0, hi, hz0, hz1, hz2⟩ := info_parts infoS
 have Hz0 := hid hz0
 have Hi := hid hi
 have Hz1 := hid hz1
 have Hz2 := hid hz2
 have cC := cut_ct s hs w hm
 have hfew := cut_few s.data.toList
 have htxt := congrArg List.length (cut_text s.data.toList)
 have hsz := Lib.size_eq s
 unfold partsP
 generalize cutP s.data.toList = L at *
 have hn9 : L.length < 4294967281 := by omega
 have ht9 : (textOf L).length < 4294967281 := by omega
 replace cC := hid cC
 clear hz0 hi hz1 hz2 hfew htxt hsz
 go_enter Tryz.func22, Tryz.ntmps22
 go_wp2_with (first
  | (go_at_call 42; (with_reducible refine cC.out.mono ?_); rintro e W1 ⟨⟨A, cap, rfl, hcap, hT⟩, hb1⟩; have HT := hid hT; have HB1 := hid hb1; have hz1 := hb1.size; clear hT hb1))
 go_loopw [3, 4, 5, 11] (fun v d o i wr => Rel7 L w W1 v d o i wr) (fun _ _ _ i _ => L.length - (intOf i).toNat)
 case atStart => exact ⟨0, by omega, rfl, rfl, rfl, World.ownsRow_nil _ _ _ _, Below.refl _ _⟩
 case round =>
  obtain ⟨k, hk, rfl, rfl, rfl, hown, hb⟩ := hrel
  by_cases hkn : k < L.length
  ·have i1 : (k : Int) < (L.length : Int) := by omega
   obtain ⟨b, off, t, rfl, hlt, hd, e0, e1, e2, e3⟩ := TRd.tok (HT.out.keep hb hb.size) hkn
   have hinv := inv_all L k hk
   have hinv2 := inv_all L (k + 1) hkn
   have hnext := fun (S : Pst) hS => Rel7.next (w := w) (W1 := W1) hd (S := S) hS
   rw [parts_step hd] at hinv2
   have htp := text_part (L := L) k
   have htq := text_part (L := L) (k + 1)
   have hts := congrArg List.length (text_step hd)
   rw [List.length_append] at hts
   have htk : (L.take k).length <= L.length := List.length_take_le' _ _
   have HOwn := hid hown
   have HB := hid hb
   have hbz := hb.size
   clear hown hb
   generalize hS : partsF (L.take k) = S at *
   obtain ⟨out, dp, op⟩ := S
   obtain ⟨tk, tr, tv, tn⟩ := t
   obtain ⟨v1, v2, v3, v4⟩ := hinv
   simp only at *
   by_cases k8 : tk = 8
   ·subst k8
    by_cases d0 : dp = 0
    ·subst d0
     have hrel' := hid (hnext ⟨out, 0, false⟩ (by simp [stepP, gapK]))
     go_wp2_with fail
     go_roundw
     case rel => exact hrel'.out _ _ _ _ ⟨rfl, rfl, HOwn.out.alloc _, HB.out.alloc (by omega) _⟩
     case measure => simp [intOf]; omega
    ·have d1 : ¬ (dp : Int) = 0 := by omega
     have d2 : ((dp : Int) == 0) = false := bq d1
     cases op
     ·have hrel' := hid (hnext ⟨out ++ [tr], dp, true⟩ (by simp [stepP, gapK, deepK, d0]))
      obtain ⟨j, hij⟩ : ∃ j, out.length = j := ⟨_, rfl⟩
      rw [hij] at HOwn
      obtain ⟨av, ac, hv⟩ := row_form HOwn.out
      subst hv
      have hne : some wr.heap.size ≠ Value.ownBlock (.slice av j ac) := fun e => by have := (HOwn.out.lt _ e.symm).2; omega
      have hne2 := hid hne
      clear hne
      have Q0 := hid (show Blk ((wr.alloc (.cells #[.int .i64 8, .string (bs tr), .string (bs tv), .int .i64 tn] 92)).alloc (.cells #[.string ⟨#[]⟩] 9)) wr.heap.size 92 #[.int .i64 8, .string (bs tr), .string (bs tv), .int .i64 tn] from (Blk.new rfl).alloc _)
      go_wp2_with (at_builtin; refine wpList_append_own _ rfl _ _ 41 rfl W1.heap.size 9 i0 (.string .empty) 1 16 Tryz.underlying41 Hi.out Hz0.out Hz1.out Hz2.out rfl (by decide) _ _ _ rfl ((HOwn.out.alloc (.cells #[.int .i64 8, .string (bs tr), .string (bs tv), .int .i64 tn] 92)).alloc _) ⟨wr.heap.size + 1, 0, none⟩ 1 1 [strv []] rfl rfl ?c1 ?c2 ?c3 ?c4 ?c5 ?_)
      case c1 => exact fun j u h => h
      case c2 => simp [Value.oneCell', strv]
      case c3 => unfold maxLen; omega
      case c4 => omega
      case c5 => first | omega | (simp; omega)
      intro v' X hown1 hgrow hnil
      have HBX := hid (below_app ((HB.out.alloc (by omega) (.cells #[.int .i64 8, .string (bs tr), .string (bs tv), .int .i64 tn] 92)).alloc (by simp; omega) _) hgrow ((HOwn.out.alloc (.cells #[.int .i64 8, .string (bs tr), .string (bs tv), .int .i64 tn] 92)).alloc _) (Nat.le_refl _) (by simp; omega))
      have Q1 := Blk_grown7 Q0.out hgrow hne2.out
      have q1 := Q1.cell
      replace hown1 : X.ownsRow W1.heap.size 9 1 v' (j + 1) ((out ++ [[]]).map strv) := by simpa using hown1
      obtain ⟨g, c1, rfl, hg1, hg2⟩ := row_at7 hown1 (by omega)
      have HY := hid (show X.ownsRow W1.heap.size 9 1 (.slice (some ⟨g, 0, none⟩) (j + 1) c1) (j + 1) ((out ++ [[]]).map strv) from hown1)
      have hla : (List.nil : Bs).length + tr.length < 4294967281 := by simp; omega
      clear hown1 hgrow hnil Q1
      generalize hini : out = ini at *
      obtain ⟨la, hla2⟩ : ∃ la : Bs, la = [] := ⟨_, rfl⟩
      rw [<- hla2] at HY hla
      have hrl := hid (show ini ++ [la ++ tr] = ini ++ [tr] by rw [hla2]; rfl)
      rw [<- hrl.out] at hrel'
      clear hla2
      go_wp2_with fail
      have y0 : X.cell? ⟨g, j, none⟩ = some (.string (bs la)) := by
       have h := HY.out.cellAt j (by omega)
       rw [h, List.getElem?_map, List.getElem?_append_right (by omega)]
       simp [hij, strv]
      have y1 : X.frozen? ⟨g, j, none⟩ = false := HY.out.frozenAt j
      have y2 : ¬ 9223372036854775807 < (bs la).size + (bs tr).size := by rw [bs_size, bs_size]; omega
      have y3 : (j : Int) < (j : Int) + 1 := by omega
      have y4 : (j : Int) + 1 - 1 = (j : Int) := by omega
      have y5 : IntKind.i64.wrap ((j : Int) + 1 - 1) = (j : Int) := by rw [y4]; exact IntWalk.i64_in _ (by omega)
      have y6 := hid (bs_cat2 la tr)
      have hst := hid (HY.out.stored j (strv (la ++ tr)))
      have hs2 := hid (set_last (la := la) (x := la ++ tr) hij)
      go_region
      all_goals
       go_wp2_with fail
       go_roundw
       case rel =>
        refine hrel'.out _ _ _ _ ⟨by first | rfl | go_num | (simp; omega), rfl, ?_, ?_⟩
        ·have h := hst.out.1
         rw [hs2.out] at h
         rw [y6.out]
         have h5 : (ini ++ [la ++ tr]).length = j + 1 := by simp [hij]
         rw [h5]
         first | exact h | exact h.drew
        ·have h := HBX.out.setCell (p := ⟨g, j, none⟩) hg1 (.string (bs la ++ bs tr))
         first | exact h | exact h.drew
       case measure => simp [intOf]; omega
     ·obtain ⟨ini, la, rfl⟩ : ∃ ini la, out = ini ++ [la] := ⟨_, _, last_split (v1 rfl)⟩
      have hrel' := hid (hnext ⟨ini ++ [la ++ tr], dp, true⟩ (by simp [stepP, gapK, deepK, addLast, d0]))
      obtain ⟨j, hij⟩ : ∃ j, ini.length = j := ⟨_, rfl⟩
      have hla : la.length + tr.length < 4294967281 := by rw [sum_snoc] at v3; omega
      have hl1 : (ini ++ [la]).length = j + 1 := by simp [hij]
      have HX := HOwn.out.alloc (.cells #[.int .i64 8, .string (bs tr), .string (bs tv), .int .i64 tn] 92)
      rw [hl1] at HX
      obtain ⟨g, c1, rfl, hg1, hg2⟩ := row_at7 HX (by omega)
      have HY := hid HX
      have q1 := (Blk.new rfl : Blk (wr.alloc (.cells #[.int .i64 8, .string (bs tr), .string (bs tv), .int .i64 tn] 92)) wr.heap.size 92 #[.int .i64 8, .string (bs tr), .string (bs tv), .int .i64 tn]).cell
      have HBX := hid (HB.out.alloc (by omega) (.cells #[.int .i64 8, .string (bs tr), .string (bs tv), .int .i64 tn] 92))
      rw [hl1] at v2
      clear HX
      go_wp2_with fail
      generalize wr.alloc (.cells #[.int .i64 8, .string (bs tr), .string (bs tv), .int .i64 tn] 92) = X at *
      have y0 : X.cell? ⟨g, j, none⟩ = some (.string (bs la)) := by
       have h := HY.out.cellAt j (by omega)
       rw [h, List.getElem?_map, List.getElem?_append_right (by omega)]
       simp [hij, strv]
      have y1 : X.frozen? ⟨g, j, none⟩ = false := HY.out.frozenAt j
      have y2 : ¬ 9223372036854775807 < (bs la).size + (bs tr).size := by rw [bs_size, bs_size]; omega
      have y3 : (j : Int) < (j : Int) + 1 := by omega
      have y4 : (j : Int) + 1 - 1 = (j : Int) := by omega
      have y5 : IntKind.i64.wrap ((j : Int) + 1 - 1) = (j : Int) := by rw [y4]; exact IntWalk.i64_in _ (by omega)
      have y6 := hid (bs_cat2 la tr)
      have hst := hid (HY.out.stored j (strv (la ++ tr)))
      have hs2 := hid (set_last (la := la) (x := la ++ tr) hij)
      go_region
      all_goals
       go_wp2_with fail
       go_roundw
       case rel =>
        refine hrel'.out _ _ _ _ ⟨by first | rfl | go_num | (simp; omega), rfl, ?_, ?_⟩
        ·have h := hst.out.1
         rw [hs2.out] at h
         rw [y6.out]
         have h5 : (ini ++ [la ++ tr]).length = j + 1 := by simp [hij]
         rw [h5]
         first | exact h | exact h.drew
        ·have h := HBX.out.setCell (p := ⟨g, j, none⟩) hg1 (.string (bs la ++ bs tr))
         first | exact h | exact h.drew
       case measure => simp [intOf]; omega
   ·have z8 := k8
    by_cases k9 : tk = 9
    ·subst k9
     by_cases d0 : dp = 0
     ·subst d0
      have hrel' := hid (hnext ⟨out, 0, false⟩ (by simp [stepP, gapK]))
      go_wp2_with fail
      go_roundw
      case rel => exact hrel'.out _ _ _ _ ⟨rfl, rfl, HOwn.out.alloc _, HB.out.alloc (by omega) _⟩
      case measure => simp [intOf]; omega
     ·have d1 : ¬ (dp : Int) = 0 := by omega
      have d2 : ((dp : Int) == 0) = false := bq d1
      cases op
      ·have hrel' := hid (hnext ⟨out ++ [tr], dp, true⟩ (by simp [stepP, gapK, deepK, d0]))
       obtain ⟨j, hij⟩ : ∃ j, out.length = j := ⟨_, rfl⟩
       rw [hij] at HOwn
       obtain ⟨av, ac, hv⟩ := row_form HOwn.out
       subst hv
       have hne : some wr.heap.size ≠ Value.ownBlock (.slice av j ac) := fun e => by have := (HOwn.out.lt _ e.symm).2; omega
       have hne2 := hid hne
       clear hne
       have Q0 := hid (show Blk ((wr.alloc (.cells #[.int .i64 9, .string (bs tr), .string (bs tv), .int .i64 tn] 92)).alloc (.cells #[.string ⟨#[]⟩] 9)) wr.heap.size 92 #[.int .i64 9, .string (bs tr), .string (bs tv), .int .i64 tn] from (Blk.new rfl).alloc _)
       go_wp2_with (at_builtin; refine wpList_append_own _ rfl _ _ 41 rfl W1.heap.size 9 i0 (.string .empty) 1 16 Tryz.underlying41 Hi.out Hz0.out Hz1.out Hz2.out rfl (by decide) _ _ _ rfl ((HOwn.out.alloc (.cells #[.int .i64 9, .string (bs tr), .string (bs tv), .int .i64 tn] 92)).alloc _) ⟨wr.heap.size + 1, 0, none⟩ 1 1 [strv []] rfl rfl ?c1 ?c2 ?c3 ?c4 ?c5 ?_)
       case c1 => exact fun j u h => h
       case c2 => simp [Value.oneCell', strv]
       case c3 => unfold maxLen; omega
       case c4 => omega
       case c5 => first | omega | (simp; omega)
       intro v' X hown1 hgrow hnil
       have HBX := hid (below_app ((HB.out.alloc (by omega) (.cells #[.int .i64 9, .string (bs tr), .string (bs tv), .int .i64 tn] 92)).alloc (by simp; omega) _) hgrow ((HOwn.out.alloc (.cells #[.int .i64 9, .string (bs tr), .string (bs tv), .int .i64 tn] 92)).alloc _) (Nat.le_refl _) (by simp; omega))
       have Q1 := Blk_grown7 Q0.out hgrow hne2.out
       have q1 := Q1.cell
       replace hown1 : X.ownsRow W1.heap.size 9 1 v' (j + 1) ((out ++ [[]]).map strv) := by simpa using hown1
       obtain ⟨g, c1, rfl, hg1, hg2⟩ := row_at7 hown1 (by omega)
       have HY := hid (show X.ownsRow W1.heap.size 9 1 (.slice (some ⟨g, 0, none⟩) (j + 1) c1) (j + 1) ((out ++ [[]]).map strv) from hown1)
       have hla : (List.nil : Bs).length + tr.length < 4294967281 := by simp; omega
       clear hown1 hgrow hnil Q1
       generalize hini : out = ini at *
       obtain ⟨la, hla2⟩ : ∃ la : Bs, la = [] := ⟨_, rfl⟩
       rw [<- hla2] at HY hla
       have hrl := hid (show ini ++ [la ++ tr] = ini ++ [tr] by rw [hla2]; rfl)
       rw [<- hrl.out] at hrel'
       clear hla2
       go_wp2_with fail
       have y0 : X.cell? ⟨g, j, none⟩ = some (.string (bs la)) := by
        have h := HY.out.cellAt j (by omega)
        rw [h, List.getElem?_map, List.getElem?_append_right (by omega)]
        simp [hij, strv]
       have y1 : X.frozen? ⟨g, j, none⟩ = false := HY.out.frozenAt j
       have y2 : ¬ 9223372036854775807 < (bs la).size + (bs tr).size := by rw [bs_size, bs_size]; omega
       have y3 : (j : Int) < (j : Int) + 1 := by omega
       have y4 : (j : Int) + 1 - 1 = (j : Int) := by omega
       have y5 : IntKind.i64.wrap ((j : Int) + 1 - 1) = (j : Int) := by rw [y4]; exact IntWalk.i64_in _ (by omega)
       have y6 := hid (bs_cat2 la tr)
       have hst := hid (HY.out.stored j (strv (la ++ tr)))
       have hs2 := hid (set_last (la := la) (x := la ++ tr) hij)
       go_region
       all_goals
        go_wp2_with fail
        go_roundw
        case rel =>
         refine hrel'.out _ _ _ _ ⟨by first | rfl | go_num | (simp; omega), rfl, ?_, ?_⟩
         ·have h := hst.out.1
          rw [hs2.out] at h
          rw [y6.out]
          have h5 : (ini ++ [la ++ tr]).length = j + 1 := by simp [hij]
          rw [h5]
          first | exact h | exact h.drew
         ·have h := HBX.out.setCell (p := ⟨g, j, none⟩) hg1 (.string (bs la ++ bs tr))
          first | exact h | exact h.drew
        case measure => simp [intOf]; omega
      ·obtain ⟨ini, la, rfl⟩ : ∃ ini la, out = ini ++ [la] := ⟨_, _, last_split (v1 rfl)⟩
       have hrel' := hid (hnext ⟨ini ++ [la ++ tr], dp, true⟩ (by simp [stepP, gapK, deepK, addLast, d0]))
       obtain ⟨j, hij⟩ : ∃ j, ini.length = j := ⟨_, rfl⟩
       have hla : la.length + tr.length < 4294967281 := by rw [sum_snoc] at v3; omega
       have hl1 : (ini ++ [la]).length = j + 1 := by simp [hij]
       have HX := HOwn.out.alloc (.cells #[.int .i64 9, .string (bs tr), .string (bs tv), .int .i64 tn] 92)
       rw [hl1] at HX
       obtain ⟨g, c1, rfl, hg1, hg2⟩ := row_at7 HX (by omega)
       have HY := hid HX
       have q1 := (Blk.new rfl : Blk (wr.alloc (.cells #[.int .i64 9, .string (bs tr), .string (bs tv), .int .i64 tn] 92)) wr.heap.size 92 #[.int .i64 9, .string (bs tr), .string (bs tv), .int .i64 tn]).cell
       have HBX := hid (HB.out.alloc (by omega) (.cells #[.int .i64 9, .string (bs tr), .string (bs tv), .int .i64 tn] 92))
       rw [hl1] at v2
       clear HX
       go_wp2_with fail
       generalize wr.alloc (.cells #[.int .i64 9, .string (bs tr), .string (bs tv), .int .i64 tn] 92) = X at *
       have y0 : X.cell? ⟨g, j, none⟩ = some (.string (bs la)) := by
        have h := HY.out.cellAt j (by omega)
        rw [h, List.getElem?_map, List.getElem?_append_right (by omega)]
        simp [hij, strv]
       have y1 : X.frozen? ⟨g, j, none⟩ = false := HY.out.frozenAt j
       have y2 : ¬ 9223372036854775807 < (bs la).size + (bs tr).size := by rw [bs_size, bs_size]; omega
       have y3 : (j : Int) < (j : Int) + 1 := by omega
       have y4 : (j : Int) + 1 - 1 = (j : Int) := by omega
       have y5 : IntKind.i64.wrap ((j : Int) + 1 - 1) = (j : Int) := by rw [y4]; exact IntWalk.i64_in _ (by omega)
       have y6 := hid (bs_cat2 la tr)
       have hst := hid (HY.out.stored j (strv (la ++ tr)))
       have hs2 := hid (set_last (la := la) (x := la ++ tr) hij)
       go_region
       all_goals
        go_wp2_with fail
        go_roundw
        case rel =>
         refine hrel'.out _ _ _ _ ⟨by first | rfl | go_num | (simp; omega), rfl, ?_, ?_⟩
         ·have h := hst.out.1
          rw [hs2.out] at h
          rw [y6.out]
          have h5 : (ini ++ [la ++ tr]).length = j + 1 := by simp [hij]
          rw [h5]
          first | exact h | exact h.drew
         ·have h := HBX.out.setCell (p := ⟨g, j, none⟩) hg1 (.string (bs la ++ bs tr))
          first | exact h | exact h.drew
        case measure => simp [intOf]; omega
    ·have z9 := k9
     by_cases k10 : tk = 10
     ·subst k10
      have g0 : IntKind.i64.wrap ((dp : Int) + 1) = (dp : Int) + 1 := IntWalk.i64_in _ (by omega)
      cases op
      ·have hrel' := hid (hnext ⟨out ++ [tr], dp + 1, true⟩ (by simp [stepP, gapK, deepK, Nat.add_comm]))
       obtain ⟨j, hij⟩ : ∃ j, out.length = j := ⟨_, rfl⟩
       rw [hij] at HOwn
       obtain ⟨av, ac, hv⟩ := row_form HOwn.out
       subst hv
       have hne : some wr.heap.size ≠ Value.ownBlock (.slice av j ac) := fun e => by have := (HOwn.out.lt _ e.symm).2; omega
       have hne2 := hid hne
       clear hne
       have Q0 := hid (show Blk ((wr.alloc (.cells #[.int .i64 10, .string (bs tr), .string (bs tv), .int .i64 tn] 92)).alloc (.cells #[.string ⟨#[]⟩] 9)) wr.heap.size 92 #[.int .i64 10, .string (bs tr), .string (bs tv), .int .i64 tn] from (Blk.new rfl).alloc _)
       go_wp2_with (at_builtin; refine wpList_append_own _ rfl _ _ 41 rfl W1.heap.size 9 i0 (.string .empty) 1 16 Tryz.underlying41 Hi.out Hz0.out Hz1.out Hz2.out rfl (by decide) _ _ _ rfl ((HOwn.out.alloc (.cells #[.int .i64 10, .string (bs tr), .string (bs tv), .int .i64 tn] 92)).alloc _) ⟨wr.heap.size + 1, 0, none⟩ 1 1 [strv []] rfl rfl ?c1 ?c2 ?c3 ?c4 ?c5 ?_)
       case c1 => exact fun j u h => h
       case c2 => simp [Value.oneCell', strv]
       case c3 => unfold maxLen; omega
       case c4 => omega
       case c5 => first | omega | (simp; omega)
       intro v' X hown1 hgrow hnil
       have HBX := hid (below_app ((HB.out.alloc (by omega) (.cells #[.int .i64 10, .string (bs tr), .string (bs tv), .int .i64 tn] 92)).alloc (by simp; omega) _) hgrow ((HOwn.out.alloc (.cells #[.int .i64 10, .string (bs tr), .string (bs tv), .int .i64 tn] 92)).alloc _) (Nat.le_refl _) (by simp; omega))
       have Q1 := Blk_grown7 Q0.out hgrow hne2.out
       have q1 := Q1.cell
       replace hown1 : X.ownsRow W1.heap.size 9 1 v' (j + 1) ((out ++ [[]]).map strv) := by simpa using hown1
       obtain ⟨g, c1, rfl, hg1, hg2⟩ := row_at7 hown1 (by omega)
       have HY := hid (show X.ownsRow W1.heap.size 9 1 (.slice (some ⟨g, 0, none⟩) (j + 1) c1) (j + 1) ((out ++ [[]]).map strv) from hown1)
       have hla : (List.nil : Bs).length + tr.length < 4294967281 := by simp; omega
       clear hown1 hgrow hnil Q1
       generalize hini : out = ini at *
       obtain ⟨la, hla2⟩ : ∃ la : Bs, la = [] := ⟨_, rfl⟩
       rw [<- hla2] at HY hla
       have hrl := hid (show ini ++ [la ++ tr] = ini ++ [tr] by rw [hla2]; rfl)
       rw [<- hrl.out] at hrel'
       clear hla2
       go_wp2_with fail
       have y0 : X.cell? ⟨g, j, none⟩ = some (.string (bs la)) := by
        have h := HY.out.cellAt j (by omega)
        rw [h, List.getElem?_map, List.getElem?_append_right (by omega)]
        simp [hij, strv]
       have y1 : X.frozen? ⟨g, j, none⟩ = false := HY.out.frozenAt j
       have y2 : ¬ 9223372036854775807 < (bs la).size + (bs tr).size := by rw [bs_size, bs_size]; omega
       have y3 : (j : Int) < (j : Int) + 1 := by omega
       have y4 : (j : Int) + 1 - 1 = (j : Int) := by omega
       have y5 : IntKind.i64.wrap ((j : Int) + 1 - 1) = (j : Int) := by rw [y4]; exact IntWalk.i64_in _ (by omega)
       have y6 := hid (bs_cat2 la tr)
       have hst := hid (HY.out.stored j (strv (la ++ tr)))
       have hs2 := hid (set_last (la := la) (x := la ++ tr) hij)
       go_region
       all_goals
        go_wp2_with fail
        go_roundw
        case rel =>
         refine hrel'.out _ _ _ _ ⟨by first | rfl | go_num | (simp; omega), rfl, ?_, ?_⟩
         ·have h := hst.out.1
          rw [hs2.out] at h
          rw [y6.out]
          have h5 : (ini ++ [la ++ tr]).length = j + 1 := by simp [hij]
          rw [h5]
          first | exact h | exact h.drew
         ·have h := HBX.out.setCell (p := ⟨g, j, none⟩) hg1 (.string (bs la ++ bs tr))
          first | exact h | exact h.drew
        case measure => simp [intOf]; omega
      ·obtain ⟨ini, la, rfl⟩ : ∃ ini la, out = ini ++ [la] := ⟨_, _, last_split (v1 rfl)⟩
       have hrel' := hid (hnext ⟨ini ++ [la ++ tr], dp + 1, true⟩ (by simp [stepP, gapK, deepK, addLast, Nat.add_comm]))
       obtain ⟨j, hij⟩ : ∃ j, ini.length = j := ⟨_, rfl⟩
       have hla : la.length + tr.length < 4294967281 := by rw [sum_snoc] at v3; omega
       have hl1 : (ini ++ [la]).length = j + 1 := by simp [hij]
       have HX := HOwn.out.alloc (.cells #[.int .i64 10, .string (bs tr), .string (bs tv), .int .i64 tn] 92)
       rw [hl1] at HX
       obtain ⟨g, c1, rfl, hg1, hg2⟩ := row_at7 HX (by omega)
       have HY := hid HX
       have q1 := (Blk.new rfl : Blk (wr.alloc (.cells #[.int .i64 10, .string (bs tr), .string (bs tv), .int .i64 tn] 92)) wr.heap.size 92 #[.int .i64 10, .string (bs tr), .string (bs tv), .int .i64 tn]).cell
       have HBX := hid (HB.out.alloc (by omega) (.cells #[.int .i64 10, .string (bs tr), .string (bs tv), .int .i64 tn] 92))
       rw [hl1] at v2
       clear HX
       go_wp2_with fail
       generalize wr.alloc (.cells #[.int .i64 10, .string (bs tr), .string (bs tv), .int .i64 tn] 92) = X at *
       have y0 : X.cell? ⟨g, j, none⟩ = some (.string (bs la)) := by
        have h := HY.out.cellAt j (by omega)
        rw [h, List.getElem?_map, List.getElem?_append_right (by omega)]
        simp [hij, strv]
       have y1 : X.frozen? ⟨g, j, none⟩ = false := HY.out.frozenAt j
       have y2 : ¬ 9223372036854775807 < (bs la).size + (bs tr).size := by rw [bs_size, bs_size]; omega
       have y3 : (j : Int) < (j : Int) + 1 := by omega
       have y4 : (j : Int) + 1 - 1 = (j : Int) := by omega
       have y5 : IntKind.i64.wrap ((j : Int) + 1 - 1) = (j : Int) := by rw [y4]; exact IntWalk.i64_in _ (by omega)
       have y6 := hid (bs_cat2 la tr)
       have hst := hid (HY.out.stored j (strv (la ++ tr)))
       have hs2 := hid (set_last (la := la) (x := la ++ tr) hij)
       go_region
       all_goals
        go_wp2_with fail
        go_roundw
        case rel =>
         refine hrel'.out _ _ _ _ ⟨by first | rfl | go_num | (simp; omega), rfl, ?_, ?_⟩
         ·have h := hst.out.1
          rw [hs2.out] at h
          rw [y6.out]
          have h5 : (ini ++ [la ++ tr]).length = j + 1 := by simp [hij]
          rw [h5]
          first | exact h | exact h.drew
         ·have h := HBX.out.setCell (p := ⟨g, j, none⟩) hg1 (.string (bs la ++ bs tr))
          first | exact h | exact h.drew
        case measure => simp [intOf]; omega
     ·have z10 := k10
      by_cases k2 : tk = 2
      ·subst k2
       have g0 : IntKind.i64.wrap ((dp : Int) + 1) = (dp : Int) + 1 := IntWalk.i64_in _ (by omega)
       cases op
       ·have hrel' := hid (hnext ⟨out ++ [tr], dp + 1, true⟩ (by simp [stepP, gapK, deepK, Nat.add_comm]))
        obtain ⟨j, hij⟩ : ∃ j, out.length = j := ⟨_, rfl⟩
        rw [hij] at HOwn
        obtain ⟨av, ac, hv⟩ := row_form HOwn.out
        subst hv
        have hne : some wr.heap.size ≠ Value.ownBlock (.slice av j ac) := fun e => by have := (HOwn.out.lt _ e.symm).2; omega
        have hne2 := hid hne
        clear hne
        have Q0 := hid (show Blk ((wr.alloc (.cells #[.int .i64 2, .string (bs tr), .string (bs tv), .int .i64 tn] 92)).alloc (.cells #[.string ⟨#[]⟩] 9)) wr.heap.size 92 #[.int .i64 2, .string (bs tr), .string (bs tv), .int .i64 tn] from (Blk.new rfl).alloc _)
        go_wp2_with (at_builtin; refine wpList_append_own _ rfl _ _ 41 rfl W1.heap.size 9 i0 (.string .empty) 1 16 Tryz.underlying41 Hi.out Hz0.out Hz1.out Hz2.out rfl (by decide) _ _ _ rfl ((HOwn.out.alloc (.cells #[.int .i64 2, .string (bs tr), .string (bs tv), .int .i64 tn] 92)).alloc _) ⟨wr.heap.size + 1, 0, none⟩ 1 1 [strv []] rfl rfl ?c1 ?c2 ?c3 ?c4 ?c5 ?_)
        case c1 => exact fun j u h => h
        case c2 => simp [Value.oneCell', strv]
        case c3 => unfold maxLen; omega
        case c4 => omega
        case c5 => first | omega | (simp; omega)
        intro v' X hown1 hgrow hnil
        have HBX := hid (below_app ((HB.out.alloc (by omega) (.cells #[.int .i64 2, .string (bs tr), .string (bs tv), .int .i64 tn] 92)).alloc (by simp; omega) _) hgrow ((HOwn.out.alloc (.cells #[.int .i64 2, .string (bs tr), .string (bs tv), .int .i64 tn] 92)).alloc _) (Nat.le_refl _) (by simp; omega))
        have Q1 := Blk_grown7 Q0.out hgrow hne2.out
        have q1 := Q1.cell
        replace hown1 : X.ownsRow W1.heap.size 9 1 v' (j + 1) ((out ++ [[]]).map strv) := by simpa using hown1
        obtain ⟨g, c1, rfl, hg1, hg2⟩ := row_at7 hown1 (by omega)
        have HY := hid (show X.ownsRow W1.heap.size 9 1 (.slice (some ⟨g, 0, none⟩) (j + 1) c1) (j + 1) ((out ++ [[]]).map strv) from hown1)
        have hla : (List.nil : Bs).length + tr.length < 4294967281 := by simp; omega
        clear hown1 hgrow hnil Q1
        generalize hini : out = ini at *
        obtain ⟨la, hla2⟩ : ∃ la : Bs, la = [] := ⟨_, rfl⟩
        rw [<- hla2] at HY hla
        have hrl := hid (show ini ++ [la ++ tr] = ini ++ [tr] by rw [hla2]; rfl)
        rw [<- hrl.out] at hrel'
        clear hla2
        go_wp2_with fail
        have y0 : X.cell? ⟨g, j, none⟩ = some (.string (bs la)) := by
         have h := HY.out.cellAt j (by omega)
         rw [h, List.getElem?_map, List.getElem?_append_right (by omega)]
         simp [hij, strv]
        have y1 : X.frozen? ⟨g, j, none⟩ = false := HY.out.frozenAt j
        have y2 : ¬ 9223372036854775807 < (bs la).size + (bs tr).size := by rw [bs_size, bs_size]; omega
        have y3 : (j : Int) < (j : Int) + 1 := by omega
        have y4 : (j : Int) + 1 - 1 = (j : Int) := by omega
        have y5 : IntKind.i64.wrap ((j : Int) + 1 - 1) = (j : Int) := by rw [y4]; exact IntWalk.i64_in _ (by omega)
        have y6 := hid (bs_cat2 la tr)
        have hst := hid (HY.out.stored j (strv (la ++ tr)))
        have hs2 := hid (set_last (la := la) (x := la ++ tr) hij)
        go_region
        all_goals
         go_wp2_with fail
         go_roundw
         case rel =>
          refine hrel'.out _ _ _ _ ⟨by first | rfl | go_num | (simp; omega), rfl, ?_, ?_⟩
          ·have h := hst.out.1
           rw [hs2.out] at h
           rw [y6.out]
           have h5 : (ini ++ [la ++ tr]).length = j + 1 := by simp [hij]
           rw [h5]
           first | exact h | exact h.drew
          ·have h := HBX.out.setCell (p := ⟨g, j, none⟩) hg1 (.string (bs la ++ bs tr))
           first | exact h | exact h.drew
         case measure => simp [intOf]; omega
       ·obtain ⟨ini, la, rfl⟩ : ∃ ini la, out = ini ++ [la] := ⟨_, _, last_split (v1 rfl)⟩
        have hrel' := hid (hnext ⟨ini ++ [la ++ tr], dp + 1, true⟩ (by simp [stepP, gapK, deepK, addLast, Nat.add_comm]))
        obtain ⟨j, hij⟩ : ∃ j, ini.length = j := ⟨_, rfl⟩
        have hla : la.length + tr.length < 4294967281 := by rw [sum_snoc] at v3; omega
        have hl1 : (ini ++ [la]).length = j + 1 := by simp [hij]
        have HX := HOwn.out.alloc (.cells #[.int .i64 2, .string (bs tr), .string (bs tv), .int .i64 tn] 92)
        rw [hl1] at HX
        obtain ⟨g, c1, rfl, hg1, hg2⟩ := row_at7 HX (by omega)
        have HY := hid HX
        have q1 := (Blk.new rfl : Blk (wr.alloc (.cells #[.int .i64 2, .string (bs tr), .string (bs tv), .int .i64 tn] 92)) wr.heap.size 92 #[.int .i64 2, .string (bs tr), .string (bs tv), .int .i64 tn]).cell
        have HBX := hid (HB.out.alloc (by omega) (.cells #[.int .i64 2, .string (bs tr), .string (bs tv), .int .i64 tn] 92))
        rw [hl1] at v2
        clear HX
        go_wp2_with fail
        generalize wr.alloc (.cells #[.int .i64 2, .string (bs tr), .string (bs tv), .int .i64 tn] 92) = X at *
        have y0 : X.cell? ⟨g, j, none⟩ = some (.string (bs la)) := by
         have h := HY.out.cellAt j (by omega)
         rw [h, List.getElem?_map, List.getElem?_append_right (by omega)]
         simp [hij, strv]
        have y1 : X.frozen? ⟨g, j, none⟩ = false := HY.out.frozenAt j
        have y2 : ¬ 9223372036854775807 < (bs la).size + (bs tr).size := by rw [bs_size, bs_size]; omega
        have y3 : (j : Int) < (j : Int) + 1 := by omega
        have y4 : (j : Int) + 1 - 1 = (j : Int) := by omega
        have y5 : IntKind.i64.wrap ((j : Int) + 1 - 1) = (j : Int) := by rw [y4]; exact IntWalk.i64_in _ (by omega)
        have y6 := hid (bs_cat2 la tr)
        have hst := hid (HY.out.stored j (strv (la ++ tr)))
        have hs2 := hid (set_last (la := la) (x := la ++ tr) hij)
        go_region
        all_goals
         go_wp2_with fail
         go_roundw
         case rel =>
          refine hrel'.out _ _ _ _ ⟨by first | rfl | go_num | (simp; omega), rfl, ?_, ?_⟩
          ·have h := hst.out.1
           rw [hs2.out] at h
           rw [y6.out]
           have h5 : (ini ++ [la ++ tr]).length = j + 1 := by simp [hij]
           rw [h5]
           first | exact h | exact h.drew
          ·have h := HBX.out.setCell (p := ⟨g, j, none⟩) hg1 (.string (bs la ++ bs tr))
           first | exact h | exact h.drew
         case measure => simp [intOf]; omega
      ·have z2 := k2
       by_cases k11 : tk = 11
       ·subst k11
        have g0 : IntKind.i64.wrap ((dp : Int) - 1) = (dp : Int) - 1 := IntWalk.i64_in _ (by omega)
        cases op
        ·have hrel' := hid (hnext ⟨out ++ [tr], dp - 1, true⟩ (by simp [stepP, gapK, deepK, Nat.add_comm]))
         obtain ⟨j, hij⟩ : ∃ j, out.length = j := ⟨_, rfl⟩
         rw [hij] at HOwn
         obtain ⟨av, ac, hv⟩ := row_form HOwn.out
         subst hv
         have hne : some wr.heap.size ≠ Value.ownBlock (.slice av j ac) := fun e => by have := (HOwn.out.lt _ e.symm).2; omega
         have hne2 := hid hne
         clear hne
         have Q0 := hid (show Blk ((wr.alloc (.cells #[.int .i64 11, .string (bs tr), .string (bs tv), .int .i64 tn] 92)).alloc (.cells #[.string ⟨#[]⟩] 9)) wr.heap.size 92 #[.int .i64 11, .string (bs tr), .string (bs tv), .int .i64 tn] from (Blk.new rfl).alloc _)
         go_wp2_with (at_builtin; refine wpList_append_own _ rfl _ _ 41 rfl W1.heap.size 9 i0 (.string .empty) 1 16 Tryz.underlying41 Hi.out Hz0.out Hz1.out Hz2.out rfl (by decide) _ _ _ rfl ((HOwn.out.alloc (.cells #[.int .i64 11, .string (bs tr), .string (bs tv), .int .i64 tn] 92)).alloc _) ⟨wr.heap.size + 1, 0, none⟩ 1 1 [strv []] rfl rfl ?c1 ?c2 ?c3 ?c4 ?c5 ?_)
         case c1 => exact fun j u h => h
         case c2 => simp [Value.oneCell', strv]
         case c3 => unfold maxLen; omega
         case c4 => omega
         case c5 => first | omega | (simp; omega)
         intro v' X hown1 hgrow hnil
         have HBX := hid (below_app ((HB.out.alloc (by omega) (.cells #[.int .i64 11, .string (bs tr), .string (bs tv), .int .i64 tn] 92)).alloc (by simp; omega) _) hgrow ((HOwn.out.alloc (.cells #[.int .i64 11, .string (bs tr), .string (bs tv), .int .i64 tn] 92)).alloc _) (Nat.le_refl _) (by simp; omega))
         have Q1 := Blk_grown7 Q0.out hgrow hne2.out
         have q1 := Q1.cell
         replace hown1 : X.ownsRow W1.heap.size 9 1 v' (j + 1) ((out ++ [[]]).map strv) := by simpa using hown1
         obtain ⟨g, c1, rfl, hg1, hg2⟩ := row_at7 hown1 (by omega)
         have HY := hid (show X.ownsRow W1.heap.size 9 1 (.slice (some ⟨g, 0, none⟩) (j + 1) c1) (j + 1) ((out ++ [[]]).map strv) from hown1)
         have hla : (List.nil : Bs).length + tr.length < 4294967281 := by simp; omega
         clear hown1 hgrow hnil Q1
         generalize hini : out = ini at *
         obtain ⟨la, hla2⟩ : ∃ la : Bs, la = [] := ⟨_, rfl⟩
         rw [<- hla2] at HY hla
         have hrl := hid (show ini ++ [la ++ tr] = ini ++ [tr] by rw [hla2]; rfl)
         rw [<- hrl.out] at hrel'
         clear hla2
         go_wp2_with fail
         have y0 : X.cell? ⟨g, j, none⟩ = some (.string (bs la)) := by
          have h := HY.out.cellAt j (by omega)
          rw [h, List.getElem?_map, List.getElem?_append_right (by omega)]
          simp [hij, strv]
         have y1 : X.frozen? ⟨g, j, none⟩ = false := HY.out.frozenAt j
         have y2 : ¬ 9223372036854775807 < (bs la).size + (bs tr).size := by rw [bs_size, bs_size]; omega
         have y3 : (j : Int) < (j : Int) + 1 := by omega
         have y4 : (j : Int) + 1 - 1 = (j : Int) := by omega
         have y5 : IntKind.i64.wrap ((j : Int) + 1 - 1) = (j : Int) := by rw [y4]; exact IntWalk.i64_in _ (by omega)
         have y6 := hid (bs_cat2 la tr)
         have hst := hid (HY.out.stored j (strv (la ++ tr)))
         have hs2 := hid (set_last (la := la) (x := la ++ tr) hij)
         go_region
         all_goals
          go_wp2_with fail
          go_roundw
          case rel =>
           refine hrel'.out _ _ _ _ ⟨by first | rfl | go_num | (simp; omega), rfl, ?_, ?_⟩
           ·have h := hst.out.1
            rw [hs2.out] at h
            rw [y6.out]
            have h5 : (ini ++ [la ++ tr]).length = j + 1 := by simp [hij]
            rw [h5]
            first | exact h | exact h.drew
           ·have h := HBX.out.setCell (p := ⟨g, j, none⟩) hg1 (.string (bs la ++ bs tr))
            first | exact h | exact h.drew
          case measure => simp [intOf]; omega
        ·obtain ⟨ini, la, rfl⟩ : ∃ ini la, out = ini ++ [la] := ⟨_, _, last_split (v1 rfl)⟩
         have hrel' := hid (hnext ⟨ini ++ [la ++ tr], dp - 1, true⟩ (by simp [stepP, gapK, deepK, addLast, Nat.add_comm]))
         obtain ⟨j, hij⟩ : ∃ j, ini.length = j := ⟨_, rfl⟩
         have hla : la.length + tr.length < 4294967281 := by rw [sum_snoc] at v3; omega
         have hl1 : (ini ++ [la]).length = j + 1 := by simp [hij]
         have HX := HOwn.out.alloc (.cells #[.int .i64 11, .string (bs tr), .string (bs tv), .int .i64 tn] 92)
         rw [hl1] at HX
         obtain ⟨g, c1, rfl, hg1, hg2⟩ := row_at7 HX (by omega)
         have HY := hid HX
         have q1 := (Blk.new rfl : Blk (wr.alloc (.cells #[.int .i64 11, .string (bs tr), .string (bs tv), .int .i64 tn] 92)) wr.heap.size 92 #[.int .i64 11, .string (bs tr), .string (bs tv), .int .i64 tn]).cell
         have HBX := hid (HB.out.alloc (by omega) (.cells #[.int .i64 11, .string (bs tr), .string (bs tv), .int .i64 tn] 92))
         rw [hl1] at v2
         clear HX
         go_wp2_with fail
         generalize wr.alloc (.cells #[.int .i64 11, .string (bs tr), .string (bs tv), .int .i64 tn] 92) = X at *
         have y0 : X.cell? ⟨g, j, none⟩ = some (.string (bs la)) := by
          have h := HY.out.cellAt j (by omega)
          rw [h, List.getElem?_map, List.getElem?_append_right (by omega)]
          simp [hij, strv]
         have y1 : X.frozen? ⟨g, j, none⟩ = false := HY.out.frozenAt j
         have y2 : ¬ 9223372036854775807 < (bs la).size + (bs tr).size := by rw [bs_size, bs_size]; omega
         have y3 : (j : Int) < (j : Int) + 1 := by omega
         have y4 : (j : Int) + 1 - 1 = (j : Int) := by omega
         have y5 : IntKind.i64.wrap ((j : Int) + 1 - 1) = (j : Int) := by rw [y4]; exact IntWalk.i64_in _ (by omega)
         have y6 := hid (bs_cat2 la tr)
         have hst := hid (HY.out.stored j (strv (la ++ tr)))
         have hs2 := hid (set_last (la := la) (x := la ++ tr) hij)
         go_region
         all_goals
          go_wp2_with fail
          go_roundw
          case rel =>
           refine hrel'.out _ _ _ _ ⟨by first | rfl | go_num | (simp; omega), rfl, ?_, ?_⟩
           ·have h := hst.out.1
            rw [hs2.out] at h
            rw [y6.out]
            have h5 : (ini ++ [la ++ tr]).length = j + 1 := by simp [hij]
            rw [h5]
            first | exact h | exact h.drew
           ·have h := HBX.out.setCell (p := ⟨g, j, none⟩) hg1 (.string (bs la ++ bs tr))
            first | exact h | exact h.drew
          case measure => simp [intOf]; omega
       ·have z11 := k11
        cases op
        ·have hrel' := hid (hnext ⟨out ++ [tr], dp, true⟩ (by simp [stepP, gapK, deepK, k8, k9, k10, k2, k11]))
         obtain ⟨j, hij⟩ : ∃ j, out.length = j := ⟨_, rfl⟩
         rw [hij] at HOwn
         obtain ⟨av, ac, hv⟩ := row_form HOwn.out
         subst hv
         have hne : some wr.heap.size ≠ Value.ownBlock (.slice av j ac) := fun e => by have := (HOwn.out.lt _ e.symm).2; omega
         have hne2 := hid hne
         clear hne
         have Q0 := hid (show Blk ((wr.alloc (.cells #[.int .i64 tk, .string (bs tr), .string (bs tv), .int .i64 tn] 92)).alloc (.cells #[.string ⟨#[]⟩] 9)) wr.heap.size 92 #[.int .i64 tk, .string (bs tr), .string (bs tv), .int .i64 tn] from (Blk.new rfl).alloc _)
         go_wp2_with (at_builtin; refine wpList_append_own _ rfl _ _ 41 rfl W1.heap.size 9 i0 (.string .empty) 1 16 Tryz.underlying41 Hi.out Hz0.out Hz1.out Hz2.out rfl (by decide) _ _ _ rfl ((HOwn.out.alloc (.cells #[.int .i64 tk, .string (bs tr), .string (bs tv), .int .i64 tn] 92)).alloc _) ⟨wr.heap.size + 1, 0, none⟩ 1 1 [strv []] rfl rfl ?c1 ?c2 ?c3 ?c4 ?c5 ?_)
         case c1 => exact fun j u h => h
         case c2 => simp [Value.oneCell', strv]
         case c3 => unfold maxLen; omega
         case c4 => omega
         case c5 => first | omega | (simp; omega)
         intro v' X hown1 hgrow hnil
         have HBX := hid (below_app ((HB.out.alloc (by omega) (.cells #[.int .i64 tk, .string (bs tr), .string (bs tv), .int .i64 tn] 92)).alloc (by simp; omega) _) hgrow ((HOwn.out.alloc (.cells #[.int .i64 tk, .string (bs tr), .string (bs tv), .int .i64 tn] 92)).alloc _) (Nat.le_refl _) (by simp; omega))
         have Q1 := Blk_grown7 Q0.out hgrow hne2.out
         have q1 := Q1.cell
         replace hown1 : X.ownsRow W1.heap.size 9 1 v' (j + 1) ((out ++ [[]]).map strv) := by simpa using hown1
         obtain ⟨g, c1, rfl, hg1, hg2⟩ := row_at7 hown1 (by omega)
         have HY := hid (show X.ownsRow W1.heap.size 9 1 (.slice (some ⟨g, 0, none⟩) (j + 1) c1) (j + 1) ((out ++ [[]]).map strv) from hown1)
         have hla : (List.nil : Bs).length + tr.length < 4294967281 := by simp; omega
         clear hown1 hgrow hnil Q1
         generalize hini : out = ini at *
         obtain ⟨la, hla2⟩ : ∃ la : Bs, la = [] := ⟨_, rfl⟩
         rw [<- hla2] at HY hla
         have hrl := hid (show ini ++ [la ++ tr] = ini ++ [tr] by rw [hla2]; rfl)
         rw [<- hrl.out] at hrel'
         clear hla2
         go_wp2_with fail
         have y0 : X.cell? ⟨g, j, none⟩ = some (.string (bs la)) := by
          have h := HY.out.cellAt j (by omega)
          rw [h, List.getElem?_map, List.getElem?_append_right (by omega)]
          simp [hij, strv]
         have y1 : X.frozen? ⟨g, j, none⟩ = false := HY.out.frozenAt j
         have y2 : ¬ 9223372036854775807 < (bs la).size + (bs tr).size := by rw [bs_size, bs_size]; omega
         have y3 : (j : Int) < (j : Int) + 1 := by omega
         have y4 : (j : Int) + 1 - 1 = (j : Int) := by omega
         have y5 : IntKind.i64.wrap ((j : Int) + 1 - 1) = (j : Int) := by rw [y4]; exact IntWalk.i64_in _ (by omega)
         have y6 := hid (bs_cat2 la tr)
         have hst := hid (HY.out.stored j (strv (la ++ tr)))
         have hs2 := hid (set_last (la := la) (x := la ++ tr) hij)
         go_region
         all_goals
          go_wp2_with fail
          go_roundw
          case rel =>
           refine hrel'.out _ _ _ _ ⟨by first | rfl | go_num | (simp; omega), rfl, ?_, ?_⟩
           ·have h := hst.out.1
            rw [hs2.out] at h
            rw [y6.out]
            have h5 : (ini ++ [la ++ tr]).length = j + 1 := by simp [hij]
            rw [h5]
            first | exact h | exact h.drew
           ·have h := HBX.out.setCell (p := ⟨g, j, none⟩) hg1 (.string (bs la ++ bs tr))
            first | exact h | exact h.drew
          case measure => simp [intOf]; omega
        ·obtain ⟨ini, la, rfl⟩ : ∃ ini la, out = ini ++ [la] := ⟨_, _, last_split (v1 rfl)⟩
         have hrel' := hid (hnext ⟨ini ++ [la ++ tr], dp, true⟩ (by simp [stepP, gapK, deepK, addLast, k8, k9, k10, k2, k11]))
         obtain ⟨j, hij⟩ : ∃ j, ini.length = j := ⟨_, rfl⟩
         have hla : la.length + tr.length < 4294967281 := by rw [sum_snoc] at v3; omega
         have hl1 : (ini ++ [la]).length = j + 1 := by simp [hij]
         have HX := HOwn.out.alloc (.cells #[.int .i64 tk, .string (bs tr), .string (bs tv), .int .i64 tn] 92)
         rw [hl1] at HX
         obtain ⟨g, c1, rfl, hg1, hg2⟩ := row_at7 HX (by omega)
         have HY := hid HX
         have q1 := (Blk.new rfl : Blk (wr.alloc (.cells #[.int .i64 tk, .string (bs tr), .string (bs tv), .int .i64 tn] 92)) wr.heap.size 92 #[.int .i64 tk, .string (bs tr), .string (bs tv), .int .i64 tn]).cell
         have HBX := hid (HB.out.alloc (by omega) (.cells #[.int .i64 tk, .string (bs tr), .string (bs tv), .int .i64 tn] 92))
         rw [hl1] at v2
         clear HX
         go_wp2_with fail
         generalize wr.alloc (.cells #[.int .i64 tk, .string (bs tr), .string (bs tv), .int .i64 tn] 92) = X at *
         have y0 : X.cell? ⟨g, j, none⟩ = some (.string (bs la)) := by
          have h := HY.out.cellAt j (by omega)
          rw [h, List.getElem?_map, List.getElem?_append_right (by omega)]
          simp [hij, strv]
         have y1 : X.frozen? ⟨g, j, none⟩ = false := HY.out.frozenAt j
         have y2 : ¬ 9223372036854775807 < (bs la).size + (bs tr).size := by rw [bs_size, bs_size]; omega
         have y3 : (j : Int) < (j : Int) + 1 := by omega
         have y4 : (j : Int) + 1 - 1 = (j : Int) := by omega
         have y5 : IntKind.i64.wrap ((j : Int) + 1 - 1) = (j : Int) := by rw [y4]; exact IntWalk.i64_in _ (by omega)
         have y6 := hid (bs_cat2 la tr)
         have hst := hid (HY.out.stored j (strv (la ++ tr)))
         have hs2 := hid (set_last (la := la) (x := la ++ tr) hij)
         go_region
         all_goals
          go_wp2_with fail
          go_roundw
          case rel =>
           refine hrel'.out _ _ _ _ ⟨by first | rfl | go_num | (simp; omega), rfl, ?_, ?_⟩
           ·have h := hst.out.1
            rw [hs2.out] at h
            rw [y6.out]
            have h5 : (ini ++ [la ++ tr]).length = j + 1 := by simp [hij]
            rw [h5]
            first | exact h | exact h.drew
           ·have h := HBX.out.setCell (p := ⟨g, j, none⟩) hg1 (.string (bs la ++ bs tr))
            first | exact h | exact h.drew
          case measure => simp [intOf]; omega
  ·obtain rfl : k = L.length := by omega
   have i1 : ¬ (L.length : Int) < (L.length : Int) := by omega
   rw [List.take_length] at hown
   have HOwn := hid hown
   have HB := hid (HB1.out.trans (hb.mono hz1))
   clear hown hb
   go_wp2_with fail
   go_ret
   exact ⟨⟨_, rfl, HOwn.out.mono hz1⟩, HB.out⟩
end prp
end Go.Proofs.YthgffoanecknoaaGreatDoor
