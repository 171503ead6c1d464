/- Contracts and plain law, a bundle. -/
import Derived.Lib.SliceRun
import Derived.Lib.Hide
import Derived.Test.YthgffoanecknoaaGreatDoorC6
set_option linter.unusedVariables false
set_option maxRecDepth 100000
set_option maxHeartbeats 16000000
open Go.Lib (hid)
namespace Go.Proofs.YthgffoanecknoaaGreatDoor
namespace prp
open Go.RowKit base tok
set_option linter.unusedSimpArgs false
def scells (x : Bs) : List Value := [strv x]
theorem scells_len (x : Bs) : (scells x).length = 1 := rfl
theorem flat_s (L : List Bs) : flatR scells L = L.map strv := by
 induction L with
 | nil => rfl
 | cons x L ih => simpa [flatR, scells] using ih
abbrev SRd (w : World) (B : Nat) (A : Option Addr) (n : Nat) (L : List Bs) : Prop := Rd 1 scells w B A n L
theorem row_srd {w : World} {base n : Nat} {v : Value} {L : List Bs} (hn : L.length = n) (h : w.ownsRow base 9 1 v n (L.map strv)) : ∃ A cap, v = .slice A n cap /\ n <= cap /\ SRd w w.heap.size A n L := by
 rw [<- flat_s] at h
 exact row_rd scells_len hn h
theorem SRd.get {w : World} {B : Nat} {A : Option Addr} {n i : Nat} {L : List Bs} (h : SRd w B A n L) (hi : i < n) : ∃ b off x, A = some ⟨b, off, none⟩ /\ b < B /\ L[i]? = some x /\ w.cell? ⟨b, off + i, none⟩ = some (.string (bs x)) := by
 obtain ⟨b, off, x, hA, hb, hx, hc⟩ := Rd.at_ h hi
 have := hc 0 (by decide)
 rw [Nat.mul_one, Nat.add_zero] at this
 exact ⟨b, off, x, hA, hb, hx, this⟩
def dcellsG (p : Bs × Bs) : List Value := [strv p.1, strv p.2, .bool false]
theorem infoDG : (Tryz.prog.info? 49).map (fun i => (i.zero, i.size, i.bytes)) = some (some (.agg #[.string .empty, .string .empty, .bool false]), 3, 40) := by kernel_rfl
theorem given_ct (A C : Option Addr) (n m cap cap2 : Nat) (N V : List Bs) (hn : n <= 8) (hm : n <= m) (w : World) (hN : SRd w w.heap.size A n N) (hV : SRd w w.heap.size C m V) :
  Calls Tryz.prog 24 #[.slice A n cap, .slice C m cap2] w fun e w' => (∃ v, e = .returned v /\ w'.ownsRow w.heap.size 49 3 v n (flatR dcellsG ((N.zip V).take n))) /\ Below w.heap.size w w' := by
 obtain ⟨i0, hi, hz0, hz1, hz2⟩ := info_parts infoDG
 have Hz0 := hid hz0
 have Hi := hid hi
 have Hz1 := hid hz1
 have Hz2 := hid hz2
 have HN := hid hN
 have HV := hid hV
 clear hz0 hi hz1 hz2 hN hV
 go_enter Tryz.func24, Tryz.ntmps24
 go_wp2_with fail
 go_loopw [5, 10] (fun v i wr => ∃ k : Nat, k <= n /\ i = .int .i64 k /\ wr.ownsRow w.heap.size 49 3 v k (flatR dcellsG ((N.zip V).take k)) /\ Below w.heap.size w wr) (fun _ i _ => n - (intOf i).toNat)
 case atStart => exact ⟨0, by omega, rfl, World.ownsRow_nil _ _ _ _, Below.refl _ _⟩
 case round =>
  obtain ⟨k, hk, rfl, hown, hb⟩ := hrel
  replace hown := hid hown
  by_cases hlt : k < n
  ·have i1 : (k : Int) < (n : Int) := by omega
   have i2 : (k : Int) < (m : Int) := by omega
   obtain ⟨b1, o1, x, rfl, hb1, hx, c1⟩ := SRd.get (Rd.keep HN.out hb hb.size) hlt
   obtain ⟨b2, o2, y, rfl, hb2, hy, c2⟩ := SRd.get (Rd.keep HV.out hb hb.size) (show k < m by omega)
   have hst : flatR dcellsG ((N.zip V).take (k + 1)) = flatR dcellsG ((N.zip V).take k) ++ [strv x, strv y, .bool false] := by
    have hz : (N.zip V)[k]? = some (x, y) := by rw [List.getElem?_zip_eq_some]; exact ⟨hx, hy⟩
    obtain ⟨h1, h2⟩ := List.getElem?_eq_some_iff.1 hz
    rw [List.take_succ_eq_append_getElem h1, flatR_snoc, h2]
    rfl
   have HSt := hid hst
   have HB := hid hb
   have hbz := hb.size
   clear hx hy hst hb
   go_wp2_with (at_builtin; refine wpList_append_own _ rfl _ _ 43 rfl w.heap.size 49 i0 (.agg #[.string .empty, .string .empty, .bool false]) 3 40 Tryz.underlying43 Hi.out Hz0.out Hz1.out Hz2.out rfl (by decide) _ _ _ rfl (hown.out.alloc _) ⟨wr.heap.size, 0, none⟩ 1 1 [strv x, strv y, .bool false] rfl rfl ?c1 ?c2 ?c3 ?c4 ?c5 ?_)
   case c1 => exact (Blk.new (w := wr) (t := 49) (cs := #[strv x, strv y, .bool false]) rfl).news
   case c2 => simp [Value.oneCell', strv]
   case c3 => unfold maxLen; omega
   case c4 => omega
   case c5 => first | omega | (simp; omega)
   intro v' w1 hown1 hgrow hnil
   have hb1 := hid (below_app (HB.out.alloc hbz _) hgrow (hown.out.alloc _) (Nat.le_refl _) (by simp; omega))
   replace hown1 := hid hown1
   clear hgrow hnil
   go_wp2_with fail
   go_roundw
   case rel => exact ⟨k + 1, by omega, by go_num, by rw [HSt.out]; exact hown1.out, hb1.out⟩
   case measure => simp [intOf]; omega
  ·obtain rfl : k = n := by omega
   have i1 : ¬ (k : Int) < (k : Int) := by omega
   have HB := hid hb
   clear hb
   go_wp2_with fail
   go_ret
   exact ⟨⟨_, rfl, hown.out⟩, HB.out⟩
end prp
namespace prp
open Go.RowKit base tok
set_option linter.unusedSimpArgs false
theorem srd_news {w : World} {B : Nat} {b off : Nat} {n : Nat} {V : List Bs} (h : SRd w B (some ⟨b, off, none⟩) n V) : ∀ j u, (V.map strv)[j]? = some u -> w.cell? ((⟨b, off, none⟩ : Addr).add j) = some u := fun j u hj => by
 rw [List.getElem?_map, Option.map_eq_some_iff] at hj
 obtain ⟨x, hx, rfl⟩ := hj
 have hi : j < n := by have := (List.getElem?_eq_some_iff.1 hx).1; have := h.1; omega
 obtain ⟨b', off', p', hA, hlt, hd, c0⟩ := SRd.get h hi
 cases hA
 obtain rfl : x = p' := Option.some.inj (hx.symm.trans hd)
 have e : (⟨b, off, none⟩ : Addr).add j = ⟨b, off + j, none⟩ := by unfold Addr.add; split <;> simp_all
 rw [e]
 exact c0
theorem strs_one (V : List Bs) : ∀ u ∈ V.map strv, u.oneCell' = true := fun u hu => by
 obtain ⟨x, _, rfl⟩ := List.mem_map.1 hu
 rfl
theorem cell_alloc_old {w : World} {o : Obj} {a : Addr} {v : Value} (h : w.cell? a = some v) : (w.alloc o).cell? a = some v := (World.grownBy_alloc w o none).cell h (by simp)
theorem clone_ct (A : Option Addr) (cap : Nat) (V : List Bs) (hn : V.length <= 1000000) (w : World) (hI : SRd w w.heap.size A V.length V) :
  Calls Tryz.prog 46 #[.slice A V.length cap] w fun e w' => (∃ v, e = .returned v /\ w'.ownsRow w.heap.size 9 1 v V.length (V.map strv)) /\ Below w.heap.size w w' := by
 obtain ⟨i0, hi, hz0, hz1, hz2⟩ := info_parts infoS
 have Hz0 := hid hz0
 have Hi := hid hi
 have Hz1 := hid hz1
 have Hz2 := hid hz2
 clear hz0 hi hz1 hz2
 cases A with
 | none =>
  have h0 : V.length = 0 := by
   rcases Nat.eq_zero_or_pos V.length with h | h
   ·exact h
   ·obtain ⟨b, off, he, _⟩ := hI.2 h
    cases he
  obtain rfl := List.eq_nil_of_length_eq_zero h0
  clear hI h0
  simp only [List.length_nil]
  have hnil := fun w => Lib.run_eql_slice_nil (P := Tryz.prog) w 41 9 none 0 cap 0 0 Tryz.underlying41
  simp only [Option.isNone_none] at hnil
  go_enter Tryz.func46, Tryz.ntmps46
  go_wp2_with fail
  go_ret
  exact ⟨⟨_, rfl, World.ownsRow_nil _ _ _ _⟩, Below.refl _ _⟩
 | some a =>
  have hnews : ∀ j u, (V.map strv)[j]? = some u -> w.cell? (a.add j) = some u := by
   rcases Nat.eq_zero_or_pos V.length with h | h
   ·obtain rfl := List.eq_nil_of_length_eq_zero h
    exact fun j u hj => by simp at hj
   ·obtain ⟨b, off, he, _⟩ := hI.2 h
    cases he
    exact srd_news hI
  have HNews := hid (fun j u hj => (cell_alloc_old (w := w) (o := .cells #[] 9) (hnews j u hj)))
  clear hI hnews
  have hnil := fun w => Lib.run_eql_slice_nil (P := Tryz.prog) w 41 9 (some a) V.length cap 0 0 Tryz.underlying41
  simp only [Option.isNone_some] at hnil
  go_enter Tryz.func46, Tryz.ntmps46
  go_wp2_with (at_builtin; refine wpList_append_own _ rfl _ _ 41 rfl w.heap.size 9 i0 (.string .empty) 1 16 Tryz.underlying41 Hi.out Hz0.out Hz1.out Hz2.out rfl (by decide) _ _ _ rfl (World.ownsRow_made w #[] 0 (Nat.le_refl _) (by unfold maxLen; omega) rfl) a V.length cap (V.map strv) rfl (by simp) ?c1 ?c2 ?c3 ?c4 ?c5 ?_)
  case c1 => exact HNews.out
  case c2 => exact strs_one V
  case c3 => unfold maxLen; omega
  case c4 => omega
  case c5 => simp
  intro v' w4 hown4 hgrow4 hnil4
  have HB4 := hid ((ba w (.cells #[] 9)).grown hgrow4 (by simp) (fun k hk => by have := Option.some.inj (show some w.heap.size = some k from hk); omega))
  obtain ⟨g', cap', rfl⟩ := row_form hown4
  replace hown4 := hid hown4
  clear hgrow4 hnil4
  go_wp2
  go_ret
  exact ⟨⟨_, rfl, by simpa using hown4.out⟩, HB4.out⟩
theorem four_1 (A : Option Addr) (cap : Nat) (a : Bs) (w : World) (hL : SRd w w.heap.size A 1 [a]) :
  Calls Tryz.prog 29 #[.slice A 1 cap] w fun e w' => (∃ v, e = .returned v /\ w'.ownsRow w.heap.size 9 1 v 4 ([a, a, a, a].map strv)) /\ Below w.heap.size w w' := by
 obtain ⟨i0, hi, hz0, hz1, hz2⟩ := info_parts infoS
 have Hz0 := hid hz0
 have Hi := hid hi
 have Hz1 := hid hz1
 have Hz2 := hid hz2
 clear hz0 hi hz1 hz2
 have cC0 : Calls Tryz.prog 46 #[.slice A 1 cap] w fun e w' => (∃ v, e = .returned v /\ w'.ownsRow w.heap.size 9 1 v 1 ([a].map strv)) /\ Below w.heap.size w w' := clone_ct A cap [a] (by simp) w hL
 have cC := hid cC0
 clear cC0
 clear hL
 go_enter Tryz.func29, Tryz.ntmps29
 go_wp2_with (first
  | (go_at_call 46; (with_reducible refine (cC.out).mono ?_); rintro e W1 ⟨⟨v, rfl, ho⟩, hb⟩; obtain ⟨gW1, cW1, rfl, hgW1, hlW1⟩ := row_at7 ho (by decide); have x0_W1 : W1.cell? ⟨gW1, 0, none⟩ = some (.string (bs a)) := (ho.cellAt 0 (by decide)).trans rfl; have HOW1 := hid ho; have HBW1 := hid hb; have hzW1 := hb.size; clear ho hb)
  | (at_builtin; refine wpList_append_own _ rfl _ _ 41 rfl w.heap.size 9 i0 (.string .empty) 1 16 Tryz.underlying41 Hi.out Hz0.out Hz1.out Hz2.out rfl (by decide) _ 1 _ rfl (HOW1.out.alloc _) ⟨W1.heap.size, 0, none⟩ 1 1 [strv a] rfl rfl ?c1 ?c2 ?c3 ?c4 ?c5 ?_))
 case c1 => exact (Blk.new (w := W1) (t := 9) (cs := #[strv a]) rfl).news
 case c2 => simp [Value.oneCell', strv]
 case c3 => unfold maxLen; omega
 case c4 => omega
 case c5 => first | omega | (simp; omega)
 intro v' W2 hown hgrow hnil
 have HBW2 := hid (below_app (HBW1.out.alloc hzW1 _) hgrow (HOW1.out.alloc _) (Nat.le_refl _) (by simp; omega))
 have hzW2 := HBW2.out.size
 obtain ⟨gW2, cW2, rfl, hgW2, hlW2⟩ := row_at7 hown (by omega)
 replace hown : W2.ownsRow w.heap.size 9 1 (.slice (some ⟨gW2, 0, none⟩) 2 cW2) 2 ([a, a].map strv) := hown
 have x0_W2 : W2.cell? ⟨gW2, 0, none⟩ = some (.string (bs a)) := (hown.cellAt 0 (by decide)).trans rfl
 have x1_W2 : W2.cell? ⟨gW2, 1, none⟩ = some (.string (bs a)) := (hown.cellAt 1 (by decide)).trans rfl
 have HOW2 := hid hown
 clear hgrow hnil hown
 go_wp2_with (first
  | (at_builtin; refine wpList_append_own _ rfl _ _ 41 rfl w.heap.size 9 i0 (.string .empty) 1 16 Tryz.underlying41 Hi.out Hz0.out Hz1.out Hz2.out rfl (by decide) _ 2 _ rfl (HOW2.out.alloc _) ⟨W2.heap.size, 0, none⟩ 1 1 [strv a] rfl rfl ?c1 ?c2 ?c3 ?c4 ?c5 ?_))
 case c1 => exact (Blk.new (w := W2) (t := 9) (cs := #[strv a]) rfl).news
 case c2 => simp [Value.oneCell', strv]
 case c3 => unfold maxLen; omega
 case c4 => omega
 case c5 => first | omega | (simp; omega)
 intro v' W3 hown hgrow hnil
 have HBW3 := hid (below_app (HBW2.out.alloc hzW2 _) hgrow (HOW2.out.alloc _) (Nat.le_refl _) (by simp; omega))
 have hzW3 := HBW3.out.size
 obtain ⟨gW3, cW3, rfl, hgW3, hlW3⟩ := row_at7 hown (by omega)
 replace hown : W3.ownsRow w.heap.size 9 1 (.slice (some ⟨gW3, 0, none⟩) 3 cW3) 3 ([a, a, a].map strv) := hown
 have x0_W3 : W3.cell? ⟨gW3, 0, none⟩ = some (.string (bs a)) := (hown.cellAt 0 (by decide)).trans rfl
 have x1_W3 : W3.cell? ⟨gW3, 1, none⟩ = some (.string (bs a)) := (hown.cellAt 1 (by decide)).trans rfl
 have x2_W3 : W3.cell? ⟨gW3, 2, none⟩ = some (.string (bs a)) := (hown.cellAt 2 (by decide)).trans rfl
 have HOW3 := hid hown
 clear hgrow hnil hown
 go_wp2_with (first
  | (at_builtin; refine wpList_append_own _ rfl _ _ 41 rfl w.heap.size 9 i0 (.string .empty) 1 16 Tryz.underlying41 Hi.out Hz0.out Hz1.out Hz2.out rfl (by decide) _ 3 _ rfl (HOW3.out.alloc _) ⟨W3.heap.size, 0, none⟩ 1 1 [strv a] rfl rfl ?c1 ?c2 ?c3 ?c4 ?c5 ?_))
 case c1 => exact (Blk.new (w := W3) (t := 9) (cs := #[strv a]) rfl).news
 case c2 => simp [Value.oneCell', strv]
 case c3 => unfold maxLen; omega
 case c4 => omega
 case c5 => first | omega | (simp; omega)
 intro v' W4 hown hgrow hnil
 have HBW4 := hid (below_app (HBW3.out.alloc hzW3 _) hgrow (HOW3.out.alloc _) (Nat.le_refl _) (by simp; omega))
 have hzW4 := HBW4.out.size
 obtain ⟨gW4, cW4, rfl, hgW4, hlW4⟩ := row_at7 hown (by omega)
 replace hown : W4.ownsRow w.heap.size 9 1 (.slice (some ⟨gW4, 0, none⟩) 4 cW4) 4 ([a, a, a, a].map strv) := hown
 have x0_W4 : W4.cell? ⟨gW4, 0, none⟩ = some (.string (bs a)) := (hown.cellAt 0 (by decide)).trans rfl
 have x1_W4 : W4.cell? ⟨gW4, 1, none⟩ = some (.string (bs a)) := (hown.cellAt 1 (by decide)).trans rfl
 have x2_W4 : W4.cell? ⟨gW4, 2, none⟩ = some (.string (bs a)) := (hown.cellAt 2 (by decide)).trans rfl
 have x3_W4 : W4.cell? ⟨gW4, 3, none⟩ = some (.string (bs a)) := (hown.cellAt 3 (by decide)).trans rfl
 have HOW4 := hid hown
 clear hgrow hnil hown
 go_wp2_with fail
 go_ret
 exact ⟨⟨_, rfl, HOW4.out⟩, HBW4.out⟩
theorem four_2 (A : Option Addr) (cap : Nat) (a b : Bs) (w : World) (hL : SRd w w.heap.size A 2 [a, b]) :
  Calls Tryz.prog 29 #[.slice A 2 cap] w fun e w' => (∃ v, e = .returned v /\ w'.ownsRow w.heap.size 9 1 v 4 ([a, b, a, b].map strv)) /\ Below w.heap.size w w' := by
 obtain ⟨i0, hi, hz0, hz1, hz2⟩ := info_parts infoS
 have Hz0 := hid hz0
 have Hi := hid hi
 have Hz1 := hid hz1
 have Hz2 := hid hz2
 clear hz0 hi hz1 hz2
 have cC0 : Calls Tryz.prog 46 #[.slice A 2 cap] w fun e w' => (∃ v, e = .returned v /\ w'.ownsRow w.heap.size 9 1 v 2 ([a, b].map strv)) /\ Below w.heap.size w w' := clone_ct A cap [a, b] (by simp) w hL
 have cC := hid cC0
 clear cC0
 clear hL
 go_enter Tryz.func29, Tryz.ntmps29
 go_wp2_with (first
  | (go_at_call 46; (with_reducible refine (cC.out).mono ?_); rintro e W1 ⟨⟨v, rfl, ho⟩, hb⟩; obtain ⟨gW1, cW1, rfl, hgW1, hlW1⟩ := row_at7 ho (by decide); have x0_W1 : W1.cell? ⟨gW1, 0, none⟩ = some (.string (bs a)) := (ho.cellAt 0 (by decide)).trans rfl; have x1_W1 : W1.cell? ⟨gW1, 1, none⟩ = some (.string (bs b)) := (ho.cellAt 1 (by decide)).trans rfl; have HOW1 := hid ho; have HBW1 := hid hb; have hzW1 := hb.size; clear ho hb)
  | (at_builtin; refine wpList_append_own _ rfl _ _ 41 rfl w.heap.size 9 i0 (.string .empty) 1 16 Tryz.underlying41 Hi.out Hz0.out Hz1.out Hz2.out rfl (by decide) _ 2 _ rfl (HOW1.out.alloc _) ⟨W1.heap.size, 0, none⟩ 1 1 [strv a] rfl rfl ?c1 ?c2 ?c3 ?c4 ?c5 ?_))
 case c1 => exact (Blk.new (w := W1) (t := 9) (cs := #[strv a]) rfl).news
 case c2 => simp [Value.oneCell', strv]
 case c3 => unfold maxLen; omega
 case c4 => omega
 case c5 => first | omega | (simp; omega)
 intro v' W2 hown hgrow hnil
 have HBW2 := hid (below_app (HBW1.out.alloc hzW1 _) hgrow (HOW1.out.alloc _) (Nat.le_refl _) (by simp; omega))
 have hzW2 := HBW2.out.size
 obtain ⟨gW2, cW2, rfl, hgW2, hlW2⟩ := row_at7 hown (by omega)
 replace hown : W2.ownsRow w.heap.size 9 1 (.slice (some ⟨gW2, 0, none⟩) 3 cW2) 3 ([a, b, a].map strv) := hown
 have x0_W2 : W2.cell? ⟨gW2, 0, none⟩ = some (.string (bs a)) := (hown.cellAt 0 (by decide)).trans rfl
 have x1_W2 : W2.cell? ⟨gW2, 1, none⟩ = some (.string (bs b)) := (hown.cellAt 1 (by decide)).trans rfl
 have x2_W2 : W2.cell? ⟨gW2, 2, none⟩ = some (.string (bs a)) := (hown.cellAt 2 (by decide)).trans rfl
 have HOW2 := hid hown
 clear hgrow hnil hown
 go_wp2_with (first
  | (at_builtin; refine wpList_append_own _ rfl _ _ 41 rfl w.heap.size 9 i0 (.string .empty) 1 16 Tryz.underlying41 Hi.out Hz0.out Hz1.out Hz2.out rfl (by decide) _ 3 _ rfl (HOW2.out.alloc _) ⟨W2.heap.size, 0, none⟩ 1 1 [strv b] rfl rfl ?c1 ?c2 ?c3 ?c4 ?c5 ?_))
 case c1 => exact (Blk.new (w := W2) (t := 9) (cs := #[strv b]) rfl).news
 case c2 => simp [Value.oneCell', strv]
 case c3 => unfold maxLen; omega
 case c4 => omega
 case c5 => first | omega | (simp; omega)
 intro v' W3 hown hgrow hnil
 have HBW3 := hid (below_app (HBW2.out.alloc hzW2 _) hgrow (HOW2.out.alloc _) (Nat.le_refl _) (by simp; omega))
 have hzW3 := HBW3.out.size
 obtain ⟨gW3, cW3, rfl, hgW3, hlW3⟩ := row_at7 hown (by omega)
 replace hown : W3.ownsRow w.heap.size 9 1 (.slice (some ⟨gW3, 0, none⟩) 4 cW3) 4 ([a, b, a, b].map strv) := hown
 have x0_W3 : W3.cell? ⟨gW3, 0, none⟩ = some (.string (bs a)) := (hown.cellAt 0 (by decide)).trans rfl
 have x1_W3 : W3.cell? ⟨gW3, 1, none⟩ = some (.string (bs b)) := (hown.cellAt 1 (by decide)).trans rfl
 have x2_W3 : W3.cell? ⟨gW3, 2, none⟩ = some (.string (bs a)) := (hown.cellAt 2 (by decide)).trans rfl
 have x3_W3 : W3.cell? ⟨gW3, 3, none⟩ = some (.string (bs b)) := (hown.cellAt 3 (by decide)).trans rfl
 have HOW3 := hid hown
 clear hgrow hnil hown
 go_wp2_with fail
 go_ret
 exact ⟨⟨_, rfl, HOW3.out⟩, HBW3.out⟩
theorem four_3 (A : Option Addr) (cap : Nat) (a b c : Bs) (w : World) (hL : SRd w w.heap.size A 3 [a, b, c]) :
  Calls Tryz.prog 29 #[.slice A 3 cap] w fun e w' => (∃ v, e = .returned v /\ w'.ownsRow w.heap.size 9 1 v 4 ([a, b, c, b].map strv)) /\ Below w.heap.size w w' := by
 obtain ⟨i0, hi, hz0, hz1, hz2⟩ := info_parts infoS
 have Hz0 := hid hz0
 have Hi := hid hi
 have Hz1 := hid hz1
 have Hz2 := hid hz2
 clear hz0 hi hz1 hz2
 have cC0 : Calls Tryz.prog 46 #[.slice A 3 cap] w fun e w' => (∃ v, e = .returned v /\ w'.ownsRow w.heap.size 9 1 v 3 ([a, b, c].map strv)) /\ Below w.heap.size w w' := clone_ct A cap [a, b, c] (by simp) w hL
 have cC := hid cC0
 clear cC0
 clear hL
 go_enter Tryz.func29, Tryz.ntmps29
 go_wp2_with (first
  | (go_at_call 46; (with_reducible refine (cC.out).mono ?_); rintro e W1 ⟨⟨v, rfl, ho⟩, hb⟩; obtain ⟨gW1, cW1, rfl, hgW1, hlW1⟩ := row_at7 ho (by decide); have x0_W1 : W1.cell? ⟨gW1, 0, none⟩ = some (.string (bs a)) := (ho.cellAt 0 (by decide)).trans rfl; have x1_W1 : W1.cell? ⟨gW1, 1, none⟩ = some (.string (bs b)) := (ho.cellAt 1 (by decide)).trans rfl; have x2_W1 : W1.cell? ⟨gW1, 2, none⟩ = some (.string (bs c)) := (ho.cellAt 2 (by decide)).trans rfl; have HOW1 := hid ho; have HBW1 := hid hb; have hzW1 := hb.size; clear ho hb)
  | (at_builtin; refine wpList_append_own _ rfl _ _ 41 rfl w.heap.size 9 i0 (.string .empty) 1 16 Tryz.underlying41 Hi.out Hz0.out Hz1.out Hz2.out rfl (by decide) _ 3 _ rfl (HOW1.out.alloc _) ⟨W1.heap.size, 0, none⟩ 1 1 [strv b] rfl rfl ?c1 ?c2 ?c3 ?c4 ?c5 ?_))
 case c1 => exact (Blk.new (w := W1) (t := 9) (cs := #[strv b]) rfl).news
 case c2 => simp [Value.oneCell', strv]
 case c3 => unfold maxLen; omega
 case c4 => omega
 case c5 => first | omega | (simp; omega)
 intro v' W2 hown hgrow hnil
 have HBW2 := hid (below_app (HBW1.out.alloc hzW1 _) hgrow (HOW1.out.alloc _) (Nat.le_refl _) (by simp; omega))
 have hzW2 := HBW2.out.size
 obtain ⟨gW2, cW2, rfl, hgW2, hlW2⟩ := row_at7 hown (by omega)
 replace hown : W2.ownsRow w.heap.size 9 1 (.slice (some ⟨gW2, 0, none⟩) 4 cW2) 4 ([a, b, c, b].map strv) := hown
 have x0_W2 : W2.cell? ⟨gW2, 0, none⟩ = some (.string (bs a)) := (hown.cellAt 0 (by decide)).trans rfl
 have x1_W2 : W2.cell? ⟨gW2, 1, none⟩ = some (.string (bs b)) := (hown.cellAt 1 (by decide)).trans rfl
 have x2_W2 : W2.cell? ⟨gW2, 2, none⟩ = some (.string (bs c)) := (hown.cellAt 2 (by decide)).trans rfl
 have x3_W2 : W2.cell? ⟨gW2, 3, none⟩ = some (.string (bs b)) := (hown.cellAt 3 (by decide)).trans rfl
 have HOW2 := hid hown
 clear hgrow hnil hown
 go_wp2_with fail
 go_ret
 exact ⟨⟨_, rfl, HOW2.out⟩, HBW2.out⟩
theorem four_4 (A : Option Addr) (cap : Nat) (a b c d : Bs) (w : World) (hL : SRd w w.heap.size A 4 [a, b, c, d]) :
  Calls Tryz.prog 29 #[.slice A 4 cap] w fun e w' => (∃ v, e = .returned v /\ w'.ownsRow w.heap.size 9 1 v 4 ([a, b, c, d].map strv)) /\ Below w.heap.size w w' := by
 obtain ⟨i0, hi, hz0, hz1, hz2⟩ := info_parts infoS
 have Hz0 := hid hz0
 have Hi := hid hi
 have Hz1 := hid hz1
 have Hz2 := hid hz2
 clear hz0 hi hz1 hz2
 have cC0 : Calls Tryz.prog 46 #[.slice A 4 cap] w fun e w' => (∃ v, e = .returned v /\ w'.ownsRow w.heap.size 9 1 v 4 ([a, b, c, d].map strv)) /\ Below w.heap.size w w' := clone_ct A cap [a, b, c, d] (by simp) w hL
 have cC := hid cC0
 clear cC0
 clear hL
 go_enter Tryz.func29, Tryz.ntmps29
 go_wp2_with (first
  | (go_at_call 46; (with_reducible refine (cC.out).mono ?_); rintro e W1 ⟨⟨v, rfl, ho⟩, hb⟩; obtain ⟨gW1, cW1, rfl, hgW1, hlW1⟩ := row_at7 ho (by decide); have x0_W1 : W1.cell? ⟨gW1, 0, none⟩ = some (.string (bs a)) := (ho.cellAt 0 (by decide)).trans rfl; have x1_W1 : W1.cell? ⟨gW1, 1, none⟩ = some (.string (bs b)) := (ho.cellAt 1 (by decide)).trans rfl; have x2_W1 : W1.cell? ⟨gW1, 2, none⟩ = some (.string (bs c)) := (ho.cellAt 2 (by decide)).trans rfl; have x3_W1 : W1.cell? ⟨gW1, 3, none⟩ = some (.string (bs d)) := (ho.cellAt 3 (by decide)).trans rfl; have HOW1 := hid ho; have HBW1 := hid hb; have hzW1 := hb.size; clear ho hb))
 go_ret
 exact ⟨⟨_, rfl, HOW1.out⟩, HBW1.out⟩
end prp
end Go.Proofs.YthgffoanecknoaaGreatDoor
