/- Contracts and plain law, a bundle. -/
import Derived.Lib.Hide
import Derived.Test.YtlfkkaofgcongaaGreatDoorCC1
import Derived.Test.YtlfkkaofgcongaaGreatDoorE4
set_option linter.unusedVariables false
set_option maxRecDepth 100000
set_option maxHeartbeats 16000000
open Go.Lib (hid)
namespace Go.Proofs.YtlfkkaofgcongaaGreatDoor
namespace prp
open Go.RowKit base tok dim
set_option linter.unusedSimpArgs false
def idxP : List Bs -> Bs -> Int
 | [], _ => -1
 | t :: l, s => if t = s then 0 else if idxP l s < 0 then -1 else idxP l s + 1
theorem idx_bd : ∀ (L : List Bs) (s : Bs), -1 <= idxP L s /\ idxP L s < L.length
 | [], s => by rw [idxP]; simp
 | t :: l, s => by
  have h := idx_bd l s
  rw [idxP, List.length_cons]
  split
  ·omega
  ·split <;> omega
theorem idx_not : ∀ (L : List Bs) (s : Bs), ¬ s ∈ L -> idxP L s = -1
 | [], s, _ => rfl
 | t :: l, s, h => by
  rw [idxP, if_neg (fun e => h (by simp [e])), idx_not l s (fun e => h (by simp [e]))]
  rfl
theorem idx_at : ∀ (L : List Bs) (s : Bs) (i : Nat), L[i]? = some s -> ¬ s ∈ L.take i -> idxP L s = i
 | t :: l, s, 0, h, _ => by
  obtain rfl := Option.some.inj h
  rw [idxP, if_pos rfl]
  rfl
 | t :: l, s, i + 1, h, hn => by
  have e := idx_at l s i h (fun e => hn (by simp [e]))
  rw [idxP, if_neg (fun e => hn (by simp [e])), e, if_neg (by omega)]
  omega
theorem index_p (w : World) (R o cap n : Nat) (L : List Bs) (s : Bs) (hn : L.length = n) (h : StrsAt w R o L) (hc : n <= 1000000) :
  Calls Tryz.prog 52 #[.slice (some ⟨R, o, none⟩) n cap, .string (bs s)] w fun e w' => e = .returned (.int .i64 (idxP L s)) /\ w = w' := by
 subst hn
 refine (clb.index_first w R o cap L s h (by unfold maxLen; omega)).mono ?_
 rintro e w' ⟨⟨r, rfl, hr⟩, rfl⟩
 refine ⟨?_, rfl⟩
 rcases hr with ⟨i, rfl, h1, h2⟩ | ⟨rfl, h1⟩
 ·rw [idx_at L s i h1 h2]
 ·rw [idx_not L s h1]
def sizesL : List Bs := [[], [], [], [], [], [], [], [], [], [], [], [], [], [115, 109, 97, 108, 108], [], [], [109, 101, 100, 105, 117, 109], [], [108, 97, 114, 103, 101]]
def thickL : List Bs := [[], [116, 104, 105, 110], [], [109, 101, 100, 105, 117, 109], [], [116, 104, 105, 99, 107]]
theorem sizes_at {w : World} {k : Nat} {t : TypeId} (h : Blk w k t #[.string ⟨#[]⟩, .string ⟨#[]⟩, .string ⟨#[]⟩, .string ⟨#[]⟩, .string ⟨#[]⟩, .string ⟨#[]⟩, .string ⟨#[]⟩, .string ⟨#[]⟩, .string ⟨#[]⟩, .string ⟨#[]⟩, .string ⟨#[]⟩, .string ⟨#[]⟩, .string ⟨#[]⟩, .string ⟨#[115, 109, 97, 108, 108]⟩, .string ⟨#[]⟩, .string ⟨#[]⟩, .string ⟨#[109, 101, 100, 105, 117, 109]⟩, .string ⟨#[]⟩, .string ⟨#[108, 97, 114, 103, 101]⟩]) : StrsAt w k 0 sizesL :=
 ⟨h.lt, fun i s hi => by
  have hl := (List.getElem?_eq_some_iff.1 hi).1
  have hl9 : i < 19 := hl
  have hc : i = 0 ∨ i = 1 ∨ i = 2 ∨ i = 3 ∨ i = 4 ∨ i = 5 ∨ i = 6 ∨ i = 7 ∨ i = 8 ∨ i = 9 ∨ i = 10 ∨ i = 11 ∨ i = 12 ∨ i = 13 ∨ i = 14 ∨ i = 15 ∨ i = 16 ∨ i = 17 ∨ i = 18 := by omega
  rcases hc with rfl | rfl | rfl | rfl | rfl | rfl | rfl | rfl | rfl | rfl | rfl | rfl | rfl | rfl | rfl | rfl | rfl | rfl | rfl
  all_goals
   obtain rfl := Option.some.inj hi
   exact h.cell _⟩
theorem thick_at {w : World} {k : Nat} {t : TypeId} (h : Blk w k t #[.string ⟨#[]⟩, .string ⟨#[116, 104, 105, 110]⟩, .string ⟨#[]⟩, .string ⟨#[109, 101, 100, 105, 117, 109]⟩, .string ⟨#[]⟩, .string ⟨#[116, 104, 105, 99, 107]⟩]) : StrsAt w k 0 thickL :=
 ⟨h.lt, fun i s hi => by
  have hl := (List.getElem?_eq_some_iff.1 hi).1
  have hl9 : i < 6 := hl
  have hc : i = 0 ∨ i = 1 ∨ i = 2 ∨ i = 3 ∨ i = 4 ∨ i = 5 := by omega
  rcases hc with rfl | rfl | rfl | rfl | rfl | rfl
  all_goals
   obtain rfl := Option.some.inj hi
   exact h.cell _⟩
def pcs (s : Bs) : List Bs := (pcsB s).map (·.toList)
def wordR (p : Nat) (ks au s : Bs) : Int × Int × Bool :=
 if 0 <= idxP (pcs ks) s /\ s ≠ [45] /\ s ≠ [] then (1, idxP (pcs ks) s, true)
 else if au = s /\ s ≠ [] then (6, 0, true)
 else if p = 37 then (2, 64 * idxP sizesL s, decide (0 < idxP sizesL s)) else if 19 <= p /\ p <= 22 then (2, 64 * idxP thickL s, decide (0 < idxP thickL s)) else (2, 0, false)
def wordP (p : Nat) (s : Bs) : Int × Int × Bool := wordR p (rowP p).keys (rowP p).auto s
theorem pcs_cells {w : World} {k : Nat} {s : Bs} (h : Blk w k 9 ((pcsB s).map Value.string).toArray) : StrsAt w k 0 (pcs s) :=
 ⟨h.lt, fun i t hi => by
  rw [Nat.zero_add, h.cell i, List.getElem?_toArray, List.getElem?_map]
  unfold pcs at hi
  rw [List.getElem?_map] at hi
  cases hg : (pcsB s)[i]? with
  | none => rw [hg] at hi; simp at hi
  | some x =>
   rw [hg] at hi
   simp only [Option.map_some, Option.some.injEq] at hi
   rw [<- hi]
   simp [bs_back]⟩
theorem beq_no {S : ByteArray} {l : Bs} (s : Bs) (hS : bs s = S) (h : s ≠ l) : (S.toList == l) = false := by
 rw [<- hS, bs_toList, beq_eq_false_iff_ne]
 exact h
theorem beq_yes {S : ByteArray} {l : Bs} (s : Bs) (hS : bs s = S) (h : s = l) : (S.toList == l) = true := by
 rw [<- hS, bs_toList, beq_iff_eq]
 exact h
def WEnv (P : Int) (nm kd ks au : Bs) (ab : Bool) (S : ByteArray) (I : Int) (w : World) : Prop :=
 MaxL w /\ (∀ w, Calls Tryz.prog 25 #[.int .i64 P] w (rt w (.agg #[.string (bs nm), .string (bs kd), .string (bs ks), .string (bs au), .bool ab]))) /\
 (∀ w, MaxL w -> Calls Tryz.prog 47 #[.string (bs ks), .string ⟨#[32]⟩] w fun e w' => e = .returned (.slice (some ⟨w.heap.size, 0, none⟩) (pcsB ks).length (pcsB ks).length) /\ w' = w.alloc (.cells ((pcsB ks).map Value.string).toArray 9)) /\
 (∀ (W : World) (R : Nat), StrsAt W R 0 (pcs ks) -> Calls Tryz.prog 52 #[.slice (some ⟨R, 0, none⟩) (pcsB ks).length (pcsB ks).length, .string S] W fun e w' => e = .returned (.int .i64 I) /\ W = w')
def WIdx (n : Nat) (L : List Bs) (S : ByteArray) (Y : Int) : Prop := ∀ (W : World) (R : Nat), StrsAt W R 0 L -> Calls Tryz.prog 52 #[.slice (some ⟨R, 0, none⟩) n n, .string S] W fun e w' => e = .returned (.int .i64 Y) /\ W = w'
def WNone (I : Int) (S : ByteArray) (au : Bs) : Prop :=
 (¬ 0 <= I /\ (S.toList == []) = true /\ ((bs au).toList == S.toList) = true) ∨ (¬ 0 <= I /\ (S.toList == []) = true /\ ((bs au).toList == S.toList) = false) ∨
 (0 <= I /\ (S.toList == []) = true /\ ((bs au).toList == S.toList) = true /\ (S.toList == [45]) = false) ∨ (0 <= I /\ (S.toList == []) = true /\ ((bs au).toList == S.toList) = false /\ (S.toList == [45]) = false) ∨
 (¬ 0 <= I /\ (S.toList == []) = false /\ ((bs au).toList == S.toList) = false) ∨ (0 <= I /\ (S.toList == []) = false /\ ((bs au).toList == S.toList) = false /\ (S.toList == [45]) = true)
theorem word_A (P : Int) (nm kd ks au : Bs) (ab : Bool) (S : ByteArray) (I : Int) (w : World) (hE : WEnv P nm kd ks au ab S I w) (g1 : 0 <= I) (g2 : (S.toList == []) = false) (g3 : (S.toList == [45]) = false) : Calls Tryz.prog 31 #[.int .i64 P, .string S] w (rt w (.tuple #[.agg #[.int .i64 (1), .int .i64 (I)], .bool true])) := by
 obtain ⟨hm, cA0, cS0, cX0⟩ := hE
 have HM := hid hm
 have cA := hid cA0
 have cS := hid cS0
 have cX := hid cX0
 clear hm cA0 cS0 cX0
 have Q0 := hid (show Blk (w.alloc (.cells #[.int .i64 0, .int .i64 0] 38)) w.heap.size 38 #[.int .i64 0, .int .i64 0] from Blk.new rfl)
 have HB0 := hid (ba w (.cells #[.int .i64 0, .int .i64 0] 38))
 go_enter Tryz.func31, Tryz.ntmps31
 go_wp2_with (first
   | (go_at_call 25; (with_reducible refine (cA.out _).mono ?_); rintro e W1 ⟨rfl, hb⟩; have Q1 := hid (Q0.out.below hb Q0.out.lt); have HB1 := hid (tb HB0 hb); have R2 := (show Blk (W1.alloc (.cells #[.string (bs nm), .string (bs kd), .string (bs ks), .string (bs au), .bool ab] 66)) W1.heap.size 66 #[.string (bs nm), .string (bs kd), .string (bs ks), .string (bs au), .bool ab] from Blk.new rfl); have Q2 := hid (Q1.out.alloc (.cells #[.string (bs nm), .string (bs kd), .string (bs ks), .string (bs au), .bool ab] 66)); have HB2 := hid (HB1.out.alloc HB1.out.size (.cells #[.string (bs nm), .string (bs kd), .string (bs ks), .string (bs au), .bool ab] 66)); have r2c := R2.cell 2; have R2h := hid R2; clear hb R2)
   | (go_at_call 47; (with_reducible refine (cS.out _ (HM.out.on HB2.out HM.out.lt)).mono ?_); rintro e W3 ⟨rfl, rfl⟩; have Q3 := hid (Q2.out.alloc (.cells ((pcsB ks).map Value.string).toArray 9)); have q3c := Q3.out.cell; have q3f := Q3.out.frozen; have HB3 := hid (HB2.out.alloc HB2.out.size (.cells ((pcsB ks).map Value.string).toArray 9)); have r3c := (R2h.out.alloc (.cells ((pcsB ks).map Value.string).toArray 9)).cell 3; have SA := hid (show StrsAt ((W1.alloc (.cells #[.string (bs nm), .string (bs kd), .string (bs ks), .string (bs au), .bool ab] 66)).alloc (.cells ((pcsB ks).map Value.string).toArray 9)) (W1.heap.size + 1) 0 (pcs ks) from pcs_cells (Blk.new (by simp))))
   | (go_at_call 52; (with_reducible refine (cX.out _ _ SA.out).mono ?_); rintro e W4 ⟨rfl, rfl⟩))
 have e3 := ((Q3.out.put 0 (.int .i64 (1))).put 1 (.int .i64 (I))).cell
 exact bodyPost_ret (v := .tuple #[.agg #[.int .i64 (1), .int .i64 (I)], .bool true]) (by simp [results, Tryz.results31, go_sem, e3]) rfl ⟨rfl, (HB3.out.setCell (p := ⟨w.heap.size, 0, none⟩) (Nat.le_refl _) _).setCell (p := ⟨w.heap.size, 1, none⟩) (Nat.le_refl _) _⟩
theorem word_B (P : Int) (nm kd ks au : Bs) (ab : Bool) (S : ByteArray) (I : Int) (w : World) (hE : WEnv P nm kd ks au ab S I w) (g1 : ¬ 0 <= I) (g2 : (S.toList == []) = false) (g3 : ((bs au).toList == S.toList) = true) : Calls Tryz.prog 31 #[.int .i64 P, .string S] w (rt w (.tuple #[.agg #[.int .i64 (6), .int .i64 (0)], .bool true])) := by
 obtain ⟨hm, cA0, cS0, cX0⟩ := hE
 have HM := hid hm
 have cA := hid cA0
 have cS := hid cS0
 have cX := hid cX0
 clear hm cA0 cS0 cX0
 have Q0 := hid (show Blk (w.alloc (.cells #[.int .i64 0, .int .i64 0] 38)) w.heap.size 38 #[.int .i64 0, .int .i64 0] from Blk.new rfl)
 have HB0 := hid (ba w (.cells #[.int .i64 0, .int .i64 0] 38))
 go_enter Tryz.func31, Tryz.ntmps31
 go_wp2_with (first
   | (go_at_call 25; (with_reducible refine (cA.out _).mono ?_); rintro e W1 ⟨rfl, hb⟩; have Q1 := hid (Q0.out.below hb Q0.out.lt); have HB1 := hid (tb HB0 hb); have R2 := (show Blk (W1.alloc (.cells #[.string (bs nm), .string (bs kd), .string (bs ks), .string (bs au), .bool ab] 66)) W1.heap.size 66 #[.string (bs nm), .string (bs kd), .string (bs ks), .string (bs au), .bool ab] from Blk.new rfl); have Q2 := hid (Q1.out.alloc (.cells #[.string (bs nm), .string (bs kd), .string (bs ks), .string (bs au), .bool ab] 66)); have HB2 := hid (HB1.out.alloc HB1.out.size (.cells #[.string (bs nm), .string (bs kd), .string (bs ks), .string (bs au), .bool ab] 66)); have r2c := R2.cell 2; have R2h := hid R2; clear hb R2)
   | (go_at_call 47; (with_reducible refine (cS.out _ (HM.out.on HB2.out HM.out.lt)).mono ?_); rintro e W3 ⟨rfl, rfl⟩; have Q3 := hid (Q2.out.alloc (.cells ((pcsB ks).map Value.string).toArray 9)); have q3c := Q3.out.cell; have q3f := Q3.out.frozen; have HB3 := hid (HB2.out.alloc HB2.out.size (.cells ((pcsB ks).map Value.string).toArray 9)); have r3c := (R2h.out.alloc (.cells ((pcsB ks).map Value.string).toArray 9)).cell 3; have SA := hid (show StrsAt ((W1.alloc (.cells #[.string (bs nm), .string (bs kd), .string (bs ks), .string (bs au), .bool ab] 66)).alloc (.cells ((pcsB ks).map Value.string).toArray 9)) (W1.heap.size + 1) 0 (pcs ks) from pcs_cells (Blk.new (by simp))))
   | (go_at_call 52; (with_reducible refine (cX.out _ _ SA.out).mono ?_); rintro e W4 ⟨rfl, rfl⟩))
 have e3 := ((Q3.out.put 0 (.int .i64 (6))).put 1 (.int .i64 (0))).cell
 exact bodyPost_ret (v := .tuple #[.agg #[.int .i64 (6), .int .i64 (0)], .bool true]) (by simp [results, Tryz.results31, go_sem, e3]) rfl ⟨rfl, (HB3.out.setCell (p := ⟨w.heap.size, 0, none⟩) (Nat.le_refl _) _).setCell (p := ⟨w.heap.size, 1, none⟩) (Nat.le_refl _) _⟩
theorem word_o (P : Int) (nm kd ks au : Bs) (ab : Bool) (S : ByteArray) (I : Int) (w : World) (hE : WEnv P nm kd ks au ab S I w) (hN : WNone I S au) (h37 : ¬ P = 37) (h19 : ¬ 19 <= P ∨ (19 <= P /\ ¬ P <= 22)) : Calls Tryz.prog 31 #[.int .i64 P, .string S] w (rt w (.tuple #[.agg #[.int .i64 (2), .int .i64 (0)], .bool false])) := by
 obtain ⟨hm, cA0, cS0, cX0⟩ := hE
 have HM := hid hm
 have cA := hid cA0
 have cS := hid cS0
 have cX := hid cX0
 clear hm cA0 cS0 cX0
 have Q0 := hid (show Blk (w.alloc (.cells #[.int .i64 0, .int .i64 0] 38)) w.heap.size 38 #[.int .i64 0, .int .i64 0] from Blk.new rfl)
 have HB0 := hid (ba w (.cells #[.int .i64 0, .int .i64 0] 38))
 rcases h19 with h19 | ⟨h19, h22⟩
 all_goals
  rcases hN with ⟨g1, g2, g3⟩ | ⟨g1, g2, g3⟩ | ⟨g1, g2, g3, g4⟩ | ⟨g1, g2, g3, g4⟩ | ⟨g1, g2, g3⟩ | ⟨g1, g2, g3, g4⟩
 all_goals
  go_enter Tryz.func31, Tryz.ntmps31
  go_wp2_with (first
    | (go_at_call 25; (with_reducible refine (cA.out _).mono ?_); rintro e W1 ⟨rfl, hb⟩; have Q1 := hid (Q0.out.below hb Q0.out.lt); have HB1 := hid (tb HB0 hb); have R2 := (show Blk (W1.alloc (.cells #[.string (bs nm), .string (bs kd), .string (bs ks), .string (bs au), .bool ab] 66)) W1.heap.size 66 #[.string (bs nm), .string (bs kd), .string (bs ks), .string (bs au), .bool ab] from Blk.new rfl); have Q2 := hid (Q1.out.alloc (.cells #[.string (bs nm), .string (bs kd), .string (bs ks), .string (bs au), .bool ab] 66)); have HB2 := hid (HB1.out.alloc HB1.out.size (.cells #[.string (bs nm), .string (bs kd), .string (bs ks), .string (bs au), .bool ab] 66)); have r2c := R2.cell 2; have R2h := hid R2; clear hb R2)
    | (go_at_call 47; (with_reducible refine (cS.out _ (HM.out.on HB2.out HM.out.lt)).mono ?_); rintro e W3 ⟨rfl, rfl⟩; have Q3 := hid (Q2.out.alloc (.cells ((pcsB ks).map Value.string).toArray 9)); have q3c := Q3.out.cell; have q3f := Q3.out.frozen; have HB3 := hid (HB2.out.alloc HB2.out.size (.cells ((pcsB ks).map Value.string).toArray 9)); have r3c := (R2h.out.alloc (.cells ((pcsB ks).map Value.string).toArray 9)).cell 3; have SA := hid (show StrsAt ((W1.alloc (.cells #[.string (bs nm), .string (bs kd), .string (bs ks), .string (bs au), .bool ab] 66)).alloc (.cells ((pcsB ks).map Value.string).toArray 9)) (W1.heap.size + 1) 0 (pcs ks) from pcs_cells (Blk.new (by simp))))
    | (go_at_call 52; (with_reducible refine (cX.out _ _ SA.out).mono ?_); rintro e W4 ⟨rfl, rfl⟩))
  have e3 := ((Q3.out.put 0 (.int .i64 (2))).put 1 (.int .i64 (0))).cell
  exact bodyPost_ret (v := .tuple #[.agg #[.int .i64 (2), .int .i64 (0)], .bool false]) (by simp [results, Tryz.results31, go_sem, e3]) rfl ⟨rfl, (HB3.out.setCell (p := ⟨w.heap.size, 0, none⟩) (Nat.le_refl _) _).setCell (p := ⟨w.heap.size, 1, none⟩) (Nat.le_refl _) _⟩
theorem word_s0 (nm kd ks au : Bs) (ab : Bool) (S : ByteArray) (I : Int) (w : World) (hE : WEnv 37 nm kd ks au ab S I w) (Y : Int) (hY : WIdx 19 sizesL S Y) (hN : WNone I S au) (hb : -1 <= Y) (hz : ¬ 0 < Y) : Calls Tryz.prog 31 #[.int .i64 37, .string S] w (rt w (.tuple #[.agg #[.int .i64 (2), .int .i64 (64 * Y)], .bool false])) := by
 obtain ⟨hm, cA0, cS0, cX0⟩ := hE
 have HM := hid hm
 have cA := hid cA0
 have cS := hid cS0
 have cX := hid cX0
 clear hm cA0 cS0 cX0
 have Q0 := hid (show Blk (w.alloc (.cells #[.int .i64 0, .int .i64 0] 38)) w.heap.size 38 #[.int .i64 0, .int .i64 0] from Blk.new rfl)
 have HB0 := hid (ba w (.cells #[.int .i64 0, .int .i64 0] 38))
 have cY := hid hY
 clear hY
 unfold WIdx at cY
 have qw : IntKind.i64.wrap (64 * Y) = 64 * Y := IntWalk.i64_in _ (by omega)
 rcases hN with ⟨g1, g2, g3⟩ | ⟨g1, g2, g3⟩ | ⟨g1, g2, g3, g4⟩ | ⟨g1, g2, g3, g4⟩ | ⟨g1, g2, g3⟩ | ⟨g1, g2, g3, g4⟩
 all_goals
  go_enter Tryz.func31, Tryz.ntmps31
  go_wp2_with (first
    | (go_at_call 25; (with_reducible refine (cA.out _).mono ?_); rintro e W1 ⟨rfl, hb⟩; have Q1 := hid (Q0.out.below hb Q0.out.lt); have HB1 := hid (tb HB0 hb); have R2 := (show Blk (W1.alloc (.cells #[.string (bs nm), .string (bs kd), .string (bs ks), .string (bs au), .bool ab] 66)) W1.heap.size 66 #[.string (bs nm), .string (bs kd), .string (bs ks), .string (bs au), .bool ab] from Blk.new rfl); have Q2 := hid (Q1.out.alloc (.cells #[.string (bs nm), .string (bs kd), .string (bs ks), .string (bs au), .bool ab] 66)); have HB2 := hid (HB1.out.alloc HB1.out.size (.cells #[.string (bs nm), .string (bs kd), .string (bs ks), .string (bs au), .bool ab] 66)); have r2c := R2.cell 2; have R2h := hid R2; clear hb R2)
    | (go_at_call 47; (with_reducible refine (cS.out _ (HM.out.on HB2.out HM.out.lt)).mono ?_); rintro e W3 ⟨rfl, rfl⟩; have Q3 := hid (Q2.out.alloc (.cells ((pcsB ks).map Value.string).toArray 9)); have q3c := Q3.out.cell; have q3f := Q3.out.frozen; have HB3 := hid (HB2.out.alloc HB2.out.size (.cells ((pcsB ks).map Value.string).toArray 9)); have r3c := (R2h.out.alloc (.cells ((pcsB ks).map Value.string).toArray 9)).cell 3; have SA := hid (show StrsAt ((W1.alloc (.cells #[.string (bs nm), .string (bs kd), .string (bs ks), .string (bs au), .bool ab] 66)).alloc (.cells ((pcsB ks).map Value.string).toArray 9)) (W1.heap.size + 1) 0 (pcs ks) from pcs_cells (Blk.new (by simp))))
    | (go_at_call 52; (with_reducible refine (cX.out _ _ SA.out).mono ?_); rintro e W4 ⟨rfl, rfl⟩)
    | (go_at_call 52; (with_reducible refine (cY.out _ _ (show StrsAt (((W1.alloc (.cells #[.string (bs nm), .string (bs kd), .string (bs ks), .string (bs au), .bool ab] 66)).alloc (.cells ((pcsB ks).map Value.string).toArray 9)).alloc (.cells #[.string ⟨#[]⟩, .string ⟨#[]⟩, .string ⟨#[]⟩, .string ⟨#[]⟩, .string ⟨#[]⟩, .string ⟨#[]⟩, .string ⟨#[]⟩, .string ⟨#[]⟩, .string ⟨#[]⟩, .string ⟨#[]⟩, .string ⟨#[]⟩, .string ⟨#[]⟩, .string ⟨#[]⟩, .string ⟨#[115, 109, 97, 108, 108]⟩, .string ⟨#[]⟩, .string ⟨#[]⟩, .string ⟨#[109, 101, 100, 105, 117, 109]⟩, .string ⟨#[]⟩, .string ⟨#[108, 97, 114, 103, 101]⟩] 9)) (W1.heap.size + 1 + 1) 0 sizesL from sizes_at (Blk.new (by simp)))).mono ?_); rintro e W5 ⟨rfl, rfl⟩; have Q5 := hid (Q3.out.alloc (.cells #[.string ⟨#[]⟩, .string ⟨#[]⟩, .string ⟨#[]⟩, .string ⟨#[]⟩, .string ⟨#[]⟩, .string ⟨#[]⟩, .string ⟨#[]⟩, .string ⟨#[]⟩, .string ⟨#[]⟩, .string ⟨#[]⟩, .string ⟨#[]⟩, .string ⟨#[]⟩, .string ⟨#[]⟩, .string ⟨#[115, 109, 97, 108, 108]⟩, .string ⟨#[]⟩, .string ⟨#[]⟩, .string ⟨#[109, 101, 100, 105, 117, 109]⟩, .string ⟨#[]⟩, .string ⟨#[108, 97, 114, 103, 101]⟩] 9)); have HB5 := hid (HB3.out.alloc HB3.out.size (.cells #[.string ⟨#[]⟩, .string ⟨#[]⟩, .string ⟨#[]⟩, .string ⟨#[]⟩, .string ⟨#[]⟩, .string ⟨#[]⟩, .string ⟨#[]⟩, .string ⟨#[]⟩, .string ⟨#[]⟩, .string ⟨#[]⟩, .string ⟨#[]⟩, .string ⟨#[]⟩, .string ⟨#[]⟩, .string ⟨#[115, 109, 97, 108, 108]⟩, .string ⟨#[]⟩, .string ⟨#[]⟩, .string ⟨#[109, 101, 100, 105, 117, 109]⟩, .string ⟨#[]⟩, .string ⟨#[108, 97, 114, 103, 101]⟩] 9)); have q5c := Q5.out.cell; have q5f := Q5.out.frozen))
  have e3 := ((Q5.out.put 0 (.int .i64 (2))).put 1 (.int .i64 (64 * Y))).cell
  exact bodyPost_ret (v := .tuple #[.agg #[.int .i64 (2), .int .i64 (64 * Y)], .bool false]) (by simp [results, Tryz.results31, go_sem, e3]) rfl ⟨rfl, (HB5.out.setCell (p := ⟨w.heap.size, 0, none⟩) (Nat.le_refl _) _).setCell (p := ⟨w.heap.size, 1, none⟩) (Nat.le_refl _) _⟩
theorem word_s1 (nm kd ks au : Bs) (ab : Bool) (S : ByteArray) (I : Int) (w : World) (hE : WEnv 37 nm kd ks au ab S I w) (Y : Int) (hY : WIdx 19 sizesL S Y) (hN : WNone I S au) (hb : Y <= 19) (hz : 0 < Y) (hS : (S.toList == []) = false) : Calls Tryz.prog 31 #[.int .i64 37, .string S] w (rt w (.tuple #[.agg #[.int .i64 (2), .int .i64 (64 * Y)], .bool true])) := by
 obtain ⟨hm, cA0, cS0, cX0⟩ := hE
 have HM := hid hm
 have cA := hid cA0
 have cS := hid cS0
 have cX := hid cX0
 clear hm cA0 cS0 cX0
 have Q0 := hid (show Blk (w.alloc (.cells #[.int .i64 0, .int .i64 0] 38)) w.heap.size 38 #[.int .i64 0, .int .i64 0] from Blk.new rfl)
 have HB0 := hid (ba w (.cells #[.int .i64 0, .int .i64 0] 38))
 have cY := hid hY
 clear hY
 unfold WIdx at cY
 have qw : IntKind.i64.wrap (64 * Y) = 64 * Y := IntWalk.i64_in _ (by omega)
 rcases hN with ⟨g1, g2, g3⟩ | ⟨g1, g2, g3⟩ | ⟨g1, g2, g3, g4⟩ | ⟨g1, g2, g3, g4⟩ | ⟨g1, g2, g3⟩ | ⟨g1, g2, g3, g4⟩
 ·exact absurd (g2.symm.trans hS) (by decide)
 ·exact absurd (g2.symm.trans hS) (by decide)
 ·exact absurd (g2.symm.trans hS) (by decide)
 ·exact absurd (g2.symm.trans hS) (by decide)
 all_goals
  go_enter Tryz.func31, Tryz.ntmps31
  go_wp2_with (first
    | (go_at_call 25; (with_reducible refine (cA.out _).mono ?_); rintro e W1 ⟨rfl, hb⟩; have Q1 := hid (Q0.out.below hb Q0.out.lt); have HB1 := hid (tb HB0 hb); have R2 := (show Blk (W1.alloc (.cells #[.string (bs nm), .string (bs kd), .string (bs ks), .string (bs au), .bool ab] 66)) W1.heap.size 66 #[.string (bs nm), .string (bs kd), .string (bs ks), .string (bs au), .bool ab] from Blk.new rfl); have Q2 := hid (Q1.out.alloc (.cells #[.string (bs nm), .string (bs kd), .string (bs ks), .string (bs au), .bool ab] 66)); have HB2 := hid (HB1.out.alloc HB1.out.size (.cells #[.string (bs nm), .string (bs kd), .string (bs ks), .string (bs au), .bool ab] 66)); have r2c := R2.cell 2; have R2h := hid R2; clear hb R2)
    | (go_at_call 47; (with_reducible refine (cS.out _ (HM.out.on HB2.out HM.out.lt)).mono ?_); rintro e W3 ⟨rfl, rfl⟩; have Q3 := hid (Q2.out.alloc (.cells ((pcsB ks).map Value.string).toArray 9)); have q3c := Q3.out.cell; have q3f := Q3.out.frozen; have HB3 := hid (HB2.out.alloc HB2.out.size (.cells ((pcsB ks).map Value.string).toArray 9)); have r3c := (R2h.out.alloc (.cells ((pcsB ks).map Value.string).toArray 9)).cell 3; have SA := hid (show StrsAt ((W1.alloc (.cells #[.string (bs nm), .string (bs kd), .string (bs ks), .string (bs au), .bool ab] 66)).alloc (.cells ((pcsB ks).map Value.string).toArray 9)) (W1.heap.size + 1) 0 (pcs ks) from pcs_cells (Blk.new (by simp))))
    | (go_at_call 52; (with_reducible refine (cX.out _ _ SA.out).mono ?_); rintro e W4 ⟨rfl, rfl⟩)
    | (go_at_call 52; (with_reducible refine (cY.out _ _ (show StrsAt (((W1.alloc (.cells #[.string (bs nm), .string (bs kd), .string (bs ks), .string (bs au), .bool ab] 66)).alloc (.cells ((pcsB ks).map Value.string).toArray 9)).alloc (.cells #[.string ⟨#[]⟩, .string ⟨#[]⟩, .string ⟨#[]⟩, .string ⟨#[]⟩, .string ⟨#[]⟩, .string ⟨#[]⟩, .string ⟨#[]⟩, .string ⟨#[]⟩, .string ⟨#[]⟩, .string ⟨#[]⟩, .string ⟨#[]⟩, .string ⟨#[]⟩, .string ⟨#[]⟩, .string ⟨#[115, 109, 97, 108, 108]⟩, .string ⟨#[]⟩, .string ⟨#[]⟩, .string ⟨#[109, 101, 100, 105, 117, 109]⟩, .string ⟨#[]⟩, .string ⟨#[108, 97, 114, 103, 101]⟩] 9)) (W1.heap.size + 1 + 1) 0 sizesL from sizes_at (Blk.new (by simp)))).mono ?_); rintro e W5 ⟨rfl, rfl⟩; have Q5 := hid (Q3.out.alloc (.cells #[.string ⟨#[]⟩, .string ⟨#[]⟩, .string ⟨#[]⟩, .string ⟨#[]⟩, .string ⟨#[]⟩, .string ⟨#[]⟩, .string ⟨#[]⟩, .string ⟨#[]⟩, .string ⟨#[]⟩, .string ⟨#[]⟩, .string ⟨#[]⟩, .string ⟨#[]⟩, .string ⟨#[]⟩, .string ⟨#[115, 109, 97, 108, 108]⟩, .string ⟨#[]⟩, .string ⟨#[]⟩, .string ⟨#[109, 101, 100, 105, 117, 109]⟩, .string ⟨#[]⟩, .string ⟨#[108, 97, 114, 103, 101]⟩] 9)); have HB5 := hid (HB3.out.alloc HB3.out.size (.cells #[.string ⟨#[]⟩, .string ⟨#[]⟩, .string ⟨#[]⟩, .string ⟨#[]⟩, .string ⟨#[]⟩, .string ⟨#[]⟩, .string ⟨#[]⟩, .string ⟨#[]⟩, .string ⟨#[]⟩, .string ⟨#[]⟩, .string ⟨#[]⟩, .string ⟨#[]⟩, .string ⟨#[]⟩, .string ⟨#[115, 109, 97, 108, 108]⟩, .string ⟨#[]⟩, .string ⟨#[]⟩, .string ⟨#[109, 101, 100, 105, 117, 109]⟩, .string ⟨#[]⟩, .string ⟨#[108, 97, 114, 103, 101]⟩] 9)); have q5c := Q5.out.cell; have q5f := Q5.out.frozen))
  have e3 := ((Q5.out.put 0 (.int .i64 (2))).put 1 (.int .i64 (64 * Y))).cell
  exact bodyPost_ret (v := .tuple #[.agg #[.int .i64 (2), .int .i64 (64 * Y)], .bool true]) (by simp [results, Tryz.results31, go_sem, e3]) rfl ⟨rfl, (HB5.out.setCell (p := ⟨w.heap.size, 0, none⟩) (Nat.le_refl _) _).setCell (p := ⟨w.heap.size, 1, none⟩) (Nat.le_refl _) _⟩
theorem word_t0 (P : Int) (nm kd ks au : Bs) (ab : Bool) (S : ByteArray) (I : Int) (w : World) (hE : WEnv P nm kd ks au ab S I w) (Y : Int) (hY : WIdx 6 thickL S Y) (hN : WNone I S au) (hb : -1 <= Y) (hz : ¬ 0 < Y) (h37 : ¬ P = 37) (h19 : 19 <= P) (h22 : P <= 22) : Calls Tryz.prog 31 #[.int .i64 P, .string S] w (rt w (.tuple #[.agg #[.int .i64 (2), .int .i64 (64 * Y)], .bool false])) := by
 obtain ⟨hm, cA0, cS0, cX0⟩ := hE
 have HM := hid hm
 have cA := hid cA0
 have cS := hid cS0
 have cX := hid cX0
 clear hm cA0 cS0 cX0
 have Q0 := hid (show Blk (w.alloc (.cells #[.int .i64 0, .int .i64 0] 38)) w.heap.size 38 #[.int .i64 0, .int .i64 0] from Blk.new rfl)
 have HB0 := hid (ba w (.cells #[.int .i64 0, .int .i64 0] 38))
 have cY := hid hY
 clear hY
 unfold WIdx at cY
 have qw : IntKind.i64.wrap (64 * Y) = 64 * Y := IntWalk.i64_in _ (by omega)
 rcases hN with ⟨g1, g2, g3⟩ | ⟨g1, g2, g3⟩ | ⟨g1, g2, g3, g4⟩ | ⟨g1, g2, g3, g4⟩ | ⟨g1, g2, g3⟩ | ⟨g1, g2, g3, g4⟩
 all_goals
  go_enter Tryz.func31, Tryz.ntmps31
  go_wp2_with (first
    | (go_at_call 25; (with_reducible refine (cA.out _).mono ?_); rintro e W1 ⟨rfl, hb⟩; have Q1 := hid (Q0.out.below hb Q0.out.lt); have HB1 := hid (tb HB0 hb); have R2 := (show Blk (W1.alloc (.cells #[.string (bs nm), .string (bs kd), .string (bs ks), .string (bs au), .bool ab] 66)) W1.heap.size 66 #[.string (bs nm), .string (bs kd), .string (bs ks), .string (bs au), .bool ab] from Blk.new rfl); have Q2 := hid (Q1.out.alloc (.cells #[.string (bs nm), .string (bs kd), .string (bs ks), .string (bs au), .bool ab] 66)); have HB2 := hid (HB1.out.alloc HB1.out.size (.cells #[.string (bs nm), .string (bs kd), .string (bs ks), .string (bs au), .bool ab] 66)); have r2c := R2.cell 2; have R2h := hid R2; clear hb R2)
    | (go_at_call 47; (with_reducible refine (cS.out _ (HM.out.on HB2.out HM.out.lt)).mono ?_); rintro e W3 ⟨rfl, rfl⟩; have Q3 := hid (Q2.out.alloc (.cells ((pcsB ks).map Value.string).toArray 9)); have q3c := Q3.out.cell; have q3f := Q3.out.frozen; have HB3 := hid (HB2.out.alloc HB2.out.size (.cells ((pcsB ks).map Value.string).toArray 9)); have r3c := (R2h.out.alloc (.cells ((pcsB ks).map Value.string).toArray 9)).cell 3; have SA := hid (show StrsAt ((W1.alloc (.cells #[.string (bs nm), .string (bs kd), .string (bs ks), .string (bs au), .bool ab] 66)).alloc (.cells ((pcsB ks).map Value.string).toArray 9)) (W1.heap.size + 1) 0 (pcs ks) from pcs_cells (Blk.new (by simp))))
    | (go_at_call 52; (with_reducible refine (cX.out _ _ SA.out).mono ?_); rintro e W4 ⟨rfl, rfl⟩)
    | (go_at_call 52; (with_reducible refine (cY.out _ _ (show StrsAt (((W1.alloc (.cells #[.string (bs nm), .string (bs kd), .string (bs ks), .string (bs au), .bool ab] 66)).alloc (.cells ((pcsB ks).map Value.string).toArray 9)).alloc (.cells #[.string ⟨#[]⟩, .string ⟨#[116, 104, 105, 110]⟩, .string ⟨#[]⟩, .string ⟨#[109, 101, 100, 105, 117, 109]⟩, .string ⟨#[]⟩, .string ⟨#[116, 104, 105, 99, 107]⟩] 9)) (W1.heap.size + 1 + 1) 0 thickL from thick_at (Blk.new (by simp)))).mono ?_); rintro e W5 ⟨rfl, rfl⟩; have Q5 := hid (Q3.out.alloc (.cells #[.string ⟨#[]⟩, .string ⟨#[116, 104, 105, 110]⟩, .string ⟨#[]⟩, .string ⟨#[109, 101, 100, 105, 117, 109]⟩, .string ⟨#[]⟩, .string ⟨#[116, 104, 105, 99, 107]⟩] 9)); have HB5 := hid (HB3.out.alloc HB3.out.size (.cells #[.string ⟨#[]⟩, .string ⟨#[116, 104, 105, 110]⟩, .string ⟨#[]⟩, .string ⟨#[109, 101, 100, 105, 117, 109]⟩, .string ⟨#[]⟩, .string ⟨#[116, 104, 105, 99, 107]⟩] 9)); have q5c := Q5.out.cell; have q5f := Q5.out.frozen))
  have e3 := ((Q5.out.put 0 (.int .i64 (2))).put 1 (.int .i64 (64 * Y))).cell
  exact bodyPost_ret (v := .tuple #[.agg #[.int .i64 (2), .int .i64 (64 * Y)], .bool false]) (by simp [results, Tryz.results31, go_sem, e3]) rfl ⟨rfl, (HB5.out.setCell (p := ⟨w.heap.size, 0, none⟩) (Nat.le_refl _) _).setCell (p := ⟨w.heap.size, 1, none⟩) (Nat.le_refl _) _⟩
theorem word_t1 (P : Int) (nm kd ks au : Bs) (ab : Bool) (S : ByteArray) (I : Int) (w : World) (hE : WEnv P nm kd ks au ab S I w) (Y : Int) (hY : WIdx 6 thickL S Y) (hN : WNone I S au) (hb : Y <= 19) (hz : 0 < Y) (hS : (S.toList == []) = false) (h37 : ¬ P = 37) (h19 : 19 <= P) (h22 : P <= 22) : Calls Tryz.prog 31 #[.int .i64 P, .string S] w (rt w (.tuple #[.agg #[.int .i64 (2), .int .i64 (64 * Y)], .bool true])) := by
 obtain ⟨hm, cA0, cS0, cX0⟩ := hE
 have HM := hid hm
 have cA := hid cA0
 have cS := hid cS0
 have cX := hid cX0
 clear hm cA0 cS0 cX0
 have Q0 := hid (show Blk (w.alloc (.cells #[.int .i64 0, .int .i64 0] 38)) w.heap.size 38 #[.int .i64 0, .int .i64 0] from Blk.new rfl)
 have HB0 := hid (ba w (.cells #[.int .i64 0, .int .i64 0] 38))
 have cY := hid hY
 clear hY
 unfold WIdx at cY
 have qw : IntKind.i64.wrap (64 * Y) = 64 * Y := IntWalk.i64_in _ (by omega)
 rcases hN with ⟨g1, g2, g3⟩ | ⟨g1, g2, g3⟩ | ⟨g1, g2, g3, g4⟩ | ⟨g1, g2, g3, g4⟩ | ⟨g1, g2, g3⟩ | ⟨g1, g2, g3, g4⟩
 ·exact absurd (g2.symm.trans hS) (by decide)
 ·exact absurd (g2.symm.trans hS) (by decide)
 ·exact absurd (g2.symm.trans hS) (by decide)
 ·exact absurd (g2.symm.trans hS) (by decide)
 all_goals
  go_enter Tryz.func31, Tryz.ntmps31
  go_wp2_with (first
    | (go_at_call 25; (with_reducible refine (cA.out _).mono ?_); rintro e W1 ⟨rfl, hb⟩; have Q1 := hid (Q0.out.below hb Q0.out.lt); have HB1 := hid (tb HB0 hb); have R2 := (show Blk (W1.alloc (.cells #[.string (bs nm), .string (bs kd), .string (bs ks), .string (bs au), .bool ab] 66)) W1.heap.size 66 #[.string (bs nm), .string (bs kd), .string (bs ks), .string (bs au), .bool ab] from Blk.new rfl); have Q2 := hid (Q1.out.alloc (.cells #[.string (bs nm), .string (bs kd), .string (bs ks), .string (bs au), .bool ab] 66)); have HB2 := hid (HB1.out.alloc HB1.out.size (.cells #[.string (bs nm), .string (bs kd), .string (bs ks), .string (bs au), .bool ab] 66)); have r2c := R2.cell 2; have R2h := hid R2; clear hb R2)
    | (go_at_call 47; (with_reducible refine (cS.out _ (HM.out.on HB2.out HM.out.lt)).mono ?_); rintro e W3 ⟨rfl, rfl⟩; have Q3 := hid (Q2.out.alloc (.cells ((pcsB ks).map Value.string).toArray 9)); have q3c := Q3.out.cell; have q3f := Q3.out.frozen; have HB3 := hid (HB2.out.alloc HB2.out.size (.cells ((pcsB ks).map Value.string).toArray 9)); have r3c := (R2h.out.alloc (.cells ((pcsB ks).map Value.string).toArray 9)).cell 3; have SA := hid (show StrsAt ((W1.alloc (.cells #[.string (bs nm), .string (bs kd), .string (bs ks), .string (bs au), .bool ab] 66)).alloc (.cells ((pcsB ks).map Value.string).toArray 9)) (W1.heap.size + 1) 0 (pcs ks) from pcs_cells (Blk.new (by simp))))
    | (go_at_call 52; (with_reducible refine (cX.out _ _ SA.out).mono ?_); rintro e W4 ⟨rfl, rfl⟩)
    | (go_at_call 52; (with_reducible refine (cY.out _ _ (show StrsAt (((W1.alloc (.cells #[.string (bs nm), .string (bs kd), .string (bs ks), .string (bs au), .bool ab] 66)).alloc (.cells ((pcsB ks).map Value.string).toArray 9)).alloc (.cells #[.string ⟨#[]⟩, .string ⟨#[116, 104, 105, 110]⟩, .string ⟨#[]⟩, .string ⟨#[109, 101, 100, 105, 117, 109]⟩, .string ⟨#[]⟩, .string ⟨#[116, 104, 105, 99, 107]⟩] 9)) (W1.heap.size + 1 + 1) 0 thickL from thick_at (Blk.new (by simp)))).mono ?_); rintro e W5 ⟨rfl, rfl⟩; have Q5 := hid (Q3.out.alloc (.cells #[.string ⟨#[]⟩, .string ⟨#[116, 104, 105, 110]⟩, .string ⟨#[]⟩, .string ⟨#[109, 101, 100, 105, 117, 109]⟩, .string ⟨#[]⟩, .string ⟨#[116, 104, 105, 99, 107]⟩] 9)); have HB5 := hid (HB3.out.alloc HB3.out.size (.cells #[.string ⟨#[]⟩, .string ⟨#[116, 104, 105, 110]⟩, .string ⟨#[]⟩, .string ⟨#[109, 101, 100, 105, 117, 109]⟩, .string ⟨#[]⟩, .string ⟨#[116, 104, 105, 99, 107]⟩] 9)); have q5c := Q5.out.cell; have q5f := Q5.out.frozen))
  have e3 := ((Q5.out.put 0 (.int .i64 (2))).put 1 (.int .i64 (64 * Y))).cell
  exact bodyPost_ret (v := .tuple #[.agg #[.int .i64 (2), .int .i64 (64 * Y)], .bool true]) (by simp [results, Tryz.results31, go_sem, e3]) rfl ⟨rfl, (HB5.out.setCell (p := ⟨w.heap.size, 0, none⟩) (Nat.le_refl _) _).setCell (p := ⟨w.heap.size, 1, none⟩) (Nat.le_refl _) _⟩
theorem autos_not : ∀ p : Fin 59, (rowP p.val).auto ≠ [45] := by decide +kernel
theorem pcs_len (s : Bs) : (pcsB s).length <= s.length + 1 := by
 have hl : (pcsB s).length = Lib.countB (bs s) ⟨#[32]⟩ + 1 := Lib.splitB_all _ (by decide) 0 _ _ rfl
 have h := Lib.countB_le (⟨#[32]⟩ : ByteArray) (by decide) s.length (bs s) (by rw [bs_size]; exact Nat.le_refl _)
 have hb := bs_size s
 omega
theorem tup3 {α β γ : Type} {X : α × β × γ} {a : α} {b : β} {c : γ} (h : X = (a, b, c)) : X.1 = a /\ X.2.1 = b /\ X.2.2 = c := by
 subst h
 exact ⟨rfl, rfl, rfl⟩
theorem beq_auto {S : ByteArray} {au : Bs} (s : Bs) (hS : bs s = S) : ((bs au).toList == S.toList) = decide (au = s) := by
 rw [<- hS, bs_toList, bs_toList]
 by_cases h : au = s
 ·simp [h]
 ·simp [h]
theorem word_ct (p : Nat) (hp : p < 59) (s : Bs) (w : World) (hm : MaxL w) : Calls Tryz.prog 31 #[.int .i64 p, .string (bs s)] w (rt w (.tuple #[.agg #[.int .i64 (wordP p s).1, .int .i64 (wordP p s).2.1], .bool (wordP p s).2.2])) := by
 have hkl : (rowP p).keys.length < 200 := keys_len ⟨p, hp⟩
 have hau : (rowP p).auto ≠ [45] := autos_not ⟨p, hp⟩
 have cA := at_ct p hp
 unfold rowV at cA
 unfold wordP
 generalize rowP p = R at *
 obtain ⟨nm, kd, ks, au, ab⟩ := R
 dsimp only at cA hkl hau ⊢
 have hpl : (pcsB ks).length <= 1000000 := by
  have := pcs_len ks
  omega
 have hE : WEnv p nm kd ks au ab (bs s) (idxP (pcs ks) s) w := ⟨hm, cA, fun w hm => split_ct ks (by omega) w hm, fun W R h => index_p W R 0 _ _ _ s (by simp [pcs]) h hpl⟩
 have hY1 : WIdx 19 sizesL (bs s) (idxP sizesL s) := fun W R h => index_p W R 0 _ _ _ s rfl h (by decide)
 have hY2 : WIdx 6 thickL (bs s) (idxP thickL s) := fun W R h => index_p W R 0 _ _ _ s rfl h (by decide)
 have b1 := idx_bd sizesL s
 have b2 := idx_bd thickL s
 rw [show sizesL.length = 19 from rfl] at b1
 rw [show thickL.length = 6 from rfl] at b2
 have z1 : s = [] -> idxP sizesL s = 0 := by rintro rfl; rfl
 have z2 : s = [] -> idxP thickL s = 0 := by rintro rfl; rfl
 have fA := beq_auto (au := au) s rfl
 have hw : wordR p ks au s = (if 0 <= idxP (pcs ks) s /\ s ≠ [45] /\ s ≠ [] then (1, idxP (pcs ks) s, true) else if au = s /\ s ≠ [] then (6, 0, true) else if p = 37 then (2, 64 * idxP sizesL s, decide (0 < idxP sizesL s)) else if 19 <= p /\ p <= 22 then (2, 64 * idxP thickL s, decide (0 < idxP thickL s)) else (2, 0, false)) := rfl
 generalize idxP (pcs ks) s = I at *
 generalize wordR p ks au s = X at *
 by_cases hA : 0 <= I /\ s ≠ [45] /\ s ≠ []
 ·obtain ⟨e1, e2, e3⟩ := tup3 (hw.trans (if_pos hA))
  rw [e1, e2, e3]
  exact word_A p nm kd ks au ab _ I w hE hA.1 (beq_no s rfl hA.2.2) (beq_no s rfl hA.2.1)
 ·by_cases hB : au = s /\ s ≠ []
  ·obtain ⟨e1, e2, e3⟩ := tup3 (hw.trans <| (if_neg hA).trans (if_pos hB))
   rw [e1, e2, e3]
   have h45 : s ≠ [45] := fun e => hau (hB.1.trans e)
   exact word_B p nm kd ks au ab _ I w hE (fun h => hA ⟨h, h45, hB.2⟩) (beq_no s rfl hB.2) (by rw [fA]; exact decide_eq_true hB.1)
  ·have hN : WNone I (bs s) au := by
    unfold WNone
    by_cases h0 : s = []
    ·have f0 := beq_yes s rfl h0
     have f45 := beq_no (l := [45]) s rfl (by rw [h0]; decide)
     by_cases hI : 0 <= I <;> cases hf : ((bs au).toList == (bs s).toList) <;> simp_all
    ·have f0 := beq_no s rfl h0
     have hf : ((bs au).toList == (bs s).toList) = false := by rw [fA]; exact decide_eq_false fun e => hB ⟨e, h0⟩
     by_cases hI : 0 <= I
     ·have h45 : s = [45] := Classical.byContradiction fun h => hA ⟨hI, h, h0⟩
      have f45 := beq_yes s rfl h45
      exact .inr (.inr (.inr (.inr (.inr ⟨hI, f0, hf, f45⟩))))
     ·exact .inr (.inr (.inr (.inr (.inl ⟨hI, f0, hf⟩))))
   by_cases h37 : p = 37
   ·obtain ⟨e1, e2, e3⟩ := tup3 (hw.trans <| (if_neg hA).trans ((if_neg hB).trans (if_pos h37)))
    rw [e1, e2, e3]
    subst h37
    by_cases hz : 0 < idxP sizesL s
    ·rw [decide_eq_true hz]
     exact word_s1 nm kd ks au ab _ I w hE _ hY1 hN (by omega) hz (beq_no s rfl (fun h => by have := z1 h; omega))
    ·rw [decide_eq_false hz]
     exact word_s0 nm kd ks au ab _ I w hE _ hY1 hN b1.1 hz
   ·by_cases h19 : 19 <= p /\ p <= 22
    ·obtain ⟨e1, e2, e3⟩ := tup3 (hw.trans <| (if_neg hA).trans ((if_neg hB).trans ((if_neg h37).trans (if_pos h19))))
     rw [e1, e2, e3]
     by_cases hz : 0 < idxP thickL s
     ·rw [decide_eq_true hz]
      exact word_t1 p nm kd ks au ab _ I w hE _ hY2 hN (by omega) hz (beq_no s rfl (fun h => by have := z2 h; omega)) (by omega) (by omega) (by omega)
     ·rw [decide_eq_false hz]
      exact word_t0 p nm kd ks au ab _ I w hE _ hY2 hN b2.1 hz (by omega) (by omega) (by omega)
    ·obtain ⟨e1, e2, e3⟩ := tup3 (hw.trans <| (if_neg hA).trans ((if_neg hB).trans ((if_neg h37).trans (if_neg h19))))
     rw [e1, e2, e3]
     exact word_o p nm kd ks au ab _ I w hE hN (by omega) (by omega)
end prp
end Go.Proofs.YtlfkkaofgcongaaGreatDoor
