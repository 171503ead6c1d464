/- AnimWakes: the walk. -/
import Derived.Test.YtchmpdibbklpfaaAnimWk1
namespace Go.Proofs.Ytchmpdibbklpfaa.anim.wakes
open Go.RowKit Go.Proofs.Ytchmpdibbklpfaa.base Go.ChangeShapes Go.WideShapes Go.ChangeAt
set_option linter.unusedVariables false

theorem part_of (m : Int) {G : Int} (g0 : 0 < G) (g1 : G ≤ 300000000000) : ∃ q, (IntKind.u64.wrap m).tmod G = q ∧ 0 ≤ q ∧ q < G ∧ IntKind.u64.wrap q = q ∧ IntKind.i64.wrap q = q ∧ IntKind.u64.wrap G = G := by
  have hu : 0 ≤ IntKind.u64.wrap m := by simp [IntKind.wrap, IntKind.bits, IntKind.signed]; omega
  generalize IntKind.u64.wrap m = u at *
  have h0 := Int.emod_nonneg u (show G ≠ 0 by omega)
  have h1 := Int.emod_lt_of_pos u g0
  rw [Int.tmod_eq_emod_of_nonneg hu]
  refine ⟨_, rfl, h0, h1, ?_, IntWalk.i64_in _ (by omega), ?_⟩
  · generalize u % G = q at *
    simp [IntKind.wrap, IntKind.bits, IntKind.signed]; omega
  · simp [IntKind.wrap, IntKind.bits, IntKind.signed]; omega

set_option maxRecDepth 100000 in
set_option maxHeartbeats 4000000 in
theorem law_ct (A : Option Addr) (n cap : Nat) (L : List AnimD) (bk bn now x : Int) (w : World) (hn : n ≤ maxLen) (hL : LRd w w.heap.size A n L) :
    Calls Try.prog 11 #[.slice A n cap, .agg #[.int .i64 bk, .int .i64 bn], .int .i64 now, .int .i64 x] w fun e w' => e = .returned (.bool true) ∧ Below w.heap.size w w' := by
  have HL := Lib.hid hL
  have HN := Lib.hid hn
  clear hL hn
  go_enter Try.func11, Try.ntmps11
  go_wp2_with fail
  generalize hW0 : w.alloc (.cells #[.int .i64 bk, .int .i64 bn] 39) = W0
  have HB := Lib.hid (show Below w.heap.size w W0 by subst hW0; exact (Below.refl _ _).alloc (Nat.le_refl _) _)
  have HZ : w.heap.size + 1 ≤ W0.heap.size := by subst hW0; simp
  have bb := Lib.hid (show Blk W0 w.heap.size 39 #[.int .i64 bk, .int .i64 bn] by subst hW0; exact Blk.new rfl)
  clear hW0
  refine (stepped_ct _).mono ?_
  rintro e W1 ⟨rfl, hb⟩
  have HB1 := Lib.hid (HB.out.trans (hb.mono HB.out.size))
  have bb1 := Lib.hid (bb.out.below hb (by omega))
  have c1 := bb1.out.cell
  clear hb bb HB HZ
  go_wp2_with fail
  refine (at_ct A n cap L bk bn now _ HN.out (HL.out.keep HB1.out HB1.out.size)).mono ?_
  rintro e W2 ⟨rfl, hb⟩
  have HB2 := Lib.hid (HB1.out.trans (hb.mono HB1.out.size))
  have bb2 := Lib.hid (bb1.out.below hb bb1.out.lt)
  have z2 := bb2.out.lt
  clear hb c1 bb1 HB1
  obtain ⟨V, hV⟩ : ∃ V, atV L (bk, bn) now = V := ⟨_, rfl⟩
  rw [hV]
  replace hV := Lib.hid hV
  go_wp2_with fail
  have HB2a := Lib.hid (HB2.out.alloc HB2.out.size (.cells #[.int .i64 V.1, .int .i64 V.2] 39))
  refine (wake_ct A n cap L now _ HN.out (HL.out.keep HB2a.out HB2a.out.size)).mono ?_
  rintro e W3 ⟨⟨wh, is, rfl, hwoke⟩, hb⟩
  have HB3 := Lib.hid (HB2a.out.trans (hb.mono HB2a.out.size))
  have bb3 := Lib.hid ((bb2.out.alloc _).below hb (by simp; omega))
  have vb3 := Lib.hid ((Blk.new (t := 39) (cs := #[.int .i64 V.1, .int .i64 V.2]) (rfl : W2.heap.size = W2.heap.size)).below hb (by simp))
  have c3 := bb3.out.cell
  have v3 := vb3.out.cell
  have z3 := bb3.out.lt
  have y3 := vb3.out.lt
  clear hb bb2 HB2 HB2a z2
  by_cases hr : rightE L now = 0
  · obtain ⟨r1, r2, r3, r4⟩ := right_ok hr
    have hal := Lib.hid (fun m => @at_alike L now m wh is hwoke hr)
    have hg := hwoke.2 hr
    rw [hr]
    replace hr := Lib.hid hr
    have hg1 := hg.1
    clear hwoke hg r1 r2
    cases is
    · clear hg1
      obtain ⟨q, hq, q0, q1, hq1, hq2, hq3⟩ := part_of x (show (0 : Int) < 1000000 by decide) (by decide)
      have hq4 : IntKind.i64.wrap (now + q) = now + q := IntWalk.i64_in _ (by omega)
      replace hal := Lib.hid (fun h => hal.out (now + q) h (by omega) (fun h => by cases h) (bk, bn))
      go_wp2_with fail
      have HLd := Lib.hid (show LRd W3.drew W3.drew.heap.size A n L from HL.out.keep HB3.out.drew HB3.out.size)
      have HLa := Lib.hid (show LRd (W3.alloc (.cells #[.int .i64 0, .int .i64 0] 39)).drew (W3.alloc (.cells #[.int .i64 0, .int .i64 0] 39)).drew.heap.size A n L from HL.out.keep (HB3.out.alloc HB3.out.size _).drew (HB3.out.alloc HB3.out.size _).size)
      have qa := Lib.hid (show Blk (W3.alloc (.cells #[.int .i64 0, .int .i64 0] 39)).drew W3.heap.size 39 #[.int .i64 0, .int .i64 0] from (Blk.new rfl).drew)
      have va := Lib.hid (show Blk (W3.alloc (.cells #[.int .i64 0, .int .i64 0] 39)).drew W2.heap.size 39 #[.int .i64 V.1, .int .i64 V.2] from (vb3.out.alloc _).drew)
      have vd := Lib.hid (show Blk W3.drew W2.heap.size 39 #[.int .i64 V.1, .int .i64 V.2] from vb3.out.drew)
      have ZB : W3.heap.size ≤ W3.heap.size := Nat.le_refl _
      go_region_held3 (fun w' => (∀ b o, b < W3.heap.size → w'.cell? ⟨b, o, none⟩ = W3.cell? ⟨b, o, none⟩) ∧ Below W3.heap.size W3 w')
        (first | exact As.beg | assumption | exact As.on hb3 (by assumption) ZB | exact As.alloc (by assumption) ZB | exact As.alloc hs4.out ZB | exact As.store (As.store hs4.out (by dsimp only; omega)) (by dsimp only; omega))
        (first | (go_at_call 18; (with_reducible refine (at_ct A n cap L bk bn (now + q) _ HN.out (by first | exact HLd.out | exact HLa.out)).mono ?_); rintro e w4 ⟨rfl, hb3⟩; (first | (have hs4 := Lib.hid (As.on (B := W3.heap.size) (W0 := W3) hb3 As.beg ZB); have v4 := Lib.hid (vd.out.below hb3 vd.out.lt)) | (have hs4 := Lib.hid (As.on (B := W3.heap.size) (W0 := W3) hb3 (As.drew (As.alloc As.beg0 ZB)) ZB); have q4 := Lib.hid (qa.out.below hb3 qa.out.lt); have v4 := Lib.hid (va.out.below hb3 va.out.lt); have q4f := q4.out.frozen; have q4c := q4.out.cell))))
      all_goals
        have k0 := v4.out.cell
        have k1 := fun o => (v4.out.alloc o).cell
        have z4 := v4.out.lt
        clear HLd HLa vd qa va c3 v3 hq1 hq2 hq3 hq4
        first
          | (have k2 := fun a b => ((q4.out.put 0 a).put 1 b).cell
             have k3 := fun a b => ((v4.out.far (p := ⟨W3.heap.size, 0, none⟩) (by dsimp only; omega) a).far (p := ⟨W3.heap.size, 1, none⟩) (by dsimp only; omega) b).cell
             have z5 := q4.out.lt)
          | skip
        by_cases hm : rightE L (now + q) = 0
        · have he := (hal.out hm).symm.trans hV.out
          have hm' : (rightE L (now + q) != 0) = false := by simp [hm]
          rw [he]
          replace he := Lib.hid he
          replace hm := Lib.hid hm
          go_wp2
          go_ret
          first
            | exact ⟨rfl, As.fin HB3.out (As.alloc hs4.out ZB) HB3.out.size⟩
            | exact ⟨rfl, As.fin HB3.out (As.store (As.store hs4.out (by dsimp only; omega)) (by dsimp only; omega)) HB3.out.size⟩
        · have hm' : (rightE L (now + q) != 0) = true := by simp [hm]
          replace hm := Lib.hid hm
          go_wp2
          go_ret
          first
            | exact ⟨rfl, As.fin HB3.out (As.alloc hs4.out ZB) HB3.out.size⟩
            | exact ⟨rfl, As.fin HB3.out (As.store (As.store hs4.out (by dsimp only; omega)) (by dsimp only; omega)) HB3.out.size⟩
    · obtain ⟨hg2, hg3⟩ := hg1 rfl
      clear hg1
      obtain ⟨G, hG⟩ : ∃ G, wh - now = G := ⟨_, rfl⟩
      obtain ⟨q, hq, q0, q1, hq1, hq2, hq3⟩ := part_of x (show (0 : Int) < G by omega) (by omega)
      have hq4 : IntKind.i64.wrap (now + q) = now + q := IntWalk.i64_in _ (by omega)
      have hq5 : (G == 0) = false := by simp; omega
      have hq6 : G ≠ 0 := by omega
      replace hal := Lib.hid (fun h => hal.out (now + q) h (by omega) (fun _ => by omega) (bk, bn))
      go_wp2_with fail
      have HLd := Lib.hid (show LRd W3.drew W3.drew.heap.size A n L from HL.out.keep HB3.out.drew HB3.out.size)
      have HLa := Lib.hid (show LRd (W3.alloc (.cells #[.int .i64 0, .int .i64 0] 39)).drew (W3.alloc (.cells #[.int .i64 0, .int .i64 0] 39)).drew.heap.size A n L from HL.out.keep (HB3.out.alloc HB3.out.size _).drew (HB3.out.alloc HB3.out.size _).size)
      have qa := Lib.hid (show Blk (W3.alloc (.cells #[.int .i64 0, .int .i64 0] 39)).drew W3.heap.size 39 #[.int .i64 0, .int .i64 0] from (Blk.new rfl).drew)
      have va := Lib.hid (show Blk (W3.alloc (.cells #[.int .i64 0, .int .i64 0] 39)).drew W2.heap.size 39 #[.int .i64 V.1, .int .i64 V.2] from (vb3.out.alloc _).drew)
      have vd := Lib.hid (show Blk W3.drew W2.heap.size 39 #[.int .i64 V.1, .int .i64 V.2] from vb3.out.drew)
      have ZB : W3.heap.size ≤ W3.heap.size := Nat.le_refl _
      go_region_held3 (fun w' => (∀ b o, b < W3.heap.size → w'.cell? ⟨b, o, none⟩ = W3.cell? ⟨b, o, none⟩) ∧ Below W3.heap.size W3 w')
        (first | exact As.beg | assumption | exact As.on hb3 (by assumption) ZB | exact As.alloc (by assumption) ZB | exact As.alloc hs4.out ZB | exact As.store (As.store hs4.out (by dsimp only; omega)) (by dsimp only; omega))
        (first | (go_at_call 18; (with_reducible refine (at_ct A n cap L bk bn (now + q) _ HN.out (by first | exact HLd.out | exact HLa.out)).mono ?_); rintro e w4 ⟨rfl, hb3⟩; (first | (have hs4 := Lib.hid (As.on (B := W3.heap.size) (W0 := W3) hb3 As.beg ZB); have v4 := Lib.hid (vd.out.below hb3 vd.out.lt)) | (have hs4 := Lib.hid (As.on (B := W3.heap.size) (W0 := W3) hb3 (As.drew (As.alloc As.beg0 ZB)) ZB); have q4 := Lib.hid (qa.out.below hb3 qa.out.lt); have v4 := Lib.hid (va.out.below hb3 va.out.lt); have q4f := q4.out.frozen; have q4c := q4.out.cell))))
      all_goals
        have k0 := v4.out.cell
        have k1 := fun o => (v4.out.alloc o).cell
        have z4 := v4.out.lt
        clear HLd HLa vd qa va c3 v3 hq1 hq2 hq3 hq4
        first
          | (have k2 := fun a b => ((q4.out.put 0 a).put 1 b).cell
             have k3 := fun a b => ((v4.out.far (p := ⟨W3.heap.size, 0, none⟩) (by dsimp only; omega) a).far (p := ⟨W3.heap.size, 1, none⟩) (by dsimp only; omega) b).cell
             have z5 := q4.out.lt)
          | skip
        by_cases hm : rightE L (now + q) = 0
        · have he := (hal.out hm).symm.trans hV.out
          have hm' : (rightE L (now + q) != 0) = false := by simp [hm]
          rw [he]
          replace he := Lib.hid he
          replace hm := Lib.hid hm
          go_wp2
          go_ret
          first
            | exact ⟨rfl, As.fin HB3.out (As.alloc hs4.out ZB) HB3.out.size⟩
            | exact ⟨rfl, As.fin HB3.out (As.store (As.store hs4.out (by dsimp only; omega)) (by dsimp only; omega)) HB3.out.size⟩
        · have hm' : (rightE L (now + q) != 0) = true := by simp [hm]
          replace hm := Lib.hid hm
          go_wp2
          go_ret
          first
            | exact ⟨rfl, As.fin HB3.out (As.alloc hs4.out ZB) HB3.out.size⟩
            | exact ⟨rfl, As.fin HB3.out (As.store (As.store hs4.out (by dsimp only; omega)) (by dsimp only; omega)) HB3.out.size⟩
  · have hr' : (rightE L now != 0) = true := by simp [hr]
    obtain ⟨rfl, rfl⟩ := hwoke.1 hr
    clear hr hwoke
    go_wp2
    go_ret
    exact ⟨rfl, HB3.out⟩

end Go.Proofs.Ytchmpdibbklpfaa.anim.wakes
