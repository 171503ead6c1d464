/- PropReads: for every number, text, scale and color the call returns true, and all that was there reads as before. The package-level variables that its row lists start as the program's text lays them (the card ties them). -/
import Derived.Lib.Hide
import Derived.Test.YtlfkkaofgcongaaGreatDoorCA
import Derived.Test.YtlfkkaofgcongaaGreatDoorCG
import Derived.Test.YtlfkkaofgcongaaGreatDoorBJ
import Derived.Test.YtlfkkaofgcongaaGreatDoorTie
import Derived.Test.YtlfkkaofgcongaaGreatDoorCards
set_option linter.unusedVariables false
set_option maxRecDepth 100000
set_option maxHeartbeats 16000000
open Go.Lib (hid)
namespace Go.Proofs.YtlfkkaofgcongaaGreatDoor
namespace prp
open Go.RowKit base tok dim
set_option linter.unusedSimpArgs false
theorem run_eq_w (a b c d : Int) (w : World) : (binOp .eql 38 (.agg #[.int .i64 a, .int .i64 b]) (.agg #[.int .i64 c, .int .i64 d])).run Tryz.prog w = .ok (.bool (decide (a = c /\ b = d))) w := by
 rw [run_eql_struct, run_equalIn_agg w _ _ _ _ (by kernel_rfl) (by kernel_rfl)]
 simp only [Program.fieldsOf, Tryz.underlying38]
 simp [Op.eqFields, go_sem, Tryz.underlying3]
 (repeat' split) <;> simp_all
theorem autos_some : ∀ p : Fin 59, hasR (rowP p.val).kinds 6 = true -> (rowP p.val).auto ≠ [] := by decide +kernel
theorem text_some {p : Nat} (hp : p < 59) {k n : Int} (h : fitsP p k n = true) : ((textV p k n).toList == []) = false := by
 rw [beq_eq_false_iff_ne]
 have hb := fits_bd hp h
 unfold textV
 rcases hb.1 with rfl | rfl | rfl | hk
 ·rw [if_pos rfl]
  intro e
  apply hb.2.2.2.2.2 rfl
  have := congrArg bs e
  rw [bs_back] at this
  exact this
 ·rw [if_neg (by decide), if_pos rfl, bs_toList]
  exact autos_some ⟨p, hp⟩ hb.2.1
 ·rw [if_neg (by decide), if_neg (by decide), if_pos rfl, bs_toList]
  unfold col.textS
  simp
 ·rw [if_neg (by omega), if_neg (by omega), if_neg (by omega), bs_toList]
  intro e
  have := num_dig (numO k n) (unitO k)
  rw [e] at this
  cases this
theorem read_out (p : Int) (hp : ¬ (0 <= p /\ p < 59)) (S : ByteArray) (em rem vw vh cur : Int) (w : World) : Calls Tryz.prog 11 #[.int .i64 p, .string S, .agg #[.int .i64 em, .int .i64 rem, .int .i64 vw, .int .i64 vh], .int .i64 cur] w (rt w (.tuple #[.agg #[.int .i64 0, .int .i64 0], .int .i64 1])) := by
 have cI := hid (fun w => in_no p hp w)
 have R0 := hid (show Blk ((w.alloc (.cells #[.int .i64 em, .int .i64 rem, .int .i64 vw, .int .i64 vh] 42)).alloc (.cells #[.int .i64 0, .int .i64 0] 38)) (w.heap.size + 1) 38 #[.int .i64 0, .int .i64 0] from Blk.new (by simp))
 have HB0 := hid ((ba w (.cells #[.int .i64 em, .int .i64 rem, .int .i64 vw, .int .i64 vh] 42)).alloc (by simp) (.cells #[.int .i64 0, .int .i64 0] 38))
 go_enter Tryz.func11, Tryz.ntmps11
 go_wp2_with (go_at_call 26; (with_reducible refine (cI.out _).mono ?_); rintro e W1 ⟨rfl, hb⟩; have R1 := hid (R0.out.below hb R0.out.lt); have HB1 := hid (tb HB0 hb); have r1c := R1.out.cell; have r1f := R1.out.frozen; clear hb)
 have e3 := ((R1.out.put 0 (.int .i64 0)).put 1 (.int .i64 0)).cell
 exact bodyPost_ret (v := .tuple #[.agg #[.int .i64 0, .int .i64 0], .int .i64 1]) (by simp [results, Tryz.results11, go_sem, e3]) rfl ⟨rfl, (HB1.out.setCell (p := ⟨w.heap.size + 1, 0, none⟩) (Nat.le_succ _) _).setCell (p := ⟨w.heap.size + 1, 1, none⟩) (Nat.le_succ _) _⟩
theorem reads_out (p : Int) (S : ByteArray) (em rem vw vh cur : Int) (Q : ByteArray) (hQ : (Q.toList == []) = true) (cR0 : ∀ w, MaxL w -> UnitsAt w -> col.ErrsAt w -> PowAt w -> Calls Tryz.prog 11 #[.int .i64 p, .string S, .agg #[.int .i64 em, .int .i64 rem, .int .i64 vw, .int .i64 vh], .int .i64 cur] w (rt w (.tuple #[.agg #[.int .i64 0, .int .i64 0], .int .i64 1]))) (cN0 : ∀ w, Calls Tryz.prog 14 #[.int .i64 p] w (rt w (.string Q))) (w : World) (hm : MaxL w) (hU : UnitsAt w) (hE : col.ErrsAt w) (hT : PowAt w) (hR : col.BruAt w) :
  Calls Tryz.prog 6 #[.int .i64 p, .string S, .agg #[.int .i64 em, .int .i64 rem, .int .i64 vw, .int .i64 vh], .int .i64 cur] w (rt w (.bool true)) := by
 have cH := hid (fun w => shaped_ct w)
 have cR := hid cR0
 have cN := hid cN0
 have keq := fun W => run_eq_w 0 0 0 0 W
 simp only [and_self, decide_true] at keq
 have HM := hid hm
 have HU := hid hU
 have HE := hid hE
 have HT := hid hT
 have HR := hid hR
 clear hm hU hT hR hE cR0 cN0
 have K0 := hid (show Blk (w.alloc (.cells #[.int .i64 em, .int .i64 rem, .int .i64 vw, .int .i64 vh] 42)) w.heap.size 42 #[.int .i64 em, .int .i64 rem, .int .i64 vw, .int .i64 vh] from Blk.new rfl)
 have HB0 := hid (ba w (.cells #[.int .i64 em, .int .i64 rem, .int .i64 vw, .int .i64 vh] 42))
 go_enter Tryz.func6, Tryz.ntmps6
 go_wp2_with (first
  | (go_at_call 7; (with_reducible refine (cH.out _).mono ?_); rintro e W1 ⟨rfl, hb⟩; have K1 := hid (K0.out.below hb K0.out.lt); have k1c := K1.out.cell; have HB1 := hid (tb HB0 hb); clear hb)
  | (go_at_call 11; (with_reducible refine (cR.out _ (HM.out.on HB1.out HM.out.lt) (HU.out.on HB1.out) (HE.out.on HB1.out) (HT.out.on HB1.out)).mono ?_); rintro e W2 ⟨rfl, hb⟩; have N2 := hid (show Blk (W2.alloc (.cells #[.int .i64 0, .int .i64 0] 38)) W2.heap.size 38 #[.int .i64 0, .int .i64 0] from Blk.new rfl); have HB2 := hid ((tb HB1 hb).alloc (tb HB1 hb).size (.cells #[.int .i64 0, .int .i64 0] 38)); clear hb)
  | (go_at_call 14; (with_reducible refine (cN.out _).mono ?_); rintro e W3 ⟨rfl, hb⟩; have HB3 := hid (tb HB2 hb); clear hb))
 go_ret
 exact ⟨rfl, HB3.out⟩
theorem reads_in (p : Nat) (hp : p < 59) (S : ByteArray) (em rem vw vh cur : Int) (cR0 : ∀ w, MaxL w -> UnitsAt w -> col.ErrsAt w -> PowAt w -> Calls Tryz.prog 11 #[.int .i64 p, .string S, .agg #[.int .i64 em, .int .i64 rem, .int .i64 vw, .int .i64 vh], .int .i64 cur] w (RRes (fitsP p) w)) (w : World) (hm : MaxL w) (hU : UnitsAt w) (hE : col.ErrsAt w) (hT : PowAt w) (hR : col.BruAt w) :
  Calls Tryz.prog 6 #[.int .i64 p, .string S, .agg #[.int .i64 em, .int .i64 rem, .int .i64 vw, .int .i64 vh], .int .i64 cur] w (rt w (.bool true)) := by
 have cH := hid (fun w => shaped_ct w)
 have cR := hid cR0
 have cN := hid (fun w => name_ct p hp w)
 have hQ : ((bs (rowP p).name).toList == []) = false := by
  rw [bs_toList, beq_eq_false_iff_ne]
  exact (rows_keys ⟨p, hp⟩).2.2.2.2
 generalize bs (rowP p).name = Q at *
 have cT := hid (fun k n w hn hf hm hT hR => text_ok p hp k n hn hf w hm hT hR)
 have cF := hid (fun k n w hn hf hm => fit_at p hp k n hn hf w hm)
 have HS := hid (fun (k n : Int) (hf : fitsP p k n = true) => text_some hp hf)
 have HM := hid hm
 have HU := hid hU
 have HE := hid hE
 have HT := hid hT
 have HR := hid hR
 clear hm hU hT hR hE cR0 hp
 have K0 := hid (show Blk (w.alloc (.cells #[.int .i64 em, .int .i64 rem, .int .i64 vw, .int .i64 vh] 42)) w.heap.size 42 #[.int .i64 em, .int .i64 rem, .int .i64 vw, .int .i64 vh] from Blk.new rfl)
 have HB0 := hid (ba w (.cells #[.int .i64 em, .int .i64 rem, .int .i64 vw, .int .i64 vh] 42))
 go_enter Tryz.func6, Tryz.ntmps6
 go_upto_if 24 with (first
  | (go_at_call 7; (with_reducible refine (cH.out _).mono ?_); rintro e W1 ⟨rfl, hb⟩; have K1 := hid (K0.out.below hb K0.out.lt); have k1c := K1.out.cell; have HB1 := hid (tb HB0 hb); clear hb)
  | (go_at_call 11; (with_reducible refine (cR.out _ (HM.out.on HB1.out HM.out.lt) (HU.out.on HB1.out) (HE.out.on HB1.out) (HT.out.on HB1.out)).mono ?_); rintro e W2 ⟨⟨k, n, x, rfl, hx⟩, hb⟩; have N2 := hid (show Blk (W2.alloc (.cells #[.int .i64 k, .int .i64 n] 38)) W2.heap.size 38 #[.int .i64 k, .int .i64 n] from Blk.new rfl); have HB2 := hid ((tb HB1 hb).alloc (tb HB1 hb).size (.cells #[.int .i64 k, .int .i64 n] 38)); have HX := hid hx; clear hb hx))
 rcases HX.out with ⟨rfl, hF, hn0, hn1⟩ | ⟨rfl, rfl, rfl⟩
 ·have hS := HS.out k n hF
  have cT2 := hid (fun w hm hT hR => cT.out k n w ⟨hn0, hn1⟩ hF hm hT hR)
  have cF2 := hid (fun w hm => cF.out k n w ⟨hn0, hn1⟩ hF hm)
  generalize textV p k n = Z at *
  clear hF
  go_wp2_with (first
   | (go_at_call 10; (with_reducible refine (cT2.out _ (HM.out.on HB2.out HM.out.lt) (HT.out.on HB2.out) (HR.out.on HB2.out)).mono ?_); rintro e W3 ⟨rfl, hb⟩; have N3 := hid (N2.out.below hb N2.out.lt); have n3c := N3.out.cell; have HB3 := hid (tb HB2 hb); clear hb)
   | (go_at_call 15; (with_reducible refine (cF2.out _ (HM.out.on HB3.out HM.out.lt)).mono ?_); rintro e W4 ⟨rfl, hb⟩; have HB4 := hid (tb HB3 hb); clear hb))
  go_ret
  exact ⟨rfl, HB4.out⟩
 ·have keq := fun W => run_eq_w 0 0 0 0 W
  simp only [and_self, decide_true] at keq
  go_wp2_with (go_at_call 14; (with_reducible refine (cN.out _).mono ?_); rintro e W3 ⟨rfl, hb⟩; have HB3 := hid (tb HB2 hb); clear hb)
  go_ret
  exact ⟨rfl, HB3.out⟩
theorem law_ct (p : Int) (S : ByteArray) (em rem vw vh cur : Int) (hs : S.size <= 140737488351232) (w : World) (hm : MaxL w) (hU : UnitsAt w) (hT : PowAt w) (hR : col.BruAt w) (hE : col.ErrsAt w) :
  Calls Tryz.prog 6 #[.int .i64 p, .string S, .agg #[.int .i64 em, .int .i64 rem, .int .i64 vw, .int .i64 vh], .int .i64 cur] w (rt w (.bool true)) := by
 by_cases hp : 0 <= p /\ p < 59
 ·obtain ⟨q, rfl⟩ : ∃ q : Nat, p = q := ⟨p.toNat, by omega⟩
  have hq : q < 59 := by omega
  exact reads_in q hq S em rem vw vh cur (fun w hm hU hE hT => read_all q hq S.data.toList (by have e : S.size = S.data.toList.length := rfl; omega) em rem vw vh cur w hm hU hE hT) w hm hU hE hT hR
 ·exact reads_out p S em rem vw vh cur ⟨#[]⟩ (by rw [show (⟨#[]⟩ : ByteArray) = bs [] from rfl, bs_toList]; rfl) (fun w _ _ _ _ => read_out p hp S em rem vw vh cur w) (fun w => name_no p hp w) w hm hU hE hT hR
end prp
namespace prp.reads
open Go.RowKit base tok prp Go.ChangeShapes Go.WideShapes Go.ChangeAt
theorem lifted (os : Os) (started : os.Started) (H : Type) (enc : TypeId × Value -> H) :
  ReturnsInHanded {} Tryz.checked os 6 .any (fun w args => (Rows.propReadsSpec.pre enc Tryz.prog Tryz.f6 Rows.propReadsRow.domain false w args /\ laidMetH Tryz.prog Rows.propReadsRow.laid w) /\ sizedMet enc Tryz.prog Tryz.f6 (OpenSpec.ofChange Rows.propReadsSpec) false w args)
   (Rows.propReadsSpec.post enc Tryz.prog Tryz.f6 false true false false) := by
 refine returns_door (C := Tryz.checked) (X := fun w _ => laidMetH Tryz.prog Rows.propReadsRow.laid w) (fun _ _ _ hh h => h.of_heap hh) ownD started (by kernel_rfl) Tryz.func6
  (ChangeSpec.witness_shaped (enc := enc) (C := Tryz.checked) (os := os) (X := fun w _ => laidMetH Tryz.prog Rows.propReadsRow.laid w) false (World.laidAll Tryz.prog os Rows.propReadsRow.laid) #[.int .i64 0, .string .empty, .agg #[.int .i64 0, .int .i64 0, .int .i64 0, .int .i64 0], .int .i64 0] 8 (World.laidAll_os _ _ _)
   (World.shaped_of_ZipB (by kernel_rfl) (by kernel_rfl)) (by kernel_rfl) (by kernel_rfl) (by kernel_rfl)
   (by rw [MakeChecks.laidMetH_plain _ _ _ (by kernel_rfl)]; exact laidMet_laidAll _ (by kernel_rfl) (by kernel_rfl))) ?_
 intro W base args ds gs before hval0 hW hsz hlaid hsh
 have hval : ∀ (j : Nat) t v, Tryz.f6.params[j]? = some t -> args[j]? = some v -> Value.okWide Tryz.prog W .any base t v := hval0
 have hW' := hW
 obtain ⟨p, q, hA0, hV, -, -, -⟩ := hW
 have hA : DataW.TrodAll enc Tryz.prog W 0 (fun _ => true) true Tryz.f6.params.toList args.toList ds p := hA0
 rw [Tryz.params6] at hA hval
 obtain ⟨v0, vs0, d0, ds0, p0, q0, hargs, rfl, -, h0, r0⟩ := trodAll_cons hA
 obtain ⟨v1, vs1, d1, ds1, p1, q1, rfl, rfl, -, h1, r1⟩ := trodAll_cons r0
 obtain ⟨v2, vs2, d2, ds2, p2, q2, rfl, rfl, -, h2, r2⟩ := trodAll_cons r1
 obtain ⟨v3, vs3, d3, ds3, p3, q3, rfl, rfl, -, h3, r3⟩ := trodAll_cons r2
 obtain ⟨rfl, rfl, -⟩ := trodAll_nil r3
 obtain rfl : args = #[v0, v1, v2, v3] := by cases args; simp_all
 obtain ⟨rfl, -⟩ := trodVars_none hV
 rw [Tryz.params6] at hsz
 obtain ⟨a, rfl, -, -, -⟩ := open_int Tryz.underlying3 (hval 0 _ _ rfl rfl) h0
 obtain ⟨b, rfl, hd1, -, hs1⟩ := Go.ChangeMaps.open_string Tryz.underlying9 (hval 1 _ _ rfl rfl) h1
 have hz1 : b.size <= 140737488351232 := by
  have := sized_string hsz (j := 1) rfl (by rw [hd1]; rfl)
  rwa [<- Lib.size_eq] at this
 obtain ⟨em, rem, vw, vh, rfl⟩ := dim.open_scale (hval 2 _ _ rfl rfl) h2
 obtain ⟨d, rfl, -, -, -⟩ := open_int Tryz.underlying3 (hval 3 _ _ rfl rfl) h3
 rw [MakeChecks.laidMetH_plain _ _ _ (by kernel_rfl)] at hlaid
 exact (law_ct a b em rem vw vh d hz1 W (maxLen_of hsh) (dim.units_of hlaid (by simp [Rows.propReadsRow])) (dim.pow_of hlaid (by simp [Rows.propReadsRow])) (col.bru_of hlaid (by simp [Rows.propReadsRow])) ⟨sel.err_of (by kernel_rfl) (by kernel_rfl) hlaid.tail.tail.tail.tail.tail, sel.err_of (by kernel_rfl) (by kernel_rfl) hlaid.tail.tail.tail.tail⟩).mono fun e W' ⟨he, bel⟩ => ⟨_, he, law_post laidOutD rfl Tryz.underlying4 rfl (by intro t ht; rw [Tryz.params6] at ht; revert t; decide +kernel) rfl hW' bel⟩
theorem holds : Rows.PropReadsSaid :=
 OpenClaim.holds_of_wide 6 Tryz.f6 rfl rfl rfl rfl rfl rfl rfl ⟨rfl, rfl, rfl, rfl, rfl⟩ rfl rfl rfl rfl rfl (by kernel_rfl) Tryz.func6 (by kernel_rfl)
  (of_decide_eq_true (by kernel_rfl)) (by unfold Func.isWrapper; first | (rw [if_pos (by decide +kernel)]; kernel_rfl) | (rw [if_neg (by decide +kernel)]; exact ⟨rfl, rfl⟩))
  (fun os started H enc _ => lifted os started H enc)
theorem proved : Rows.PropReadsCardSaid :=
 Claim7.holds_tied_plain_at .later [] Rows.propReadsCard.laidKinds true Rows.propReadsCard.stood.harness Rows.propReadsCard.stood.looks holds (fun _ h => by cases h) (by kernel_rfl) (fun _ h => by cases h) propReads_row_tie rfl ⟨rfl, rfl⟩ (by kernel_rfl) rfl
  (fun f fn hf hfn => by
   obtain rfl : f = 6 := Option.some.inj ((show Tryz.prog.funcNamed "clerestory/clerestorykeep2.PropReads" = some 6 by kernel_rfl).symm.trans hf) |>.symm
   obtain rfl : fn = Tryz.f6 := (Option.some.inj (Tryz.func6.symm.trans hfn)).symm
   exact ⟨by kernel_rfl, fun j t ht => by
    rw [Tryz.params6] at ht
    have hm : t ∈ [3, 9, 42, 3] := by simpa using Array.mem_of_getElem? ht
    have hall : ([3, 9, 42, 3].all fun u => !Tryz.prog.wantsStandIn u) = true := by kernel_rfl
    exact (show Tryz.prog.wantsStandIn t = false by simpa using List.all_eq_true.1 hall t hm)⟩)
  (by kernel_rfl)
#print axioms proved
end prp.reads
end Go.Proofs.YtlfkkaofgcongaaGreatDoor
