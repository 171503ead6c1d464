/- Contracts and plain law, a bundle: SelM1. -/
import Derived.Test.YtaobpkffcolobaaGreatDoorBI

namespace Go.Proofs.YtaobpkffcolobaaGreatDoor.sel
open Go.RowKit Go.Proofs.YtaobpkffcolobaaGreatDoor.base Go.Proofs.YtaobpkffcolobaaGreatDoor.tok Go.Proofs.YtaobpkffcolobaaGreatDoor.dim Go.Proofs.YtaobpkffcolobaaGreatDoor.rul
set_option linter.unusedVariables false

set_option maxRecDepth 100000 in
set_option maxHeartbeats 8000000 in
theorem law_0 (n b : Int) (q1 : (IntKind.u64.wrap n).tmod 9 = 0) (q2 : n.tmod 1001 = b) (h0 : -1000 ≤ b) (h1 : b ≤ 1000) (w : World) (hE : SEnv w) (hT : PowAt w) :
    Calls Tryz.prog 3 #[.int .i64 n] w fun e w' => e = .returned (.bool true) ∧ Below w.heap.size w w' := by
  have cL := Lib.hid (listed_ct w hE)
  have cR : ∀ w, SEnv w → Calls Tryz.prog 9 #[.string ⟨#[58, 110, 116, 104, 45, 99, 104, 105, 108, 100, 40, 111, 100, 100, 41]⟩] w fun e w' => (∃ A cap, e = .returned (.tuple #[.slice A 1 cap, .int .i64 0]) ∧ PasV (fun c => w.heap.size ≤ c) w' [.mk [[nthTs 8 2 1]] []] A cap) ∧ Below w.heap.size w w' := fun w hE => sread_ok form0 20 _ read0 w hE
  replace cR := Lib.hid cR
  have cS := Lib.hid (fun A cap X V hv => same_nth 8 2 1 (by decide) ⟨by decide, by decide⟩ ⟨by decide, by decide⟩ A cap X V hv)
  have cD := Lib.hid (fun w hT => num_text b h0 h1 w hT)
  have hcat : (⟨#[58, 110, 116, 104, 45, 99, 104, 105, 108, 100, 40]⟩ : ByteArray) ++ bs (numB b) ++ ⟨#[41]⟩ = bs (formB b) := by
    apply ByteArray.ext; apply Array.ext'
    simp [bs, ByteArray.data_append, formB]
  have hsz : (bs (numB b)).size ≤ 400 := by
    have := form_len b h0 h1
    rw [bs_size]
    simp only [formB, List.length_append, List.length_cons, List.length_nil] at this
    omega
  have a1 : ¬ 9223372036854775807 < 11 + (bs (numB b)).size := by omega
  have a2 : ¬ 9223372036854775807 < 11 + (bs (numB b)).size + 1 := by omega
  have cR2 : ∀ w, SEnv w → Calls Tryz.prog 9 #[.string (bs (formB b))] w fun e w' => (∃ A cap, e = .returned (.tuple #[.slice A 1 cap, .int .i64 0]) ∧ PasV (fun c => w.heap.size ≤ c) w' [.mk [[nthTs 8 0 b]] []] A cap) ∧ Below w.heap.size w w' := fun w hE => sread_ok (formB b) 20 _ (read_b h0 h1) w hE
  replace cR2 := Lib.hid cR2
  have cS2 := Lib.hid (fun A cap X V hv => same_nth 8 0 b (by decide) ⟨by decide, by decide⟩ ⟨by omega, by omega⟩ A cap X V hv)
  have w1 : IntKind.i64.wrap (1000 * b) = 1000 * b := IntWalk.i64_in _ (by omega)
  have w2 : IntKind.u64.wrap 0 = 0 := by decide
  have w3 : IntKind.i64.wrap 0 = 0 := by decide
  have w4 : IntKind.i64.wrap b = b := IntWalk.i64_in _ (by omega)
  have HE := Lib.hid hE
  have HT := Lib.hid hT
  clear hE hT hsz h0 h1
  go_enter Tryz.func3, Tryz.ntmps3
  go_wp2_with (first
    | (go_at_call 8; (with_reducible refine cL.out.mono ?_); rintro e W1 ⟨rfl, hb1⟩; have HB1 := Lib.hid hb1; clear hb1)
    | (go_at_call 9; (with_reducible refine (cR.out _ (HE.out.on ((HB1.out.alloc HB1.out.size _).alloc (by rw [World.size_alloc]; have := HB1.out.size; omega) _))).mono ?_); rintro e W2 ⟨⟨A2, c2, rfl, hv2⟩, hb2⟩; have t0 := (hb2.cell (p := ⟨W1.heap.size + 1, 0, none⟩) (by simp)).trans (show _ = some (.int .i64 8) by simp); have t1 := (hb2.cell (p := ⟨W1.heap.size + 1, 1, none⟩) (by simp)).trans (show _ = some (.string ⟨#[]⟩) by simp); have t2 := (hb2.cell (p := ⟨W1.heap.size + 1, 2, none⟩) (by simp)).trans (show _ = some (.int .u8 0) by simp); have t3 := (hb2.cell (p := ⟨W1.heap.size + 1, 3, none⟩) (by simp)).trans (show _ = some (.string ⟨#[]⟩) by simp); have t4 := (hb2.cell (p := ⟨W1.heap.size + 1, 4, none⟩) (by simp)).trans (show _ = some (.int .i64 2) by simp); have t5 := (hb2.cell (p := ⟨W1.heap.size + 1, 5, none⟩) (by simp)).trans (show _ = some (.int .i64 1) by simp); have t6 := (hb2.cell (p := ⟨W1.heap.size + 1, 6, none⟩) (by simp)).trans (show _ = some (.slice none 0 0) by simp); have hz2 := hb2.size; simp only [World.size_alloc] at hz2; have HB2 := Lib.hid (((HB1.out.alloc HB1.out.size _).alloc (by rw [World.size_alloc]; have := HB1.out.size; omega) _).trans (hb2.mono (by simp only [World.size_alloc]; have := HB1.out.size; omega))); have V2 := Lib.hid hv2; clear hb2 hv2)
    | (go_at_call 10; (with_reducible refine (cS.out _ _ _ _ V2.out).mono ?_); rintro e W3 ⟨rfl, hb3⟩; have HB3 := Lib.hid ((((HB2.out.alloc HB2.out.size _).alloc (by rw [World.size_alloc]; have := HB2.out.size; omega) _).alloc (by simp only [World.size_alloc]; have := HB2.out.size; omega) _).trans (hb3.mono (by simp only [World.size_alloc]; have := HB2.out.size; omega))); clear hb3 V2 t0 t1 t2 t3 t4 t5 t6)
    | (go_at_call 11; (with_reducible refine (cD.out _ (HT.out.on (HB3.out.alloc HB3.out.size _))).mono ?_); rintro e W4 ⟨rfl, hb4⟩; have HB4 := Lib.hid ((HB3.out.alloc HB3.out.size _).trans (hb4.mono (by rw [World.size_alloc]; have := HB3.out.size; omega))); clear hb4)
    | (go_at_call 9; (with_reducible refine (cR2.out _ (HE.out.on HB4.out)).mono ?_); rintro e W5 ⟨⟨A5, c5, rfl, hv5⟩, hb5⟩; have HB5 := Lib.hid (HB4.out.trans (hb5.mono HB4.out.size)); have V5 := Lib.hid hv5; clear hb5 hv5)
    | (go_at_call 10; (with_reducible refine (cS2.out _ _ _ _ V5.out).mono ?_); rintro e W6 ⟨rfl, hb6⟩; have HB6 := Lib.hid ((((HB5.out.alloc HB5.out.size _).alloc (by rw [World.size_alloc]; have := HB5.out.size; omega) _).alloc (by simp only [World.size_alloc]; have := HB5.out.size; omega) _).trans (hb6.mono (by simp only [World.size_alloc]; have := HB5.out.size; omega))); clear hb6))
  go_ret
  exact ⟨rfl, HB6.out⟩

set_option maxRecDepth 100000 in
set_option maxHeartbeats 8000000 in
theorem law_1 (n b : Int) (q1 : (IntKind.u64.wrap n).tmod 9 = 1) (q2 : n.tmod 1001 = b) (h0 : -1000 ≤ b) (h1 : b ≤ 1000) (w : World) (hE : SEnv w) (hT : PowAt w) :
    Calls Tryz.prog 3 #[.int .i64 n] w fun e w' => e = .returned (.bool true) ∧ Below w.heap.size w w' := by
  have cL := Lib.hid (listed_ct w hE)
  have cR : ∀ w, SEnv w → Calls Tryz.prog 9 #[.string ⟨#[58, 78, 84, 72, 45, 67, 72, 73, 76, 68, 40, 69, 86, 69, 78, 41]⟩] w fun e w' => (∃ A cap, e = .returned (.tuple #[.slice A 1 cap, .int .i64 0]) ∧ PasV (fun c => w.heap.size ≤ c) w' [.mk [[nthTs 8 2 0]] []] A cap) ∧ Below w.heap.size w w' := fun w hE => sread_ok form1 20 _ read1 w hE
  replace cR := Lib.hid cR
  have cS := Lib.hid (fun A cap X V hv => same_nth 8 2 0 (by decide) ⟨by decide, by decide⟩ ⟨by decide, by decide⟩ A cap X V hv)
  have cD := Lib.hid (fun w hT => num_text b h0 h1 w hT)
  have hcat : (⟨#[58, 110, 116, 104, 45, 99, 104, 105, 108, 100, 40]⟩ : ByteArray) ++ bs (numB b) ++ ⟨#[41]⟩ = bs (formB b) := by
    apply ByteArray.ext; apply Array.ext'
    simp [bs, ByteArray.data_append, formB]
  have hsz : (bs (numB b)).size ≤ 400 := by
    have := form_len b h0 h1
    rw [bs_size]
    simp only [formB, List.length_append, List.length_cons, List.length_nil] at this
    omega
  have a1 : ¬ 9223372036854775807 < 11 + (bs (numB b)).size := by omega
  have a2 : ¬ 9223372036854775807 < 11 + (bs (numB b)).size + 1 := by omega
  have cR2 : ∀ w, SEnv w → Calls Tryz.prog 9 #[.string (bs (formB b))] w fun e w' => (∃ A cap, e = .returned (.tuple #[.slice A 1 cap, .int .i64 0]) ∧ PasV (fun c => w.heap.size ≤ c) w' [.mk [[nthTs 8 0 b]] []] A cap) ∧ Below w.heap.size w w' := fun w hE => sread_ok (formB b) 20 _ (read_b h0 h1) w hE
  replace cR2 := Lib.hid cR2
  have cS2 := Lib.hid (fun A cap X V hv => same_nth 8 0 b (by decide) ⟨by decide, by decide⟩ ⟨by omega, by omega⟩ A cap X V hv)
  have w1 : IntKind.i64.wrap (1000 * b) = 1000 * b := IntWalk.i64_in _ (by omega)
  have w2 : IntKind.u64.wrap 1 = 1 := by decide
  have w3 : IntKind.i64.wrap 1 = 1 := by decide
  have w4 : IntKind.i64.wrap b = b := IntWalk.i64_in _ (by omega)
  have HE := Lib.hid hE
  have HT := Lib.hid hT
  clear hE hT hsz h0 h1
  go_enter Tryz.func3, Tryz.ntmps3
  go_wp2_with (first
    | (go_at_call 8; (with_reducible refine cL.out.mono ?_); rintro e W1 ⟨rfl, hb1⟩; have HB1 := Lib.hid hb1; clear hb1)
    | (go_at_call 9; (with_reducible refine (cR.out _ (HE.out.on ((HB1.out.alloc HB1.out.size _).alloc (by rw [World.size_alloc]; have := HB1.out.size; omega) _))).mono ?_); rintro e W2 ⟨⟨A2, c2, rfl, hv2⟩, hb2⟩; have t0 := (hb2.cell (p := ⟨W1.heap.size + 1, 7, none⟩) (by simp)).trans (show _ = some (.int .i64 8) by simp); have t1 := (hb2.cell (p := ⟨W1.heap.size + 1, 8, none⟩) (by simp)).trans (show _ = some (.string ⟨#[]⟩) by simp); have t2 := (hb2.cell (p := ⟨W1.heap.size + 1, 9, none⟩) (by simp)).trans (show _ = some (.int .u8 0) by simp); have t3 := (hb2.cell (p := ⟨W1.heap.size + 1, 10, none⟩) (by simp)).trans (show _ = some (.string ⟨#[]⟩) by simp); have t4 := (hb2.cell (p := ⟨W1.heap.size + 1, 11, none⟩) (by simp)).trans (show _ = some (.int .i64 2) by simp); have t5 := (hb2.cell (p := ⟨W1.heap.size + 1, 12, none⟩) (by simp)).trans (show _ = some (.int .i64 0) by simp); have t6 := (hb2.cell (p := ⟨W1.heap.size + 1, 13, none⟩) (by simp)).trans (show _ = some (.slice none 0 0) by simp); have hz2 := hb2.size; simp only [World.size_alloc] at hz2; have HB2 := Lib.hid (((HB1.out.alloc HB1.out.size _).alloc (by rw [World.size_alloc]; have := HB1.out.size; omega) _).trans (hb2.mono (by simp only [World.size_alloc]; have := HB1.out.size; omega))); have V2 := Lib.hid hv2; clear hb2 hv2)
    | (go_at_call 10; (with_reducible refine (cS.out _ _ _ _ V2.out).mono ?_); rintro e W3 ⟨rfl, hb3⟩; have HB3 := Lib.hid ((((HB2.out.alloc HB2.out.size _).alloc (by rw [World.size_alloc]; have := HB2.out.size; omega) _).alloc (by simp only [World.size_alloc]; have := HB2.out.size; omega) _).trans (hb3.mono (by simp only [World.size_alloc]; have := HB2.out.size; omega))); clear hb3 V2 t0 t1 t2 t3 t4 t5 t6)
    | (go_at_call 11; (with_reducible refine (cD.out _ (HT.out.on (HB3.out.alloc HB3.out.size _))).mono ?_); rintro e W4 ⟨rfl, hb4⟩; have HB4 := Lib.hid ((HB3.out.alloc HB3.out.size _).trans (hb4.mono (by rw [World.size_alloc]; have := HB3.out.size; omega))); clear hb4)
    | (go_at_call 9; (with_reducible refine (cR2.out _ (HE.out.on HB4.out)).mono ?_); rintro e W5 ⟨⟨A5, c5, rfl, hv5⟩, hb5⟩; have HB5 := Lib.hid (HB4.out.trans (hb5.mono HB4.out.size)); have V5 := Lib.hid hv5; clear hb5 hv5)
    | (go_at_call 10; (with_reducible refine (cS2.out _ _ _ _ V5.out).mono ?_); rintro e W6 ⟨rfl, hb6⟩; have HB6 := Lib.hid ((((HB5.out.alloc HB5.out.size _).alloc (by rw [World.size_alloc]; have := HB5.out.size; omega) _).alloc (by simp only [World.size_alloc]; have := HB5.out.size; omega) _).trans (hb6.mono (by simp only [World.size_alloc]; have := HB5.out.size; omega))); clear hb6))
  go_ret
  exact ⟨rfl, HB6.out⟩

set_option maxRecDepth 100000 in
set_option maxHeartbeats 8000000 in
theorem law_2 (n b : Int) (q1 : (IntKind.u64.wrap n).tmod 9 = 2) (q2 : n.tmod 1001 = b) (h0 : -1000 ≤ b) (h1 : b ≤ 1000) (w : World) (hE : SEnv w) (hT : PowAt w) :
    Calls Tryz.prog 3 #[.int .i64 n] w fun e w' => e = .returned (.bool true) ∧ Below w.heap.size w w' := by
  have cL := Lib.hid (listed_ct w hE)
  have cR : ∀ w, SEnv w → Calls Tryz.prog 9 #[.string ⟨#[58, 102, 105, 114, 115, 116, 45, 99, 104, 105, 108, 100]⟩] w fun e w' => (∃ A cap, e = .returned (.tuple #[.slice A 1 cap, .int .i64 0]) ∧ PasV (fun c => w.heap.size ≤ c) w' [.mk [[nthTs 8 0 1]] []] A cap) ∧ Below w.heap.size w w' := fun w hE => sread_ok form2 20 _ read2 w hE
  replace cR := Lib.hid cR
  have cS := Lib.hid (fun A cap X V hv => same_nth 8 0 1 (by decide) ⟨by decide, by decide⟩ ⟨by decide, by decide⟩ A cap X V hv)
  have cD := Lib.hid (fun w hT => num_text b h0 h1 w hT)
  have hcat : (⟨#[58, 110, 116, 104, 45, 99, 104, 105, 108, 100, 40]⟩ : ByteArray) ++ bs (numB b) ++ ⟨#[41]⟩ = bs (formB b) := by
    apply ByteArray.ext; apply Array.ext'
    simp [bs, ByteArray.data_append, formB]
  have hsz : (bs (numB b)).size ≤ 400 := by
    have := form_len b h0 h1
    rw [bs_size]
    simp only [formB, List.length_append, List.length_cons, List.length_nil] at this
    omega
  have a1 : ¬ 9223372036854775807 < 11 + (bs (numB b)).size := by omega
  have a2 : ¬ 9223372036854775807 < 11 + (bs (numB b)).size + 1 := by omega
  have cR2 : ∀ w, SEnv w → Calls Tryz.prog 9 #[.string (bs (formB b))] w fun e w' => (∃ A cap, e = .returned (.tuple #[.slice A 1 cap, .int .i64 0]) ∧ PasV (fun c => w.heap.size ≤ c) w' [.mk [[nthTs 8 0 b]] []] A cap) ∧ Below w.heap.size w w' := fun w hE => sread_ok (formB b) 20 _ (read_b h0 h1) w hE
  replace cR2 := Lib.hid cR2
  have cS2 := Lib.hid (fun A cap X V hv => same_nth 8 0 b (by decide) ⟨by decide, by decide⟩ ⟨by omega, by omega⟩ A cap X V hv)
  have w1 : IntKind.i64.wrap (1000 * b) = 1000 * b := IntWalk.i64_in _ (by omega)
  have w2 : IntKind.u64.wrap 2 = 2 := by decide
  have w3 : IntKind.i64.wrap 2 = 2 := by decide
  have w4 : IntKind.i64.wrap b = b := IntWalk.i64_in _ (by omega)
  have HE := Lib.hid hE
  have HT := Lib.hid hT
  clear hE hT hsz h0 h1
  go_enter Tryz.func3, Tryz.ntmps3
  go_wp2_with (first
    | (go_at_call 8; (with_reducible refine cL.out.mono ?_); rintro e W1 ⟨rfl, hb1⟩; have HB1 := Lib.hid hb1; clear hb1)
    | (go_at_call 9; (with_reducible refine (cR.out _ (HE.out.on ((HB1.out.alloc HB1.out.size _).alloc (by rw [World.size_alloc]; have := HB1.out.size; omega) _))).mono ?_); rintro e W2 ⟨⟨A2, c2, rfl, hv2⟩, hb2⟩; have t0 := (hb2.cell (p := ⟨W1.heap.size + 1, 14, none⟩) (by simp)).trans (show _ = some (.int .i64 8) by simp); have t1 := (hb2.cell (p := ⟨W1.heap.size + 1, 15, none⟩) (by simp)).trans (show _ = some (.string ⟨#[]⟩) by simp); have t2 := (hb2.cell (p := ⟨W1.heap.size + 1, 16, none⟩) (by simp)).trans (show _ = some (.int .u8 0) by simp); have t3 := (hb2.cell (p := ⟨W1.heap.size + 1, 17, none⟩) (by simp)).trans (show _ = some (.string ⟨#[]⟩) by simp); have t4 := (hb2.cell (p := ⟨W1.heap.size + 1, 18, none⟩) (by simp)).trans (show _ = some (.int .i64 0) by simp); have t5 := (hb2.cell (p := ⟨W1.heap.size + 1, 19, none⟩) (by simp)).trans (show _ = some (.int .i64 1) by simp); have t6 := (hb2.cell (p := ⟨W1.heap.size + 1, 20, none⟩) (by simp)).trans (show _ = some (.slice none 0 0) by simp); have hz2 := hb2.size; simp only [World.size_alloc] at hz2; have HB2 := Lib.hid (((HB1.out.alloc HB1.out.size _).alloc (by rw [World.size_alloc]; have := HB1.out.size; omega) _).trans (hb2.mono (by simp only [World.size_alloc]; have := HB1.out.size; omega))); have V2 := Lib.hid hv2; clear hb2 hv2)
    | (go_at_call 10; (with_reducible refine (cS.out _ _ _ _ V2.out).mono ?_); rintro e W3 ⟨rfl, hb3⟩; have HB3 := Lib.hid ((((HB2.out.alloc HB2.out.size _).alloc (by rw [World.size_alloc]; have := HB2.out.size; omega) _).alloc (by simp only [World.size_alloc]; have := HB2.out.size; omega) _).trans (hb3.mono (by simp only [World.size_alloc]; have := HB2.out.size; omega))); clear hb3 V2 t0 t1 t2 t3 t4 t5 t6)
    | (go_at_call 11; (with_reducible refine (cD.out _ (HT.out.on (HB3.out.alloc HB3.out.size _))).mono ?_); rintro e W4 ⟨rfl, hb4⟩; have HB4 := Lib.hid ((HB3.out.alloc HB3.out.size _).trans (hb4.mono (by rw [World.size_alloc]; have := HB3.out.size; omega))); clear hb4)
    | (go_at_call 9; (with_reducible refine (cR2.out _ (HE.out.on HB4.out)).mono ?_); rintro e W5 ⟨⟨A5, c5, rfl, hv5⟩, hb5⟩; have HB5 := Lib.hid (HB4.out.trans (hb5.mono HB4.out.size)); have V5 := Lib.hid hv5; clear hb5 hv5)
    | (go_at_call 10; (with_reducible refine (cS2.out _ _ _ _ V5.out).mono ?_); rintro e W6 ⟨rfl, hb6⟩; have HB6 := Lib.hid ((((HB5.out.alloc HB5.out.size _).alloc (by rw [World.size_alloc]; have := HB5.out.size; omega) _).alloc (by simp only [World.size_alloc]; have := HB5.out.size; omega) _).trans (hb6.mono (by simp only [World.size_alloc]; have := HB5.out.size; omega))); clear hb6))
  go_ret
  exact ⟨rfl, HB6.out⟩

end Go.Proofs.YtaobpkffcolobaaGreatDoor.sel
