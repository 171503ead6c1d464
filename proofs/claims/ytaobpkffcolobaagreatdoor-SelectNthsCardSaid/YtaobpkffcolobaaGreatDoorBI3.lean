/- Contracts and plain law, a bundle: SelM3. -/
import Derived.Test.YtaobpkffcolobaaGreatDoorBI

namespace Go.Proofs.YtaobpkffcolobaaGreatDoor.sel
open Go.RowKit Go.Proofs.YtaobpkffcolobaaGreatDoor.base Go.Proofs.YtaobpkffcolobaaGreatDoor.tok Go.Proofs.YtaobpkffcolobaaGreatDoor.dim Go.Proofs.YtaobpkffcolobaaGreatDoor.rul
set_option linter.unusedVariables false

set_option maxRecDepth 100000 in
set_option maxHeartbeats 8000000 in
theorem law_6 (n b : Int) (q1 : (IntKind.u64.wrap n).tmod 9 = 6) (q2 : n.tmod 1001 = b) (h0 : -1000 ≤ b) (h1 : b ≤ 1000) (w : World) (hE : SEnv w) (hT : PowAt w) :
    Calls Tryz.prog 3 #[.int .i64 n] w fun e w' => e = .returned (.bool true) ∧ Below w.heap.size w w' := by
  have cL := Lib.hid (listed_ct w hE)
  have cR : ∀ w, SEnv w → Calls Tryz.prog 9 #[.string ⟨#[58, 108, 97, 115, 116, 45, 99, 104, 105, 108, 100]⟩] w fun e w' => (∃ A cap, e = .returned (.tuple #[.slice A 1 cap, .int .i64 0]) ∧ PasV (fun c => w.heap.size ≤ c) w' [.mk [[nthTs 9 0 1]] []] A cap) ∧ Below w.heap.size w w' := fun w hE => sread_ok form6 20 _ read6 w hE
  replace cR := Lib.hid cR
  have cS := Lib.hid (fun A cap X V hv => same_nth 9 0 1 (by decide) ⟨by decide, by decide⟩ ⟨by decide, by decide⟩ A cap X V hv)
  have cD := Lib.hid (fun w hT => num_text b h0 h1 w hT)
  have hcat : (⟨#[58, 110, 116, 104, 45, 99, 104, 105, 108, 100, 40]⟩ : ByteArray) ++ bs (numB b) ++ ⟨#[41]⟩ = bs (formB b) := by
    apply ByteArray.ext; apply Array.ext'
    simp [bs, ByteArray.data_append, formB]
  have hsz : (bs (numB b)).size ≤ 400 := by
    have := form_len b h0 h1
    rw [bs_size]
    simp only [formB, List.length_append, List.length_cons, List.length_nil] at this
    omega
  have a1 : ¬ 9223372036854775807 < 11 + (bs (numB b)).size := by omega
  have a2 : ¬ 9223372036854775807 < 11 + (bs (numB b)).size + 1 := by omega
  have cR2 : ∀ w, SEnv w → Calls Tryz.prog 9 #[.string (bs (formB b))] w fun e w' => (∃ A cap, e = .returned (.tuple #[.slice A 1 cap, .int .i64 0]) ∧ PasV (fun c => w.heap.size ≤ c) w' [.mk [[nthTs 8 0 b]] []] A cap) ∧ Below w.heap.size w w' := fun w hE => sread_ok (formB b) 20 _ (read_b h0 h1) w hE
  replace cR2 := Lib.hid cR2
  have cS2 := Lib.hid (fun A cap X V hv => same_nth 8 0 b (by decide) ⟨by decide, by decide⟩ ⟨by omega, by omega⟩ A cap X V hv)
  have w1 : IntKind.i64.wrap (1000 * b) = 1000 * b := IntWalk.i64_in _ (by omega)
  have w2 : IntKind.u64.wrap 6 = 6 := by decide
  have w3 : IntKind.i64.wrap 6 = 6 := by decide
  have w4 : IntKind.i64.wrap b = b := IntWalk.i64_in _ (by omega)
  have HE := Lib.hid hE
  have HT := Lib.hid hT
  clear hE hT hsz h0 h1
  go_enter Tryz.func3, Tryz.ntmps3
  go_wp2_with (first
    | (go_at_call 8; (with_reducible refine cL.out.mono ?_); rintro e W1 ⟨rfl, hb1⟩; have HB1 := Lib.hid hb1; clear hb1)
    | (go_at_call 9; (with_reducible refine (cR.out _ (HE.out.on ((HB1.out.alloc HB1.out.size _).alloc (by rw [World.size_alloc]; have := HB1.out.size; omega) _))).mono ?_); rintro e W2 ⟨⟨A2, c2, rfl, hv2⟩, hb2⟩; have t0 := (hb2.cell (p := ⟨W1.heap.size + 1, 42, none⟩) (by simp)).trans (show _ = some (.int .i64 9) by simp); have t1 := (hb2.cell (p := ⟨W1.heap.size + 1, 43, none⟩) (by simp)).trans (show _ = some (.string ⟨#[]⟩) by simp); have t2 := (hb2.cell (p := ⟨W1.heap.size + 1, 44, none⟩) (by simp)).trans (show _ = some (.int .u8 0) by simp); have t3 := (hb2.cell (p := ⟨W1.heap.size + 1, 45, none⟩) (by simp)).trans (show _ = some (.string ⟨#[]⟩) by simp); have t4 := (hb2.cell (p := ⟨W1.heap.size + 1, 46, none⟩) (by simp)).trans (show _ = some (.int .i64 0) by simp); have t5 := (hb2.cell (p := ⟨W1.heap.size + 1, 47, none⟩) (by simp)).trans (show _ = some (.int .i64 1) by simp); have t6 := (hb2.cell (p := ⟨W1.heap.size + 1, 48, none⟩) (by simp)).trans (show _ = some (.slice none 0 0) by simp); have hz2 := hb2.size; simp only [World.size_alloc] at hz2; have HB2 := Lib.hid (((HB1.out.alloc HB1.out.size _).alloc (by rw [World.size_alloc]; have := HB1.out.size; omega) _).trans (hb2.mono (by simp only [World.size_alloc]; have := HB1.out.size; omega))); have V2 := Lib.hid hv2; clear hb2 hv2)
    | (go_at_call 10; (with_reducible refine (cS.out _ _ _ _ V2.out).mono ?_); rintro e W3 ⟨rfl, hb3⟩; have HB3 := Lib.hid ((((HB2.out.alloc HB2.out.size _).alloc (by rw [World.size_alloc]; have := HB2.out.size; omega) _).alloc (by simp only [World.size_alloc]; have := HB2.out.size; omega) _).trans (hb3.mono (by simp only [World.size_alloc]; have := HB2.out.size; omega))); clear hb3 V2 t0 t1 t2 t3 t4 t5 t6)
    | (go_at_call 11; (with_reducible refine (cD.out _ (HT.out.on (HB3.out.alloc HB3.out.size _))).mono ?_); rintro e W4 ⟨rfl, hb4⟩; have HB4 := Lib.hid ((HB3.out.alloc HB3.out.size _).trans (hb4.mono (by rw [World.size_alloc]; have := HB3.out.size; omega))); clear hb4)
    | (go_at_call 9; (with_reducible refine (cR2.out _ (HE.out.on HB4.out)).mono ?_); rintro e W5 ⟨⟨A5, c5, rfl, hv5⟩, hb5⟩; have HB5 := Lib.hid (HB4.out.trans (hb5.mono HB4.out.size)); have V5 := Lib.hid hv5; clear hb5 hv5)
    | (go_at_call 10; (with_reducible refine (cS2.out _ _ _ _ V5.out).mono ?_); rintro e W6 ⟨rfl, hb6⟩; have HB6 := Lib.hid ((((HB5.out.alloc HB5.out.size _).alloc (by rw [World.size_alloc]; have := HB5.out.size; omega) _).alloc (by simp only [World.size_alloc]; have := HB5.out.size; omega) _).trans (hb6.mono (by simp only [World.size_alloc]; have := HB5.out.size; omega))); clear hb6))
  go_ret
  exact ⟨rfl, HB6.out⟩

set_option maxRecDepth 100000 in
set_option maxHeartbeats 8000000 in
theorem law_7 (n b : Int) (q1 : (IntKind.u64.wrap n).tmod 9 = 7) (q2 : n.tmod 1001 = b) (h0 : -1000 ≤ b) (h1 : b ≤ 1000) (w : World) (hE : SEnv w) (hT : PowAt w) :
    Calls Tryz.prog 3 #[.int .i64 n] w fun e w' => e = .returned (.bool true) ∧ Below w.heap.size w w' := by
  have cL := Lib.hid (listed_ct w hE)
  have cR : ∀ w, SEnv w → Calls Tryz.prog 9 #[.string ⟨#[58, 110, 116, 104, 45, 99, 104, 105, 108, 100, 40, 43, 53, 41]⟩] w fun e w' => (∃ A cap, e = .returned (.tuple #[.slice A 1 cap, .int .i64 0]) ∧ PasV (fun c => w.heap.size ≤ c) w' [.mk [[nthTs 8 0 5]] []] A cap) ∧ Below w.heap.size w w' := fun w hE => sread_ok form7 20 _ read7 w hE
  replace cR := Lib.hid cR
  have cS := Lib.hid (fun A cap X V hv => same_nth 8 0 5 (by decide) ⟨by decide, by decide⟩ ⟨by decide, by decide⟩ A cap X V hv)
  have cD := Lib.hid (fun w hT => num_text b h0 h1 w hT)
  have hcat : (⟨#[58, 110, 116, 104, 45, 99, 104, 105, 108, 100, 40]⟩ : ByteArray) ++ bs (numB b) ++ ⟨#[41]⟩ = bs (formB b) := by
    apply ByteArray.ext; apply Array.ext'
    simp [bs, ByteArray.data_append, formB]
  have hsz : (bs (numB b)).size ≤ 400 := by
    have := form_len b h0 h1
    rw [bs_size]
    simp only [formB, List.length_append, List.length_cons, List.length_nil] at this
    omega
  have a1 : ¬ 9223372036854775807 < 11 + (bs (numB b)).size := by omega
  have a2 : ¬ 9223372036854775807 < 11 + (bs (numB b)).size + 1 := by omega
  have cR2 : ∀ w, SEnv w → Calls Tryz.prog 9 #[.string (bs (formB b))] w fun e w' => (∃ A cap, e = .returned (.tuple #[.slice A 1 cap, .int .i64 0]) ∧ PasV (fun c => w.heap.size ≤ c) w' [.mk [[nthTs 8 0 b]] []] A cap) ∧ Below w.heap.size w w' := fun w hE => sread_ok (formB b) 20 _ (read_b h0 h1) w hE
  replace cR2 := Lib.hid cR2
  have cS2 := Lib.hid (fun A cap X V hv => same_nth 8 0 b (by decide) ⟨by decide, by decide⟩ ⟨by omega, by omega⟩ A cap X V hv)
  have w1 : IntKind.i64.wrap (1000 * b) = 1000 * b := IntWalk.i64_in _ (by omega)
  have w2 : IntKind.u64.wrap 7 = 7 := by decide
  have w3 : IntKind.i64.wrap 7 = 7 := by decide
  have w4 : IntKind.i64.wrap b = b := IntWalk.i64_in _ (by omega)
  have HE := Lib.hid hE
  have HT := Lib.hid hT
  clear hE hT hsz h0 h1
  go_enter Tryz.func3, Tryz.ntmps3
  go_wp2_with (first
    | (go_at_call 8; (with_reducible refine cL.out.mono ?_); rintro e W1 ⟨rfl, hb1⟩; have HB1 := Lib.hid hb1; clear hb1)
    | (go_at_call 9; (with_reducible refine (cR.out _ (HE.out.on ((HB1.out.alloc HB1.out.size _).alloc (by rw [World.size_alloc]; have := HB1.out.size; omega) _))).mono ?_); rintro e W2 ⟨⟨A2, c2, rfl, hv2⟩, hb2⟩; have t0 := (hb2.cell (p := ⟨W1.heap.size + 1, 49, none⟩) (by simp)).trans (show _ = some (.int .i64 8) by simp); have t1 := (hb2.cell (p := ⟨W1.heap.size + 1, 50, none⟩) (by simp)).trans (show _ = some (.string ⟨#[]⟩) by simp); have t2 := (hb2.cell (p := ⟨W1.heap.size + 1, 51, none⟩) (by simp)).trans (show _ = some (.int .u8 0) by simp); have t3 := (hb2.cell (p := ⟨W1.heap.size + 1, 52, none⟩) (by simp)).trans (show _ = some (.string ⟨#[]⟩) by simp); have t4 := (hb2.cell (p := ⟨W1.heap.size + 1, 53, none⟩) (by simp)).trans (show _ = some (.int .i64 0) by simp); have t5 := (hb2.cell (p := ⟨W1.heap.size + 1, 54, none⟩) (by simp)).trans (show _ = some (.int .i64 5) by simp); have t6 := (hb2.cell (p := ⟨W1.heap.size + 1, 55, none⟩) (by simp)).trans (show _ = some (.slice none 0 0) by simp); have hz2 := hb2.size; simp only [World.size_alloc] at hz2; have HB2 := Lib.hid (((HB1.out.alloc HB1.out.size _).alloc (by rw [World.size_alloc]; have := HB1.out.size; omega) _).trans (hb2.mono (by simp only [World.size_alloc]; have := HB1.out.size; omega))); have V2 := Lib.hid hv2; clear hb2 hv2)
    | (go_at_call 10; (with_reducible refine (cS.out _ _ _ _ V2.out).mono ?_); rintro e W3 ⟨rfl, hb3⟩; have HB3 := Lib.hid ((((HB2.out.alloc HB2.out.size _).alloc (by rw [World.size_alloc]; have := HB2.out.size; omega) _).alloc (by simp only [World.size_alloc]; have := HB2.out.size; omega) _).trans (hb3.mono (by simp only [World.size_alloc]; have := HB2.out.size; omega))); clear hb3 V2 t0 t1 t2 t3 t4 t5 t6)
    | (go_at_call 11; (with_reducible refine (cD.out _ (HT.out.on (HB3.out.alloc HB3.out.size _))).mono ?_); rintro e W4 ⟨rfl, hb4⟩; have HB4 := Lib.hid ((HB3.out.alloc HB3.out.size _).trans (hb4.mono (by rw [World.size_alloc]; have := HB3.out.size; omega))); clear hb4)
    | (go_at_call 9; (with_reducible refine (cR2.out _ (HE.out.on HB4.out)).mono ?_); rintro e W5 ⟨⟨A5, c5, rfl, hv5⟩, hb5⟩; have HB5 := Lib.hid (HB4.out.trans (hb5.mono HB4.out.size)); have V5 := Lib.hid hv5; clear hb5 hv5)
    | (go_at_call 10; (with_reducible refine (cS2.out _ _ _ _ V5.out).mono ?_); rintro e W6 ⟨rfl, hb6⟩; have HB6 := Lib.hid ((((HB5.out.alloc HB5.out.size _).alloc (by rw [World.size_alloc]; have := HB5.out.size; omega) _).alloc (by simp only [World.size_alloc]; have := HB5.out.size; omega) _).trans (hb6.mono (by simp only [World.size_alloc]; have := HB5.out.size; omega))); clear hb6))
  go_ret
  exact ⟨rfl, HB6.out⟩

set_option maxRecDepth 100000 in
set_option maxHeartbeats 8000000 in
theorem law_8 (n b : Int) (q1 : (IntKind.u64.wrap n).tmod 9 = 8) (q2 : n.tmod 1001 = b) (h0 : -1000 ≤ b) (h1 : b ≤ 1000) (w : World) (hE : SEnv w) (hT : PowAt w) :
    Calls Tryz.prog 3 #[.int .i64 n] w fun e w' => e = .returned (.bool true) ∧ Below w.heap.size w w' := by
  have cL := Lib.hid (listed_ct w hE)
  have cR : ∀ w, SEnv w → Calls Tryz.prog 9 #[.string ⟨#[58, 110, 116, 104, 45, 99, 104, 105, 108, 100, 40, 45, 110, 43, 51, 41]⟩] w fun e w' => (∃ A cap, e = .returned (.tuple #[.slice A 1 cap, .int .i64 0]) ∧ PasV (fun c => w.heap.size ≤ c) w' [.mk [[nthTs 8 (-1) 3]] []] A cap) ∧ Below w.heap.size w w' := fun w hE => sread_ok form8 20 _ read8 w hE
  replace cR := Lib.hid cR
  have cS := Lib.hid (fun A cap X V hv => same_nth 8 (-1) 3 (by decide) ⟨by decide, by decide⟩ ⟨by decide, by decide⟩ A cap X V hv)
  have cD := Lib.hid (fun w hT => num_text b h0 h1 w hT)
  have hcat : (⟨#[58, 110, 116, 104, 45, 99, 104, 105, 108, 100, 40]⟩ : ByteArray) ++ bs (numB b) ++ ⟨#[41]⟩ = bs (formB b) := by
    apply ByteArray.ext; apply Array.ext'
    simp [bs, ByteArray.data_append, formB]
  have hsz : (bs (numB b)).size ≤ 400 := by
    have := form_len b h0 h1
    rw [bs_size]
    simp only [formB, List.length_append, List.length_cons, List.length_nil] at this
    omega
  have a1 : ¬ 9223372036854775807 < 11 + (bs (numB b)).size := by omega
  have a2 : ¬ 9223372036854775807 < 11 + (bs (numB b)).size + 1 := by omega
  have cR2 : ∀ w, SEnv w → Calls Tryz.prog 9 #[.string (bs (formB b))] w fun e w' => (∃ A cap, e = .returned (.tuple #[.slice A 1 cap, .int .i64 0]) ∧ PasV (fun c => w.heap.size ≤ c) w' [.mk [[nthTs 8 0 b]] []] A cap) ∧ Below w.heap.size w w' := fun w hE => sread_ok (formB b) 20 _ (read_b h0 h1) w hE
  replace cR2 := Lib.hid cR2
  have cS2 := Lib.hid (fun A cap X V hv => same_nth 8 0 b (by decide) ⟨by decide, by decide⟩ ⟨by omega, by omega⟩ A cap X V hv)
  have w1 : IntKind.i64.wrap (1000 * b) = 1000 * b := IntWalk.i64_in _ (by omega)
  have w2 : IntKind.u64.wrap 8 = 8 := by decide
  have w3 : IntKind.i64.wrap 8 = 8 := by decide
  have w4 : IntKind.i64.wrap b = b := IntWalk.i64_in _ (by omega)
  have HE := Lib.hid hE
  have HT := Lib.hid hT
  clear hE hT hsz h0 h1
  go_enter Tryz.func3, Tryz.ntmps3
  go_wp2_with (first
    | (go_at_call 8; (with_reducible refine cL.out.mono ?_); rintro e W1 ⟨rfl, hb1⟩; have HB1 := Lib.hid hb1; clear hb1)
    | (go_at_call 9; (with_reducible refine (cR.out _ (HE.out.on ((HB1.out.alloc HB1.out.size _).alloc (by rw [World.size_alloc]; have := HB1.out.size; omega) _))).mono ?_); rintro e W2 ⟨⟨A2, c2, rfl, hv2⟩, hb2⟩; have t0 := (hb2.cell (p := ⟨W1.heap.size + 1, 56, none⟩) (by simp)).trans (show _ = some (.int .i64 8) by simp); have t1 := (hb2.cell (p := ⟨W1.heap.size + 1, 57, none⟩) (by simp)).trans (show _ = some (.string ⟨#[]⟩) by simp); have t2 := (hb2.cell (p := ⟨W1.heap.size + 1, 58, none⟩) (by simp)).trans (show _ = some (.int .u8 0) by simp); have t3 := (hb2.cell (p := ⟨W1.heap.size + 1, 59, none⟩) (by simp)).trans (show _ = some (.string ⟨#[]⟩) by simp); have t4 := (hb2.cell (p := ⟨W1.heap.size + 1, 60, none⟩) (by simp)).trans (show _ = some (.int .i64 (-1)) by simp); have t5 := (hb2.cell (p := ⟨W1.heap.size + 1, 61, none⟩) (by simp)).trans (show _ = some (.int .i64 3) by simp); have t6 := (hb2.cell (p := ⟨W1.heap.size + 1, 62, none⟩) (by simp)).trans (show _ = some (.slice none 0 0) by simp); have hz2 := hb2.size; simp only [World.size_alloc] at hz2; have HB2 := Lib.hid (((HB1.out.alloc HB1.out.size _).alloc (by rw [World.size_alloc]; have := HB1.out.size; omega) _).trans (hb2.mono (by simp only [World.size_alloc]; have := HB1.out.size; omega))); have V2 := Lib.hid hv2; clear hb2 hv2)
    | (go_at_call 10; (with_reducible refine (cS.out _ _ _ _ V2.out).mono ?_); rintro e W3 ⟨rfl, hb3⟩; have HB3 := Lib.hid ((((HB2.out.alloc HB2.out.size _).alloc (by rw [World.size_alloc]; have := HB2.out.size; omega) _).alloc (by simp only [World.size_alloc]; have := HB2.out.size; omega) _).trans (hb3.mono (by simp only [World.size_alloc]; have := HB2.out.size; omega))); clear hb3 V2 t0 t1 t2 t3 t4 t5 t6)
    | (go_at_call 11; (with_reducible refine (cD.out _ (HT.out.on (HB3.out.alloc HB3.out.size _))).mono ?_); rintro e W4 ⟨rfl, hb4⟩; have HB4 := Lib.hid ((HB3.out.alloc HB3.out.size _).trans (hb4.mono (by rw [World.size_alloc]; have := HB3.out.size; omega))); clear hb4)
    | (go_at_call 9; (with_reducible refine (cR2.out _ (HE.out.on HB4.out)).mono ?_); rintro e W5 ⟨⟨A5, c5, rfl, hv5⟩, hb5⟩; have HB5 := Lib.hid (HB4.out.trans (hb5.mono HB4.out.size)); have V5 := Lib.hid hv5; clear hb5 hv5)
    | (go_at_call 10; (with_reducible refine (cS2.out _ _ _ _ V5.out).mono ?_); rintro e W6 ⟨rfl, hb6⟩; have HB6 := Lib.hid ((((HB5.out.alloc HB5.out.size _).alloc (by rw [World.size_alloc]; have := HB5.out.size; omega) _).alloc (by simp only [World.size_alloc]; have := HB5.out.size; omega) _).trans (hb6.mono (by simp only [World.size_alloc]; have := HB5.out.size; omega))); clear hb6))
  go_ret
  exact ⟨rfl, HB6.out⟩

end Go.Proofs.YtaobpkffcolobaaGreatDoor.sel
