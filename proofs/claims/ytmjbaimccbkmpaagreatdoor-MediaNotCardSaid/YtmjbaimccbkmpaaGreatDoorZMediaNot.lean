/- MediaNot: for every text and whatever it is shown on the call returns true, and all that was there reads as before. The package-level variables that its row lists start as the program's text lays them (the card ties them). -/
import Derived.Test.YtmjbaimccbkmpaaGreatDoorBI
import Derived.Test.YtmjbaimccbkmpaaGreatDoorBG
import Derived.Test.YtmjbaimccbkmpaaGreatDoorBJ
import Derived.Test.YtmjbaimccbkmpaaGreatDoorBE
import Derived.Test.YtmjbaimccbkmpaaGreatDoorTie
import Derived.Test.YtmjbaimccbkmpaaGreatDoorCards

namespace Go.Proofs.YtmjbaimccbkmpaaGreatDoor.med
open Go.RowKit Go.Proofs.YtmjbaimccbkmpaaGreatDoor.base Go.Proofs.YtmjbaimccbkmpaaGreatDoor.tok Go.Proofs.YtmjbaimccbkmpaaGreatDoor.rul
set_option linter.unusedVariables false

theorem qs_first {w : World} {A : Option Addr} {c : Nat} {no : Bool} {fs : List Fe} (h : QS w (.slice A 1 c) [⟨no, fs⟩]) : ∃ b off, A = some ⟨b, off, none⟩ ∧ b < w.heap.size ∧ w.cell? ⟨b, off, none⟩ = some (.bool no) ∧ ∃ fA fc, w.cell? ⟨b, off + 1, none⟩ = some (.slice fA fs.length fc) ∧ Rd 2 Go.Proofs.YtmjbaimccbkmpaaGreatDoor.med.fc w w.heap.size fA fs.length fs := by
  obtain ⟨A', cap, rows, hv, hcap, hrd, hrows⟩ := h
  obtain ⟨rfl, -, rfl⟩ : A = A' ∧ True ∧ c = cap := by injection hv with a b d; exact ⟨a, trivial, d⟩
  obtain ⟨b, off, r, rfl, hbb, hr, hc⟩ := Rd.at_ hrd (i := 0) (Nat.succ_pos _)
  obtain ⟨hno, hfs⟩ := hrows 0 r ⟨no, fs⟩ hr rfl
  obtain ⟨rn, rv⟩ := r
  simp only at hno hfs
  subst hno
  obtain ⟨fA, fcap, rfl, _, hfr, _⟩ := hfs
  have c0 := hc 0 (by omega)
  have c1 := hc 1 (by omega)
  simp only [Nat.zero_mul, Nat.add_zero] at c0 c1
  exact ⟨b, off, rfl, hbb, c0, fA, fcap, c1, hfr⟩
theorem notT_size (s : Bs) : (⟨#[110, 111, 116, 32]⟩ : ByteArray) ++ bs s = bs (notT ++ s) := by
  apply ByteArray.ext; apply Array.ext'
  simp [bs, ByteArray.data_append, notT]

set_option maxRecDepth 100000 in
set_option maxHeartbeats 8000000 in
theorem not_early (s : Bs) (hsl : s.length ≤ 9223372036854775807) (e : En) (h : readP s = none) (w : World) (hE : MEnv w) :
    Calls Tryz.prog 5 #[.string (bs s), e.v] w fun x w' => x = .returned (.bool true) ∧ Below w.heap.size w w' := by
  have cR := Lib.hid (fun W hE => mread_none s hsl h W hE)
  have cH := fun W hE => holds_none s hsl h e W hE
  have cW := Lib.hid (fun W hE => wide_ct W hE)
  have HE := Lib.hid hE
  obtain ⟨ew, eh, ed, ep⟩ := e
  simp only [En.v] at cH ⊢
  replace cH := Lib.hid cH
  have hb0 := (Below.refl w.heap.size w).alloc (Nat.le_refl _) (.cells #[.int .i64 ew, .int .i64 eh, .bool ed, .bool ep] 48)
  have HB0 := Lib.hid hb0
  have HBlk := Lib.hid (Blk.new (w := w) (t := 48) (cs := #[.int .i64 ew, .int .i64 eh, .bool ed, .bool ep]) rfl)
  clear hE h hb0 hsl
  go_enter Tryz.func5, Tryz.ntmps5
  go_wp2_with (first
    | (go_at_call 12; (with_reducible refine (cW.out _ (HE.out.on HB0.out)).mono ?_); rintro e W1 ⟨rfl, hb1⟩; have HB1 := Lib.hid (HB0.out.trans (hb1.mono (by simp))); have bE1 := Lib.hid (HBlk.out.below hb1 (by simp)); clear hb1)
    | (go_at_call 13; (with_reducible refine (cR.out _ (HE.out.on HB1.out)).mono ?_); rintro e W2 ⟨rfl, hb2⟩; have HB2 := Lib.hid (HB1.out.trans (hb2.mono HB1.out.size)); have bE2 := bE1.out.below hb2 bE1.out.lt; have cE2 := bE2.cell; clear hb2)
    | (go_at_call 16; (with_reducible refine (cH.out _ (HE.out.on HB2.out)).mono ?_); rintro e W3 ⟨rfl, hb3⟩; have HB3 := Lib.hid (HB2.out.trans (hb3.mono HB2.out.size)); clear hb3))
  go_ret
  exact ⟨rfl, HB3.out⟩

set_option maxRecDepth 100000 in
set_option maxHeartbeats 8000000 in
theorem not_env (s : Bs) (hsl : s.length ≤ 9223372036854775807) (e : En) (Q : List Qu) (h : readP s = some Q) (he : envOk e = false) (w : World) (hE : MEnv w) :
    Calls Tryz.prog 5 #[.string (bs s), e.v] w fun x w' => x = .returned (.bool true) ∧ Below w.heap.size w w' := by
  have cR := Lib.hid (fun W hE => mread_some s hsl Q h W hE)
  have cH := fun W hE => holds_env s hsl Q h e he W hE
  have cW := Lib.hid (fun W hE => wide_ct W hE)
  have HE := Lib.hid hE
  obtain ⟨ew, eh, ed, ep⟩ := e
  simp only [En.v] at cH ⊢
  replace cH := Lib.hid cH
  have hb0 := (Below.refl w.heap.size w).alloc (Nat.le_refl _) (.cells #[.int .i64 ew, .int .i64 eh, .bool ed, .bool ep] 48)
  have HB0 := Lib.hid hb0
  have HBlk := Lib.hid (Blk.new (w := w) (t := 48) (cs := #[.int .i64 ew, .int .i64 eh, .bool ed, .bool ep]) rfl)
  clear hE h hb0 hsl he
  go_enter Tryz.func5, Tryz.ntmps5
  go_wp2_with (first
    | (go_at_call 12; (with_reducible refine (cW.out _ (HE.out.on HB0.out)).mono ?_); rintro e W1 ⟨rfl, hb1⟩; have HB1 := Lib.hid (HB0.out.trans (hb1.mono (by simp))); have bE1 := Lib.hid (HBlk.out.below hb1 (by simp)); clear hb1)
    | (go_at_call 13; (with_reducible refine (cR.out _ (HE.out.on HB1.out)).mono ?_); rintro e W2 ⟨⟨A, c, rfl, _⟩, hb2⟩; have HB2 := Lib.hid (HB1.out.trans (hb2.mono HB1.out.size)); have bE2 := bE1.out.below hb2 bE1.out.lt; have cE2 := bE2.cell; clear hb2)
    | (go_at_call 16; (with_reducible refine (cH.out _ (HE.out.on HB2.out)).mono ?_); rintro e W3 ⟨rfl, hb3⟩; have HB3 := Lib.hid (HB2.out.trans (hb3.mono HB2.out.size)); clear hb3))
  go_ret
  exact ⟨rfl, HB3.out⟩

set_option maxRecDepth 100000 in
set_option maxHeartbeats 8000000 in
theorem not_many (s : Bs) (hsl : s.length ≤ 9223372036854775807) (e : En) (Q : List Qu) (h : readP s = some Q) (he : envOk e = true) (hQ : Q.length ≠ 1 ∨ ∃ fs, Q = [⟨true, fs⟩]) (w : World) (hE : MEnv w) :
    Calls Tryz.prog 5 #[.string (bs s), e.v] w fun x w' => x = .returned (.bool true) ∧ Below w.heap.size w w' := by
  have cR := Lib.hid (fun W hE => mread_some s hsl Q h W hE)
  have cH := fun W hE => holds_some s hsl Q h e he W hE
  have cW := Lib.hid (fun W hE => wide_ct W hE)
  have HE := Lib.hid hE
  generalize anyQ Q e = a at *
  obtain ⟨ew, eh, ed, ep⟩ := e
  simp only [En.v] at cH ⊢
  replace cH := Lib.hid cH
  have hb0 := (Below.refl w.heap.size w).alloc (Nat.le_refl _) (.cells #[.int .i64 ew, .int .i64 eh, .bool ed, .bool ep] 48)
  have HB0 := Lib.hid hb0
  have HBlk := Lib.hid (Blk.new (w := w) (t := 48) (cs := #[.int .i64 ew, .int .i64 eh, .bool ed, .bool ep]) rfl)
  clear hE h hb0 hsl he
  rcases hQ with hl | ⟨fs, rfl⟩
  · have n1 : ((Q.length : Int) == 1) = false := by simp; omega
    have n2 : ((Q.length : Int) != 1) = true := by simp; omega
    clear hl
    go_enter Tryz.func5, Tryz.ntmps5
    go_wp2_with (first
      | (go_at_call 12; (with_reducible refine (cW.out _ (HE.out.on HB0.out)).mono ?_); rintro e W1 ⟨rfl, hb1⟩; have HB1 := Lib.hid (HB0.out.trans (hb1.mono (by simp))); have bE1 := Lib.hid (HBlk.out.below hb1 (by simp)); clear hb1)
      | (go_at_call 13; (with_reducible refine (cR.out _ (HE.out.on HB1.out)).mono ?_); rintro e W2 ⟨⟨A, c, rfl, _⟩, hb2⟩; have HB2 := Lib.hid (HB1.out.trans (hb2.mono HB1.out.size)); have bE2 := bE1.out.below hb2 bE1.out.lt; have cE2 := bE2.cell; clear hb2)
      | (go_at_call 16; (with_reducible refine (cH.out _ (HE.out.on HB2.out)).mono ?_); rintro e W3 ⟨rfl, hb3⟩; have HB3 := Lib.hid (HB2.out.trans (hb3.mono HB2.out.size)); clear hb3))
    go_ret
    exact ⟨rfl, HB3.out⟩
  · simp only [List.length_cons, List.length_nil, Nat.zero_add] at cR
    go_enter Tryz.func5, Tryz.ntmps5
    go_wp2_with (first
      | (go_at_call 12; (with_reducible refine (cW.out _ (HE.out.on HB0.out)).mono ?_); rintro e W1 ⟨rfl, hb1⟩; have HB1 := Lib.hid (HB0.out.trans (hb1.mono (by simp))); have bE1 := Lib.hid (HBlk.out.below hb1 (by simp)); clear hb1)
      | (go_at_call 13; (with_reducible refine (cR.out _ (HE.out.on HB1.out)).mono ?_); rintro e W2 ⟨⟨A, c, rfl, hqs⟩, hb2⟩; have HB2 := Lib.hid (HB1.out.trans (hb2.mono HB1.out.size)); have bE2 := bE1.out.below hb2 bE1.out.lt; have cE2 := bE2.cell; have HQS := Lib.hid hqs; clear hb2 hqs)
      | (go_at_call 16; (with_reducible refine (cH.out _ (HE.out.on HB2.out)).mono ?_); rintro e W3 ⟨rfl, hb3⟩; have HB3 := Lib.hid (HB2.out.trans (hb3.mono HB2.out.size)); obtain ⟨b, off, rfl, hbb, hx0, -⟩ := qs_first (HQS.out.on hb3); clear hb3))
    go_ret
    exact ⟨rfl, HB3.out⟩

def knownP (F : List Fe) : Bool := F.all fun f => decide (f.k ≠ 12)
theorem known_step {F : List Fe} {j : Nat} {f : Fe} (h : F[j]? = some f) : knownP (F.take (j + 1)) = (knownP (F.take j) && decide (f.k ≠ 12)) := by
  obtain ⟨hl, he⟩ := List.getElem?_eq_some_iff.1 h
  unfold knownP
  rw [List.take_succ_eq_append_getElem hl, List.all_append, he]
  simp

set_option maxRecDepth 100000 in
set_option maxHeartbeats 16000000 in
theorem not_main (s : Bs) (hsl : s.length ≤ 9223372036854775807) (e : En) (F : List Fe) (h : readP s = some [⟨false, F⟩]) (he : envOk e = true) (w : World) (hE : MEnv w) :
    Calls Tryz.prog 5 #[.string (bs s), e.v] w fun x w' => x = .returned (.bool true) ∧ Below w.heap.size w w' := by
  obtain ⟨_, hqg, hqc⟩ := read_good h
  have hg : GoodQ ⟨false, F⟩ := hqg _ (by simp)
  have hfn : F.length ≤ 1203 := by have := (cnt_len [(⟨false, F⟩ : Qu)]).2 ⟨false, F⟩ (by simp); simp only at this; omega
  have hfi : (F.length : Int) ≤ 1203 := by omega
  have hrn := read_not hg
  have hnb := not_both F e
  have hno := fun hk => not_one hg.2 (fun f hf => of_decide_eq_true (List.all_eq_true.1 (show knownP F = true from hk) f hf)) e
  have hTl : (textP [⟨false, F⟩]).length ≤ 70000 := text_len hqg hqc
  have cR := fun W hE => mread_some s hsl [⟨false, F⟩] h W hE
  simp only [List.length_cons, List.length_nil, Nat.zero_add] at cR
  replace cR := Lib.hid cR
  have cH := fun W hE => holds_some s hsl [⟨false, F⟩] h e he W hE
  have cT := Lib.hid (fun v W hQ hE => mtext_ct v [⟨false, F⟩] W hQ hqg (by simp) hqc hE)
  have cW := Lib.hid (fun W hE => wide_ct W hE)
  have HE := Lib.hid hE
  have hcat := notT_size (textP [⟨false, F⟩])
  have hNl : (notT ++ textP [⟨false, F⟩]).length ≤ 70004 := by rw [List.length_append]; have : notT.length = 4 := rfl; omega
  have cG : ∃ (b : Bool) (g : Int), ((g == 0) = false ∨ ((g == 0) = true ∧ b = anyQ [⟨true, F⟩] e)) ∧ ∀ W, MEnv W → Calls Tryz.prog 16 #[.string (⟨#[110, 111, 116, 32]⟩ ++ bs (textP [⟨false, F⟩])), e.v] W fun x W' => x = .returned (.tuple #[.bool b, .int .i64 g]) ∧ Below W.heap.size W W' := by
    rw [hcat]
    by_cases hl : 400 < (notT ++ textP [⟨false, F⟩]).length
    · rw [if_pos hl] at hrn
      exact ⟨false, 2, .inl rfl, fun W hE => holds_none _ (by omega) hrn e W hE⟩
    · rw [if_neg hl] at hrn
      exact ⟨_, 0, .inr ⟨rfl, rfl⟩, fun W hE => holds_some _ (by omega) _ hrn e he W hE⟩
  obtain ⟨nb, ng, hnbg, cG⟩ := cG
  have a1 : ¬ 9223372036854775807 < 4 + (bs (textP [⟨false, F⟩])).size := by rw [bs_size]; omega
  obtain ⟨K, hK⟩ : ∃ K, knownP F = K := ⟨_, rfl⟩
  have HK := Lib.hid hK
  have hfin : ((ng == 0) = false) ∨ ((ng == 0) = true ∧ (anyQ [⟨false, F⟩] e && nb) = false ∧ (K = true → anyQ [⟨false, F⟩] e = !nb)) := by
    rcases hnbg with h | ⟨h, rfl⟩
    · exact .inl h
    · exact .inr ⟨h, hnb, fun hk => hno (by rw [hK]; exact hk)⟩
  generalize anyQ [⟨false, F⟩] e = a at *
  generalize textP [⟨false, F⟩] = T at *
  obtain ⟨ew, eh, ed, ep⟩ := e
  simp only [En.v] at cH cG ⊢
  replace cH := Lib.hid cH
  replace cG := Lib.hid cG
  have hb0 := (Below.refl w.heap.size w).alloc (Nat.le_refl _) (.cells #[.int .i64 ew, .int .i64 eh, .bool ed, .bool ep] 48)
  have HB0 := Lib.hid hb0
  have HBlk := Lib.hid (Blk.new (w := w) (t := 48) (cs := #[.int .i64 ew, .int .i64 eh, .bool ed, .bool ep]) rfl)
  have HFin := Lib.hid hfin
  clear hE h hb0 hsl he hrn hnb hno hnbg hqg hqc hg hK hfin hTl hcat hNl
  go_enter Tryz.func5, Tryz.ntmps5
  go_wp2_with (first
    | (go_at_call 12; (with_reducible refine (cW.out _ (HE.out.on HB0.out)).mono ?_); rintro e W1 ⟨rfl, hb1⟩; have HB1 := Lib.hid (HB0.out.trans (hb1.mono (by simp))); have bE1 := Lib.hid (HBlk.out.below hb1 (by simp)); clear hb1)
    | (go_at_call 13; (with_reducible refine (cR.out _ (HE.out.on HB1.out)).mono ?_); rintro e W2 ⟨⟨A, c, rfl, hqs⟩, hb2⟩; have HB2 := Lib.hid (HB1.out.trans (hb2.mono HB1.out.size)); have bE2 := Lib.hid (bE1.out.below hb2 bE1.out.lt); have cE2 := bE2.out.cell; have HQS := Lib.hid hqs; clear hb2 hqs)
    | (go_at_call 16; (with_reducible refine (cH.out _ (HE.out.on HB2.out)).mono ?_); rintro e W3 ⟨rfl, hb3⟩; have HB3 := Lib.hid (HB2.out.trans (hb3.mono HB2.out.size)); have HQS3 := Lib.hid (HQS.out.on hb3); have bE3 := Lib.hid (bE2.out.below hb3 bE2.out.lt); obtain ⟨b, off, rfl, hbb, hx0, fA, fcap, hx1, hfr⟩ := qs_first (HQS.out.on hb3); have HFR := Lib.hid hfr; clear hb3 hfr cE2 cH))
  have hxb : b < W3.heap.size := hbb
  go_loopw [10, 11] (fun v x wr => wr = W3 ∧ ∃ j : Nat, j ≤ F.length ∧ x = .int .i64 j ∧ v = .bool (knownP (F.take j))) (fun _ x _ => F.length - (intOf x).toNat)
  case atStart => exact ⟨rfl, 0, Nat.zero_le _, rfl, rfl⟩
  case round =>
    obtain ⟨hwr, j, hj, rfl, rfl⟩ := hrel
    obtain rfl := hwr.symm
    by_cases hlt : j < F.length
    · have hlt' : (j : Int) < (F.length : Int) := by omega
      obtain ⟨p, z, f, rfl, hp, hf, hcell⟩ := Rd.at_ HFR.out hlt
      have d0 : W3.cell? ⟨p, z + j * 2, none⟩ = some (.int .i64 f.k) := hcell 0 (by omega)
      have HStep := Lib.hid (known_step hf)
      obtain ⟨fk, fn⟩ := f
      simp only at d0 HStep
      clear hcell hf
      cases hkn : knownP (F.take j)
      · rw [hkn] at HStep
        clear hkn
        go_wp2_with fail
        go_roundw
        case rel => exact ⟨trivial, j + 1, by omega, by go_num, by rw [HStep.out]; rfl⟩
        case measure => simp [intOf]; omega
      · rw [hkn] at HStep
        clear hkn
        by_cases h12 : fk = 12
        · have b1 : (fk == 12) = true := by simpa using h12
          have b2 : (fk != 12) = false := by simpa using h12
          have HS2 := Lib.hid (show knownP (F.take (j + 1)) = false by rw [HStep.out, decide_eq_false (by simpa using h12)]; rfl)
          clear h12
          go_wp2_with fail
          go_roundw
          case rel => exact ⟨trivial, j + 1, by omega, by go_num, by rw [HS2.out]⟩
          case measure => simp [intOf]; omega
        · have b1 : (fk == 12) = false := by simpa using h12
          have b2 : (fk != 12) = true := by simpa using h12
          have HS2 := Lib.hid (show knownP (F.take (j + 1)) = true by rw [HStep.out, decide_eq_true (by simpa using h12)]; rfl)
          clear h12
          go_wp2_with fail
          go_roundw
          case rel => exact ⟨trivial, j + 1, by omega, by go_num, by rw [HS2.out]⟩
          case measure => simp [intOf]; omega
    · obtain rfl : j = F.length := by omega
      have hkk : knownP (F.take F.length) = K := by rw [List.take_length]; exact HK.out
      rw [hkk]
      clear hkk
      have cE3 := bE3.out.cell
      have hEs : w.heap.size < W3.heap.size := bE3.out.lt
      have ZR : W3.heap.size ≤ W3.heap.size := Nat.le_refl _
      have HQd := Lib.hid (HQS3.out.on ((Below.refl _ _).drew))
      have HEd := Lib.hid (HE.out.on HB3.out.drew)
      have HB3d := Lib.hid HB3.out.drew
      go_wp2_with fail
      go_region_held3 (fun w' => (∀ b o, b < W3.heap.size → w'.cell? ⟨b, o, none⟩ = W3.cell? ⟨b, o, none⟩) ∧ Below W3.heap.size W3 w')
        (first | exact As.beg | assumption | exact As.on hb4 (by assumption) ZR | exact As.on hb5 (by assumption) ZR)
        (first
          | (go_at_call 14; (with_reducible refine (cT.out _ _ HQd.out HEd.out).mono ?_); rintro e W4 ⟨rfl, hb4⟩; have HB4 := Lib.hid (HB3d.out.trans (hb4.mono HB3d.out.size)))
          | (go_at_call 16; (with_reducible refine (cG.out _ (HE.out.on HB4.out)).mono ?_); rintro e W5 ⟨rfl, hb5⟩; have HB5 := Lib.hid (HB4.out.trans (hb5.mono HB4.out.size))))
      all_goals
        rename_i hHeld
        clear hHeld
        rcases HFin.out with hg | ⟨hg, hab, hk⟩
        · have hg2 : (ng != 0) = true := by rw [bne, hg]; rfl
          go_wp2_with fail
          go_ret
          exact ⟨rfl, HB5.out⟩
        · have hg2 : (ng != 0) = false := by rw [bne, hg]; rfl
          cases a <;> cases nb <;> cases K <;> first
            | (exfalso; revert hab; decide)
            | (exfalso; have := hk rfl; revert this; decide)
            | (clear hab hk
               go_wp2_with fail
               go_ret
               exact ⟨rfl, HB5.out⟩)

theorem not.law_ct (a : ByteArray) (e : En) (w : World) (hs : a.size ≤ maxLen) (hE : MEnv w) :
    Calls Tryz.prog 5 #[.string a, e.v] w fun x w' => x = .returned (.bool true) ∧ Below w.heap.size w w' := by
  obtain ⟨s, rfl⟩ : ∃ s : Bs, a = bs s := ⟨a.data.toList, rfl⟩
  have hsl : s.length ≤ 9223372036854775807 := hs
  cases h : readP s with
  | none => exact not_early s hsl e h w hE
  | some Q =>
    cases he : envOk e
    · exact not_env s hsl e Q h he w hE
    · by_cases h1 : Q.length = 1
      · obtain ⟨q, rfl⟩ := List.length_eq_one_iff.1 h1
        obtain ⟨no, F⟩ := q
        cases no
        · exact not_main s hsl e F h he w hE
        · exact not_many s hsl e _ h he (.inr ⟨F, rfl⟩) w hE
      · exact not_many s hsl e Q h he (.inl h1) w hE

end Go.Proofs.YtmjbaimccbkmpaaGreatDoor.med

namespace Go.Proofs.YtmjbaimccbkmpaaGreatDoor.med.not
open Go.RowKit Go.Proofs.YtmjbaimccbkmpaaGreatDoor.base Go.Proofs.YtmjbaimccbkmpaaGreatDoor.tok Go.Proofs.YtmjbaimccbkmpaaGreatDoor.med Go.ChangeShapes Go.WideShapes Go.ChangeAt
set_option linter.unusedVariables false

set_option maxRecDepth 100000 in
theorem lifted (os : Os) (started : os.Started) (H : Type) (enc : TypeId × Value → H) :
    ReturnsInHanded {} Tryz.checked os 5 .any (fun w args => (Rows.mediaNotSpec.pre enc Tryz.prog Tryz.f5 Rows.mediaNotRow.domain false w args ∧ laidMetH Tryz.prog Rows.mediaNotRow.laid w) ∧ sizedMet enc Tryz.prog Tryz.f5 (OpenSpec.ofChange Rows.mediaNotSpec) false w args)
      (Rows.mediaNotSpec.post enc Tryz.prog Tryz.f5 false true false false) := by
  refine returns_door (C := Tryz.checked) (X := fun w _ => laidMetH Tryz.prog Rows.mediaNotRow.laid w) (fun _ _ _ hh h => h.of_heap hh) ownD started (by kernel_rfl) Tryz.func5
    (ChangeSpec.witness_shaped (enc := enc) (C := Tryz.checked) (os := os) (X := fun w _ => laidMetH Tryz.prog Rows.mediaNotRow.laid w) false (World.laidAll Tryz.prog os Rows.mediaNotRow.laid) #[.string .empty, .agg #[.int .i64 0, .int .i64 0, .bool false, .bool false]] 8 (World.laidAll_os _ _ _)
      (World.shaped_of_ZipB (by kernel_rfl) (by kernel_rfl)) (by kernel_rfl) (by kernel_rfl) (by kernel_rfl)
      (by rw [MakeChecks.laidMetH_plain _ _ _ (by kernel_rfl)]; exact laidMet_laidAll _ (by kernel_rfl) (by kernel_rfl))) ?_
  intro W base args ds gs before hval0 hW hsz hlaid hsh
  have hval : ∀ (j : Nat) t v, Tryz.f5.params[j]? = some t → args[j]? = some v → Value.okWide Tryz.prog W .any base t v := hval0
  have hW' := hW
  obtain ⟨p, q, hA0, hV, -, -, -⟩ := hW
  have hA : DataW.TrodAll enc Tryz.prog W 0 (fun _ => true) true Tryz.f5.params.toList args.toList ds p := hA0
  rw [Tryz.params5] at hA hval
  obtain ⟨v0, vs0, d0, ds0, p0, q0, hargs, rfl, -, h0, r0⟩ := trodAll_cons hA
  obtain ⟨v1, vs1, d1, ds1, p1, q1, rfl, rfl, -, h1, r1⟩ := trodAll_cons r0
  obtain ⟨rfl, rfl, -⟩ := trodAll_nil r1
  obtain rfl : args = #[v0, v1] := by cases args; simp_all
  obtain ⟨rfl, -⟩ := trodVars_none hV
  obtain ⟨a, rfl, -, -, hs0⟩ := Go.ChangeMaps.open_string Tryz.underlying9 (hval 0 _ _ rfl rfl) h0
  obtain ⟨b, rfl⟩ := open_env (hval 1 _ _ rfl rfl) h1
  rw [MakeChecks.laidMetH_plain _ _ _ (by kernel_rfl)] at hlaid
  exact (law_ct a b W hs0 ⟨maxLen_of hsh, words_laid hlaid (by simp [Rows.mediaNotRow]), dim.pow_of hlaid (by simp [Rows.mediaNotRow]), err_of (by kernel_rfl) (by kernel_rfl) hlaid.tail.tail.tail.tail.tail, err_of (by kernel_rfl) (by kernel_rfl) hlaid.tail.tail.tail.tail⟩).mono fun e W' ⟨he, bel⟩ => ⟨_, he, law_post laidOutD rfl Tryz.underlying4 rfl (by intro t ht; rw [Tryz.params5] at ht; revert t; decide +kernel) rfl hW' bel⟩

theorem holds : Rows.MediaNotSaid :=
  OpenClaim.holds_of_wide 5 Tryz.f5 rfl rfl rfl rfl rfl rfl rfl ⟨rfl, rfl, rfl, rfl, rfl⟩ rfl rfl rfl rfl rfl (by kernel_rfl) Tryz.func5 (by kernel_rfl)
    (of_decide_eq_true (by kernel_rfl)) (by unfold Func.isWrapper; first | (rw [if_pos (by decide +kernel)]; kernel_rfl) | (rw [if_neg (by decide +kernel)]; exact ⟨rfl, rfl⟩))
    (fun os started H enc _ => lifted os started H enc)

theorem proved : Rows.MediaNotCardSaid :=
  Claim7.holds_tied_plain_at .later [] Rows.mediaNotCard.laidKinds true Rows.mediaNotCard.stood.harness Rows.mediaNotCard.stood.looks holds (fun _ h => by cases h) (by kernel_rfl) (fun _ h => by cases h) mediaNot_row_tie rfl ⟨rfl, rfl⟩ (by kernel_rfl) rfl
    (fun f fn hf hfn => by
      obtain rfl : f = 5 := Option.some.inj ((show Tryz.prog.funcNamed "clerestory/clerestorykeep2.MediaNot" = some 5 by kernel_rfl).symm.trans hf) |>.symm
      obtain rfl : fn = Tryz.f5 := (Option.some.inj (Tryz.func5.symm.trans hfn)).symm
      exact ⟨by kernel_rfl, fun j t ht => by
        rw [Tryz.params5] at ht
        have hm : t ∈ [9, 48] := by simpa using Array.mem_of_getElem? ht
        have hall : ([9, 48].all fun u => !Tryz.prog.wantsStandIn u) = true := by kernel_rfl
        exact (show Tryz.prog.wantsStandIn t = false by simpa using List.all_eq_true.1 hall t hm)⟩)
    (by kernel_rfl)
#print axioms proved

end Go.Proofs.YtmjbaimccbkmpaaGreatDoor.med.not
