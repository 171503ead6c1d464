/- Contracts and plain law, a bundle: SelW. -/
import Derived.Test.YtaobpkffcolobaaGreatDoorBF1

namespace Go.Proofs.YtaobpkffcolobaaGreatDoor.sel
open Go.RowKit Go.Proofs.YtaobpkffcolobaaGreatDoor.base Go.Proofs.YtaobpkffcolobaaGreatDoor.tok Go.Proofs.YtaobpkffcolobaaGreatDoor.rul
set_option linter.unusedVariables false

def PathsC (l : List Pa) : Prop := ∀ (A : Option Addr) (cap : Nat) (X : Nat → Prop) (w : World), MaxL w → PasV X w l A cap →
  Calls Tryz.prog 24 #[.slice A l.length cap] w fun e w' => e = .returned (.bool true) ∧ Below w.heap.size w w'
theorem and_t {a b : Bool} (h : (a && b) = true) : a = true ∧ b = true := Bool.and_eq_true_iff.1 h
theorem not_t {a : Bool} (h : (!a) = true) : a = false := by cases a; rfl; cases h
theorem okL_mem {l : List Pa} (h : okL l = true) {i : Nat} {steps : List (List Ts)} {joins : Bs} (hi : l[i]? = some (.mk steps joins)) : okSS steps = true ∧ joins.all joinOk = true := by
  induction l generalizing i with
  | nil => cases hi
  | cons x l ih =>
    rw [okL] at h
    obtain ⟨h1, h2⟩ := and_t h
    cases i with
    | zero =>
      obtain rfl := Option.some.inj hi
      rw [okP] at h1
      obtain ⟨a1, a2⟩ := and_t h1
      obtain ⟨a3, a4⟩ := and_t a1
      exact ⟨a4, a2⟩
    | succ i => exact ih h2 hi
theorem okSS_mem {l : List (List Ts)} (h : okSS l = true) {i : Nat} {s : List Ts} (hi : l[i]? = some s) : okS 0 s = true ∧ s ≠ [] := by
  induction l generalizing i with
  | nil => cases hi
  | cons x l ih =>
    rw [okSS] at h
    obtain ⟨h1, h2⟩ := and_t h
    obtain ⟨h3, h4⟩ := and_t h1
    cases i with
    | zero =>
      obtain rfl := Option.some.inj hi
      exact ⟨h3, fun e => by rw [e] at h4; cases h4⟩
    | succ i => exact ih h2 hi
theorem okS_mem {l : List Ts} {b : Nat} (h : okS b l = true) {i : Nat} {t : Ts} (hi : l[i]? = some t) : okT (b + i) t = true := by
  induction l generalizing b i with
  | nil => cases hi
  | cons x l ih =>
    rw [okS] at h
    obtain ⟨h1, h2⟩ := and_t h
    cases i with
    | zero =>
      obtain rfl := Option.some.inj hi
      exact h1
    | succ i =>
      have := ih h2 (i := i) hi
      rwa [show b + 1 + i = b + (i + 1) by omega] at this
theorem joinOk_ne {c : UInt8} (h : joinOk c = true) : ¬ (Lib.indexByte [32, 62, 43, 126] c : Int) < 0 := by
  have h1 : c = 32 ∨ c = 62 ∨ c = 43 ∨ c = 126 := by simpa [joinOk, or_assoc] using h
  rcases h1 with rfl | rfl | rfl | rfl <;> decide
theorem jdx_ct (op : UInt8) (w : World) : Calls Tryz.prog 43 #[.string ⟨#[32, 62, 43, 126]⟩, .int .u8 (nv op)] w fun e w' => e = .returned (.int .i64 (Lib.indexByte [32, 62, 43, 126] op)) ∧ w = w' := by
  have h := Tryz.strings_IndexByte ⟨#[32, 62, 43, 126]⟩ (nv op) w
  rw [show (nv op).toNat.toUInt8 = op by unfold nv; simp] at h
  exact h.mono fun e w' ⟨h1, h2⟩ => ⟨h1, h2.symm⟩
/-- a test that is right -/
theorem test_true (i : Nat) (k : Int) (n : Bs) (op : UInt8) (v : Bs) (a b : Int) (subs : List Pa) (hok : okT i (.mk k n op v a b subs) = true) (hsm : SmT (.mk k n op v a b subs)) (A : Option Addr) (cap : Nat) (w : World) (hM : MaxL w)
    (hP : subs ≠ [] → okL subs = true → ∀ W, Below w.heap.size w W → MaxL W → Calls Tryz.prog 24 #[.slice A subs.length cap] W fun e w' => e = .returned (.bool true) ∧ Below W.heap.size W w') :
    Calls Tryz.prog 42 #[.agg #[.int .i64 k, .string (bs n), .int .u8 (nv op), .string (bs v), .int .i64 a, .int .i64 b, .slice A subs.length cap], .int .i64 i] w fun e w' => e = .returned (.bool true) ∧ Below w.heap.size w w' := by
  rw [okT.eq_def] at hok
  simp only at hok
  rw [SmT] at hsm
  obtain ⟨hsk1, hsk2, hsn, hsv, -⟩ := hsm
  obtain ⟨h1, h2⟩ := and_t hok
  unfold testB at h1
  obtain ⟨h1, hab⟩ := and_t h1
  obtain ⟨h1, hop⟩ := and_t h1
  obtain ⟨h1, hlow⟩ := and_t h1
  obtain ⟨h1, hname⟩ := and_t h1
  obtain ⟨h1, hnamed⟩ := and_t h1
  obtain ⟨h1, hat⟩ := and_t h1
  have hsub : (k = 10 ∨ k = 11) → subs ≠ [] ∧ okL subs = true := fun hk => by
    rw [if_pos hk] at h2
    cases subs with
    | nil => cases h2
    | cons p l => exact ⟨by simp, by rw [okL]; exact h2⟩
  have hsub0 : ¬ (k = 10 ∨ k = 11) → subs = [] := fun hk => by
    rw [if_neg hk] at h2
    cases subs with
    | nil => rfl
    | cons p l => cases h2
  have hname' : 2 ≤ k ∧ k ≤ 5 → n ≠ [] ∧ nameB n = true := fun hk => by
    refine ⟨fun e => ?_, ?_⟩
    · rw [decide_eq_true hk, e] at hnamed
      cases hnamed
    · rw [decide_eq_true hk] at hname
      simpa using hname
  have hname0 : ¬ (2 ≤ k ∧ k ≤ 5) → n = [] := fun hk => by
    rw [decide_eq_false hk] at hnamed
    simpa using hnamed
  have hlow' : (k = 2 ∨ k = 5) → n = lowP n := fun hk => by
    rcases hk with rfl | rfl <;> simpa using hlow
  have hop0 : k ≠ 5 → op = 0 ∧ v = [] := fun hk => by
    by_cases ho : op = 0
    · rw [if_pos ho] at hop
      exact ⟨ho, of_decide_eq_true hop⟩
    · rw [if_neg ho, decide_eq_false hk] at hop
      cases hop
  have hab0 : ¬ (k = 8 ∨ k = 9) → a = 0 ∧ b = 0 := fun hk => by
    rw [if_neg hk] at hab
    exact of_decide_eq_true hab
  have hat0 : k ≤ 2 → i = 0 := fun hk => by
    have h3 := not_t hat
    rw [decide_eq_true hk, Bool.true_and] at h3
    have := of_decide_eq_false h3
    omega
  have hk : k = 1 ∨ k = 2 ∨ k = 3 ∨ k = 4 ∨ k = 5 ∨ k = 6 ∨ k = 7 ∨ k = 8 ∨ k = 9 ∨ k = 10 ∨ k = 11 := by omega
  rcases hk with rfl | rfl | rfl | rfl | rfl | rfl | rfl | rfl | rfl | rfl | rfl
  · obtain rfl := hname0 (by omega)
    obtain ⟨rfl, rfl⟩ := hop0 (by omega)
    obtain ⟨rfl, rfl⟩ := hab0 (by omega)
    obtain rfl := hat0 (by omega)
    obtain rfl := hsub0 (by omega)
    exact test_1 A cap w
  · obtain ⟨n0, n1⟩ := hname' (by omega)
    obtain ⟨rfl, rfl⟩ := hop0 (by omega)
    obtain ⟨rfl, rfl⟩ := hab0 (by omega)
    obtain rfl := hat0 (by omega)
    obtain rfl := hsub0 (by omega)
    exact test_2 n n0 n1 (by omega) (hlow' (by omega)) A cap w hM
  · obtain ⟨n0, n1⟩ := hname' (by omega)
    obtain ⟨rfl, rfl⟩ := hop0 (by omega)
    obtain ⟨rfl, rfl⟩ := hab0 (by omega)
    obtain rfl := hsub0 (by omega)
    exact test_3 i n n0 n1 (by omega) A cap w hM
  · obtain ⟨n0, n1⟩ := hname' (by omega)
    obtain ⟨rfl, rfl⟩ := hop0 (by omega)
    obtain ⟨rfl, rfl⟩ := hab0 (by omega)
    obtain rfl := hsub0 (by omega)
    exact test_4 i n n0 n1 (by omega) A cap w hM
  · obtain ⟨n0, n1⟩ := hname' (by omega)
    obtain ⟨rfl, rfl⟩ := hab0 (by omega)
    obtain rfl := hsub0 (by omega)
    by_cases ho : op = 0
    · subst ho
      rw [if_pos rfl] at hop
      obtain rfl := of_decide_eq_true hop
      exact test_5 i n n0 n1 (by omega) (hlow' (by omega)) A cap w hM
    · rw [if_neg ho] at hop
      exact test_5o i n n0 n1 (by omega) (hlow' (by omega)) op (and_t hop).2 v A cap w hM
  · obtain rfl := hname0 (by omega)
    obtain ⟨rfl, rfl⟩ := hop0 (by omega)
    obtain ⟨rfl, rfl⟩ := hab0 (by omega)
    obtain rfl := hsub0 (by omega)
    exact test_6 i A cap w
  · obtain rfl := hname0 (by omega)
    obtain ⟨rfl, rfl⟩ := hop0 (by omega)
    obtain ⟨rfl, rfl⟩ := hab0 (by omega)
    obtain rfl := hsub0 (by omega)
    exact test_7 i A cap w
  · obtain rfl := hname0 (by omega)
    obtain ⟨rfl, rfl⟩ := hop0 (by omega)
    obtain rfl := hsub0 (by omega)
    rw [if_pos (.inl rfl)] at hab
    obtain ⟨q1, q2⟩ := of_decide_eq_true hab
    exact test_8 i a b q1 q2 A cap w
  · obtain rfl := hname0 (by omega)
    obtain ⟨rfl, rfl⟩ := hop0 (by omega)
    obtain rfl := hsub0 (by omega)
    rw [if_pos (.inr rfl)] at hab
    obtain ⟨q1, q2⟩ := of_decide_eq_true hab
    exact test_9 i a b q1 q2 A cap w
  · obtain rfl := hname0 (by omega)
    obtain ⟨rfl, rfl⟩ := hop0 (by omega)
    obtain ⟨rfl, rfl⟩ := hab0 (by omega)
    obtain ⟨s0, s1⟩ := hsub (by omega)
    exact test_10 i A subs.length cap w (hP s0 s1) hM
  · obtain rfl := hname0 (by omega)
    obtain ⟨rfl, rfl⟩ := hop0 (by omega)
    obtain ⟨rfl, rfl⟩ := hab0 (by omega)
    obtain ⟨s0, s1⟩ := hsub (by omega)
    exact test_11 i A subs.length cap w (hP s0 s1) hM

set_option maxRecDepth 100000 in
set_option maxHeartbeats 16000000 in
theorem paths_step (N : Nat) (IH : ∀ l, cntL l ≤ N → okL l = true → l ≠ [] → SmL l → PathsC l) (l : List Pa) (hcn : cntL l ≤ N + 1) (hc40 : cntL l ≤ 1000000) (hok : okL l = true) (hne : l ≠ []) (hsm : SmL l) : PathsC l := by
  intro A cap X w hM hv
  have hll := len_L l hsm
  have hml := List.length_pos_iff.2 hne
  obtain ⟨m, hm⟩ : ∃ m, l.length = m := ⟨_, rfl⟩
  rw [hm] at hll hml ⊢
  have hcap : m ≤ cap := hm ▸ hv.1
  have Hm := Lib.hid hm
  have HM := Lib.hid hM
  replace hv := Lib.hid hv
  replace hok := Lib.hid hok
  replace hsm := Lib.hid hsm
  replace IH := Lib.hid IH
  have hd0 : decide ((0 : Int) < (m : Int)) = true := by rw [decide_eq_true_eq]; omega
  clear hm hM hne
  go_enter Tryz.func24, Tryz.ntmps24
  go_wp2_with fail
  go_loopw [13] (fun i wr => ∃ j : Nat, j ≤ m ∧ i = .int .i64 j ∧ Below w.heap.size w wr) (fun i _ => m - (intOf i).toNat)
  case atStart => exact ⟨0, Nat.zero_le _, rfl, Below.refl _ _⟩
  case round =>
    obtain ⟨wA, hwA⟩ : ∃ x, x = wr := ⟨wr, rfl⟩
    subst hwA
    obtain ⟨j, hj, rfl, hb⟩ := hrel
    have HB := Lib.hid hb
    by_cases hlt : j < m
    · have hlt' : (j : Int) < (m : Int) := by omega
      obtain ⟨p, hp⟩ : ∃ p, l[j]? = some p := ⟨_, List.getElem?_eq_getElem (by rw [Hm.out]; exact hlt)⟩
      obtain ⟨c, o, rfl, -, hcl, hpa⟩ := hv.out.2 (by rw [Hm.out]; omega)
      obtain ⟨x0, x1, c0, c1, hp2⟩ := pas_at hpa hp
      obtain ⟨steps, joins⟩ := p
      obtain ⟨A1, cap1, J1, jc1, rfl, rfl, hc1, hjc1, hst, hjs⟩ := pa_open hp2
      obtain ⟨hok1', hokj⟩ := okL_mem hok.out hp
      obtain ⟨hsne, hjl, hsm1'⟩ := smL_mem hsm.out hp
      obtain ⟨-, htl⟩ := cntL_take hp
      have hctk := (cntL_take hp).1
      have hok1 := Lib.hid hok1'
      have hsm1 := Lib.hid hsm1'
      have hls := len_SS steps hsm1'
      replace c0 := (hb.cell (p := ⟨c, o + j * 2, none⟩) hcl).trans c0
      replace c1 := (hb.cell (p := ⟨c, o + j * 2 + 1, none⟩) hcl).trans c1
      replace hst := Lib.hid hst
      replace hjs := Lib.hid hjs
      replace hokj := Lib.hid hokj
      have hzr := hb.size
      have hcs : cntSS steps ≤ N + 1 ∧ cntSS steps ≤ 1000000 := by omega
      replace hcs := Lib.hid hcs
      have hs1 : 0 < steps.length := List.length_pos_iff.2 hsne
      obtain ⟨m1, hm1⟩ : ∃ m, steps.length = m := ⟨_, rfl⟩
      obtain ⟨mj, hmj⟩ : ∃ m, joins.length = m := ⟨_, rfl⟩
      rw [hm1] at hc1 c0 hls hst hs1 hjl
      rw [hmj] at hjc1 c1 hjs hjl
      have hle1 : m1 ≤ 1000000 := by have := hcs.out.2; omega
      have hz0 : ((m1 : Int) == 0) = false := by rw [beq_eq_false_iff_ne]; omega
      have hz1 : ((mj : Int) == (m1 : Int) - 1) = true := by rw [beq_iff_eq]; omega
      have hz1b : ((mj : Int) != (m1 : Int) - 1) = false := by rw [bne, hz1]; rfl
      have hz2 : (mj : Int) = (m1 : Int) - 1 := by omega
      have Hm1 := Lib.hid hm1
      have Hmj := Lib.hid hmj
      clear hb hp hp2 hpa hsm1' hok1' htl hctk hm1 hmj hls hz2
      go_wp2_with fail
      go_loopw [34] (fun i wr2 => ∃ q : Nat, q ≤ m1 ∧ i = .int .i64 q ∧ Below w.heap.size w wr2 ∧ wr2.cell? ⟨wA.heap.size, 1, none⟩ = some (.slice J1 mj jc1) ∧ wA.heap.size < wr2.heap.size) (fun i _ => m1 - (intOf i).toNat)
      case atStart => exact ⟨0, Nat.zero_le _, rfl, HB.out.alloc hzr _, (Blk.new rfl : Blk (wA.alloc (.cells #[.slice A1 m1 cap1, .slice J1 mj jc1] 36)) wA.heap.size _ _).cell 1, by rw [World.size_alloc]; exact Nat.lt_succ_self _⟩
      case round =>
        obtain ⟨wB, hwB⟩ : ∃ x, x = wr := ⟨wr, rfl⟩
        subst hwB
        obtain ⟨q, hq, rfl, hb, hjcell, hwlt⟩ := hrel
        have HB2 := Lib.hid hb
        have hzr2 := hb.size
        by_cases hlt2 : q < m1
        · have hlt2' : (q : Int) < (m1 : Int) := by omega
          obtain ⟨s, hs⟩ : ∃ s, steps[q]? = some s := ⟨_, List.getElem?_eq_getElem (by rw [Hm1.out]; exact hlt2)⟩
          obtain ⟨cb, ob, rfl, hcbl, hss⟩ := hst.out (by omega)
          obtain ⟨A2, cap2, s0, hsv⟩ := sss_at hss hs
          obtain ⟨htk, htl⟩ := cntSS_take hs
          obtain ⟨hok2', hs2n⟩ := okSS_mem hok1.out hs
          obtain ⟨-, hsm2'⟩ := smSS_mem hsm1.out hs
          have hok2 := Lib.hid hok2'
          have hsm2 := Lib.hid hsm2'
          replace s0 := (hb.cell (p := ⟨cb, ob + q, none⟩) hcbl).trans s0
          have hcS : cntS s ≤ N + 1 ∧ cntS s ≤ 1000000 := by have := hcs.out; omega
          replace hcS := Lib.hid hcS
          have hlS := len_S s
          have hc2 := hsv.1
          have hs2 : 0 < s.length := List.length_pos_iff.2 hs2n
          obtain ⟨m2, hm2⟩ : ∃ m, s.length = m := ⟨_, rfl⟩
          have hsv' := hsv.2
          rw [hm2] at hc2 s0 hsv' hs2 hlS
          have hle2 : m2 ≤ 1000000 := by have := hcS.out.2; omega
          have hz3 : ((m2 : Int) == 0) = false := by rw [beq_eq_false_iff_ne]; omega
          have hsvv := Lib.hid hsv'
          have Hm2 := Lib.hid hm2
          have HJ2 := Lib.hid hjcell
          clear hb hs hss hsm2' hok2' htk htl hm2 hlS hsv hsv' hjcell
          go_wp2_with fail
          go_loopw [40] (fun i wr3 => ∃ r : Nat, r ≤ m2 ∧ i = .int .i64 r ∧ Below w.heap.size w wr3 ∧ wr3.cell? ⟨wA.heap.size, 1, none⟩ = some (.slice J1 mj jc1) ∧ wA.heap.size < wr3.heap.size) (fun i _ => m2 - (intOf i).toNat)
          case atStart => exact ⟨0, Nat.zero_le _, rfl, HB2.out, HJ2.out, hwlt⟩
          case round =>
            obtain ⟨r, hr, rfl, hb, hjcell, hwlt3⟩ := hrel
            have HB3 := Lib.hid hb
            have HJ3 := Lib.hid hjcell
            have hzr3 := hb.size
            by_cases hlt3 : r < m2
            · have hlt3' : (r : Int) < (m2 : Int) := by omega
              obtain ⟨t, ht⟩ : ∃ t, s[r]? = some t := ⟨_, List.getElem?_eq_getElem (by rw [Hm2.out]; exact hlt3)⟩
              obtain ⟨cc, oc, rfl, -, hccl, hst3⟩ := hsvv.out (by omega)
              obtain ⟨xs, hxl, hxc, hta⟩ := ss_at hst3 ht
              obtain ⟨k, nn, op, vv, a, b, subs⟩ := t
              obtain ⟨sA, sc, rfl, hpv⟩ := ts_form hta
              obtain ⟨htk, htl⟩ := subS_take ht
              have hcs3 := cntS_sub s
              have hok3 := okS_mem hok2.out ht
              rw [Nat.zero_add] at hok3
              have hsm3 := smS_mem hsm2.out ht
              have t0 := (hb.cell (p := ⟨cc, oc + r * 7, none⟩) hccl).trans (hxc 0 (by decide))
              have t1 := (hb.cell (p := ⟨cc, oc + r * 7 + 1, none⟩) hccl).trans (hxc 1 (by decide))
              have t2 := (hb.cell (p := ⟨cc, oc + r * 7 + 2, none⟩) hccl).trans (hxc 2 (by decide))
              have t3 := (hb.cell (p := ⟨cc, oc + r * 7 + 3, none⟩) hccl).trans (hxc 3 (by decide))
              have t4 := (hb.cell (p := ⟨cc, oc + r * 7 + 4, none⟩) hccl).trans (hxc 4 (by decide))
              have t5 := (hb.cell (p := ⟨cc, oc + r * 7 + 5, none⟩) hccl).trans (hxc 5 (by decide))
              have t6 := (hb.cell (p := ⟨cc, oc + r * 7 + 6, none⟩) hccl).trans (hxc 6 (by decide))
              dsimp only [List.getElem?_cons_zero, List.getElem?_cons_succ] at t0 t1 t2 t3 t4 t5 t6
              have hsm4 := hsm3
              rw [SmT] at hsm4
              have hcS2 := hcS.out
              have cT := Lib.hid (fun (W : World) (hW : Below w.heap.size w W) => test_true r k nn op vv a b subs hok3 hsm3 sA sc W (HM.out.on hW HM.out.lt) (fun s0 s1 W' hW' hM' => IH.out subs (by rw [Hm2.out] at hcs3; omega) s1 s0 hsm4.2.2.2.2.2.2 sA sc X W' hM' (hpv.on (hW.trans (hW'.mono hW.size)))))
              have HBa := Lib.hid (HB3.out.alloc hzr3 (.cells #[.int .i64 k, .string (bs nn), .int .u8 (nv op), .string (bs vv), .int .i64 a, .int .i64 b, .slice sA subs.length sc] 26))
              have HBj := Lib.hid (show (wr.alloc (.cells #[.int .i64 k, .string (bs nn), .int .u8 (nv op), .string (bs vv), .int .i64 a, .int .i64 b, .slice sA subs.length sc] 26)).cell? ⟨wA.heap.size, 1, none⟩ = some (.slice J1 mj jc1) from (((Below.refl wr.heap.size wr).alloc (Nat.le_refl _) _).cell (p := ⟨wA.heap.size, 1, none⟩) hwlt3).trans HJ3.out)
              clear hb ht hst3 hxc hxl hta htk htl hcs3 hok3 hsm3 hsm4 hcS2 hpv hjcell
              go_wp2_with (go_at_call 42; (with_reducible refine (cT.out _ HBa.out).mono ?_); rintro e W4 ⟨rfl, hb4⟩; have HB4 := Lib.hid (HBa.out.trans (hb4.mono HBa.out.size)); have hz4 := hb4.size; rw [World.size_alloc] at hz4; have HJ4 := Lib.hid ((hb4.cell (p := ⟨wA.heap.size, 1, none⟩) (by rw [World.size_alloc]; dsimp only; omega)).trans HBj.out); clear hb4)
              go_roundw
              case rel => exact ⟨r + 1, by omega, by go_num, HB4.out, HJ4.out, by omega⟩
              case measure => simp [intOf]; omega
            · obtain rfl : r = m2 := by omega
              clear hlt3 hb hjcell
              go_wp2_with fail
              go_roundw
              case rel => exact ⟨q + 1, by omega, by go_num, HB3.out, HJ3.out, hwlt3⟩
              case measure => simp [intOf]; omega
        · obtain rfl : q = m1 := by omega
          have HJ2 := Lib.hid hjcell
          clear hlt2 hb
          go_wp2_with fail
          go_loopw [57] (fun i wr3 => ∃ r : Nat, r ≤ mj ∧ i = .int .i64 r ∧ Below w.heap.size w wr3) (fun i _ => mj - (intOf i).toNat)
          case atStart => exact ⟨0, Nat.zero_le _, rfl, HB2.out⟩
          case round =>
            obtain ⟨r, hr, rfl, hb⟩ := hrel
            have HB3 := Lib.hid hb
            by_cases hlt3 : r < mj
            · have hlt3' : (r : Int) < (mj : Int) := by omega
              obtain ⟨jc, hjc⟩ : ∃ c, joins[r]? = some c := ⟨_, List.getElem?_eq_getElem (by rw [Hmj.out]; exact hlt3)⟩
              obtain ⟨cd, od, rfl, hcdl, hjx⟩ := hjs.out (by omega)
              have j0 := (hb.cell (p := ⟨cd, od + r, none⟩) hcdl).trans (hjx r jc hjc)
              have hjo := List.all_eq_true.1 hokj.out jc (List.mem_of_getElem? hjc)
              have cI : ∀ w, Calls Tryz.prog 43 #[.string ⟨#[32, 62, 43, 126]⟩, .int .u8 (nv jc)] w fun e w' => e = .returned (.int .i64 (Lib.indexByte [32, 62, 43, 126] jc)) ∧ w = w' := fun w => jdx_ct jc w
              have hix : decide ((Lib.indexByte [32, 62, 43, 126] jc : Int) < 0) = false := by rw [decide_eq_false_iff_not]; exact joinOk_ne hjo
              obtain ⟨ix, hixe⟩ : ∃ ix : Int, (Lib.indexByte [32, 62, 43, 126] jc : Int) = ix := ⟨_, rfl⟩
              rw [hixe] at hix
              simp only [hixe] at cI
              replace cI := Lib.hid cI
              clear hixe hb hjx hjc hjo
              go_wp2_with (go_at_call 43; (with_reducible refine (cI.out _).mono ?_); rintro e W4 ⟨rfl, rfl⟩)
              go_roundw
              case rel => exact ⟨r + 1, by omega, by go_num, HB3.out⟩
              case measure => simp [intOf]; omega
            · obtain rfl : r = mj := by omega
              clear hlt3 hb
              go_wp2_with fail
              go_roundw
              case rel => exact ⟨j + 1, by omega, by go_num, HB3.out⟩
              case measure => simp [intOf]; omega
    · obtain rfl : j = m := by omega
      go_wp2_with fail
      go_ret
      exact ⟨rfl, HB.out⟩

theorem paths_all : ∀ N, N ≤ 1000000 → ∀ l, cntL l ≤ N → okL l = true → l ≠ [] → SmL l → PathsC l
  | 0, _, l, h, _, hne, hs => by
    have := len_L l hs
    have := List.length_pos_iff.2 hne
    omega
  | N + 1, hN, l, h, ho, hne, hs => paths_step N (fun l h0 h1 h3 h4 => paths_all N (by omega) l h0 h1 h3 h4) l h (by omega) ho hne hs

end Go.Proofs.YtaobpkffcolobaaGreatDoor.sel
