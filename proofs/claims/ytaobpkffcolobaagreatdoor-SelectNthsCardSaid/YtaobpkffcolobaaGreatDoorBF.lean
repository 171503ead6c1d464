/- Contracts and plain law, a bundle: SelU. -/
import Derived.Test.YtaobpkffcolobaaGreatDoorBE3
import Derived.Test.YtaobpkffcolobaaGreatDoorBD1

namespace Go.Proofs.YtaobpkffcolobaaGreatDoor.sel
open Go.RowKit Go.Proofs.YtaobpkffcolobaaGreatDoor.base Go.Proofs.YtaobpkffcolobaaGreatDoor.tok Go.Proofs.YtaobpkffcolobaaGreatDoor.rul
set_option linter.unusedVariables false

theorem pas_at {X : Nat → Prop} {w : World} {c : Nat} : ∀ {l : List Pa} {o i : Nat} {p : Pa}, PasAt X w c o l → l[i]? = some p → ∃ x0 x1, w.cell? ⟨c, o + i * 2, none⟩ = some x0 ∧ w.cell? ⟨c, o + i * 2 + 1, none⟩ = some x1 ∧ PaAt X w p [x0, x1]
  | [], o, i, p, h, hi => by cases hi
  | a :: l, o, 0, p, h, hi => by
    rw [PasAt] at h
    obtain ⟨⟨x0, x1, c0, c1, hp⟩, -⟩ := h
    obtain rfl := Option.some.inj hi
    exact ⟨x0, x1, by simpa using c0, by simpa using c1, hp⟩
  | a :: l, o, i + 1, p, h, hi => by
    rw [PasAt] at h
    obtain ⟨x0, x1, c0, c1, hp⟩ := pas_at h.2 (i := i) hi
    have e : o + 2 + i * 2 = o + (i + 1) * 2 := by omega
    rw [e] at c0 c1
    exact ⟨x0, x1, c0, c1, hp⟩
theorem sss_at {X : Nat → Prop} {w : World} {c : Nat} : ∀ {l : List (List Ts)} {o i : Nat} {s : List Ts}, SssAt X w c o l → l[i]? = some s → ∃ A cap, w.cell? ⟨c, o + i, none⟩ = some (.slice A s.length cap) ∧ SsV X w s A cap
  | [], o, i, s, h, hi => by cases hi
  | a :: l, o, 0, s, h, hi => by
    rw [SssAt] at h
    obtain ⟨⟨A, cap, c0, hc, hp⟩, -⟩ := h
    obtain rfl := Option.some.inj hi
    exact ⟨A, cap, by simpa using c0, hc, hp⟩
  | a :: l, o, i + 1, s, h, hi => by
    rw [SssAt] at h
    obtain ⟨A, cap, c0, hp⟩ := sss_at h.2 (i := i) hi
    rw [show o + 1 + i = o + (i + 1) by omega] at c0
    exact ⟨A, cap, c0, hp⟩
theorem ss_at {X : Nat → Prop} {w : World} {c : Nat} : ∀ {l : List Ts} {o i : Nat} {t : Ts}, SsAt X w c o l → l[i]? = some t → ∃ xs : List Value, xs.length = 7 ∧ (∀ j, j < 7 → w.cell? ⟨c, o + i * 7 + j, none⟩ = xs[j]?) ∧ TsAt X w t xs
  | [], o, i, s, h, hi => by cases hi
  | a :: l, o, 0, t, h, hi => by
    rw [SsAt] at h
    obtain ⟨⟨xs, hn, hx, ht⟩, -⟩ := h
    obtain rfl := Option.some.inj hi
    exact ⟨xs, hn, fun j hj => (by rw [Nat.zero_mul, Nat.add_zero]; exact hx j hj), ht⟩
  | a :: l, o, i + 1, t, h, hi => by
    rw [SsAt] at h
    obtain ⟨xs, hn, hx, ht⟩ := ss_at h.2 (i := i) hi
    refine ⟨xs, hn, fun j hj => ?_, ht⟩
    rw [show o + (i + 1) * 7 + j = o + 7 + i * 7 + j by omega]
    exact hx j hj
/-- a path found: where its steps and its joins lie -/
theorem pa_open {X : Nat → Prop} {w : World} {steps : List (List Ts)} {joins : Bs} {x0 x1 : Value} (h : PaAt X w (.mk steps joins) [x0, x1]) : ∃ A cap J jc, x0 = .slice A steps.length cap ∧ x1 = .slice J joins.length jc ∧ steps.length ≤ cap ∧ joins.length ≤ jc ∧
    (0 < steps.length → ∃ c o, A = some ⟨c, o, none⟩ ∧ c < w.heap.size ∧ SssAt X w c o steps) ∧ (0 < joins.length → ∃ c o, J = some ⟨c, o, none⟩ ∧ c < w.heap.size ∧ ∀ (i : Nat) (x : UInt8), joins[i]? = some x → w.cell? ⟨c, o + i, none⟩ = some (.int .u8 (nv x))) := by
  rw [PaAt] at h
  obtain ⟨A, cap, v, e, hc, hj, hs⟩ := h
  obtain ⟨B, d, rfl, hd, hb⟩ := hj
  simp only [List.cons.injEq, and_true] at e
  refine ⟨A, cap, B, d, e.1, e.2, hc, hd, fun h0 => ?_, fun h0 => ?_⟩
  · obtain ⟨c, o, h1, -, h2, h3⟩ := hs h0
    exact ⟨c, o, h1, h2, h3⟩
  · obtain ⟨c, o, h1, -, h2, h3⟩ := hb h0
    exact ⟨c, o, h1, h2, h3⟩
/-- what lies below stays -/
def anyB (c : Nat) : Prop := True
theorem PasV.on {X : Nat → Prop} {w w' : World} {l : List Pa} {A : Option Addr} {cap : Nat} (h : PasV X w l A cap) (hb : Below w.heap.size w w') : PasV X w' l A cap := h.keep hb.size (fun c hc hl => ⟨hc, hb.block c hl⟩)
/-- how many tests lie in the lists of these -/
def subS : List Ts → Nat
  | [] => 0
  | .mk _ _ _ _ _ _ subs :: l => cntL subs + subS l
theorem cntS_sub : ∀ l : List Ts, cntS l = l.length + subS l
  | [] => by rw [cntS, subS]; rfl
  | .mk k n op v a b subs :: l => by
    rw [cntS, cntT, subS, cntS_sub l, List.length_cons]
    omega
theorem subS_take {l : List Ts} {i : Nat} {k : Int} {n : Bs} {op : UInt8} {v : Bs} {a b : Int} {subs : List Pa} (h : l[i]? = some (.mk k n op v a b subs)) : subS (l.take (i + 1)) = subS (l.take i) + cntL subs ∧ subS (l.take (i + 1)) ≤ subS l := by
  induction l generalizing i with
  | nil => cases h
  | cons x l ih =>
    obtain ⟨k', n', op', v', a', b', subs'⟩ := x
    cases i with
    | zero =>
      obtain ⟨rfl, rfl, rfl, rfl, rfl, rfl, rfl⟩ := Ts.mk.inj (Option.some.inj h)
      simp only [List.take_succ_cons, List.take_zero, subS]
      omega
    | succ i =>
      have := ih (i := i) h
      simp only [List.take_succ_cons, subS]
      omega
theorem cntSS_take {l : List (List Ts)} {i : Nat} {s : List Ts} (h : l[i]? = some s) : cntSS (l.take (i + 1)) = cntSS (l.take i) + cntS s ∧ cntSS (l.take (i + 1)) ≤ cntSS l := by
  induction l generalizing i with
  | nil => cases h
  | cons x l ih =>
    cases i with
    | zero =>
      obtain rfl := Option.some.inj h
      simp only [List.take_succ_cons, List.take_zero, cntSS]
      omega
    | succ i =>
      have := ih (i := i) h
      simp only [List.take_succ_cons, cntSS]
      omega
theorem cntL_take {l : List Pa} {i : Nat} {steps : List (List Ts)} {joins : Bs} (h : l[i]? = some (.mk steps joins)) : cntL (l.take (i + 1)) = cntL (l.take i) + cntSS steps ∧ cntL (l.take (i + 1)) ≤ cntL l := by
  induction l generalizing i with
  | nil => cases h
  | cons x l ih =>
    cases i with
    | zero =>
      obtain rfl := Option.some.inj h
      simp only [List.take_succ_cons, List.take_zero, cntL, cntP]
      omega
    | succ i =>
      have := ih (i := i) h
      simp only [List.take_succ_cons, cntL]
      omega
theorem deepL_mem {d : Nat} {l : List Pa} (h : deepL d l = true) {i : Nat} {steps : List (List Ts)} {joins : Bs} (hi : l[i]? = some (.mk steps joins)) : deepSS d steps = true := by
  induction l generalizing i with
  | nil => cases hi
  | cons x l ih =>
    rw [deepL, Bool.and_eq_true] at h
    cases i with
    | zero =>
      obtain rfl := Option.some.inj hi
      have := h.1
      rw [deepP] at this
      exact this
    | succ i => exact ih h.2 hi
theorem deepSS_mem {d : Nat} {l : List (List Ts)} (h : deepSS d l = true) {i : Nat} {s : List Ts} (hi : l[i]? = some s) : deepS d s = true := by
  induction l generalizing i with
  | nil => cases hi
  | cons x l ih =>
    rw [deepSS, Bool.and_eq_true] at h
    cases i with
    | zero =>
      obtain rfl := Option.some.inj hi
      exact h.1
    | succ i => exact ih h.2 hi
theorem deepS_mem {d : Nat} {l : List Ts} (h : deepS d l = true) {i : Nat} {k : Int} {n : Bs} {op : UInt8} {v : Bs} {a b : Int} {subs : List Pa} (hi : l[i]? = some (.mk k n op v a b subs)) : subs = [] ∨ ∃ e, d = e + 1 ∧ deepL e subs = true := by
  induction l generalizing i with
  | nil => cases hi
  | cons x l ih =>
    rw [deepS, Bool.and_eq_true] at h
    cases i with
    | zero =>
      obtain rfl := Option.some.inj hi
      have h1 := h.1
      rw [deepT.eq_def] at h1
      simp only at h1
      cases subs with
      | nil => exact .inl rfl
      | cons p r =>
        cases d with
        | zero => cases h1
        | succ e =>
          refine .inr ⟨e, rfl, ?_⟩
          rw [deepL]
          exact h1
    | succ i => exact ih h.2 hi
theorem smL_mem {l : List Pa} (h : SmL l) {i : Nat} {steps : List (List Ts)} {joins : Bs} (hi : l[i]? = some (.mk steps joins)) : steps ≠ [] ∧ joins.length + 1 = steps.length ∧ SmSS steps := by
  induction l generalizing i with
  | nil => cases hi
  | cons x l ih =>
    rw [SmL] at h
    cases i with
    | zero =>
      obtain rfl := Option.some.inj hi
      have := h.1
      rw [SmP] at this
      exact this
    | succ i => exact ih h.2 hi
theorem smSS_mem {l : List (List Ts)} (h : SmSS l) {i : Nat} {s : List Ts} (hi : l[i]? = some s) : s ≠ [] ∧ SmS s := by
  induction l generalizing i with
  | nil => cases hi
  | cons x l ih =>
    rw [SmSS] at h
    cases i with
    | zero =>
      obtain rfl := Option.some.inj hi
      exact ⟨h.1, h.2.1⟩
    | succ i => exact ih h.2.2 hi
theorem smS_mem {l : List Ts} (h : SmS l) {i : Nat} {t : Ts} (hi : l[i]? = some t) : SmT t := by
  induction l generalizing i with
  | nil => cases hi
  | cons x l ih =>
    rw [SmS] at h
    cases i with
    | zero =>
      obtain rfl := Option.some.inj hi
      exact h.1
    | succ i => exact ih h.2 hi
def TestsC (d : Nat) : Prop := ∀ (l : List Pa) (A : Option Addr) (cap : Nat) (X : Nat → Prop) (w : World) (D : Int), D + d = 3 → 0 ≤ D → deepL d l = true → cntL l ≤ 40 → SmL l → PasV X w l A cap →
  Calls Tryz.prog 23 #[.slice A l.length cap, .int .i64 D] w fun e w' => e = .returned (.tuple #[.int .i64 (cntL l), .bool true]) ∧ Below w.heap.size w w'

set_option maxRecDepth 100000 in
set_option maxHeartbeats 16000000 in
theorem tests_step (d : Nat) (IH : ∀ e, d = e + 1 → TestsC e) : TestsC d := by
  intro l A cap X w D hD hD0 hdp hc40 hsm hv
  have hll := len_L l hsm
  obtain ⟨m, hm⟩ : ∃ m, l.length = m := ⟨_, rfl⟩
  have hv0 := hv
  rw [hm] at hll ⊢
  obtain ⟨T, hT⟩ : ∃ T, cntL l = T := ⟨_, rfl⟩
  rw [hT] at hc40 ⊢ hll
  have HT := Lib.hid hT
  have hcap : m ≤ cap := hm ▸ hv.1
  have Hm := Lib.hid hm
  replace hv := Lib.hid hv
  replace hdp := Lib.hid hdp
  replace hsm := Lib.hid hsm
  replace IH := Lib.hid IH
  clear hv0 hm hT
  go_enter Tryz.func23, Tryz.ntmps23
  go_wp2_with fail
  go_loopw [6, 17] (fun n i wr => ∃ j N : Nat, j ≤ m ∧ i = .int .i64 j ∧ n = .int .i64 N ∧ N = cntL (l.take j) ∧ Below w.heap.size w wr) (fun _ i _ => m - (intOf i).toNat)
  case atStart => exact ⟨0, 0, Nat.zero_le _, rfl, rfl, by rw [List.take_zero, cntL], Below.refl _ _⟩
  case round =>
    obtain ⟨j, N, hj, rfl, rfl, hN, hb⟩ := hrel
    have HB := Lib.hid hb
    by_cases hlt : j < m
    · have hlt' : (j : Int) < (m : Int) := by omega
      obtain ⟨p, hp⟩ : ∃ p, l[j]? = some p := ⟨_, List.getElem?_eq_getElem (by rw [Hm.out]; exact hlt)⟩
      obtain ⟨c, o, rfl, -, hcl, hpa⟩ := hv.out.2 (by rw [Hm.out]; omega)
      obtain ⟨x0, x1, c0, c1, hp2⟩ := pas_at hpa hp
      obtain ⟨steps, joins⟩ := p
      obtain ⟨A1, cap1, J1, jc1, rfl, rfl, hc1, -, hst, -⟩ := pa_open hp2
      obtain ⟨htk, htl⟩ := cntL_take hp
      have hdp1 := Lib.hid (deepL_mem hdp.out hp)
      obtain ⟨-, -, hsm1'⟩ := smL_mem hsm.out hp
      have hsm1 := Lib.hid hsm1'
      have hls := len_SS steps hsm1'
      replace c0 := (hb.cell (p := ⟨c, o + j * 2, none⟩) hcl).trans c0
      replace c1 := (hb.cell (p := ⟨c, o + j * 2 + 1, none⟩) hcl).trans c1
      rw [HT.out] at htl
      replace hst := Lib.hid hst
      have hN40 : N + cntSS steps ≤ T := by omega
      have HN := Lib.hid (show cntL (l.take (j + 1)) = N + cntSS steps by omega)
      have hzr := hb.size
      obtain ⟨m1, hm1⟩ : ∃ m, steps.length = m := ⟨_, rfl⟩
      rw [hm1] at hc1 c0 hls hst
      have Hm1 := Lib.hid hm1
      clear hb hp hp2 hpa hsm1' htk htl hN hm1
      go_wp2_with fail
      go_loopw [6, 24] (fun n i wr2 => ∃ q N2 : Nat, q ≤ m1 ∧ i = .int .i64 q ∧ n = .int .i64 N2 ∧ N2 = N + cntSS (steps.take q) ∧ Below w.heap.size w wr2) (fun _ i _ => m1 - (intOf i).toNat)
      case atStart => exact ⟨0, N, Nat.zero_le _, rfl, rfl, by rw [List.take_zero, cntSS]; rfl, HB.out.alloc hzr _⟩
      case round =>
        obtain ⟨q, N2, hq, rfl, rfl, hN2, hb⟩ := hrel
        have HB2 := Lib.hid hb
        by_cases hlt2 : q < m1
        · have hlt2' : (q : Int) < (m1 : Int) := by omega
          obtain ⟨s, hs⟩ : ∃ s, steps[q]? = some s := ⟨_, List.getElem?_eq_getElem (by rw [Hm1.out]; exact hlt2)⟩
          obtain ⟨cb, ob, rfl, hcbl, hss⟩ := hst.out (by omega)
          obtain ⟨A2, cap2, s0, hsv⟩ := sss_at hss hs
          obtain ⟨htk, htl⟩ := cntSS_take hs
          have hdp2 := Lib.hid (deepSS_mem hdp1.out hs)
          obtain ⟨-, hsm2'⟩ := smSS_mem hsm1.out hs
          have hsm2 := Lib.hid hsm2'
          replace s0 := (hb.cell (p := ⟨cb, ob + q, none⟩) hcbl).trans s0
          have hcs := cntS_sub s
          have hN41 : N2 + s.length + subS s ≤ T := by omega
          have HN2 := Lib.hid (show N + cntSS (steps.take (q + 1)) = N2 + s.length + subS s by omega)
          have hzr2 := hb.size
          have hc2 := hsv.1
          obtain ⟨m2, hm2⟩ : ∃ m, s.length = m := ⟨_, rfl⟩
          have hsv' := hsv.2
          rw [hm2] at hc2 s0 hN41 hsv'
          have hsvv := Lib.hid hsv'
          have Hm2 := Lib.hid hm2
          clear hb hs hss hsm2' htk htl hN2 hm2 hcs hsv hsv'
          go_wp2_with fail
          go_loopw [6, 34] (fun n i wr3 => ∃ r N3 : Nat, r ≤ m2 ∧ i = .int .i64 r ∧ n = .int .i64 N3 ∧ N3 = N2 + m2 + subS (s.take r) ∧ Below w.heap.size w wr3) (fun _ i _ => m2 - (intOf i).toNat)
          case atStart => exact ⟨0, N2 + m2, Nat.zero_le _, rfl, by simp, by rw [List.take_zero, subS]; rfl, HB2.out⟩
          case round =>
            obtain ⟨r, N3, hr, rfl, rfl, hN3, hb⟩ := hrel
            have HB3 := Lib.hid hb
            by_cases hlt3 : r < m2
            · have hlt3' : (r : Int) < (m2 : Int) := by omega
              obtain ⟨t, ht⟩ : ∃ t, s[r]? = some t := ⟨_, List.getElem?_eq_getElem (by rw [Hm2.out]; exact hlt3)⟩
              obtain ⟨cc, oc, rfl, -, hccl, hst3⟩ := hsvv.out (by omega)
              obtain ⟨xs, hxl, hxc, hta⟩ := ss_at hst3 ht
              obtain ⟨k, nn, op, vv, a, b, subs⟩ := t
              obtain ⟨sA, sc, rfl, hpv⟩ := ts_form hta
              obtain ⟨htk, htl⟩ := subS_take ht
              have hdp3 := deepS_mem hdp2.out ht
              have hsm3 := smS_mem hsm2.out ht
              have t0 := (hb.cell (p := ⟨cc, oc + r * 7, none⟩) hccl).trans (hxc 0 (by decide))
              have t1 := (hb.cell (p := ⟨cc, oc + r * 7 + 1, none⟩) hccl).trans (hxc 1 (by decide))
              have t2 := (hb.cell (p := ⟨cc, oc + r * 7 + 2, none⟩) hccl).trans (hxc 2 (by decide))
              have t3 := (hb.cell (p := ⟨cc, oc + r * 7 + 3, none⟩) hccl).trans (hxc 3 (by decide))
              have t4 := (hb.cell (p := ⟨cc, oc + r * 7 + 4, none⟩) hccl).trans (hxc 4 (by decide))
              have t5 := (hb.cell (p := ⟨cc, oc + r * 7 + 5, none⟩) hccl).trans (hxc 5 (by decide))
              have t6 := (hb.cell (p := ⟨cc, oc + r * 7 + 6, none⟩) hccl).trans (hxc 6 (by decide))
              dsimp only [List.getElem?_cons_zero, List.getElem?_cons_succ] at t0 t1 t2 t3 t4 t5 t6
              have hN42 : N3 + cntL subs ≤ T := by omega
              have HN3 := Lib.hid (show N2 + m2 + subS (s.take (r + 1)) = N3 + cntL subs by omega)
              have hzr3 := hb.size
              clear hb ht hst3 hxc hxl hta htk htl hN3
              rcases (show subs = [] ∨ (subs ≠ [] ∧ ∃ e, d = e + 1 ∧ deepL e subs = true) from by
                by_cases h : subs = []
                · exact .inl h
                · exact .inr ⟨h, hdp3.resolve_left h⟩) with rfl | ⟨hne, e, hde, hde2⟩
              · have HN4 := HN3.out
                rw [cntL_nil] at HN4
                clear hN42 hpv hsm3 hdp3
                replace HN4 := Lib.hid HN4
                simp only [List.length_nil] at t6
                go_wp2_with fail
                go_roundw
                case rel => exact ⟨r + 1, N3, by omega, by go_num, rfl, HN4.out.symm, HB3.out.alloc hzr3 _⟩
                case measure => simp [intOf]; omega
              · rw [SmT] at hsm3
                obtain ⟨C, hC⟩ : ∃ C, cntL subs = C := ⟨_, rfl⟩
                have cT := fun w hv => IH.out e hde subs sA sc X w (D + 1) (by omega) (by omega) hde2 (by omega) hsm3.2.2.2.2.2.2 hv
                rw [hC] at cT hN42 HN3
                have hpo := Lib.hid (hpv.on (HB3.out.alloc hzr3 (.cells #[.int .i64 k, .string (bs nn), .int .u8 (nv op), .string (bs vv), .int .i64 a, .int .i64 b, .slice sA subs.length sc] 26)))
                have hD2 : D ≤ 2 := by omega
                have h0 : ((subs.length : Int) == 0) = false := by rw [beq_eq_false_iff_ne]; have := List.length_pos_iff.2 hne; omega
                have h3 : decide ((3 : Int) ≤ D) = false := by rw [decide_eq_false_iff_not]; omega
                have h40 : decide ((40 : Int) < (N3 : Int) + (C : Int)) = false := by rw [decide_eq_false_iff_not]; omega
                replace cT := Lib.hid cT
                replace HN3 := Lib.hid HN3.out
                clear hdp3 hne hde hde2 hsm3 hpv hC
                go_wp2_with (go_at_call 23; (with_reducible refine (cT.out _ hpo.out).mono ?_); rintro e W4 ⟨rfl, hb4⟩; have HB4 := Lib.hid ((HB3.out.alloc hzr3 (.cells #[.int .i64 k, .string (bs nn), .int .u8 (nv op), .string (bs vv), .int .i64 a, .int .i64 b, .slice sA subs.length sc] 26)).trans (hb4.mono (by rw [World.size_alloc]; omega))); clear hb4)
                go_roundw
                case rel => exact ⟨r + 1, N3 + C, by omega, by go_num, by simp, HN3.out.symm, HB4.out⟩
                case measure => simp [intOf]; omega
            · obtain rfl : r = m2 := by omega
              have hN5 := hN3
              rw [List.take_of_length_le (by rw [Hm2.out]; exact Nat.le_refl _)] at hN5
              clear hN3 hlt3
              go_wp2_with fail
              go_roundw
              case rel => exact ⟨q + 1, N3, by omega, by go_num, rfl, by rw [HN2.out, Hm2.out]; exact hN5, HB3.out⟩
              case measure => simp [intOf]; omega
        · obtain rfl : q = m1 := by omega
          have hN5 := hN2
          rw [List.take_of_length_le (by rw [Hm1.out]; exact Nat.le_refl _)] at hN5
          clear hN2 hlt2
          go_wp2_with fail
          go_roundw
          case rel => exact ⟨j + 1, N2, by omega, by go_num, rfl, by rw [HN.out]; exact hN5, HB2.out⟩
          case measure => simp [intOf]; omega
    · obtain rfl : j = m := by omega
      rw [List.take_of_length_le (by rw [Hm.out]; exact Nat.le_refl _), HT.out] at hN
      subst hN
      clear HT
      have h40 : decide ((N : Int) ≤ 40) = true := by rw [decide_eq_true_eq]; omega
      go_wp2_with fail
      exact bodyPost_ret (v := .tuple #[.int .i64 N, .bool true]) (by simp [results, Tryz.results23, go_sem]) rfl ⟨rfl, HB.out⟩

end Go.Proofs.YtaobpkffcolobaaGreatDoor.sel
