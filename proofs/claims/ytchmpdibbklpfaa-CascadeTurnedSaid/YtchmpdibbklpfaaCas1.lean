/- Contracts of the functions beneath the Cascade laws: rank, cmp.Compare, cmp.Or, compare, Less: each returns what its plain Lean twin computes, and changes nothing that was there. -/
import Derived.Test.YtchmpdibbklpfaaBase
namespace Go.Proofs.Ytchmpdibbklpfaa.cas
open Go.RowKit Go.Proofs.Ytchmpdibbklpfaa.base
attribute [local go_sem ↓] Go.wp_at_zero Go.wp_at_succ

/-- the plain twin of rank -/
def rankOf (o : Int) (imp : Bool) : Int := if imp then (if o = 1 then 3 else if o = 2 then 4 else 5) else o

set_option maxHeartbeats 400000 in
theorem rank_ct (nm vl : ByteArray) (o wt pl : Int) (imp : Bool) (w : World) :
    Calls Try.prog 33 #[.agg #[.string nm, .string vl, .int .i64 o, .bool imp, .int .i64 wt, .int .i64 pl]] w fun e w' => e = .returned (.int .i64 (rankOf o imp)) ∧ Below w.heap.size w w' := by
  cases imp
  · go_enter Try.func33, Try.ntmps33
    go_wp2
    go_ret
    exact ⟨rfl, (Below.refl _ _).alloc (Nat.le_refl _) _⟩
  · by_cases h1 : o = 1
    · subst h1
      go_enter Try.func33, Try.ntmps33
      go_wp2
      go_ret
      exact ⟨rfl, (Below.refl _ _).alloc (Nat.le_refl _) _⟩
    · by_cases h2 : o = 2
      · subst h2
        go_enter Try.func33, Try.ntmps33
        go_wp2
        go_ret
        exact ⟨rfl, (Below.refl _ _).alloc (Nat.le_refl _) _⟩
      · go_enter Try.func33, Try.ntmps33
        go_wp2
        go_ret
        exact ⟨by simp [rankOf, h1, h2], (Below.refl _ _).alloc (Nat.le_refl _) _⟩


/-- the plain twin of cmp.Compare at int -/
def cmpOf (a b : Int) : Int := if a < b then -1 else if b < a then 1 else 0

set_option maxHeartbeats 400000 in
theorem cmpc_ct (a b : Int) (w : World) :
    Calls Try.prog 32 #[.int .i64 a, .int .i64 b] w fun e w' => e = .returned (.int .i64 (cmpOf a b)) ∧ w = w' := by
  by_cases h : a < b
  · go_enter Try.func32, Try.ntmps32
    go_wp2
    go_ret
    exact ⟨by simp [cmpOf, h], rfl⟩
  · by_cases h2 : b < a
    · go_enter Try.func32, Try.ntmps32
      go_wp2
      go_ret
      exact ⟨by simp [cmpOf, h, h2], rfl⟩
    · have hf : cmpOf a b = 0 := by simp [cmpOf, h, h2]
      have Hf := Lib.hid hf
      clear hf
      go_enter Try.func32, Try.ntmps32
      go_wp2
      go_ret
      exact ⟨by rw [Hf.out]; rfl, rfl⟩

/-- the plain twin of cmp.Or of three -/
def or3 (a b c : Int) : Int := if a = 0 then (if b = 0 then c else b) else a

set_option maxHeartbeats 400000 in
theorem or_ct (a b c : Int) (k : Nat) (w : World) (h0 : w.cell? ⟨k, 0, none⟩ = some (.int .i64 a)) (h1 : w.cell? ⟨k, 1, none⟩ = some (.int .i64 b)) (h2 : w.cell? ⟨k, 2, none⟩ = some (.int .i64 c)) :
    Calls Try.prog 31 #[.slice (some ⟨k, 0, none⟩) 3 3] w fun e w' => e = .returned (.int .i64 (or3 a b c)) ∧ w = w' := by
  by_cases ha : a = 0
  · subst ha
    by_cases hb : b = 0
    · subst hb
      by_cases hc : c = 0
      · subst hc
        go_enter Try.func31, Try.ntmps31
        go_wp2
        refine wp_loop_rounds 4 ?_
        rw [rounds_succ]; go_wp2
        rw [rounds_succ]; go_wp2
        rw [rounds_succ]; go_wp2
        rw [rounds_succ]; go_wp2
        go_ret
        exact ⟨rfl, rfl⟩
      · have hc' : (c != 0) = true := by simp [hc]
        go_enter Try.func31, Try.ntmps31
        go_wp2
        refine wp_loop_rounds 4 ?_
        rw [rounds_succ]; go_wp2
        rw [rounds_succ]; go_wp2
        rw [rounds_succ]; go_wp2
        go_ret
        exact ⟨rfl, rfl⟩
    · have hb' : (b != 0) = true := by simp [hb]
      have Hf := Lib.hid (show or3 0 b c = b by simp [or3, hb])
      go_enter Try.func31, Try.ntmps31
      go_wp2
      refine wp_loop_rounds 4 ?_
      rw [rounds_succ]; go_wp2
      rw [rounds_succ]; go_wp2
      go_ret
      exact ⟨by rw [Hf.out]; rfl, rfl⟩
  · have ha' : (a != 0) = true := by simp [ha]
    have Hf := Lib.hid (show or3 a b c = a by simp [or3, ha])
    go_enter Try.func31, Try.ntmps31
    go_wp2
    refine wp_loop_rounds 4 ?_
    rw [rounds_succ]; go_wp2
    go_ret
    exact ⟨by rw [Hf.out]; rfl, rfl⟩

/-- six cells of a given value -/
def sg (nm vl : ByteArray) (o : Int) (imp : Bool) (wt pl : Int) : Value := .agg #[.string nm, .string vl, .int .i64 o, .bool imp, .int .i64 wt, .int .i64 pl]

/-- the plain twin of compare -/
def cmpG (o1 : Int) (i1 : Bool) (w1 p1 o2 : Int) (i2 : Bool) (w2 p2 : Int) : Int := or3 (cmpOf (rankOf o1 i1) (rankOf o2 i2)) (cmpOf w1 w2) (cmpOf p1 p2)

set_option maxHeartbeats 1000000 in
theorem compare_ct (n1 v1 : ByteArray) (o1 : Int) (i1 : Bool) (w1 p1 : Int) (n2 v2 : ByteArray) (o2 : Int) (i2 : Bool) (w2 p2 : Int) (w : World) :
    Calls Try.prog 22 #[.agg #[.string n1, .string v1, .int .i64 o1, .bool i1, .int .i64 w1, .int .i64 p1], .agg #[.string n2, .string v2, .int .i64 o2, .bool i2, .int .i64 w2, .int .i64 p2]] w
      fun e w' => e = .returned (.int .i64 (cmpG o1 i1 w1 p1 o2 i2 w2 p2)) ∧ Below w.heap.size w w' := by
  go_enter Try.func22, Try.ntmps22
  go_wp2_with fail
  generalize hW0 : (w.alloc (Obj.cells #[Value.string n1, Value.string v1, Value.int IntKind.i64 o1, Value.bool i1, Value.int IntKind.i64 w1, Value.int IntKind.i64 p1] 23)).alloc (Obj.cells #[Value.string n2, Value.string v2, Value.int IntKind.i64 o2, Value.bool i2, Value.int IntKind.i64 w2, Value.int IntKind.i64 p2] 23) = W0
  have HB := Lib.hid (show Below w.heap.size w W0 by subst hW0; exact ((Below.refl _ _).alloc (Nat.le_refl _) _).alloc (by simp) _)
  have HZ : w.heap.size + 2 ≤ W0.heap.size := by subst hW0; simp
  have c0 : W0.cell? ⟨w.heap.size, 0, none⟩ = some (.string n1) := by subst hW0; simp
  have c1 : W0.cell? ⟨w.heap.size, 1, none⟩ = some (.string v1) := by subst hW0; simp
  have c2 : W0.cell? ⟨w.heap.size, 2, none⟩ = some (.int .i64 o1) := by subst hW0; simp
  have c3 : W0.cell? ⟨w.heap.size, 3, none⟩ = some (.bool i1) := by subst hW0; simp
  have c4 : W0.cell? ⟨w.heap.size, 4, none⟩ = some (.int .i64 w1) := by subst hW0; simp
  have c5 : W0.cell? ⟨w.heap.size, 5, none⟩ = some (.int .i64 p1) := by subst hW0; simp
  have d0 : W0.cell? ⟨w.heap.size + 1, 0, none⟩ = some (.string n2) := by subst hW0; simp
  have d1 : W0.cell? ⟨w.heap.size + 1, 1, none⟩ = some (.string v2) := by subst hW0; simp
  have d2 : W0.cell? ⟨w.heap.size + 1, 2, none⟩ = some (.int .i64 o2) := by subst hW0; simp
  have d3 : W0.cell? ⟨w.heap.size + 1, 3, none⟩ = some (.bool i2) := by subst hW0; simp
  have d4 : W0.cell? ⟨w.heap.size + 1, 4, none⟩ = some (.int .i64 w2) := by subst hW0; simp
  have d5 : W0.cell? ⟨w.heap.size + 1, 5, none⟩ = some (.int .i64 p2) := by subst hW0; simp
  clear hW0
  go_region_held3 (fun w' => (∀ b o, b < w.heap.size + 2 → w'.cell? ⟨b, o, none⟩ = W0.cell? ⟨b, o, none⟩) ∧ Below (w.heap.size + 2) W0 w')
    (first | exact As.beg | assumption | exact As.on hb3 (by assumption) HZ | exact As.alloc (by assumption) HZ)
    (first
      | (go_at_call 33; refine (rank_ct _ _ _ _ _ _ _).mono ?_; rintro e w3 ⟨rfl, hb3⟩)
      | (go_at_call 32; refine (cmpc_ct _ _ _).mono ?_; rintro e w3 ⟨rfl, rfl⟩)
      | (go_at_call 31; refine (or_ct (cmpOf (rankOf o1 i1) (rankOf o2 i2)) (cmpOf w1 w2) (cmpOf p1 p2) _ _ ?_ ?_ ?_).mono ?_; (simp); (simp); (simp); rintro e w3 ⟨rfl, rfl⟩))
  go_wp2
  go_ret
  exact ⟨rfl, As.fin HB.out (by assumption) (by omega)⟩

/-- six cells, as a block -/
abbrev sgo (nm vl : ByteArray) (o : Int) (imp : Bool) (wt pl : Int) : Obj := .cells #[.string nm, .string vl, .int .i64 o, .bool imp, .int .i64 wt, .int .i64 pl] 23

set_option maxHeartbeats 1000000 in
theorem less_ct (n1 v1 : ByteArray) (o1 : Int) (i1 : Bool) (w1 p1 : Int) (n2 v2 : ByteArray) (o2 : Int) (i2 : Bool) (w2 p2 : Int) (w : World) :
    Calls Try.prog 13 #[.agg #[.string n1, .string v1, .int .i64 o1, .bool i1, .int .i64 w1, .int .i64 p1], .agg #[.string n2, .string v2, .int .i64 o2, .bool i2, .int .i64 w2, .int .i64 p2]] w
      fun e w' => e = .returned (.bool (decide (cmpG o1 i1 w1 p1 o2 i2 w2 p2 < 0))) ∧ Below w.heap.size w w' := by
  go_enter Try.func13, Try.ntmps13
  go_wp2_with fail
  refine (compare_ct _ _ _ _ _ _ _ _ _ _ _ _ _).mono ?_
  rintro e w3 ⟨rfl, hb3⟩
  go_wp2
  go_ret
  exact ⟨rfl, (((Below.refl _ _).alloc (Nat.le_refl _) _).alloc (by simp) _).trans (hb3.mono (by simp; omega))⟩

set_option maxHeartbeats 1000000 in
theorem own_ct (w : World) :
    Calls Try.prog 12 #[] w fun e w' => e = .returned (.bool true) ∧ Below w.heap.size w w' := by
  go_enter Try.func12, Try.ntmps12
  go_wp2_with fail
  refine (less_ct _ _ _ _ _ _ _ _ _ _ _ _ _).mono ?_
  rintro e w3 ⟨rfl, hb3⟩
  have e1 : (decide (cmpG 1 false 0 0 2 false 0 0 < 0)) = true := by decide
  rw [e1]
  clear e1
  go_wp2_with fail
  refine (less_ct _ _ _ _ _ _ _ _ _ _ _ _ _).mono ?_
  rintro e w4 ⟨rfl, hb4⟩
  have e1 : (decide (cmpG 1 true 0 0 2 false 0 0 < 0)) = false := by decide
  rw [e1]
  clear e1
  go_wp2
  go_ret
  exact ⟨rfl, hb3.trans (hb4.mono hb3.size)⟩

/-- the order, as a Bool -/
def lt (o1 : Int) (i1 : Bool) (w1 p1 o2 : Int) (i2 : Bool) (w2 p2 : Int) : Bool := decide (cmpG o1 i1 w1 p1 o2 i2 w2 p2 < 0)

theorem lt_eq (o1 : Int) (i1 : Bool) (w1 p1 o2 : Int) (i2 : Bool) (w2 p2 : Int) : lt o1 i1 w1 p1 o2 i2 w2 p2 =
    decide (rankOf o1 i1 < rankOf o2 i2 ∨ (rankOf o1 i1 = rankOf o2 i2 ∧ (w1 < w2 ∨ (w1 = w2 ∧ p1 < p2)))) := by
  unfold lt cmpG or3 cmpOf
  rw [decide_eq_decide]
  (repeat' split) <;> omega

theorem total (x1 : Int) (a1 : Bool) (x2 x3 y1 : Int) (b1 : Bool) (y2 y3 z1 : Int) (c1 : Bool) (z2 z3 : Int) :
    lt x1 a1 x2 x3 x1 a1 x2 x3 = false ∧
    (lt x1 a1 x2 x3 y1 b1 y2 y3 = true → lt y1 b1 y2 y3 x1 a1 x2 x3 = false) ∧
    (lt x1 a1 x2 x3 y1 b1 y2 y3 = true → lt y1 b1 y2 y3 z1 c1 z2 z3 = true → lt x1 a1 x2 x3 z1 c1 z2 z3 = true) ∧
    (lt x1 a1 x2 x3 y1 b1 y2 y3 = false → lt y1 b1 y2 y3 x1 a1 x2 x3 = false → lt x1 a1 x2 x3 z1 c1 z2 z3 = lt y1 b1 y2 y3 z1 c1 z2 z3 ∧ lt z1 c1 z2 z3 x1 a1 x2 x3 = lt z1 c1 z2 z3 y1 b1 y2 y3) := by
  simp only [lt_eq, decide_eq_true_eq, decide_eq_false_iff_not, decide_eq_decide]
  refine ⟨?_, ?_, ?_, ?_⟩ <;> omega

end Go.Proofs.Ytchmpdibbklpfaa.cas
