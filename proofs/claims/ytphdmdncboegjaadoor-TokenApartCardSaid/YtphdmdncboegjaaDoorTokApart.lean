/- TokenApart: for every two strings the call returns true, and all that was there reads as before. The package-level variables that its row lists start as the program's text lays them (the card ties them). -/
import Derived.Test.YtphdmdncboegjaaDoorTokSame
import Derived.Test.YtphdmdncboegjaaDoorTokL5
import Derived.Test.YtphdmdncboegjaaDoorDoor
import Derived.Test.YtphdmdncboegjaaDoorTie
import Derived.Test.YtphdmdncboegjaaDoorCards
namespace Go.Proofs.YtphdmdncboegjaaDoor.tok.apart
open Go.RowKit Go.Proofs.YtphdmdncboegjaaDoor.base Go.Proofs.YtphdmdncboegjaaDoor.tok Go.ChangeShapes Go.WideShapes Go.ChangeAt
set_option linter.unusedVariables false

theorem row_at {w : World} {base : Nat} {e : TypeId} {size : Nat} {v : Value} {n : Nat} {xs : List Value} (h : w.ownsRow base e size v n xs) (h0 : 0 < n) : ∃ g cap, v = .slice (some ⟨g, 0, none⟩) n cap ∧ base ≤ g ∧ g < w.heap.size := by
  rcases h.2 with ⟨rfl, rfl⟩ | ⟨g, cap, cur, rfl, _⟩
  · omega
  · have := h.lt g rfl
    exact ⟨g, cap, rfl, this.1, this.2⟩
theorem row_ne {w : World} {base : Nat} {e : TypeId} {size : Nat} {v : Value} {n : Nat} {xs : List Value} (h : w.ownsRow base e size v n xs) {b : Nat} (hb : b < base) : some b ≠ v.ownBlock := fun e1 => by
  have := (h.lt b e1.symm).1
  omega

/-- the tokens of a row of the call's own, where they lie -/
theorem row_news {w : World} {base cap : Nat} {A : Option Addr} {n : Nat} {L : List Tk} (h : w.ownsRow base 28 4 (.slice A n cap) n (flatR tcells L)) (hn : L.length = n) (h0 : 0 < n) : ∃ g, A = some ⟨g, 0, none⟩ ∧ base ≤ g ∧ g < w.heap.size ∧ (∀ j u, (flatR tcells L)[j]? = some u → w.cell? ((⟨g, 0, none⟩ : Addr).add j) = some u) ∧ ∀ i d, L[i]? = some d → ∀ j, j < 4 → w.cell? ⟨g, i * 4 + j, none⟩ = (tcells d)[j]? := by
  subst hn
  obtain ⟨g, cp, hv, hb, hg⟩ := row_at h h0
  have hv' : A = some ⟨g, 0, none⟩ ∧ cap = cp := by
    injection hv with h1 h2 h3
    exact ⟨h1, h3⟩
  obtain ⟨rfl, rfl⟩ := hv'
  refine ⟨g, rfl, hb, hg, fun j u hj => ?_, fun i d hd j hj => ?_⟩
  · have hlt := (List.getElem?_eq_some_iff.1 hj).1
    rw [flatR_len tcells_len] at hlt
    have := h.cellAt j hlt
    rw [add_zero_block, this, hj]
  · have hil := (List.getElem?_eq_some_iff.1 hd).1
    have hlt : i * 4 + j < L.length * 4 := by omega
    exact (h.cellAt (i * 4 + j) hlt).trans (flatR_at tcells_len hd j hj)

/-- what the walk needs to know of the two texts -/
theorem apart_law {l m : Bs} {a u : Tk} {LA LB : List Tk} (hA : cutP l = LA ++ [a]) (hB : cutP m = u :: LB) (h6 : ¬ a.k = 6) (h9 : ¬ a.k = 9) (h8 : ¬ a.k = 8) (hu : ¬ u.k = 8) :
    cutP (l ++ 32 :: m) = LA ++ [a] ++ [⟨8, [32], [], 0⟩] ++ (u :: LB) := by
  have hl : l ≠ [] := fun e => by
    rw [e, cutP_nil] at hA
    simp at hA
  have hm : m ≠ [] := fun e => by
    rw [e, cutP_nil] at hB
    simp at hB
  have hf : firstP m = u := by
    rw [cutP_cons hm] at hB
    exact (List.cons.inj hB).1
  rw [cut_apart m _ l (Nat.le_refl _) hl (fun t ht => by
    rw [hA] at ht
    obtain rfl : a = t := by simpa using ht
    exact ⟨h6, h9, h8⟩), cut_blank hm (by rw [hf]; exact hu), hA, hB]
  simp

theorem join_list (l m : Bs) : (bs l ++ ⟨#[32]⟩ ++ bs m).data.toList = l ++ 32 :: m := by simp [bs]
theorem join_size (l m : Bs) : (bs l ++ ⟨#[32]⟩ ++ bs m).size = l.length + 1 + m.length := by
  rw [Lib.size_eq, join_list]
  simp
  omega

/-- one of its own rows, in the world behind -/
theorem cut_own (X : ByteArray) (L : List Tk) (n : Nat) (hX : cutP X.data.toList = L) (hn : L.length = n) (hs : X.size < 4294967281) (w : World) (hm : MaxL w) :
    Calls Tryd.prog 16 #[.string X] w fun e w' => (∃ A cap, e = .returned (.slice A n cap) ∧ w'.ownsRow w.heap.size 28 4 (.slice A n cap) n (flatR tcells L)) ∧ Below w.heap.size w w' :=
  (cut_row X hs w hm).mono fun e w' ⟨⟨v, he, hr⟩, hb⟩ => by
    subst hX
    subst hn
    obtain ⟨A, cap, rfl⟩ := row_form hr
    exact ⟨⟨A, cap, he, hr⟩, hb⟩

set_option maxRecDepth 100000 in
set_option maxHeartbeats 4000000 in
theorem none_ct (ls lt : Bs) (s t : ByteArray) (w : World) (hm : MaxL w) (h1 : ls.length ≤ 300) (h2 : lt.length ≤ 300) (cS : ∀ w, Calls Tryd.prog 17 #[.string s, .int .i64 300] w fun e w' => e = .returned (.string (bs ls)) ∧ w = w') (cT : ∀ w, Calls Tryd.prog 17 #[.string t, .int .i64 300] w fun e w' => e = .returned (.string (bs lt)) ∧ w = w') (LB : List Tk) (hA : cutP ls = []) (hB : cutP lt = LB) :
    Calls Tryd.prog 4 #[.string s, .string t] w fun e w' => e = .returned (.bool true) ∧ Below w.heap.size w w' := by
  obtain ⟨na, hna⟩ : ∃ n, ([] : List Tk).length = n := ⟨_, rfl⟩
  obtain ⟨nb, hnb⟩ : ∃ n, (LB).length = n := ⟨_, rfl⟩
  have cA := fun w hm => cut_own (bs ls) _ na hA hna (by show ls.length < _; omega) w hm
  have cB := fun w hm => cut_own (bs lt) _ nb hB hnb (by show lt.length < _; omega) w hm
  have lA := cut_few ls
  have lB := cut_few lt
  rw [hA, hna] at lA
  rw [hB, hnb] at lB
  replace cA := Lib.hid cA
  replace cB := Lib.hid cB
  replace cS := Lib.hid cS
  replace cT := Lib.hid cT
  obtain rfl : na = 0 := hna.symm
  go_enter Tryd.func4, Tryd.ntmps4
  go_wp2_with ((go_at_call 15; (with_reducible refine (cutFact_ct _ hm).mono ?_); rintro e W1 ⟨rfl, hb1⟩))
  have hm1 := Lib.hid (hm.on hb1 hm.lt)
  have HB1 := Lib.hid hb1
  clear hb1
  go_wp2_with (first | (go_at_call 17; (with_reducible refine (cS.out _).mono ?_); rintro e w2 ⟨rfl, rfl⟩) | (go_at_call 16; (with_reducible refine (cA.out _ hm1.out).mono ?_); rintro e W2 ⟨⟨A, ca, rfl, hra⟩, hb2⟩; have HB2 := Lib.hid (HB1.out.trans (hb2.mono HB1.out.size)); have HRA := Lib.hid hra; have hm2 := Lib.hid (hm1.out.on hb2 hm1.out.lt); clear hb2 hra))
  go_wp2_with (first | (go_at_call 17; (with_reducible refine (cT.out _).mono ?_); rintro e w2 ⟨rfl, rfl⟩) | (go_at_call 16; (with_reducible refine (cB.out _ hm2.out).mono ?_); rintro e W3 ⟨⟨B, cb, rfl, hrb⟩, hb3⟩; have HB3 := Lib.hid (HB2.out.trans (hb3.mono HB2.out.size)); have HRB := Lib.hid hrb; have HRA3 := Lib.hid (row_on HRA.out hb3); have hm3 := Lib.hid (hm2.out.on hb3 hm2.out.lt); clear hb3 hrb))
  go_wp2
  go_ret
  exact ⟨rfl, HB3.out⟩

set_option maxRecDepth 100000 in
set_option maxHeartbeats 4000000 in
theorem none2_ct (ls lt : Bs) (s t : ByteArray) (w : World) (hm : MaxL w) (h1 : ls.length ≤ 300) (h2 : lt.length ≤ 300) (cS : ∀ w, Calls Tryd.prog 17 #[.string s, .int .i64 300] w fun e w' => e = .returned (.string (bs ls)) ∧ w = w') (cT : ∀ w, Calls Tryd.prog 17 #[.string t, .int .i64 300] w fun e w' => e = .returned (.string (bs lt)) ∧ w = w') (a : Tk) (LA : List Tk) (hA : cutP ls = a :: LA) (hB : cutP lt = []) :
    Calls Tryd.prog 4 #[.string s, .string t] w fun e w' => e = .returned (.bool true) ∧ Below w.heap.size w w' := by
  obtain ⟨na, hna⟩ : ∃ n, (a :: LA).length = n := ⟨_, rfl⟩
  obtain ⟨nb, hnb⟩ : ∃ n, ([] : List Tk).length = n := ⟨_, rfl⟩
  have cA := fun w hm => cut_own (bs ls) _ na hA hna (by show ls.length < _; omega) w hm
  have cB := fun w hm => cut_own (bs lt) _ nb hB hnb (by show lt.length < _; omega) w hm
  have lA := cut_few ls
  have lB := cut_few lt
  rw [hA, hna] at lA
  rw [hB, hnb] at lB
  replace cA := Lib.hid cA
  replace cB := Lib.hid cB
  replace cS := Lib.hid cS
  replace cT := Lib.hid cT
  obtain rfl : nb = 0 := hnb.symm
  have hna0 : 0 < na := by
    rw [← hna]
    simp
  have a1 : ((na : Int) == 0) = false := by
    rw [beq_eq_false_iff_ne]
    omega
  go_enter Tryd.func4, Tryd.ntmps4
  go_wp2_with ((go_at_call 15; (with_reducible refine (cutFact_ct _ hm).mono ?_); rintro e W1 ⟨rfl, hb1⟩))
  have hm1 := Lib.hid (hm.on hb1 hm.lt)
  have HB1 := Lib.hid hb1
  clear hb1
  go_wp2_with (first | (go_at_call 17; (with_reducible refine (cS.out _).mono ?_); rintro e w2 ⟨rfl, rfl⟩) | (go_at_call 16; (with_reducible refine (cA.out _ hm1.out).mono ?_); rintro e W2 ⟨⟨A, ca, rfl, hra⟩, hb2⟩; have HB2 := Lib.hid (HB1.out.trans (hb2.mono HB1.out.size)); have HRA := Lib.hid hra; have hm2 := Lib.hid (hm1.out.on hb2 hm1.out.lt); clear hb2 hra))
  go_wp2_with (first | (go_at_call 17; (with_reducible refine (cT.out _).mono ?_); rintro e w2 ⟨rfl, rfl⟩) | (go_at_call 16; (with_reducible refine (cB.out _ hm2.out).mono ?_); rintro e W3 ⟨⟨B, cb, rfl, hrb⟩, hb3⟩; have HB3 := Lib.hid (HB2.out.trans (hb3.mono HB2.out.size)); have HRB := Lib.hid hrb; have HRA3 := Lib.hid (row_on HRA.out hb3); have hm3 := Lib.hid (hm2.out.on hb3 hm2.out.lt); clear hb3 hrb))
  go_wp2
  go_ret
  exact ⟨rfl, HB3.out⟩

set_option maxRecDepth 100000 in
set_option maxHeartbeats 4000000 in
theorem blank_ct (ls lt : Bs) (s t : ByteArray) (w : World) (hm : MaxL w) (h1 : ls.length ≤ 300) (h2 : lt.length ≤ 300) (cS : ∀ w, Calls Tryd.prog 17 #[.string s, .int .i64 300] w fun e w' => e = .returned (.string (bs ls)) ∧ w = w') (cT : ∀ w, Calls Tryd.prog 17 #[.string t, .int .i64 300] w fun e w' => e = .returned (.string (bs lt)) ∧ w = w') (a u : Tk) (LA LB : List Tk) (hA : cutP ls = a :: LA) (hB : cutP lt = u :: LB) (hu : u.k = 8) :
    Calls Tryd.prog 4 #[.string s, .string t] w fun e w' => e = .returned (.bool true) ∧ Below w.heap.size w w' := by
  obtain ⟨na, hna⟩ : ∃ n, (a :: LA).length = n := ⟨_, rfl⟩
  obtain ⟨nb, hnb⟩ : ∃ n, (u :: LB).length = n := ⟨_, rfl⟩
  have cA := fun w hm => cut_own (bs ls) _ na hA hna (by show ls.length < _; omega) w hm
  have cB := fun w hm => cut_own (bs lt) _ nb hB hnb (by show lt.length < _; omega) w hm
  have lA := cut_few ls
  have lB := cut_few lt
  rw [hA, hna] at lA
  rw [hB, hnb] at lB
  replace cA := Lib.hid cA
  replace cB := Lib.hid cB
  replace cS := Lib.hid cS
  replace cT := Lib.hid cT
  have hna0 : 0 < na := by
    rw [← hna]
    simp
  have hnb0 : 0 < nb := by
    rw [← hnb]
    simp
  have a1 : ((na : Int) == 0) = false := by
    rw [beq_eq_false_iff_ne]
    omega
  have b1 : ((nb : Int) == 0) = false := by
    rw [beq_eq_false_iff_ne]
    omega
  have b2 : (0 : Int) < (nb : Int) := by omega
  go_enter Tryd.func4, Tryd.ntmps4
  go_wp2_with ((go_at_call 15; (with_reducible refine (cutFact_ct _ hm).mono ?_); rintro e W1 ⟨rfl, hb1⟩))
  have hm1 := Lib.hid (hm.on hb1 hm.lt)
  have HB1 := Lib.hid hb1
  clear hb1
  go_wp2_with (first | (go_at_call 17; (with_reducible refine (cS.out _).mono ?_); rintro e w2 ⟨rfl, rfl⟩) | (go_at_call 16; (with_reducible refine (cA.out _ hm1.out).mono ?_); rintro e W2 ⟨⟨A, ca, rfl, hra⟩, hb2⟩; have HB2 := Lib.hid (HB1.out.trans (hb2.mono HB1.out.size)); have HRA := Lib.hid hra; have hm2 := Lib.hid (hm1.out.on hb2 hm1.out.lt); clear hb2 hra))
  go_wp2_with (first | (go_at_call 17; (with_reducible refine (cT.out _).mono ?_); rintro e w2 ⟨rfl, rfl⟩) | (go_at_call 16; (with_reducible refine (cB.out _ hm2.out).mono ?_); rintro e W3 ⟨⟨B, cb, rfl, hrb⟩, hb3⟩; have HB3 := Lib.hid (HB2.out.trans (hb3.mono HB2.out.size)); have HRB := Lib.hid hrb; have HRA3 := Lib.hid (row_on HRA.out hb3); have hm3 := Lib.hid (hm2.out.on hb3 hm2.out.lt); clear hb3 hrb; (obtain ⟨g, rfl, hg1, hg2, hnews, hcell⟩ := row_news HRB.out hnb hnb0); (have e0 : W3.cell? ⟨g, 0, none⟩ = some (.int .i64 u.k) := hcell 0 u rfl 0 (by decide)); (replace hnews := Lib.hid hnews); (clear hcell); (rw [hu] at e0)))
  go_wp2
  go_ret
  exact ⟨rfl, HB3.out⟩

set_option maxRecDepth 100000 in
set_option maxHeartbeats 4000000 in
theorem last_six_ct (ls lt : Bs) (s t : ByteArray) (w : World) (hm : MaxL w) (h1 : ls.length ≤ 300) (h2 : lt.length ≤ 300) (cS : ∀ w, Calls Tryd.prog 17 #[.string s, .int .i64 300] w fun e w' => e = .returned (.string (bs ls)) ∧ w = w') (cT : ∀ w, Calls Tryd.prog 17 #[.string t, .int .i64 300] w fun e w' => e = .returned (.string (bs lt)) ∧ w = w') (a u : Tk) (LA LB : List Tk) (hA : cutP ls = LA ++ [a]) (hB : cutP lt = u :: LB) (hu : ¬ u.k = 8) (hk : a.k = 6) :
    Calls Tryd.prog 4 #[.string s, .string t] w fun e w' => e = .returned (.bool true) ∧ Below w.heap.size w w' := by
  obtain ⟨na, hna⟩ : ∃ n, (LA ++ [a]).length = n := ⟨_, rfl⟩
  obtain ⟨nb, hnb⟩ : ∃ n, (u :: LB).length = n := ⟨_, rfl⟩
  have cA := fun w hm => cut_own (bs ls) _ na hA hna (by show ls.length < _; omega) w hm
  have cB := fun w hm => cut_own (bs lt) _ nb hB hnb (by show lt.length < _; omega) w hm
  have lA := cut_few ls
  have lB := cut_few lt
  rw [hA, hna] at lA
  rw [hB, hnb] at lB
  replace cA := Lib.hid cA
  replace cB := Lib.hid cB
  replace cS := Lib.hid cS
  replace cT := Lib.hid cT
  have hna0 : 0 < na := by
    rw [← hna]
    simp
  have hnb0 : 0 < nb := by
    rw [← hnb]
    simp
  have a1 : ((na : Int) == 0) = false := by
    rw [beq_eq_false_iff_ne]
    omega
  have b1 : ((nb : Int) == 0) = false := by
    rw [beq_eq_false_iff_ne]
    omega
  have b2 : (0 : Int) < (nb : Int) := by omega
  have hu8 : (u.k == 8) = false := by
    rw [beq_eq_false_iff_ne]
    exact hu
  have ha : LA.length + 1 = na := by
    rw [← hna]
    simp
  have a2 := IntWalk.i64_in ((na : Int) - 1) (by omega)
  have a3 : ((na : Int) - 1).toNat = LA.length := by omega
  have a4 : (0 : Int) ≤ (na : Int) - 1 := by omega
  have a5 : (na : Int) - 1 < (na : Int) := by omega
  have a6 : (na : Int) - 1 = (LA.length : Int) := by omega
  go_enter Tryd.func4, Tryd.ntmps4
  go_wp2_with ((go_at_call 15; (with_reducible refine (cutFact_ct _ hm).mono ?_); rintro e W1 ⟨rfl, hb1⟩))
  have hm1 := Lib.hid (hm.on hb1 hm.lt)
  have HB1 := Lib.hid hb1
  clear hb1
  go_wp2_with (first | (go_at_call 17; (with_reducible refine (cS.out _).mono ?_); rintro e w2 ⟨rfl, rfl⟩) | (go_at_call 16; (with_reducible refine (cA.out _ hm1.out).mono ?_); rintro e W2 ⟨⟨A, ca, rfl, hra⟩, hb2⟩; have HB2 := Lib.hid (HB1.out.trans (hb2.mono HB1.out.size)); have HRA := Lib.hid hra; have hm2 := Lib.hid (hm1.out.on hb2 hm1.out.lt); clear hb2 hra))
  go_wp2_with (first | (go_at_call 17; (with_reducible refine (cT.out _).mono ?_); rintro e w2 ⟨rfl, rfl⟩) | (go_at_call 16; (with_reducible refine (cB.out _ hm2.out).mono ?_); rintro e W3 ⟨⟨B, cb, rfl, hrb⟩, hb3⟩; have HB3 := Lib.hid (HB2.out.trans (hb3.mono HB2.out.size)); have HRB := Lib.hid hrb; have HRA3 := Lib.hid (row_on HRA.out hb3); have hm3 := Lib.hid (hm2.out.on hb3 hm2.out.lt); clear hb3 hrb; (obtain ⟨g, rfl, hg1, hg2, hnews, hcell⟩ := row_news HRB.out hnb hnb0); (have e0 : W3.cell? ⟨g, 0, none⟩ = some (.int .i64 u.k) := hcell 0 u rfl 0 (by decide)); (replace hnews := Lib.hid hnews); (clear hcell); (obtain ⟨h, rfl, hh1, hh2, hnews2, hcell⟩ := row_news HRA3.out hna hna0); (have f0 : W3.cell? ⟨h, LA.length * 4, none⟩ = some (.int .i64 a.k) := hcell LA.length a (by simp) 0 (by decide)); (clear hcell hnews2); (rw [hk] at f0)))
  go_wp2
  go_ret
  exact ⟨rfl, HB3.out⟩

set_option maxRecDepth 100000 in
set_option maxHeartbeats 4000000 in
theorem last_nine_ct (ls lt : Bs) (s t : ByteArray) (w : World) (hm : MaxL w) (h1 : ls.length ≤ 300) (h2 : lt.length ≤ 300) (cS : ∀ w, Calls Tryd.prog 17 #[.string s, .int .i64 300] w fun e w' => e = .returned (.string (bs ls)) ∧ w = w') (cT : ∀ w, Calls Tryd.prog 17 #[.string t, .int .i64 300] w fun e w' => e = .returned (.string (bs lt)) ∧ w = w') (a u : Tk) (LA LB : List Tk) (hA : cutP ls = LA ++ [a]) (hB : cutP lt = u :: LB) (hu : ¬ u.k = 8) (hk : a.k = 9) :
    Calls Tryd.prog 4 #[.string s, .string t] w fun e w' => e = .returned (.bool true) ∧ Below w.heap.size w w' := by
  obtain ⟨na, hna⟩ : ∃ n, (LA ++ [a]).length = n := ⟨_, rfl⟩
  obtain ⟨nb, hnb⟩ : ∃ n, (u :: LB).length = n := ⟨_, rfl⟩
  have cA := fun w hm => cut_own (bs ls) _ na hA hna (by show ls.length < _; omega) w hm
  have cB := fun w hm => cut_own (bs lt) _ nb hB hnb (by show lt.length < _; omega) w hm
  have lA := cut_few ls
  have lB := cut_few lt
  rw [hA, hna] at lA
  rw [hB, hnb] at lB
  replace cA := Lib.hid cA
  replace cB := Lib.hid cB
  replace cS := Lib.hid cS
  replace cT := Lib.hid cT
  have hna0 : 0 < na := by
    rw [← hna]
    simp
  have hnb0 : 0 < nb := by
    rw [← hnb]
    simp
  have a1 : ((na : Int) == 0) = false := by
    rw [beq_eq_false_iff_ne]
    omega
  have b1 : ((nb : Int) == 0) = false := by
    rw [beq_eq_false_iff_ne]
    omega
  have b2 : (0 : Int) < (nb : Int) := by omega
  have hu8 : (u.k == 8) = false := by
    rw [beq_eq_false_iff_ne]
    exact hu
  have ha : LA.length + 1 = na := by
    rw [← hna]
    simp
  have a2 := IntWalk.i64_in ((na : Int) - 1) (by omega)
  have a3 : ((na : Int) - 1).toNat = LA.length := by omega
  have a4 : (0 : Int) ≤ (na : Int) - 1 := by omega
  have a5 : (na : Int) - 1 < (na : Int) := by omega
  have a6 : (na : Int) - 1 = (LA.length : Int) := by omega
  go_enter Tryd.func4, Tryd.ntmps4
  go_wp2_with ((go_at_call 15; (with_reducible refine (cutFact_ct _ hm).mono ?_); rintro e W1 ⟨rfl, hb1⟩))
  have hm1 := Lib.hid (hm.on hb1 hm.lt)
  have HB1 := Lib.hid hb1
  clear hb1
  go_wp2_with (first | (go_at_call 17; (with_reducible refine (cS.out _).mono ?_); rintro e w2 ⟨rfl, rfl⟩) | (go_at_call 16; (with_reducible refine (cA.out _ hm1.out).mono ?_); rintro e W2 ⟨⟨A, ca, rfl, hra⟩, hb2⟩; have HB2 := Lib.hid (HB1.out.trans (hb2.mono HB1.out.size)); have HRA := Lib.hid hra; have hm2 := Lib.hid (hm1.out.on hb2 hm1.out.lt); clear hb2 hra))
  go_wp2_with (first | (go_at_call 17; (with_reducible refine (cT.out _).mono ?_); rintro e w2 ⟨rfl, rfl⟩) | (go_at_call 16; (with_reducible refine (cB.out _ hm2.out).mono ?_); rintro e W3 ⟨⟨B, cb, rfl, hrb⟩, hb3⟩; have HB3 := Lib.hid (HB2.out.trans (hb3.mono HB2.out.size)); have HRB := Lib.hid hrb; have HRA3 := Lib.hid (row_on HRA.out hb3); have hm3 := Lib.hid (hm2.out.on hb3 hm2.out.lt); clear hb3 hrb; (obtain ⟨g, rfl, hg1, hg2, hnews, hcell⟩ := row_news HRB.out hnb hnb0); (have e0 : W3.cell? ⟨g, 0, none⟩ = some (.int .i64 u.k) := hcell 0 u rfl 0 (by decide)); (replace hnews := Lib.hid hnews); (clear hcell); (obtain ⟨h, rfl, hh1, hh2, hnews2, hcell⟩ := row_news HRA3.out hna hna0); (have f0 : W3.cell? ⟨h, LA.length * 4, none⟩ = some (.int .i64 a.k) := hcell LA.length a (by simp) 0 (by decide)); (clear hcell hnews2); (rw [hk] at f0)))
  go_wp2
  go_ret
  exact ⟨rfl, HB3.out⟩

set_option maxRecDepth 100000 in
set_option maxHeartbeats 4000000 in
theorem last_eight_ct (ls lt : Bs) (s t : ByteArray) (w : World) (hm : MaxL w) (h1 : ls.length ≤ 300) (h2 : lt.length ≤ 300) (cS : ∀ w, Calls Tryd.prog 17 #[.string s, .int .i64 300] w fun e w' => e = .returned (.string (bs ls)) ∧ w = w') (cT : ∀ w, Calls Tryd.prog 17 #[.string t, .int .i64 300] w fun e w' => e = .returned (.string (bs lt)) ∧ w = w') (a u : Tk) (LA LB : List Tk) (hA : cutP ls = LA ++ [a]) (hB : cutP lt = u :: LB) (hu : ¬ u.k = 8) (hk : a.k = 8) :
    Calls Tryd.prog 4 #[.string s, .string t] w fun e w' => e = .returned (.bool true) ∧ Below w.heap.size w w' := by
  obtain ⟨na, hna⟩ : ∃ n, (LA ++ [a]).length = n := ⟨_, rfl⟩
  obtain ⟨nb, hnb⟩ : ∃ n, (u :: LB).length = n := ⟨_, rfl⟩
  have cA := fun w hm => cut_own (bs ls) _ na hA hna (by show ls.length < _; omega) w hm
  have cB := fun w hm => cut_own (bs lt) _ nb hB hnb (by show lt.length < _; omega) w hm
  have lA := cut_few ls
  have lB := cut_few lt
  rw [hA, hna] at lA
  rw [hB, hnb] at lB
  replace cA := Lib.hid cA
  replace cB := Lib.hid cB
  replace cS := Lib.hid cS
  replace cT := Lib.hid cT
  have hna0 : 0 < na := by
    rw [← hna]
    simp
  have hnb0 : 0 < nb := by
    rw [← hnb]
    simp
  have a1 : ((na : Int) == 0) = false := by
    rw [beq_eq_false_iff_ne]
    omega
  have b1 : ((nb : Int) == 0) = false := by
    rw [beq_eq_false_iff_ne]
    omega
  have b2 : (0 : Int) < (nb : Int) := by omega
  have hu8 : (u.k == 8) = false := by
    rw [beq_eq_false_iff_ne]
    exact hu
  have ha : LA.length + 1 = na := by
    rw [← hna]
    simp
  have a2 := IntWalk.i64_in ((na : Int) - 1) (by omega)
  have a3 : ((na : Int) - 1).toNat = LA.length := by omega
  have a4 : (0 : Int) ≤ (na : Int) - 1 := by omega
  have a5 : (na : Int) - 1 < (na : Int) := by omega
  have a6 : (na : Int) - 1 = (LA.length : Int) := by omega
  go_enter Tryd.func4, Tryd.ntmps4
  go_wp2_with ((go_at_call 15; (with_reducible refine (cutFact_ct _ hm).mono ?_); rintro e W1 ⟨rfl, hb1⟩))
  have hm1 := Lib.hid (hm.on hb1 hm.lt)
  have HB1 := Lib.hid hb1
  clear hb1
  go_wp2_with (first | (go_at_call 17; (with_reducible refine (cS.out _).mono ?_); rintro e w2 ⟨rfl, rfl⟩) | (go_at_call 16; (with_reducible refine (cA.out _ hm1.out).mono ?_); rintro e W2 ⟨⟨A, ca, rfl, hra⟩, hb2⟩; have HB2 := Lib.hid (HB1.out.trans (hb2.mono HB1.out.size)); have HRA := Lib.hid hra; have hm2 := Lib.hid (hm1.out.on hb2 hm1.out.lt); clear hb2 hra))
  go_wp2_with (first | (go_at_call 17; (with_reducible refine (cT.out _).mono ?_); rintro e w2 ⟨rfl, rfl⟩) | (go_at_call 16; (with_reducible refine (cB.out _ hm2.out).mono ?_); rintro e W3 ⟨⟨B, cb, rfl, hrb⟩, hb3⟩; have HB3 := Lib.hid (HB2.out.trans (hb3.mono HB2.out.size)); have HRB := Lib.hid hrb; have HRA3 := Lib.hid (row_on HRA.out hb3); have hm3 := Lib.hid (hm2.out.on hb3 hm2.out.lt); clear hb3 hrb; (obtain ⟨g, rfl, hg1, hg2, hnews, hcell⟩ := row_news HRB.out hnb hnb0); (have e0 : W3.cell? ⟨g, 0, none⟩ = some (.int .i64 u.k) := hcell 0 u rfl 0 (by decide)); (replace hnews := Lib.hid hnews); (clear hcell); (obtain ⟨h, rfl, hh1, hh2, hnews2, hcell⟩ := row_news HRA3.out hna hna0); (have f0 : W3.cell? ⟨h, LA.length * 4, none⟩ = some (.int .i64 a.k) := hcell LA.length a (by simp) 0 (by decide)); (clear hcell hnews2); (rw [hk] at f0)))
  go_wp2
  go_ret
  exact ⟨rfl, HB3.out⟩

set_option maxRecDepth 100000 in
set_option maxHeartbeats 4000000 in
theorem whole_ct (ls lt : Bs) (s t : ByteArray) (w : World) (hm : MaxL w) (h1 : ls.length ≤ 300) (h2 : lt.length ≤ 300) (cS : ∀ w, Calls Tryd.prog 17 #[.string s, .int .i64 300] w fun e w' => e = .returned (.string (bs ls)) ∧ w = w') (cT : ∀ w, Calls Tryd.prog 17 #[.string t, .int .i64 300] w fun e w' => e = .returned (.string (bs lt)) ∧ w = w') (a u : Tk) (LA LB : List Tk) (hA : cutP ls = LA ++ [a]) (hB : cutP lt = u :: LB) (hu : ¬ u.k = 8) (h6 : ¬ a.k = 6) (h9 : ¬ a.k = 9) (h8 : ¬ a.k = 8) :
    Calls Tryd.prog 4 #[.string s, .string t] w fun e w' => e = .returned (.bool true) ∧ Below w.heap.size w w' := by
  obtain ⟨na, hna⟩ : ∃ n, (LA ++ [a]).length = n := ⟨_, rfl⟩
  obtain ⟨nb, hnb⟩ : ∃ n, (u :: LB).length = n := ⟨_, rfl⟩
  have cA := fun w hm => cut_own (bs ls) _ na hA hna (by show ls.length < _; omega) w hm
  have cB := fun w hm => cut_own (bs lt) _ nb hB hnb (by show lt.length < _; omega) w hm
  have lA := cut_few ls
  have lB := cut_few lt
  rw [hA, hna] at lA
  rw [hB, hnb] at lB
  replace cA := Lib.hid cA
  replace cB := Lib.hid cB
  replace cS := Lib.hid cS
  replace cT := Lib.hid cT
  have hna0 : 0 < na := by
    rw [← hna]
    simp
  have hnb0 : 0 < nb := by
    rw [← hnb]
    simp
  have a1 : ((na : Int) == 0) = false := by
    rw [beq_eq_false_iff_ne]
    omega
  have b1 : ((nb : Int) == 0) = false := by
    rw [beq_eq_false_iff_ne]
    omega
  have b2 : (0 : Int) < (nb : Int) := by omega
  have hu8 : (u.k == 8) = false := by
    rw [beq_eq_false_iff_ne]
    exact hu
  have ha : LA.length + 1 = na := by
    rw [← hna]
    simp
  have a2 := IntWalk.i64_in ((na : Int) - 1) (by omega)
  have a3 : ((na : Int) - 1).toNat = LA.length := by omega
  have a4 : (0 : Int) ≤ (na : Int) - 1 := by omega
  have a5 : (na : Int) - 1 < (na : Int) := by omega
  have a6 : (na : Int) - 1 = (LA.length : Int) := by omega
  have k6 : (a.k == 6) = false := by
    rw [beq_eq_false_iff_ne]
    exact h6
  have k9 : (a.k == 9) = false := by
    rw [beq_eq_false_iff_ne]
    exact h9
  have k8 : (a.k == 8) = false := by
    rw [beq_eq_false_iff_ne]
    exact h8
  have hC := apart_law hA hB h6 h9 h8 hu
  have hnc : (LA ++ [a] ++ [(⟨8, [32], [], 0⟩ : Tk)] ++ (u :: LB)).length = na + 1 + nb := by
    rw [← hna, ← hnb]
    simp
    omega
  have cC := fun w hm => cut_own (bs ls ++ ⟨#[32]⟩ ++ bs lt) (LA ++ [a] ++ [(⟨8, [32], [], 0⟩ : Tk)] ++ (u :: LB)) (na + 1 + nb) (by rw [join_list]; exact hC) hnc (by rw [join_size]; omega) w hm
  replace hC := Lib.hid hC
  have y1 : (bs ls).size = ls.length := rfl
  have y2 : (bs lt).size = lt.length := rfl
  have z1 : ¬ 9223372036854775807 < (bs ls).size + 1 := by omega
  have z2 : ¬ 9223372036854775807 < (bs ls).size + 1 + (bs lt).size := by omega
  have z3 : ¬ 9223372036854775807 < (bs ls ++ ⟨#[32]⟩).size + (bs lt).size := by
    rw [ByteArray.size_append]
    exact z2
  clear y1 y2
  obtain ⟨nc, hncd⟩ : ∃ n, n = na + 1 + nb := ⟨_, rfl⟩
  rw [← hncd] at cC hnc
  replace cC := Lib.hid cC
  replace hncd := Lib.hid hncd
  obtain ⟨i0, hi, hz0, hz1, hz2⟩ := info_parts infoT
  have Hz0 := Lib.hid hz0
  have Hi := Lib.hid hi
  have Hz1 := Lib.hid hz1
  have Hz2 := Lib.hid hz2
  clear hz0 hi hz1 hz2
  go_enter Tryd.func4, Tryd.ntmps4
  go_wp2_with ((go_at_call 15; (with_reducible refine (cutFact_ct _ hm).mono ?_); rintro e W1 ⟨rfl, hb1⟩))
  have hm1 := Lib.hid (hm.on hb1 hm.lt)
  have HB1 := Lib.hid hb1
  clear hb1
  go_wp2_with (first | (go_at_call 17; (with_reducible refine (cS.out _).mono ?_); rintro e w2 ⟨rfl, rfl⟩) | (go_at_call 16; (with_reducible refine (cA.out _ hm1.out).mono ?_); rintro e W2 ⟨⟨A, ca, rfl, hra⟩, hb2⟩; have HB2 := Lib.hid (HB1.out.trans (hb2.mono HB1.out.size)); have HRA := Lib.hid hra; have hm2 := Lib.hid (hm1.out.on hb2 hm1.out.lt); clear hb2 hra))
  go_wp2_with (first | (go_at_call 17; (with_reducible refine (cT.out _).mono ?_); rintro e w2 ⟨rfl, rfl⟩) | (go_at_call 16; (with_reducible refine (cB.out _ hm2.out).mono ?_); rintro e W3 ⟨⟨B, cb, rfl, hrb⟩, hb3⟩; have HB3 := Lib.hid (HB2.out.trans (hb3.mono HB2.out.size)); have HRB := Lib.hid hrb; have HRA3 := Lib.hid (row_on HRA.out hb3); have hm3 := Lib.hid (hm2.out.on hb3 hm2.out.lt); clear hb3 hrb; (obtain ⟨g, rfl, hg1, hg2, hnews, hcell⟩ := row_news HRB.out hnb hnb0); (have e0 : W3.cell? ⟨g, 0, none⟩ = some (.int .i64 u.k) := hcell 0 u rfl 0 (by decide)); (clear hcell hnews); (obtain ⟨h, rfl, hh1, hh2, hnews2, hcell⟩ := row_news HRA3.out hna hna0); (have f0 : W3.cell? ⟨h, LA.length * 4, none⟩ = some (.int .i64 a.k) := hcell LA.length a (by simp) 0 (by decide)); (clear hcell hnews2); (have hh3 := (HRA.out.lt h rfl).2)))
  go_wp2_with (first
    | (go_at_call 17; (with_reducible refine (cS.out _).mono ?_); rintro e w2 ⟨rfl, rfl⟩)
    | (go_at_call 17; (with_reducible refine (cT.out _).mono ?_); rintro e w2 ⟨rfl, rfl⟩)
    | (go_at_call 16; (with_reducible refine (cC.out _ hm3.out).mono ?_); rintro e W4 ⟨⟨C, cc, rfl, hrc⟩, hb4⟩; have HB4 := Lib.hid (HB3.out.trans (hb4.mono HB3.out.size)); have HRC := Lib.hid hrc; have HRA4 := Lib.hid (row_on HRA3.out hb4); have HRB4 := Lib.hid (row_on HRB.out hb4); have hz4 := hb4.size; have hz3 := HB3.out.size; have hz1 := HB1.out.size; clear hb4 hrc)
    | (at_builtin; refine wpList_append_own_at _ rfl _ _ 23 rfl W1.heap.size 28 i0 _ 4 48 Tryd.underlying23 Hi.out Hz0.out Hz1.out Hz2.out rfl (by decide) _ _ _ rfl (HRA4.out.alloc _) ⟨W4.heap.size, 0, none⟩ 1 1 [.int .i64 8, .string ⟨#[32]⟩, .string .empty, .int .i64 0] rfl rfl ?c1 ?c2 ?c3 ?c4 ?c5 ?_))
  case c1 => exact (Blk.new (w := W4) (t := 28) (cs := #[.int .i64 8, .string ⟨#[32]⟩, .string .empty, .int .i64 0]) rfl).news
  case c2 => simp [Value.oneCell']
  case c3 => unfold maxLen; omega
  case c4 => omega
  case c5 => simp; omega
  intro v1 W5 hown1 hgrow1 hnil1 hblk1
  have hs5 := hgrow1.size
  simp at hs5
  have HRB5 := Lib.hid ((HRB4.out.alloc (.cells #[.int .i64 8, .string ⟨#[32]⟩, .string .empty, .int .i64 0] 28)).kept hgrow1 (Or.inr (by simp [Value.ownBlock]; omega)))
  obtain ⟨q, rfl, hq1, hq2, -, -⟩ := row_news HRC.out hnc (by rw [hncd.out]; omega)
  have HRC5 := Lib.hid ((HRC.out.alloc (.cells #[.int .i64 8, .string ⟨#[32]⟩, .string .empty, .int .i64 0] 28)).kept hgrow1 (Or.inr (by simp [Value.ownBlock]; omega)))
  have HB5 := Lib.hid (below_app (HB4.out.alloc HB4.out.size (.cells #[.int .i64 8, .string ⟨#[32]⟩, .string .empty, .int .i64 0] 28)) hgrow1 (HRA4.out.alloc _) (by omega) (by simp; omega))
  obtain ⟨A1, ca1, rfl⟩ := row_form hown1
  obtain ⟨g', hg', -, -, hnews, -⟩ := row_news HRB5.out hnb hnb0
  obtain rfl : g = g' := by injection hg' with hg'; injection hg'
  replace hnews := Lib.hid hnews
  replace hown1 := Lib.hid hown1
  replace hblk1 := Lib.hid hblk1
  clear hgrow1 hnil1 hg'
  go_wp2_with ((at_builtin; refine wpList_append_own_at _ rfl _ _ 23 rfl W1.heap.size 28 i0 _ 4 48 Tryd.underlying23 Hi.out Hz0.out Hz1.out Hz2.out rfl (by decide) _ _ _ rfl hown1.out ⟨g, 0, none⟩ nb cb (flatR tcells (u :: LB)) rfl (by rw [flatR_len tcells_len, hnb]) hnews.out ?d2 ?d3 ?d4 ?d5 ?_))
  case d2 =>
    intro x hx
    simp only [flatR, List.mem_flatMap] at hx
    obtain ⟨d, -, hx⟩ := hx
    simp [Tk.cells] at hx
    rcases hx with rfl | rfl | rfl | rfl <;> rfl
  case d3 => unfold maxLen; omega
  case d4 => omega
  case d5 => omega
  intro v2 W6 hown2 hgrow2 hnil2 _
  have hne : (Value.slice (some ⟨q, 0, none⟩) nc cc).ownBlock ≠ (Value.slice A1 (na + 1) ca1).ownBlock := by
    rcases hblk1.out with e | e
    · rw [e]
      simp [Value.ownBlock]
      omega
    · rw [e]
      simp [Value.ownBlock]
      omega
  have HRC6 := HRC5.out.kept hgrow2 (Or.inr hne)
  have HB6 := Lib.hid (below_app HB5.out hgrow2 hown1.out (by omega) HB5.out.size)
  have hL : flatR tcells (LA ++ [a]) ++ (.int .i64 8 :: .string ⟨#[32]⟩ :: .string .empty :: .int .i64 0 :: flatR tcells (u :: LB)) = flatR tcells (LA ++ [a] ++ [(⟨8, [32], [], 0⟩ : Tk)] ++ (u :: LB)) := by simp [flatR]; rfl
  replace hown2 : W6.ownsRow W1.heap.size 28 4 v2 (na + 1 + nb) (flatR tcells (LA ++ [a] ++ [(⟨8, [32], [], 0⟩ : Tk)] ++ (u :: LB))) := hL ▸ hown2
  obtain ⟨A2, ca2, rfl, -, hr2⟩ := row_rd tcells_len (by rw [hnc, hncd.out]) hown2
  obtain ⟨A3, ca3, hv3, -, hr3⟩ := row_rd tcells_len hnc HRC6
  obtain ⟨rfl, rfl⟩ : A3 = some ⟨q, 0, none⟩ ∧ ca3 = cc := by
    injection hv3 with x1 x2 x3
    exact ⟨x1.symm, x3.symm⟩
  have cE : Calls Tryd.prog 18 #[.slice (some ⟨q, 0, none⟩) nc ca3, .slice A2 (na + 1 + nb) ca2] W6 fun e w' => e = .returned (.bool true) ∧ ∃ m, w' = W6.drewN m := by
    have h := same_ct (some ⟨q, 0, none⟩) A2 nc (na + 1 + nb) ca3 ca2 _ _ W6 (by rw [hncd.out]; unfold maxLen; omega) (by unfold maxLen; omega) hr3 hr2
    rwa [decide_eq_true rfl] at h
  replace cE := Lib.hid cE
  clear hgrow2 hnil2 hown2 HRC6 hne hL hv3 hr2 hr3
  go_wp2_with ((go_at_call 18; (with_reducible refine (cE.out).mono ?_); rintro e w7 ⟨rfl, m7, rfl⟩))
  go_ret
  exact ⟨rfl, below_drewN HB6.out m7⟩


set_option maxRecDepth 100000 in
set_option maxHeartbeats 4000000 in
theorem law_ct (s t : ByteArray) (w : World) (hs : s.size ≤ maxLen) (ht : t.size ≤ maxLen) (hm : MaxL w) :
    Calls Tryd.prog 4 #[.string s, .string t] w fun e w' => e = .returned (.bool true) ∧ Below w.heap.size w w' := by
  have cS : ∀ w, Calls Tryd.prog 17 #[.string s, .int .i64 300] w fun e w' => e = .returned (.string (bs (s.data.toList.take 300))) ∧ w = w' := fun w => short_ct s 300 hs (by decide) w
  have cT : ∀ w, Calls Tryd.prog 17 #[.string t, .int .i64 300] w fun e w' => e = .returned (.string (bs (t.data.toList.take 300))) ∧ w = w' := fun w => short_ct t 300 ht (by decide) w
  have h1 : (s.data.toList.take 300).length ≤ 300 := by rw [List.length_take]; omega
  have h2 : (t.data.toList.take 300).length ≤ 300 := by rw [List.length_take]; omega
  generalize s.data.toList.take 300 = ls at *
  generalize t.data.toList.take 300 = lt at *
  rcases List.eq_nil_or_concat (cutP ls) with hA | ⟨LA, a, hA⟩
  · exact none_ct ls lt s t w hm h1 h2 cS cT _ hA rfl
  rw [List.concat_eq_append] at hA
  cases hB : cutP lt with
  | nil =>
    obtain ⟨x, LX, hX⟩ := List.exists_cons_of_ne_nil (show cutP ls ≠ [] by rw [hA]; simp)
    exact none2_ct ls lt s t w hm h1 h2 cS cT x LX hX hB
  | cons u LB =>
    by_cases hu : u.k = 8
    · obtain ⟨x, LX, hX⟩ := List.exists_cons_of_ne_nil (show cutP ls ≠ [] by rw [hA]; simp)
      exact blank_ct ls lt s t w hm h1 h2 cS cT x u LX LB hX hB hu
    · by_cases h6 : a.k = 6
      · exact last_six_ct ls lt s t w hm h1 h2 cS cT a u LA LB hA hB hu h6
      by_cases h9 : a.k = 9
      · exact last_nine_ct ls lt s t w hm h1 h2 cS cT a u LA LB hA hB hu h9
      by_cases h8 : a.k = 8
      · exact last_eight_ct ls lt s t w hm h1 h2 cS cT a u LA LB hA hB hu h8
      exact whole_ct ls lt s t w hm h1 h2 cS cT a u LA LB hA hB hu h6 h9 h8

set_option maxRecDepth 100000 in
theorem lifted (os : Os) (started : os.Started) (H : Type) (enc : TypeId × Value → H) :
    ReturnsInHanded {} Tryd.checked os 4 .any (fun w args => (Rows.tokenApartSpec.pre enc Tryd.prog Tryd.f4 Rows.tokenApartRow.domain false w args ∧ laidMetH Tryd.prog Rows.tokenApartRow.laid w) ∧ sizedMet enc Tryd.prog Tryd.f4 (OpenSpec.ofChange Rows.tokenApartSpec) false w args)
      (Rows.tokenApartSpec.post enc Tryd.prog Tryd.f4 false true false false) := by
  refine returns_door (C := Tryd.checked) (X := fun w _ => laidMetH Tryd.prog Rows.tokenApartRow.laid w) (fun _ _ _ hh h => h.of_heap hh) ownD started (by kernel_rfl) Tryd.func4
    (ChangeSpec.witness_shaped (enc := enc) (C := Tryd.checked) (os := os) (X := fun w _ => laidMetH Tryd.prog Rows.tokenApartRow.laid w) false (World.laidAll Tryd.prog os Rows.tokenApartRow.laid) #[.string .empty, .string .empty] 8 (World.laidAll_os _ _ _)
      (World.shaped_of_ZipB (by kernel_rfl) (by kernel_rfl)) (by kernel_rfl) (by kernel_rfl) (by kernel_rfl)
      (by rw [MakeChecks.laidMetH_plain _ _ _ (by kernel_rfl)]; exact laidMet_laidAll _ (by kernel_rfl) (by kernel_rfl))) ?_
  intro W base args ds gs before hval0 hW _ hlaid hsh
  have hval : ∀ (j : Nat) t v, Tryd.f4.params[j]? = some t → args[j]? = some v → Value.okWide Tryd.prog W .any base t v := hval0
  have hW' := hW
  obtain ⟨p, q, hA0, hV, -, -, -⟩ := hW
  have hA : DataW.TrodAll enc Tryd.prog W 0 (fun _ => true) true Tryd.f4.params.toList args.toList ds p := hA0
  rw [Tryd.params4] at hA hval
  obtain ⟨v0, vs0, d0, ds0, p0, q0, hargs, rfl, -, h0, r0⟩ := trodAll_cons hA
  obtain ⟨v1, vs1, d1, ds1, p1, q1, rfl, rfl, -, h1, r1⟩ := trodAll_cons r0
  obtain ⟨rfl, rfl, -⟩ := trodAll_nil r1
  obtain rfl : args = #[v0, v1] := by cases args; simp_all
  obtain ⟨rfl, -⟩ := trodVars_none hV
  obtain ⟨s, rfl, -, -, hs⟩ := Go.ChangeMaps.open_string Tryd.underlying9 (hval 0 _ _ rfl rfl) h0
  obtain ⟨t, rfl, -, -, ht⟩ := Go.ChangeMaps.open_string Tryd.underlying9 (hval 1 _ _ rfl rfl) h1
  exact (law_ct s t W hs ht (maxLen_of hsh)).mono fun e W' ⟨he, bel⟩ => ⟨_, he, law_post laidOutD rfl Tryd.underlying4 rfl (by intro t ht; rw [Tryd.params4] at ht; revert t; decide +kernel) rfl hW' bel⟩

theorem holds : Rows.TokenApartSaid :=
  OpenClaim.holds_of_wide 4 Tryd.f4 rfl rfl rfl rfl rfl rfl rfl ⟨rfl, rfl, rfl, rfl, rfl⟩ rfl rfl rfl rfl rfl (by kernel_rfl) Tryd.func4 (by kernel_rfl)
    (of_decide_eq_true (by kernel_rfl)) (by unfold Func.isWrapper; first | (rw [if_pos (by decide +kernel)]; kernel_rfl) | (rw [if_neg (by decide +kernel)]; exact ⟨rfl, rfl⟩))
    (fun os started H enc _ => lifted os started H enc)

theorem proved : Rows.TokenApartCardSaid :=
  Claim7.holds_tied_plain_at .later [] Rows.tokenApartCard.laidKinds true Rows.tokenApartCard.stood.harness false holds (fun _ h => by cases h) (by kernel_rfl) (fun _ h => by cases h) tokenApart_row_tie rfl ⟨rfl, rfl⟩ (by kernel_rfl) rfl
    (fun f fn hf hfn => by
      obtain rfl : f = 4 := Option.some.inj ((show Tryd.prog.funcNamed "clerestory/clerestorykeep2.TokenApart" = some 4 by kernel_rfl).symm.trans hf) |>.symm
      obtain rfl : fn = Tryd.f4 := (Option.some.inj (Tryd.func4.symm.trans hfn)).symm
      exact ⟨by kernel_rfl, fun j t ht => by
        rw [Tryd.params4] at ht
        have hm : t ∈ [9, 9] := by simpa using Array.mem_of_getElem? ht
        have hall : ([9, 9].all fun u => !Tryd.prog.wantsStandIn u) = true := by kernel_rfl
        exact (show Tryd.prog.wantsStandIn t = false by simpa using List.all_eq_true.1 hall t hm)⟩)
    (by kernel_rfl)
#print axioms proved

end Go.Proofs.YtphdmdncboegjaaDoor.tok.apart
