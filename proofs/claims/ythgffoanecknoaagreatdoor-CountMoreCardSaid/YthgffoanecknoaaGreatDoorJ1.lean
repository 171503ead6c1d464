/- Contracts and plain law, a bundle. -/
import Derived.Lib.Hide
import Derived.Test.YthgffoanecknoaaGreatDoorJ0
import Derived.Test.YthgffoanecknoaaGreatDoorI7
set_option linter.unusedVariables false
set_option maxRecDepth 100000
set_option maxHeartbeats 16000000
open Go.Lib (hid)
namespace Go.Proofs.YthgffoanecknoaaGreatDoor
namespace doc
open Go.RowKit base tok
set_option linter.unusedSimpArgs false
abbrev ptV (b o : Nat) : Value := .pointer (some ⟨b, o, none⟩)
def nodeV (G n : Nat) (z : Int) : Value := if 0 <= z /\ z < n then ptV G (z.toNat * 6) else .pointer none
theorem node_ct (P G n c : Nat) (q : Bool) (md z : Int) (hc : n <= c /\ c <= maxLen) (w : World) (hP : Blk w P 79 #[.slice (some ⟨G, 0, none⟩) n c, .bool q, .int .i64 md]) :
  Calls Tryz.prog 109 #[ptV P 0, .int .i64 z] w fun e w' => e = .returned (nodeV G n z) /\ w = w' := by
 have p0 := hP.cell
 unfold maxLen at hc
 clear hP
 by_cases h1 : z < 0
 ·rw [show nodeV G n z = .pointer none from if_neg (by omega)]
  go_enter Tryz.func109, Tryz.ntmps109
  go_wp2_with fail
  go_ret
  exact ⟨rfl, rfl⟩
 by_cases h2 : (n : Int) <= z
 ·rw [show nodeV G n z = .pointer none from if_neg (by omega)]
  go_enter Tryz.func109, Tryz.ntmps109
  go_wp2_with fail
  go_ret
  exact ⟨rfl, rfl⟩
 ·obtain ⟨j, rfl⟩ : ∃ j : Nat, z = j := ⟨z.toNat, by omega⟩
  rw [show nodeV G n j = ptV G (j * 6) from by unfold nodeV; rw [if_pos (by omega), Int.toNat_natCast]]
  have h3 : (j : Int) < (n : Int) := by omega
  have h4 : j < n := by omega
  go_enter Tryz.func109, Tryz.ntmps109
  go_wp2_with fail
  go_ret
  exact ⟨rfl, rfl⟩
theorem below_no (E : List Nd) (P G n c : Nat) (q : Bool) (md : Int) (j t : Nat) (hn : E.length = n) (hG : GoodD E) (hj : j < n) (hjt : j ≠ t) (hne : ∀ m : Int, parAt E m ≠ t) (hc : n <= c /\ c <= maxLen) (w : World) (hP : Blk w P 79 #[.slice (some ⟨G, 0, none⟩) n c, .bool q, .int .i64 md]) (hrow : Rd 6 ncells w w.heap.size (some ⟨G, 0, none⟩) n E) :
  Calls Tryz.prog 111 #[ptV P 0, .int .i64 (j : Int), .int .i64 (t : Int)] w fun e w' => e = .returned (.bool false) /\ w = w' := by
 have p0 := hP.cell
 unfold maxLen at hc
 have HG := hid hG
 have HR := hid hrow
 have HNe := hid hne
 have HN := hid hn
 have hl := hG.len.2
 rw [hn] at hl
 clear hP hG hrow hne hn
 go_enter Tryz.func111, Tryz.ntmps111
 go_wp2_with fail
 go_loop [1] (fun x => ∃ z : Int, x = .int .i64 z /\ z ≠ t /\ (z = -1 ∨ (0 <= z /\ z < n))) (fun x => upM E (intOf x))
 case atStart => exact ⟨j, rfl, by omega, .inr (by omega)⟩
 case round =>
  obtain ⟨z, rfl, hzt, hz⟩ := hrel
  by_cases h0 : z < 0
  ·have h1 : ¬ 0 <= z := by omega
   have h2 : (z == (t : Int)) = false := by simpa using hzt
   clear hzt hz
   go_wp2_with fail
   go_ret
   exact ⟨rfl, rfl⟩
  ·obtain ⟨m, rfl⟩ : ∃ m : Nat, z = m := ⟨z.toNat, by omega⟩
   have hm : m < n := by omega
   have hm' : (m : Int) < (n : Int) := by omega
   have h2 : ((m : Int) != (t : Int)) = true := by simpa using hzt
   obtain ⟨b, off, x, hA, hbb, hx, g0, g1, g2, g3, g4, g5⟩ := ndRd HR.out hm
   cases hA
   have hup := up_step HG.out (j := m) (by rw [HN.out]; exact hm)
   have hpr := HG.out.par m
   have hnt := HNe.out m
   rw [parAt_at hx] at hup hpr hnt
   rw [HN.out] at hpr
   have HUp := hid hup
   have HPr := hid hpr
   have HNt := hid hnt
   rw [Nat.zero_add] at g4
   clear hzt hz hx hup hpr hnt g0 g1 g2 g3 g5
   go_wp2_with fail
   go_round
   case rel => exact ⟨_, rfl, HNt.out, HPr.out⟩
   case measure => exact HUp.out
theorem deep_0 (E : List Nd) (P G n c : Nat) (q : Bool) (md : Int) (j : Nat) (x : Nd) (hx : E[j]? = some x) (hk : x.kids = []) (hj : j < n) (hc : n <= c /\ c <= maxLen) (w : World) (hP : Blk w P 79 #[.slice (some ⟨G, 0, none⟩) n c, .bool q, .int .i64 md]) (hrow : Rd 6 ncells w w.heap.size (some ⟨G, 0, none⟩) n E) :
  Calls Tryz.prog 112 #[ptV P 0, .int .i64 (j : Int)] w fun e w' => e = .returned (.int .i64 0) /\ w = w' := by
 have p0 := hP.cell
 unfold maxLen at hc
 obtain ⟨b, off, x', hA, hbb, hx', g0, g1, g2, g3, g4, g5⟩ := ndRd hrow hj
 cases hA
 obtain rfl : x = x' := Option.some.inj (hx.symm.trans hx')
 rw [hk, Nat.zero_add] at g5
 have hj' : (j : Int) < (n : Int) := by omega
 clear hP hrow hx hx' g0 g1 g2 g3 g4
 go_enter Tryz.func112, Tryz.ntmps112
 go_wp2_with fail
 go_loop [4, 17] (fun m y => m = .int .i64 0 /\ y = .int .i64 0) (fun _ _ => 0)
 case atStart => exact ⟨rfl, rfl⟩
 case round =>
  obtain ⟨rfl, rfl⟩ := hrel
  go_wp2_with fail
  go_ret
  exact ⟨rfl, rfl⟩
end doc
namespace doc
open Go.RowKit base tok
set_option linter.unusedSimpArgs false
structure Grown (D Y : List Nd) (at_ : Nat) (nm : Bs) : Prop where
 len : Y.length = D.length + 1
 old : ∀ (j : Nat) (x : Nd), D[j]? = some x -> ∃ y, Y[j]? = some y /\ y.kind = x.kind /\ y.name = x.name /\ y.attrs = x.attrs /\ y.text = x.text /\ y.parent = x.parent /\ y.kids = if j = at_ then x.kids ++ [(D.length : Int)] else x.kids
 new : ∃ y, Y[D.length]? = some y /\ y.kind = 2 /\ y.name = nm /\ y.attrs = [] /\ y.text = [] /\ y.parent = at_ /\ y.kids = []
section
variable {D Y : List Nd} {at_ : Nat} {nm : Bs}
theorem Grown.at (h : Grown D Y at_ nm) {j : Nat} (hj : j < D.length) : parAt Y j = parAt D j /\ kindAt Y j = kindAt D j := by
 obtain ⟨y, hy, h1, _, _, _, h5, _⟩ := h.old j _ (List.getElem?_eq_getElem hj)
 rw [parAt_at hy, kindAt_at hy, parAt_at (List.getElem?_eq_getElem hj), kindAt_at (List.getElem?_eq_getElem hj)]
 exact ⟨h5, h1⟩
theorem Grown.last (h : Grown D Y at_ nm) : parAt Y D.length = at_ /\ kindAt Y D.length = 2 := by
 obtain ⟨y, hy, h1, _, _, _, h5, _⟩ := h.new
 rw [parAt_at hy, kindAt_at hy]
 exact ⟨h5, h1⟩
theorem checkN_iff : ∀ {R : List Nd} {i : Nat}, checkN i R = 0 ↔ ∀ (j : Nat) (x : Nd), R[j]? = some x -> decide (x.kind = 1) = decide (i + j = 0) /\ oneF x = 0
 | [], i => ⟨fun _ j x hj => (by cases hj), fun _ => rfl⟩
 | y :: R, i => by
  rw [checkN]
  by_cases h1 : decide (y.kind = 1) ≠ decide (i = 0)
  ·rw [if_pos h1]
   exact ⟨fun h => (by cases h), fun h => absurd (h 0 y rfl).1 h1⟩
  rw [if_neg h1]
  by_cases h2 : oneF y ≠ 0
  ·rw [if_pos h2]
   exact ⟨fun h => absurd h h2, fun h => absurd (h 0 y rfl).2 h2⟩
  rw [if_neg h2, checkN_iff]
  refine ⟨fun h j x hj => ?_, fun h j x hj => ?_⟩
  ·cases j with
   | zero =>
    obtain rfl := Option.some.inj hj
    exact ⟨by simpa using h1, by simpa using h2⟩
   | succ j =>
    have := h j x hj
    rwa [show i + 1 + j = i + (j + 1) by omega] at this
  ·have := h (j + 1) x hj
   rwa [show i + (j + 1) = i + 1 + j by omega] at this
theorem one_same {x y : Nd} (h1 : y.kind = x.kind) (h2 : y.name = x.name) (h3 : y.attrs = x.attrs) (h4 : y.text = x.text) (h5 : y.kids.length = x.kids.length ∨ x.kind = 1 ∨ x.kind = 2) : oneF y = oneF x := by
 have hb : bareF y = bareF x := by
  unfold bareF
  rw [h1, h2, h3, h4]
  rcases h5 with h | h | h
  ·rw [h]
  ·simp [h]
  ·simp [h]
 unfold oneF
 rw [hb, h1, h2, h3, h4]
theorem grown_one (h : Grown D Y at_ nm) (hD : checkN 0 D = 0) (h0 : 0 < D.length) (hk : kindAt D at_ = 1 ∨ kindAt D at_ = 2) (hn : oneF ⟨2, nm, [], [], 0, [], none, 0, none, 0⟩ = 0) : checkN 0 Y = 0 := by
 rw [checkN_iff] at hD ⊢
 intro j y hy
 have hjl : j < D.length + 1 := by rw [<- h.len]; exact (List.getElem?_eq_some_iff.1 hy).1
 rcases Nat.lt_or_ge j D.length with hj | hj
 ·have hx := List.getElem?_eq_getElem hj
  obtain ⟨y', hy', h1, h2, h3, h4, h5, h6⟩ := h.old j _ hx
  obtain rfl := Option.some.inj (hy.symm.trans hy')
  have hd := hD j _ hx
  rw [h1]
  refine ⟨hd.1, ?_⟩
  rw [one_same h1 h2 h3 h4, hd.2]
  by_cases ha : j = at_
  ·subst ha
   rw [kindAt_at hx] at hk
   exact .inr hk
  ·rw [h6, if_neg ha]
   exact .inl rfl
 ·obtain rfl : j = D.length := by omega
  obtain ⟨y', hy', h1, h2, h3, h4, h5, h6⟩ := h.new
  obtain rfl := Option.some.inj (hy.symm.trans hy')
  rw [h1]
  refine ⟨by rw [decide_eq_false (by decide), decide_eq_false (by omega)], ?_⟩
  rw [one_same (x := ⟨2, nm, [], [], 0, [], none, 0, none, 0⟩) h1 h2 h3 h4 (.inr (.inr rfl)), hn]
def SeenR (n : Int) (s t : List Int) : Prop := ∀ k : Int, k ≠ n -> (k ∈ t ↔ k ∈ s)
theorem grown_G (h : Grown D Y at_ nm) {i : Nat} : ∀ {L s t : List Int}, (kidsG D i s L).1 = 0 -> SeenR D.length s t -> (kidsG Y i t L).1 = 0 /\ SeenR D.length (kidsG D i s L).2 (kidsG Y i t L).2 /\ ((D.length : Int) ∈ (kidsG Y i t L).2 ↔ (D.length : Int) ∈ t)
 | [], s, t, _, hr => ⟨rfl, hr, Iff.rfl⟩
 | k :: R, s, t, hg, hr => by
  have eD : kidsG D i s (k :: R) = if k < 0 ∨ (D.length : Int) <= k ∨ parAt D k ≠ i ∨ k ∈ s then (3, s) else if i = 0 /\ kindAt D k = 3 then (7, s) else kidsG D i (k :: s) R := by rw [kidsG]
  have eY : kidsG Y i t (k :: R) = if k < 0 ∨ (Y.length : Int) <= k ∨ parAt Y k ≠ i ∨ k ∈ t then (3, t) else if i = 0 /\ kindAt Y k = 3 then (7, t) else kidsG Y i (k :: t) R := by rw [kidsG]
  rw [eD] at hg ⊢
  rw [eY]
  by_cases h1 : k < 0 ∨ (D.length : Int) <= k ∨ parAt D k ≠ i ∨ k ∈ s
  ·rw [if_pos h1] at hg
   cases hg
  rw [if_neg h1] at hg ⊢
  by_cases h2 : i = 0 /\ kindAt D k = 3
  ·rw [if_pos h2] at hg
   cases hg
  rw [if_neg h2] at hg ⊢
  obtain ⟨m, rfl⟩ : ∃ m : Nat, k = m := ⟨k.toNat, by omega⟩
  have hm : m < D.length := by omega
  have hp := h.at hm
  rw [hp.1, hp.2]
  have h3 : ¬ ((m : Int) < 0 ∨ (Y.length : Int) <= m ∨ parAt D m ≠ i ∨ (m : Int) ∈ t) := by
   rintro (g | g | g | g)
   ·omega
   ·have := h.len; omega
   ·exact h1 (.inr (.inr (.inl g)))
   ·exact h1 (.inr (.inr (.inr ((hr m (by omega)).1 g))))
  rw [if_neg h3, if_neg h2]
  obtain ⟨g1, g2, g3⟩ := grown_G h (L := R) (s := (m : Int) :: s) (t := (m : Int) :: t) hg (fun k hk => by rw [List.mem_cons, List.mem_cons, hr k hk])
  exact ⟨g1, g2, g3.trans (by rw [List.mem_cons]; exact ⟨fun e => e.resolve_left (by omega), .inr⟩)⟩
theorem kidsG_app (D : List Nd) (i : Nat) : ∀ (L M s : List Int), (kidsG D i s L).1 = 0 -> kidsG D i s (L ++ M) = kidsG D i (kidsG D i s L).2 M
 | [], M, s, _ => rfl
 | k :: R, M, s, h => by
  rw [List.cons_append, kidsG]
  rw [kidsG] at h ⊢
  by_cases h1 : k < 0 ∨ (D.length : Int) <= k ∨ parAt D k ≠ i ∨ k ∈ s
  ·rw [if_pos h1] at h
   cases h
  rw [if_neg h1] at h ⊢
  by_cases h2 : i = 0 /\ kindAt D k = 3
  ·rw [if_pos h2] at h
   cases h
  rw [if_neg h2] at h ⊢
  rw [if_neg h1, if_neg h2]
  exact kidsG_app D i R M _ h
theorem grown_N (h : Grown D Y at_ nm) : ∀ (m i : Nat) (s t : List Int), i + m = D.length -> (kidsN D i s (D.drop i)).1 = 0 -> SeenR D.length s t -> ((D.length : Int) ∈ t ↔ at_ < i) ->
  (kidsN Y i t (Y.drop i)).1 = 0 /\ SeenR D.length (kidsN D i s (D.drop i)).2 (kidsN Y i t (Y.drop i)).2 /\ (at_ < D.length -> (D.length : Int) ∈ (kidsN Y i t (Y.drop i)).2)
 | 0, i, s, t, him, hg, hr, hn => by
  obtain rfl : i = D.length := by omega
  obtain ⟨y, hy, _, _, _, _, _, hk⟩ := h.new
  rw [List.drop_length] at hg ⊢
  rw [kidsN_step hy, hk]
  rw [List.drop_of_length_le (by rw [h.len]; omega)]
  exact ⟨rfl, hr, fun ha => hn.2 ha⟩
 | m + 1, i, s, t, him, hg, hr, hn => by
  have hi : i < D.length := by omega
  have hx := List.getElem?_eq_getElem hi
  obtain ⟨y, hy, _, _, _, _, _, hk⟩ := h.old i _ hx
  rw [kidsN_step hx] at hg ⊢
  by_cases h1 : (kidsG D i s D[i].kids).1 ≠ 0
  ·rw [if_pos h1] at hg
   exact absurd hg h1
  rw [if_neg h1] at hg ⊢
  have h1' : (kidsG D i s D[i].kids).1 = 0 := by simpa using h1
  obtain ⟨g1, g2, g3⟩ := grown_G h h1' hr
  rw [kidsN_step hy]
  by_cases ha : i = at_
  ·rw [if_pos ha] at hk
   have e : kidsG Y i t y.kids = (0, (D.length : Int) :: (kidsG Y i t D[i].kids).2) := by
    rw [hk, kidsG_app Y i _ _ _ g1, kidsG, if_neg, if_neg]
    ·rfl
    ·rintro ⟨_, g⟩
     rw [h.last.2] at g
     cases g
    ·rintro (g | g | g | g)
     ·omega
     ·have := h.len; omega
     ·exact g (by rw [ha]; exact h.last.1)
     ·exact absurd (hn.1 (g3.1 g)) (by omega)
   rw [e, if_neg (by simp)]
   refine grown_N h m (i + 1) _ _ (by omega) hg (fun k hk' => ?_) ⟨fun _ => by omega, fun _ => List.mem_cons_self⟩
   rw [List.mem_cons]
   exact ⟨fun g => (g2 k hk').1 (g.resolve_left hk'), fun g => .inr ((g2 k hk').2 g)⟩
  ·rw [if_neg ha] at hk
   rw [hk, if_neg (by simpa using g1)]
   exact grown_N h m (i + 1) _ _ (by omega) hg g2 (by rw [g3, hn]; omega)
theorem kidsO_iff {s : List Int} : ∀ {R : List Nd} {i : Nat}, kidsO s i R = 0 ↔ ∀ (j : Nat) (x : Nd), R[j]? = some x -> x.parent = -1 ∨ ((i + j : Nat) : Int) ∈ s
 | [], i => ⟨fun _ j x hj => (by cases hj), fun _ => rfl⟩
 | y :: R, i => by
  refine ⟨fun h => kidsO_ok h, fun h => ?_⟩
  rw [kidsO, if_neg]
  ·rw [kidsO_iff]
   intro j x hj
   have := h (j + 1) x hj
   rwa [show i + (j + 1) = i + 1 + j by omega] at this
  ·rintro ⟨g1, g2⟩
   rcases h 0 y rfl with g | g
   ·exact g1 g
   ·exact g2 g
theorem grown_kids (h : Grown D Y at_ nm) (hD : kidsF D = 0) (hat : at_ < D.length) : kidsF Y = 0 := by
 unfold kidsF at hD ⊢
 by_cases h1 : (kidsN D 0 [] D).1 ≠ 0
 ·rw [if_pos h1] at hD
  exact absurd hD h1
 rw [if_neg h1] at hD
 by_cases h2 : kidsO (kidsN D 0 [] D).2 0 D ≠ 0
 ·rw [if_pos h2] at hD
  cases hD
 rw [if_neg h2] at hD
 by_cases h3 : parAt D 0 ≠ -1
 ·rw [if_pos h3] at hD
  cases hD
 obtain ⟨g1, g2, g3⟩ := grown_N h D.length 0 [] [] (by omega) (by simpa using h1) (fun k _ => Iff.rfl) (by simp)
 rw [List.drop_zero, List.drop_zero] at g2
 rw [List.drop_zero] at g1 g3
 have h2' : kidsO (kidsN D 0 [] D).2 0 D = 0 := by simpa using h2
 rw [if_neg (by simpa using g1), if_neg, if_neg]
 ·have := (h.at (j := 0) (by omega)).1
  simp only [Int.ofNat_zero, Int.cast_ofNat_Int] at this
  rw [show parAt Y 0 = parAt D 0 from this]
  exact h3
 ·intro hne
  apply hne
  rw [kidsO_iff]
  intro j y hy
  have hjl : j < D.length + 1 := by rw [<- h.len]; exact (List.getElem?_eq_some_iff.1 hy).1
  rw [Nat.zero_add]
  rcases Nat.lt_or_ge j D.length with hj | hj
  ·have hx := List.getElem?_eq_getElem hj
   obtain ⟨y', hy', _, _, _, _, h5, _⟩ := h.old j _ hx
   obtain rfl := Option.some.inj (hy.symm.trans hy')
   rcases kidsO_iff.1 h2' j _ hx with g | g
   ·exact .inl (h5.trans g)
   ·rw [Nat.zero_add] at g
    exact .inr ((g2 j (by omega)).2 g)
  ·obtain rfl : j = D.length := by omega
   exact .inr (g3 hat)
theorem checkU_iff {D : List Nd} : ∀ {m i : Nat}, checkU D i m = 0 ↔ ∀ j, i <= j -> j < i + m -> upF D (D.length + 1) j <= D.length /\ upF D (D.length + 1) j <= 40
 | 0, i => ⟨fun _ j h1 h2 => by omega, fun _ => rfl⟩
 | m + 1, i => by
  rw [checkU]
  by_cases g1 : D.length < upF D (D.length + 1) i
  ·rw [if_pos g1]
   exact ⟨fun h => (by cases h), fun h => by have := h i (Nat.le_refl _) (by omega); omega⟩
  rw [if_neg g1]
  by_cases g2 : 40 < upF D (D.length + 1) i
  ·rw [if_pos g2]
   exact ⟨fun h => (by cases h), fun h => by have := h i (Nat.le_refl _) (by omega); omega⟩
  rw [if_neg g2, checkU_iff]
  refine ⟨fun h j h1 h2 => ?_, fun h j h1 h2 => h j (by omega) (by omega)⟩
  rcases Nat.lt_or_ge i j with hj | hj
  ·exact h j hj (by omega)
  ·obtain rfl : j = i := by omega
   omega
theorem grown_upF (h : Grown D Y at_ nm) (hO : OkD D) : ∀ (f : Nat) (j : Nat), j < D.length -> upF Y f j = upF D f j
 | 0, j, _ => rfl
 | f + 1, j, hj => by
  rw [upF, upF, (h.at hj).1]
  by_cases h1 : 0 <= parAt D j
  ·rw [if_pos h1, if_pos h1]
   have hr := hO.par j
   obtain ⟨m, hm⟩ : ∃ m : Nat, parAt D j = m := ⟨(parAt D j).toNat, by omega⟩
   rw [hm, grown_upF h hO f m (by omega)]
  ·rw [if_neg h1, if_neg h1]
theorem grown_check (h : Grown D Y at_ nm) (hD : checkF D = 0) (hl : D.length < 200) (hat : at_ < D.length) (hk : kindAt D at_ = 1 ∨ kindAt D at_ = 2) (hu : upF D (D.length + 1) at_ + 1 <= 40) (hn : oneF ⟨2, nm, [], [], 0, [], none, 0, none, 0⟩ = 0) : checkF Y = 0 := by
 have hG := check_ok hD
 unfold checkF at hD ⊢
 rw [if_neg (by omega), if_neg (by omega)] at hD
 by_cases h3 : checkN 0 D ≠ 0
 ·rw [if_pos h3] at hD
  exact absurd hD h3
 rw [if_neg h3] at hD
 by_cases h4 : kidsF D ≠ 0
 ·rw [if_pos h4] at hD
  exact absurd hD h4
 rw [if_neg h4] at hD
 have e1 := grown_one h (by simpa using h3) hG.len.1 hk hn
 have e2 := grown_kids h (by simpa using h4) hat
 rw [if_neg (by rw [h.len]; omega), if_neg (by rw [h.len]; omega), if_neg (by simpa using e1), if_neg (by simpa using e2), checkU_iff]
 intro j _ hj
 rw [Nat.zero_add, h.len] at hj
 rw [h.len]
 have hold : ∀ m, m < D.length -> upF Y (D.length + 1 + 1) m <= D.length /\ upF Y (D.length + 1 + 1) m <= 40 /\ upF Y (D.length + 1) m = upF D (D.length + 1) m := fun m hm => by
  have g := checkU_iff.1 hD m (Nat.zero_le _) (by omega)
  rw [grown_upF h hG.toOkD _ m hm, grown_upF h hG.toOkD _ m hm, upF_more (by omega)]
  exact ⟨g.1, g.2, rfl⟩
 rcases Nat.lt_or_ge j D.length with hjl | hjl
 ·have := hold j hjl
  omega
 ·obtain rfl : j = D.length := by omega
  rw [upF, h.last.1, if_pos (by omega)]
  have h5 := (hold at_ hat).2.2
  rw [h5]
  have := hG.up at_ hat
  omega
end
end doc
namespace doc
open Go.RowKit base tok
set_option linter.unusedSimpArgs false
section
variable {D Y : List Nd} {at_ : Nat} {nm : Bs} {L : List Sy} {s0 : Sy}
theorem Grown.attrs (h : Grown D Y at_ nm) {j : Nat} (hj : j < D.length) : attrsAt Y j = attrsAt D j := by
 obtain ⟨y, hy, _, _, h3, _, _, _⟩ := h.old j _ (List.getElem?_eq_getElem hj)
 rw [attrsAt_at hy, attrsAt_at (List.getElem?_eq_getElem hj), h3]
theorem Grown.item (h : Grown D Y at_ nm) (hL : L.length = D.length) {j : Nat} (hj : j < D.length) : itemF Y (L ++ [s0]) j = itemF D L j := by
 unfold itemF
 rw [(h.at hj).2]
 have : dispAt (L ++ [s0]) j = dispAt L j := by
  unfold dispAt
  rw [Int.toNat_natCast, List.getElem?_append_left (by omega)]
 rw [this]
theorem numK_last {Y : List Nd} {M : List Sy} {n j : Nat} (hj : j ≠ n) : ∀ (K : List Int) (o : Nat -> Int) (nx : Int), numK Y M o nx (K ++ [(n : Int)]) j = numK Y M o nx K j
 | [], o, nx => by
  rw [List.nil_append, numK, numK]
  split
  ·rw [numK, Int.toNat_natCast]
   unfold upd
   rw [if_neg hj]
  ·rw [numK]
 | k :: R, o, nx => by
  rw [List.cons_append, numK]
  conv => rhs; rw [numK]
  split
  ·exact numK_last hj R _ _
  ·exact numK_last hj R _ _
theorem grown_K (h : Grown D Y at_ nm) (hL : L.length = D.length) : ∀ (K : List Int) (oY oD : Nat -> Int) (nx : Int), (∀ k ∈ K, 0 <= k /\ k < (D.length : Int)) -> (∀ j, j < D.length -> oY j = oD j) -> ∀ j, j < D.length -> numK Y (L ++ [s0]) oY nx K j = numK D L oD nx K j
 | [], oY, oD, nx, _, ho, j, hj => ho j hj
 | k :: R, oY, oD, nx, hK, ho, j, hj => by
  obtain ⟨m, rfl⟩ : ∃ m : Nat, k = m := ⟨k.toNat, by have := hK k List.mem_cons_self; omega⟩
  have hm : m < D.length := by have := hK m List.mem_cons_self; omega
  rw [numK]
  conv => rhs; rw [numK]
  rw [h.item hL hm, h.attrs hm]
  have hR : ∀ k ∈ R, 0 <= k /\ k < (D.length : Int) := fun k hk => hK k (List.mem_cons_of_mem _ hk)
  split
  ·refine grown_K h hL R _ _ _ hR (fun i hi => ?_) j hj
   unfold upd
   split
   ·rfl
   ·exact ho i hi
  ·exact grown_K h hL R _ _ _ hR ho j hj
theorem grown_P (h : Grown D Y at_ nm) (hL : L.length = D.length) (hO : OkD D) : ∀ (m i : Nat) (oY oD : Nat -> Int), i + m = D.length -> (∀ j, j < D.length -> oY j = oD j) -> ∀ j, j < D.length -> numP Y (L ++ [s0]) i oY (Y.drop i) j = numP D L i oD (D.drop i) j
 | 0, i, oY, oD, him, ho, j, hj => by
  obtain rfl : i = D.length := by omega
  obtain ⟨y, hy, _, _, _, _, hp, hk⟩ := h.new
  rw [numP_step hy, List.drop_length, List.drop_of_length_le (by rw [h.len]; omega), numP, numP]
  unfold numX
  rw [if_neg (fun g => by rw [hp] at g; omega), hk, numK]
  exact ho j hj
 | m + 1, i, oY, oD, him, ho, j, hj => by
  have hi : i < D.length := by omega
  have hx := List.getElem?_eq_getElem hi
  obtain ⟨y, hy, _, _, ha, _, hp, hk⟩ := h.old i _ hx
  rw [numP_step hy, numP_step hx]
  refine grown_P h hL hO m (i + 1) _ _ (by omega) (fun k hk' => ?_) j hj
  have hK : ∀ k ∈ D[i].kids, 0 <= k /\ k < (D.length : Int) := hO.kids _ (List.mem_of_getElem? hx)
  have e : ∀ k, k < D.length -> numK Y (L ++ [s0]) oY ((toldF startB y.attrs).getD 1) y.kids k = numK D L oD ((toldF startB D[i].attrs).getD 1) D[i].kids k := fun k hk2 => by
   rw [ha, hk]
   by_cases g : i = at_
   ·rw [if_pos g, numK_last (by omega)]
    exact grown_K h hL _ _ _ _ hK ho k hk2
   ·rw [if_neg g]
    exact grown_K h hL _ _ _ _ hK ho k hk2
  unfold numX
  rw [hp, h.item hL hi]
  split
  ·unfold upd
   split
   ·rw [ha]
   ·exact e k hk'
  ·exact e k hk'
theorem grown_num (h : Grown D Y at_ nm) (hL : L.length = D.length) (hO : OkD D) {j : Nat} (hj : j < D.length) : numO Y (L ++ [s0]) j = numO D L j := by
 have := grown_P (s0 := s0) h hL hO D.length 0 (fun _ => 0) (fun _ => 0) (by omega) (fun _ _ => rfl) j hj
 rwa [List.drop_zero, List.drop_zero] at this
theorem fitsL_app : ∀ (L M : List Sy), fitsL (L ++ M) = (fitsL L && fitsL M)
 | [], M => by rw [List.nil_append, fitsL, Bool.true_and]
 | s :: L, M => by rw [List.cons_append, fitsL, fitsL, fitsL_app L M, Bool.and_assoc]
theorem grown_fits (h : Grown D Y at_ nm) (hD : fitsF D L = 0) (hs : fitsG s0 0 59 = true) (hl : D.length < 200) (hat : at_ < D.length) (hk : kindAt D at_ = 1 ∨ kindAt D at_ = 2) (hu : upF D (D.length + 1) at_ + 1 <= 40) (hn : oneF ⟨2, nm, [], [], 0, [], none, 0, none, 0⟩ = 0) : fitsF Y (L ++ [s0]) = 0 := by
 have hlen := (fits_ok hD).2
 unfold fitsF at hD ⊢
 by_cases h1 : checkF D ≠ 0
 ·rw [if_pos h1] at hD
  exact absurd hD h1
 rw [if_neg h1, if_neg (by simpa using hlen)] at hD
 have hf : fitsL L = true := by
  cases e : fitsL L with
  | true => rfl
  | false => rw [e] at hD; cases hD
 have hc := grown_check h (by simpa using h1) hl hat hk hu hn
 rw [if_neg (by simpa using hc), if_neg (by rw [List.length_append, h.len, hlen]; simp), fitsL_app, hf, fitsL, fitsL, hs]
 rfl
end
end doc
namespace doc
open Go.RowKit base tok
set_option linter.unusedSimpArgs false
theorem Alike.len : ∀ {E D : List Nd}, Alike E D -> E.length = D.length
 | [], [], _ => rfl
 | a :: E, b :: D, h => by rw [List.length_cons, List.length_cons, Alike.len h.2]
 | [], b :: D, h => absurd h (by simp [Alike])
 | a :: E, [], h => absurd h (by simp [Alike])
theorem Alike.get : ∀ {E D : List Nd}, Alike E D -> ∀ {j : Nat} {x : Nd}, D[j]? = some x -> ∃ y, E[j]? = some y /\ y.Like x
 | [], [], _, j, x, hj => by cases hj
 | a :: E, b :: D, h, 0, x, hj => by
  obtain rfl := Option.some.inj hj
  exact ⟨a, rfl, h.1⟩
 | a :: E, b :: D, h, j + 1, x, hj => Alike.get (E := E) (D := D) h.2 (j := j) hj
 | [], b :: D, h, j, x, hj => absurd h (by simp [Alike])
 | a :: E, [], h, j, x, hj => absurd h (by simp [Alike])
theorem Alike.tail : ∀ {E D : List Nd} (i : Nat), Alike E D -> Alike (E.drop i) (D.drop i)
 | E, D, 0, h => h
 | [], [], i + 1, _ => trivial
 | a :: E, b :: D, i + 1, h => Alike.tail i h.2
 | [], b :: D, i + 1, h => absurd h (by simp [Alike])
 | a :: E, [], i + 1, h => absurd h (by simp [Alike])
theorem Alike.par {E D : List Nd} (h : Alike E D) : parAt E = parAt D := by
 funext n
 cases hx : D[n.toNat]? with
 | none =>
  have : E[n.toNat]? = none := by
   rw [List.getElem?_eq_none_iff] at hx ⊢
   rw [h.len]
   exact hx
  unfold parAt
  rw [hx, this]
 | some x =>
  obtain ⟨y, hy, hl⟩ := h.get hx
  unfold parAt
  rw [hx, hy]
  exact hl.2.2.2.2.1
theorem Alike.kind {E D : List Nd} (h : Alike E D) : kindAt E = kindAt D := by
 funext n
 cases hx : D[n.toNat]? with
 | none =>
  have : E[n.toNat]? = none := by
   rw [List.getElem?_eq_none_iff] at hx ⊢
   rw [h.len]
   exact hx
  unfold kindAt
  rw [hx, this]
 | some x =>
  obtain ⟨y, hy, hl⟩ := h.get hx
  unfold kindAt
  rw [hx, hy]
  exact hl.1
theorem Alike.kidsG {E D : List Nd} (h : Alike E D) (i : Nat) : ∀ (L s : List Int), kidsG E i s L = kidsG D i s L
 | [], s => rfl
 | k :: R, s => by
  rw [doc.kidsG, h.par, h.kind, h.len, Alike.kidsG h i R]
  conv => rhs; rw [doc.kidsG]
theorem Alike.kidsN {E D : List Nd} (h : Alike E D) : ∀ {R S : List Nd} (i : Nat) (s : List Int), Alike R S -> kidsN E i s R = kidsN D i s S
 | [], [], i, s, _ => rfl
 | a :: R, b :: S, i, s, hr => by
  rw [doc.kidsN, hr.1.2.2.2.2.2, h.kidsG, Alike.kidsN h (i + 1) _ hr.2]
  conv => rhs; rw [doc.kidsN]
 | [], b :: S, i, s, hr => absurd hr (by simp [Alike])
 | a :: R, [], i, s, hr => absurd hr (by simp [Alike])
theorem Alike.kidsO : ∀ {R S : List Nd} (i : Nat) (s : List Int), Alike R S -> kidsO s i R = kidsO s i S
 | [], [], i, s, _ => rfl
 | a :: R, b :: S, i, s, hr => by
  rw [doc.kidsO, hr.1.2.2.2.2.1, Alike.kidsO (i + 1) s hr.2]
  conv => rhs; rw [doc.kidsO]
 | [], b :: S, i, s, hr => absurd hr (by simp [Alike])
 | a :: R, [], i, s, hr => absurd hr (by simp [Alike])
theorem Alike.upF {E D : List Nd} (h : Alike E D) : ∀ (f : Nat) (n : Int), upF E f n = upF D f n
 | 0, n => rfl
 | f + 1, n => by
  rw [doc.upF, h.par, Alike.upF h f]
  conv => rhs; rw [doc.upF]
theorem Alike.checkN : ∀ {R S : List Nd} (i : Nat), Alike R S -> checkN i R = checkN i S
 | [], [], i, _ => rfl
 | a :: R, b :: S, i, hr => by
  have e : oneF a = oneF b := one_same hr.1.1 hr.1.2.1 hr.1.2.2.1 hr.1.2.2.2.1 (.inl (by rw [hr.1.2.2.2.2.2]))
  rw [doc.checkN, hr.1.1, e, Alike.checkN (i + 1) hr.2]
  conv => rhs; rw [doc.checkN]
 | [], b :: S, i, hr => absurd hr (by simp [Alike])
 | a :: R, [], i, hr => absurd hr (by simp [Alike])
theorem Alike.checkU {E D : List Nd} (h : Alike E D) : ∀ (m i : Nat), checkU E i m = checkU D i m
 | 0, i => rfl
 | m + 1, i => by
  rw [doc.checkU, h.len, h.upF, Alike.checkU h m]
  conv => rhs; rw [doc.checkU]
theorem Alike.check {E D : List Nd} (h : Alike E D) : checkF E = checkF D := by
 unfold checkF kidsF
 rw [h.len, Alike.checkN 0 h, h.kidsN 0 [] h, Alike.kidsO 0 _ h, h.par, h.checkU]
structure Fine (x : Nd) : Prop where
 kind : I64 x.kind
 parent : I64 x.parent
 name : x.name.length <= maxLen
 text : x.text.length <= maxLen
 attrS : ∀ a ∈ x.attrs, a.1.length <= maxLen /\ a.2.length <= maxLen
 kidS : ∀ k ∈ x.kids, I64 k
theorem NdIn.fine {w : World} {B : Nat} {x : Nd} (h : NdIn w B x) : Fine x := ⟨h.kind, h.parent, h.name, h.text, h.attrS, h.kidS⟩
theorem Fine.like {x y : Nd} (h : Fine x) (hl : y.Like x) : Fine y := by
 obtain ⟨h1, h2, h3, h4, h5, h6⟩ := hl
 exact ⟨h1 ▸ h.kind, h5 ▸ h.parent, h2 ▸ h.name, h4 ▸ h.text, h3 ▸ h.attrS, h6 ▸ h.kidS⟩
theorem cap_of {w : World} {base : Nat} {e : TypeId} {k : Nat} {A : Option Addr} {n cap : Nat} {xs : List Value} (h : w.ownsRow base e k (.slice A n cap) n xs) : n <= cap /\ cap <= maxLen := by
 rcases h.2 with ⟨hv, hz⟩ | ⟨g, cap', cur, hv, _, _, h1, h2, _⟩
 ·simp only [Value.slice.injEq] at hv
  obtain ⟨_, h1, h2⟩ := hv
  exact ⟨by omega, by unfold maxLen; omega⟩
 ·simp only [Value.slice.injEq] at hv
  obtain ⟨_, _, rfl⟩ := hv
  exact ⟨h1, h2⟩
theorem rd_of {α : Type} {f : α -> List Value} {k : Nat} (hf : ∀ d, (f d).length = k) {w : World} {base : Nat} {e : TypeId} {A : Option Addr} {n cap : Nat} {V : List α} (hn : V.length = n) (h : w.ownsRow base e k (.slice A n cap) n (flatR f V)) : Rd k f w w.heap.size A n V := by
 obtain ⟨A', cap', hv, _, hr⟩ := row_rd hf hn h
 simp only [Value.slice.injEq] at hv
 obtain ⟨rfl, _, _⟩ := hv
 exact hr
theorem in_of {w : World} {B : Nat} {x : Nd} (hf : Fine x) (ha : w.ownsRow B 107 2 (.slice x.aA x.attrs.length x.aC) x.attrs.length (flatR acells x.attrs)) (hk : w.ownsRow B 3 1 (.slice x.kA x.kids.length x.kC) x.kids.length (ivs x.kids)) : NdIn w w.heap.size x := by
 rw [ivs_flat] at hk
 exact ⟨hf.kind, hf.parent, hf.name, hf.text, rd_of (f := acells) (k := 2) (fun _ => rfl) rfl ha, cap_of ha, hf.attrS, rd_of (f := icells) (k := 1) (fun _ => rfl) rfl hk, cap_of hk, hf.kidS⟩
theorem doc_of {w : World} {B G c n : Nat} {E : List Nd} (hn : E.length = n) (hr : w.ownsRow B 34 6 (.slice (some ⟨G, 0, none⟩) n c) n (flatR ncells E)) (hE : ∀ x ∈ E, NdIn w w.heap.size x) : DocAt w w.heap.size (some ⟨G, 0, none⟩) c E :=
 ⟨by rw [hn]; exact rd_of (f := ncells) (k := 6) (fun _ => rfl) hn hr, by rw [hn]; exact cap_of hr, hE⟩
theorem Alike.fine {E D : List Nd} (h : Alike E D) (hD : ∀ x ∈ D, Fine x) : ∀ y ∈ E, Fine y := fun y hy => by
 obtain ⟨j, hj⟩ := List.getElem?_of_mem hy
 have hl : j < D.length := by rw [<- h.len]; exact (List.getElem?_eq_some_iff.1 hj).1
 obtain ⟨y', hy', hlk⟩ := h.get (List.getElem?_eq_getElem hl)
 obtain rfl := Option.some.inj (hj.symm.trans hy')
 exact (hD _ (List.getElem_mem hl)).like hlk
end doc
end Go.Proofs.YthgffoanecknoaaGreatDoor
