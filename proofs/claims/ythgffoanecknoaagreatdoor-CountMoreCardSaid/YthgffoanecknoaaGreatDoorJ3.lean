/- Contracts and plain law, a bundle. -/
import Derived.Lib.Hide
import Derived.Test.YthgffoanecknoaaGreatDoorJ1
set_option linter.unusedVariables false
set_option maxRecDepth 100000
set_option maxHeartbeats 16000000
open Go.Lib (hid)
namespace Go.Proofs.YthgffoanecknoaaGreatDoor
namespace doc
open Go.RowKit base tok
set_option linter.unusedSimpArgs false
abbrev edIns (z t : Int) : Value := .agg #[.int .i64 5, .int .i64 z, .int .i64 t, .int .i64 (-1), .string ⟨#[]⟩, .string ⟨#[]⟩, .int .i64 0, .string ⟨#[]⟩, .slice none 0 0, .string ⟨#[]⟩, .int .i64 0, .slice none 0 0]
abbrev edInsC (z t : Int) : Array Value := #[.int .i64 5, .int .i64 z, .int .i64 t, .int .i64 (-1), .string ⟨#[]⟩, .string ⟨#[]⟩, .int .i64 0, .string ⟨#[]⟩, .slice none 0 0, .string ⟨#[]⟩, .int .i64 0, .slice none 0 0]
theorem below_self (P j : Nat) (w : World) : Calls Tryz.prog 111 #[ptV P 0, .int .i64 (j : Int), .int .i64 (j : Int)] w fun e w' => e = .returned (.bool true) /\ w = w' := by
 have h0 : (0 : Int) <= (j : Int) := by omega
 go_enter Tryz.func111, Tryz.ntmps111
 go_wp2_with fail
 go_loop [1] (fun x => x = .int .i64 (j : Int)) (fun _ => 0)
 case atStart => rfl
 case round =>
  subst hrel
  go_wp2_with fail
  go_ret
  exact ⟨rfl, rfl⟩
theorem insert_no (E : List Nd) (B P G n c : Nat) (q : Bool) (md z : Int) (t : Nat) (xt : Nd) (hn : E.length = n) (hG : GoodD E) (ht : E[t]? = some xt) (htk : xt.kind = 2) (htp : xt.parent = -1) (hz : ¬ (0 <= z /\ z < n)) (w : World)
  (hP : Blk w P 79 #[.slice (some ⟨G, 0, none⟩) n c, .bool q, .int .i64 md]) (hrow : w.ownsRow B 34 6 (.slice (some ⟨G, 0, none⟩) n c) n (flatR ncells E)) (hBP : B <= P) :
  Calls Tryz.prog 75 #[ptV P 0, edIns z t] w fun e w' => (∃ k : Int, k ≠ 0 /\ e = .returned (.int .i64 k)) /\ Below B w w' := by
 have HB1 := hid (show Below w.heap.size w (w.alloc (.cells (edInsC z t) 54)) from (Below.refl _ w).alloc (Nat.le_refl _) _)
 have HP1 := hid (hP.alloc (.cells (edInsC z t) 54))
 have hcap := cap_of hrow
 have HL := hid hP.lt
 have e1 : nodeV G n z = .pointer none := if_neg hz
 have hx1 : (w.alloc (.cells (edInsC z t) 54)).cell? ⟨w.heap.size, 1, none⟩ = some (.int .i64 z) := (Blk.new rfl : Blk (w.alloc (.cells (edInsC z t) 54)) w.heap.size 54 (edInsC z t)).cell 1
 clear hP hrow hG hn ht
 go_enter Tryz.func75, Tryz.ntmps75
 go_wp2_with fail
 go_quiet ((go_at_call 109; exact quiet_left (node_ct P G n c q md _ hcap _ (HP1.out.drewN _))))
 rw [e1]
 go_wp2_with fail
 go_ret
 exact ⟨⟨5, by decide, rfl⟩, base.below_drewN (HB1.out.mono (by have := HL.out; omega)) _⟩
theorem flatR_set {α : Type} {f : α -> List Value} {k : Nat} (hf : ∀ d, (f d).length = k) : ∀ {L : List α} {i j : Nat} {d d' : α} {u : Value}, L[i]? = some d -> j < k -> f d' = (f d).set j u -> (flatR f L).set (i * k + j) u = flatR f (L.set i d')
 | [], i, j, d, d', u, h, _, _ => by cases h
 | e :: L, 0, j, d, d', u, h, hj, hs => by
  obtain rfl := Option.some.inj h
  show (f e ++ flatR f L).set (0 * k + j) u = f d' ++ flatR f L
  rw [Nat.zero_mul, Nat.zero_add, List.set_append, if_pos (by rw [hf]; exact hj), hs]
 | e :: L, i + 1, j, d, d', u, h, hj, hs => by
  show (f e ++ flatR f L).set ((i + 1) * k + j) u = f e ++ flatR f (L.set i d')
  have h1 : (i + 1) * k = i * k + k := Nat.succ_mul i k
  rw [List.set_append, if_neg (by rw [hf, h1]; omega), hf, h1, show i * k + k + j - k = i * k + j by omega, flatR_set hf (L := L) (i := i) (by simpa using h) hj hs]
def Nd.more (x : Nd) (t : Int) (A' : Option Addr) (C' : Nat) : Nd := { x with kids := x.kids ++ [t], kA := A', kC := C' }
def Nd.under (x : Nd) (a : Int) : Nd := { x with parent := a }
structure Laid (w w' : World) (B P G n c : Nat) (q : Bool) (md : Int) (E : List Nd) (a t : Nat) (xa xt : Nd) (A' : Option Addr) (C' : Nat) : Prop where
 ed : Blk w' P 79 #[.slice (some ⟨G, 0, none⟩) n c, .bool q, .int .i64 md]
 row : w'.ownsRow B 34 6 (.slice (some ⟨G, 0, none⟩) n c) n (flatR ncells ((E.set a (xa.more t A' C')).set t (xt.under a)))
 kids : w'.ownsRow B 3 1 (.slice A' (xa.kids.length + 1) C') (xa.kids.length + 1) (ivs (xa.kids ++ [(t : Int)]))
 same : ∀ k, k < w.heap.size -> k ≠ G -> (∀ b, xa.kA = some b -> k ≠ b.block) -> w'.heap[k]? = w.heap[k]?
theorem insert_yes (E : List Nd) (B P G n c : Nat) (q : Bool) (md : Int) (t : Nat) (xt : Nd) (hn : E.length = n) (hG : GoodD E) (ht : E[t]? = some xt) (htk : xt.kind = 2) (htp : xt.parent = -1) (htks : xt.kids = []) (hpt : ∀ m : Int, parAt E m ≠ t) (a : Nat) (ha : a < n) (w : World)
  (hP : Blk w P 79 #[.slice (some ⟨G, 0, none⟩) n c, .bool q, .int .i64 md]) (hrow : w.ownsRow B 34 6 (.slice (some ⟨G, 0, none⟩) n c) n (flatR ncells E)) (hDoc : DocAt w w.heap.size (some ⟨G, 0, none⟩) c E) (hMi : Mines w B G E) (hlow : G < P /\ ∀ x ∈ E, (∀ b, x.kA = some b -> b.block < P) /\ (∀ b, x.aA = some b -> b.block < P)) (hks : ∀ x ∈ E, x.kids.length <= 100000) (hBP : B <= P) :
  Calls Tryz.prog 75 #[ptV P 0, edIns a t] w fun e w' => ((∃ k : Int, k ≠ 0 /\ e = .returned (.int .i64 k)) ∨ (e = .returned (.int .i64 0) /\ a ≠ t /\ (kindAt E a = 1 ∨ kindAt E a = 2) /\ upF E (n + 1) a + 1 <= 40 /\ ∃ (xa : Nd) (A' : Option Addr) (C' : Nat), E[a]? = some xa /\ Laid w w' B P G n c q md E a t xa xt A' C')) /\ Below B w w' := by
 have HB1 := hid (show Below w.heap.size w (w.alloc (.cells (edInsC a t) 54)) from (Below.refl _ w).alloc (Nat.le_refl _) _)
 have HP1 := hid (hP.alloc (.cells (edInsC a t) 54))
 have HX1 := hid (Blk.new rfl : Blk (w.alloc (.cells (edInsC a t) 54)) w.heap.size 54 (edInsC a t))
 have hcap := cap_of hrow
 have HL := hid hP.lt
 have htn : t < n := by rw [<- hn]; exact (List.getElem?_eq_some_iff.1 ht).1
 have hn2 := hG.len.2
 rw [hn] at hn2
 have e1 : nodeV G n (a : Int) = ptV G (a * 6) := by unfold nodeV; rw [if_pos (by omega), Int.toNat_natCast]
 have e2 : nodeV G n (t : Int) = ptV G (t * 6) := by unfold nodeV; rw [if_pos (by omega), Int.toNat_natCast]
 obtain ⟨xa, hxa⟩ : ∃ xa, E[a]? = some xa := ⟨_, List.getElem?_eq_getElem (by rw [hn]; exact ha)⟩
 have hrd := hDoc.row
 rw [hn] at hrd
 obtain ⟨b, off, x, hA, hbb, hx, g0, g1, g2, g3, g4, g5⟩ := ndRd hrd ha
 cases hA
 obtain rfl := Option.some.inj (hxa.symm.trans hx)
 obtain ⟨b, off, x, hA, hbt, hx', t0, t1, t2, t3, t4, t5⟩ := ndRd hrd htn
 cases hA
 obtain rfl := Option.some.inj (ht.symm.trans hx')
 rw [Nat.zero_add] at g0 g5 t0 t4
 rw [htk] at t0
 rw [htp] at t4
 have HCell := hid (fun W' (h : Below w.heap.size w W') => (show W'.cell? ⟨G, a * 6, none⟩ = some (.int .i64 xa.kind) /\ W'.cell? ⟨G, a * 6 + 5, none⟩ = some (.slice xa.kA xa.kids.length xa.kC) /\ W'.cell? ⟨G, t * 6, none⟩ = some (.int .i64 2) /\ W'.cell? ⟨G, t * 6 + 4, none⟩ = some (.int .i64 (-1)) from
  ⟨(h.cell (p := ⟨G, _, none⟩) hbb).trans g0, (h.cell (p := ⟨G, _, none⟩) hbb).trans g5, (h.cell (p := ⟨G, _, none⟩) hbb).trans t0, (h.cell (p := ⟨G, _, none⟩) hbb).trans t4⟩))
 obtain ⟨c0, c5, d0, d4⟩ := HCell.out _ HB1.out
 have hka := kindAt_at hxa
 have cPar := hid (parent_ct xa.kind)
 have HDoc := hid hDoc
 have HG := hid hG
 have HN := hid hn
 have x1 : (w.alloc (.cells (edInsC a t) 54)).cell? ⟨w.heap.size, 1, none⟩ = some (.int .i64 (a : Int)) := HX1.out.cell 1
 have x2 : (w.alloc (.cells (edInsC a t) 54)).cell? ⟨w.heap.size, 2, none⟩ = some (.int .i64 (t : Int)) := HX1.out.cell 2
 have x3 : (w.alloc (.cells (edInsC a t) 54)).cell? ⟨w.heap.size, 3, none⟩ = some (.int .i64 (-1)) := HX1.out.cell 3
 have hBw : B <= w.heap.size := by have := HL.out; omega
 have hpt' := hpt
 have hma := List.mem_of_getElem? hxa
 have hksa := hks xa hma
 have HMa := hid (hMi.1 xa hma)
 have HRow := hid hrow
 have hGP := hlow.1
 have hkP := hid ((hlow.2 xa hma).1)
 have HXa := hid hxa
 have HXt := hid ht
 have hGB := (owns_lt hrow rfl).1
 have HPw := hid hP
 clear hMi hlow hks hma hrow hxa
 clear hP hDoc hG hrd hx hx' g0 g1 g2 g3 g4 g5 t0 t1 t2 t3 t4 t5 hn hpt
 by_cases hk : ¬ (xa.kind = 1 ∨ xa.kind = 2)
 ·have hp : (decide (xa.kind = 1) || decide (xa.kind = 2)) = false := by simp; omega
  rw [hp] at cPar
  clear hk hp
  go_enter Tryz.func75, Tryz.ntmps75
  go_wp2_with fail
  go_quiet ((go_at_call 109; exact quiet_left (node_ct P G n c q md _ hcap _ (HP1.out.drewN _))))
  rw [e1, e2]
  go_wp2_with (go_at_call 103; refine (cPar.out _).mono ?_; rintro e W5 ⟨rfl, rfl⟩)
  go_ret
  exact ⟨.inl ⟨7, by decide, rfl⟩, base.below_drewN (HB1.out.mono hBw) _⟩
 have hk2 : xa.kind = 1 ∨ xa.kind = 2 := by omega
 have hp : (decide (xa.kind = 1) || decide (xa.kind = 2)) = true := by simp; omega
 rw [hp] at cPar
 have HK := hid (hka ▸ hk2 : kindAt E a = 1 ∨ kindAt E a = 2)
 have hk3 : (xa.kind == 1) = true ∨ (xa.kind == 1) = false := by cases (xa.kind == 1) <;> simp
 clear hk hp hk2 hka
 by_cases hat : a = t
 ·subst hat
  have cB := hid (below_self P a)
  rcases hk3 with hk3 | hk3
  all_goals
   go_enter Tryz.func75, Tryz.ntmps75
   go_wp2_with fail
   go_quiet ((go_at_call 109; exact quiet_left (node_ct P G n c q md _ hcap _ (HP1.out.drewN _))))
   rw [e1]
   go_wp2_with (first
    | (go_at_call 103; refine (cPar.out _).mono ?_; rintro e W5 ⟨rfl, rfl⟩)
    | (go_at_call 111; refine (cB.out _).mono ?_; rintro e W6 ⟨rfl, rfl⟩))
   go_ret
   first
    | exact ⟨.inl ⟨8, by decide, rfl⟩, base.below_drewN (HB1.out.mono hBw) _⟩
    | exact ⟨.inl ⟨7, by decide, rfl⟩, base.below_drewN (HB1.out.mono hBw) _⟩
 have HAT := hid hat
 have cB := hid (fun W' (hp : Blk W' P 79 #[.slice (some ⟨G, 0, none⟩) n c, .bool q, .int .i64 md]) (hb : Below w.heap.size w W') => below_no E P G n c q md a t HN.out HG.out ha hat hpt' hcap W' hp (by have := (HDoc.out.keep hb hb.size).row; rwa [HN.out] at this))
 have cD := hid (fun W' (hp : Blk W' P 79 #[.slice (some ⟨G, 0, none⟩) n c, .bool q, .int .i64 md]) (hb : Below w.heap.size w W') => deep_0 E P G n c q md t xt ht htks htn hcap W' hp (by have := (HDoc.out.keep hb hb.size).row; rwa [HN.out] at this))
 have cU := hid (fun W' (hb : Below w.heap.size w W') => up_ct E a (by rw [HN.out]; exact ha) (some ⟨G, 0, none⟩) c q W' (HDoc.out.keep hb hb.size) HG.out.toOkD (by rw [HN.out]; exact hn2))
 obtain ⟨u, hu⟩ : ∃ u, upF E (n + 1) a = u := ⟨_, rfl⟩
 rw [HN.out, hu] at cU
 rw [hu]
 have hub : u <= n + 1 := by rw [<- hu]; exact upF_le E _ _
 have s1 : IntKind.i64.wrap ((u : Int) + 1) = (u : Int) + 1 := IntWalk.i64_in _ (by omega)
 have s2 : IntKind.i64.wrap ((u : Int) + 1 + 0) = (u : Int) + 1 := by rw [Int.add_zero]; exact s1
 clear hat hu ht hub
 by_cases h40 : 40 < u + 1
 ·have h40' : (40 : Int) < (u : Int) + 1 := by omega
  clear h40
  rcases hk3 with hk3 | hk3
  all_goals
   go_enter Tryz.func75, Tryz.ntmps75
   go_wp2_with fail
   go_quiet ((go_at_call 109; exact quiet_left (node_ct P G n c q md _ hcap _ (HP1.out.drewN _))))
   rw [e1, e2]
   go_wp2_with (first
    | (go_at_call 103; refine (cPar.out _).mono ?_; rintro e W5 ⟨rfl, rfl⟩)
    | (go_at_call 111; refine (cB.out _ (HP1.out.drewN _) (base.below_drewN HB1.out _)).mono ?_; rintro e W6 ⟨rfl, rfl⟩))
   obtain ⟨Y, hY⟩ : ∃ Y, (w.alloc (.cells (edInsC a t) 54)).drewN nq = Y := ⟨_, rfl⟩
   simp only [edInsC] at hY
   rw [hY]
   have hBY := hid (show Below w.heap.size w Y by rw [<- hY]; exact base.below_drewN HB1.out _)
   have hPY := hid (show Blk Y P 79 #[.slice (some ⟨G, 0, none⟩) n c, .bool q, .int .i64 md] by rw [<- hY]; exact HP1.out.drewN _)
   have hXY := hid (show Blk Y w.heap.size 54 (edInsC a t) by rw [<- hY]; exact HX1.out.drewN _)
   clear hY x1 x2 x3 c0 c5 d0 d4
   have y1 : Y.cell? ⟨w.heap.size, 1, none⟩ = some (.int .i64 (a : Int)) := hXY.out.cell 1
   have y2 : Y.cell? ⟨w.heap.size, 2, none⟩ = some (.int .i64 (t : Int)) := hXY.out.cell 2
   have p0 : Y.cell? ⟨P, 0, none⟩ = some (.slice (some ⟨G, 0, none⟩) n c) := hPY.out.cell 0
   have p1 : Y.cell? ⟨P, 1, none⟩ = some (.bool q) := hPY.out.cell 1
   have l1 : w.heap.size < Y.heap.size := hXY.out.lt
   have l2 : P < Y.heap.size := hPY.out.lt
   have ZB : Y.heap.size <= Y.heap.size := Nat.le_refl _
   go_region_held3 (fun w' => (∀ b o, b < Y.heap.size -> w'.cell? ⟨b, o, none⟩ = Y.cell? ⟨b, o, none⟩) /\ Below Y.heap.size Y w')
    (first | exact As.beg | assumption | exact As.on hb3 (by assumption) ZB | exact hs4.out)
    (first
     | (go_at_call 52; refine (cU.out _ (hBY.out.trans ((As.beg (B := Y.heap.size)).2.mono hBY.out.size))).mono ?_; rintro e W7 ⟨rfl, hb3⟩; have hs4 := hid (As.on (B := Y.heap.size) (W0 := Y) hb3 As.beg ZB); have hP7 := hid (hPY.out.below hs4.out.2 l2))
     | (go_at_call 112; (first | refine (cD.out _ hP7.out (hBY.out.trans (hs4.out.2.mono hBY.out.size))).mono ?_ | refine (cD.out _ (hPY.out.below (As.beg (B := Y.heap.size)).2 l2) (hBY.out.trans ((As.beg (B := Y.heap.size)).2.mono hBY.out.size))).mono ?_); rintro e W8 ⟨rfl, rfl⟩))
   all_goals
    rename_i hHeld
    have HW := hid (hBY.out.trans (hHeld.2.mono hBY.out.size))
    clear hHeld
    go_wp2_with fail
    go_ret
    exact ⟨.inl ⟨2, by decide, rfl⟩, HW.out.mono hBw⟩
 have h40' : ¬ (40 : Int) < (u : Int) + 1 := by omega
 rcases hk3 with hk3 | hk3
 all_goals
  go_enter Tryz.func75, Tryz.ntmps75
  go_wp2_with fail
  go_quiet ((go_at_call 109; exact quiet_left (node_ct P G n c q md _ hcap _ (HP1.out.drewN _))))
  rw [e1, e2]
  go_wp2_with (first
   | (go_at_call 103; refine (cPar.out _).mono ?_; rintro e W5 ⟨rfl, rfl⟩)
   | (go_at_call 111; refine (cB.out _ (HP1.out.drewN _) (base.below_drewN HB1.out _)).mono ?_; rintro e W6 ⟨rfl, rfl⟩))
  obtain ⟨Y, hY⟩ : ∃ Y, (w.alloc (.cells (edInsC a t) 54)).drewN nq = Y := ⟨_, rfl⟩
  simp only [edInsC] at hY
  rw [hY]
  have hBY := hid (show Below w.heap.size w Y by rw [<- hY]; exact base.below_drewN HB1.out _)
  have hPY := hid (show Blk Y P 79 #[.slice (some ⟨G, 0, none⟩) n c, .bool q, .int .i64 md] by rw [<- hY]; exact HP1.out.drewN _)
  have hXY := hid (show Blk Y w.heap.size 54 (edInsC a t) by rw [<- hY]; exact HX1.out.drewN _)
  clear hY x1 x2 x3 c0 c5 d0 d4
  have y1 : Y.cell? ⟨w.heap.size, 1, none⟩ = some (.int .i64 (a : Int)) := hXY.out.cell 1
  have y2 : Y.cell? ⟨w.heap.size, 2, none⟩ = some (.int .i64 (t : Int)) := hXY.out.cell 2
  have p0 : Y.cell? ⟨P, 0, none⟩ = some (.slice (some ⟨G, 0, none⟩) n c) := hPY.out.cell 0
  have p1 : Y.cell? ⟨P, 1, none⟩ = some (.bool q) := hPY.out.cell 1
  have l1 : w.heap.size < Y.heap.size := hXY.out.lt
  have l2 : P < Y.heap.size := hPY.out.lt
  have ZB : Y.heap.size <= Y.heap.size := Nat.le_refl _
  go_region_held3 (fun w' => (∀ b o, b < Y.heap.size -> w'.cell? ⟨b, o, none⟩ = Y.cell? ⟨b, o, none⟩) /\ Below Y.heap.size Y w')
   (first | exact As.beg | assumption | exact As.on hb3 (by assumption) ZB | exact hs4.out)
   (first
    | (go_at_call 52; refine (cU.out _ (hBY.out.trans ((As.beg (B := Y.heap.size)).2.mono hBY.out.size))).mono ?_; rintro e W7 ⟨rfl, hb3⟩; have hs4 := hid (As.on (B := Y.heap.size) (W0 := Y) hb3 As.beg ZB); have hP7 := hid (hPY.out.below hs4.out.2 l2))
    | (go_at_call 112; (first | refine (cD.out _ hP7.out (hBY.out.trans (hs4.out.2.mono hBY.out.size))).mono ?_ | refine (cD.out _ (hPY.out.below (As.beg (B := Y.heap.size)).2 l2) (hBY.out.trans ((As.beg (B := Y.heap.size)).2.mono hBY.out.size))).mono ?_); rintro e W8 ⟨rfl, rfl⟩))
  all_goals
   rename_i hHeld
   have HW := hid (hBY.out.trans (hHeld.2.mono hBY.out.size))
   have HWY := hid hHeld.2
   clear hHeld
   have l3 : P < W7.heap.size := Nat.lt_of_lt_of_le l2 HWY.out.size
   have l5 : G < W7.heap.size := by omega
   have l4 : w.heap.size < W7.heap.size := Nat.lt_of_lt_of_le l1 HWY.out.size
   have z1 := (HWY.out.cell (p := ⟨w.heap.size, 1, none⟩) l1).trans y1
   have z2 := (HWY.out.cell (p := ⟨w.heap.size, 2, none⟩) l1).trans y2
   obtain ⟨zc0, zc5, zd0, zd4⟩ := HCell.out _ HW.out
   have HK7 := hid (row_on HMa.out.1.kids HW.out)
   have HR7 := hid (row_on HRow.out HW.out)
   have HoA := hid (show (W7.drew.alloc (.cells #[.int .i64 (t : Int)] 3)).ownsRow B 3 1 (.slice xa.kA xa.kids.length xa.kC) xa.kids.length (ivs xa.kids) from (show W7.drew.ownsRow B 3 1 (.slice xa.kA xa.kids.length xa.kC) xa.kids.length (ivs xa.kids) from HK7.out).alloc _)
   have HbA := hid (show B <= (W7.drew.alloc (.cells #[.int .i64 (t : Int)] 3)).heap.size from by rw [World.size_alloc]; show B <= W7.heap.size + 1; omega)
   have HxA := hid (show (W7.drew.alloc (.cells #[.int .i64 (t : Int)] 3)).cell? ⟨W7.heap.size, 0, none⟩ = some (.int .i64 (t : Int)) from (Blk.new (w := W7.drew) (t := 3) (cs := #[.int .i64 (t : Int)]) rfl).cell 0)
   clear y1 y2 p0 p1
   go_wp2_with fail
   go_region_law (go_simp; go_at_call 113; refine (insert_ct B xa.kids.length W7.heap.size (.slice xa.kA xa.kids.length xa.kC) xa.kids rfl hksa (t : Int) (W7.drew.alloc (.cells #[.int .i64 (t : Int)] 3)) HoA.out HbA.out HxA.out).mono ?_; rintro e W9 ⟨v', rfl, ho9, hg9, ha9⟩; obtain ⟨A', C', rfl⟩ := row_form ho9; have HO9 := hid ho9; have HG9 := hid hg9; have HA9 := hid ha9; have HGs := hid (show W9.heap[G]? = W7.heap[G]? from (hg9.block G (show G < (W7.drew.alloc _).heap.size by rw [World.size_alloc]; show G < W7.heap.size + 1; omega) (fun e => by cases hkA : xa.kA with | none => rw [hkA] at e; cases e | some b => rw [hkA] at e; exact HMa.out.1.kG b hkA (Option.some.inj e).symm)).trans (Below.heap_alloc W7.drew _ G (show G < W7.heap.size by omega))); have HR9 := hid (owns_same HR7.out (fun g hg => by obtain rfl := Option.some.inj hg; exact HGs.out)); have f9 := HR9.out.frozenAt; have k9 : W9.cell? ⟨G, a * 6 + 5, none⟩ = some (.slice xa.kA xa.kids.length xa.kC) := (World.cell?_of_block (a := ⟨G, a * 6 + 5, none⟩) HGs.out).trans zc5; clear ho9 hg9 ha9)
   all_goals
    have HS9 : ∀ k, k < W7.heap.size -> (∀ b, xa.kA = some b -> k ≠ b.block) -> W9.heap[k]? = W7.heap[k]? := fun k hk hb => (HG9.out.block k (show k < (W7.drew.alloc _).heap.size by rw [World.size_alloc]; show k < W7.heap.size + 1; omega) (fun e => by
     cases hkA : xa.kA with
     | none => rw [hkA] at e; cases e
     | some b => rw [hkA] at e; exact hb b hkA (Option.some.inj e))).trans (Below.heap_alloc W7.drew _ k hk)
    have hkb : ∀ b, xa.kA = some b -> w.heap.size ≠ b.block := fun b hb => by have := hkP.out b hb; have := HL.out; omega
    have hPb : ∀ b, xa.kA = some b -> P ≠ b.block := fun b hb => by have := hkP.out b hb; omega
    have hA'G : ∀ b, A' = some b -> b.block ≠ G := fun b hb => by
     subst hb
     rcases HA9.out with h | h
     ·cases hkA : xa.kA with
      | none => rw [hkA] at h; cases h
      | some b' => rw [hkA] at h; have h : b.block = b'.block := Option.some.inj h; rw [h]; exact HMa.out.1.kG b' hkA
     ·have h : b.block = (W7.drew.alloc _).heap.size := Option.some.inj h
      rw [World.size_alloc] at h
      have h : b.block = W7.heap.size + 1 := h
      omega
    obtain ⟨V, hV⟩ : ∃ V, W9.setCell ⟨G, a * 6 + 5, none⟩ (.slice A' (xa.kids.length + 1) C') = V := ⟨_, rfl⟩
    have hRV := (HR9.out.stored (a * 6 + 5) (.slice A' (xa.kids.length + 1) C')).1
    rw [flatR_set (k := 6) (fun _ => rfl) (d' := xa.more t A' C') HXa.out (by decide) (by show ncells _ = _; simp [ncells, Nd.more]), hV] at hRV
    have hfV : ∀ k, k ≠ G -> V.heap[k]? = W9.heap[k]? := fun k hk => by rw [<- hV]; exact Below.heap_setCell _ _ _ k hk
    have hxt2 : (E.set a (xa.more t A' C'))[t]? = some xt := by rw [List.getElem?_set_ne HAT.out]; exact HXt.out
    have v4 : V.cell? ⟨G, t * 6 + 4, none⟩ = some (.int .i64 (-1)) := by
     refine (hRV.cellAt (t * 6 + 4) (by omega)).trans ((flatR_at (k := 6) (fun _ => rfl) hxt2 4 (by decide)).trans ?_)
     show some (Value.int .i64 xt.parent) = _
     rw [htp]
    have fV := hRV.frozenAt
    have v1 : V.cell? ⟨w.heap.size, 1, none⟩ = some (.int .i64 (a : Int)) := (World.cell?_of_block (a := ⟨w.heap.size, 1, none⟩) ((hfV _ (by show w.heap.size ≠ G; have := HL.out; omega)).trans (HS9 _ l4 hkb))).trans z1
    have HEd := hid (show Blk (V.setCell ⟨G, t * 6 + 4, none⟩ (.int .i64 (a : Int))) P 79 #[.slice (some ⟨G, 0, none⟩) n c, .bool q, .int .i64 md] from (Below.heap_setCell _ _ _ P (by show P ≠ G; omega)).trans ((hfV P (by omega)).trans ((HS9 P l3 hPb).trans ((HW.out.block P HL.out).trans HPw.out))))
    have hR2 := (hRV.stored (t * 6 + 4) (.int .i64 (a : Int))).1
    rw [flatR_set (k := 6) (fun _ => rfl) (d' := xt.under a) hxt2 (by decide) (by rfl)] at hR2
    have HR2 := hid hR2
    have HK2 := hid (show (V.setCell ⟨G, t * 6 + 4, none⟩ (.int .i64 (a : Int))).ownsRow B 3 1 (.slice A' (xa.kids.length + 1) C') (xa.kids.length + 1) (ivs (xa.kids ++ [(t : Int)])) from owns_same HO9.out (fun g hg => by
     cases hA : A' with
     | none => rw [hA] at hg; cases hg
     | some b =>
      rw [hA] at hg
      obtain rfl := Option.some.inj hg
      exact (Below.heap_setCell _ _ _ _ (hA'G b hA)).trans (hfV _ (hA'G b hA))))
    have HSm := hid (show ∀ k, k < w.heap.size -> k ≠ G -> (∀ b, xa.kA = some b -> k ≠ b.block) -> (V.setCell ⟨G, t * 6 + 4, none⟩ (.int .i64 (a : Int))).heap[k]? = w.heap[k]? from fun k hk hkG hb => (Below.heap_setCell _ _ _ k hkG).trans ((hfV k hkG).trans ((HS9 k (by omega) hb).trans (HW.out.block k hk))))
    have HBe := hid (show Below B w (V.setCell ⟨G, t * 6 + 4, none⟩ (.int .i64 (a : Int))) from by
     refine Below.setCell ?_ hGB _
     rw [<- hV]
     exact ((((HW.out.mono hBw).drew.alloc (show B <= W7.drew.heap.size by show B <= W7.heap.size; omega) _).grown HG9.out HbA.out (fun k hk => (HK7.out.lt k hk).1)).setCell hGB _))
    rw [hV]
    clear HS9 hkb hPb hA'G hRV hfV hxt2 hR2 hV f9 k9 z1 z2 zc0 zc5 zd0 zd4
    go_wp2_with fail
    go_ret
    exact ⟨.inr ⟨rfl, HAT.out, HK.out, by omega, xa, A', C', HXa.out, HEd.out, HR2.out, HK2.out, HSm.out⟩, HBe.out⟩
end doc
end Go.Proofs.YthgffoanecknoaaGreatDoor
