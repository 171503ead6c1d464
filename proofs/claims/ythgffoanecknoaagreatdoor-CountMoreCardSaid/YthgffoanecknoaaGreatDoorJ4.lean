/- Contracts and plain law, a bundle. -/
import Derived.Lib.Hide
import Derived.Test.YthgffoanecknoaaGreatDoorJ3
import Derived.Test.YthgffoanecknoaaGreatDoorJ2
import Derived.Test.YthgffoanecknoaaGreatDoorI0
import Derived.Test.YthgffoanecknoaaGreatDoorJ1
set_option linter.unusedVariables false
set_option maxRecDepth 100000
set_option maxHeartbeats 16000000
open Go.Lib (hid)
namespace Go.Proofs.YthgffoanecknoaaGreatDoor
namespace doc
open Go.RowKit base tok
set_option linter.unusedSimpArgs false
theorem does_ins (P : Nat) (w : World) : Calls Tryz.prog 56 #[ptV P 0, .int .i64 5] w fun e w' => e = .returned (.func (.func 75) #[ptV P 0] #[]) /\ w = w' := by
 go_enter Tryz.func56, Tryz.ntmps56
 go_wp2_with fail
 go_ret
 exact ⟨rfl, rfl⟩
theorem does_make (P : Nat) (w : World) : Calls Tryz.prog 56 #[ptV P 0, .int .i64 4] w fun e w' => e = .returned (.func (.func 74) #[ptV P 0] #[]) /\ w = w' := by
 go_enter Tryz.func56, Tryz.ntmps56
 go_wp2_with fail
 go_ret
 exact ⟨rfl, rfl⟩
theorem fn_nil0 (d : Nat) (f : Fn) (xs ys : Array Value) (w : World) : (Op.equalIn (d + 1) 80 (.func f xs ys) .nilFunc).run Tryz.prog w = .ok false w := by
 simp [Op.equalIn, run_underlying Tryz.underlying80]
theorem fn_nil1 (f : Fn) (xs ys : Array Value) (w : World) : (Op.equal 80 (.func f xs ys) .nilFunc).run Tryz.prog w = .ok false w := fn_nil0 9999 f xs ys w
theorem fn_nil (f : Fn) (xs ys : Array Value) (w : World) : (binOp .eql 80 (.func f xs ys) .nilFunc).run Tryz.prog w = .ok (.bool false) w := by
 simp [binOp, fn_nil1]
abbrev edMakeC (nm : Bs) : Array Value := #[.int .i64 4, .int .i64 0, .int .i64 0, .int .i64 0, .string ⟨#[]⟩, .string ⟨#[]⟩, .int .i64 2, .string (bs nm), .slice none 0 0, .string ⟨#[]⟩, .int .i64 0, .slice none 0 0]
theorem edit_ins (P : Nat) (z t : Int) (w : World) (R : Ending -> World -> Prop) (hR : ∀ W', Below w.heap.size w W' -> Calls Tryz.prog 75 #[ptV P 0, edIns z t] W' fun e w' => (∃ k : Int, e = .returned (.int .i64 k)) /\ R e w') :
  Calls Tryz.prog 33 #[ptV P 0, edIns z t] w fun e w' => (∃ k : Int, e = .returned (.int .i64 k)) /\ R e w' := by
 have HR := hid hR
 have hfn := fn_nil
 have HB := hid (show Below w.heap.size w (w.alloc (.cells (edInsC z t) 54)) from (Below.refl _ w).alloc (Nat.le_refl _) _)
 clear hR
 go_enter Tryz.func33, Tryz.ntmps33
 go_wp2_with (first
  | (go_at_call 56; refine (does_ins P _).mono ?_; rintro e W1 ⟨rfl, rfl⟩)
  | (go_at_call 75; refine (HR.out _ HB.out).mono ?_; rintro e W2 ⟨⟨k, rfl⟩, hr⟩; have HRr := hid hr; clear hr))
 go_ret
 exact ⟨⟨k, rfl⟩, HRr.out⟩
theorem edit_make (P : Nat) (nm : Bs) (w : World) (R : Ending -> World -> Prop) (hR : ∀ W', Below w.heap.size w W' -> Calls Tryz.prog 74 #[ptV P 0, edMake nm] W' fun e w' => (∃ k : Int, e = .returned (.int .i64 k)) /\ R e w') :
  Calls Tryz.prog 33 #[ptV P 0, edMake nm] w fun e w' => (∃ k : Int, e = .returned (.int .i64 k)) /\ R e w' := by
 have HR := hid hR
 have hfn := fn_nil
 have HB := hid (show Below w.heap.size w (w.alloc (.cells (edMakeC nm) 54)) from (Below.refl _ w).alloc (Nat.le_refl _) _)
 clear hR
 go_enter Tryz.func33, Tryz.ntmps33
 go_wp2_with (first
  | (go_at_call 56; refine (does_make P _).mono ?_; rintro e W1 ⟨rfl, rfl⟩)
  | (go_at_call 74; refine (HR.out _ HB.out).mono ?_; rintro e W2 ⟨⟨k, rfl⟩, hr⟩; have HRr := hid hr; clear hr))
 go_ret
 exact ⟨⟨k, rfl⟩, HRr.out⟩
end doc
namespace doc
open Go.RowKit base tok
theorem few : ∀ (n : Nat) (l : List Int), l.Nodup -> (∀ k ∈ l, 0 <= k /\ k < (n : Int)) -> l.length <= n
 | 0, [], _, _ => Nat.le_refl _
 | 0, k :: l, _, h => by have := h k List.mem_cons_self; omega
 | n + 1, l, hd, h => by
  have h1 : (l.erase (n : Int)).length <= n := few n _ (hd.erase _) (fun k hk => by
   have h2 := (hd.mem_erase_iff).1 hk
   have h3 := h k h2.2
   have h4 := h2.1
   omega)
  have h2 := List.length_erase (a := (n : Int)) (l := l)
  split at h2 <;> omega
def Seen (D : List Nd) (s : List Int) : Prop := s.Nodup /\ ∀ k ∈ s, 0 <= k /\ k < (D.length : Int)
theorem kidsG_seen {D : List Nd} {i : Nat} : ∀ {L s : List Int}, (kidsG D i s L).1 = 0 -> Seen D s -> Seen D (kidsG D i s L).2 /\ (kidsG D i s L).2.length = L.length + s.length
 | [], s, _, hs => ⟨hs, by simp [kidsG]⟩
 | k :: R, s, h, hs => by
  rw [kidsG] at h ⊢
  by_cases h1 : k < 0 ∨ (D.length : Int) <= k ∨ parAt D k ≠ i ∨ k ∈ s
  ·rw [if_pos h1] at h
   cases h
  rw [if_neg h1] at h ⊢
  by_cases h2 : i = 0 /\ kindAt D k = 3
  ·rw [if_pos h2] at h
   cases h
  rw [if_neg h2] at h ⊢
  have hk : k ∉ s := fun g => h1 (.inr (.inr (.inr g)))
  obtain ⟨g1, g2⟩ := kidsG_seen (L := R) (s := k :: s) h ⟨List.nodup_cons.2 ⟨hk, hs.1⟩, fun x hx => by
   rcases List.mem_cons.1 hx with rfl | hx
   ·omega
   ·exact hs.2 x hx⟩
  exact ⟨g1, by rw [g2, List.length_cons, List.length_cons]; omega⟩
theorem kidsN_few {D : List Nd} : ∀ {R : List Nd} {i : Nat} {s : List Int}, (kidsN D i s R).1 = 0 -> Seen D s -> ∀ x ∈ R, x.kids.length <= D.length
 | [], i, s, _, _, x, hx => by cases hx
 | y :: R, i, s, h, hs, x, hx => by
  rw [kidsN] at h
  by_cases h1 : (kidsG D i s y.kids).1 ≠ 0
  ·rw [if_pos h1] at h
   exact absurd h h1
  rw [if_neg h1] at h
  obtain ⟨g1, g2⟩ := kidsG_seen (by simpa using h1) hs
  rcases List.mem_cons.1 hx with rfl | hx
  ·have := few D.length _ g1.1 g1.2
   omega
  ·exact kidsN_few h g1 x hx
theorem kids_few {D : List Nd} (h : checkF D = 0) : ∀ x ∈ D, x.kids.length <= 200 /\ x.attrs.length <= 12 := by
 have hG := check_ok h
 have hk : (kidsN D 0 [] D).1 = 0 := by
  unfold checkF at h
  split at h
  ·cases h
  split at h
  ·cases h
  split at h
  ·rename_i g; exact absurd h g
  split at h
  ·rename_i g; exact absurd h g
  rename_i g
  have g : kidsF D = 0 := by simpa using g
  unfold kidsF at g
  split at g
  ·rename_i g2; exact absurd g g2
  ·rename_i g2; simpa using g2
 intro x hx
 have := kidsN_few hk ⟨List.nodup_nil, fun k hk => by cases hk⟩ x hx
 exact ⟨by have := hG.len.2; omega, (one_attrs (hG.one x hx)).1⟩
end doc
namespace doc
open Go.RowKit base tok
set_option linter.unusedSimpArgs false
abbrev edV (d a t b k : Int) (s : ByteArray) : Value := .agg #[.int .i64 d, .int .i64 a, .int .i64 t, .int .i64 b, .string ⟨#[]⟩, .string ⟨#[]⟩, .int .i64 k, .string s, .slice none 0 0, .string ⟨#[]⟩, .int .i64 0, .slice none 0 0]
abbrev edC (d a t b k : Int) (s : ByteArray) : Array Value := #[.int .i64 d, .int .i64 a, .int .i64 t, .int .i64 b, .string ⟨#[]⟩, .string ⟨#[]⟩, .int .i64 k, .string s, .slice none 0 0, .string ⟨#[]⟩, .int .i64 0, .slice none 0 0]
structure Held (W : World) (B P G n c : Nat) (q : Bool) (D E : List Nd) : Prop where
 chk : checkF D = 0
 like : Alike E D
 len : E.length = n
 ed : Blk W P 79 #[.slice (some ⟨G, 0, none⟩) n c, .bool q, .int .i64 0]
 row : W.ownsRow B 34 6 (.slice (some ⟨G, 0, none⟩) n c) n (flatR ncells E)
 mine : Mines W B G E
 low : G < P /\ ∀ x ∈ E, (∀ b, x.kA = some b -> b.block < P) /\ (∀ b, x.aA = some b -> b.block < P)
 bp : B <= P
theorem Held.on {W W' : World} {B P G n c : Nat} {q : Bool} {D E : List Nd} (h : Held W B P G n c q D E) (hb : Below W.heap.size W W') : Held W' B P G n c q D E :=
 ⟨h.chk, h.like, h.len, h.ed.below hb h.ed.lt, row_on h.row hb, h.mine.on (Nat.le_refl _) (fun k _ hk _ => hb.block k hk), h.low, h.bp⟩
structure Made (w' : World) (B P : Nat) (q : Bool) (E' : List Nd) (G' c' : Nat) (md : Int) : Prop where
 ed : Blk w' P 79 #[.slice (some ⟨G', 0, none⟩) E'.length c', .bool q, .int .i64 md]
 row : w'.ownsRow B 34 6 (.slice (some ⟨G', 0, none⟩) E'.length c') E'.length (flatR ncells E')
 each : ∀ x ∈ E', Fine x /\ w'.ownsRow B 107 2 (.slice x.aA x.attrs.length x.aC) x.attrs.length (flatR acells x.attrs) /\ w'.ownsRow B 3 1 (.slice x.kA x.kids.length x.kC) x.kids.length (ivs x.kids)
theorem Made.doc {w' : World} {B P : Nat} {q : Bool} {E' : List Nd} {G' c' : Nat} {md : Int} (h : Made w' B P q E' G' c' md) : DocAt w' w'.heap.size (some ⟨G', 0, none⟩) c' E' :=
 doc_of rfl h.row fun x hx => in_of (h.each x hx).1 (h.each x hx).2.1 (h.each x hx).2.2
theorem Made.store {w w' : World} {B P : Nat} {q : Bool} {E' : List Nd} {G' c' : Nat} {md : Int} (h : Made w B P q E' G' c' md) (hBP : B <= P) (hs : ∀ k, B <= k -> w'.heap[k]? = w.heap[k]?) : Made w' B P q E' G' c' md :=
 ⟨(hs P hBP).trans h.ed, owns_same h.row fun g hg => hs g (h.row.lt g hg).1, fun x hx => ⟨(h.each x hx).1, owns_same (h.each x hx).2.1 fun g hg => hs g ((h.each x hx).2.1.lt g hg).1, owns_same (h.each x hx).2.2 fun g hg => hs g ((h.each x hx).2.2.lt g hg).1⟩⟩
theorem heldOf {W3 W4 : World} {G n c : Nat} {q : Bool} {D E : List Nd} (hF : checkF D = 0) (hA : Alike E D) (hn : D.length = n) (hO : W4.ownsRow W3.heap.size 34 6 (.slice (some ⟨G, 0, none⟩) n c) n (flatR ncells E)) (hM : Mines W4 W3.heap.size G E) (hb : Below W3.heap.size W3 W4) :
  Held (W4.alloc (.cells #[.slice (some ⟨G, 0, none⟩) n c, .bool q, .int .i64 0] 79)) W3.heap.size W4.heap.size G n c q D E :=
 ⟨hF, hA, hA.len.trans hn, Blk.new rfl, hO.alloc _, hM.on (Nat.le_refl _) (fun k _ hk _ => Below.heap_alloc W4 _ k hk), ⟨(owns_lt hO rfl).2, fun x hx => ⟨fun b hb => (owns_lt (hM.1 x hx).1.kids hb).2, fun b hb => (owns_lt (hM.1 x hx).1.attrs hb).2⟩⟩, hb.size⟩
theorem apply_any (D : List Nd) (A : Option Addr) (cap : Nat) (q : Bool) (d a t b k : Int) (s : ByteArray) (w : World) (hD : DocAt w w.heap.size A cap D) (Φ : List Nd -> List Nd -> Int -> Prop)
  (hE : ∀ (W : World) (B P G n c : Nat) (E : List Nd), Held W B P G n c q D E -> w.heap.size <= B -> Calls Tryz.prog 33 #[ptV P 0, edV d a t b k s] W fun e w' => (∃ k : Int, e = .returned (.int .i64 k)) /\ (∀ k : Int, e = .returned (.int .i64 k) -> k = 0 -> ∃ E' G' c' md, Φ E E' md /\ Made w' B P q E' G' c' md) /\ Below B W w') :
  Calls Tryz.prog 13 #[dcV A D.length cap q, edV d a t b k s] w fun e w' => ((∃ k : Int, k ≠ 0 /\ e = .returned (.tuple #[.agg #[.slice none 0 0, .bool false], .int .i64 0, .int .i64 k])) ∨ (∃ E E' G' c' md, checkF D = 0 /\ Alike E D /\ Φ E E' md /\ e = .returned (.tuple #[dcV (some ⟨G', 0, none⟩) E'.length c' q, .int .i64 md, .int .i64 0]) /\ DocAt w' w'.heap.size (some ⟨G', 0, none⟩) c' E')) /\ Below w.heap.size w w' := by
 obtain ⟨F, hF⟩ : ∃ F, checkF D = F := ⟨_, rfl⟩
 have hcp := hD.len
 unfold maxLen at hcp
 obtain ⟨n, hn⟩ : ∃ n, D.length = n := ⟨_, rfl⟩
 obtain ⟨Y, hY⟩ : ∃ Y, ((w.alloc (.cells #[.slice A n cap, .bool q] 24)).alloc (.cells (edC d a t b k s) 54)).alloc (.cells #[.slice none 0 0, .bool false] 24) = Y := ⟨_, rfl⟩
 have HB0 := hid (show Below w.heap.size w Y by rw [<- hY]; exact (((Below.refl _ w).alloc (Nat.le_refl _) _).alloc (by simp) _).alloc (by simp; omega) _)
 have HzY := hid (show Y.heap.size = w.heap.size + 3 by rw [<- hY]; simp)
 have HX0 := hid (show Blk Y w.heap.size 24 #[.slice A n cap, .bool q] by rw [<- hY]; exact ((Blk.new rfl).alloc _).alloc _)
 have HX1 := hid (show Blk Y (w.heap.size + 1) 54 (edC d a t b k s) by rw [<- hY]; exact (Blk.new (by simp)).alloc _)
 have HX2 := hid (show Blk Y (w.heap.size + 1 + 1) 24 #[.slice none 0 0, .bool false] by rw [<- hY]; exact Blk.new (by simp))
 have hx0 := HX0.out.cell
 have HD := hid hD
 have HN := hid hn
 have cC := hid (fun W' (h : Below Y.heap.size Y W') => (Check_ct D A cap q W' (hD.keep (tb HB0 h) (Nat.le_trans HB0.out.size h.size))))
 rw [hF, hn] at cC
 have HE := hid hE
 rw [hn] at hcp ⊢
 have HY := hid hY
 clear hD hn hE hY
 by_cases h1 : F ≠ 0
 ·have h1' : (F != 0) = true := by simpa using h1
  have HF := hid h1
  clear h1 hF
  go_enter Tryz.func13, Tryz.ntmps13
  go_wp2_with fail
  rw [HY.out]
  have ZB : Y.heap.size <= Y.heap.size := Nat.le_refl _
  go_wp2_with (go_at_call 31; refine (cC.out _ (Below.refl _ Y)).mono ?_; rintro e W3 ⟨rfl, hb1⟩; have HB3 := hid hb1; have hx2 := (HX2.out.below hb1 HX2.out.lt).cell; have fx2 := (HX2.out.below hb1 HX2.out.lt).frozen; clear hb1)
  have hb := HX2.out.below HB3.out HX2.out.lt
  have fc := ((hb.put 0 (.slice none 0 0)).put 1 (.bool false)).cell
  refine bodyPost_ret (v := .tuple #[.agg #[.slice none 0 0, .bool false], .int .i64 0, .int .i64 F]) ?_ rfl ⟨.inl ⟨F, HF.out, rfl⟩, ((HB0.out.trans (HB3.out.mono HB0.out.size)).setCell (by simp; omega) _).setCell (by simp; omega) _⟩
  simp [results, Tryz.results13, go_sem, fc]
 obtain rfl : F = 0 := by simpa using h1
 clear h1
 have hG := check_ok hF
 have hfew := kids_few hF
 have hl2 : n <= 200 := by have := hG.len.2; rw [HN.out] at this; exact this
 have hl1 : 0 < n := by have := hG.len.1; rw [HN.out] at this; exact this
 have cO := hid (fun W' (h : Below Y.heap.size Y W') => own_ct D n HN.out hl1 hl2 (fun x hx => ⟨by have := (hfew x hx).2; omega, by have := (hfew x hx).1; omega⟩) A cap q W' (HD.out.keep (tb HB0 h) (Nat.le_trans HB0.out.size h.size)))
 have HF := hid hF
 clear hF hG hfew
 go_enter Tryz.func13, Tryz.ntmps13
 go_wp2_with fail
 rw [HY.out]
 go_wp2_with (first
  | (go_at_call 31; refine (cC.out _ (Below.refl _ Y)).mono ?_; rintro e W3 ⟨rfl, hb1⟩; have HB3 := hid hb1; have hx3 := (HX0.out.below hb1 HX0.out.lt).cell; clear hb1)
  | (go_at_call 32; refine (cO.out _ HB3.out).mono ?_; rintro e W4 ⟨⟨G, c, E, rfl, ha4, ho4, hm4⟩, hb4⟩; have HA4 := hid ha4; have HO4 := hid ho4; have HM4 := hid hm4; have HB4 := hid hb4; have HBY := hid (tb HB3 hb4); have hx4 := ((HX1.out.below HBY.out HX1.out.lt).alloc (.cells #[.slice (some ⟨G, 0, none⟩) n c, .bool q, .int .i64 0] 79)).cell; clear ha4 ho4 hm4 hb4)
  | (go_at_call 33; refine (HE.out _ _ _ _ _ _ _ (heldOf HF.out HA4.out HN.out HO4.out HM4.out HB4.out) (Nat.le_trans HB0.out.size HB3.out.size)).mono ?_; rintro e W6 ⟨⟨k6, rfl⟩, h6, hb6⟩; have H6 := hid (h6 k6 rfl); have HB6 := hid hb6; have H26 := hid (((HX2.out.below HBY.out HX2.out.lt).alloc (.cells #[.slice (some ⟨G, 0, none⟩) n c, .bool q, .int .i64 0] 79)).below hb6 (Nat.lt_of_lt_of_le HX2.out.lt HB3.out.size)); have hx6 := H26.out.cell; have fx6 := H26.out.frozen; clear h6 hb6))
 ·have hk : k6 ≠ 0 := by simpa using (by assumption : (k6 != 0) = true)
  have fc := ((H26.out.put 0 (.slice none 0 0)).put 1 (.bool false)).cell
  have hb := ((HB0.out.trans (HBY.out.mono HB0.out.size)).alloc (Nat.le_trans HB0.out.size HBY.out.size) _).trans (HB6.out.mono (Nat.le_trans HB0.out.size HB3.out.size))
  refine bodyPost_ret (v := .tuple #[.agg #[.slice none 0 0, .bool false], .int .i64 0, .int .i64 k6]) ?_ rfl ⟨.inl ⟨k6, hk, rfl⟩, (hb.setCell (by simp; omega) _).setCell (by simp; omega) _⟩
  simp [results, Tryz.results13, go_sem, fc]
 ·have hk : k6 = 0 := by simpa using (by assumption : (k6 != 0) = false)
  obtain ⟨E', G', c', md, hφ, hmd⟩ := H6.out hk
  have Hφ := hid hφ
  have HMd := hid hmd
  have p6 := HMd.out.ed.cell
  clear hφ hmd hk hx3 hx4
  go_region
  all_goals
   go_wp2_with fail
  have hsame : ∀ k, W3.heap.size <= k -> (((W6.setCell ⟨w.heap.size + 1 + 1, 0, none⟩ (.slice (some ⟨G', 0, none⟩) E'.length c')).setCell ⟨w.heap.size + 1 + 1, 1, none⟩ (.bool q)).drew).heap[k]? = W6.heap[k]? := fun k hk => by
   have hz := HzY.out
   have h3 := HB3.out.size
   exact (Below.heap_setCell _ _ _ k (by show k ≠ w.heap.size + 1 + 1; omega)).trans (Below.heap_setCell _ _ _ k (by show k ≠ w.heap.size + 1 + 1; omega))
  have hmade := HMd.out.store HB4.out.size hsame
  have fc := (((H26.out.put 0 (.slice (some ⟨G', 0, none⟩) E'.length c')).put 1 (.bool q)).drew).cell
  have hb := ((HB0.out.trans (HBY.out.mono HB0.out.size)).alloc (Nat.le_trans HB0.out.size HBY.out.size) _).trans (HB6.out.mono (Nat.le_trans HB0.out.size HB3.out.size))
  refine bodyPost_ret (v := .tuple #[dcV (some ⟨G', 0, none⟩) E'.length c' q, .int .i64 md, .int .i64 0]) ?_ rfl ⟨.inr ⟨E, E', G', c', md, HF.out, HA4.out, Hφ.out, rfl, hmade.doc⟩, ((hb.setCell (by simp; omega) _).setCell (by simp; omega) _).drew⟩
  simp [results, Tryz.results13, go_sem, fc]
end doc
namespace doc
open Go.RowKit base tok
set_option linter.unusedSimpArgs false
theorem own_nil {w : World} {B : Nat} {e : TypeId} {k : Nat} : w.ownsRow B e k (.slice none 0 0) 0 [] := ⟨by simp, .inl ⟨rfl, rfl⟩⟩
theorem ret_inj {k m : Int} (h : Ending.returned (.int .i64 k) = .returned (.int .i64 m)) : k = m := by
 injection h with h
 injection h
def PhiM (nm : Bs) (E E' : List Nd) (md : Int) : Prop := E' = E ++ [freshN nm] /\ md = (E.length : Nat) /\ oneF (protoN nm) = 0 /\ E.length < 200
theorem made_fresh {W w' : World} {B P G n c G' c' : Nat} {q : Bool} {D E : List Nd} {nm : Bs} (hnm : nm.length <= maxLen) (h : Held W B P G n c q D E) (hf : ∀ x ∈ D, Fine x) (hed : Blk w' P 79 #[.slice (some ⟨G', 0, none⟩) (n + 1) c', .bool q, .int .i64 n]) (hrow : w'.ownsRow B 34 6 (.slice (some ⟨G', 0, none⟩) (n + 1) c') (n + 1) (flatR ncells (E ++ [freshN nm]))) (hs : ∀ k, k < W.heap.size -> k ≠ P -> k ≠ G -> w'.heap[k]? = W.heap[k]?) :
  Made w' B P q (E ++ [freshN nm]) G' c' n := by
 have hl : (E ++ [freshN nm]).length = n + 1 := by rw [List.length_append, h.len]; rfl
 refine ⟨by rw [hl]; exact hed, by rw [hl]; exact hrow, fun x hx => ?_⟩
 rcases List.mem_append.1 hx with hx | hx
 ·have hm := (h.mine.1 x hx).1
  have hlow := h.low.2 x hx
  have hp : ∀ {e : TypeId} {k : Nat} {A : Option Addr} {m cap : Nat} {xs : List Value}, W.ownsRow B e k (.slice A m cap) m xs -> (∀ b, A = some b -> b.block ≠ G) -> (∀ b, A = some b -> b.block < P) -> w'.ownsRow B e k (.slice A m cap) m xs := fun ho hG hP => owns_same ho fun g hg => by
   have h1 := (ho.lt g hg).2
   cases hA : ‹Option Addr› with
   | none => rw [hA] at hg; cases hg
   | some b =>
    rw [hA] at hg
    obtain rfl := Option.some.inj hg
    exact hs _ h1 (by have := hP b hA; omega) (hG b hA)
  exact ⟨h.like.fine hf x hx, hp hm.attrs hm.aG hlow.2, hp hm.kids hm.kG hlow.1⟩
 ·obtain rfl := List.mem_singleton.1 hx
  exact ⟨⟨by unfold I64; simp, by unfold I64; simp, hnm, Nat.zero_le _, fun a ha => (by cases ha), fun k hk => (by cases hk)⟩, own_nil, own_nil⟩
theorem apply_make (D : List Nd) (A : Option Addr) (cap : Nat) (q : Bool) (nm : Bs) (hnm : nm.length <= maxLen) (w : World) (hD : DocAt w w.heap.size A cap D) :
  Calls Tryz.prog 13 #[dcV A D.length cap q, edMake nm] w fun e w' => ((∃ k : Int, k ≠ 0 /\ e = .returned (.tuple #[.agg #[.slice none 0 0, .bool false], .int .i64 0, .int .i64 k])) ∨ (∃ E E' G' c' md, checkF D = 0 /\ Alike E D /\ PhiM nm E E' md /\ e = .returned (.tuple #[dcV (some ⟨G', 0, none⟩) E'.length c' q, .int .i64 md, .int .i64 0]) /\ DocAt w' w'.heap.size (some ⟨G', 0, none⟩) c' E')) /\ Below w.heap.size w w' := by
 have hf : ∀ x ∈ D, Fine x := fun x hx => (hD.each x hx).fine
 refine apply_any D A cap q 4 0 0 0 2 (bs nm) w hD (PhiM nm) fun W B P G n c E h hwB => ?_
 refine (edit_make P nm W (fun e w' => (∀ k : Int, e = .returned (.int .i64 k) -> k = 0 -> ∃ E' G' c' md, PhiM nm E E' md /\ Made w' B P q E' G' c' md) /\ Below B W w') fun W' hW' => ?_)
 have h' := h.on hW'
 have hB : B <= W.heap.size := Nat.le_of_lt (Nat.lt_of_le_of_lt h.bp h.ed.lt)
 have hl2 : n <= 200 := by have := (check_ok h.chk).len.2; rw [<- h.like.len, h.len] at this; exact this
 refine (make_ct E B P G n c q 0 nm hnm h.len hl2 W' h'.ed h'.row h.low.1 h.bp).mono fun e w' ⟨hor, hb⟩ => ?_
 have hb2 := (hW'.mono hB).trans hb
 rcases hor with ⟨k, hk, rfl⟩ | ⟨rfl, h1, h2, G', c', hed, hrow, hs⟩
 ·exact ⟨⟨k, rfl⟩, fun k' hk' h0 => absurd (ret_inj hk') (by omega), hb2⟩
 ·refine ⟨⟨0, rfl⟩, fun k' _ _ => ⟨_, G', c', (n : Int), ⟨rfl, by rw [h.len], h1, by rw [h.len]; exact h2⟩, made_fresh hnm h' hf hed hrow hs⟩, hb2⟩
end doc
namespace doc
open Go.RowKit base tok
set_option linter.unusedSimpArgs false
def PhiI (z : Int) (t : Nat) (E E' : List Nd) (md : Int) : Prop := md = 0 /\ ∃ (a : Nat) (xa xt : Nd) (A' : Option Addr) (C' : Nat), z = a /\ a < E.length /\ a ≠ t /\ (kindAt E a = 1 ∨ kindAt E a = 2) /\ upF E (E.length + 1) a + 1 <= 40 /\ E[a]? = some xa /\ E[t]? = some xt /\ E' = (E.set a (xa.more t A' C')).set t (xt.under a)
theorem own_keep {W w' : World} {B : Nat} {e : TypeId} {k : Nat} {A : Option Addr} {m cap : Nat} {xs : List Value} {G : Nat} {Z : Option Addr} (ho : W.ownsRow B e k (.slice A m cap) m xs) (hG : ∀ b, A = some b -> b.block ≠ G) (hZ : ∀ z b, Z = some z -> A = some b -> z.block ≠ b.block) (hs : ∀ k, k < W.heap.size -> k ≠ G -> (∀ b, Z = some b -> k ≠ b.block) -> w'.heap[k]? = W.heap[k]?) : w'.ownsRow B e k (.slice A m cap) m xs := by
 refine owns_same ho fun g hg => ?_
 have h1 := (ho.lt g hg).2
 cases A with
 | none => cases hg
 | some b =>
  obtain rfl := Option.some.inj hg
  exact hs _ h1 (hG b rfl) (fun z hz => fun e => hZ z b hz rfl e.symm)
theorem made_put {W w' : World} {B P G n c : Nat} {q : Bool} {D E : List Nd} {a t : Nat} {xa xt : Nd} {A' : Option Addr} {C' : Nat} (h : Held W B P G n c q D E) (hf : ∀ x ∈ D, Fine x) (hl : n <= 200) (ha : E[a]? = some xa) (ht : E[t]? = some xt) (hat : a ≠ t) (hL : Laid W w' B P G n c q 0 E a t xa xt A' C') :
  Made w' B P q ((E.set a (xa.more t A' C')).set t (xt.under a)) G c 0 := by
 have hal : a < n := by rw [<- h.len]; exact (List.getElem?_eq_some_iff.1 ha).1
 have htl : t < n := by rw [<- h.len]; exact (List.getElem?_eq_some_iff.1 ht).1
 have hlen : ((E.set a (xa.more t A' C')).set t (xt.under a)).length = n := by rw [List.length_set, List.length_set, h.len]
 have hfE := h.like.fine hf
 have hma := h.mine.1 xa (List.mem_of_getElem? ha)
 refine ⟨by rw [hlen]; exact hL.ed, by rw [hlen]; exact hL.row, fun x hx => ?_⟩
 obtain ⟨j, hj⟩ := List.getElem?_of_mem hx
 by_cases hjt : j = t
 ·subst hjt
  rw [List.getElem?_set_self (by rw [List.length_set, h.len]; exact htl)] at hj
  obtain rfl := Option.some.inj hj
  have hm := (h.mine.1 xt (List.mem_of_getElem? ht)).1
  have hap := h.mine.2 a j xa xt ha ht hat
  have hft := hfE xt (List.mem_of_getElem? ht)
  exact ⟨⟨hft.kind, by show I64 (a : Int); unfold I64; omega, hft.name, hft.text, hft.attrS, hft.kidS⟩, own_keep hm.attrs hm.aG (fun z b hz hb => (hap z hz).2 b hb) hL.same, own_keep hm.kids hm.kG (fun z b hz hb => (hap z hz).1 b hb) hL.same⟩
 ·rw [List.getElem?_set_ne (fun e => hjt e.symm)] at hj
  by_cases hja : j = a
  ·subst hja
   rw [List.getElem?_set_self (by rw [h.len]; exact hal)] at hj
   obtain rfl := Option.some.inj hj
   have hfa := hfE xa (List.mem_of_getElem? ha)
   refine ⟨⟨hfa.kind, hfa.parent, hfa.name, hfa.text, hfa.attrS, fun k hk => ?_⟩, own_keep hma.1.attrs hma.1.aG (fun z b hz hb => hma.2 z b hz hb) hL.same, ?_⟩
   ·rcases List.mem_append.1 hk with hk | hk
    ·exact hfa.kidS k hk
    ·obtain rfl := List.mem_singleton.1 hk
     unfold I64; omega
   ·show w'.ownsRow B 3 1 (.slice A' (xa.kids ++ [(t : Int)]).length C') (xa.kids ++ [(t : Int)]).length (ivs (xa.kids ++ [(t : Int)]))
    rw [List.length_append]
    exact hL.kids
  ·rw [List.getElem?_set_ne (fun e => hja e.symm)] at hj
   have hm := (h.mine.1 x (List.mem_of_getElem? hj)).1
   have hap := h.mine.2 a j xa x ha hj (fun e => hja e.symm)
   exact ⟨hfE x (List.mem_of_getElem? hj), own_keep hm.attrs hm.aG (fun z b hz hb => (hap z hz).2 b hb) hL.same, own_keep hm.kids hm.kG (fun z b hz hb => (hap z hz).1 b hb) hL.same⟩
theorem Held.doc {W : World} {B P G n c : Nat} {q : Bool} {D E : List Nd} (h : Held W B P G n c q D E) (hf : ∀ x ∈ D, Fine x) : DocAt W W.heap.size (some ⟨G, 0, none⟩) c E :=
 doc_of h.len h.row fun x hx => in_of (h.like.fine hf x hx) (h.mine.1 x hx).1.attrs (h.mine.1 x hx).1.kids
theorem apply_put (D : List Nd) (A : Option Addr) (cap : Nat) (q : Bool) (z : Int) (t : Nat) (xt : Nd) (ht : D[t]? = some xt) (htk : xt.kind = 2) (htp : xt.parent = -1) (htks : xt.kids = []) (hpt : ∀ m : Int, parAt D m ≠ t) (w : World) (hD : DocAt w w.heap.size A cap D) :
  Calls Tryz.prog 13 #[dcV A D.length cap q, edIns z t] w fun e w' => ((∃ k : Int, k ≠ 0 /\ e = .returned (.tuple #[.agg #[.slice none 0 0, .bool false], .int .i64 0, .int .i64 k])) ∨ (∃ E E' G' c' md, checkF D = 0 /\ Alike E D /\ PhiI z t E E' md /\ e = .returned (.tuple #[dcV (some ⟨G', 0, none⟩) E'.length c' q, .int .i64 md, .int .i64 0]) /\ DocAt w' w'.heap.size (some ⟨G', 0, none⟩) c' E')) /\ Below w.heap.size w w' := by
 have hf : ∀ x ∈ D, Fine x := fun x hx => (hD.each x hx).fine
 refine apply_any D A cap q 5 z t (-1) 0 ⟨#[]⟩ w hD (PhiI z t) fun W B P G n c E h hwB => ?_
 refine (edit_ins P z t W (fun e w' => (∀ k : Int, e = .returned (.int .i64 k) -> k = 0 -> ∃ E' G' c' md, PhiI z t E E' md /\ Made w' B P q E' G' c' md) /\ Below B W w') fun W' hW' => ?_)
 have h' := h.on hW'
 have hB : B <= W.heap.size := Nat.le_of_lt (Nat.lt_of_le_of_lt h.bp h.ed.lt)
 have hGE : GoodD E := check_ok (by rw [h.like.check]; exact h.chk)
 have hl2 : n <= 200 := by have := hGE.len.2; rwa [h.len] at this
 obtain ⟨yt, hyt, hlk⟩ := h.like.get ht
 obtain ⟨l1, l2, l3, l4, l5, l6⟩ := hlk
 by_cases hz : 0 <= z /\ z < n
 ·obtain ⟨a, rfl⟩ : ∃ a : Nat, z = a := ⟨z.toNat, by omega⟩
  have hfew : ∀ x ∈ E, x.kids.length <= 100000 := fun x hx => by have := (kids_few (by rw [h.like.check]; exact h.chk) x hx).1; omega
  refine (insert_yes E B P G n c q 0 t yt h.len hGE hyt (l1.trans htk) (l5.trans htp) (l6.trans htks) (fun m => by rw [h.like.par]; exact hpt m) a (by omega) W' h'.ed h'.row (h'.doc hf) h'.mine h.low hfew h.bp).mono fun e w' ⟨hor, hb⟩ => ?_
  have hb2 := (hW'.mono hB).trans hb
  rcases hor with ⟨k, hk, rfl⟩ | ⟨rfl, h1, h2, h3, xa, A', C', h4, h5⟩
  ·exact ⟨⟨k, rfl⟩, fun k' hk' h0 => absurd (ret_inj hk') (by omega), hb2⟩
  ·exact ⟨⟨0, rfl⟩, fun k' _ _ => ⟨_, G, c, 0, ⟨rfl, a, xa, yt, A', C', rfl, by rw [h.len]; omega, h1, h2, by rw [h.len]; exact h3, h4, hyt, rfl⟩, made_put h' hf hl2 h4 hyt h1 h5⟩, hb2⟩
 ·refine (insert_no E B P G n c q 0 z t yt h.len hGE hyt (l1.trans htk) (l5.trans htp) hz W' h'.ed h'.row h.bp).mono fun e w' ⟨⟨k, hk, he⟩, hb⟩ => ?_
  subst he
  exact ⟨⟨k, rfl⟩, fun k' hk' h0 => absurd (ret_inj hk') (by omega), (hW'.mono hB).trans hb⟩
end doc
end Go.Proofs.YthgffoanecknoaaGreatDoor
