/- Contracts and plain law, a bundle. -/
import Derived.Lib.SliceRun
import Derived.Maps.AppendAt
import Derived.Deep.RegionHeld3
import Derived.Lib.Hide
import Derived.Test.YthgffoanecknoaaGreatDoorI7
set_option linter.unusedVariables false
set_option maxRecDepth 100000
set_option maxHeartbeats 16000000
open Go.Lib (hid)
namespace Go.Proofs.YthgffoanecknoaaGreatDoor
namespace doc
open Go.RowKit base tok
set_option linter.unusedSimpArgs false
theorem flat_one {α : Type} {f : α -> List Value} (hf : ∀ d, ∀ u ∈ f d, u.oneCell' = true) (V : List α) : ∀ u ∈ flatR f V, u.oneCell' = true := fun u hu => by
 obtain ⟨d, _, hd⟩ := List.mem_flatMap.1 hu
 exact hf d u hd
theorem rd_news {α : Type} {f : α -> List Value} {k : Nat} (hf : ∀ d, (f d).length = k) (hk : 0 < k) {w : World} {B : Nat} {a : Addr} {n : Nat} {V : List α} (h : Rd k f w B (some a) n V) : ∀ j u, (flatR f V)[j]? = some u -> w.cell? (a.add j) = some u := fun j u hj => by
 have hl := flatR_len hf V
 have hjl := (List.getElem?_eq_some_iff.1 hj).1
 rw [hl, h.1] at hjl
 have hi : j / k < n := by
  rw [Nat.div_lt_iff_lt_mul hk]
  exact hjl
 obtain ⟨b, off, d, hA, hlt, hd, hc⟩ := Rd.at_ h hi
 cases hA
 have hm : j % k < k := Nat.mod_lt _ hk
 have e : j / k * k + j % k = j := by rw [Nat.mul_comm]; exact Nat.div_add_mod j k
 rw [add_none, show off + j = off + j / k * k + j % k by omega, hc _ hm, <- flatR_at hf hd _ hm, e]
 exact hj
theorem old_cell {w : World} {o : Obj} {a : Addr} {v : Value} (h : w.cell? a = some v) : (w.alloc o).cell? a = some v := (World.grownBy_alloc w o none).cell h (by simp)
theorem infoNode : (Tryz.prog.info? 34).map (fun i => (i.zero, i.size, i.bytes)) = some (some (.agg #[.int .i64 0, .string ⟨#[]⟩, .slice none 0 0, .string ⟨#[]⟩, .int .i64 0, .slice none 0 0]), 6, 96) := by kernel_rfl
theorem cloneNode (A : Option Addr) (cap n : Nat) (V : List Nd) (hV : V.length = n) (hn : n <= 1000000) (w : World) (hI : Rd 6 ncells w w.heap.size A n V) :
  Calls Tryz.prog 53 #[.slice A n cap] w fun e w' => (∃ v, e = .returned v /\ w'.ownsRow w.heap.size 34 6 v n (flatR ncells V)) /\ Below w.heap.size w w' := by
 obtain ⟨i0, hi, hz0, hz1, hz2⟩ := info_parts infoNode
 have Hz0 := hid hz0
 have Hi := hid hi
 have Hz1 := hid hz1
 have Hz2 := hid hz2
 clear hz0 hi hz1 hz2
 cases A with
 | none =>
  have h0 : n = 0 := by
   rcases Nat.eq_zero_or_pos n with h | h
   ·exact h
   ·obtain ⟨b, off, he, _⟩ := hI.2 h
    cases he
  subst h0
  obtain rfl := List.eq_nil_of_length_eq_zero hV
  clear hI hn hV
  have hnil := fun w => Lib.run_eql_slice_nil (P := Tryz.prog) w 22 34 none 0 cap 0 0 Tryz.underlying22
  simp only [Option.isNone_none] at hnil
  go_enter Tryz.func53, Tryz.ntmps53
  go_wp2_with fail
  go_ret
  exact ⟨⟨_, rfl, World.ownsRow_nil _ _ _ _⟩, Below.refl _ _⟩
 | some a =>
  have HNews := hid (fun j u hj => (old_cell (w := w) (o := .cells #[] 34) (rd_news (k := 6) (fun _ => rfl) (by decide) hI j u hj)))
  have HL := hid (show (flatR ncells V).length = n * 6 by rw [flatR_len (k := 6) (fun _ => rfl), hV])
  have HO := hid (flat_one (f := ncells) (fun d u hu => by simp [ncells] at hu; rcases hu with rfl | rfl | rfl | rfl | rfl | rfl <;> rfl) V)
  clear hI hV
  generalize flatR ncells V = N at *
  have hnil := fun w => Lib.run_eql_slice_nil (P := Tryz.prog) w 22 34 (some a) n cap 0 0 Tryz.underlying22
  simp only [Option.isNone_some] at hnil
  go_enter Tryz.func53, Tryz.ntmps53
  go_wp2_with (at_builtin; refine wpList_append_own _ rfl _ _ 22 rfl w.heap.size 34 i0 (.agg #[.int .i64 0, .string ⟨#[]⟩, .slice none 0 0, .string ⟨#[]⟩, .int .i64 0, .slice none 0 0]) 6 96 Tryz.underlying22 Hi.out Hz0.out Hz1.out Hz2.out rfl (by decide) _ _ _ rfl (World.ownsRow_made w #[] 0 (Nat.le_refl _) (by unfold maxLen; omega) rfl) a n cap N rfl ?c0 ?c1 ?c2 ?c3 ?c4 ?c5 ?_)
  case c0 => exact HL.out
  case c1 => exact HNews.out
  case c2 => exact HO.out
  case c3 => unfold maxLen; omega
  case c4 => omega
  case c5 => simp
  intro v' w4 hown4 hgrow4 hnil4
  have HB4 := hid ((ba w (.cells #[] 34)).grown hgrow4 (by simp) (fun k hk => by have := Option.some.inj (show some w.heap.size = some k from hk); omega))
  obtain ⟨g', cap', rfl⟩ := row_form hown4
  replace hown4 := hid hown4
  clear hgrow4 hnil4
  go_wp2
  go_ret
  exact ⟨⟨_, rfl, by simpa using hown4.out⟩, HB4.out⟩
theorem infoAttr : (Tryz.prog.info? 107).map (fun i => (i.zero, i.size, i.bytes)) = some (some (.agg #[.string ⟨#[]⟩, .string ⟨#[]⟩]), 2, 32) := by kernel_rfl
theorem cloneAttr (A : Option Addr) (cap n : Nat) (V : List At) (hV : V.length = n) (hn : n <= 1000000) (w : World) (hI : Rd 2 acells w w.heap.size A n V) :
  Calls Tryz.prog 54 #[.slice A n cap] w fun e w' => (∃ v, e = .returned v /\ w'.ownsRow w.heap.size 107 2 v n (flatR acells V)) /\ Below w.heap.size w w' := by
 obtain ⟨i0, hi, hz0, hz1, hz2⟩ := info_parts infoAttr
 have Hz0 := hid hz0
 have Hi := hid hi
 have Hz1 := hid hz1
 have Hz2 := hid hz2
 clear hz0 hi hz1 hz2
 cases A with
 | none =>
  have h0 : n = 0 := by
   rcases Nat.eq_zero_or_pos n with h | h
   ·exact h
   ·obtain ⟨b, off, he, _⟩ := hI.2 h
    cases he
  subst h0
  obtain rfl := List.eq_nil_of_length_eq_zero hV
  clear hI hn hV
  have hnil := fun w => Lib.run_eql_slice_nil (P := Tryz.prog) w 32 107 none 0 cap 0 0 Tryz.underlying32
  simp only [Option.isNone_none] at hnil
  go_enter Tryz.func54, Tryz.ntmps54
  go_wp2_with fail
  go_ret
  exact ⟨⟨_, rfl, World.ownsRow_nil _ _ _ _⟩, Below.refl _ _⟩
 | some a =>
  have HNews := hid (fun j u hj => (old_cell (w := w) (o := .cells #[] 107) (rd_news (k := 2) (fun _ => rfl) (by decide) hI j u hj)))
  have HL := hid (show (flatR acells V).length = n * 2 by rw [flatR_len (k := 2) (fun _ => rfl), hV])
  have HO := hid (flat_one (f := acells) (fun d u hu => by simp [acells] at hu; rcases hu with rfl | rfl <;> rfl) V)
  clear hI hV
  generalize flatR acells V = N at *
  have hnil := fun w => Lib.run_eql_slice_nil (P := Tryz.prog) w 32 107 (some a) n cap 0 0 Tryz.underlying32
  simp only [Option.isNone_some] at hnil
  go_enter Tryz.func54, Tryz.ntmps54
  go_wp2_with (at_builtin; refine wpList_append_own _ rfl _ _ 32 rfl w.heap.size 107 i0 (.agg #[.string ⟨#[]⟩, .string ⟨#[]⟩]) 2 32 Tryz.underlying32 Hi.out Hz0.out Hz1.out Hz2.out rfl (by decide) _ _ _ rfl (World.ownsRow_made w #[] 0 (Nat.le_refl _) (by unfold maxLen; omega) rfl) a n cap N rfl ?c0 ?c1 ?c2 ?c3 ?c4 ?c5 ?_)
  case c0 => exact HL.out
  case c1 => exact HNews.out
  case c2 => exact HO.out
  case c3 => unfold maxLen; omega
  case c4 => omega
  case c5 => simp
  intro v' w4 hown4 hgrow4 hnil4
  have HB4 := hid ((ba w (.cells #[] 107)).grown hgrow4 (by simp) (fun k hk => by have := Option.some.inj (show some w.heap.size = some k from hk); omega))
  obtain ⟨g', cap', rfl⟩ := row_form hown4
  replace hown4 := hid hown4
  clear hgrow4 hnil4
  go_wp2
  go_ret
  exact ⟨⟨_, rfl, by simpa using hown4.out⟩, HB4.out⟩
theorem infoInt : (Tryz.prog.info? 3).map (fun i => (i.zero, i.size, i.bytes)) = some (some (.int .i64 0), 1, 8) := by kernel_rfl
theorem cloneInt (A : Option Addr) (cap n : Nat) (V : List Int) (hV : V.length = n) (hn : n <= 1000000) (w : World) (hI : Rd 1 icells w w.heap.size A n V) :
  Calls Tryz.prog 55 #[.slice A n cap] w fun e w' => (∃ v, e = .returned v /\ w'.ownsRow w.heap.size 3 1 v n (flatR icells V)) /\ Below w.heap.size w w' := by
 obtain ⟨i0, hi, hz0, hz1, hz2⟩ := info_parts infoInt
 have Hz0 := hid hz0
 have Hi := hid hi
 have Hz1 := hid hz1
 have Hz2 := hid hz2
 clear hz0 hi hz1 hz2
 cases A with
 | none =>
  have h0 : n = 0 := by
   rcases Nat.eq_zero_or_pos n with h | h
   ·exact h
   ·obtain ⟨b, off, he, _⟩ := hI.2 h
    cases he
  subst h0
  obtain rfl := List.eq_nil_of_length_eq_zero hV
  clear hI hn hV
  have hnil := fun w => Lib.run_eql_slice_nil (P := Tryz.prog) w 27 3 none 0 cap 0 0 Tryz.underlying27
  simp only [Option.isNone_none] at hnil
  go_enter Tryz.func55, Tryz.ntmps55
  go_wp2_with fail
  go_ret
  exact ⟨⟨_, rfl, World.ownsRow_nil _ _ _ _⟩, Below.refl _ _⟩
 | some a =>
  have HNews := hid (fun j u hj => (old_cell (w := w) (o := .cells #[] 3) (rd_news (k := 1) (fun _ => rfl) (by decide) hI j u hj)))
  have HL := hid (show (flatR icells V).length = n * 1 by rw [flatR_len (k := 1) (fun _ => rfl), hV])
  have HO := hid (flat_one (f := icells) (fun d u hu => by simp [icells] at hu; rcases hu with rfl <;> rfl) V)
  clear hI hV
  generalize flatR icells V = N at *
  have hnil := fun w => Lib.run_eql_slice_nil (P := Tryz.prog) w 27 3 (some a) n cap 0 0 Tryz.underlying27
  simp only [Option.isNone_some] at hnil
  go_enter Tryz.func55, Tryz.ntmps55
  go_wp2_with (at_builtin; refine wpList_append_own _ rfl _ _ 27 rfl w.heap.size 3 i0 (.int .i64 0) 1 8 Tryz.underlying27 Hi.out Hz0.out Hz1.out Hz2.out rfl (by decide) _ _ _ rfl (World.ownsRow_made w #[] 0 (Nat.le_refl _) (by unfold maxLen; omega) rfl) a n cap N rfl ?c0 ?c1 ?c2 ?c3 ?c4 ?c5 ?_)
  case c0 => exact HL.out
  case c1 => exact HNews.out
  case c2 => exact HO.out
  case c3 => unfold maxLen; omega
  case c4 => omega
  case c5 => simp
  intro v' w4 hown4 hgrow4 hnil4
  have HB4 := hid ((ba w (.cells #[] 3)).grown hgrow4 (by simp) (fun k hk => by have := Option.some.inj (show some w.heap.size = some k from hk); omega))
  obtain ⟨g', cap', rfl⟩ := row_form hown4
  replace hown4 := hid hown4
  clear hgrow4 hnil4
  go_wp2
  go_ret
  exact ⟨⟨_, rfl, by simpa using hown4.out⟩, HB4.out⟩
end doc
namespace doc
open Go.RowKit base tok
set_option linter.unusedSimpArgs false
theorem slice_end {P : Program} {T e : TypeId} {k : Nat} (hT : P.underlying T = some (.slice e)) (hs : ∀ w, (sizeOf e).run P w = .ok k w) (A : Option Addr) (n cap : Nat) :
  ∃ v, ∀ w, (Instr.slice T (.slice A n cap) (some (.int .i64 n)) none none).run P w = .ok v w := by
 have h0 : (0 : Int) <= (n : Int) := by omega
 exact ⟨_, fun w => by simp [Instr.slice, Instr.sliceBounds, Instr.sliceBound, run_underlying hT, hs, asIntOf, h0, go_sem]; rfl⟩
theorem one_news {w : World} {vb : Nat} {x : Value} (h : w.cell? ⟨vb, 0, none⟩ = some x) : ∀ j u, ([x] : List Value)[j]? = some u -> w.cell? ((⟨vb, 0, none⟩ : Addr).add j) = some u
 | 0, u, hj => by
  obtain rfl := Option.some.inj hj
  simpa [Addr.add] using h
 | j + 1, u, hj => by simp at hj
theorem insert_ct (base n vb : Nat) (v : Value) (V : List Int) (hV : V.length = n) (hn : n <= 100000) (x : Int) (w : World) (ho : w.ownsRow base 3 1 v n (ivs V)) (hb : base <= w.heap.size) (hx : w.cell? ⟨vb, 0, none⟩ = some (.int .i64 x)) :
  Calls Tryz.prog 113 #[v, .int .i64 n, .slice (some ⟨vb, 0, none⟩) 1 1] w fun e w' => ∃ v', e = .returned v' /\ w'.ownsRow base 3 1 v' (n + 1) (ivs (V ++ [x])) /\ w.grownBy w' v.ownBlock /\ (v'.ownBlock = v.ownBlock ∨ v'.ownBlock = some w.heap.size) := by
 obtain ⟨i0, hi, hz0, hz1, hz2⟩ := info_parts infoInt
 have Hz0 := hid hz0
 have Hi := hid hi
 have Hz1 := hid hz1
 have Hz2 := hid hz2
 clear hz0 hi hz1 hz2
 have HO := hid ho
 have HX := hid hx
 obtain ⟨A, cap, rfl⟩ := row_form ho
 obtain ⟨r, hr⟩ := slice_end (P := Tryz.prog) (k := 1) Tryz.underlying27 Tryz.sizeOf3 A n cap
 clear ho hV
 go_enter Tryz.func113, Tryz.ntmps113
 go_wp2_with (at_builtin; refine wpList_append_own_at _ rfl _ _ 27 rfl base 3 i0 (.int .i64 0) 1 8 Tryz.underlying27 Hi.out Hz0.out Hz1.out Hz2.out rfl (by decide) _ _ _ rfl HO.out ⟨vb, 0, none⟩ 1 1 [.int .i64 x] rfl rfl ?c1 ?c2 ?c3 ?c4 ?c5 ?_)
 case c1 => exact one_news HX.out
 case c2 => simp [Value.oneCell']
 case c3 => unfold maxLen; omega
 case c4 => omega
 case c5 => exact hb
 intro v' w5 hown5 hgrow5 hnil5 hat5
 have H5 := hid hown5
 have H6 := hid hgrow5
 have H7 := hid hat5
 clear hown5 hgrow5 hnil5 hat5
 go_wp2_with fail
 go_ret
 exact ⟨_, rfl, by have := H5.out; rwa [ivs_app] at this, H6.out, H7.out⟩
end doc
namespace doc
open Go.RowKit base tok
set_option linter.unusedSimpArgs false
def Nd.Like (x y : Nd) : Prop := x.kind = y.kind /\ x.name = y.name /\ x.attrs = y.attrs /\ x.text = y.text /\ x.parent = y.parent /\ x.kids = y.kids
def Alike : List Nd -> List Nd -> Prop
 | [], [] => True
 | x :: D, y :: E => x.Like y /\ Alike D E
 | _, _ => False
structure Mine (w : World) (B G : Nat) (x : Nd) : Prop where
 attrs : w.ownsRow B 107 2 (.slice x.aA x.attrs.length x.aC) x.attrs.length (flatR acells x.attrs)
 kids : w.ownsRow B 3 1 (.slice x.kA x.kids.length x.kC) x.kids.length (ivs x.kids)
 aG : ∀ a, x.aA = some a -> a.block ≠ G
 kG : ∀ a, x.kA = some a -> a.block ≠ G
def Apart (x y : Nd) : Prop := ∀ a, x.kA = some a -> (∀ b, y.kA = some b -> a.block ≠ b.block) /\ (∀ b, y.aA = some b -> a.block ≠ b.block)
def Mines (w : World) (B G : Nat) (E : List Nd) : Prop :=
 (∀ x ∈ E, Mine w B G x /\ ∀ a b, x.kA = some a -> x.aA = some b -> a.block ≠ b.block) /\ ∀ (i j : Nat) (x y : Nd), E[i]? = some x -> E[j]? = some y -> i ≠ j -> Apart x y
theorem own_some {w : World} {base : Nat} {e : TypeId} {k : Nat} {v : Value} {n : Nat} {xs : List Value} (h : w.ownsRow base e k v n xs) (h0 : 0 < n) : ∃ G c, v = .slice (some ⟨G, 0, none⟩) n c /\ base <= G /\ G < w.heap.size := by
 rcases h.2 with ⟨_, hz⟩ | ⟨g, cap, cur, rfl, hg, hr, hh⟩
 ·omega
 ·exact ⟨g, cap, rfl, hg, (h.lt g rfl).2⟩
theorem owns_same {w w' : World} {base : Nat} {e : TypeId} {size : Nat} {v : Value} {n : Nat} {xs : List Value} (h : w.ownsRow base e size v n xs) (hs : ∀ g, v.ownBlock = some g -> w'.heap[g]? = w.heap[g]?) : w'.ownsRow base e size v n xs := by
 refine ⟨h.1, ?_⟩
 rcases h.2 with h2 | ⟨g, cap, cur, rfl, hg, hr, hh⟩
 ·exact .inl h2
 ·exact .inr ⟨g, cap, cur, rfl, hg, (hs g rfl).trans hr, hh⟩
theorem Nd.Like.refl (x : Nd) : x.Like x := ⟨rfl, rfl, rfl, rfl, rfl, rfl⟩
theorem Alike.snoc : ∀ {E D : List Nd} {x y : Nd}, Alike E D -> x.Like y -> Alike (E ++ [x]) (D ++ [y])
 | [], [], x, y, _, h => ⟨h, trivial⟩
 | a :: E, b :: D, x, y, h, h2 => ⟨h.1, Alike.snoc h.2 h2⟩
 | [], b :: D, x, y, h, _ => absurd h (by simp [Alike])
 | a :: E, [], x, y, h, _ => absurd h (by simp [Alike])
def Nd.moved (x : Nd) (a1 : Option Addr) (c1 : Nat) (a2 : Option Addr) (c2 : Nat) : Nd := { x with aA := a1, aC := c1, kA := a2, kC := c2 }
theorem nodes_set (E R : List Nd) (x : Nd) (a1 : Option Addr) (c1 : Nat) (a2 : Option Addr) (c2 : Nat) : ((flatR ncells (E ++ x :: R)).set (E.length * 6 + 2) (.slice a1 x.attrs.length c1)).set (E.length * 6 + 5) (.slice a2 x.kids.length c2) = flatR ncells ((E ++ [x.moved a1 c1 a2 c2]) ++ R) := by
 have hl : (flatR ncells E).length = E.length * 6 := flatR_len (k := 6) (fun _ => rfl) E
 rw [flatR_app, flatR_app, flatR_app, List.append_assoc, List.set_append, if_neg (by rw [hl]; omega), List.set_append, if_neg (by rw [hl]; omega), hl]
 congr 1
 rw [show E.length * 6 + 2 - E.length * 6 = 2 by omega, show E.length * 6 + 5 - E.length * 6 = 5 by omega]
 rfl
theorem owns_lt {w : World} {base : Nat} {e : TypeId} {k : Nat} {A : Option Addr} {n cap : Nat} {xs : List Value} (h : w.ownsRow base e k (.slice A n cap) n xs) {a : Addr} (ha : A = some a) : base <= a.block /\ a.block < w.heap.size := h.lt a.block (by rw [ha]; rfl)
theorem Mines.on {w w' : World} {B B' G : Nat} {E : List Nd} (hE : Mines w B G E) (hB : B' <= B) (hs : ∀ k, B <= k -> k < w.heap.size -> k ≠ G -> w'.heap[k]? = w.heap[k]?) : Mines w' B' G E := by
 refine ⟨fun y hy => ?_, hE.2⟩
 obtain ⟨m, hd⟩ := hE.1 y hy
 exact ⟨⟨owns_lower (owns_same m.attrs (fun g hg => hs g (m.attrs.lt g hg).1 (m.attrs.lt g hg).2 (by
     cases e : y.aA with
     | none => rw [e] at hg; cases hg
     | some a => rw [e] at hg; obtain rfl := Option.some.inj hg; exact m.aG a e))) hB, owns_lower (owns_same m.kids (fun g hg => hs g (m.kids.lt g hg).1 (m.kids.lt g hg).2 (by
     cases e : y.kA with
     | none => rw [e] at hg; cases hg
     | some a => rw [e] at hg; obtain rfl := Option.some.inj hg; exact m.kG a e))) hB, m.aG, m.kG⟩, hd⟩
theorem Mines.step {wr W3 : World} {B G S1 : Nat} {E : List Nd} {x : Nd} {a1 a2 : Option Addr} {c1 c2 : Nat} (hE : Mines wr B G E) (hs : ∀ k, k < wr.heap.size -> k ≠ G -> W3.heap[k]? = wr.heap[k]?) (hG : G < wr.heap.size) (hS : wr.heap.size <= S1)
  (hx1 : W3.ownsRow B 107 2 (.slice a1 x.attrs.length c1) x.attrs.length (flatR acells x.attrs)) (hx2 : W3.ownsRow B 3 1 (.slice a2 x.kids.length c2) x.kids.length (ivs x.kids))
  (h1 : ∀ a, a1 = some a -> wr.heap.size <= a.block /\ a.block < S1) (h2 : ∀ a, a2 = some a -> S1 <= a.block) : Mines W3 B G (E ++ [x.moved a1 c1 a2 c2]) := by
 have hold : ∀ y ∈ E, (∀ a, y.aA = some a -> a.block < wr.heap.size) /\ (∀ a, y.kA = some a -> a.block < wr.heap.size) := fun y hy =>
  ⟨fun a ha => (owns_lt (hE.1 y hy).1.attrs ha).2, fun a ha => (owns_lt (hE.1 y hy).1.kids ha).2⟩
 refine ⟨fun y hy => ?_, fun i j y z hi hj hij => ?_⟩
 ·rcases List.mem_append.1 hy with hy | hy
  ·obtain ⟨m, hd⟩ := hE.1 y hy
   exact ⟨⟨owns_same m.attrs (fun g hg => hs g (m.attrs.lt g hg).2 (by
     cases e : y.aA with
     | none => rw [e] at hg; cases hg
     | some a => rw [e] at hg; obtain rfl := Option.some.inj hg; exact m.aG a e)), owns_same m.kids (fun g hg => hs g (m.kids.lt g hg).2 (by
     cases e : y.kA with
     | none => rw [e] at hg; cases hg
     | some a => rw [e] at hg; obtain rfl := Option.some.inj hg; exact m.kG a e)), m.aG, m.kG⟩, hd⟩
  ·obtain rfl := List.mem_singleton.1 hy
   refine ⟨⟨hx1, hx2, fun a ha => ?_, fun a ha => ?_⟩, fun a b ha hb => ?_⟩
   ·have := h1 a ha; omega
   ·have := h2 a ha; omega
   ·have := h2 a ha; have := h1 b hb; omega
 ·have hcase : ∀ (k : Nat) (u : Nd), (E ++ [x.moved a1 c1 a2 c2])[k]? = some u -> (E[k]? = some u /\ k < E.length) ∨ (u = x.moved a1 c1 a2 c2 /\ k = E.length) := fun k u hk => by
   rcases Nat.lt_or_ge k E.length with h | h
   ·rw [List.getElem?_append_left h] at hk
    exact .inl ⟨hk, h⟩
   ·rw [List.getElem?_append_right h] at hk
    have h0 := (List.getElem?_eq_some_iff.1 hk).1
    simp at h0
    have e : k = E.length := by omega
    subst e
    rw [Nat.sub_self] at hk
    exact .inr ⟨(Option.some.inj hk).symm, rfl⟩
  rcases hcase i y hi with ⟨hi', hil⟩ | ⟨rfl, hil⟩
  ·rcases hcase j z hj with ⟨hj', hjl⟩ | ⟨rfl, hjl⟩
   ·exact hE.2 i j y z hi' hj' hij
   ·intro a ha
    have h3 := (hold y (List.mem_of_getElem? hi')).2 a ha
    exact ⟨fun b hb => by have := h2 b hb; omega, fun b hb => by have := h1 b hb; omega⟩
  ·rcases hcase j z hj with ⟨hj', hjl⟩ | ⟨rfl, hjl⟩
   ·intro a ha
    have h3 := h2 a ha
    exact ⟨fun b hb => by have := (hold z (List.mem_of_getElem? hj')).2 b hb; omega, fun b hb => by have := (hold z (List.mem_of_getElem? hj')).1 b hb; omega⟩
   ·exact absurd (hil.trans hjl.symm) hij
theorem own_ct (D : List Nd) (n : Nat) (hn : D.length = n) (h0 : 0 < n) (hl : n <= 200) (hsm : ∀ x ∈ D, x.attrs.length <= 1000000 /\ x.kids.length <= 1000000) (A : Option Addr) (cap : Nat) (q : Bool) (w : World) (hD : DocAt w w.heap.size A cap D) :
  Calls Tryz.prog 32 #[dcV A n cap q] w fun e w' => (∃ G c E, e = .returned (dcV (some ⟨G, 0, none⟩) n c q) /\ Alike E D /\ w'.ownsRow w.heap.size 34 6 (.slice (some ⟨G, 0, none⟩) n c) n (flatR ncells E) /\ Mines w' w.heap.size G E) /\ Below w.heap.size w w' := by
 have HD := hid hD
 have HN := hid hn
 have HSm := hid hsm
 have hcp := hD.len
 unfold maxLen at hcp
 rw [hn] at hcp
 have HB0 := hid (show Below w.heap.size w ((w.alloc (.cells #[.slice A n cap, .bool q] 24)).alloc (.cells #[.slice none 0 0, .bool false] 24)) from ((Below.refl _ w).alloc (Nat.le_refl _) _).alloc (by simp) _)
 have HQ0 := hid (show Blk ((w.alloc (.cells #[.slice A n cap, .bool q] 24)).alloc (.cells #[.slice none 0 0, .bool false] 24)) w.heap.size 24 #[.slice A n cap, .bool q] from (Blk.new rfl).alloc _)
 have HR0 := hid (show Blk ((w.alloc (.cells #[.slice A n cap, .bool q] 24)).alloc (.cells #[.slice none 0 0, .bool false] 24)) (w.heap.size + 1) 24 #[.slice none 0 0, .bool false] from Blk.new (by simp))
 clear hn hD hsm
 go_enter Tryz.func32, Tryz.ntmps32
 go_wp2_with fail
 obtain ⟨Y, hY⟩ : ∃ Y, (w.alloc (.cells #[.slice A n cap, .bool q] 24)).alloc (.cells #[.slice none 0 0, .bool false] 24) = Y := ⟨_, rfl⟩
 rw [hY] at HB0 HQ0 HR0 ⊢
 have hzY : Y.heap.size = w.heap.size + 2 := by rw [<- hY]; simp
 clear hY
 have q0 : Y.cell? ⟨w.heap.size, 0, none⟩ = some (.slice A n cap) := HQ0.out.cell 0
 have q1 : Y.cell? ⟨w.heap.size, 1, none⟩ = some (.bool q) := HQ0.out.cell 1
 have hlY : w.heap.size < Y.heap.size := by omega
 have HzY := hid hzY
 clear hzY
 have cC := hid (fun W' (h : Below Y.heap.size Y W') => cloneNode A cap n D HN.out (by omega) W' (by have := ((HD.out.keep (tb HB0 h) (Nat.le_trans HB0.out.size h.size)).row); rwa [HN.out] at this))
 have ZB : Y.heap.size <= Y.heap.size := Nat.le_refl _
 go_cut [3] (fun p wx => ∃ (Q G c : Nat), p = (pn Q) /\ Y.heap.size <= Q /\ Blk wx Q 24 #[.slice (some ⟨G, 0, none⟩) n c, .bool q] /\ wx.ownsRow Y.heap.size 34 6 (.slice (some ⟨G, 0, none⟩) n c) n (flatR ncells D) /\ G ≠ Q /\ Below Y.heap.size Y wx)
 case first =>
  go_region_law (go_simp; go_wp2_with (first
   | (go_at_call 53; refine (cC.out _ ((Below.refl _ Y).drew)).mono ?_; rintro e W1 ⟨⟨v, rfl, ho⟩, hb3⟩; have hs4 := hid (As.on (B := Y.heap.size) (W0 := Y) hb3 As.beg ZB); have q1' := (hs4.out.1 w.heap.size 1 hlY).trans q1; have hl1 : w.heap.size < W1.heap.size := Nat.lt_of_lt_of_le hlY hs4.out.2.size; obtain ⟨G, c1, rfl, hG0, hG1⟩ := own_some ho h0; have HG0 := hid hG0; have HG1 := hid hG1; have HO1 := hid ho; clear ho hb3 hG0 hG1)
   | (go_at_call 53; refine (cC.out _ (((Below.refl _ Y).alloc (Nat.le_refl _) _).drew)).mono ?_; rintro e W1 ⟨⟨v, rfl, ho⟩, hb3⟩; have hs4 := hid (As.on (B := Y.heap.size) (W0 := Y) hb3 (As.drew (As.alloc As.beg0 ZB)) ZB); have q1' := (hs4.out.1 w.heap.size 1 hlY).trans q1; have hl1 : w.heap.size < W1.heap.size := Nat.lt_of_lt_of_le hlY hs4.out.2.size; have q4 := hid ((show Blk (Y.alloc (.cells #[.slice none 0 0, .bool false] 24)).drew Y.heap.size 24 #[.slice none 0 0, .bool false] from (Blk.new rfl).drew).below hb3 (by simp)); have q4f := q4.out.frozen; have q4c := q4.out.cell; obtain ⟨G, c1, rfl, hG0, hG1⟩ := own_some ho h0; have HG0 := hid hG0; have HG1 := hid hG1; have HO1 := hid ho; clear ho hb3 hG0 hG1)))
  all_goals
   go_wp2_with fail
   go_meet
   case rel => first
    | exact ⟨_, _, _, rfl, hs4.out.2.size, Blk.new rfl, (owns_lower HO1.out (Nat.le_refl _)).alloc _, Nat.ne_of_lt HG1.out, hs4.out.2.alloc hs4.out.2.size _⟩
    | exact ⟨_, _, _, rfl, Nat.le_refl _, (q4.out.put 0 _).put 1 _, owns_same (owns_lower HO1.out (by simp)) (fun g hg => by obtain rfl := Option.some.inj hg; have h := HG0.out; simp at h; exact ((Below.heap_setCell _ _ _ _ (by simp; omega)).trans (Below.heap_setCell _ _ _ _ (by simp; omega)))), (by have h := HG0.out; simp at h; omega), (hs4.out.2.setCell (Nat.le_refl _) _).setCell (Nat.le_refl _) _⟩
 case rest =>
 obtain ⟨Q, G, c, rfl, hQ, hBQ, ho, hne, hbx⟩ := hcut
 rename World => Z
 have HBQ := hid hBQ
 have HO := hid ho
 have HBx := hid hbx
 have b0 := HBQ.out.cell
 have HGl := hid ((own_some ho h0).elim fun G' h => h.elim fun c' h => by obtain ⟨e, h1, h2⟩ := h; simp only [Value.slice.injEq, Option.some.injEq, Addr.mk.injEq, and_true, true_and] at e; obtain ⟨rfl, rfl⟩ := e; exact (⟨h1, h2⟩ : Y.heap.size <= G /\ G < Z.heap.size))
 have HNe := hid hne
 clear hBQ ho hbx hne
 go_wp2_with fail
 go_loopw [15] (fun y wr => ∃ (i : Nat) (E : List Nd), i <= n /\ y = .int .i64 i /\ E.length = i /\ Alike E (D.take i) /\ wr.ownsRow Y.heap.size 34 6 (.slice (some ⟨G, 0, none⟩) n c) n (flatR ncells (E ++ D.drop i)) /\ Mines wr Y.heap.size G E /\ Blk wr Q 24 #[.slice (some ⟨G, 0, none⟩) n c, .bool q] /\ Below Y.heap.size Y wr) (fun y _ => n - (intOf y).toNat)
 case atStart => exact ⟨0, [], Nat.zero_le _, rfl, rfl, trivial, HO.out, ⟨fun x hx => (by cases hx), fun i j x y hi => (by simp at hi)⟩, HBQ.out, HBx.out⟩
 case round =>
  clear b0
  obtain ⟨i, E, hil, rfl, hEl, hal, hrow, hmi, hbq, hbel⟩ := hrel
  have HAl := hid hal
  have HRow := hid hrow
  have HMi := hid hmi
  have HQr := hid hbq
  have HBl := hid hbel
  have d0 := HQr.out.cell
  have HEl := hid hEl
  clear hal hmi hbq
  by_cases hlt : i < n
  ·have hlt' : (i : Int) < (n : Int) := by omega
   obtain ⟨x, hx⟩ : ∃ x, D[i]? = some x := ⟨_, List.getElem?_eq_getElem (by rw [HN.out]; exact hlt)⟩
   have hdrop : D.drop i = x :: D.drop (i + 1) := by
    obtain ⟨hl2, he⟩ := List.getElem?_eq_some_iff.1 hx
    rw [List.drop_eq_getElem_cons hl2, he]
   rw [hdrop] at hrow
   have hxat : (E ++ x :: D.drop (i + 1))[i]? = some x := by
    rw [List.getElem?_append_right (by omega), hEl, Nat.sub_self]
    rfl
   have hcell : ∀ j, j < 6 -> wr.cell? ⟨G, i * 6 + j, none⟩ = (ncells x)[j]? := fun j hj => (hrow.cellAt (i * 6 + j) (by omega)).trans (flatR_at (k := 6) (fun _ => rfl) hxat j hj)
   have t2 : wr.cell? ⟨G, i * 6 + 2, none⟩ = some (.slice x.aA x.attrs.length x.aC) := hcell 2 (by decide)
   have t5 : wr.cell? ⟨G, i * 6 + 5, none⟩ = some (.slice x.kA x.kids.length x.kC) := hcell 5 (by decide)
   have hDY := hid (HD.out.keep HB0.out HB0.out.size)
   have hin := hid (hDY.out.each x (List.mem_of_getElem? hx))
   have hG1 : G < wr.heap.size := (owns_lt hrow rfl).2
   have hsmx := HSm.out x (List.mem_of_getElem? hx)
   have cA := hid (fun W' (h : Below Y.heap.size Y W') => cloneAttr x.aA x.aC x.attrs.length x.attrs rfl hsmx.1 W' (hin.out.attrs.keep h h.size))
   have cK := hid (fun W' (h : Below Y.heap.size Y W') => cloneInt x.kA x.kC x.kids.length x.kids rfl hsmx.2 W' (hin.out.kids.keep h h.size))
   have HRow2 := hid hrow
   have HX := hid hx
   clear hrow hx hdrop hxat hcell hsmx hbel hEl
   go_wp2_with fail
   go_region_law (go_simp; go_wp2_with (first
    | (go_at_call 54; refine (cA.out _ HBl.out.drew).mono ?_; rintro e W1 ⟨⟨v, rfl, ho1⟩, hb1⟩; obtain ⟨a1, c1, rfl⟩ := row_form ho1; have HO1 := hid ho1; have HB1 := hid (show Below wr.heap.size wr W1 from ((Below.refl wr.heap.size wr).drew).trans hb1); have u5 := (HB1.out.cell (p := ⟨G, i * 6 + 5, none⟩) hG1).trans t5; clear ho1 hb1)
    | (go_at_call 55; refine (cK.out _ (HBl.out.trans (HB1.out.mono HBl.out.size))).mono ?_; rintro e W2 ⟨⟨v, rfl, ho2⟩, hb2⟩; obtain ⟨a2, c2, rfl⟩ := row_form ho2; have HO2 := hid ho2; have HB2 := hid hb2; have HB3 := hid (tb HB1 hb2); have v2 := (HB3.out.cell (p := ⟨G, i * 6 + 2, none⟩) hG1).trans t2; have v5 := (HB3.out.cell (p := ⟨G, i * 6 + 5, none⟩) hG1).trans t5; have HRow3 := hid (row_on (row_on HRow2.out HB1.out) HB2.out); have f3 := HRow3.out.frozenAt; clear ho2 hb2)))
   all_goals
    have hfar : ∀ k, k ≠ G -> ((W2.setCell ⟨G, i * 6 + 2, none⟩ (.slice a1 x.attrs.length c1)).setCell ⟨G, i * 6 + 5, none⟩ (.slice a2 x.kids.length c2)).heap[k]? = W2.heap[k]? := fun k hk => (Below.heap_setCell _ _ _ k hk).trans (Below.heap_setCell _ _ _ k hk)
    have hY1 := HBl.out.size
    have hb1 := HB1.out.size
    have hrow4 := (((HRow3.out.stored (i * 6 + 2) (.slice a1 x.attrs.length c1)).1).stored (i * 6 + 5) (.slice a2 x.kids.length c2)).1
    rw [<- HEl.out, nodes_set, HEl.out] at hrow4
    have hx1 := owns_same (owns_lower (row_on HO1.out HB2.out) (show Y.heap.size <= wr.drew.heap.size from hY1)) (fun g hg => hfar g (by have h5 : wr.heap.size <= g := (HO1.out.lt g hg).1; omega))
    have hx2 := owns_same (owns_lower HO2.out (show Y.heap.size <= W1.heap.size by omega)) (fun g hg => hfar g (by have h5 := (HO2.out.lt g hg).1; omega))
    rw [<- ivs_flat] at hx2
    have hmin := hid (Mines.step (S1 := W1.heap.size) HMi.out (fun k hk hkG => (hfar k hkG).trans (HB3.out.block k hk)) hG1 hb1 hx1 hx2 (fun a ha => owns_lt HO1.out ha) (fun a ha => (owns_lt HO2.out ha).1))
    have hrow5 := hid hrow4
    have hq5 := hid (((HQr.out.below HB3.out HQr.out.lt).far (p := ⟨G, i * 6 + 2, none⟩) (by have := HNe.out; exact fun e => this e.symm) (.slice a1 x.attrs.length c1)).far (p := ⟨G, i * 6 + 5, none⟩) (by have := HNe.out; exact fun e => this e.symm) (.slice a2 x.kids.length c2))
    have hb5 := hid (((HBl.out.trans (HB3.out.mono HBl.out.size)).setCell (p := ⟨G, i * 6 + 2, none⟩) HGl.out.1 (.slice a1 x.attrs.length c1)).setCell (p := ⟨G, i * 6 + 5, none⟩) HGl.out.1 (.slice a2 x.kids.length c2))
    have hal5 := hid (show Alike (E ++ [x.moved a1 c1 a2 c2]) (D.take (i + 1)) by rw [List.take_add_one, HX.out]; exact HAl.out.snoc ⟨rfl, rfl, rfl, rfl, rfl, rfl⟩)
    clear hfar hY1 hb1 hrow4 hx1 hx2 u5 v2 v5 f3 t2 t5 d0
    go_wp2_with fail
    go_roundw
    case rel => exact ⟨i + 1, _, by omega, by go_num, by rw [List.length_append, HEl.out]; rfl, hal5.out, hrow5.out, hmin.out, hq5.out, hb5.out⟩
    case measure => simp [intOf]; omega
  ·obtain rfl : i = n := by omega
   have hfin := hid (show flatR ncells (E ++ D.drop i) = flatR ncells E by rw [List.drop_of_length_le (by rw [HN.out]; omega), List.append_nil])
   have hal := hid (show Alike E D by have := HAl.out; rwa [List.take_of_length_le (by rw [HN.out]; omega)] at this)
   have r0 : wr.cell? ⟨w.heap.size + 1, 0, none⟩ = some (.slice none 0 0) := ((HR0.out.below HBl.out HR0.out.lt).cell 0)
   have r1 : wr.cell? ⟨w.heap.size + 1, 1, none⟩ = some (.bool false) := ((HR0.out.below HBl.out HR0.out.lt).cell 1)
   have f0 := (HR0.out.below HBl.out HR0.out.lt).frozen
   clear hrow hbel hEl
   go_wp2_with fail
   have hB := HR0.out.below HBl.out HR0.out.lt
   have fc := ((hB.put 0 (.slice (some ⟨G, 0, none⟩) i c)).put 1 (.bool q)).cell
   have hlw := HzY.out
   have hGY := HGl.out.1
   have hfar : ∀ k, Y.heap.size <= k -> ((wr.setCell ⟨w.heap.size + 1, 0, none⟩ (.slice (some ⟨G, 0, none⟩) i c)).setCell ⟨w.heap.size + 1, 1, none⟩ (.bool q)).heap[k]? = wr.heap[k]? := fun k hk => (Below.heap_setCell _ _ _ k (by show k ≠ w.heap.size + 1; omega)).trans (Below.heap_setCell _ _ _ k (by show k ≠ w.heap.size + 1; omega))
   have hrow := HRow.out
   rw [hfin.out] at hrow
   refine bodyPost_ret (v := dcV (some ⟨G, 0, none⟩) i c q) ?_ rfl ⟨⟨G, c, E, rfl, hal.out, owns_lower (owns_same hrow (fun g hg => by obtain rfl := Option.some.inj hg; exact hfar _ hGY)) (by omega), HMi.out.on (by omega) (fun k hk _ _ => hfar k hk)⟩, ((HB0.out.trans (HBl.out.mono HB0.out.size)).setCell (by simp) _).setCell (by simp) _⟩
   simp [results, Tryz.results32, go_sem, fc]
end doc
end Go.Proofs.YthgffoanecknoaaGreatDoor
