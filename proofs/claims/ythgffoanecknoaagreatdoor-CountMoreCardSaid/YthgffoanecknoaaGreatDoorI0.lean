/- Contracts and plain law, a bundle. -/
import Derived.Lib.SlTrimSet
import Derived.Lib.Bytealg
import Derived.Shelf.Strings.SlTrimAscii
import Derived.Shelf.SlicesQ.IndexFunc
import Derived.BigQuiet
import Derived.Lib.Hide
import Derived.Test.YthgffoanecknoaaGreatDoorBC
import Derived.Test.YthgffoanecknoaaGreatDoorBA
import Derived.Test.YthgffoanecknoaaGreatDoorBS
set_option linter.unusedVariables false
set_option maxRecDepth 100000
set_option maxHeartbeats 16000000
open Go.Lib (hid)
namespace Go.Proofs.YthgffoanecknoaaGreatDoor
namespace doc
open Go.RowKit Go.ChangeShapes Go.WideShapes Go.ChangeAt Go.Deep base tok
abbrev At := Bs × Bs
structure Nd where
 kind : Int
 name : Bs
 attrs : List At
 text : Bs
 parent : Int
 kids : List Int
 aA : Option Addr
 aC : Nat
 kA : Option Addr
 kC : Nat
abbrev I64 (n : Int) : Prop := -9223372036854775808 <= n /\ n <= 9223372036854775807
def acells (a : At) : List Value := [.string (bs a.1), .string (bs a.2)]
def icells (n : Int) : List Value := [.int .i64 n]
def ncells (x : Nd) : List Value := [.int .i64 x.kind, .string (bs x.name), .slice x.aA x.attrs.length x.aC, .string (bs x.text), .int .i64 x.parent, .slice x.kA x.kids.length x.kC]
abbrev Sy := Nat -> Int × Int
def scells (s : Sy) : List Value := (List.range 59).flatMap fun p => [.int .i64 (s p).1, .int .i64 (s p).2]
structure NdIn (w : World) (B : Nat) (x : Nd) : Prop where
 kind : I64 x.kind
 parent : I64 x.parent
 name : x.name.length <= maxLen
 text : x.text.length <= maxLen
 attrs : Rd 2 acells w B x.aA x.attrs.length x.attrs
 attrL : x.attrs.length <= x.aC /\ x.aC <= maxLen
 attrS : ∀ a ∈ x.attrs, a.1.length <= maxLen /\ a.2.length <= maxLen
 kids : Rd 1 icells w B x.kA x.kids.length x.kids
 kidL : x.kids.length <= x.kC /\ x.kC <= maxLen
 kidS : ∀ k ∈ x.kids, I64 k
theorem NdIn.keep {w w' : World} {B B' : Nat} {x : Nd} (h : NdIn w B x) (hb : Below B w w') (hB : B <= B') : NdIn w' B' x :=
 ⟨h.kind, h.parent, h.name, h.text, h.attrs.keep hb hB, h.attrL, h.attrS, h.kids.keep hb hB, h.kidL, h.kidS⟩
structure DocAt (w : World) (B : Nat) (A : Option Addr) (cap : Nat) (D : List Nd) : Prop where
 row : Rd 6 ncells w B A D.length D
 len : D.length <= cap /\ cap <= maxLen
 each : ∀ x ∈ D, NdIn w B x
theorem DocAt.keep {w w' : World} {B B' : Nat} {A : Option Addr} {cap : Nat} {D : List Nd} (h : DocAt w B A cap D) (hb : Below B w w') (hB : B <= B') : DocAt w' B' A cap D :=
 ⟨h.row.keep hb hB, h.len, fun x hx => (h.each x hx).keep hb hB⟩
def SyIn (s : Sy) : Prop := ∀ p, p < 59 -> I64 (s p).1 /\ I64 (s p).2
structure StyAt (w : World) (B : Nat) (A : Option Addr) (cap : Nat) (L : List Sy) : Prop where
 row : Rd 118 scells w B A L.length L
 len : L.length <= cap /\ cap <= maxLen
 each : ∀ s ∈ L, SyIn s
theorem StyAt.keep {w w' : World} {B B' : Nat} {A : Option Addr} {cap : Nat} {L : List Sy} (h : StyAt w B A cap L) (hb : Below B w w') (hB : B <= B') : StyAt w' B' A cap L :=
 ⟨h.row.keep hb hB, h.len, h.each⟩
section
variable {H : Type} {enc : TypeId × Value -> H} {w : World} {held : Bool}
set_option maxRecDepth 100000
theorem open_rd {α : Type} {P : Program} {f : α -> List Value} {X : α -> Prop} {t e k fuel : Nat} {cs : List Value} {x : DataW H × List MemPlace} (ht : P.underlying t = some (.slice e)) (hk : P.cellsOf e = k) (hk0 : 0 < k)
  (hf : ∀ m cs' (y : DataW H × List MemPlace), cs'.length = k -> DataW.trod enc P w 0 (fun _ => true) held m e cs' = some y -> ∃ d, cs' = f d /\ X d)
  (h : DataW.trod enc P w 0 (fun _ => true) held fuel t cs = some x) :
  ∃ (L : List α) (A : Option Addr) (c : Nat), cs = [.slice A L.length c] /\ L.length <= c /\ c <= maxLen /\ Rd k f w w.heap.size A L.length L /\ ∀ d ∈ L, X d := by
 obtain ⟨A, n, c, rfl, hnc, hc, hD⟩ := open_rows ht hk hk0 h
 rcases Nat.eq_zero_or_pos n with h0 | h0
 ·subst h0
  exact ⟨[], A, c, rfl, hnc, hc, Rd.nil, fun d hd => by cases hd⟩
 ·obtain ⟨b, off, rfl, hb, he⟩ := hD h0
  obtain ⟨L, hL, hp⟩ := exists_list (p := fun i d => (∀ j, j < k -> w.cell? ⟨b, off + i * k + j, none⟩ = (f d)[j]?) /\ X d) n (fun i hi => by
   obtain ⟨cs', m, y, hl, hc', ht'⟩ := he i hi
   obtain ⟨d, rfl, hX⟩ := hf m cs' y hl ht'
   exact ⟨d, hc', hX⟩)
  subst hL
  refine ⟨L, _, c, rfl, hnc, hc, ⟨rfl, fun _ => ⟨b, off, rfl, hb, fun i d hd => (hp i d hd).1⟩⟩, fun d hd => ?_⟩
  obtain ⟨i, hi⟩ := List.getElem?_of_mem hd
  exact (hp i d hi).2
theorem open_attr {m : Nat} {cs : List Value} {y : DataW H × List MemPlace} (hl : cs.length = 2) (h : DataW.trod enc Tryz.prog w 0 (fun _ => true) held m 107 cs = some y) : ∃ a : At, cs = acells a /\ (a.1.length <= maxLen /\ a.2.length <= maxLen) := by
 have k1 : Tryz.prog.cellsOf 9 = 1 := by kernel_rfl
 obtain ⟨-, n, hg⟩ := trod_fields Tryz.underlying107 h
 match cs, hl with
 | [a0, a1], _ =>
  obtain ⟨_, g0⟩ := at_field hg 0 9 0 1 rfl k1
  obtain ⟨_, g1⟩ := at_field hg 1 9 1 1 rfl k1
  obtain ⟨s0, e0, _, h0⟩ := DataW.trod_string Tryz.underlying9 g0
  obtain ⟨s1, e1, _, h1⟩ := DataW.trod_string Tryz.underlying9 g1
  simp at e0 e1
  subst e0 e1
  exact ⟨(s0.data.toList, s1.data.toList), rfl, h0, h1⟩
theorem open_int {m : Nat} {cs : List Value} {y : DataW H × List MemPlace} (h : DataW.trod enc Tryz.prog w 0 (fun _ => true) held m 3 cs = some y) : ∃ n : Int, cs = icells n /\ I64 n := by
 obtain ⟨n, rfl, _, hw⟩ := DataW.trod_int Tryz.underlying3 h
 refine ⟨n, rfl, ?_⟩
 simp [Lit.wf, IntKind.min, IntKind.max, IntKind.bits, IntKind.signed] at hw
 omega
theorem open_node {m : Nat} {cs : List Value} {y : DataW H × List MemPlace} (hl : cs.length = 6) (h : DataW.trod enc Tryz.prog w 0 (fun _ => true) held m 34 cs = some y) : ∃ x : Nd, cs = ncells x /\ NdIn w w.heap.size x := by
 have k0 : Tryz.prog.cellsOf 3 = 1 := by kernel_rfl
 have k1 : Tryz.prog.cellsOf 9 = 1 := by kernel_rfl
 have k2 : Tryz.prog.cellsOf 107 = 2 := by kernel_rfl
 have k3 : Tryz.prog.cellsOf 32 = 1 := by kernel_rfl
 have k4 : Tryz.prog.cellsOf 27 = 1 := by kernel_rfl
 obtain ⟨-, n, hg⟩ := trod_fields Tryz.underlying34 h
 match cs, hl with
 | [a0, a1, a2, a3, a4, a5], _ =>
  obtain ⟨_, g0⟩ := at_field hg 0 3 0 1 rfl k0
  obtain ⟨_, g1⟩ := at_field hg 1 9 1 1 rfl k1
  obtain ⟨_, g2⟩ := at_field hg 2 32 2 1 rfl k3
  obtain ⟨_, g3⟩ := at_field hg 3 9 3 1 rfl k1
  obtain ⟨_, g4⟩ := at_field hg 4 3 4 1 rfl k0
  obtain ⟨_, g5⟩ := at_field hg 5 27 5 1 rfl k4
  obtain ⟨n0, e0, h0⟩ := open_int g0
  obtain ⟨s1, e1, _, h1⟩ := DataW.trod_string Tryz.underlying9 g1
  obtain ⟨L2, A2, c2, e2, h20, h21, h22, h23⟩ := open_rd (f := acells) (X := fun a => a.1.length <= maxLen /\ a.2.length <= maxLen) Tryz.underlying32 k2 (by decide) (fun m cs' y hl h => open_attr hl h) g2
  obtain ⟨s3, e3, _, h3⟩ := DataW.trod_string Tryz.underlying9 g3
  obtain ⟨n4, e4, h4⟩ := open_int g4
  obtain ⟨L5, A5, c5, e5, h50, h51, h52, h53⟩ := open_rd (f := icells) (X := I64) Tryz.underlying27 k0 (by decide) (fun m cs' y hl h => open_int h) g5
  simp [icells] at e0 e1 e2 e3 e4 e5
  subst e0 e1 e2 e3 e4 e5
  exact ⟨⟨n0, s1.data.toList, L2, s3.data.toList, n4, L5, A2, c2, A5, c5⟩, rfl, h0, h4, h1, h3, h22, ⟨h20, h21⟩, h23, h52, ⟨h50, h51⟩, h53⟩
theorem open_nodes {fuel : Nat} {cs : List Value} {x : DataW H × List MemPlace} (h : DataW.trod enc Tryz.prog w 0 (fun _ => true) held fuel 22 cs = some x) :
  ∃ (D : List Nd) (A : Option Addr) (cap : Nat), cs = [.slice A D.length cap] /\ DocAt w w.heap.size A cap D := by
 have k6 : Tryz.prog.cellsOf 34 = 6 := by kernel_rfl
 obtain ⟨D, A, c, rfl, h1, h2, h3, h4⟩ := open_rd (f := ncells) (X := NdIn w w.heap.size) Tryz.underlying22 k6 (by decide) (fun m cs' y hl h => open_node hl h) h
 exact ⟨D, A, c, rfl, h3, ⟨h1, h2⟩, h4⟩
theorem open_sval {m : Nat} {cs : List Value} {y : DataW H × List MemPlace} (hl : cs.length = 2) (h : DataW.trod enc Tryz.prog w 0 (fun _ => true) held m 36 cs = some y) : ∃ v : Int × Int, cs = [.int .i64 v.1, .int .i64 v.2] /\ I64 v.1 /\ I64 v.2 := by
 have k0 : Tryz.prog.cellsOf 3 = 1 := by kernel_rfl
 obtain ⟨-, n, hg⟩ := trod_fields Tryz.underlying36 h
 match cs, hl with
 | [a0, a1], _ =>
  obtain ⟨_, g0⟩ := at_field hg 0 3 0 1 rfl k0
  obtain ⟨_, g1⟩ := at_field hg 1 3 1 1 rfl k0
  obtain ⟨n0, e0, h0⟩ := open_int g0
  obtain ⟨n1, e1, h1⟩ := open_int g1
  simp [icells] at e0 e1
  subst e0 e1
  exact ⟨(n0, n1), rfl, h0, h1⟩
theorem pairs_list : ∀ (k : Nat) (cs : List Value) (s : Sy), cs.length = k * 2 -> (∀ p, p < k -> (cs.drop (p * 2)).take 2 = [.int .i64 (s p).1, .int .i64 (s p).2]) -> cs = (List.range k).flatMap fun p => [.int .i64 (s p).1, .int .i64 (s p).2]
 | 0, cs, s, hl, _ => by simpa using List.eq_nil_of_length_eq_zero (by simpa using hl)
 | k + 1, cs, s, hl, h => by
  have h1 := h k (Nat.lt_succ_self k)
  have h2 := pairs_list k (cs.take (k * 2)) s (by rw [List.length_take]; omega) (fun p hp => by
   rw [List.drop_take, List.take_take, Nat.min_eq_left (by omega)]
   exact h p (by omega))
  rw [List.take_of_length_le (by rw [List.length_drop]; omega)] at h1
  rw [List.range_succ, List.flatMap_append, <- h2, List.flatMap_singleton, <- h1, List.take_append_drop]
theorem open_sty {m : Nat} {cs : List Value} {y : DataW H × List MemPlace} (hl : cs.length = 118) (h : DataW.trod enc Tryz.prog w 0 (fun _ => true) held m 38 cs = some y) : ∃ s : Sy, cs = scells s /\ SyIn s := by
 have k2 : Tryz.prog.cellsOf 36 = 2 := by kernel_rfl
 obtain ⟨-, n, hg⟩ := trod_items Tryz.underlying38 h
 rw [k2] at hg
 obtain ⟨L, hL, hp⟩ := exists_list (p := fun i (v : Int × Int) => (cs.drop (i * 2)).take 2 = [.int .i64 v.1, .int .i64 v.2] /\ I64 v.1 /\ I64 v.2) 59 (fun i hi => by
  obtain ⟨y, hy⟩ := hg i hi
  exact open_sval (by rw [List.length_take, List.length_drop]; omega) hy)
 have hs : ∀ p, p < 59 -> L[p]? = some (L.getD p (0, 0)) := fun p hp => by
  rw [List.getD_eq_getElem?_getD, List.getElem?_eq_getElem (by omega)]
  rfl
 exact ⟨fun p => L.getD p (0, 0), pairs_list 59 cs _ (by omega) (fun p h => (hp p _ (hs p h)).1), fun p h => (hp p _ (hs p h)).2⟩
theorem open_stys {fuel : Nat} {cs : List Value} {x : DataW H × List MemPlace} (h : DataW.trod enc Tryz.prog w 0 (fun _ => true) held fuel 25 cs = some x) :
  ∃ (L : List Sy) (A : Option Addr) (cap : Nat), cs = [.slice A L.length cap] /\ StyAt w w.heap.size A cap L := by
 have k6 : Tryz.prog.cellsOf 38 = 118 := by kernel_rfl
 obtain ⟨D, A, c, rfl, h1, h2, h3, h4⟩ := open_rd (f := scells) (X := SyIn) Tryz.underlying25 k6 (by decide) (fun m cs' y hl h => open_sty hl h) h
 exact ⟨D, A, c, rfl, h3, ⟨h1, h2⟩, h4⟩
theorem open_doc {fuel : Nat} {cs : List Value} {x : DataW H × List MemPlace} (h : DataW.trod enc Tryz.prog w 0 (fun _ => true) held fuel 24 cs = some x) :
  ∃ (D : List Nd) (A : Option Addr) (cap : Nat) (q : Bool), cs = [.slice A D.length cap, .bool q] /\ DocAt w w.heap.size A cap D := by
 have k0 : Tryz.prog.cellsOf 22 = 1 := by kernel_rfl
 have k1 : Tryz.prog.cellsOf 4 = 1 := by kernel_rfl
 have k2 : Tryz.prog.cellsOf 24 = 2 := by kernel_rfl
 obtain ⟨hl, n, hg⟩ := trod_fields Tryz.underlying24 h
 rw [k2] at hl
 match cs, hl with
 | [a0, a1], _ =>
  obtain ⟨_, g0⟩ := at_field hg 0 22 0 1 rfl k0
  obtain ⟨_, g1⟩ := at_field hg 1 4 1 1 rfl k1
  obtain ⟨D, A, c, e0, hD⟩ := open_nodes g0
  obtain ⟨q, e1, _⟩ := DataW.trod_bool Tryz.underlying4 g1
  simp at e0 e1
  subst e0 e1
  exact ⟨D, A, c, q, rfl, hD⟩
end
end doc
namespace doc
open Go.RowKit base tok
def lettersB : Bs := [97, 98, 99, 100, 101, 102, 103, 104, 105, 106, 107, 108, 109, 110, 111, 112, 113, 114, 115, 116, 117, 118, 119, 120, 121, 122]
def attrB : Bs := lettersB ++ [45, 95]
def signB : Bs := lettersB ++ [48, 49, 50, 51, 52, 53, 54, 55, 56, 57, 45, 95, 58]
def namedF (s first : Bs) : Bool := !s.isEmpty && decide (s.length <= 40) && decide (0 <= Lib.indexByte first (s.headD 0)) && (Lib.trimS s signB).isEmpty
def findG (s : Bs) : List At -> Nat -> Int
 | [], _ => -1
 | a :: R, i => if a.1 = s then (i : Int) else findG s R (i + 1)
def findF (l : List At) (s : Bs) : Int := findG s l 0
def attrsG (pre : List At) : List At -> Int
 | [] => 0
 | a :: R => if namedF a.1 attrB = false then 3 else if 400 < a.2.length then 2 else if 0 <= findF pre a.1 then 3 else attrsG (pre ++ [a]) R
def attrsF (l : List At) : Int := if 12 < l.length then 2 else attrsG [] l
def bareF (x : Nd) : Bool := (decide (x.kind = 2) || decide (x.kind = 5) || decide (x.name.length = 0)) && (decide (x.kind = 2) || decide (x.attrs.length = 0)) && (decide (x.kind = 3) || decide (x.kind = 4) || decide (x.text.length = 0)) && (decide (x.kind = 1) || decide (x.kind = 2) || decide (x.kids.length = 0))
def oneF (x : Nd) : Int :=
 if x.kind < 1 ∨ 5 < x.kind ∨ bareF x = false then 7
 else if x.kind = 2 /\ namedF x.name lettersB = false then 3
 else if attrsF x.attrs ≠ 0 then attrsF x.attrs
 else if 400 < x.text.length ∨ 400 < x.name.length then 2 else 0
def parAt (D : List Nd) (n : Int) : Int := ((D[n.toNat]?).map Nd.parent).getD (-1)
def kindAt (D : List Nd) (n : Int) : Int := ((D[n.toNat]?).map Nd.kind).getD 0
def kidsG (D : List Nd) (i : Nat) : List Int -> List Int -> Int × List Int
 | seen, [] => (0, seen)
 | seen, k :: R => if k < 0 ∨ (D.length : Int) <= k ∨ parAt D k ≠ i ∨ k ∈ seen then (3, seen) else if i = 0 /\ kindAt D k = 3 then (7, seen) else kidsG D i (k :: seen) R
def kidsN (D : List Nd) : Nat -> List Int -> List Nd -> Int × List Int
 | _, seen, [] => (0, seen)
 | i, seen, x :: R => if (kidsG D i seen x.kids).1 ≠ 0 then kidsG D i seen x.kids else kidsN D (i + 1) (kidsG D i seen x.kids).2 R
def kidsO (seen : List Int) : Nat -> List Nd -> Int
 | _, [] => 0
 | i, x :: R => if x.parent ≠ -1 /\ (i : Int) ∉ seen then 3 else kidsO seen (i + 1) R
def kidsF (D : List Nd) : Int :=
 if (kidsN D 0 [] D).1 ≠ 0 then (kidsN D 0 [] D).1 else if kidsO (kidsN D 0 [] D).2 0 D ≠ 0 then 3 else if parAt D 0 ≠ -1 then 3 else 0
def upF (D : List Nd) : Nat -> Int -> Nat
 | 0, _ => 0
 | f + 1, n => if 0 <= parAt D n then upF D f (parAt D n) + 1 else 0
def checkN : Nat -> List Nd -> Int
 | _, [] => 0
 | i, x :: R => if decide (x.kind = 1) ≠ decide (i = 0) then 3 else if oneF x ≠ 0 then oneF x else checkN (i + 1) R
def checkU (D : List Nd) : Nat -> Nat -> Int
 | _, 0 => 0
 | i, m + 1 => if D.length < upF D (D.length + 1) i then 8 else if 40 < upF D (D.length + 1) i then 2 else checkU D (i + 1) m
def checkF (D : List Nd) : Int :=
 if 200 < D.length then 2 else if D.length = 0 then 3 else if checkN 0 D ≠ 0 then checkN 0 D else if kidsF D ≠ 0 then kidsF D else checkU D 0 D.length
theorem kidsG_ok {D : List Nd} {i : Nat} : ∀ {L seen : List Int}, (kidsG D i seen L).1 = 0 -> (∀ k ∈ seen, 0 <= parAt D k /\ parAt D k < D.length) -> i < D.length -> (∀ k ∈ L, 0 <= k /\ k < (D.length : Int) /\ parAt D k = i) /\ ∀ k ∈ (kidsG D i seen L).2, 0 <= parAt D k /\ parAt D k < D.length
 | [], seen, _, hs, _ => ⟨fun k hk => (by cases hk), hs⟩
 | k :: R, seen, h, hs, hi => by
  rw [kidsG] at h ⊢
  by_cases h1 : k < 0 ∨ (D.length : Int) <= k ∨ parAt D k ≠ i ∨ k ∈ seen
  ·rw [if_pos h1] at h
   cases h
  rw [if_neg h1] at h ⊢
  by_cases h2 : i = 0 /\ kindAt D k = 3
  ·rw [if_pos h2] at h
   cases h
  rw [if_neg h2] at h ⊢
  have h3 : 0 <= k /\ k < (D.length : Int) /\ parAt D k = i := by
   refine ⟨by omega, by omega, ?_⟩
   by_cases g : parAt D k = i
   ·exact g
   ·exact absurd (.inr (.inr (.inl g))) h1
  obtain ⟨g1, g2⟩ := kidsG_ok (L := R) (seen := k :: seen) h (fun x hx => by
   rcases List.mem_cons.1 hx with rfl | hx
   ·rw [h3.2.2]; omega
   ·exact hs x hx) hi
  exact ⟨fun x hx => by
   rcases List.mem_cons.1 hx with rfl | hx
   ·exact h3
   ·exact g1 x hx, g2⟩
theorem kidsN_ok {D : List Nd} : ∀ {R : List Nd} {i : Nat} {seen : List Int}, (kidsN D i seen R).1 = 0 -> i + R.length = D.length -> (∀ k ∈ seen, 0 <= parAt D k /\ parAt D k < D.length) -> (∀ x ∈ R, ∀ k ∈ x.kids, 0 <= k /\ k < (D.length : Int)) /\ ∀ k ∈ (kidsN D i seen R).2, 0 <= parAt D k /\ parAt D k < D.length
 | [], i, seen, _, _, hs => ⟨fun x hx => (by cases hx), hs⟩
 | x :: R, i, seen, h, hi, hs => by
  rw [List.length_cons] at hi
  rw [kidsN] at h ⊢
  by_cases h1 : (kidsG D i seen x.kids).1 ≠ 0
  ·rw [if_pos h1] at h
   exact absurd h h1
  rw [if_neg h1] at h ⊢
  obtain ⟨g1, g2⟩ := kidsG_ok (by simpa using h1) hs (by omega)
  obtain ⟨g3, g4⟩ := kidsN_ok (R := R) (i := i + 1) h (by omega) g2
  exact ⟨fun y hy k hk => by
   rcases List.mem_cons.1 hy with rfl | hy
   ·exact ⟨(g1 k hk).1, (g1 k hk).2.1⟩
   ·exact g3 y hy k hk, g4⟩
theorem kidsO_ok {seen : List Int} : ∀ {R : List Nd} {i : Nat}, kidsO seen i R = 0 -> ∀ (j : Nat) (x : Nd), R[j]? = some x -> x.parent = -1 ∨ ((i + j : Nat) : Int) ∈ seen
 | [], i, _, j, x, hj => by cases hj
 | y :: R, i, h, j, x, hj => by
  rw [kidsO] at h
  by_cases h1 : y.parent ≠ -1 /\ (i : Int) ∉ seen
  ·rw [if_pos h1] at h
   cases h
  rw [if_neg h1] at h
  cases j with
  | zero =>
   obtain rfl := Option.some.inj hj
   by_cases g : y.parent = -1
   ·exact .inl g
   ·by_cases g2 : (i : Int) ∈ seen
    ·exact .inr g2
    ·exact absurd ⟨g, g2⟩ h1
  | succ j =>
   have := kidsO_ok h j x hj
   rwa [show i + 1 + j = i + (j + 1) by omega] at this
structure OkD (D : List Nd) : Prop where
 kids : ∀ x ∈ D, ∀ k ∈ x.kids, 0 <= k /\ k < (D.length : Int)
 par : ∀ n : Int, parAt D n = -1 ∨ (0 <= parAt D n /\ parAt D n < D.length)
theorem kids_ok {D : List Nd} (h : kidsF D = 0) : OkD D := by
 unfold kidsF at h
 by_cases h1 : (kidsN D 0 [] D).1 ≠ 0
 ·rw [if_pos h1] at h
  exact absurd h h1
 rw [if_neg h1] at h
 by_cases h2 : kidsO (kidsN D 0 [] D).2 0 D ≠ 0
 ·rw [if_pos h2] at h
  cases h
 obtain ⟨g1, g2⟩ := kidsN_ok (D := D) (R := D) (i := 0) (seen := []) (by simpa using h1) (by omega) (fun k hk => by cases hk)
 refine ⟨g1, fun n => ?_⟩
 cases hn : D[n.toNat]? with
 | none => exact .inl (by simp [parAt, hn])
 | some x =>
  have e : parAt D n = x.parent := by simp [parAt, hn]
  rcases kidsO_ok (by simpa using h2) n.toNat x hn with hx | hx
  ·exact .inl (e.trans hx)
  ·have := g2 _ hx
   have e2 : parAt D ((0 + n.toNat : Nat) : Int) = x.parent := by unfold parAt; rw [Nat.zero_add, Int.toNat_natCast, hn]; rfl
   rw [e2] at this
   rw [e]
   exact .inr this
theorem checkU_ok {D : List Nd} : ∀ {m i : Nat}, checkU D i m = 0 -> ∀ j, i <= j -> j < i + m -> upF D (D.length + 1) j <= D.length
 | 0, i, _, j, h1, h2 => by omega
 | m + 1, i, h, j, h1, h2 => by
  rw [checkU] at h
  by_cases g1 : D.length < upF D (D.length + 1) i
  ·rw [if_pos g1] at h
   cases h
  rw [if_neg g1] at h
  by_cases g2 : 40 < upF D (D.length + 1) i
  ·rw [if_pos g2] at h
   cases h
  rw [if_neg g2] at h
  rcases Nat.lt_or_ge i j with hj | hj
  ·exact checkU_ok h j hj (by omega)
  ·obtain rfl : j = i := by omega
   omega
theorem checkN_ok : ∀ {R : List Nd} {i : Nat}, checkN i R = 0 -> ∀ x ∈ R, oneF x = 0
 | [], i, _, x, hx => by cases hx
 | y :: R, i, h, x, hx => by
  rw [checkN] at h
  by_cases h1 : decide (y.kind = 1) ≠ decide (i = 0)
  ·rw [if_pos h1] at h
   cases h
  rw [if_neg h1] at h
  by_cases h2 : oneF y ≠ 0
  ·rw [if_pos h2] at h
   exact absurd h h2
  rw [if_neg h2] at h
  rcases List.mem_cons.1 hx with rfl | hx
  ·simpa using h2
  ·exact checkN_ok h x hx
structure GoodD (D : List Nd) : Prop extends OkD D where
 len : 0 < D.length /\ D.length <= 200
 one : ∀ x ∈ D, oneF x = 0
 up : ∀ j, j < D.length -> upF D (D.length + 1) j <= D.length
theorem check_ok {D : List Nd} (h : checkF D = 0) : GoodD D := by
 unfold checkF at h
 by_cases h1 : 200 < D.length
 ·rw [if_pos h1] at h
  cases h
 rw [if_neg h1] at h
 by_cases h2 : D.length = 0
 ·rw [if_pos h2] at h
  cases h
 rw [if_neg h2] at h
 by_cases h3 : checkN 0 D ≠ 0
 ·rw [if_pos h3] at h
  exact absurd h h3
 rw [if_neg h3] at h
 by_cases h4 : kidsF D ≠ 0
 ·rw [if_pos h4] at h
  exact absurd h h4
 rw [if_neg h4] at h
 exact { kids_ok (by simpa using h4) with len := by omega, one := checkN_ok (by simpa using h3), up := fun j hj => checkU_ok h j (Nat.zero_le _) (by omega) }
theorem attrsG_ok : ∀ {R pre : List At}, attrsG pre R = 0 -> ∀ a ∈ R, a.2.length <= 400
 | [], pre, _, a, ha => by cases ha
 | b :: R, pre, h, a, ha => by
  rw [attrsG] at h
  by_cases h1 : namedF b.1 attrB = false
  ·rw [if_pos h1] at h
   cases h
  rw [if_neg h1] at h
  by_cases h2 : 400 < b.2.length
  ·rw [if_pos h2] at h
   cases h
  rw [if_neg h2] at h
  by_cases h3 : 0 <= findF pre b.1
  ·rw [if_pos h3] at h
   cases h
  rw [if_neg h3] at h
  rcases List.mem_cons.1 ha with rfl | ha
  ·omega
  ·exact attrsG_ok h a ha
theorem one_attrs {x : Nd} (h : oneF x = 0) : x.attrs.length <= 12 /\ ∀ a ∈ x.attrs, a.2.length <= 400 := by
 unfold oneF at h
 split at h
 ·cases h
 split at h
 ·cases h
 split at h
 ·rename_i g
  exact absurd h g
 rename_i g
 replace g : attrsF x.attrs = 0 := by simpa using g
 unfold attrsF at g
 split at g
 ·cases g
 ·exact ⟨by omega, attrsG_ok g⟩
end doc
namespace doc
open Go.RowKit base tok
set_option linter.unusedSimpArgs false
theorem toL (a : Bs) : (bs a).toList = a := ByteArray.toList_mk a
theorem szL (a : Bs) : (bs a).size = a.length := rfl
theorem idx_ct (first : Bs) (c : UInt8) (w : World) : Calls Tryz.prog 126 #[.string (bs first), .int .u8 (nv c)] w fun e w' => e = .returned (.int .i64 (Lib.indexByte first c)) /\ w = w' := by
 have h := Tryz.strings_IndexByte (bs first) (nv c) w
 rw [show (nv c).toNat.toUInt8 = c by simp [nv]] at h
 exact h.mono fun e w' ⟨he, hw⟩ => ⟨he, hw.symm⟩
theorem trim_ct (s : Bs) (hs : s.length <= maxLen) (w : World) : Calls Tryz.prog 150 #[.string (bs s), .string ⟨#[97, 98, 99, 100, 101, 102, 103, 104, 105, 106, 107, 108, 109, 110, 111, 112, 113, 114, 115, 116, 117, 118, 119, 120, 121, 122, 48, 49, 50, 51, 52, 53, 54, 55, 56, 57, 45, 95, 58]⟩] w fun e w' => e = .returned (.string (bs (Lib.trimS s signB))) /\ Below w.heap.size w w' :=
 Any.strings_Trim_laid Tryz.lays160 (by kernel_rfl) (bs s) ⟨#[97, 98, 99, 100, 101, 102, 103, 104, 105, 106, 107, 108, 109, 110, 111, 112, 113, 114, 115, 116, 117, 118, 119, 120, 121, 122, 48, 49, 50, 51, 52, 53, 54, 55, 56, 57, 45, 95, 58]⟩ w (by rw [szL]; unfold maxLen at hs; omega) (by decide) (ascii_of_all (by decide))
theorem named_ct (s first : Bs) (hs : s.length <= maxLen) (w : World) : Calls Tryz.prog 104 #[.string (bs s), .string (bs first)] w fun e w' => e = .returned (.bool (namedF s first)) /\ Below w.heap.size w w' := by
 cases s with
 | nil =>
  have h0 : (bs []).toList.isEmpty = true := by rw [toL]; rfl
  go_enter Tryz.func104, Tryz.ntmps104
  go_wp2_with fail
  go_ret
  exact ⟨rfl, Below.refl _ _⟩
 | cons c r =>
  have h0 : (bs (c :: r)).toList.isEmpty = false := by rw [toL]; rfl
  have hz : ((bs (c :: r)).size : Int) = ((r.length + 1 : Nat) : Int) := rfl
  have hx : 0 < (bs (c :: r)).size := by rw [szL]; exact Nat.succ_pos _
  by_cases hl : (c :: r).length <= 40
  ·have hd : decide (((bs (c :: r)).size : Int) <= 40) = true := by rw [hz, decide_eq_true_eq]; rw [List.length_cons] at hl; omega
   have cI := hid (idx_ct first c)
   cases hi : decide ((0 : Int) <= Lib.indexByte first c) with
   | false =>
    have e : namedF (c :: r) first = false := by
     have g := of_decide_eq_false hi
     simp [namedF, g]
    rw [e]
    clear hz hs hl e
    go_enter Tryz.func104, Tryz.ntmps104
    go_wp2_with (go_at_call 126; refine (cI.out _).mono ?_; rintro e W1 ⟨rfl, rfl⟩)
    go_ret
    exact ⟨rfl, Below.refl _ _⟩
   | true =>
    have cT := hid (trim_ct (c :: r) hs)
    have e : namedF (c :: r) first = (Lib.trimS (c :: r) signB).isEmpty := by
     have g := of_decide_eq_true hi
     unfold namedF
     rw [List.headD_cons, decide_eq_true g, decide_eq_true hl]
     rfl
    have ht : (bs (Lib.trimS (c :: r) signB)).toList.isEmpty = (Lib.trimS (c :: r) signB).isEmpty := by rw [toL]
    rw [e]
    generalize (Lib.trimS (c :: r) signB) = T at *
    generalize T.isEmpty = v at *
    clear hz hs hl e
    go_enter Tryz.func104, Tryz.ntmps104
    go_wp2_with (first
     | (go_at_call 126; refine (cI.out _).mono ?_; rintro e W1 ⟨rfl, rfl⟩)
     | (go_at_call 150; (with_reducible refine (cT.out _).mono ?_); rintro e W1 ⟨rfl, hb1⟩; have HB1 := hid hb1; clear hb1))
    go_ret
    exact ⟨rfl, HB1.out⟩
  ·have hd : decide (((bs (c :: r)).size : Int) <= 40) = false := by rw [hz, decide_eq_false_iff_not]; rw [List.length_cons] at hl; omega
   have e : namedF (c :: r) first = false := by
    unfold namedF
    rw [decide_eq_false hl]
    simp
   rw [e]
   clear hz hs hl e
   go_enter Tryz.func104, Tryz.ntmps104
   go_wp2_with fail
   go_ret
   exact ⟨rfl, Below.refl _ _⟩
theorem Name_ct (s : Bs) (hs : s.length <= maxLen) (w : World) : Calls Tryz.prog 69 #[.string (bs s)] w fun e w' => e = .returned (.bool (namedF s lettersB)) /\ Below w.heap.size w w' := by
 have cN := hid (named_ct s lettersB hs)
 generalize namedF s lettersB = v at *
 clear hs
 go_enter Tryz.func69, Tryz.ntmps69
 go_wp2_with (go_at_call 104; refine ((cN.out _).mono ?_); rintro e W1 ⟨rfl, hb1⟩; have HB1 := hid hb1; clear hb1)
 go_ret
 exact ⟨rfl, HB1.out⟩
theorem attrName_ct (s : Bs) (hs : s.length <= maxLen) (w : World) : Calls Tryz.prog 105 #[.string (bs s)] w fun e w' => e = .returned (.bool (namedF s attrB)) /\ Below w.heap.size w w' := by
 have cN := hid (named_ct s attrB hs)
 generalize namedF s attrB = v at *
 clear hs
 go_enter Tryz.func105, Tryz.ntmps105
 go_wp2_with (go_at_call 104; refine ((cN.out _).mono ?_); rintro e W1 ⟨rfl, hb1⟩; have HB1 := hid hb1; clear hb1)
 go_ret
 exact ⟨rfl, HB1.out⟩
theorem findG_hit {s : Bs} {L : List At} {i : Nat} {x : At} (h : L[i]? = some x) (hp : x.1 = s) : findG s (L.drop i) i = i := by
 obtain ⟨hl, he⟩ := List.getElem?_eq_some_iff.1 h
 rw [List.drop_eq_getElem_cons hl, he, findG, if_pos hp]
theorem findG_miss {s : Bs} {L : List At} {i : Nat} {x : At} (h : L[i]? = some x) (hp : ¬ x.1 = s) : findG s (L.drop (i + 1)) (i + 1) = findG s (L.drop i) i := by
 obtain ⟨hl, he⟩ := List.getElem?_eq_some_iff.1 h
 rw [List.drop_eq_getElem_cons hl, he, findG, if_neg hp]
theorem same_ct (x : At) (n : Bs) (b : Nat) (t : TypeId) (w : World) (hB : Blk w b t #[.string (bs n)]) :
  Calls Tryz.prog 152 #[.agg #[.string (bs x.1), .string (bs x.2)], (pn b)] w fun e w' => e = .returned (.bool (decide (x.1 = n))) /\ Below w.heap.size w w' := by
 have c0 := (hB.alloc (.cells #[.string (bs x.1), .string (bs x.2)] 107)).cell
 have hb := hid (show Below w.heap.size w (w.alloc (.cells #[.string (bs x.1), .string (bs x.2)] 107)) from ba _ _)
 have h2 : ((bs x.1).toList == (bs n).toList) = decide (x.1 = n) := by
  rw [toL, toL]
  by_cases h : x.1 = n <;> simp [h]
 generalize decide (x.1 = n) = c at *
 clear hB
 go_enter Tryz.func152, Tryz.ntmps152
 go_wp2_with fail
 go_ret
 exact ⟨rfl, hb.out⟩
theorem atRd {w : World} {B : Nat} {A : Option Addr} {n k : Nat} {V : List At} (h : Rd 2 acells w B A n V) (hk : k < n) : ∃ b off p, A = some ⟨b, off, none⟩ /\ b < B /\ V[k]? = some p /\ w.cell? ⟨b, off + k * 2, none⟩ = some (.string (bs p.1)) /\ w.cell? ⟨b, off + k * 2 + 1, none⟩ = some (.string (bs p.2)) := by
 obtain ⟨b, off, p, hA, hlt, hd, hc⟩ := Rd.at_ h hk
 exact ⟨b, off, p, hA, hlt, hd, hc 0 (by decide), hc 1 (by decide)⟩
theorem IndexFunc_ct (s : Bs) (k : Nat) (t : TypeId) (A : Option Addr) (cap : Nat) (V : List At) (hn : V.length <= maxLen) (w : World) (hI : Rd 2 acells w w.heap.size A V.length V) (hB : Blk w k t #[.string (bs s)]) :
  Calls Tryz.prog 151 #[.slice A V.length cap, .func (.func 152) #[] #[(pn k)]] w fun e w' => e = .returned (.int .i64 (findF V s)) /\ Below w.heap.size w w' := by
 have HI := hid hI
 have HP := hid hB
 unfold maxLen at hn
 clear hI hB
 unfold findF
 generalize hR : findG s V 0 = R
 have HR := hid hR
 clear hR
 go_enter Tryz.func151, Tryz.ntmps151
 go_wp2_with fail
 go_loopw [5, 8] (fun _ x wr => ∃ i : Nat, i <= V.length /\ x = .int .i64 i /\ findG s (V.drop i) i = R /\ Below w.heap.size w wr) (fun _ x _ => V.length - (intOf x).toNat)
 case atStart => exact ⟨0, Nat.zero_le _, rfl, HR.out, Below.refl _ _⟩
 case round =>
  obtain ⟨i, hil, rfl, hinv, hbel⟩ := hrel
  have HInv := hid hinv
  have HBl := hid hbel
  clear hinv HR
  by_cases hlt : i < V.length
  ·have hlt' : (i : Int) < (V.length : Int) := by omega
   obtain ⟨b, off, x, rfl, hbb, hd, c0, c1⟩ := atRd (HI.out.keep hbel hbel.size) hlt
   have hcall := hid (same_ct x s k t wr (HP.out.below hbel HP.out.lt))
   have HD := hid hd
   clear hd hbel
   by_cases hq : x.1 = s
   ·rw [decide_eq_true hq] at hcall
    have HF := hid ((findG_hit HD.out hq).symm.trans HInv.out)
    clear hq
    go_wp2_with (go_at_call 152; refine hcall.out.mono ?_; rintro e w' ⟨rfl, hb'⟩; have HB2 := hid (HBl.out.trans (hb'.mono HBl.out.size)); clear hb')
    go_ret
    exact ⟨congrArg (fun z => Ending.returned (Value.int IntKind.i64 z)) HF.out, HB2.out⟩
   ·rw [decide_eq_false hq] at hcall
    have HF := hid ((findG_miss HD.out hq).trans HInv.out)
    clear hq
    go_wp2_with (go_at_call 152; refine hcall.out.mono ?_; rintro e w' ⟨rfl, hb'⟩; have HB2 := hid (HBl.out.trans (hb'.mono HBl.out.size)); clear hb')
    go_roundw
    case rel => exact ⟨i + 1, by omega, by go_num, HF.out, HB2.out⟩
    case measure => simp [intOf]; omega
  ·obtain rfl : i = V.length := by omega
   have HF := hid (show R = -1 by rw [<- HInv.out, List.drop_length]; rfl)
   clear hbel
   go_wp2_with fail
   go_ret
   exact ⟨congrArg (fun z => Ending.returned (Value.int IntKind.i64 z)) HF.out.symm, HBl.out⟩
theorem find_ct (s : Bs) (A : Option Addr) (cap : Nat) (V : List At) (hn : V.length <= maxLen) (w : World) (hI : Rd 2 acells w w.heap.size A V.length V) :
  Calls Tryz.prog 106 #[.slice A V.length cap, .string (bs s)] w fun e w' => e = .returned (.int .i64 (findF V s)) /\ Below w.heap.size w w' := by
 have hb1 : Below w.heap.size w (w.alloc (.cells #[.string (bs s)] 9)) := ba _ _
 have HB1 := hid hb1
 have cH := hid (IndexFunc_ct s w.heap.size 9 A cap V hn (w.alloc (.cells #[.string (bs s)] 9)) (hI.keep hb1 hb1.size) (Blk.new rfl))
 generalize findF V s = c at *
 clear hb1 hI hn
 go_enter Tryz.func106, Tryz.ntmps106
 go_wp2_with (go_at_call 151; (with_reducible refine (cH.out).mono ?_); rintro e W1 ⟨rfl, hb2⟩; have HB2 := hid (tb HB1 hb2); clear hb2)
 go_ret
 exact ⟨rfl, HB2.out⟩
end doc
namespace doc
open Go.RowKit base tok
set_option linter.unusedSimpArgs false
abbrev ndV (x : Nd) : Value := .agg #[.int .i64 x.kind, .string (bs x.name), .slice x.aA x.attrs.length x.aC, .string (bs x.text), .int .i64 x.parent, .slice x.kA x.kids.length x.kC]
abbrev ndC (x : Nd) : Array Value := #[.int .i64 x.kind, .string (bs x.name), .slice x.aA x.attrs.length x.aC, .string (bs x.text), .int .i64 x.parent, .slice x.kA x.kids.length x.kC]
theorem empty_eq (s : Bs) : (bs s).toList.isEmpty = decide (s.length = 0) := by
 rw [show (bs s).toList = s from ByteArray.toList_mk s]
 cases s <;> simp
theorem parent_ct (k : Int) (w : World) : Calls Tryz.prog 103 #[.int .i64 k] w fun e w' => e = .returned (.bool (decide (k = 1) || decide (k = 2))) /\ w = w' := by
 by_cases h1 : k = 1
 ·subst h1
  go_enter Tryz.func103, Tryz.ntmps103
  go_wp2_with fail
  go_ret
  exact ⟨rfl, rfl⟩
 ·have h2 : (k == 1) = false := by simpa using h1
  have e : (decide (k = 1) || decide (k = 2)) = (k == 2) := by rw [decide_eq_false h1, Bool.false_or]; rfl
  rw [e]
  go_enter Tryz.func103, Tryz.ntmps103
  go_wp2_with fail
  go_ret
  exact ⟨rfl, rfl⟩
theorem bare_ct (x : Nd) (hk : 1 <= x.kind /\ x.kind <= 5) (w : World) : Calls Tryz.prog 68 #[ndV x] w fun e w' => e = .returned (.bool (bareF x)) /\ Below w.heap.size w w' := by
 obtain ⟨k, nm, al, tx, pa, ks, aA, aC, kA, kC⟩ := x
 simp only at hk
 have hB := hid (Blk.new (w := w) (t := 34) (cs := #[.int .i64 k, .string (bs nm), .slice aA al.length aC, .string (bs tx), .int .i64 pa, .slice kA ks.length kC]) rfl)
 have hb := hid (show Below w.heap.size w (w.alloc (.cells #[.int .i64 k, .string (bs nm), .slice aA al.length aC, .string (bs tx), .int .i64 pa, .slice kA ks.length kC] 34)) from ba _ _)
 have cP := hid (parent_ct k)
 have h1 : (bs nm).toList.isEmpty = decide (nm.length = 0) := empty_eq nm
 have h2 : (bs tx).toList.isEmpty = decide (tx.length = 0) := empty_eq tx
 have h3 : ((al.length : Int) == 0) = decide (al.length = 0) := by rw [Bool.eq_iff_iff]; simp
 have h4 : ((ks.length : Int) == 0) = decide (ks.length = 0) := by rw [Bool.eq_iff_iff]; simp
 simp only [bareF]
 generalize decide (nm.length = 0) = n at *
 generalize decide (tx.length = 0) = t at *
 generalize decide (al.length = 0) = a at *
 generalize decide (ks.length = 0) = d at *
 obtain rfl | rfl | rfl | rfl | rfl : k = 1 ∨ k = 2 ∨ k = 3 ∨ k = 4 ∨ k = 5 := by omega
 all_goals clear hk
 all_goals simp only [Int.reduceEq, decide_false, decide_true, Bool.false_or, Bool.true_or, Bool.or_false, Bool.or_true, Bool.true_and, Bool.and_true]
 all_goals
  go_enter Tryz.func68, Tryz.ntmps68
  go_wp2_with fail
  go_quiet (fail)
  go_wp2_with (go_at_call 103; (with_reducible refine (cP.out _).mono ?_); rintro e W1 ⟨rfl, rfl⟩)
  all_goals go_ret
  all_goals exact ⟨by simp_all, below_drewN hb.out _⟩
end doc
end Go.Proofs.YthgffoanecknoaaGreatDoor
