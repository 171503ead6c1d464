/- Contracts and plain law, a bundle. -/
import Derived.StillTail
import Derived.OrdersHeld
import Derived.Lib.Hide
import Derived.Test.YthgffoanecknoaaGreatDoorBA
import Derived.Test.YthgffoanecknoaaGreatDoorJ1
set_option linter.unusedVariables false
set_option maxRecDepth 100000
set_option maxHeartbeats 16000000
open Go.Lib (hid)
namespace Go.Proofs.YthgffoanecknoaaGreatDoor
namespace peel
open Go
section
variable {P : Program} {ops : Array Oper} {Q : Exit -> Act -> World -> Prop} {md : Region.Mode} {S : World -> Prop} {n : Nat}
def wpAnyN (P : Program) (md : Region.Mode) (ops : Array Oper) (Q : Exit -> Act -> World -> Prop) (S : World -> Prop) (n : Nat) : Nat -> Array Bool -> Act -> World -> Prop
 | 0, listed, a, w => Region.ready md ops listed = [] /\ Q .normal a w
 | fuel + 1, listed, a, w =>
  (Region.ready md ops listed = [] -> Q .normal a w) /\
  ∀ i ∈ Region.ready md ops listed, wpOp P ops Q i (fun a' w' => (i ≠ n -> S w') /\ wpAnyN P md ops Q S n fuel (listed.setIfInBounds i true) a' w') a w
theorem wpAny_of_N : ∀ (fuel : Nat) (listed : Array Bool) (a : Act) (w : World), wpAnyN P md ops Q S n fuel listed a w -> wpAny P md ops Q fuel listed a w
 | 0, _, _, _, h => h
 | fuel + 1, _, _, _, h => ⟨h.1, fun i hi => wpOp_mono (fun a' w' h' => wpAny_of_N fuel _ a' w' h'.2) (h.2 i hi)⟩
theorem wpAnyN_first {i : Nat} {oi : Oper} {v : Value} (hi : ops[i]? = some oi) (hsel : ∀ (j : Nat) (o : Oper) cs b, ops[j]? = some o -> o.op ≠ .select cs b)
  (hs : Region.sinkB md ops n = true) (hc : Region.chainB md ops n = true) (hn : n < ops.size) (hin : i < n)
  (hQ : ∀ c a w, Q (.panic c) (a.put oi.dst v) w -> Q (.panic c) a w) :
  ∀ (fuel : Nat) (listed : Array Bool) (a : Act) (w : World), HeadInv md ops n listed ->
   (∀ j oj, ops[j]? = some oj -> j ≠ i -> listed.getD j true = false -> (∀ e ∈ oj.after, Region.binds md e = true -> e.on ≠ i) -> oi.apart ops oj = true) ->
   i ∈ Region.ready md ops listed -> YieldsIf P ops S oi v a -> S w ->
   wpAnyN P md ops Q S n fuel (listed.setIfInBounds i true) (a.put oi.dst v) w -> wpAnyN P md ops Q S n (fuel + 1) listed a w := by
 intro fuel
 induction fuel with
 | zero =>
  intro listed a w _ _ hr hy hS H
  refine ⟨fun h => (by rw [h] at hr; cases hr), fun j hj => ?_⟩
  by_cases hji : j = i
  ·subst hji; exact hy.wpOp hi hS ⟨fun _ => hS, H⟩
  ·have := ready_mono hj hji
   rw [H.1] at this
   cases this
 | succ fuel ih =>
  intro listed a w inv hfree hr hy hS H
  refine ⟨fun h => (by rw [h] at hr; cases hr), fun j hj => ?_⟩
  by_cases hji : j = i
  ·subst hji; exact hy.wpOp hi hS ⟨fun _ => hS, H⟩
  ·have h1 := H.2 j (ready_mono hj hji)
   have h0 := (mem_ready.1 hr).1
   have hjn : j < n := by
    rcases Nat.lt_or_ge j n with h | h
    ·exact h
    ·exact absurd hj (tail_waits hs hc hn inv _ i rfl hin h0 j h)
   obtain ⟨hjun, oj, hoj, hall⟩ := mem_ready.1 hj
   have hnot : ∀ e ∈ oj.after, Region.binds md e = true -> e.on ≠ i := fun e he hb heq => by
    have h1 := hall e he hb
    rw [heq, getD_both h0] at h1
    cases h1
   have h2 := wpOp_putIf hoj (hfree j oj hoj hji hjun hnot) (fun cs b => hsel i oi cs b hi) (fun cs b => hsel j oj cs b hoj) hQ hy h1
   have hfree' : ∀ k ok, ops[k]? = some ok -> k ≠ i -> (listed.setIfInBounds j true).getD k true = false ->
     (∀ e ∈ ok.after, Region.binds md e = true -> e.on ≠ i) -> oi.apart ops ok = true := fun k ok hk hki hun hno => by
    refine hfree k ok hk hki ?_ hno
    by_cases hjk : j = k
    ·subst hjk; exact hjun
    ·rw [getD_set_ne true hjk] at hun; exact hun
   refine wpOp_mono (fun a' w' h3 => ⟨h3.2.1, ih (listed.setIfInBounds j true) a' w' (inv.set hj hjn) hfree' (ready_mono hr (Ne.symm hji)) h3.1 (h3.2.1 (by omega)) ?_⟩) h2
   rw [Array.setIfInBounds_comm _ _ hji]
   exact h3.2.2
def headB (md : Region.Mode) (ops : Array Oper) (n : Nat) (listed : Array Bool) : Bool :=
 listed.size == ops.size && (List.range ops.size).all (fun j => !listed.getD j false || match ops[j]? with | some oj => oj.after.all (fun e => !Region.binds md e || listed.getD e.on false) | none => true) && !listed.getD n true && n + 1 == ops.size
theorem headB_spec {listed : Array Bool} (h : headB md ops n listed = true) : HeadInv md ops n listed := by
 simp only [headB, Bool.and_eq_true, beq_iff_eq, List.all_eq_true, List.mem_range, Bool.or_eq_true, Bool.not_eq_true'] at h
 obtain ⟨⟨⟨h1, h2⟩, h3⟩, h4⟩ := h
 refine ⟨h1, fun j oj hj hl e he hb => ?_, fun t ht ht' => ?_⟩
 ·rcases h2 j (Array.getElem?_eq_some_iff.1 hj).1 with h | h
  ·rw [h] at hl; cases hl
  ·simp only [hj, Array.all_eq_true_iff_forall_mem, Bool.or_eq_true, Bool.not_eq_true'] at h
   rcases h e he with h | h
   ·rw [h] at hb; cases hb
   ·exact h
 ·obtain rfl : t = n := by omega
  exact h3
theorem wpAnyN_take {i : Nat} {oi : Oper} {v : Value} {fuel : Nat} {listed : Array Bool} {a : Act} {w : World} (hi : ops[i]? = some oi)
  (hsel : Region.noSelect ops = true) (hs : Region.sinkB md ops n = true) (hc : Region.chainB md ops n = true) (hb : headB md ops n listed = true) (hn : decide (n < ops.size) = true) (hin : decide (i < n) = true)
  (hf : Region.free md ops listed i = true) (hr : (Region.ready md ops listed).contains i = true)
  (hQ : ∀ c a w, Q (.panic c) (a.put oi.dst v) w -> Q (.panic c) a w) (hy : YieldsIf P ops S oi v a) (hS : S w)
  (h : wpAnyN P md ops Q S n fuel (listed.setIfInBounds i true) (a.put oi.dst v) w) : wpAnyN P md ops Q S n (fuel + 1) listed a w :=
 wpAnyN_first hi (Region.noSelect_spec hsel) hs hc (of_decide_eq_true hn) (of_decide_eq_true hin) hQ fuel listed a w (headB_spec hb) (Region.free_spec hi hf) (by simpa using hr) hy hS h
theorem wpAnyN_one {i : Nat} {o : Oper} {fuel : Nat} {listed : Array Bool} {a : Act} {w : World} (ho : ops[i]? = some o) (hr : Region.ready md ops listed = [i])
  (h : ∀ K : Act -> World -> Prop, (∀ a w, S w -> wpAnyN P md ops Q S n fuel (listed.setIfInBounds i true) a w -> K a w) -> if Region.wanted o (yielded ops a.tmps) = true then Oper.wp P o a w K Q else K (a.put o.dst undef) w) : wpAnyN P md ops Q S n (fuel + 1) listed a w := by
 refine ⟨fun h0 => (by rw [hr] at h0; cases h0), fun j hj => ?_⟩
 rw [hr] at hj
 obtain rfl : j = i := by simpa using hj
 exact wpOp_step ho (fun K hK => h K (fun a w hS hW => hK a w ⟨fun _ => hS, hW⟩))
theorem wpAnyN_last {o : Oper} {fuel : Nat} {listed : Array Bool} {a : Act} {w : World} (ho : ops[n]? = some o) (hr : Region.ready md ops listed = [n]) (hr2 : Region.ready md ops (listed.setIfInBounds n true) = [])
  (h : ∀ K : Act -> World -> Prop, (∀ a w, Q .normal a w -> K a w) -> if Region.wanted o (yielded ops a.tmps) = true then Oper.wp P o a w K Q else K (a.put o.dst undef) w) : wpAnyN P md ops Q S n (fuel + 1) listed a w := by
 refine ⟨fun h0 => (by rw [hr] at h0; cases h0), fun j hj => ?_⟩
 rw [hr] at hj
 obtain rfl : j = n := by simpa using hj
 refine wpOp_step ho (fun K hK => h K (fun a w hQ => hK a w ⟨fun hne => absurd rfl hne, ?_⟩))
 cases fuel with
 | zero => exact ⟨hr2, hQ⟩
 | succ f => exact ⟨fun _ => hQ, by rw [hr2]; simp⟩
theorem wp_region_N {id : Nat} {a : Act} {w : World} (S : World -> Prop) (n : Nat) (hm : P.follows .mixedOrders = true)
  (h : wpAnyN P .any ops Q S n ops.size (Array.replicate ops.size false) a w.drew) : (Code.region id ops true).wp P Q a w :=
 wp_region_any hm (wpAny_of_N _ _ _ _ h)
end
end peel
namespace doc
open Go.RowKit base tok
set_option linter.unusedSimpArgs false
theorem step_append {P : Program} {ops : Array Oper} {o : Oper} {a : Act} {w : World} {K : Act -> World -> Prop} {Q : Exit -> Act -> World -> Prop} {E : Prop}
  (hg : o.guard = none) (s x : Operand) (t : TypeId) (hop : o.op = Op.call { callee := Callee.builtin Builtin.append, args := #[s, x], argTypes := #[t, t] })
  (base : Nat) (e : TypeId) (i : TypeInfo) (z : Value) (size bytes : Nat) (ht : P.underlying t = some (.slice e)) (hi : P.info? e = some i) (hz : i.zero = some z)
  (hsize : i.size = size) (hby : i.bytes = bytes) (hzs : z.cells.size = size) (hsz : 0 < size)
  (v : Value) (n : Nat) (xs : List Value) (hs : a.eval s = v) (hown : w.ownsRow base e size v n xs)
  (ad : Addr) (m c : Nat) (news : List Value) (hx : a.eval x = .slice (some ad) m c) (hl : news.length = m * size) (hnews : ∀ j u, news[j]? = some u -> w.cell? (ad.add j) = some u) (h1 : ∀ u ∈ news, u.oneCell' = true)
  (h63 : n + m <= maxLen) (hbytes : (n + m) * bytes <= 140737488355328) (hbase : base <= w.heap.size)
  (hK : ∀ v' w', w'.ownsRow base e size v' (n + m) (xs ++ news) -> w.grownBy w' v.ownBlock -> (v'.ownBlock = v.ownBlock ∨ v'.ownBlock = some w.heap.size) -> K (a.put o.dst v') w') :
  if Region.wanted o (yielded ops a.tmps) = true then Oper.wp P o a w K Q else E := by
 have hw : Region.wanted o (yielded ops a.tmps) = true := by simp [Region.wanted, hg]
 rw [if_pos hw]
 obtain ⟨v', w', hr, h2, h3, h4, h5⟩ := run_append_own_at (P := P) w base t o.type e i z size bytes ht hi hz hsize hby hzs hsz v n xs hown ad m c news hl hnews h1 h63 hbytes hbase
 unfold Oper.wp execOp
 simp only [hop, resolve, invoke, builtin, Sem.run_bind, Sem.run_pure, Result.andThen_ok, List.map_toArray, List.map_cons, List.map_nil, hs, hx, hr]
 exact hK v' w' h2 h3 h5
theorem keep0 {X : Nat} {V : World} : (∀ o, V.drew.cell? ⟨X, o, none⟩ = V.cell? ⟨X, o, none⟩) /\ V.heap.size <= V.drew.heap.size := ⟨fun _ => rfl, Nat.le_refl _⟩
theorem keepA {X : Nat} {V w : World} {ob : Obj} (h : (∀ o, w.cell? ⟨X, o, none⟩ = V.cell? ⟨X, o, none⟩) /\ V.heap.size <= w.heap.size) (hX : X < V.heap.size) : (∀ o, (w.alloc ob).cell? ⟨X, o, none⟩ = V.cell? ⟨X, o, none⟩) /\ V.heap.size <= (w.alloc ob).heap.size :=
 ⟨fun o => (World.cell?_of_block (a := ⟨X, o, none⟩) (Below.heap_alloc w ob X (Nat.lt_of_lt_of_le hX h.2))).trans (h.1 o), by rw [World.size_alloc]; exact Nat.le_succ_of_le h.2⟩
abbrev protoN (nm : Bs) : Nd := ⟨2, nm, [], [], 0, [], none, 0, none, 0⟩
abbrev freshN (nm : Bs) : Nd := ⟨2, nm, [], [], -1, [], none, 0, none, 0⟩
abbrev edMake (nm : Bs) : Value := .agg #[.int .i64 4, .int .i64 0, .int .i64 0, .int .i64 0, .string ⟨#[]⟩, .string ⟨#[]⟩, .int .i64 2, .string (bs nm), .slice none 0 0, .string ⟨#[]⟩, .int .i64 0, .slice none 0 0]
theorem proto_in (nm : Bs) (h : nm.length <= maxLen) (w : World) (B : Nat) : NdIn w B (protoN nm) := by
 have h0 : 0 <= maxLen := Nat.zero_le _
 exact ⟨by unfold I64; simp, by unfold I64; simp, h, h0, Rd.nil, ⟨Nat.le_refl _, h0⟩, fun a ha => (by cases ha), Rd.nil, ⟨Nat.le_refl _, h0⟩, fun k hk => (by cases hk)⟩
theorem cloneAttr_nil (w : World) : Calls Tryz.prog 54 #[.slice none 0 0] w fun e w' => e = .returned (.slice none 0 0) /\ w = w' := by
 have hnil := fun w => Lib.run_eql_slice_nil (P := Tryz.prog) w 32 107 none 0 0 0 0 Tryz.underlying32
 simp only [Option.isNone_none] at hnil
 go_enter Tryz.func54, Tryz.ntmps54
 go_wp2_with fail
 go_ret
 exact ⟨rfl, rfl⟩
theorem make_ct (E : List Nd) (B P G n c : Nat) (q : Bool) (md : Int) (nm : Bs) (hnm : nm.length <= maxLen) (hn : E.length = n) (hl : n <= 200) (w : World)
  (hP : Blk w P 79 #[.slice (some ⟨G, 0, none⟩) n c, .bool q, .int .i64 md]) (hrow : w.ownsRow B 34 6 (.slice (some ⟨G, 0, none⟩) n c) n (flatR ncells E)) (hGP : G < P) (hBP : B <= P) :
  Calls Tryz.prog 74 #[ptV P 0, edMake nm] w fun e w' => ((∃ k : Int, k ≠ 0 /\ e = .returned (.int .i64 k)) ∨ (e = .returned (.int .i64 0) /\ oneF (protoN nm) = 0 /\ n < 200 /\ ∃ G' c', Blk w' P 79 #[.slice (some ⟨G', 0, none⟩) (n + 1) c', .bool q, .int .i64 n] /\ w'.ownsRow B 34 6 (.slice (some ⟨G', 0, none⟩) (n + 1) c') (n + 1) (flatR ncells (E ++ [freshN nm])) /\ (∀ k, k < w.heap.size -> k ≠ P -> k ≠ G -> w'.heap[k]? = w.heap[k]?))) /\ Below B w w' := by
 have hGB := (owns_lt hrow rfl).1
 have HPB := hid hP
 have HRow := hid hrow
 have HL := hid hP.lt
 have cO := hid (fun W' => one_ct (protoN nm) W' (proto_in nm hnm _ _))
 obtain ⟨F, hF⟩ : ∃ F, oneF (protoN nm) = F := ⟨_, rfl⟩
 rw [hF] at cO ⊢
 have HB2 := hid (show Below w.heap.size w ((w.alloc (.cells #[.int .i64 4, .int .i64 0, .int .i64 0, .int .i64 0, .string ⟨#[]⟩, .string ⟨#[]⟩, .int .i64 2, .string (bs nm), .slice none 0 0, .string ⟨#[]⟩, .int .i64 0, .slice none 0 0] 54)).alloc (.cells #[.int .i64 2, .string (bs nm), .slice none 0 0, .string ⟨#[]⟩, .int .i64 0, .slice none 0 0] 34)) from ((Below.refl _ w).alloc (Nat.le_refl _) _).alloc (by simp) _)
 have HX2 := hid (show Blk ((w.alloc (.cells #[.int .i64 4, .int .i64 0, .int .i64 0, .int .i64 0, .string ⟨#[]⟩, .string ⟨#[]⟩, .int .i64 2, .string (bs nm), .slice none 0 0, .string ⟨#[]⟩, .int .i64 0, .slice none 0 0] 54)).alloc (.cells #[.int .i64 2, .string (bs nm), .slice none 0 0, .string ⟨#[]⟩, .int .i64 0, .slice none 0 0] 34)) (w.heap.size + 1) 34 #[.int .i64 2, .string (bs nm), .slice none 0 0, .string ⟨#[]⟩, .int .i64 0, .slice none 0 0] from Blk.new (by simp))
 clear hP hrow hnm
 by_cases h1 : F ≠ 0
 ·have h1' : (F != 0) = true := by simpa using h1
  have HF := hid h1
  clear h1 hF
  go_enter Tryz.func74, Tryz.ntmps74
  go_wp2_with (go_at_call 50; refine (cO.out _).mono ?_; rintro e W3 ⟨rfl, hb1⟩; have HB3 := hid (tb HB2 hb1); clear hb1)
  go_ret
  exact ⟨.inl ⟨F, HF.out, rfl⟩, HB3.out.mono (by have := HL.out; omega)⟩
 obtain rfl : F = 0 := by simpa using h1
 clear h1
 by_cases h2 : n = 200
 ·have h2' : ((n : Int) == 200) = true := by simp [h2]
  clear h2 hF
  go_enter Tryz.func74, Tryz.ntmps74
  go_wp2_with (go_at_call 50; refine (cO.out _).mono ?_; rintro e W3 ⟨rfl, hb1⟩; have HB3 := hid (tb HB2 hb1); have p3 := ((HPB.out.below HB3.out HL.out).cell); clear hb1)
  go_ret
  exact ⟨.inl ⟨2, by decide, rfl⟩, HB3.out.mono (by have := HL.out; omega)⟩
 ·have h2' : ((n : Int) == 200) = false := by simp; omega
  have h3 : n < 200 := by omega
  clear h2 hF
  go_enter Tryz.func74, Tryz.ntmps74
  go_wp2_with (go_at_call 50; refine (cO.out _).mono ?_; rintro e W3 ⟨rfl, hb1⟩; have HB3 := hid (tb HB2 hb1); have p3 := ((HPB.out.below HB3.out HL.out).cell); have f3 := ((HPB.out.below HB3.out HL.out).frozen); have HX3 := hid (HX2.out.below hb1 HX2.out.lt); have x3 := HX3.out.cell; clear hb1)
  obtain ⟨V, hV⟩ : ∃ V, W3.setCell ⟨P, 2, none⟩ (.int .i64 (n : Int)) = V := ⟨_, rfl⟩
  rw [hV]
  have hfV : ∀ k, k ≠ P -> V.heap[k]? = W3.heap[k]? := fun k hk => by rw [<- hV]; exact Below.heap_setCell _ _ _ k hk
  have HBV := hid (show Below B w V by rw [<- hV]; exact (HB3.out.mono (by have := HL.out; omega)).setCell hBP _)
  have HzV := hid (show V.heap.size = W3.heap.size by rw [<- hV]; exact size_setCell _ _ _)
  have HPV := hid (show Blk V P 79 #[.slice (some ⟨G, 0, none⟩) n c, .bool q, .int .i64 (n : Int)] by rw [<- hV]; exact (HPB.out.below HB3.out HL.out).put 2 _)
  have HXV := hid (show Blk V (w.heap.size + 1) 34 #[.int .i64 2, .string (bs nm), .slice none 0 0, .string ⟨#[]⟩, .int .i64 0, .slice none 0 0] by rw [<- hV]; exact HX3.out.far (by have := HL.out; show w.heap.size + 1 ≠ P; omega) _)
  have HRV := hid (show V.ownsRow B 34 6 (.slice (some ⟨G, 0, none⟩) n c) n (flatR ncells E) from owns_same (row_on HRow.out (HB3.out)) (fun g hg => by obtain rfl := Option.some.inj hg; exact hfV _ (by show G ≠ P; omega)))
  have HfV := hid hfV
  have hPV : P < V.heap.size := HPV.out.lt
  have hXV : w.heap.size + 1 < V.heap.size := HXV.out.lt
  clear hfV hV p3 f3 x3
  have p4 := HPV.out.cell
  have x4 := HXV.out.cell
  obtain ⟨i0, hi, hz0, hz1, hz2⟩ := info_parts infoNode
  have Hi := hid hi
  have Hz0 := hid hz0
  have Hz1 := hid hz1
  have Hz2 := hid hz2
  clear hi hz0 hz1 hz2
  have HRA := hid (show (V.drew.alloc (.cells #[.int .i64 2, .string (bs nm), .slice none 0 0, .string ⟨#[]⟩, .int .i64 (-1), .slice none 0 0] 34)).ownsRow B 34 6 (.slice (some ⟨G, 0, none⟩) n c) n (flatR ncells E) from (show V.drew.ownsRow B 34 6 (.slice (some ⟨G, 0, none⟩) n c) n (flatR ncells E) from HRV.out).alloc _)
  have HNA := hid ((Blk.new (w := V.drew) (t := 34) (cs := #[.int .i64 2, .string (bs nm), .slice none 0 0, .string ⟨#[]⟩, .int .i64 (-1), .slice none 0 0]) rfl).news)
  have HBA := hid (show B <= (V.drew.alloc (.cells #[.int .i64 2, .string (bs nm), .slice none 0 0, .string ⟨#[]⟩, .int .i64 (-1), .slice none 0 0] 34)).heap.size from by rw [World.size_alloc]; show B <= V.heap.size + 1; omega)
  have hXP : w.heap.size + 1 ≠ P := by have := HL.out; omega
  have hS0 : (fun w' : World => (∀ o, w'.cell? ⟨w.heap.size + 1, o, none⟩ = V.cell? ⟨w.heap.size + 1, o, none⟩) /\ V.heap.size <= w'.heap.size /\ w'.cell? ⟨P, 0, none⟩ = some (.slice (some ⟨G, 0, none⟩) n c)) V.drew := ⟨fun _ => rfl, Nat.le_refl _, HPV.out.cell 0⟩
  refine peel.wp_region_N (fun w' => (∀ o, w'.cell? ⟨w.heap.size + 1, o, none⟩ = V.cell? ⟨w.heap.size + 1, o, none⟩) /\ V.heap.size <= w'.heap.size /\ w'.cell? ⟨P, 0, none⟩ = some (.slice (some ⟨G, 0, none⟩) n c)) 21 (by kernel_rfl) ?_
  refine peel.wpAnyN_take (i := 0) (v := ?v0) rfl (by kernel_rfl) (by kernel_rfl) (by kernel_rfl) (by kernel_rfl) (by kernel_rfl) (by kernel_rfl) (by kernel_rfl) (by kernel_rfl) (fun _ _ _ h => h) (Or.inl ⟨by rfl, ?hy0⟩) hS0 ?r0
  case hy0 =>
   intro w1 hSw
   obtain ⟨hSw1, hSw2, hSw3⟩ := hSw
   go_simp
   try with_reducible rfl
  try simp only [Act.put, List.setIfInBounds_toArray, List.set_cons_zero, List.set_cons_succ]
  refine peel.wpAnyN_take (i := 1) (v := ?v1) rfl (by kernel_rfl) (by kernel_rfl) (by kernel_rfl) (by kernel_rfl) (by kernel_rfl) (by kernel_rfl) (by kernel_rfl) (by kernel_rfl) (fun _ _ _ h => h) (Or.inl ⟨by rfl, ?hy1⟩) hS0 ?r1
  case hy1 =>
   intro w1 hSw
   obtain ⟨hSw1, hSw2, hSw3⟩ := hSw
   go_simp
   try with_reducible rfl
  try simp only [Act.put, List.setIfInBounds_toArray, List.set_cons_zero, List.set_cons_succ]
  refine peel.wpAnyN_take (i := 2) (v := ?v2) rfl (by kernel_rfl) (by kernel_rfl) (by kernel_rfl) (by kernel_rfl) (by kernel_rfl) (by kernel_rfl) (by kernel_rfl) (by kernel_rfl) (fun _ _ _ h => h) (Or.inl ⟨by rfl, ?hy2⟩) hS0 ?r2
  case hy2 =>
   intro w1 hSw
   obtain ⟨hSw1, hSw2, hSw3⟩ := hSw
   go_simp
   try with_reducible rfl
  try simp only [Act.put, List.setIfInBounds_toArray, List.set_cons_zero, List.set_cons_succ]
  refine peel.wpAnyN_take (i := 3) (v := ?v3) rfl (by kernel_rfl) (by kernel_rfl) (by kernel_rfl) (by kernel_rfl) (by kernel_rfl) (by kernel_rfl) (by kernel_rfl) (by kernel_rfl) (fun _ _ _ h => h) (Or.inl ⟨by rfl, ?hy3⟩) hS0 ?r3
  case hy3 =>
   intro w1 hSw
   obtain ⟨hSw1, hSw2, hSw3⟩ := hSw
   go_simp
   try with_reducible rfl
  try simp only [Act.put, List.setIfInBounds_toArray, List.set_cons_zero, List.set_cons_succ]
  refine peel.wpAnyN_take (i := 4) (v := ?v4) rfl (by kernel_rfl) (by kernel_rfl) (by kernel_rfl) (by kernel_rfl) (by kernel_rfl) (by kernel_rfl) (by kernel_rfl) (by kernel_rfl) (fun _ _ _ h => h) (Or.inl ⟨by rfl, ?hy4⟩) hS0 ?r4
  case hy4 =>
   intro w1 hSw
   obtain ⟨hSw1, hSw2, hSw3⟩ := hSw
   go_simp
   try with_reducible rfl
  try simp only [Act.put, List.setIfInBounds_toArray, List.set_cons_zero, List.set_cons_succ]
  refine peel.wpAnyN_take (i := 5) (v := ?v5) rfl (by kernel_rfl) (by kernel_rfl) (by kernel_rfl) (by kernel_rfl) (by kernel_rfl) (by kernel_rfl) (by kernel_rfl) (by kernel_rfl) (fun _ _ _ h => h) (Or.inl ⟨by rfl, ?hy5⟩) hS0 ?r5
  case hy5 =>
   intro w1 hSw
   obtain ⟨hSw1, hSw2, hSw3⟩ := hSw
   go_simp
   try with_reducible rfl
  try simp only [Act.put, List.setIfInBounds_toArray, List.set_cons_zero, List.set_cons_succ]
  refine peel.wpAnyN_take (i := 6) (v := ?v6) rfl (by kernel_rfl) (by kernel_rfl) (by kernel_rfl) (by kernel_rfl) (by kernel_rfl) (by kernel_rfl) (by kernel_rfl) (by kernel_rfl) (fun _ _ _ h => h) (Or.inl ⟨by rfl, ?hy6⟩) hS0 ?r6
  case hy6 =>
   intro w1 hSw
   obtain ⟨hSw1, hSw2, hSw3⟩ := hSw
   go_simp
   try with_reducible rfl
  try simp only [Act.put, List.setIfInBounds_toArray, List.set_cons_zero, List.set_cons_succ]
  refine peel.wpAnyN_take (i := 7) (v := ?v7) rfl (by kernel_rfl) (by kernel_rfl) (by kernel_rfl) (by kernel_rfl) (by kernel_rfl) (by kernel_rfl) (by kernel_rfl) (by kernel_rfl) (fun _ _ _ h => h) (Or.inl ⟨by rfl, ?hy7⟩) hS0 ?r7
  case hy7 =>
   intro w1 hSw
   obtain ⟨hSw1, hSw2, hSw3⟩ := hSw
   go_simp
   try with_reducible rfl
  try simp only [Act.put, List.setIfInBounds_toArray, List.set_cons_zero, List.set_cons_succ]
  refine peel.wpAnyN_take (i := 8) (v := ?v8) rfl (by kernel_rfl) (by kernel_rfl) (by kernel_rfl) (by kernel_rfl) (by kernel_rfl) (by kernel_rfl) (by kernel_rfl) (by kernel_rfl) (fun _ _ _ h => h) (Or.inl ⟨by rfl, ?hy8⟩) hS0 ?r8
  case hy8 =>
   intro w1 hSw
   obtain ⟨hSw1, hSw2, hSw3⟩ := hSw
   go_simp
   try with_reducible rfl
  try simp only [Act.put, List.setIfInBounds_toArray, List.set_cons_zero, List.set_cons_succ]
  refine peel.wpAnyN_take (i := 9) (v := ?v9) rfl (by kernel_rfl) (by kernel_rfl) (by kernel_rfl) (by kernel_rfl) (by kernel_rfl) (by kernel_rfl) (by kernel_rfl) (by kernel_rfl) (fun _ _ _ h => h) (Or.inl ⟨by rfl, ?hy9⟩) hS0 ?r9
  case hy9 =>
   intro w1 hSw
   obtain ⟨hSw1, hSw2, hSw3⟩ := hSw
   go_simp
   try with_reducible rfl
  try simp only [Act.put, List.setIfInBounds_toArray, List.set_cons_zero, List.set_cons_succ]
  refine peel.wpAnyN_take (i := 10) (v := ?v10) rfl (by kernel_rfl) (by kernel_rfl) (by kernel_rfl) (by kernel_rfl) (by kernel_rfl) (by kernel_rfl) (by kernel_rfl) (by kernel_rfl) (fun _ _ _ h => h) (Or.inl ⟨by rfl, ?hy10⟩) hS0 ?r10
  case hy10 =>
   intro w1 hSw
   obtain ⟨hSw1, hSw2, hSw3⟩ := hSw
   go_simp
   try with_reducible rfl
  try simp only [Act.put, List.setIfInBounds_toArray, List.set_cons_zero, List.set_cons_succ]
  refine peel.wpAnyN_take (i := 11) (v := ?v11) rfl (by kernel_rfl) (by kernel_rfl) (by kernel_rfl) (by kernel_rfl) (by kernel_rfl) (by kernel_rfl) (by kernel_rfl) (by kernel_rfl) (fun _ _ _ h => h) (Or.inl ⟨by rfl, ?hy11⟩) hS0 ?r11
  case hy11 =>
   intro w1 hSw
   obtain ⟨hSw1, hSw2, hSw3⟩ := hSw
   go_simp
   try with_reducible rfl
  try simp only [Act.put, List.setIfInBounds_toArray, List.set_cons_zero, List.set_cons_succ]
  refine peel.wpAnyN_take (i := 13) (v := ?v13) rfl (by kernel_rfl) (by kernel_rfl) (by kernel_rfl) (by kernel_rfl) (by kernel_rfl) (by kernel_rfl) (by kernel_rfl) (by kernel_rfl) (fun _ _ _ h => h) (Or.inl ⟨by rfl, ?hy13⟩) hS0 ?r13
  case hy13 =>
   intro w1 hSw
   obtain ⟨hSw1, hSw2, hSw3⟩ := hSw
   go_simp
   try with_reducible rfl
  try simp only [Act.put, List.setIfInBounds_toArray, List.set_cons_zero, List.set_cons_succ]
  refine peel.wpAnyN_take (i := 14) (v := ?v14) rfl (by kernel_rfl) (by kernel_rfl) (by kernel_rfl) (by kernel_rfl) (by kernel_rfl) (by kernel_rfl) (by kernel_rfl) (by kernel_rfl) (fun _ _ _ h => h) (Or.inl ⟨by rfl, ?hy14⟩) hS0 ?r14
  case hy14 =>
   intro w1 hSw
   obtain ⟨hSw1, hSw2, hSw3⟩ := hSw
   go_simp
   try with_reducible rfl
  try simp only [Act.put, List.setIfInBounds_toArray, List.set_cons_zero, List.set_cons_succ]
  refine peel.wpAnyN_one (i := 12) rfl (by kernel_rfl) (fun K hK => ?_)
  go_simp
  go_at_call 54
  refine (cloneAttr_nil _).mono ?_
  rintro e W5 ⟨rfl, rfl⟩
  refine hK _ _ hS0 ?_
  clear hK K
  try simp only [Act.put, List.setIfInBounds_toArray, List.set_cons_zero, List.set_cons_succ]
  refine peel.wpAnyN_take (i := 15) (v := ?v15) rfl (by kernel_rfl) (by kernel_rfl) (by kernel_rfl) (by kernel_rfl) (by kernel_rfl) (by kernel_rfl) (by kernel_rfl) (by kernel_rfl) (fun _ _ _ h => h) (Or.inl ⟨by rfl, ?hy15⟩) hS0 ?r15
  case hy15 =>
   intro w1 hSw
   obtain ⟨hSw1, hSw2, hSw3⟩ := hSw
   go_simp
   try with_reducible rfl
  try simp only [Act.put, List.setIfInBounds_toArray, List.set_cons_zero, List.set_cons_succ]
  refine peel.wpAnyN_one (i := 16) rfl (by kernel_rfl) (fun K hK => ?_)
  go_simp
  refine hK _ _ ?_ ?_
  ·exact ⟨(keepA keep0 hXV).1, (keepA keep0 hXV).2, World.cell?_of_block (a := ⟨P, 0, none⟩) (Below.heap_alloc V.drew _ P hPV) |>.trans (HPV.out.cell 0)⟩
  clear hK K
  try simp only [Act.put, List.setIfInBounds_toArray, List.set_cons_zero, List.set_cons_succ]
  refine peel.wpAnyN_one (i := 17) rfl (by kernel_rfl) (fun K hK => ?_)
  (refine step_append rfl _ _ 22 rfl B 34 i0 (.agg #[.int .i64 0, .string ⟨#[]⟩, .slice none 0 0, .string ⟨#[]⟩, .int .i64 0, .slice none 0 0]) 6 96 Tryz.underlying22 Hi.out Hz0.out Hz1.out Hz2.out rfl (by decide) _ _ _ rfl HRA.out _ 1 1 _ rfl (by rfl) HNA.out (by simp [Value.oneCell']) (by unfold maxLen; omega) (by omega) HBA.out ?_; intro v4 w4 ho4 hg4 ha4; obtain ⟨G4, c4, rfl, -, hG4⟩ := own_some ho4 (Nat.succ_pos n); have HO4 := hid ho4; have HG4 := hid hg4; have HA4 := hid ha4; have HP4 := hid (show Blk w4 P 79 #[.slice (some ⟨G, 0, none⟩) n c, .bool q, .int .i64 (n : Int)] from (hg4.block P (show P < (V.alloc _).heap.size by rw [World.size_alloc]; omega) (fun e => absurd (show P = G from Option.some.inj e) (by omega))).trans ((Below.heap_alloc V.drew _ P hPV).trans HPV.out)); have hx5 := hid (show (∀ o, w4.cell? ⟨w.heap.size + 1, o, none⟩ = V.cell? ⟨w.heap.size + 1, o, none⟩) /\ V.heap.size <= w4.heap.size from ⟨fun o => World.cell?_of_block (a := ⟨w.heap.size + 1, o, none⟩) ((hg4.block (w.heap.size + 1) (show w.heap.size + 1 < (V.alloc _).heap.size by rw [World.size_alloc]; omega) (fun e => absurd (show w.heap.size + 1 = G from Option.some.inj e) (by have := HL.out; omega))).trans (Below.heap_alloc V.drew _ _ hXV)), Nat.le_trans (show V.heap.size <= (V.alloc _).heap.size by rw [World.size_alloc]; omega) hg4.size⟩); have q4 := HP4.out.cell; have q5 := HP4.out.frozen; clear ho4 hg4 ha4)
  refine hK _ _ ⟨hx5.out.1, hx5.out.2, HP4.out.cell 0⟩ ?_
  clear hK K
  try simp only [Act.put, List.setIfInBounds_toArray, List.set_cons_zero, List.set_cons_succ]
  have hS1 : (fun w' : World => (∀ o, w'.cell? ⟨w.heap.size + 1, o, none⟩ = V.cell? ⟨w.heap.size + 1, o, none⟩) /\ V.heap.size <= w'.heap.size /\ w'.cell? ⟨P, 0, none⟩ = some (.slice (some ⟨G, 0, none⟩) n c)) w4 := ⟨hx5.out.1, hx5.out.2, HP4.out.cell 0⟩
  refine peel.wpAnyN_take (i := 18) (v := ?v18) rfl (by kernel_rfl) (by kernel_rfl) (by kernel_rfl) (by kernel_rfl) (by kernel_rfl) (by kernel_rfl) (by kernel_rfl) (by kernel_rfl) (fun _ _ _ h => h) (Or.inl ⟨by rfl, ?hy18⟩) hS1 ?r18
  case hy18 =>
   intro w1 hSw
   obtain ⟨hSw1, hSw2, hSw3⟩ := hSw
   go_simp
   try with_reducible rfl
  try simp only [Act.put, List.setIfInBounds_toArray, List.set_cons_zero, List.set_cons_succ]
  refine peel.wpAnyN_take (i := 19) (v := ?v19) rfl (by kernel_rfl) (by kernel_rfl) (by kernel_rfl) (by kernel_rfl) (by kernel_rfl) (by kernel_rfl) (by kernel_rfl) (by kernel_rfl) (fun _ _ _ h => h) (Or.inl ⟨by rfl, ?hy19⟩) hS1 ?r19
  case hy19 =>
   intro w1 hSw
   obtain ⟨hSw1, hSw2, hSw3⟩ := hSw
   go_simp
   try with_reducible rfl
  try simp only [Act.put, List.setIfInBounds_toArray, List.set_cons_zero, List.set_cons_succ]
  refine peel.wpAnyN_take (i := 20) (v := ?v20) rfl (by kernel_rfl) (by kernel_rfl) (by kernel_rfl) (by kernel_rfl) (by kernel_rfl) (by kernel_rfl) (by kernel_rfl) (by kernel_rfl) (fun _ _ _ h => h) (Or.inl ⟨by rfl, ?hy20⟩) hS1 ?r20
  case hy20 =>
   intro w1 hSw
   obtain ⟨hSw1, hSw2, hSw3⟩ := hSw
   go_simp
   try with_reducible rfl
  try simp only [Act.put, List.setIfInBounds_toArray, List.set_cons_zero, List.set_cons_succ]
  refine peel.wpAnyN_last rfl (by kernel_rfl) (by kernel_rfl) (fun K hK => ?_)
  go_simp
  refine hK _ _ ?_
  clear hK K hS0 hS1
  try simp only [Act.put, List.setIfInBounds_toArray, List.set_cons_zero, List.set_cons_succ]
  have hfin : ∀ k, k ≠ P -> (w4.setCell ⟨P, 0, none⟩ (.slice (some ⟨G4, 0, none⟩) (n + 1) c4)).heap[k]? = w4.heap[k]? := fun k hk => Below.heap_setCell _ _ _ k hk
  have hG4P : G4 ≠ P := by
   rcases HA4.out with h | h
   ·have h : G4 = G := Option.some.inj h
    omega
   ·have h : G4 = (V.alloc _).heap.size := Option.some.inj h
    rw [World.size_alloc] at h
    omega
  have HRes := hid (show Blk (w4.setCell ⟨P, 0, none⟩ (.slice (some ⟨G4, 0, none⟩) (n + 1) c4)) P 79 #[.slice (some ⟨G4, 0, none⟩) (n + 1) c4, .bool q, .int .i64 (n : Int)] from HP4.out.put 0 _)
  have HRow4 := hid (show (w4.setCell ⟨P, 0, none⟩ (.slice (some ⟨G4, 0, none⟩) (n + 1) c4)).ownsRow B 34 6 (.slice (some ⟨G4, 0, none⟩) (n + 1) c4) (n + 1) (flatR ncells (E ++ [freshN nm])) from by
   rw [flatR_snoc]
   exact owns_same HO4.out (fun g hg => by obtain rfl := Option.some.inj hg; exact hfin _ hG4P))
  have HSame := hid (show ∀ k, k < w.heap.size -> k ≠ P -> k ≠ G -> (w4.setCell ⟨P, 0, none⟩ (.slice (some ⟨G4, 0, none⟩) (n + 1) c4)).heap[k]? = w.heap[k]? from fun k hk hkP hkG => by
   have h1 : k < V.heap.size := by have := HzV.out; have := HB3.out.size; omega
   exact (hfin k hkP).trans (((HG4.out.block k (show k < (V.alloc _).heap.size by rw [World.size_alloc]; omega) (fun e => hkG (Option.some.inj e))).trans (Below.heap_alloc V.drew _ k h1)).trans ((HfV.out k hkP).trans (HB3.out.block k hk))))
  have HBel := hid (show Below B w (w4.setCell ⟨P, 0, none⟩ (.slice (some ⟨G4, 0, none⟩) (n + 1) c4)) from ((HBV.out.drew.alloc (show B <= V.drew.heap.size by show B <= V.heap.size; omega) _).grown HG4.out HBA.out (fun k hk => by have e : G = k := Option.some.inj hk; omega)).setCell hBP _)
  clear hfin hG4P hG4 q4 q5 x4 p4
  go_wp2_with fail
  go_ret
  exact ⟨.inr ⟨rfl, G4, c4, HRes.out, HRow4.out, HSame.out⟩, HBel.out⟩
end doc
end Go.Proofs.YthgffoanecknoaaGreatDoor
