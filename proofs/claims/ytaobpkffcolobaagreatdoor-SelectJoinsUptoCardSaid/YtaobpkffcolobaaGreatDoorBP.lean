/- Contracts and plain law, a bundle. -/
import Derived.Deep.DeepHandedRow
import Derived.Lib.Hide
import Derived.Test.YtaobpkffcolobaaGreatDoorBJ
import Derived.Test.YtaobpkffcolobaaGreatDoorRows
import Derived.Test.YtaobpkffcolobaaGreatDoorBC
import Derived.Test.YtaobpkffcolobaaGreatDoorBF
set_option linter.unusedVariables false
set_option maxRecDepth 100000
set_option maxHeartbeats 16000000
open Go.Lib (hid)
namespace Go.Proofs.YtaobpkffcolobaaGreatDoor
namespace base
open Go.RowKit Go.ChangeShapes Go.WideShapes Go.ChangeAt
theorem bulk_part {H : Type} {d : DataW H} {l : List (DataW H)} (h : d ∈ l) : Rows.uptoBulk d <= Rows.uptoBulkAll l := by
 induction l with
 | nil => cases h
 | cons x r ih =>
  simp only [Rows.uptoBulkAll]
  rcases List.mem_cons.1 h with e | e
  ·subst e; omega
  ·have := ih e; omega
theorem bulk_all {H : Type} {l : List (DataW H)} (hk : Rows.uptoSmall H l = true) : Rows.uptoBulkAll l <= 1048576 := of_decide_eq_true hk
section
variable {H : Type} {enc : TypeId × Value -> H}
theorem witness_rowL {C : Checked} {os : Os} {f : FuncId} {fn : Func} {s : OpenSpec} {conds : List PathCond} {apart : Bool} {laid : List (String × DataW Unit)} (modest : Bool) (w0 : World) (args : Array Value) (hos : w0.os = os)
  (hsh : (w0.forCall (fun _ _ => 0) ⟨#[], args, []⟩).Shaped C.prog)
  (hok : Input.okWideB C.prog (w0.forCall (fun _ _ => 0) ⟨#[], args, []⟩) f ⟨#[], args, []⟩ = true)
  (hrow : s.preRow enc C.prog fn conds apart laid (w0.forCall (fun _ _ => 0) ⟨#[], args, []⟩).memory args) :
  ∃ (w : World) (tape : Tape) (i : Input), w.os = os /\ (w.forCall tape i).Shaped C.prog /\ i.vars = [] /\ Input.okWide C.prog (w.forCall tape i) .any w.heap.size f i /\
   s.preRow enc C.prog fn conds apart laid (w.forCall tape i).memory i.args /\ ({ modest := modest } : Assume).holds C.prog (lone (Frame.enter C.prog f i.args .normal) [] (w.forCall tape i)) :=
 ⟨w0, fun _ _ => 0, ⟨#[], args, []⟩, hos, hsh, (Input.okWide_of_okWideB (base := 0) hok).1, (Input.okWide_of_okWideB hok).2, hrow, by
  simp only [Assume.holds]
  exact ⟨by simp, by simp, fun _ => Modest.zero, by simp, by simp⟩⟩
end
end base
namespace sel
open Go.RowKit Go.ChangeShapes Go.WideShapes Go.ChangeAt Go.Deep base tok
section
variable {H : Type} {enc : TypeId × Value -> H} {w : World} {held : Bool}
theorem fieldP {P : Program} {fs : Array Field} {n : Nat} {cs : List Value} {xs : List (DataW H × List MemPlace)} (hg : ∀ (i : Nat) (f : Field), fs[i]? = some f -> DataW.trod enc P w 0 (fun _ => true) held n f.type ((cs.drop f.offset).take (P.cellsOf f.type)) = xs[i]?)
  (i T off k : Nat) (hi : (fs[i]?).map (fun f => (f.type, f.offset)) = some (T, off)) (hk : P.cellsOf T = k) : DataW.trod enc P w 0 (fun _ => true) held n T ((cs.drop off).take k) = xs[i]? := by
 cases h : fs[i]? with
 | none => rw [h] at hi; cases hi
 | some f =>
  rw [h] at hi
  simp only [Option.map_some, Option.some.injEq, Prod.mk.injEq] at hi
  obtain ⟨rfl, rfl⟩ := hi
  subst hk
  exact hg i f h
theorem bulkP_pos (d : DataW H) : 1 <= Rows.uptoBulk d := by
 cases d with
 | lit l => cases l <;> simp [Rows.uptoBulk]
 | _ => simp [Rows.uptoBulk]
theorem bulkP_len : ∀ l : List (DataW H), l.length <= Rows.uptoBulkAll l
 | [] => Nat.zero_le _
 | d :: l => by
  have := bulkP_len l
  have := bulkP_pos d
  simp only [Rows.uptoBulkAll, List.length_cons]
  omega
theorem open_list {P : Program} {t e k fuel : Nat} {cs : List Value} {x : DataW H × List MemPlace} (ht : P.underlying t = some (.slice e)) (hk : P.cellsOf e = k) (hk0 : 0 < k)
  (h : DataW.trod enc P w 0 (fun _ => true) held fuel t cs = some x) :
  ∃ (A : Option Addr) (cap : Nat) (Ds : List (DataW H)) (n : Nat), cs = [.slice A Ds.length cap] /\ Ds.length <= cap /\ Rows.uptoBulkAll Ds + 1 <= Rows.uptoBulk x.1 /\ (0 < Ds.length -> n < fuel /\ ∃ b off, A = some ⟨b, off, none⟩ /\ b < w.heap.size /\
   ∀ (i : Nat) (d : DataW H), Ds[i]? = some d -> ∃ cs' y, cs'.length = k /\ (∀ j, j < k -> w.cell? ⟨b, off + i * k + j, none⟩ = cs'[j]?) /\ DataW.trod enc P w 0 (fun _ => true) held n e cs' = some y /\ y.1 = d) := by
 rcases DataW.trod_slice ht h with ⟨rfl, rfl⟩ | ⟨a, len, cap, elems, rest, n, rfl, rfl, rfl, _, hl, hm, hlen, hel, _, _⟩
 ·exact ⟨none, 0, [], 0, rfl, Nat.le_refl _, by simp [Rows.uptoBulkAll, Rows.uptoBulk], fun h0 => absurd h0 (Nat.lt_irrefl _)⟩
 ·refine ⟨some a, cap, elems.map (·.1), n, by rw [List.length_map, hlen], by rw [List.length_map, hlen]; exact hl, by simp only [Rows.uptoBulk]; omega, fun h0 => ⟨by omega, ?_⟩⟩
  rw [List.length_map, hlen] at h0
  rw [hk] at hel
  have each : ∀ i, i < len -> ∃ cs' y, w.cells? 0 (a.add (i * k)) k = some cs' /\ DataW.trod enc P w 0 (fun _ => true) held n e cs' = some y /\ elems[i]? = some y := fun i hi => by
   have h1 := hel i hi
   have h2 : elems[i]? = some elems[i] := List.getElem?_eq_getElem (by omega)
   rw [h2] at h1
   cases hc : w.cells? 0 (a.add (i * k)) k with
   | none => rw [hc] at h1; cases h1
   | some cs' =>
    rw [hc, Option.bind_some] at h1
    exact ⟨cs', _, rfl, h1, h2⟩
  obtain ⟨c0, y0, hc0, _, _⟩ := each 0 h0
  obtain ⟨_, hcl0, hat0⟩ := World.cells?_some hc0
  have hz : w.cell? ((a.add (0 * k)).add 0) = some (c0[0]'(by omega)) := by
   rw [hat0 0 hk0]
   exact List.getElem?_eq_getElem (by omega)
  have hspot : a.spot = none := by
   have := World.cell?_spot hz
   unfold Addr.add at this
   simpa using this
  have hblk := World.block_lt_of_cell? w _ hz
  obtain ⟨b, off, sp⟩ := a
  simp only at hspot
  subst hspot
  refine ⟨b, off, rfl, by simpa [add_none] using hblk, fun i d hd => ?_⟩
  have hil : i < len := by
   have := (List.getElem?_eq_some_iff.1 hd).1
   rw [List.length_map, hlen] at this
   exact this
  obtain ⟨cs', y, hc, ht', hy⟩ := each i hil
  obtain ⟨_, hcl, hat⟩ := World.cells?_some hc
  refine ⟨cs', y, hcl, fun j hj => ?_, ht', ?_⟩
  ·have := hat j hj
   rwa [add_none, add_none] at this
  ·rw [List.getElem?_map, hy] at hd
   exact Option.some.inj hd
theorem ss_build {X : Nat -> Prop} {n : Nat} (hT : ∀ cs (y : DataW H × List MemPlace), DataW.trod enc Tryz.prog w 0 (fun _ => true) held n 26 cs = some y -> ∃ t : Ts, TsAt X w t cs /\ szT t <= Rows.uptoBulk y.1) (c : Nat) : ∀ (Ds : List (DataW H)) (o : Nat),
  (∀ (i : Nat) (d : DataW H), Ds[i]? = some d -> ∃ cs' y, cs'.length = 7 /\ (∀ j, j < 7 -> w.cell? ⟨c, o + i * 7 + j, none⟩ = cs'[j]?) /\ DataW.trod enc Tryz.prog w 0 (fun _ => true) held n 26 cs' = some y /\ y.1 = d) ->
  ∃ s : List Ts, s.length = Ds.length /\ SsAt X w c o s /\ szS s <= Rows.uptoBulkAll Ds
 | [], o, _ => ⟨[], rfl, by rw [SsAt]; trivial, by rw [szS]; exact Nat.zero_le _⟩
 | d :: Ds, o, h => by
  obtain ⟨cs', y, hl, hc, ht, rfl⟩ := h 0 d rfl
  obtain ⟨t, hta, hsz⟩ := hT cs' y ht
  obtain ⟨s, hs1, hs2, hs3⟩ := ss_build hT c Ds (o + 7) (fun i d hd => by
   obtain ⟨cs', y, hl, hc, ht, e⟩ := h (i + 1) d hd
   exact ⟨cs', y, hl, fun j hj => by rw [show o + 7 + i * 7 + j = o + (i + 1) * 7 + j by omega]; exact hc j hj, ht, e⟩)
  refine ⟨t :: s, by simp [hs1], ?_, ?_⟩
  ·rw [SsAt]
   exact ⟨⟨cs', hl, fun j hj => by have := hc j hj; rwa [Nat.zero_mul, Nat.add_zero] at this, hta⟩, hs2⟩
  ·rw [szS]
   simp only [Rows.uptoBulkAll]
   omega
theorem sss_build {X : Nat -> Prop} {n : Nat} (hT : ∀ cs (y : DataW H × List MemPlace), DataW.trod enc Tryz.prog w 0 (fun _ => true) held n 27 cs = some y -> ∃ (s : List Ts) (A : Option Addr) (cap : Nat), cs = [.slice A s.length cap] /\ s.length <= cap /\ (0 < s.length -> ∃ d q, A = some ⟨d, q, none⟩ /\ X d /\ d < w.heap.size /\ SsAt X w d q s) /\ 1 + szS s <= Rows.uptoBulk y.1) (c : Nat) : ∀ (Ds : List (DataW H)) (o : Nat),
  (∀ (i : Nat) (d : DataW H), Ds[i]? = some d -> ∃ cs' y, cs'.length = 1 /\ (∀ j, j < 1 -> w.cell? ⟨c, o + i * 1 + j, none⟩ = cs'[j]?) /\ DataW.trod enc Tryz.prog w 0 (fun _ => true) held n 27 cs' = some y /\ y.1 = d) ->
  ∃ l : List (List Ts), l.length = Ds.length /\ SssAt X w c o l /\ szSS l <= Rows.uptoBulkAll Ds
 | [], o, _ => ⟨[], rfl, by rw [SssAt]; trivial, by rw [szSS]; exact Nat.zero_le _⟩
 | d :: Ds, o, h => by
  obtain ⟨cs', y, hl, hc, ht, rfl⟩ := h 0 d rfl
  obtain ⟨s, A, cap, rfl, hcap, hs, hsz⟩ := hT cs' y ht
  obtain ⟨l, hl1, hl2, hl3⟩ := sss_build hT c Ds (o + 1) (fun i d hd => by
   obtain ⟨cs', y, hl, hc, ht, e⟩ := h (i + 1) d hd
   exact ⟨cs', y, hl, fun j hj => by rw [show o + 1 + i * 1 + j = o + (i + 1) * 1 + j by omega]; exact hc j hj, ht, e⟩)
  refine ⟨s :: l, by simp [hl1], ?_, ?_⟩
  ·rw [SssAt]
   exact ⟨⟨A, cap, hc 0 (by decide), hcap, hs⟩, hl2⟩
  ·rw [szSS]
   simp only [Rows.uptoBulkAll]
   omega
theorem pas_build {X : Nat -> Prop} {n : Nat} (hT : ∀ cs (y : DataW H × List MemPlace), DataW.trod enc Tryz.prog w 0 (fun _ => true) held n 36 cs = some y -> ∃ (p : Pa) (x0 x1 : Value), cs = [x0, x1] /\ PaAt X w p [x0, x1] /\ szP p <= Rows.uptoBulk y.1) (c : Nat) : ∀ (Ds : List (DataW H)) (o : Nat),
  (∀ (i : Nat) (d : DataW H), Ds[i]? = some d -> ∃ cs' y, cs'.length = 2 /\ (∀ j, j < 2 -> w.cell? ⟨c, o + i * 2 + j, none⟩ = cs'[j]?) /\ DataW.trod enc Tryz.prog w 0 (fun _ => true) held n 36 cs' = some y /\ y.1 = d) ->
  ∃ l : List Pa, l.length = Ds.length /\ PasAt X w c o l /\ szL l <= Rows.uptoBulkAll Ds
 | [], o, _ => ⟨[], rfl, by rw [PasAt]; trivial, by rw [szL]; exact Nat.zero_le _⟩
 | d :: Ds, o, h => by
  obtain ⟨cs', y, hl, hc, ht, rfl⟩ := h 0 d rfl
  obtain ⟨p, x0, x1, rfl, hp, hsz⟩ := hT cs' y ht
  obtain ⟨l, hl1, hl2, hl3⟩ := pas_build hT c Ds (o + 2) (fun i d hd => by
   obtain ⟨cs', y, hl, hc, ht, e⟩ := h (i + 1) d hd
   exact ⟨cs', y, hl, fun j hj => by rw [show o + 2 + i * 2 + j = o + (i + 1) * 2 + j by omega]; exact hc j hj, ht, e⟩)
  refine ⟨p :: l, by simp [hl1], ?_, ?_⟩
  ·rw [PasAt]
   exact ⟨⟨x0, x1, hc 0 (by decide), hc 1 (by decide), hp⟩, hl2⟩
  ·rw [szL]
   simp only [Rows.uptoBulkAll]
   omega
theorem bs_build {n : Nat} (c : Nat) : ∀ (Ds : List (DataW H)) (o : Nat),
  (∀ (i : Nat) (d : DataW H), Ds[i]? = some d -> ∃ cs' y, cs'.length = 1 /\ (∀ j, j < 1 -> w.cell? ⟨c, o + i * 1 + j, none⟩ = cs'[j]?) /\ DataW.trod enc Tryz.prog w 0 (fun _ => true) held n 5 cs' = some y /\ y.1 = d) ->
  ∃ js : Bs, js.length = Ds.length /\ ∀ (i : Nat) (x : UInt8), js[i]? = some x -> w.cell? ⟨c, o + i, none⟩ = some (.int .u8 (nv x))
 | [], o, _ => ⟨[], rfl, fun i x h => by cases h⟩
 | d :: Ds, o, h => by
  obtain ⟨cs', y, hl, hc, ht, rfl⟩ := h 0 d rfl
  obtain ⟨v, rfl, -, hw⟩ := DataW.trod_int Tryz.underlying5 ht
  obtain ⟨js, hl1, hl2⟩ := bs_build c Ds (o + 1) (fun i d hd => by
   obtain ⟨cs', y, hl, hc, ht, e⟩ := h (i + 1) d hd
   exact ⟨cs', y, hl, fun j hj => by rw [show o + 1 + i * 1 + j = o + (i + 1) * 1 + j by omega]; exact hc j hj, ht, e⟩)
  have hv : 0 <= v /\ v < 256 := by
   simp [Lit.wf, IntKind.min, IntKind.max, IntKind.bits, IntKind.signed] at hw
   omega
  refine ⟨UInt8.ofNat v.toNat :: js, by simp [hl1], fun i x hi => ?_⟩
  cases i with
  | zero =>
   obtain rfl := Option.some.inj hi
   have h0 := hc 0 (by decide)
   rw [Nat.zero_mul, Nat.add_zero] at h0
   rw [Nat.add_zero, h0]
   have : nv (UInt8.ofNat v.toNat) = v := by
    simp only [nv, UInt8.toNat_ofNat']
    omega
   rw [this]
   rfl
  | succ i =>
   rw [show o + (i + 1) = o + 1 + i by omega]
   exact hl2 i x hi
def OpenP (H : Type) (enc : TypeId × Value -> H) (w : World) (held : Bool) (fuel : Nat) : Prop := ∀ (cs : List Value) (x : DataW H × List MemPlace), DataW.trod enc Tryz.prog w 0 (fun _ => true) held fuel 24 cs = some x ->
 ∃ (l : List Pa) (A : Option Addr) (cap : Nat), cs = [.slice A l.length cap] /\ PasV (fun _ => True) w l A cap /\ szL l + 1 <= Rows.uptoBulk x.1
theorem open_test {fuel : Nat} (IH : ∀ m, m < fuel -> OpenP H enc w held m) {cs : List Value} {x : DataW H × List MemPlace} (h : DataW.trod enc Tryz.prog w 0 (fun _ => true) held fuel 26 cs = some x) :
  ∃ t : Ts, TsAt (fun _ => True) w t cs /\ szT t <= Rows.uptoBulk x.1 := by
 have k0 : Tryz.prog.cellsOf 3 = 1 := by kernel_rfl
 have k1 : Tryz.prog.cellsOf 9 = 1 := by kernel_rfl
 have k2 : Tryz.prog.cellsOf 5 = 1 := by kernel_rfl
 have k3 : Tryz.prog.cellsOf 24 = 1 := by kernel_rfl
 have k6 : Tryz.prog.cellsOf 26 = 7 := by kernel_rfl
 obtain ⟨xs, n, rfl, rfl, hl, hx, hg⟩ := DataW.trod_struct Tryz.underlying26 h
 rw [k6] at hl
 match cs, hl with
 | [a0, a1, a2, a3, a4, a5, a6], _ =>
  have g0 := fieldP hg 0 3 0 1 rfl k0
  have g1 := fieldP hg 1 9 1 1 rfl k1
  have g2 := fieldP hg 2 5 2 1 rfl k2
  have g3 := fieldP hg 3 9 3 1 rfl k1
  have g4 := fieldP hg 4 3 4 1 rfl k0
  have g5 := fieldP hg 5 3 5 1 rfl k0
  have g6 := fieldP hg 6 24 6 1 rfl k3
  have hx2 : xs.length = 7 := hx
  match xs, hx2 with
  | [y0, y1, y2, y3, y4, y5, y6], _ =>
   obtain ⟨v0, e0, d0, _⟩ := DataW.trod_int Tryz.underlying3 g0
   obtain ⟨s1, e1, d1, _⟩ := DataW.trod_string Tryz.underlying9 g1
   obtain ⟨v2, e2, d2, w2⟩ := DataW.trod_int Tryz.underlying5 g2
   obtain ⟨s3, e3, d3, _⟩ := DataW.trod_string Tryz.underlying9 g3
   obtain ⟨v4, e4, d4, _⟩ := DataW.trod_int Tryz.underlying3 g4
   obtain ⟨v5, e5, d5, _⟩ := DataW.trod_int Tryz.underlying3 g5
   obtain ⟨l, A, cap, e6, hv, hsz⟩ := IH n (Nat.lt_succ_self n) _ _ g6
   simp at e0 e1 e2 e3 e4 e5 e6
   subst e0 e1 e2 e3 e4 e5 e6 d0 d1 d2 d3 d4 d5
   have hv2 : 0 <= v2 /\ v2 < 256 := by
    simp [Lit.wf, IntKind.min, IntKind.max, IntKind.bits, IntKind.signed] at w2
    omega
   have hn2 : nv (UInt8.ofNat v2.toNat) = v2 := by
    simp only [nv, UInt8.toNat_ofNat']
    omega
   refine ⟨.mk v0 s1.data.toList (UInt8.ofNat v2.toNat) s3.data.toList v4 v5 l, ?_, ?_⟩
   ·rw [TsAt, hn2]
    exact ⟨A, cap, rfl, hv.1, hv.2⟩
   ·rw [szT]
    simp only [List.map_cons, List.map_nil, Rows.uptoBulk, Rows.uptoBulkAll]
    omega
theorem open_step {fuel : Nat} (IH : ∀ m, m < fuel -> OpenP H enc w held m) {cs : List Value} {x : DataW H × List MemPlace} (h : DataW.trod enc Tryz.prog w 0 (fun _ => true) held fuel 27 cs = some x) :
  ∃ (s : List Ts) (A : Option Addr) (cap : Nat), cs = [.slice A s.length cap] /\ s.length <= cap /\ (0 < s.length -> ∃ d q, A = some ⟨d, q, none⟩ /\ True /\ d < w.heap.size /\ SsAt (fun _ => True) w d q s) /\ 1 + szS s <= Rows.uptoBulk x.1 := by
 have k6 : Tryz.prog.cellsOf 26 = 7 := by kernel_rfl
 obtain ⟨A, cap, Ds, n, rfl, hcap, hb, hD⟩ := open_list Tryz.underlying27 k6 (by decide) h
 by_cases h0 : 0 < Ds.length
 ·obtain ⟨hn, b, off, rfl, hblt, he⟩ := hD h0
  obtain ⟨s, hs1, hs2, hs3⟩ := ss_build (X := fun _ => True) (fun cs y hy => open_test (fun m hm => IH m (by omega)) hy) b Ds off he
  exact ⟨s, _, cap, by rw [hs1], by omega, fun _ => ⟨b, off, rfl, trivial, hblt, hs2⟩, by omega⟩
 ·obtain rfl := List.eq_nil_of_length_eq_zero (show Ds.length = 0 by omega)
  exact ⟨[], A, cap, rfl, Nat.zero_le _, fun h => absurd h (Nat.lt_irrefl _), by rw [szS]; omega⟩
theorem open_path {fuel : Nat} (IH : ∀ m, m < fuel -> OpenP H enc w held m) {cs : List Value} {x : DataW H × List MemPlace} (h : DataW.trod enc Tryz.prog w 0 (fun _ => true) held fuel 36 cs = some x) :
  ∃ (p : Pa) (x0 x1 : Value), cs = [x0, x1] /\ PaAt (fun _ => True) w p [x0, x1] /\ szP p <= Rows.uptoBulk x.1 := by
 have k1 : Tryz.prog.cellsOf 33 = 1 := by kernel_rfl
 have k2 : Tryz.prog.cellsOf 34 = 1 := by kernel_rfl
 have k3 : Tryz.prog.cellsOf 27 = 1 := by kernel_rfl
 have k4 : Tryz.prog.cellsOf 5 = 1 := by kernel_rfl
 have k6 : Tryz.prog.cellsOf 36 = 2 := by kernel_rfl
 obtain ⟨xs, n, rfl, rfl, hl, hx, hg⟩ := DataW.trod_struct Tryz.underlying36 h
 rw [k6] at hl
 match cs, hl with
 | [a0, a1], _ =>
  have g0 := fieldP hg 0 33 0 1 rfl k1
  have g1 := fieldP hg 1 34 1 1 rfl k2
  have hx2 : xs.length = 2 := hx
  match xs, hx2 with
  | [y0, y1], _ =>
   obtain ⟨A, cap, Ds, m, e0, hcap, hb, hD⟩ := open_list Tryz.underlying33 k3 (by decide) g0
   obtain ⟨J, jcap, Es, m2, e1, hjcap, hjb, hE⟩ := open_list Tryz.underlying34 k4 (by decide) g1
   simp at e0 e1
   subst e0 e1
   obtain ⟨js, hj1, hj2⟩ : ∃ js : Bs, js.length = Es.length /\ BsAt (fun _ => True) w js (.slice J Es.length jcap) := by
    by_cases h0 : 0 < Es.length
    ·obtain ⟨-, b, off, rfl, hblt, he⟩ := hE h0
     obtain ⟨js, hj1, hj2⟩ := bs_build b Es off he
     exact ⟨js, hj1, some ⟨b, off, none⟩, jcap, by rw [hj1], by omega, fun _ => ⟨b, off, rfl, trivial, hblt, hj2⟩⟩
    ·obtain rfl := List.eq_nil_of_length_eq_zero (show Es.length = 0 by omega)
     exact ⟨[], rfl, J, jcap, rfl, Nat.zero_le _, fun h => absurd h (Nat.lt_irrefl _)⟩
   obtain ⟨l, hl1, hl2, hl3⟩ : ∃ l : List (List Ts), l.length = Ds.length /\ (0 < l.length -> ∃ c o, A = some ⟨c, o, none⟩ /\ True /\ c < w.heap.size /\ SssAt (fun _ => True) w c o l) /\ szSS l <= Rows.uptoBulkAll Ds := by
    by_cases h0 : 0 < Ds.length
    ·obtain ⟨hn, b, off, rfl, hblt, he⟩ := hD h0
     obtain ⟨l, h1, h2, h3⟩ := sss_build (X := fun _ => True) (fun cs y hy => open_step (fun m hm => IH m (by omega)) hy) b Ds off he
     exact ⟨l, h1, fun _ => ⟨b, off, rfl, trivial, hblt, h2⟩, h3⟩
    ·obtain rfl := List.eq_nil_of_length_eq_zero (show Ds.length = 0 by omega)
     exact ⟨[], rfl, fun h => absurd h (Nat.lt_irrefl _), by rw [szSS]; exact Nat.zero_le _⟩
   have hjl := bulkP_len Es
   refine ⟨.mk l js, _, _, rfl, ?_, ?_⟩
   ·rw [PaAt]
    exact ⟨A, cap, _, by rw [hl1], by omega, hj2, hl2⟩
   ·rw [szP]
    simp only [List.map_cons, List.map_nil, Rows.uptoBulk, Rows.uptoBulkAll]
    omega
theorem open_paths : ∀ fuel, OpenP H enc w held fuel := by
 intro fuel
 induction fuel using Nat.strongRecOn with
 | ind fuel IH =>
  intro cs x h
  have k6 : Tryz.prog.cellsOf 36 = 2 := by kernel_rfl
  obtain ⟨A, cap, Ds, n, rfl, hcap, hb, hD⟩ := open_list Tryz.underlying24 k6 (by decide) h
  by_cases h0 : 0 < Ds.length
  ·obtain ⟨hn, b, off, rfl, hblt, he⟩ := hD h0
   obtain ⟨l, hl1, hl2, hl3⟩ := pas_build (X := fun _ => True) (fun cs y hy => open_path (fun m hm => IH m (by omega)) hy) b Ds off he
   exact ⟨l, _, cap, by rw [hl1], ⟨by omega, fun _ => ⟨b, off, rfl, trivial, hblt, hl2⟩⟩, by omega⟩
  ·obtain rfl := List.eq_nil_of_length_eq_zero (show Ds.length = 0 by omega)
   exact ⟨[], A, cap, rfl, ⟨Nat.zero_le _, fun h => absurd h (Nat.lt_irrefl _)⟩, by rw [szL]; omega⟩
theorem arg_step {r : Reach} {b0 : Nat} {v : Value} {d : DataW H} {p : List MemPlace} (hv : Value.okWide Tryz.prog w r b0 27 v) (h : DataW.Trod enc Tryz.prog w 0 (fun _ => true) held 27 v d p) :
  ∃ (s : List Ts) (A : Option Addr) (cap : Nat), v = .slice A s.length cap /\ s.length <= cap /\ (0 < s.length -> ∃ c o, A = some ⟨c, o, none⟩ /\ c < w.heap.size /\ SsAt (fun _ => True) w c o s) /\ szS s <= Rows.uptoBulk d := by
 obtain ⟨a, len, cap, rfl⟩ := okWide_slice Tryz.underlying27 hv
 obtain ⟨fuel, hf⟩ := h
 obtain ⟨s, A, c, e, h1, h2, h3⟩ := open_step (fun m _ => open_paths m) hf
 simp [Value.cells] at e
 obtain ⟨rfl, rfl, rfl⟩ := e
 exact ⟨s, _, _, rfl, h1, fun h => by obtain ⟨c, o, q1, -, q2, q3⟩ := h2 h; exact ⟨c, o, q1, q2, q3⟩, by dsimp only at h3; omega⟩
end
end sel
end Go.Proofs.YtaobpkffcolobaaGreatDoor
