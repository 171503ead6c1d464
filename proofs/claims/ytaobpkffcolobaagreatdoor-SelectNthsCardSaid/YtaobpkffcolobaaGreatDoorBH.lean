/- Contracts and plain law, a bundle: Dim0 Dim1 DimL0 DimL1. -/
import Derived.Lib.LaidU8
import Derived.Deep.QuietTactic
import Derived.BigQuiet
import Derived.Lib.ItoaNum
import Derived.Lib.TrimByte
import Derived.Test.YtaobpkffcolobaaGreatDoorBC

namespace Go.Proofs.YtaobpkffcolobaaGreatDoor.dim
open Go.RowKit Go.Proofs.YtaobpkffcolobaaGreatDoor.base Go.Proofs.YtaobpkffcolobaaGreatDoor.tok
set_option linter.unusedVariables false

/-- strings lie there, one behind the other -/
def StrsAt (w : World) (R o : Nat) (L : List Bs) : Prop := R < w.heap.size ∧ ∀ (i : Nat) (s : Bs), L[i]? = some s → w.cell? ⟨R, o + i, none⟩ = some (.string (bs s))

theorem StrsAt.on {w w' : World} {R o : Nat} {L : List Bs} (h : StrsAt w R o L) (hb : Below w.heap.size w w') : StrsAt w' R o L :=
  ⟨Nat.lt_of_lt_of_le h.1 hb.size, fun i s hi => (hb.cell (p := ⟨R, o + i, none⟩) h.1).trans (h.2 i s hi)⟩

def strsData (L : List Bs) : DataW Unit := .slice (L.map fun s => .lit (.string s)) []

theorem strs_of_reads {P : Program} {w : World} {name : String} {g : Nat} {t e : TypeId} {L : List Bs} (hn : P.globalNamed name = some g) (hy : (P.globals[g]?).map (·.type) = some t)
    (ht : P.underlying t = some (.slice e)) (he : P.underlying e = some .string) (hc : P.cellsOf e = 1) (hl : 0 < L.length) (h : Lib.VarReads P w name (strsData L)) :
    ∃ R o cap, w.cell? ⟨g, 0, none⟩ = some (.slice (some ⟨R, o, none⟩) L.length cap) ∧ StrsAt w R o L := by
  obtain ⟨g', t', cs, fuel, p, hg, hty, hvar, hd⟩ := h
  obtain rfl := Option.some.inj (hn.symm.trans hg)
  obtain rfl := Option.some.inj (hy.symm.trans hty)
  rcases DataW.trod_slice ht hd with ⟨_, hx⟩ | ⟨a, len, cap, el, rs, m, rfl, hcs, hx, _, hlc, _, hel, helem, hsp, _⟩
  · cases hx
  have e0 := congrArg Prod.fst hx
  simp only [strsData, DataW.slice.injEq] at e0
  obtain ⟨eE, eR⟩ := e0
  have hlen : len = L.length := by
    have := congrArg List.length eE
    simp at this
    omega
  have hcell : ∀ i s, L[i]? = some s → w.cell? (a.add i) = some (.string (bs s)) := by
    intro i s hs
    have hi := (List.getElem?_eq_some_iff.1 hs).1
    have h1 := helem i (by omega)
    rw [hc] at h1
    obtain ⟨b, hb⟩ : ∃ b, el[i]? = some b := ⟨el[i]'(by omega), List.getElem?_eq_getElem (by omega)⟩
    rw [hb] at h1
    obtain ⟨ce, hce, hte⟩ := Option.bind_eq_some_iff.1 h1
    obtain ⟨z, hz, hbz, _⟩ := DataW.trod_string he hte
    have hb1 : b.1 = .lit (.string s) := by
      have := congrArg (·[i]?) eE
      simp [hb, hs] at this
      exact this.symm
    rw [hbz] at hb1
    simp only [DataW.lit.injEq, Lit.string.injEq] at hb1
    obtain ⟨_, _, hcc⟩ := World.cells?_some hce
    have := hcc 0 (by omega)
    rw [hz] at this
    simp only [Nat.mul_one] at this
    have e1 : (a.add i).add 0 = a.add i := by simp [Addr.add]
    rw [e1] at this
    rw [this, ← hb1]
    cases z
    simp [bs]
  obtain ⟨R, o, sR⟩ := a
  obtain ⟨s0, h0⟩ : ∃ s, L[0]? = some s := ⟨L[0], List.getElem?_eq_getElem hl⟩
  have h00 := hcell 0 s0 h0
  have ez : (Addr.add ⟨R, o, sR⟩ 0) = ⟨R, o, sR⟩ := by simp [Addr.add]
  rw [ez] at h00
  obtain rfl : sR = none := Go.Proofs.cell_spot h00
  refine ⟨R, o, cap, ?_, ?_, fun j s hj => ?_⟩
  · rw [World.var?_cell hg hvar 0, ← Array.getElem?_toList, hcs, hlen]
    rfl
  · rcases Nat.lt_or_ge R w.heap.size with hR | hR
    · exact hR
    · rw [World.cell?, Array.getElem?_eq_none hR] at h00
      cases h00
  · have := hcell j s hj
    rwa [Addr.add_lit] at this


theorem ret_int {a b : Int} (h : a = b) : Ending.returned (.int .i64 a) = .returned (.int .i64 b) := by rw [h]

/-- rounding down -/
theorem quo_1000 (a : Int) : a / 1000 = if a.tmod 1000 < 0 then a.tdiv 1000 - 1 else a.tdiv 1000 := by
  have h1 := Int.mul_tdiv_add_tmod a 1000
  have h5 := Int.tmod_lt_of_pos a (show (0 : Int) < 1000 by decide)
  have h6 := Int.lt_tmod_of_pos a (show (0 : Int) < 1000 by decide)
  split <;> omega

theorem quo_100000 (a : Int) : a / 100000 = if a.tmod 100000 < 0 then a.tdiv 100000 - 1 else a.tdiv 100000 := by
  have h1 := Int.mul_tdiv_add_tmod a 100000
  have h5 := Int.tmod_lt_of_pos a (show (0 : Int) < 100000 by decide)
  have h6 := Int.lt_tmod_of_pos a (show (0 : Int) < 100000 by decide)
  split <;> omega

end Go.Proofs.YtaobpkffcolobaaGreatDoor.dim

namespace Go.Proofs.YtaobpkffcolobaaGreatDoor.dim
open Go.RowKit Go.Proofs.YtaobpkffcolobaaGreatDoor.base Go.Proofs.YtaobpkffcolobaaGreatDoor.tok
set_option linter.unusedVariables false

def unitsL : List Bs := [[], [112, 120], [101, 109], [114, 101, 109], [118, 119], [118, 104], [37]]

theorem one_tok {w : World} {B : Nat} {A : Option Addr} {t : Tk} (h : TRd w B A 1 [t]) : ∃ b off, A = some ⟨b, off, none⟩ ∧ b < B ∧
    w.cell? ⟨b, off, none⟩ = some (.int .i64 t.k) ∧ w.cell? ⟨b, off + 1, none⟩ = some (.string (bs t.raw)) ∧ w.cell? ⟨b, off + 2, none⟩ = some (.string (bs t.val)) ∧ w.cell? ⟨b, off + 3, none⟩ = some (.int .i64 t.num) := by
  obtain ⟨b, off, u, hA, hlt, hd, e0, e1, e2, e3⟩ := TRd.tok h (show 0 < 1 by decide)
  obtain rfl : t = u := by simpa using hd
  simp only [Nat.zero_mul, Nat.add_zero] at e0 e1 e2 e3
  exact ⟨b, off, hA, hlt, e0, e1, e2, e3⟩

theorem cut_half : cutP [49, 46, 53, 48, 101, 109] = [⟨7, [49, 46, 53, 48, 101, 109], [101, 109], 1500⟩] := by
  have f3 : firstP [49, 46, 53, 48, 101, 109] = ⟨7, [49, 46, 53, 48, 101, 109], [101, 109], 1500⟩ := by
    have hn : nameP [101, 109] = ([101, 109], 2) := by
      rw [nameP, if_neg (by decide), if_pos (by decide), nameP, if_pos (by decide)]
    have hnum : numberP [49, 46, 53, 48, 101, 109] = (1500, 4) := by decide
    rw [firstP, if_neg (by decide), if_neg (by decide), if_neg (by decide), if_neg (by decide), if_neg (by decide), hnum, if_pos (by decide)]
    simp only [numTkP]
    rw [if_neg (by decide), if_pos (by decide)]
    simp only [List.drop_succ_cons, List.drop_zero, hn]
    decide
  rw [cutP_cons (by decide), f3]
  simp [cutP_nil]

theorem run_eq_dim (a b : Int × Bs) (w : World) : (binOp .eql 38 (.agg #[.int .i64 a.1, .string (bs a.2)]) (.agg #[.int .i64 b.1, .string (bs b.2)])).run Tryz.prog w = .ok (.bool (decide (a = b))) w := by
  rw [run_eql_struct, run_equalIn_agg w _ _ _ _ (by kernel_rfl) (by kernel_rfl)]
  simp only [Program.fieldsOf, Tryz.underlying38]
  obtain ⟨k1, r1⟩ := a
  obtain ⟨k2, r2⟩ := b
  simp [Op.eqFields, go_sem, Tryz.underlying9, Tryz.underlying3, bs_toList]
  (repeat' split) <;> simp_all

end Go.Proofs.YtaobpkffcolobaaGreatDoor.dim

namespace Go.Proofs.YtaobpkffcolobaaGreatDoor.dim
open Go.RowKit Go.Proofs.YtaobpkffcolobaaGreatDoor.base Go.Proofs.YtaobpkffcolobaaGreatDoor.tok
set_option linter.unusedVariables false

theorem nv_dig {k : Nat} (h : k < 10) : nv (UInt8.ofNat (48 + k)) = 48 + (k : Int) := by
  simp only [nv, UInt8.toNat_ofNat']
  omega
theorem dig_dig {k : Nat} (h : k < 10) : digI (nv (UInt8.ofNat (48 + k))) = true := by
  rw [nv_dig h]
  simp [digI]
  omega
theorem addD_dig {n : Int} {k : Nat} (h : k < 10) (hn : 10 * n + k ≤ 1000000000) : addD n (UInt8.ofNat (48 + k)) = 10 * n + k := by
  unfold addD
  rw [nv_dig h]
  omega

theorem dec_step {u : Nat} (h : ¬ u < 10) : Lib.decDigits u = Lib.decDigits (u / 10) ++ [UInt8.ofNat (48 + u % 10)] := by
  rw [Lib.decDigits, dif_neg h]

theorem dec_fold : ∀ (u : Nat), u ≤ 1000000000 → (Lib.decDigits u).foldl addD 0 = (u : Int) := by
  intro u
  induction u using Nat.strongRecOn with
  | _ u ih =>
    intro hu
    by_cases h : u < 10
    · rw [Lib.decDigits_one h]
      simp only [List.foldl_cons, List.foldl_nil]
      rw [addD_dig h (by omega)]
      omega
    · rw [dec_step h, List.foldl_append, ih (u / 10) (by omega) (by omega)]
      simp only [List.foldl_cons, List.foldl_nil]
      rw [addD_dig (by omega) (by omega)]
      omega
theorem dec_digs : ∀ (u : Nat), ∀ c ∈ Lib.decDigits u, digI (nv c) = true := by
  intro u
  induction u using Nat.strongRecOn with
  | _ u ih =>
    by_cases h : u < 10
    · rw [Lib.decDigits_one h]
      intro c hc
      obtain rfl : c = UInt8.ofNat (48 + u) := by simpa using hc
      exact dig_dig h
    · rw [dec_step h]
      intro c hc
      rcases List.mem_append.1 hc with hc | hc
      · exact ih (u / 10) (by omega) c hc
      · obtain rfl : c = UInt8.ofNat (48 + u % 10) := by simpa using hc
        exact dig_dig (by omega)
theorem dec_ne (u : Nat) : Lib.decDigits u ≠ [] := by
  by_cases h : u < 10
  · rw [Lib.decDigits_one h]; simp
  · rw [dec_step h]; simp

/-- three digits behind a one -/
theorem dec_three {r : Nat} (h : r < 1000) : Lib.decDigits (1000 + r) = 49 :: [UInt8.ofNat (48 + r / 100), UInt8.ofNat (48 + r / 10 % 10), UInt8.ofNat (48 + r % 10)] := by
  rw [dec_step (by omega), dec_step (u := (1000 + r) / 10) (by omega), dec_step (u := (1000 + r) / 10 / 10) (by omega), Lib.decDigits_one (i := (1000 + r) / 10 / 10 / 10) (by omega)]
  have e1 : (1000 + r) / 10 / 10 / 10 = 1 := by omega
  have e2 : (1000 + r) / 10 / 10 % 10 = r / 100 := by omega
  have e3 : (1000 + r) / 10 % 10 = r / 10 % 10 := by omega
  have e4 : (1000 + r) % 10 = r % 10 := by omega
  rw [e1, e2, e3, e4]
  rfl

/-- how many digits begin what begins with digits -/
theorem digits_app (d r : Bs) (hd : ∀ c ∈ d, digI (nv c) = true) (hr : ∀ c, r.head? = some c → digI (nv c) = false) : digitsP (d ++ r) = d.length := by
  unfold digitsP
  induction d with
  | nil =>
    cases r with
    | nil => rfl
    | cons c r => simp [hr c rfl]
  | cons c d ih =>
    simp only [List.cons_append, List.takeWhile_cons, hd c (by simp), if_true, List.length_cons]
    rw [ih (fun x hx => hd x (by simp [hx]))]

end Go.Proofs.YtaobpkffcolobaaGreatDoor.dim

namespace Go.Proofs.YtaobpkffcolobaaGreatDoor.dim
open Go.RowKit Go.Proofs.YtaobpkffcolobaaGreatDoor.base Go.Proofs.YtaobpkffcolobaaGreatDoor.tok
set_option linter.unusedVariables false

/-- the digits behind the point -/
def fracP (r : Nat) : Bs := Lib.trimRightB [UInt8.ofNat (48 + r / 100), UInt8.ofNat (48 + r / 10 % 10), UInt8.ofNat (48 + r % 10)] 48

set_option maxRecDepth 100000 in
theorem frac_all : ∀ r : Fin 1000, (fracP r.val).getD 0 48 = UInt8.ofNat (48 + r.val / 100) ∧ (fracP r.val).getD 1 48 = UInt8.ofNat (48 + r.val / 10 % 10) ∧ (fracP r.val).getD 2 48 = UInt8.ofNat (48 + r.val % 10) ∧ (fracP r.val).all (fun c => digI (nv c)) = true := by
  decide +kernel
theorem frac_is {r : Nat} (h : r < 1000) : (fracP r).getD 0 48 = UInt8.ofNat (48 + r / 100) ∧ (fracP r).getD 1 48 = UInt8.ofNat (48 + r / 10 % 10) ∧ (fracP r).getD 2 48 = UInt8.ofNat (48 + r % 10) ∧ ∀ c ∈ fracP r, digI (nv c) = true := by
  obtain ⟨h0, h1, h2, h3⟩ := frac_all ⟨r, h⟩
  exact ⟨h0, h1, h2, fun c hc => List.all_eq_true.1 h3 c hc⟩

/-- what stands behind the whole digits -/
def pointP (fr : Bs) : Bs := if fr = [] then [] else 46 :: fr
/-- the text of a number without its sign -/
def plainP (m : Nat) : Bs := Lib.decDigits (m / 1000) ++ pointP (fracP (m % 1000))

theorem not_dig46 : digI (nv 46) = false := by decide

/-- what the sum of the digits is -/
theorem sum_is {m : Nat} (hm : m ≤ 1000000000) : addD (addD (addD ((Lib.decDigits (m / 1000)).foldl addD 0) ((fracP (m % 1000)).getD 0 48)) ((fracP (m % 1000)).getD 1 48)) ((fracP (m % 1000)).getD 2 48) = (m : Int) := by
  obtain ⟨h0, h1, h2, -⟩ := frac_is (r := m % 1000) (by omega)
  have a1 := addD_dig (n := ((m / 1000 : Nat) : Int)) (k := m % 1000 / 100) (by omega) (by omega)
  have a2 := addD_dig (n := 10 * ((m / 1000 : Nat) : Int) + ((m % 1000 / 100 : Nat) : Int)) (k := m % 1000 / 10 % 10) (by omega) (by omega)
  have a3 := addD_dig (n := 10 * (10 * ((m / 1000 : Nat) : Int) + ((m % 1000 / 100 : Nat) : Int)) + ((m % 1000 / 10 % 10 : Nat) : Int)) (k := m % 1000 % 10) (by omega) (by omega)
  rw [h0, h1, h2, dec_fold _ (by omega), a1, a2, a3]
  omega

theorem number_at (s u : Bs) (m : Nat) (hm : m ≤ 1000000000) (neg : Bool) (hu : ∀ c, u.head? = some c → digI (nv c) = false ∧ ¬ nv c = 46)
    (hs : (s = [] ∧ neg = false) ∨ (s = [45] ∧ neg = true)) :
    numberP (s ++ (plainP m ++ u)) = (if neg then -(m : Int) else (m : Int), s.length + (plainP m).length) := by
  have hW := dec_digs (m / 1000)
  have hWn := dec_ne (m / 1000)
  have hS := sum_is hm
  obtain ⟨-, -, -, hF⟩ := frac_is (r := m % 1000) (by omega)
  unfold plainP
  generalize Lib.decDigits (m / 1000) = W at *
  generalize fracP (m % 1000) = fr at *
  obtain ⟨c, W', rfl⟩ := List.exists_cons_of_ne_nil hWn
  have hc := hW c (by simp)
  simp [digI] at hc
  have hsign : signAt (s ++ (c :: W' ++ pointP fr ++ u)) = s.length ∧ negP (s ++ (c :: W' ++ pointP fr ++ u)) = neg := by
    rcases hs with ⟨rfl, rfl⟩ | ⟨rfl, rfl⟩
    · refine ⟨?_, ?_⟩
      · show (if nv c = 43 ∨ nv c = 45 then 1 else 0) = 0
        rw [if_neg (by omega)]
      · show decide (nv c = 45) = false
        exact decide_eq_false (by omega)
    · exact ⟨rfl, rfl⟩
  obtain ⟨h1, h2⟩ := hsign
  have hrest : ∀ x, (pointP fr ++ u).head? = some x → digI (nv x) = false := by
    intro x hx
    unfold pointP at hx
    split at hx
    · exact (hu x (by simpa using hx)).1
    · obtain rfl : (46 : UInt8) = x := by simpa using hx
      exact not_dig46
  have d1 : (s ++ (c :: W' ++ pointP fr ++ u)).drop s.length = (c :: W') ++ (pointP fr ++ u) := by
    rw [List.drop_left, List.append_assoc]
  have h3 := digits_app (c :: W') (pointP fr ++ u) hW hrest
  have d2 : (s ++ (c :: W' ++ pointP fr ++ u)).drop (s.length + (c :: W').length) = pointP fr ++ u := by
    rw [← List.drop_drop, d1, List.drop_left]
  have h4 : behindP (pointP fr ++ u) = fr.length := by
    unfold pointP
    split
    · rename_i h
      subst h
      cases u with
      | nil => rfl
      | cons x r =>
        show (if nv x = 46 then digitsP r else 0) = 0
        rw [if_neg (hu x rfl).2]
    · show (if nv (46 : UInt8) = 46 then digitsP (fr ++ u) else 0) = fr.length
      rw [if_pos (by decide)]
      exact digits_app fr u hF (fun x hx => (hu x hx).1)
  have d3 : ((s ++ (c :: W' ++ pointP fr ++ u)).drop (s.length + (c :: W').length + 1)).take fr.length = fr := by
    rw [← List.drop_drop, d2]
    unfold pointP
    split
    · rename_i h
      subst h
      rfl
    · simp
  have hsum : sumP (s ++ (c :: W' ++ pointP fr ++ u)) s.length (c :: W').length fr.length = (m : Int) := by
    unfold sumP
    rw [d1, List.take_left, d3]
    exact hS
  have hlen : (pointP fr).length = if fr.length = 0 then 0 else 1 + fr.length := by
    unfold pointP
    cases fr with
    | nil => rfl
    | cons x r => simp; omega
  unfold numberP
  rw [h1, h2, d1, h3, d2, h4]
  unfold numAt
  rw [if_neg (by simp), hsum]
  simp only [List.length_append, hlen]
  rw [Nat.add_assoc]

end Go.Proofs.YtaobpkffcolobaaGreatDoor.dim
