/- Contracts and plain law, a bundle. -/
import Derived.Deep.DeepHandedRow
import Derived.Lib.Hide
import Derived.Test.YthgffoanecknoaaGreatDoorBJ
import Derived.Test.YthgffoanecknoaaGreatDoorRows
import Derived.Test.YthgffoanecknoaaGreatDoorG2
set_option linter.unusedVariables false
set_option maxRecDepth 100000
set_option maxHeartbeats 16000000
open Go.Lib (hid)
namespace Go.Proofs.YthgffoanecknoaaGreatDoor
namespace base
open Go.RowKit Go.ChangeShapes Go.WideShapes Go.ChangeAt
theorem bulk_part {H : Type} {d : DataW H} {l : List (DataW H)} (h : d ∈ l) : Rows.uptoBulk d <= Rows.uptoBulkAll l := by
 induction l with
 | nil => cases h
 | cons x r ih =>
  simp only [Rows.uptoBulkAll]
  rcases List.mem_cons.1 h with e | e
  ·subst e; omega
  ·have := ih e; omega
theorem bulk_all {H : Type} {l : List (DataW H)} (hk : Rows.uptoSmall H l = true) : Rows.uptoBulkAll l <= 1048576 := of_decide_eq_true hk
theorem upto_string {H : Type} {l : List (DataW H)} {s : ByteArray} (hk : Rows.uptoSmall H l = true) (h : DataW.lit (.string s.data.toList) ∈ l) : s.size <= 1048576 := by
 have h1 := bulk_part h
 have h2 := bulk_all hk
 simp only [Rows.uptoBulk] at h1
 have h3 : s.data.toList.length = s.size := Array.length_toList
 omega
section
variable {H : Type} {enc : TypeId × Value -> H}
theorem witness_rowL {C : Checked} {os : Os} {f : FuncId} {fn : Func} {s : OpenSpec} {conds : List PathCond} {apart : Bool} {laid : List (String × DataW Unit)} (modest : Bool) (w0 : World) (args : Array Value) (hos : w0.os = os)
  (hsh : (w0.forCall (fun _ _ => 0) ⟨#[], args, []⟩).Shaped C.prog)
  (hok : Input.okWideB C.prog (w0.forCall (fun _ _ => 0) ⟨#[], args, []⟩) f ⟨#[], args, []⟩ = true)
  (hrow : s.preRow enc C.prog fn conds apart laid (w0.forCall (fun _ _ => 0) ⟨#[], args, []⟩).memory args) :
  ∃ (w : World) (tape : Tape) (i : Input), w.os = os /\ (w.forCall tape i).Shaped C.prog /\ i.vars = [] /\ Input.okWide C.prog (w.forCall tape i) .any w.heap.size f i /\
   s.preRow enc C.prog fn conds apart laid (w.forCall tape i).memory i.args /\ ({ modest := modest } : Assume).holds C.prog (lone (Frame.enter C.prog f i.args .normal) [] (w.forCall tape i)) :=
 ⟨w0, fun _ _ => 0, ⟨#[], args, []⟩, hos, hsh, (Input.okWide_of_okWideB (base := 0) hok).1, (Input.okWide_of_okWideB hok).2, hrow, by
  simp only [Assume.holds]
  exact ⟨by simp, by simp, fun _ => Modest.zero, by simp, by simp⟩⟩
end
end base
namespace prp
open Go.RowKit Go.Sort base tok dim
set_option linter.unusedSimpArgs false
abbrev GRd (w : World) (B : Nat) (A : Option Addr) (n : Nat) (L : List (Bs × Bs)) : Prop := Rd 3 dcellsG w B A n L
theorem GRd.tok {w : World} {B : Nat} {A : Option Addr} {n k : Nat} {L : List (Bs × Bs)} (h : GRd w B A n L) (hk : k < n) : ∃ b off d, A = some ⟨b, off, none⟩ /\ b < B /\ L[k]? = some d /\
  w.cell? ⟨b, off + k * 3, none⟩ = some (.string (bs d.1)) /\ w.cell? ⟨b, off + k * 3 + 1, none⟩ = some (.string (bs d.2)) /\ w.cell? ⟨b, off + k * 3 + 2, none⟩ = some (.bool false) := by
 obtain ⟨b, off, d, hA, hb, hd, hc⟩ := Rd.at_ h hk
 exact ⟨b, off, d, hA, hb, hd, hc 0 (by decide), hc 1 (by decide), hc 2 (by decide)⟩
theorem rest_13 (u : Int) : ∃ r : Nat, r < 13 /\ (IntKind.u64.wrap u).tmod 13 = (r : Int) := by
 have h0 : 0 <= IntKind.u64.wrap u := by simp [IntKind.wrap, IntKind.bits, IntKind.signed]; omega
 generalize IntKind.u64.wrap u = v at *
 rw [Int.tmod_eq_emod_of_nonneg h0]
 exact ⟨(v % 13).toNat, by omega, by omega⟩
theorem cells_of (w : World) (l : List Bs) (r : Nat) (x : Bs) (h : l[r]? = some x) : (w.alloc (.cells (l.map strv).toArray 9)).cell? ⟨w.heap.size, r, none⟩ = some (.string (bs x)) := by
 rw [World.cell?_alloc_mark]
 simp [h, strv]
theorem rowG {w : World} {base : Nat} {v : Value} {D : List (Bs × Bs)} (h : w.ownsRow base 49 3 v D.length (flatR dcellsG D)) : ∃ A cap, v = .slice A D.length cap /\ GRd w w.heap.size A D.length D := by
 obtain ⟨A, cap, hv, -, hr⟩ := row_rd (f := dcellsG) (k := 3) (fun _ => rfl) rfl h
 exact ⟨A, cap, hv, hr⟩
theorem wide_at (n : Int) (r : Nat) (h13 : r < 13) (hr : (IntKind.u64.wrap n).tmod 13 = (r : Int)) (nm : Bs) (N : List Bs) (hnm : shortL[r]? = some nm) (hS : Short nm N) (s : Bs) (hs : s.length <= 1048576) (w : World) (hM : MaxL w) (hE : col.ErrsAt w) (hT : PowAt w) :
  Calls Tryz.prog 4 #[.int .i64 n, .string (bs s)] w (rt w (.bool true)) := by
 have HM := hid hM
 have HE := hid hE
 have HT := hid hT
 have HS := hid hS
 have HR13 := hid h13
 have cS := hid (shaped_ct w)
 have cW := hid (hS.wide s hs)
 have cI := hid (show ∀ w, MaxL w -> Calls Tryz.prog 11 #[.string (bs nm), .string ⟨#[32, 73, 110, 104, 101, 114, 105, 116, 32]⟩] w (GlobR N inhV w) from hS.inh)
 have cC := hid (fun w hm => wide_zero 0 ⟨#[99, 111, 108, 111, 114]⟩ [] rfl n_color (bs s) (bs_lt hs) _ _ rfl rfl (.inl rfl) w hm)
 have q2 : (r : Int) < 13 := by omega
 have hcell := hid (fun w => cells_of w shortL r nm hnm)
 clear hM hE hT hS h13 hs hnm
 go_enter Tryz.func4, Tryz.ntmps4
 go_upto_region 3 with (go_at_call 10; (with_reducible refine (cS.out).mono ?_); rintro e W1 ⟨rfl, hb⟩; have HB1 := hid hb; clear hb)
 have hc0 := hcell.out W1
 generalize hW0 : World.alloc _ _ = W0
 replace hc0 : W0.cell? ⟨W1.heap.size, r, none⟩ = some (.string (bs nm)) := by rw [<- hW0]; exact hc0
 have HB0 := hid (show Below w.heap.size w W0 by rw [<- hW0]; exact HB1.out.alloc HB1.out.size _)
 clear hW0 hcell
 go_upto_region 5 with (go_at_call 11; (with_reducible refine (cW.out _ (HM.out.on HB0.out HM.out.lt) (HE.out.on HB0.out) (HT.out.on HB0.out)).mono ?_); rintro e W2 ⟨⟨v, b, D, rfl, ho, hsub, hbD⟩, hb⟩; obtain ⟨A, cap, rfl, hd⟩ := rowG ho; have HD := hid hd; have HSub := hid hsub; have HBD := hid hbD; have HB2 := hid (tb HB0 hb); clear hb ho hd hsub hbD hc0)
 have hDl : D.length <= 8 := by
  have h1 := HSub.out.length_le
  rw [List.length_map] at h1
  have := HS.out.one.2
  omega
 obtain ⟨m, hm⟩ : ∃ m, D.length = m := ⟨_, rfl⟩
 rw [hm] at HD ⊢
 have hbm : b = false -> m = 0 := fun h => by rw [<- hm, HBD.out h]; rfl
 have Hm := hid hm
 rw [hm] at hDl
 clear HBD hm cW
 cases b
 ·obtain rfl := hbm rfl
  clear hbm
  go_wp2_with fail
  go_loopw [10, 11, 12, 13] (fun i p h k wr => i = .int .i64 0 /\ Below W2.heap.size W2 wr) (fun i _ _ _ _ => 0)
  case atStart => exact ⟨rfl, Below.refl _ _⟩
  case round =>
   obtain ⟨rfl, hbw⟩ := hrel
   have HBX := hid (tb HB2 hbw)
   clear hbw
   go_upto_region 20 with (go_at_call 11; (with_reducible refine (cI.out _ (HM.out.on HBX.out HM.out.lt)).mono ?_); rintro e W5 ⟨⟨v5, rfl, ho5⟩, hb⟩; obtain ⟨A5, cap5, rfl, -, hd5⟩ := row_rd (f := dcellsG) (k := 3) (fun _ => rfl) (List.length_map _) ho5; have HD5 := hid hd5; have HB5 := hid (tb HBX hb); clear hb ho5 hd5)
   have hq1 := HS.out.one
   generalize hq : N.length = q at *
   go_loopw [16] (fun i wr => ∃ l : Nat, l <= q /\ i = .int .i64 l /\ Below W5.heap.size W5 wr) (fun i _ => q - (intOf i).toNat)
   case atStart => exact ⟨0, by omega, rfl, Below.refl _ _⟩
   case round =>
    obtain ⟨l, hl, rfl, hbw5⟩ := hrel
    by_cases hl5 : l < q
    ·have hl5' : (l : Int) < (q : Int) := by omega
     obtain ⟨b5, off5, d5, rfl, hb5, hd5, f0, f1, f2⟩ := GRd.tok (Rd.keep HD5.out hbw5 hbw5.size) hl5
     have hv5 : d5.2 = inhV := by
      rw [List.getElem?_map, Option.map_eq_some_iff] at hd5
      obtain ⟨a5, -, rfl⟩ := hd5
      rfl
     rw [hv5] at f1
     have hse : ((bs inhV).toList == [73, 110, 104, 101, 114, 105, 116]) = true := by rw [bs_toList]; rfl
     replace hbw5 := hid hbw5
     clear hd5 hv5 f0 f2
     go_wp2_with fail
     exact ⟨⟨l + 1, by omega, by go_num, hbw5.out⟩, by simp [intOf]; omega⟩
    ·obtain rfl : l = q := by omega
     have HB6 := hid (tb HB5 hbw5)
     have hq2 : (0 : Int) < (l : Int) := by omega
     clear hbw5 hq
     go_wp2_with (go_at_call 11; (with_reducible refine (cC.out _ (HM.out.on HB6.out HM.out.lt)).mono ?_); rintro e W7 ⟨rfl, hb⟩; have HB7 := hid (tb HB6 hb); clear hb)
     go_ret
     exact ⟨rfl, HB7.out⟩
 ·clear hbm
  go_wp2_with fail
  go_loopw [10, 11, 12, 13] (fun i p h k wr => ∃ j : Nat, j <= m /\ i = .int .i64 j /\ Below W2.heap.size W2 wr) (fun i _ _ _ _ => m - (intOf i).toNat)
  case atStart => exact ⟨0, by omega, rfl, Below.refl _ _⟩
  case round =>
   obtain ⟨j, hj, rfl, hbw⟩ := hrel
   by_cases hlt : j < m
   ·have hlt' : (j : Int) < (m : Int) := by omega
    obtain ⟨b, off, d, rfl, hb0, hd, e0, e1, e2⟩ := GRd.tok (Rd.keep HD.out hbw hbw.size) hlt
    have hmem : d.1 ∈ N := HSub.out.subset (List.mem_map_of_mem (List.mem_of_getElem? hd))
    obtain ⟨p, hp, hpn, hpf⟩ := HS.out.num d.1 hmem
    have cNum := hid (fun w => number_yes d.1 p hp hpn hpf w)
    have hne : d.1 ≠ nm := fun e => HS.out.self (e ▸ hmem)
    have hnb : ((bs d.1).toList == (bs nm).toList) = false := by rw [bs_toList, bs_toList, beq_eq_false_iff_ne]; exact hne
    replace hd := hid hd
    have HBW := hid hbw
    clear hp hpn hpf hmem hbw
    go_upto_region 11 with (go_at_call 12; (with_reducible refine (cNum.out _).mono ?_); rintro e W3 ⟨rfl, hb⟩; have e0' := (hb.cell (p := ⟨b, off + j * 3, none⟩) (by have := HBW.out.size; omega)).trans e0; have e2' := (hb.cell (p := ⟨b, off + j * 3 + 2, none⟩) (by have := HBW.out.size; omega)).trans e2; have HB3 := hid (tb HBW hb); clear hb e0 e1 e2)
    go_wp2_with fail
    replace e0' := hid e0'
    go_loopw [13] (fun i wq => ∃ l : Nat, l <= j /\ i = .int .i64 l /\ Below W2.heap.size W2 wq) (fun i _ => j - (intOf i).toNat)
    case atStart => exact ⟨0, by omega, rfl, HB3.out⟩
    case round =>
     obtain ⟨l, hl, rfl, hbq⟩ := hrel
     by_cases hll : l < j
     ·have hl' : (l : Int) < (j : Int) := by omega
      obtain ⟨b2, off2, d2, he2, hb2, hd2, f0, f1, f2⟩ := GRd.tok (Rd.keep HD.out hbq hbq.size) (show l < m by omega)
      obtain ⟨b3, off3, d3, he3, hb3, hd3, g0, g1, g2⟩ := GRd.tok (Rd.keep HD.out hbq hbq.size) hlt
      cases he2
      cases he3
      obtain rfl : d = d3 := Option.some.inj (hd.out.symm.trans hd3)
      have hne2 : d2.1 ≠ d.1 := fun e => by
       have hnd := HS.out.nodup.sublist HSub.out
       have h1 : (D.map Prod.fst)[l]? = some d.1 := by rw [List.getElem?_map, hd2, Option.map_some, e]
       have h2 : (D.map Prod.fst)[j]? = some d.1 := by rw [List.getElem?_map, hd3, Option.map_some]
       have h3 := (List.getElem?_inj (by rw [List.length_map, Hm.out]; omega) hnd).1 (h1.trans h2.symm)
       omega
      have hnb2 : ((bs d2.1).toList == (bs d.1).toList) = false := by rw [bs_toList, bs_toList, beq_eq_false_iff_ne]; exact hne2
      replace hbq := hid hbq
      clear hd2 hd3 f1 f2 g1 g2
      go_wp2_with fail
      go_quiet (fail)
      go_wp2_with fail
      exact ⟨⟨l + 1, by omega, by go_num, base.below_drewN hbq.out _⟩, by simp [intOf]; omega⟩
     ·obtain rfl : l = j := by omega
      replace hbq := hid hbq
      go_wp2_with fail
      exact ⟨⟨l + 1, by omega, by go_num, hbq.out⟩, by simp [intOf]; omega⟩
   ·obtain rfl : j = m := by omega
    have HBX := hid (tb HB2 hbw)
    clear hbw
    go_upto_region 20 with (go_at_call 11; (with_reducible refine (cI.out _ (HM.out.on HBX.out HM.out.lt)).mono ?_); rintro e W5 ⟨⟨v5, rfl, ho5⟩, hb⟩; obtain ⟨A5, cap5, rfl, -, hd5⟩ := row_rd (f := dcellsG) (k := 3) (fun _ => rfl) (List.length_map _) ho5; have HD5 := hid hd5; have HB5 := hid (tb HBX hb); clear hb ho5 hd5)
    have hq1 := HS.out.one
    generalize hq : N.length = q at *
    go_loopw [16] (fun i wr => ∃ l : Nat, l <= q /\ i = .int .i64 l /\ Below W5.heap.size W5 wr) (fun i _ => q - (intOf i).toNat)
    case atStart => exact ⟨0, by omega, rfl, Below.refl _ _⟩
    case round =>
     obtain ⟨l, hl, rfl, hbw5⟩ := hrel
     by_cases hl5 : l < q
     ·have hl5' : (l : Int) < (q : Int) := by omega
      obtain ⟨b5, off5, d5, rfl, hb5, hd5, f0, f1, f2⟩ := GRd.tok (Rd.keep HD5.out hbw5 hbw5.size) hl5
      have hv5 : d5.2 = inhV := by
       rw [List.getElem?_map, Option.map_eq_some_iff] at hd5
       obtain ⟨a5, -, rfl⟩ := hd5
       rfl
      rw [hv5] at f1
      have hse : ((bs inhV).toList == [73, 110, 104, 101, 114, 105, 116]) = true := by rw [bs_toList]; rfl
      replace hbw5 := hid hbw5
      clear hd5 hv5 f0 f2
      go_wp2_with fail
      exact ⟨⟨l + 1, by omega, by go_num, hbw5.out⟩, by simp [intOf]; omega⟩
     ·obtain rfl : l = q := by omega
      have HB6 := hid (tb HB5 hbw5)
      have hq2 : (0 : Int) < (l : Int) := by omega
      clear hbw5 hq
      go_wp2_with (go_at_call 11; (with_reducible refine (cC.out _ (HM.out.on HB6.out HM.out.lt)).mono ?_); rintro e W7 ⟨rfl, hb⟩; have HB7 := hid (tb HB6 hb); clear hb)
      go_ret
      exact ⟨rfl, HB7.out⟩
theorem law_ct (n : Int) (b : ByteArray) (w : World) (hb : b.size <= 1048576) (hM : MaxL w) (hT : PowAt w) (hE : col.ErrsAt w) :
  Calls Tryz.prog 4 #[.int .i64 n, .string b] w (rt w (.bool true)) := by
 obtain ⟨r, h13, hr⟩ := rest_13 n
 obtain ⟨nm, N, hnm, hS⟩ := short_all r h13
 exact wide_at n r h13 hr nm N hnm hS b.data.toList (by rw [<- Lib.size_eq]; exact hb) w hM hE hT
end prp
end Go.Proofs.YthgffoanecknoaaGreatDoor
