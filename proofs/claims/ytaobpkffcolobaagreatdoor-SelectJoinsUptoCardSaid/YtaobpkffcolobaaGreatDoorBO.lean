/- Contracts and plain law, a bundle. -/
import Derived.Lib.Hide
import Derived.Test.YtaobpkffcolobaaGreatDoorBL2
import Derived.Test.YtaobpkffcolobaaGreatDoorBL1
import Derived.Test.YtaobpkffcolobaaGreatDoorBM6
import Derived.Test.YtaobpkffcolobaaGreatDoorBN
import Derived.Test.YtaobpkffcolobaaGreatDoorBI
import Derived.Test.YtaobpkffcolobaaGreatDoorBF3
set_option linter.unusedVariables false
set_option maxRecDepth 100000
set_option maxHeartbeats 16000000
open Go.Lib (hid)
namespace Go.Proofs.YtaobpkffcolobaaGreatDoor
namespace sel
open Go.RowKit base tok dim rul quo
theorem testB_k {k : Int} {n : Bs} {op : UInt8} {v : Bs} {a b : Int} {i : Nat} (h : testB k n op v a b i = true) : 1 <= k /\ k <= 11 /\ I64 a /\ I64 b := by
 unfold testB at h
 obtain ⟨h1, hab⟩ := and_t h
 obtain ⟨h1, -⟩ := and_t h1
 obtain ⟨h1, -⟩ := and_t h1
 obtain ⟨h1, -⟩ := and_t h1
 obtain ⟨h1, -⟩ := and_t h1
 obtain ⟨h1, -⟩ := and_t h1
 have hk := of_decide_eq_true h1
 refine ⟨hk.1, hk.2, ?_⟩
 by_cases h8 : k = 8 ∨ k = 9
 ·rw [if_pos h8] at hab
  have := of_decide_eq_true hab
  exact ⟨⟨by omega, by omega⟩, ⟨by omega, by omega⟩⟩
 ·rw [if_neg h8] at hab
  obtain ⟨rfl, rfl⟩ := of_decide_eq_true hab
  exact ⟨⟨by omega, by omega⟩, ⟨by omega, by omega⟩⟩
theorem okT_subs {i : Nat} {k : Int} {n : Bs} {op : UInt8} {v : Bs} {a b : Int} {subs : List Pa} (h : okT i (.mk k n op v a b subs) = true) : testB k n op v a b i = true /\ okL subs = true := by
 rw [okT.eq_def] at h
 simp only at h
 obtain ⟨h1, h2⟩ := and_t h
 refine ⟨h1, ?_⟩
 cases subs with
 | nil => rw [okL]
 | cons p l =>
  rw [okL]
  split at h2
  ·exact h2
  ·cases h2
mutual
theorem fi_okT : ∀ (t : Ts) (i : Nat), okT i t = true -> FiT t
 | .mk k n op v a b subs, i => fun h => by
  obtain ⟨h1, h2⟩ := okT_subs h
  obtain ⟨k1, k2, ha, hb⟩ := testB_k h1
  rw [FiT]
  exact ⟨⟨by omega, by omega⟩, ha, hb, fi_okL subs h2⟩
theorem fi_okS : ∀ (l : List Ts) (i : Nat), okS i l = true -> FiS l
 | [], i => fun _ => by rw [FiS]; trivial
 | t :: l, i => fun h => by
  rw [okS] at h
  rw [FiS]
  exact ⟨fi_okT t i (and_t h).1, fi_okS l (i + 1) (and_t h).2⟩
theorem fi_okSS : ∀ l : List (List Ts), okSS l = true -> FiSS l
 | [] => fun _ => by rw [FiSS]; trivial
 | s :: l => fun h => by
  rw [okSS] at h
  obtain ⟨h1, h2⟩ := and_t h
  rw [FiSS]
  exact ⟨fi_okS s 0 (and_t h1).1, fi_okSS l h2⟩
theorem fi_okP : ∀ p : Pa, okP p = true -> FiP p
 | .mk steps joins => fun h => by
  rw [okP] at h
  rw [FiP]
  exact fi_okSS steps (and_t (and_t h).1).2
theorem fi_okL : ∀ l : List Pa, okL l = true -> FiL l
 | [] => fun _ => by rw [FiL]; trivial
 | p :: l => fun h => by
  rw [okL] at h
  rw [FiL]
  exact ⟨fi_okP p (and_t h).1, fi_okL l (and_t h).2⟩
end
theorem quote_two : ∀ v : Bs, (quo.quoteP v).length <= 2 * v.length
 | [] => Nat.le_refl _
 | c :: v => by
  have := quote_two v
  rw [quote_cons, List.length_append, List.length_cons]
  unfold qC
  split <;> simp only [List.length_cons, List.length_nil] <;> omega
theorem testTx_le (k : Int) (n : Bs) (op : UInt8) (v : Bs) {a b : Int} (ha : I64 a) (hb : I64 b) (sub : Bs) : (testTx k n op v a b sub).length <= 64 + n.length + 2 * v.length + sub.length := by
 have h1 := nthTx_le ha hb
 have h2 := quote_two v
 unfold testTx opTx
 split
 ·simp only [List.length_cons, List.length_nil]; omega
 split
 ·omega
 split
 ·simp only [List.length_append, List.length_cons, List.length_nil]; omega
 split
 ·simp only [List.length_append, List.length_cons, List.length_nil]; omega
 split
 ·split
  ·simp only [List.length_append, List.length_cons, List.length_nil]; omega
  ·split <;> simp only [List.length_append, List.length_cons, List.length_nil] <;> omega
 split
 ·simp only [List.length_cons, List.length_nil]; omega
 split
 ·simp only [List.length_cons, List.length_nil]; omega
 split
 ·simp only [List.length_append, List.length_cons, List.length_nil]; omega
 split
 ·simp only [List.length_append, List.length_cons, List.length_nil]; omega
 split
 ·simp only [List.length_append, List.length_cons, List.length_nil]; omega
 ·simp only [List.length_append, List.length_cons, List.length_nil]; omega
theorem sep_le (j : UInt8) : (sepTx j).length <= 3 := by
 unfold sepTx
 split <;> simp
theorem listTx_cons (p : Pa) (l : List Pa) : (listTx (p :: l)).length <= (paTx p).length + 2 + (listTx l).length := by
 cases l with
 | nil =>
  unfold listTx
  simp only [pasTx, Lib.join_one, Lib.join_nil, List.length_nil]
  omega
 | cons q l =>
  unfold listTx
  rw [pasTx, Lib.join_cons, pasTx, Lib.join_cons]
  simp only [Lib.joinTail, List.map_cons, List.flatten_cons, List.length_append, List.length_cons, List.length_nil]
  omega
mutual
theorem tx_T : ∀ t : Ts, FiT t -> (tsTx t).length <= 64 * szT t
 | .mk k n op v a b subs => fun h => by
  rw [FiT] at h
  have h1 := testTx_le k n op v h.2.1 h.2.2.1 (listTx subs)
  have h2 := tx_L subs h.2.2.2
  rw [tsTx, szT]
  unfold listTx at h1 h2
  omega
theorem tx_S : ∀ l : List Ts, FiS l -> (ssTx l).length <= 64 * szS l
 | [] => fun _ => by rw [ssTx]; exact Nat.zero_le _
 | t :: l => fun h => by
  rw [FiS] at h
  have h1 := tx_T t h.1
  have h2 := tx_S l h.2
  rw [ssTx, szS, List.length_append]
  omega
theorem tx_SS : ∀ (l : List (List Ts)) (js : Bs), FiSS l -> (sssTx l js).length <= 64 * szSS l
 | [], js => fun _ => by rw [sssTx]; exact Nat.zero_le _
 | s :: l, [] => fun _ => by rw [sssTx]; exact Nat.zero_le _
 | s :: l, j :: js => fun h => by
  rw [FiSS] at h
  have h1 := tx_S s h.1
  have h2 := tx_SS l js h.2
  have h3 := sep_le j
  rw [sssTx, szSS, List.length_append, List.length_append]
  omega
theorem tx_P : ∀ p : Pa, FiP p -> (paTx p).length + 4 <= 64 * szP p
 | .mk [] joins => fun _ => by rw [paTx, szP, List.length_nil]; omega
 | .mk (s :: l) joins => fun h => by
  rw [FiP, FiSS] at h
  have h1 := tx_S s h.1
  have h2 := tx_SS l joins h.2
  rw [paTx, szP, szSS, List.length_append]
  omega
theorem tx_L : ∀ l : List Pa, FiL l -> (listTx l).length <= 64 * szL l
 | [] => fun _ => by unfold listTx; rw [pasTx, Lib.join_nil]; exact Nat.zero_le _
 | p :: l => fun h => by
  rw [FiL] at h
  have h1 := tx_P p h.1
  have h2 := tx_L l h.2
  have h3 := listTx_cons p l
  rw [szL]
  omega
end
def TextA (l : List Pa) : Prop := ∀ (A : Option Addr) (cap : Nat) (X : Nat -> Prop) (W : World), PowAt W -> PasV X W l A cap ->
 Calls Tryz.prog 22 #[.slice A l.length cap] W fun e W' => e = .returned (.string (bs (listTx l))) /\ Below W.heap.size W W'
theorem pow_on {W W' : World} (h : PowAt W) (hb : Below W.heap.size W W') : PowAt W' := h.on hb
theorem testTx_of {i : Nat} {t : Ts} (hok : okT i t = true) (hf : FiT t) (hsz : szT t <= 1200000) (hS : ∀ l, szL l < szT t -> okL l = true -> l ≠ [] -> FiL l -> TextA l) : TestTxC t := by
 intro k n op v a b subs ht A cap X W hP hv
 subst ht
 rw [FiT] at hf
 obtain ⟨-, ha, hb, hfs⟩ := hf
 have hz := hsz
 rw [szT] at hz
 have hn2 : n.length <= 2000000 := by omega
 have hv2 : v.length <= 2000000 := by omega
 have hsubl := tx_L subs hfs
 have hsub9 : (listTx subs).length <= 100000000 := by omega
 have hSub : subs ≠ [] -> okL subs = true -> ∀ W', Below W.heap.size W W' -> Calls Tryz.prog 22 #[.slice A subs.length cap] W' fun e w' => e = .returned (.string (bs (listTx subs))) /\ Below W'.heap.size W' w' := fun h0 h1 W' hW =>
  hS subs (by rw [szT]; omega) h1 h0 hfs A cap X W' (pow_on hP hW) (hv.on hW)
 rw [okT.eq_def] at hok
 simp only at hok
 obtain ⟨h1, h2⟩ := and_t hok
 unfold testB at h1
 obtain ⟨h1, hab⟩ := and_t h1
 obtain ⟨h1, hop⟩ := and_t h1
 obtain ⟨h1, hlow⟩ := and_t h1
 obtain ⟨h1, hname⟩ := and_t h1
 obtain ⟨h1, hnamed⟩ := and_t h1
 obtain ⟨h1, hat⟩ := and_t h1
 have hk9 := of_decide_eq_true h1
 have hsub : (k = 10 ∨ k = 11) -> subs ≠ [] /\ okL subs = true := fun hk => by
  rw [if_pos hk] at h2
  cases subs with
  | nil => cases h2
  | cons p l => exact ⟨by simp, by rw [okL]; exact h2⟩
 have hk : k = 1 ∨ k = 2 ∨ k = 3 ∨ k = 4 ∨ k = 5 ∨ k = 6 ∨ k = 7 ∨ k = 8 ∨ k = 9 ∨ k = 10 ∨ k = 11 := by omega
 rcases hk with rfl | rfl | rfl | rfl | rfl | rfl | rfl | rfl | rfl | rfl | rfl
 ·have e : tsTx (.mk 1 n op v a b subs) = [42] := by rw [tsTx]; unfold testTx; simp
  rw [e]
  exact testText_1 n hn2 (nv op) (bs v) a b A subs.length cap W
 ·have e : tsTx (.mk 2 n op v a b subs) = n := by rw [tsTx]; unfold testTx; simp
  rw [e]
  exact testText_2 n hn2 (nv op) (bs v) a b A subs.length cap W
 ·have e : tsTx (.mk 3 n op v a b subs) = [35] ++ n := by rw [tsTx]; unfold testTx; simp
  rw [e]
  exact testText_3 n hn2 (nv op) (bs v) a b A subs.length cap W
 ·have e : tsTx (.mk 4 n op v a b subs) = [46] ++ n := by rw [tsTx]; unfold testTx; simp
  rw [e]
  exact testText_4 n hn2 (nv op) (bs v) a b A subs.length cap W
 ·by_cases ho : op = 0
  ·subst ho
   have e : tsTx (.mk 5 n 0 v a b subs) = [91] ++ n ++ [93] := by rw [tsTx]; unfold testTx; simp
   rw [e]
   exact testText_5 n hn2 (bs v) a b A subs.length cap W
  ·have e : tsTx (.mk 5 n op v a b subs) = [91] ++ n ++ opTx op ++ [61, 34] ++ quo.quoteP v ++ [34, 93] := by rw [tsTx]; unfold testTx; simp [ho]
   rw [e]
   exact testText_5o n hn2 op ho v hv2 a b A subs.length cap W
 ·have e : tsTx (.mk 6 n op v a b subs) = [58, 114, 111, 111, 116] := by rw [tsTx]; unfold testTx; simp
  rw [e]
  exact testText_6 n hn2 (nv op) (bs v) a b A subs.length cap W
 ·have e : tsTx (.mk 7 n op v a b subs) = [58, 101, 109, 112, 116, 121] := by rw [tsTx]; unfold testTx; simp
  rw [e]
  exact testText_7 n hn2 (nv op) (bs v) a b A subs.length cap W
 ·have e : tsTx (.mk 8 n op v a b subs) = [58, 110, 116, 104, 45, 99, 104, 105, 108, 100, 40] ++ nthTx a b ++ [41] := by rw [tsTx]; unfold testTx; simp
  rw [e]
  exact testText_8 n hn2 (nv op) (bs v) a b A subs.length cap W hP ha hb
 ·have e : tsTx (.mk 9 n op v a b subs) = [58, 110, 116, 104, 45, 108, 97, 115, 116, 45, 99, 104, 105, 108, 100, 40] ++ nthTx a b ++ [41] := by rw [tsTx]; unfold testTx; simp
  rw [e]
  exact testText_9 n hn2 (nv op) (bs v) a b A subs.length cap W hP ha hb
 ·have e : tsTx (.mk 10 n op v a b subs) = [58, 110, 111, 116, 40] ++ listTx subs ++ [41] := by rw [tsTx]; unfold testTx listTx; simp
  rw [e]
  obtain ⟨q0, q1⟩ := hsub (by omega)
  exact testText_10 n hn2 (nv op) (bs v) a b A subs.length cap W (listTx subs) hsub9 (hSub q0 q1)
 ·have e : tsTx (.mk 11 n op v a b subs) = [58, 105, 115, 40] ++ listTx subs ++ [41] := by rw [tsTx]; unfold testTx listTx; simp
  rw [e]
  obtain ⟨q0, q1⟩ := hsub (by omega)
  exact testText_11 n hn2 (nv op) (bs v) a b A subs.length cap W (listTx subs) hsub9 (hSub q0 q1)
theorem okL_at {l : List Pa} (h : okL l = true) {i : Nat} {steps : List (List Ts)} {joins : Bs} (hi : l[i]? = some (.mk steps joins)) : okSS steps = true := (okL_mem h hi).1
theorem fiL_at {l : List Pa} (h : FiL l) {i : Nat} {p : Pa} (hi : l[i]? = some p) : FiP p := by
 obtain ⟨steps, joins⟩ := p
 rw [FiP]
 exact fiL_mem h hi
theorem szP_at {l : List Pa} {i : Nat} {p : Pa} (hi : l[i]? = some p) : szP p <= szL l := by
 obtain ⟨steps, joins⟩ := p
 rw [szP]
 exact szL_mem hi
theorem textA_all : ∀ N, N <= 1200000 -> ∀ l, szL l <= N -> okL l = true -> l ≠ [] -> FiL l -> TextA l
 | 0, _, l, h, _, hne, _ => by
  have := szL_len l
  have := List.length_pos_iff.2 hne
  omega
 | N + 1, hN, l, h, hok, hne, hf => by
  intro A cap X W hP hv
  refine text_of l hne hok (by omega) (fun i steps joins q s r t h1 h2 h3 => ?_) (fun i p hi => ?_) (by have := tx_L l hf; omega) A cap X W hP hv
  ·have hss := (okSS_mem (okL_at hok h1) h2).1
   have hto := okS_mem hss h3
   have hft := fiS_mem (fiSS_mem (fiL_mem hf h1) h2) h3
   have a1 := szL_mem h1
   have a2 := szSS_mem h2
   have a3 := szS_mem h3
   exact testTx_of hto hft (by omega) (fun l' h' => textA_all N (by omega) l' (by omega))
  ·have h1 := tx_P p (fiL_at hf hi)
   have h2 := szP_at hi
   omega
def textT (l : List Pa) : Bs := if errC l = 0 then (if 400 < (listTx l).length then [] else listTx l) else []
def textN (l : List Pa) : Int := if errC l = 0 then (if 400 < (listTx l).length then 2 else 0) else errC l
theorem text_any (l : List Pa) (hsz : szL l <= 1200000) (A : Option Addr) (cap : Nat) (X : Nat -> Prop) (w : World) (hM : MaxL w) (hP : PowAt w) (hv : PasV X w l A cap) :
  Calls Tryz.prog 12 #[.slice A l.length cap] w (rt w (.tuple #[.string (bs (textT l)), .int .i64 (textN l)])) := by
 have cC0 := check_any l (by omega) A cap X w hM hv
 by_cases h0 : errC l = 0
 ·have hck := errC_ok.1 h0
  obtain ⟨-, -, hne, hok⟩ := check_open hck
  have hf := fi_okL l hok
  have cT := hid (fun W (hb : Below w.heap.size w W) => textA_all 1200000 (Nat.le_refl _) l hsz hok hne hf A cap X W (hP.on hb) (hv.on hb))
  have hsz2 : (bs (listTx l)).size = (listTx l).length := rfl
  have hbig := tx_L l hf
  have e1 : textT l = if 400 < (listTx l).length then [] else listTx l := by rw [textT, if_pos h0]
  have e2 : textN l = if 400 < (listTx l).length then 2 else 0 := by rw [textN, if_pos h0]
  rw [h0] at cC0
  rw [e1, e2]
  have cC := hid cC0
  clear cC0 hM hP hv h0 hck hne hok hf e1 e2
  by_cases h4 : 400 < (listTx l).length
  ·have hd : decide ((400 : Int) < ((bs (listTx l)).size : Int)) = true := by rw [decide_eq_true_eq, hsz2]; omega
   rw [if_pos h4, if_pos h4]
   go_enter Tryz.func12, Tryz.ntmps12
   go_wp2_with (first
    | (go_at_call 13; (with_reducible refine cC.out.mono ?_); rintro e W1 ⟨rfl, hb1⟩; have HB1 := hid hb1; clear hb1)
    | (go_at_call 22; (with_reducible refine (cT.out _ HB1.out).mono ?_); rintro e W2 ⟨rfl, hb2⟩; have HB2 := hid (tb HB1 hb2); clear hb2))
   exact bodyPost_ret (v := .tuple #[.string ⟨#[]⟩, .int .i64 2]) (by simp [results, Tryz.results12, go_sem]) rfl ⟨rfl, HB2.out⟩
  ·have hd : decide ((400 : Int) < ((bs (listTx l)).size : Int)) = false := by rw [decide_eq_false_iff_not, hsz2]; omega
   rw [if_neg h4, if_neg h4]
   go_enter Tryz.func12, Tryz.ntmps12
   go_wp2_with (first
    | (go_at_call 13; (with_reducible refine cC.out.mono ?_); rintro e W1 ⟨rfl, hb1⟩; have HB1 := hid hb1; clear hb1)
    | (go_at_call 22; (with_reducible refine (cT.out _ HB1.out).mono ?_); rintro e W2 ⟨rfl, hb2⟩; have HB2 := hid (tb HB1 hb2); clear hb2))
   exact bodyPost_ret (v := .tuple #[.string (bs (listTx l)), .int .i64 0]) (by simp [results, Tryz.results12, go_sem]) rfl ⟨rfl, HB2.out⟩
 ·have e1 : textT l = [] := by rw [textT, if_neg h0]
  have e2 : textN l = errC l := by rw [textN, if_neg h0]
  rw [e1, e2]
  obtain ⟨x, hx⟩ : ∃ x, errC l = x := ⟨_, rfl⟩
  rw [hx] at cC0 h0 ⊢
  have hz : (x == 0) = false := bq h0
  have hz2 : (x != 0) = true := by rw [bne, hz]; rfl
  have cC := hid cC0
  clear cC0 hM hP hv h0 hx e1 e2
  go_enter Tryz.func12, Tryz.ntmps12
  go_wp2_with (go_at_call 13; (with_reducible refine cC.out.mono ?_); rintro e W1 ⟨rfl, hb1⟩; have HB1 := hid hb1; clear hb1)
  exact bodyPost_ret (v := .tuple #[.string ⟨#[]⟩, .int .i64 x]) (by simp [results, Tryz.results12, go_sem]) rfl ⟨rfl, HB1.out⟩
end sel
namespace sel
open Go.RowKit base tok rul quo
theorem quote_more (v : Bs) : v.length <= (quo.quoteP v).length := by rw [quote_len]; omega
theorem testTx_ge {k : Int} {n : Bs} {op : UInt8} {v : Bs} {a b : Int} {i : Nat} {sub : Bs} (h : testB k n op v a b i = true) : n.length <= (testTx k n op v a b sub).length /\ v.length <= (testTx k n op v a b sub).length /\ (k = 10 ∨ k = 11 -> sub.length <= (testTx k n op v a b sub).length) := by
 unfold testB at h
 obtain ⟨h1, -⟩ := and_t h
 obtain ⟨h1, hop⟩ := and_t h1
 obtain ⟨h1, -⟩ := and_t h1
 obtain ⟨h1, hname⟩ := and_t h1
 obtain ⟨h1, hnamed⟩ := and_t h1
 obtain ⟨h1, -⟩ := and_t h1
 have hk := of_decide_eq_true h1
 have hq := quote_more v
 have hname0 : ¬ (2 <= k /\ k <= 5) -> n = [] := fun hk => by
  rw [decide_eq_false hk] at hnamed
  simpa using hnamed
 have hv0 : k ≠ 5 -> v = [] := fun hk => by
  by_cases ho : op = 0
  ·rw [if_pos ho] at hop
   exact of_decide_eq_true hop
  ·rw [if_neg ho, decide_eq_false hk] at hop
   cases hop
 have hv1 : op = 0 -> v = [] := fun ho => by
  rw [if_pos ho] at hop
  exact of_decide_eq_true hop
 by_cases h5 : k = 5
 ·subst h5
  unfold testTx
  rw [if_neg (by decide), if_neg (by decide), if_neg (by decide), if_neg (by decide), if_pos rfl]
  refine ⟨?_, ?_, fun h => by omega⟩
  ·split <;> simp only [List.length_append, List.length_cons, List.length_nil] <;> omega
  ·split
   ·rename_i ho
    rw [hv1 ho]
    exact Nat.zero_le _
   ·simp only [List.length_append, List.length_cons, List.length_nil]; omega
 ·obtain rfl := hv0 h5
  have hsub : (k = 10 ∨ k = 11 -> sub.length <= (testTx k n op [] a b sub).length) := fun h => by
   rcases h with rfl | rfl
   ·unfold testTx
    simp
    omega
   ·unfold testTx
    simp
    omega
  refine ⟨?_, Nat.zero_le _, hsub⟩
  by_cases hn : 2 <= k /\ k <= 5
  ·rcases (show k = 2 ∨ k = 3 ∨ k = 4 from by omega) with rfl | rfl | rfl
   ·simp [testTx]
   ·simp [testTx]
   ·simp [testTx]
  ·rw [hname0 hn]
   exact Nat.zero_le _
theorem listTx_one (p : Pa) (l : List Pa) : (paTx p).length <= (listTx (p :: l)).length /\ (listTx l).length <= (listTx (p :: l)).length := by
 cases l with
 | nil =>
  unfold listTx
  simp only [pasTx, Lib.join_one, Lib.join_nil]
  exact ⟨Nat.le_refl _, Nat.zero_le _⟩
 | cons q l =>
  rw [list_cons]
  simp only [List.length_append, List.length_cons]
  omega
mutual
theorem sm_okT : ∀ (t : Ts) (i : Nat), okT i t = true -> (tsTx t).length <= 400 -> SmT t
 | .mk k n op v a b subs, i => fun h hl => by
  obtain ⟨h1, h2⟩ := okT_subs h
  obtain ⟨k1, k2, ha, hb⟩ := testB_k h1
  rw [tsTx] at hl
  obtain ⟨g1, g2, g3⟩ := testTx_ge (sub := Lib.join (pasTx subs) [44, 32]) h1
  rw [SmT]
  refine ⟨k1, k2, by omega, by omega, ha, hb, ?_⟩
  by_cases h10 : k = 10 ∨ k = 11
  ·exact sm_okL subs h2 (by unfold listTx; have := g3 h10; omega)
  ·rw [okT.eq_def] at h
   simp only [if_neg h10] at h
   obtain ⟨-, h3⟩ := and_t h
   cases subs with
   | nil => rw [SmL]; trivial
   | cons p l => cases h3
theorem sm_okS : ∀ (l : List Ts) (i : Nat), okS i l = true -> (ssTx l).length <= 400 -> SmS l
 | [], i => fun _ _ => by rw [SmS]; trivial
 | t :: l, i => fun h hl => by
  rw [okS] at h
  rw [ssTx, List.length_append] at hl
  rw [SmS]
  exact ⟨sm_okT t i (and_t h).1 (by omega), sm_okS l (i + 1) (and_t h).2 (by omega)⟩
theorem sm_okSS : ∀ (l : List (List Ts)) (js : Bs), js.length = l.length -> okSS l = true -> (sssTx l js).length <= 400 -> SmSS l
 | [], js => fun _ _ _ => by rw [SmSS]; trivial
 | s :: l, [] => fun h => by cases h
 | s :: l, j :: js => fun h0 h hl => by
  rw [okSS] at h
  obtain ⟨h1, h2⟩ := and_t h
  obtain ⟨h3, h4⟩ := and_t h1
  rw [sssTx, List.length_append, List.length_append] at hl
  rw [SmSS]
  exact ⟨fun e => (by rw [e] at h4; cases h4), sm_okS s 0 h3 (by omega), sm_okSS l js (by simpa using h0) h2 (by omega)⟩
theorem sm_okP : ∀ p : Pa, okP p = true -> (paTx p).length <= 400 -> SmP p
 | .mk [] joins => fun h => by rw [okP] at h; cases h
 | .mk (s :: l) joins => fun h hl => by
  rw [okP] at h
  obtain ⟨h1, -⟩ := and_t h
  obtain ⟨h3, h4⟩ := and_t h1
  obtain ⟨-, h5⟩ := and_t h3
  have h10 := of_decide_eq_true h5
  rw [okSS] at h4
  obtain ⟨h6, h7⟩ := and_t h4
  obtain ⟨h8, h9⟩ := and_t h6
  rw [paTx, List.length_append] at hl
  rw [SmP, SmSS]
  exact ⟨by simp, h10, fun e => (by rw [e] at h9; cases h9), sm_okS s 0 h8 (by omega), sm_okSS l joins (by simpa using h10) h7 (by omega)⟩
theorem sm_okL : ∀ l : List Pa, okL l = true -> (listTx l).length <= 400 -> SmL l
 | [] => fun _ _ => by rw [SmL]; trivial
 | p :: l => fun h hl => by
  rw [okL] at h
  obtain ⟨g1, g2⟩ := listTx_one p l
  rw [SmL]
  exact ⟨sm_okP p (and_t h).1 (by omega), sm_okL l (and_t h).2 (by omega)⟩
end
end sel
namespace sel
open Go.RowKit base tok rul
theorem sread_long (s : ByteArray) (hs : 400 < s.size) (w : World) :
  Calls Tryz.prog 9 #[.string s] w (rt w (.tuple #[.slice none 0 0, .int .i64 2])) := by
 have ec := hid (show Blk ((w.alloc (.cells #[.slice none 0 0] 24)).alloc (.cells #[.int .i64 2] 29)) w.heap.size 24 #[.slice none 0 0] from (Blk.new rfl).alloc _).cell
 have fc := hid (show Blk ((w.alloc (.cells #[.slice none 0 0] 24)).alloc (.cells #[.int .i64 2] 29)) (w.heap.size + 1) 29 #[.int .i64 2] from Blk.new (by simp)).cell
 have HB := hid (show Below w.heap.size w ((w.alloc (.cells #[.slice none 0 0] 24)).alloc (.cells #[.int .i64 2] 29)) from (ba _ _).alloc (by simp) _)
 have hs' : decide ((400 : Int) < (s.size : Int)) = true := decide_eq_true (by omega)
 go_enter Tryz.func9, Tryz.ntmps9
 go_wp2_with fail
 refine bodyPost_ret (v := .tuple #[.slice none 0 0, .int .i64 2]) (by simp [results, Tryz.results9, go_sem, ec.out, fc.out]) rfl ⟨rfl, HB.out⟩
theorem assert_none (v : Value) (w : World) : (Instr.typeAssert (.iface 54 v) 20 54 true).run Tryz.prog w = .ok (.tuple #[v, .bool true]) w := by
 simp [Instr.typeAssert, go_sem]
theorem scatch_own (p q B : Nat) (x y : Value) (w : World) (hp : Blk w p 24 #[x]) (hq : Blk w q 29 #[y]) (hpq : p ≠ q) (hB : B <= p) (hB2 : B <= q) (hBw : B <= w.heap.size) :
  CallsD Tryz.prog 16 #[(pn p), (pn q)] (.panicking chainN) w fun e u' w' => e = .returned (.tuple #[]) /\ u' = .panicking [{ v := .iface 54 (.agg #[]), recovered := true }] /\
   Blk w' p 24 #[.slice none 0 0] /\ Blk w' q 29 #[.int .i64 4] /\ Below B w w' := by
 have pc := hp.cell
 have pf := hp.frozen
 have qc := hq.cell
 have qf := hq.frozen
 refine callsD_of_wpS Tryz.func16 rfl fun c₀ cs hu => ?_
 simp only [Tryz.ntmps16, List.size_toArray, List.length_cons, List.length_nil, Nat.reduceAdd, Nat.reduceSub, Array.replicate_succ, Array.replicate_zero, List.push_toArray, List.append_toArray, List.nil_append, List.cons_append]
 apply wpS_seq
 apply wpS_region
 simp [wpOpsS, go_sem, recoverD, hu, Exit.thenS, chainN]
 refine wpS_of_wp ?_
 have hta := assert_none (.agg #[]) w
 have hpl := hp.lt
 have hql := hq.lt
 have n5 : ¬ q = p := by omega
 have HB0 := hid ((Below.refl B w).setCell (p := ⟨p, 0, none⟩) hB (.slice none 0 0))
 have FP := hid ((hp.put 0 (.slice none 0 0)).far (p := ⟨q, 0, none⟩) (by dsimp only; omega) (.int .i64 4))
 have FQ := hid ((hq.far (p := ⟨p, 0, none⟩) (by dsimp only; omega) (.slice none 0 0)).put 0 (.int .i64 4))
 have FB := hid (HB0.out.setCell (p := ⟨q, 0, none⟩) hB2 (.int .i64 4))
 go_wp2_with fail
 simp only [bodyPostS, results, Tryz.results16]
 exact ⟨trivial, _, rfl, .tuple #[], by simp, rfl, rfl, FP.out.alloc _, FQ.out.alloc _, FB.out.alloc (Nat.le_trans hBw FB.out.size) _⟩
theorem sread_die (s : Bs) (hs : s.length <= 400) (d : Nat) (hd : 2404 <= d) (hL : listF d false [] (cutP s) = none) (w : World) (hE : SEnv w) :
  Calls Tryz.prog 9 #[.string (bs s)] w (rt w (.tuple #[.slice none 0 0, .int .i64 4])) := by
 have hmf : ∀ (fn : Fn) (first cap : Array Value) (w : World), (Instr.makeFunc fn first cap).run Tryz.prog w = .ok (.func fn first cap) w := fun _ _ _ _ => rfl
 have hgood := good_cut hs
 have hl := cut_few s
 have cC := fun w hm => tok.cut_ct (bs s) (by rw [bs_size]; omega) w hm
 rw [show (bs s).data.toList = s from rfl] at cC
 replace cC := hid cC
 have cV := fun b w h hE => (reads_all 400).2 b false (cutP s) d w (by omega) hgood (by omega) h hE
 rw [hL, if_neg Bool.false_ne_true] at cV
 unfold RetLs at cV
 replace cV := hid cV
 have HE := hid hE
 have hq4 : decide ((400 : Int) < ((bs s).size : Int)) = false := decide_eq_false (by rw [bs_size]; omega)
 clear hE hL hgood
 go_enter_defers Tryz.func9, Tryz.ntmps9
 have HB0 := hid (show Below w.heap.size w ((w.alloc (.cells #[.slice none 0 0] 24)).alloc (.cells #[.int .i64 0] 29)) from (ba _ _).alloc (by simp) _)
 have Q0 := hid (show Blk ((w.alloc (.cells #[.slice none 0 0] 24)).alloc (.cells #[.int .i64 0] 29)) w.heap.size 24 #[.slice none 0 0] from (Blk.new rfl).alloc _)
 have E0 := hid (show Blk ((w.alloc (.cells #[.slice none 0 0] 24)).alloc (.cells #[.int .i64 0] 29)) (w.heap.size + 1) 29 #[.int .i64 0] from Blk.new (by simp))
 go_wp2_with (first
  | (go_at_call 17; (with_reducible refine (cC.out _ (HE.out.max.on HB0.out HE.out.max.lt)).mono ?_); rintro e W1 ⟨⟨A, cap, rfl, hcap, hrd⟩, hb1⟩; have hz1 := hb1.size; simp only [World.size_alloc] at hz1; have HB1 := hid ((HB0.out.trans (hb1.mono (by simp <;> omega))).alloc (by omega) (.cells #[.slice A (cutP s).length cap] 60)); have Q1 := hid ((Q0.out.below hb1 (by simp <;> omega)).alloc (.cells #[.slice A (cutP s).length cap] 60)); have E1 := hid ((E0.out.below hb1 (by simp <;> omega)).alloc (.cells #[.slice A (cutP s).length cap] 60)); have HR1 := hid (show RdrS (W1.alloc (.cells #[.slice A (cutP s).length cap] 60)) W1.heap.size (cutP s) from ⟨A, cap, hcap, Blk.new rfl, Rd.keep hrd (ba _ _) (Nat.le_refl _)⟩); have HE1 := hid (show EnvS W1.heap.size (W1.alloc (.cells #[.slice A (cutP s).length cap] 60)) from fun v hv => HE.out.on (HB1.out.trans (hv.mono (by omega)))); clear hrd hb1)
  | (go_at_call 18; (with_reducible refine (cV.out _ _ HR1.out HE1.out).mono ?_); rintro e W2 ⟨rfl, hg2⟩; have hz2 := hg2.size; rw [World.size_alloc] at hz2; have Q2 := hid (Blk_grown Q1.out hg2 (by omega)); have E2 := hid (Blk_grown E1.out hg2 (by omega)); have HB2 := hid (HB1.out.trans ((below_one hg2 (by rw [World.size_alloc]; omega)).mono (by omega))); clear hg2))
 refine leaves_cons (f := 16) (args := #[.pointer (some ⟨w.heap.size, 0, none⟩), .pointer (some ⟨w.heap.size + 1, 0, none⟩)]) (by simp) (by simp [go_sem]) ?_
 refine (scatch_own w.heap.size (w.heap.size + 1) w.heap.size _ _ W2 Q2.out E2.out (by omega) (Nat.le_refl _) (by omega) (by have := Q2.out.lt; omega)).mono ?_
 rintro e u' w'' ⟨rfl, rfl, hp, hq, hb⟩
 have ec := hp.cell
 have fc := hq.cell
 have HB := hid hb
 clear hp hq hb
 simp only [Leaves, settle, List.dropWhile]
 exact ⟨.tuple #[.slice none 0 0, .int .i64 4], by simp [results, Tryz.results9, go_sem, ec, fc], rfl, HB2.out.trans HB.out⟩
theorem sread_bad (s : Bs) (hs : s.length <= 400) (d : Nat) (hd : 2404 <= d) (l : List Pa) (M : List Tk) (hL : listF d false [] (cutP s) = some (l, M)) (hck : checkB l = false) (w : World) (hE : SEnv w) :
  Calls Tryz.prog 9 #[.string (bs s)] w (rt w (.tuple #[.slice none 0 0, .int .i64 4])) := by
 have hmf : ∀ (fn : Fn) (first cap : Array Value) (w : World), (Instr.makeFunc fn first cap).run Tryz.prog w = .ok (.func fn first cap) w := fun _ _ _ _ => rfl
 have hgood := good_cut hs
 have hl := cut_few s
 obtain ⟨hsm, hin⟩ := (in_all d).2.2.2.2 false [] (cutP s) l M hgood (by rw [SmL]; trivial) hL
 have hll := len_L l hsm
 have hcn : cntL l <= 400 := by rw [cntL_nil] at hin; omega
 have hszl := sm_szL l hsm
 have cC := fun w hm => tok.cut_ct (bs s) (by rw [bs_size]; omega) w hm
 rw [show (bs s).data.toList = s from rfl] at cC
 replace cC := hid cC
 have cV := fun b w h hE => (reads_all 400).2 b false (cutP s) d w (by omega) hgood (by omega) h hE
 rw [hL, if_neg Bool.false_ne_true] at cV
 unfold RetLs at cV
 replace cV := hid cV
 have hx0 : errC l ≠ 0 := fun h => by rw [errC_ok.1 h] at hck; cases hck
 obtain ⟨x, hx⟩ : ∃ x, errC l = x := ⟨_, rfl⟩
 have cK := fun A cap X w hM hv => check_any l (by omega) A cap X w hM hv
 rw [hx] at cK hx0
 replace cK := hid cK
 have hz : (x == 0) = false := bq hx0
 have hz2 : (x != 0) = true := by rw [bne, hz]; rfl
 have HE := hid hE
 have hq4 : decide ((400 : Int) < ((bs s).size : Int)) = false := decide_eq_false (by rw [bs_size]; omega)
 clear hE hL hsm hck hgood hx hin hx0
 go_enter_defers Tryz.func9, Tryz.ntmps9
 have HB0 := hid (show Below w.heap.size w ((w.alloc (.cells #[.slice none 0 0] 24)).alloc (.cells #[.int .i64 0] 29)) from (ba _ _).alloc (by simp) _)
 have Q0 := hid (show Blk ((w.alloc (.cells #[.slice none 0 0] 24)).alloc (.cells #[.int .i64 0] 29)) w.heap.size 24 #[.slice none 0 0] from (Blk.new rfl).alloc _)
 have E0 := hid (show Blk ((w.alloc (.cells #[.slice none 0 0] 24)).alloc (.cells #[.int .i64 0] 29)) (w.heap.size + 1) 29 #[.int .i64 0] from Blk.new (by simp))
 go_wp2_with (first
  | (go_at_call 17; (with_reducible refine (cC.out _ (HE.out.max.on HB0.out HE.out.max.lt)).mono ?_); rintro e W1 ⟨⟨A, cap, rfl, hcap, hrd⟩, hb1⟩; have hz1 := hb1.size; simp only [World.size_alloc] at hz1; have HB1 := hid ((HB0.out.trans (hb1.mono (by simp <;> omega))).alloc (by omega) (.cells #[.slice A (cutP s).length cap] 60)); have Q1 := hid ((Q0.out.below hb1 (by simp <;> omega)).alloc (.cells #[.slice A (cutP s).length cap] 60)); have E1 := hid ((E0.out.below hb1 (by simp <;> omega)).alloc (.cells #[.slice A (cutP s).length cap] 60)); have HR1 := hid (show RdrS (W1.alloc (.cells #[.slice A (cutP s).length cap] 60)) W1.heap.size (cutP s) from ⟨A, cap, hcap, Blk.new rfl, Rd.keep hrd (ba _ _) (Nat.le_refl _)⟩); have HE1 := hid (show EnvS W1.heap.size (W1.alloc (.cells #[.slice A (cutP s).length cap] 60)) from fun v hv => HE.out.on (HB1.out.trans (hv.mono (by omega)))); clear hrd hb1)
  | (go_at_call 18; (with_reducible refine (cV.out _ _ HR1.out HE1.out).mono ?_); rintro e W2 ⟨hg2, ⟨A2, cap2, rfl, hv2⟩, hr2⟩; (try dsimp only at hv2); have hz2 := hg2.size; rw [World.size_alloc] at hz2; have q2 := Blk_grown Q1.out hg2 (by omega); have q2c := q2.cell; have q2f := q2.frozen; have q2l := q2.lt; have Q2 := hid (q2.put 0 (.slice A2 l.length cap2)); have E2 := hid ((Blk_grown E1.out hg2 (by omega)).far (p := ⟨w.heap.size, 0, none⟩) (by dsimp only; omega) (.slice A2 l.length cap2)); have V2 := hid (hv2.keep (Y := fun c => w.heap.size + 2 <= c) (w' := W2.setCell ⟨w.heap.size, 0, none⟩ (.slice A2 l.length cap2)) (by simp [World.setCell]) (fun c hc hl => ⟨(by rw [World.size_alloc] at hc; omega), Below.heap_setCell _ _ _ c (by rw [World.size_alloc] at hc; dsimp only; omega)⟩)); have HB2 := hid ((HB1.out.trans ((below_one hg2 (by rw [World.size_alloc]; omega)).mono (by omega))).setCell (p := ⟨w.heap.size, 0, none⟩) (Nat.le_refl _) (.slice A2 l.length cap2)); clear hg2 hv2 hr2 q2)
  | (go_at_call 13; (with_reducible refine (cK.out _ _ _ _ (HE.out.max.on HB2.out HE.out.max.lt) V2.out).mono ?_); rintro e W3 ⟨rfl, hb3⟩; have q3 := Q2.out.below hb3 Q2.out.lt; have q3c := q3.cell; have q3f := q3.frozen; have q3l := q3.lt; have Q3 := hid q3; have e3 := E2.out.below hb3 E2.out.lt; have e3c := e3.cell; have e3f := e3.frozen; have e3l := e3.lt; have E3 := hid e3; have V3 := hid (V2.out.on hb3); have HB3 := hid (tb HB2 hb3); clear hb3 q3 e3))
 refine leaves_cons (f := 16) (args := #[.pointer (some ⟨w.heap.size, 0, none⟩), .pointer (some ⟨w.heap.size + 1, 0, none⟩)]) (by simp) (by simp [go_sem]) ?_
 refine (scatch_idle ⟨w.heap.size, 0, none⟩ ⟨w.heap.size + 1, 0, none⟩ _).mono ?_
 rintro e u' w'' ⟨rfl, rfl, rfl⟩
 have ec := ((Q3.out.put 0 (.slice none 0 0)).far (p := ⟨w.heap.size + 1, 0, none⟩) (by dsimp only; omega) (.int .i64 4)).cell
 have fc := ((E3.out.far (p := ⟨w.heap.size, 0, none⟩) (by dsimp only; omega) (.slice none 0 0)).put 0 (.int .i64 4)).cell
 have HF := (HB3.out.setCell (p := ⟨w.heap.size, 0, none⟩) (Nat.le_refl _) (.slice none 0 0)).setCell (p := ⟨w.heap.size + 1, 0, none⟩) (by dsimp only; omega) (.int .i64 4)
 generalize ((W3.setCell ⟨w.heap.size, 0, none⟩ (.slice none 0 0)).setCell ⟨w.heap.size + 1, 0, none⟩ (.int .i64 4)) = WF at *
 simp only [Leaves, settle]
 exact ⟨.tuple #[.slice none 0 0, .int .i64 4], by simp [results, Tryz.results9, go_sem, ec, fc], rfl, HF⟩
def badN (s : Bs) : Int := if 400 < s.length then 2 else 4
def SReadC (s : Bs) : Option (List Pa) -> Prop
 | none => ∀ w, SEnv w -> Calls Tryz.prog 9 #[.string (bs s)] w (rt w (.tuple #[.slice none 0 0, .int .i64 (badN s)]))
 | some l => ∀ w, SEnv w -> Calls Tryz.prog 9 #[.string (bs s)] w fun e w' => (∃ A cap, e = .returned (.tuple #[.slice A l.length cap, .int .i64 0]) /\ PasV (fun c => w.heap.size <= c) w' l A cap) /\ Below w.heap.size w w'
theorem sread_any (s : Bs) (d : Nat) (hd : 2404 <= d) : SReadC s (readS d s) := by
 cases hr : readS d s with
 | some l => exact fun w hE => sread_ok s d l hr w hE
 | none =>
  intro w hE
  unfold badN
  by_cases h4 : 400 < s.length
  ·rw [if_pos h4]
   exact sread_long (bs s) (by rw [bs_size]; exact h4) w
  ·rw [if_neg h4]
   unfold readS at hr
   rw [if_neg h4] at hr
   cases hl : listF d false [] (cutP s) with
   | none => exact sread_die s (by omega) d hd hl w hE
   | some r =>
    obtain ⟨l, M⟩ := r
    rw [hl] at hr
    simp only at hr
    cases hc : checkB l with
    | true => rw [hc, if_pos rfl] at hr; cases hr
    | false => exact sread_bad s (by omega) d hd l M hl hc w hE
end sel
namespace sel
open Go.RowKit base tok dim rul
theorem read_small {d : Nat} {s : Bs} {l : List Pa} (h : readS d s = some l) : checkB l = true /\ SmL l /\ szL l <= 32200 /\ cntL l <= 40 := by
 obtain ⟨hs, hck, M, hL⟩ := read_open h
 have hsm := ((in_all d).2.2.2.2 false [] (cutP s) l M (good_cut hs) (by rw [SmL]; trivial) hL).1
 have h1 := sm_szL l hsm
 have h2 := (check_open hck).2.1
 exact ⟨hck, hsm, by omega, h2⟩
theorem told_S4 {l : List Pa} (hck : checkB l = true) (h4 : (listTx l).length <= 400) : ∃ d, 2404 <= d /\ readS d (listTx l) = some l := by
 obtain ⟨-, -, hne, hok⟩ := check_open hck
 obtain ⟨d0, hd⟩ := told_read hne hok
 refine ⟨max d0 2404, by omega, ?_⟩
 unfold readS
 rw [if_neg (by omega), hd _ (by omega)]
 simp only
 rw [if_pos hck]
theorem again_no (s : Bs) (hr : readS 2404 s = none) (w : World) (hE : SEnv w) :
  Calls Tryz.prog 5 #[.string (bs s)] w (rt w (.bool true)) := by
 have cL := hid (fun w hE => listed_ct w hE)
 have cR0 := sread_any s 2404 (Nat.le_refl _)
 rw [hr] at cR0
 have HE := hid hE
 unfold SReadC badN at cR0
 clear hE
 by_cases h4 : 400 < s.length
 ·have hq4 : decide ((400 : Int) < ((bs s).size : Int)) = true := decide_eq_true (by rw [bs_size]; omega)
  rw [if_pos h4] at cR0
  have cR := hid cR0
  clear hr h4 cR0
  go_enter Tryz.func5, Tryz.ntmps5
  go_wp2_with (first
   | (go_at_call 8; (with_reducible refine (cL.out _ HE.out).mono ?_); rintro e W1 ⟨rfl, hb1⟩; have HB1 := hid hb1; clear hb1)
   | (go_at_call 9; (with_reducible refine (cR.out _ (HE.out.on HB1.out)).mono ?_); rintro e W2 ⟨rfl, hb2⟩; have HB2 := hid (tb HB1 hb2); clear hb2))
  go_ret
  exact ⟨rfl, HB2.out⟩
 ·have hq4 : decide ((400 : Int) < ((bs s).size : Int)) = false := decide_eq_false (by rw [bs_size]; omega)
  rw [if_neg h4] at cR0
  have cR := hid cR0
  clear hr h4 cR0
  go_enter Tryz.func5, Tryz.ntmps5
  go_wp2_with (first
   | (go_at_call 8; (with_reducible refine (cL.out _ HE.out).mono ?_); rintro e W1 ⟨rfl, hb1⟩; have HB1 := hid hb1; clear hb1)
   | (go_at_call 9; (with_reducible refine (cR.out _ (HE.out.on HB1.out)).mono ?_); rintro e W2 ⟨rfl, hb2⟩; have HB2 := hid (tb HB1 hb2); clear hb2))
  go_ret
  exact ⟨rfl, HB2.out⟩
theorem again_yes (s : Bs) (l : List Pa) (hr : readS 2404 s = some l) (w : World) (hE : SEnv w) (hT : PowAt w) :
  Calls Tryz.prog 5 #[.string (bs s)] w (rt w (.bool true)) := by
 have cL := hid (fun w hE => listed_ct w hE)
 have cR0 := sread_any s 2404 (Nat.le_refl _)
 rw [hr] at cR0
 obtain ⟨hck, hsm, hsz, hc40⟩ := read_small hr
 have h0 := errC_ok.2 hck
 have cK0 := fun A cap X w hM hv => check_any l (by omega) A cap X w hM hv
 rw [h0] at cK0
 have cK := hid cK0
 have cT0 := fun A cap X w hM hP hv => text_any l (by omega) A cap X w hM hP hv
 have e1 : textT l = if 400 < (listTx l).length then [] else listTx l := by rw [textT, if_pos h0]
 have e2 : textN l = if 400 < (listTx l).length then 2 else 0 := by rw [textN, if_pos h0]
 rw [e1, e2] at cT0
 have cS0 := same_all 40 (by omega) l hc40 hsm
 unfold SameL at cS0
 have cS := hid cS0
 clear cS0
 have HE := hid hE
 have HT := hid hT
 unfold SReadC at cR0
 have cR := hid cR0
 have hll := len_L l hsm
 have hlen : l.length <= 40 := by omega
 by_cases h4 : 400 < (listTx l).length
 ·rw [if_pos h4, if_pos h4] at cT0
  have cT := hid cT0
  clear hE hT hr cR0 hck hsm h0 cK0 cT0 h4 e1 e2
  go_enter Tryz.func5, Tryz.ntmps5
  go_wp2_with (first
   | (go_at_call 8; (with_reducible refine (cL.out _ HE.out).mono ?_); rintro e W1 ⟨rfl, hb1⟩; have HB1 := hid hb1; clear hb1)
   | (go_at_call 9; (with_reducible refine (cR.out _ (HE.out.on HB1.out)).mono ?_); rintro e W2 ⟨⟨A, cap, rfl, hv2⟩, hb2⟩; have HB2 := hid (tb HB1 hb2); have V2 := hid hv2; clear hb2 hv2)
   | (go_at_call 12; (with_reducible refine (cT.out _ _ _ _ (HE.out.on HB2.out).max (HT.out.on HB2.out) V2.out).mono ?_); rintro e W3 ⟨rfl, hb3⟩; have HB3 := hid (tb HB2 hb3); have V3 := hid (V2.out.on hb3); clear hb3)
   | (go_at_call 13; (with_reducible refine (cK.out _ _ _ _ (HE.out.on HB3.out).max V3.out).mono ?_); rintro e W4 ⟨rfl, hb4⟩; have HB4 := hid (tb HB3 hb4); clear hb4))
  go_ret
  exact ⟨rfl, HB4.out⟩
 ·rw [if_neg h4, if_neg h4] at cT0
  have cT := hid cT0
  obtain ⟨d2, hd2, hr2⟩ := told_S4 hck (by omega)
  have cQ0 := sread_any (listTx l) d2 hd2
  rw [hr2] at cQ0
  unfold SReadC at cQ0
  have cQ := hid cQ0
  clear hE hT hr cR0 hck hsm h0 cK0 cT0 h4 e1 e2 hr2 cQ0
  go_enter Tryz.func5, Tryz.ntmps5
  go_wp2_with (first
   | (go_at_call 8; (with_reducible refine (cL.out _ HE.out).mono ?_); rintro e W1 ⟨rfl, hb1⟩; have HB1 := hid hb1; clear hb1)
   | (go_at_call 9; (with_reducible refine (cR.out _ (HE.out.on HB1.out)).mono ?_); rintro e W2 ⟨⟨A, cap, rfl, hv2⟩, hb2⟩; have HB2 := hid (tb HB1 hb2); have V2 := hid hv2; clear hb2 hv2)
   | (go_at_call 12; (with_reducible refine (cT.out _ _ _ _ (HE.out.on HB2.out).max (HT.out.on HB2.out) V2.out).mono ?_); rintro e W3 ⟨rfl, hb3⟩; have HB3 := hid (tb HB2 hb3); have V3 := hid (V2.out.on hb3); clear hb3)
   | (go_at_call 9; (with_reducible refine (cQ.out _ (HE.out.on HB3.out)).mono ?_); rintro e W4 ⟨⟨A4, cap4, rfl, hv4⟩, hb4⟩; have HB4 := hid (tb HB3 hb4); have V4 := hid hv4; have V5 := hid (V3.out.on hb4); clear hb4 hv4)
   | (go_at_call 10; (with_reducible refine (cS.out _ _ _ _ _ _ _ V5.out V4.out).mono ?_); rintro e W5 ⟨rfl, hb5⟩; have HB5 := hid (tb HB4 hb5); clear hb5))
  go_ret
  exact ⟨rfl, HB5.out⟩
theorem sagain_ct (s : ByteArray) (w : World) (hE : SEnv w) (hT : PowAt w) :
  Calls Tryz.prog 5 #[.string s] w (rt w (.bool true)) := by
 have e : s = bs s.data.toList := by cases s; simp [bs]
 rw [e]
 cases hr : readS 2404 s.data.toList with
 | none => exact again_no _ hr w hE
 | some l => exact again_yes _ l hr w hE hT
end sel
namespace sel.again
open Go.RowKit base tok dim rul
theorem law_ct (s : ByteArray) (w : World) (_hs : s.size <= maxLen) (hE : SEnv w) (hT : PowAt w) :
  Calls Tryz.prog 5 #[.string s] w (rt w (.bool true)) := sagain_ct s w hE hT
end sel.again
end Go.Proofs.YtaobpkffcolobaaGreatDoor
