/- Contracts: sameTokens. -/
import Derived.Test.YtphdmdncboegjaaDoorTok21
namespace Go.Proofs.YtphdmdncboegjaaDoor.tok
open Go.RowKit Go.Proofs.YtphdmdncboegjaaDoor.base
set_option linter.unusedVariables false

theorem ret_b {a b : Bool} (h : a = b) : Ending.returned (.bool a) = .returned (.bool b) := by rw [h]

set_option maxRecDepth 100000 in
set_option maxHeartbeats 4000000 in
theorem same_ct (A1 A2 : Option Addr) (n1 n2 c1 c2 : Nat) (L1 L2 : List Tk) (w : World) (hn : n1 ≤ maxLen) (hn2 : n2 ≤ maxLen) (h1 : TRd w w.heap.size A1 n1 L1) (h2 : TRd w w.heap.size A2 n2 L2) :
    Calls Tryd.prog 18 #[.slice A1 n1 c1, .slice A2 n2 c2] w fun e w' => e = .returned (.bool (decide (L1 = L2))) ∧ ∃ m, w' = w.drewN m := by
  have H1 := Lib.hid h1
  have H2 := Lib.hid h2
  have l1 := Lib.hid h1.1
  have l2 := Lib.hid h2.1
  unfold maxLen at hn hn2
  clear h1 h2
  by_cases hne : n1 = n2
  · subst hne
    go_enter Tryd.func18, Tryd.ntmps18
    go_wp2_with fail
    go_loopw [5] (fun i wr => ∃ k : Nat, k ≤ n1 ∧ i = .int .i64 k ∧ L1.take k = L2.take k ∧ ∃ m, wr = w.drewN m) (fun i _ => n1 - (intOf i).toNat)
    case atStart => exact ⟨0, by omega, rfl, by simp, 0, rfl⟩
    case round =>
      obtain ⟨k, hk, rfl, heq, m0, rfl⟩ := hrel
      replace heq := Lib.hid heq
      by_cases hlt : k < n1
      · have hlt' : (k : Int) < (n1 : Int) := by omega
        obtain ⟨b, off, t, rfl, hb, hd, e0, e1, e2, e3⟩ := TRd.tok H1.out hlt
        obtain ⟨b2, off2, u, rfl, hb2, hd2, f0, f1, f2, f3⟩ := TRd.tok H2.out hlt
        replace hd := Lib.hid hd
        replace hd2 := Lib.hid hd2
        by_cases htu : t = u
        · have keq : ∀ W : World, (binOp .neq 28 (.agg #[.int .i64 t.k, .string (bs t.raw), .string (bs t.val), .int .i64 t.num]) (.agg #[.int .i64 u.k, .string (bs u.raw), .string (bs u.val), .int .i64 u.num])).run Tryd.prog W = .ok (.bool false) W := fun W => by rw [run_ne_tok t u W, decide_eq_false (by simp [htu])]
          replace htu := Lib.hid htu
          go_wp2_with fail
          go_quiet (fail)
          go_wp2
          go_roundw
          case rel =>
            refine ⟨k + 1, by omega, by go_num, ?_, _, rfl⟩
            obtain ⟨p1, p2⟩ := List.getElem?_eq_some_iff.1 hd.out
            obtain ⟨q1, q2⟩ := List.getElem?_eq_some_iff.1 hd2.out
            rw [List.take_succ_eq_append_getElem p1, List.take_succ_eq_append_getElem q1, p2, q2, heq.out, htu.out]
          case measure => simp [intOf]; omega
        · have keq : ∀ W : World, (binOp .neq 28 (.agg #[.int .i64 t.k, .string (bs t.raw), .string (bs t.val), .int .i64 t.num]) (.agg #[.int .i64 u.k, .string (bs u.raw), .string (bs u.val), .int .i64 u.num])).run Tryd.prog W = .ok (.bool true) W := fun W => by rw [run_ne_tok t u W, decide_eq_true htu]
          have hno : ¬ L1 = L2 := fun e => by
            rw [e, hd2.out] at hd
            exact htu (Option.some.inj hd.out).symm
          replace htu := Lib.hid htu
          replace hno := Lib.hid hno
          go_wp2_with fail
          go_quiet (fail)
          go_wp2
          go_ret
          exact ⟨ret_b (decide_eq_false hno.out).symm, _, by rw [World.drewN_drewN]⟩
      · obtain rfl : k = n1 := by omega
        have hyes : L1 = L2 := by
          have := heq.out
          rwa [List.take_of_length_le (by rw [l1.out]; exact Nat.le_refl _), List.take_of_length_le (by rw [l2.out]; exact Nat.le_refl _)] at this
        replace hyes := Lib.hid hyes
        go_wp2
        go_ret
        exact ⟨ret_b (decide_eq_true hyes.out).symm, _, rfl⟩
  · have hno : ¬ L1 = L2 := fun e => hne (by rw [← l1.out, ← l2.out, e])
    have hni : ((n1 : Int) != (n2 : Int)) = true := by simp; omega
    replace hno := Lib.hid hno
    replace hne := Lib.hid hne
    go_enter Tryd.func18, Tryd.ntmps18
    go_wp2
    go_ret
    exact ⟨ret_b (decide_eq_false hno.out).symm, 0, rfl⟩

end Go.Proofs.YtphdmdncboegjaaDoor.tok
