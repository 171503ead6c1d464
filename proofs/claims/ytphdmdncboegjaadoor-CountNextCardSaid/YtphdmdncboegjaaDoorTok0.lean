/- Plain words on bytes: which signs begin a name, what an escape is, where a name begins and what it says. No program. -/
import Derived.Test.YtphdmdncboegjaaDoorBase
namespace Go.Proofs.YtphdmdncboegjaaDoor.tok
open Go.RowKit

abbrev Bs := List UInt8
/-- the string of bytes -/
def bs (l : Bs) : ByteArray := ⟨l.toArray⟩

def digI (n : Int) : Bool := decide (48 ≤ n ∧ n ≤ 57)
def startsI (n : Int) : Bool := decide (128 ≤ n ∨ n = 95 ∨ (65 ≤ n ∧ n ≤ 90) ∨ (97 ≤ n ∧ n ≤ 122))
def signI (n : Int) : Bool := startsI n || digI n || decide (n = 45)

abbrev nv (c : UInt8) : Int := (c.toNat : Int)

/-- does an escape begin it? -/
def escP : Bs → Bool
  | c :: d :: _ => decide (nv c = 92) && decide (nv d ≠ 10)
  | _ => false

/-- does a name begin it? -/
def beginsP : Bs → Bool
  | [] => false
  | [c] => startsI (nv c)
  | c :: d :: r => if nv c = 45 then decide (nv d = 45) || startsI (nv d) || escP (d :: r) else startsI (nv c) || escP (c :: d :: r)

/-- what a name at the beginning says, and how many bytes it is -/
def nameP : Bs → Bs × Nat
  | c :: d :: r => if escP (c :: d :: r) then (d :: (nameP r).1, (nameP r).2 + 2) else if signI (nv c) then (c :: (nameP (d :: r)).1, (nameP (d :: r)).2 + 1) else ([], 0)
  | [c] => if signI (nv c) then ([c], 1) else ([], 0)
  | [] => ([], 0)
termination_by l => l.length

theorem nv_lt (c : UInt8) : nv c < 256 := by have := c.toNat_lt; simp only [nv]; omega
theorem nv_nn (c : UInt8) : 0 ≤ nv c := by simp only [nv]; omega

theorem or_fact : ∀ n : Fin 128, (97 ≤ bits BinOp.or IntKind.u8 (n.val : Int) 32 ∧ bits BinOp.or IntKind.u8 (n.val : Int) 32 ≤ 122) ↔ ((65 ≤ n.val ∧ n.val ≤ 90) ∨ (97 ≤ n.val ∧ n.val ≤ 122)) := by decide +kernel
theorem or_letter (n : Int) (h0 : 0 ≤ n) (h1 : n < 128) : (97 ≤ bits BinOp.or IntKind.u8 n 32 ∧ bits BinOp.or IntKind.u8 n 32 ≤ 122) ↔ ((65 ≤ n ∧ n ≤ 90) ∨ (97 ≤ n ∧ n ≤ 122)) := by
  obtain ⟨k, rfl⟩ := Int.eq_ofNat_of_zero_le h0
  have h := or_fact ⟨k, by omega⟩
  simp only at h
  rw [h]
  omega

end Go.Proofs.YtphdmdncboegjaaDoor.tok
