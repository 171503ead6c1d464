/- Bits of numbers: bytes of a color, and their joining. No program. -/
import Derived.Test.YtchmpdibbklpfaaBase
namespace Go.Proofs.Ytchmpdibbklpfaa.base
open Go.RowKit

theorem i64_or_nat (a b : Nat) (ha : a < 1099511627776) (hb : b < 1099511627776) : bits .or .i64 (a : Int) (b : Int) = ((a ||| b : Nat) : Int) := by
  have hx : a ||| b < 2 ^ 40 := Nat.or_lt_two_pow ha hb
  have hx' : a ||| b < 1099511627776 := hx
  show IntKind.i64.wrap ((BitVec.ofInt 64 (a : Int) ||| BitVec.ofInt 64 (b : Int)).toNat : Int) = _
  have e : (BitVec.ofInt 64 (a : Int) ||| BitVec.ofInt 64 (b : Int)).toNat = a ||| b := by
    rw [BitVec.toNat_or, ofInt_u64 a (by omega), ofInt_u64 b (by omega)]
  rw [e]
  clear e
  generalize a ||| b = c at *
  exact IntWalk.i64_in _ (by omega)

/-- a byte behind another number -/
theorem or_byte (x p : Int) (x0 : 0 ≤ x) (x1 : x ≤ 16777215) (p0 : 0 ≤ p) (p1 : p ≤ 255) : bits BinOp.or IntKind.i64 (x * 256) p = x * 256 + p := by
  obtain ⟨X, rfl⟩ := Int.eq_ofNat_of_zero_le x0
  obtain ⟨Q, rfl⟩ := Int.eq_ofNat_of_zero_le p0
  have h := i64_or_nat (X * 256) Q (by omega) (by omega)
  rw [nat_join 8 (X * 256) Q (by omega) (by omega)] at h
  simpa using h

theorem or_zero (p : Int) (p0 : 0 ≤ p) (p1 : p ≤ 255) : bits BinOp.or IntKind.i64 0 p = p := by
  have h := or_byte 0 p (by decide) (by decide) p0 p1
  simpa using h

theorem and_byte (x : Int) (h0 : 0 ≤ x) (h1 : x < 4294967296) : wrap64 (bits BinOp.and IntKind.u32 x 255) = x % 256 := by
  rw [u32_and x 255 h0 h1 (by decide) (by decide)]
  have e : x.toNat &&& (255 : Int).toNat = x.toNat % 256 := nat_mask8 _
  rw [e]
  have e2 : ((x.toNat % 256 : Nat) : Int) = x % 256 := by omega
  rw [e2]
  exact IntWalk.wrap64_in _ (by omega)

end Go.Proofs.Ytchmpdibbklpfaa.base
