/- x & 63 -/
import Derived.Test.YtgkiehefneamcaaTabW
namespace Go.Proofs.Ytgkiehefneamcaa.Cod
open Go.RowKit
theorem and63 (p : Int) : bits .and .i64 p 63 = p % 64 := by
  have h : (BitVec.ofInt 64 p &&& BitVec.ofInt 64 63).toNat = (p % 64).toNat := by
    rw [BitVec.toNat_and]
    have e : (BitVec.ofInt 64 63).toNat = 2 ^ 6 - 1 := by decide
    rw [e, Nat.and_two_pow_sub_one_eq_mod, BitVec.toNat_ofInt]
    omega
  show IntKind.i64.wrap ((BitVec.ofInt 64 p &&& BitVec.ofInt 64 63).toNat : Int) = p % 64
  rw [h, IntKind.wrap_i64]
  omega
end Go.Proofs.Ytgkiehefneamcaa.Cod
