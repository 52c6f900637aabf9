/- ref01.Head reads as codec.number does. -/
import Derived.Test.YtdpkodhfelnedaaDoorIn
namespace Go.Proofs.YtdpkodhfelnedaaDoor.Cod
open Go.RowKit
set_option linter.unusedVariables false
theorem rh_step (v : Nat) (c : UInt8) (hv : v < 36028797018963968) : wrap64 (wrap64 (256 * (v : Int)) + wrap64 (c.toNat : Int)) = ((256 * v + c.toNat : Nat) : Int) := by
  have := c.toNat_lt
  unfold wrap64
  omega
end Go.Proofs.YtdpkodhfelnedaaDoor.Cod
