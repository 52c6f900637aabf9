/- the sum of "abc", and the fixed fact that every law of the digest asks. -/
import Derived.Test.YtdpkodhfelnedaaDoorHex
import Derived.Test.YtdpkodhfelnedaaDoorDigOf
namespace Go.Proofs.YtdpkodhfelnedaaDoor.Cod
open Go.RowKit
set_option maxRecDepth 100000 in
theorem sha_abc : S (hexL (sha [97, 98, 99])) = ⟨#[98, 97, 55, 56, 49, 54, 98, 102, 56, 102, 48, 49, 99, 102, 101, 97, 52, 49, 52, 49, 52, 48, 100, 101, 53, 100, 97, 101, 50, 50, 50, 51, 98, 48, 48, 51, 54, 49, 97, 51, 57, 54, 49, 55, 55, 97, 57, 99, 98, 52, 49, 48, 102, 102, 54, 49, 102, 50, 48, 48, 49, 53, 97, 100]⟩ := by kernel_rfl
end Go.Proofs.YtdpkodhfelnedaaDoor.Cod
