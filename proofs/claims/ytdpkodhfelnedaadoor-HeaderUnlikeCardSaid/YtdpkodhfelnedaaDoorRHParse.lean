/- ref05.Parse: the walk (printed by gen/rhp.py). -/
import Derived.Test.YtdpkodhfelnedaaDoorRHP0
namespace Go.Proofs.YtdpkodhfelnedaaDoor.Cod
open Go.RowKit
theorem infoText : (Tryd.prog.info? 9).map (fun i => (i.zero, i.size, i.bytes)) = some (some (.string ⟨#[]⟩), 1, 16) := by kernel_rfl
attribute [local irreducible] inNum inRaw rdI hd Hdr.chk
end Go.Proofs.YtdpkodhfelnedaaDoor.Cod
