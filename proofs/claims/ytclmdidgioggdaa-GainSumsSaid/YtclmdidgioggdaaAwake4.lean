/- The fixed facts of layers 3 and 4 hold of the printed functions: reckoned. No condition. -/
import Derived.Test.YtclmdidgioggdaaNatB
import Derived.KernelRfl
import Derived.Test.YtclmdidgioggdaaQx9
namespace Go.Proofs.Ytclmdidgioggdaa.Num
open Go.RowKit Go.Proofs.YtclmdidgioggdaaW.PrintWords Go.Proofs.Ytclmdidgioggdaa.Q
theorem awake4 : coxswainlaw04_awake.f 600 = some true := by kernel_rfl
theorem E_awake4 : Ev (fun k => coxswainlaw04_awake.f k) true := Ev.of (fun k => coxswainlaw04_awake.mono k) awake4
end Go.Proofs.Ytclmdidgioggdaa.Num
