/- GainLogs: the logarithm of any power is the document's. No condition. -/
import Derived.Test.YtclmdidgioggdaaAwake4
import Derived.Test.YtclmdidgioggdaaRefL
import Derived.OpenShut
import Derived.Test.YtclmdidgioggdaaQx14
namespace Go.Proofs.Ytclmdidgioggdaa.Pure
open Go.RowKit Go.Proofs.YtclmdidgioggdaaW.PrintWords Go.Proofs.Ytclmdidgioggdaa.Q Go.Proofs.Ytclmdidgioggdaa.Num
theorem GainLogs : coxswainlaw04_GainLogs.Pure := by
  intro a0 h0
  have b0 : 0 ≤ a0 ∧ a0 ≤ 18446744073709551615 := Go.bounds_u64 h0
  obtain ⟨p, rfl⟩ := Int.eq_ofNat_of_zero_le b0.1
  refine Ev.rounds ?_
  unfold coxswainlaw04_GainLogs.f
  refine Ev.bind E_awake4 ?_
  refine Ev.congr (fun k => if_pos rfl) ?_
  refine Ev.bind (E_log p (by omega)) (Ev.bind (E_rlog p (by omega)) ?_)
  rw [beq_self_eq_true]
  exact Ev.now _
end Go.Proofs.Ytclmdidgioggdaa.Pure
