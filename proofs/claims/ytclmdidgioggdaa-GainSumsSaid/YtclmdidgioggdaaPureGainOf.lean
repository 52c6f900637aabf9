/- GainOf: what a tipset weighs more is the document's, more wins weigh no less, and from a power of 2 on it is at least 256. No condition. -/
import Derived.Test.YtclmdidgioggdaaAwake4
import Derived.Test.YtclmdidgioggdaaRefL
import Derived.Test.YtclmdidgioggdaaNatT
import Derived.OpenShut
import Derived.Test.YtclmdidgioggdaaQx28
import Derived.Test.YtclmdidgioggdaaQx29
namespace Go.Proofs.Ytclmdidgioggdaa.Num
open Go.RowKit Go.Proofs.YtclmdidgioggdaaW.PrintWords Go.Proofs.Ytclmdidgioggdaa.Q
theorem E_heavier (a b : Nat) (ha : (N a).length ≤ 1099511627776) (hb : (N b).length ≤ 1099511627776) : Ev (fun k => gain_Heavier.f k (N a) (N b)) (decide (b < a)) := by
  unfold gain_Heavier.f
  refine Ev.bind (E_cmp a b ha hb) ?_
  have : decide ((if a < b then (-1 : Int) else if b < a then 1 else 0) > 0) = decide (b < a) := by
    by_cases h1 : a < b
    · rw [if_pos h1]
      simp
      omega
    · rw [if_neg h1]
      by_cases h2 : b < a
      · rw [if_pos h2]
        simp [h2]
      · rw [if_neg h2]
        simp [h2]
  rw [this]
  exact Ev.now _
end Go.Proofs.Ytclmdidgioggdaa.Num
namespace Go.Proofs.Ytclmdidgioggdaa.Pure
open Go.RowKit Go.Proofs.YtclmdidgioggdaaW.PrintWords Go.Proofs.Ytclmdidgioggdaa.Q Go.Proofs.Ytclmdidgioggdaa.Num
theorem GainOf : coxswainlaw04_GainOf.Pure := by
  intro a0 a1 h0 h1
  have b0 : 0 ≤ a0 ∧ a0 ≤ 18446744073709551615 := Go.bounds_u64 h0
  have b1 : -9223372036854775808 ≤ a1 ∧ a1 ≤ 9223372036854775807 := Go.bounds_i64 h1
  obtain ⟨p, rfl⟩ := Int.eq_ofNat_of_zero_le b0.1
  have hp : p < 18446744073709551616 := by omega
  obtain ⟨u, hu, hum⟩ : ∃ u : Nat, u ≤ 1099511627776 ∧ mn (mx a1 0) 1099511627776 = (u : Int) := ⟨(mn (mx a1 0) 1099511627776).toNat, by unfold mx mn; (repeat' split) <;> omega, by unfold mx mn; (repeat' split) <;> omega⟩
  have hl := lg_le p hp
  have small : ∀ w : Nat, w < 10 ^ 19 → gn p w < 10 ^ 24 := by
    intro w hw
    have h1 : lg p * w ≤ 16383 * 10 ^ 19 := Nat.mul_le_mul hl (Nat.le_of_lt hw)
    unfold gn
    omega
  have g1 := E_gain p hp a1 b1.1 b1.2
  have g2 := E_gain p hp ((u : Int) + 1) (by omega) (by omega)
  have g3 := E_gain p hp (u : Int) (by omega) (by omega)
  have s1 := T_len_N (small a1.toNat (by omega))
  have s2 := T_len_N (small ((u : Int) + 1).toNat (by omega))
  have s3 := T_len_N (small (u : Int).toNat (by omega))
  refine Ev.rounds ?_
  unfold coxswainlaw04_GainOf.f
  refine Ev.bind E_awake4 ?_
  refine Ev.congr (fun k => if_pos rfl) ?_
  rw [hum]
  refine Ev.bind g1 (Ev.bind g2 (Ev.bind g3 ?_))
  refine Ev.bind (E_text _ (by omega) (by omega)) ?_
  refine Ev.bind (E_rgain p hp a1 b1.1 b1.2) ?_
  refine Ev.bind (E_rtext _ (by omega)) ?_
  refine Ev.congr (fun k => if_pos rfl) ?_
  refine Ev.bind (E_heavier _ _ (by omega) (by omega)) ?_
  have hle : gn p (u : Int).toNat ≤ gn p ((u : Int) + 1).toNat := by
    unfold gn
    have : lg p * (u : Int).toNat ≤ lg p * ((u : Int) + 1).toNat := Nat.mul_le_mul_left _ (by omega)
    have := Nat.div_le_div_right (c := 10) this
    omega
  refine Ev.congr (fun k => if_neg (by rw [decide_eq_true_eq]; omega)) ?_
  by_cases h2 : p < 2
  · exact Ev.congr (fun k => if_pos (by omega)) (Ev.now _)
  · refine Ev.congr (fun k => if_neg (by omega)) ?_
    refine Ev.bind (E_of 256 (by omega)) ?_
    have l256 : 256 ≤ lg p := by
      have h3 : 2 ^ 256 ≤ p ^ 256 := Nat.pow_le_pow_left (by omega) 256
      have h4 := bl_shift 256 (p ^ 256) h3
      have h5 : p ^ 256 / 2 ^ 256 ≠ 0 := Nat.ne_of_gt (Nat.div_pos h3 (Nat.two_pow_pos 256))
      have h6 := (bl_spec h5).2.2
      unfold lg
      omega
    have s4 := T_len_N (show 256 < 10 ^ 3 by omega)
    refine Ev.bind (E_heavier 256 _ (by omega) (by omega)) ?_
    have : decide (gn p a1.toNat < 256) = false := decide_eq_false (by unfold gn; omega)
    rw [this]
    exact Ev.now _
end Go.Proofs.Ytclmdidgioggdaa.Pure
