/- GainBounds: of a power of two the logarithm is whole, of twice a power it is 256 more, it rises; at every power and number. No condition. -/
import Derived.Test.YtclmdidgioggdaaAwake4
import Derived.OpenShut
import Derived.Test.YtclmdidgioggdaaQx15
namespace Go.Proofs.Ytclmdidgioggdaa.Num
theorem bl_mono {a b : Nat} (h : a ≤ b) : bl a ≤ bl b := by
  by_cases hb : b = 0
  · subst hb
    have : a = 0 := by omega
    subst this
    exact Nat.le_refl _
  · exact bl_le (Nat.lt_of_le_of_lt h (bl_spec hb).2.1)
theorem lg_mono {p q : Nat} (h : p ≤ q) : lg p ≤ lg q := by
  have := bl_mono (Nat.pow_le_pow_left h 256)
  unfold lg
  omega
theorem lg_two (j : Nat) : lg (2 ^ j) = 256 * j := by
  unfold lg
  rw [← Nat.pow_mul, bl_eq (k := j * 256) (Nat.le_refl _) (Nat.pow_lt_pow_right (by omega) (by omega))]
  omega
theorem lg_twice (p : Nat) (hp : 0 < p) : lg (2 * p) = lg p + 256 := by
  have hq : p ^ 256 ≠ 0 := Nat.ne_of_gt (Nat.pow_pos hp)
  obtain ⟨s1, s2, s3⟩ := bl_spec hq
  generalize hx : p ^ 256 = x at *
  obtain ⟨m, hm⟩ : ∃ m, bl x = m + 1 := ⟨bl x - 1, by omega⟩
  have : bl ((2 * p) ^ 256) = (256 + m) + 1 := by
    refine bl_eq ?_ ?_
    · rw [Nat.mul_pow, hx, Nat.pow_add]
      rw [hm] at s1
      exact Nat.mul_le_mul_left _ (by simpa using s1)
    · rw [Nat.mul_pow, hx, show 256 + m + 1 = 256 + (m + 1) by omega, Nat.pow_add]
      rw [hm] at s2
      exact Nat.mul_lt_mul_of_pos_left s2 (Nat.two_pow_pos 256)
  unfold lg
  rw [this, hx, hm]
  omega
end Go.Proofs.Ytclmdidgioggdaa.Num
namespace Go.Proofs.Ytclmdidgioggdaa.Pure
open Go.RowKit Go.Proofs.YtclmdidgioggdaaW.PrintWords Go.Proofs.Ytclmdidgioggdaa.Q Go.Proofs.Ytclmdidgioggdaa.Num
theorem GainBounds : coxswainlaw04_GainBounds.Pure := by
  intro a0 a1 h0 h1
  have b0 : 0 ≤ a0 ∧ a0 ≤ 18446744073709551615 := Go.bounds_u64 h0
  have b1 : -9223372036854775808 ≤ a1 ∧ a1 ≤ 9223372036854775807 := Go.bounds_i64 h1
  obtain ⟨p, rfl⟩ := Int.eq_ofNat_of_zero_le b0.1
  obtain ⟨j, hj, hjm⟩ : ∃ j : Nat, j ≤ 62 ∧ mx 0 (mn a1 62) = (j : Int) := ⟨(mx 0 (mn a1 62)).toNat, by unfold mx mn; (repeat' split) <;> omega, by unfold mx mn; (repeat' split) <;> omega⟩
  have h2 : 2 ^ j ≤ 2 ^ 62 := Nat.pow_le_pow_right (by omega) hj
  have e2 : (2 : Int) ^ j = ((2 ^ j : Nat) : Int) := by simp
  have ew : IntKind.u64.wrap (2 ^ j) = ((2 ^ j : Nat) : Int) := by rw [e2]; exact u64 (Int.natCast_nonneg _) (by have := Int.ofNat_le.2 h2; simp at this ⊢; omega)
  have es : shl .u64 1 (j : Int) = ((2 ^ j : Nat) : Int) := by
    unfold shl
    rw [show min (j : Int).toNat IntKind.u64.bits = j from by simp [IntKind.bits]; omega, Int.one_mul]
    exact ew
  have l1 := E_log (2 ^ j) (by omega)
  have l2 := E_log p (by omega)
  have bl1 := lg_le (2 ^ j) (by omega)
  have bl2 := lg_le p (by omega)
  -- what stands behind the tests
  have tail : Ev (fun k => coxswainlaw04_GainBounds.j0 k (p : Int) (j : Int) (lg (2 ^ j) : Int) (lg p : Int) false) true := by
    refine Ev.step (f := fun _ => some true) (fun k => ?_) (Ev.now _)
    simp only [coxswainlaw04_GainBounds.j0]
    rw [if_neg (by simp), if_pos (by omega), es]
    by_cases h : 2 ^ j < p
    · rw [if_pos (by omega)]
      have := lg_mono (Nat.le_of_lt h)
      congr 1
      refine decide_eq_true ?_
      unfold mx
      split <;> omega
    · rw [if_neg (by omega)]
      have := lg_mono (show p ≤ 2 ^ j by omega)
      congr 1
      exact decide_eq_true (by omega)
  refine Ev.rounds ?_
  unfold coxswainlaw04_GainBounds.f
  refine Ev.bind E_awake4 ?_
  rw [hjm, Int.toNat_natCast, ew]
  refine Ev.congr (fun k => if_pos rfl) ?_
  refine Ev.bind l1 (Ev.bind l2 ?_)
  have e256 : (lg (2 ^ j) : Int) = 256 * (j : Int) := by rw [lg_two]; omega
  refine Ev.congr (fun k => if_pos e256) ?_
  by_cases hp : p < 9223372036854775808
  · refine Ev.congr (fun k => if_pos (by omega)) ?_
    have l3 := E_log (2 * p) (by omega)
    have ew2 : IntKind.u64.wrap (2 * (p : Int)) = ((2 * p : Nat) : Int) := by rw [u64 (by omega) (by omega)]; omega
    rw [ew2]
    refine Ev.bind l3 ?_
    by_cases hz : p = 0
    · subst hz
      have z0 : lg 0 = 0 := by rw [show lg 0 = bl (0 ^ 256) - 1 from rfl, Nat.zero_pow (by omega), bl_zero]
      refine Ev.congr (fun k => if_neg (by simp [z0]; rw [w64 (by omega) (by omega)]; omega)) ?_
      have : decide (((0 : Nat) : Int) > 0) = false := by simp
      rw [this]
      exact tail
    · have := lg_twice p (by omega)
      refine Ev.congr (fun k => if_pos (by rw [w64 (by omega) (by omega)]; omega)) ?_
      exact tail
  · refine Ev.congr (fun k => if_neg (by omega)) ?_
    exact tail
end Go.Proofs.Ytclmdidgioggdaa.Pure
