/- GainProducts: the logarithm of a product is the sum of both, or one more; at every two numbers. No condition. -/
import Derived.Test.YtclmdidgioggdaaAwake4
import Derived.OpenShut
import Derived.Test.YtclmdidgioggdaaQx16
namespace Go.Proofs.Ytclmdidgioggdaa.Num
theorem lg_mul (p q : Nat) (hp : 0 < p) (hq : 0 < q) : lg (p * q) = lg p + lg q ∨ lg (p * q) = lg p + lg q + 1 := by
  have hp' : p ^ 256 ≠ 0 := Nat.ne_of_gt (Nat.pow_pos hp)
  have hq' : q ^ 256 ≠ 0 := Nat.ne_of_gt (Nat.pow_pos hq)
  obtain ⟨s1, s2, s3⟩ := bl_spec hp'
  obtain ⟨t1, t2, t3⟩ := bl_spec hq'
  unfold lg
  rw [Nat.mul_pow]
  generalize p ^ 256 = x at *
  generalize q ^ 256 = y at *
  obtain ⟨m, hm⟩ : ∃ m, bl x = m + 1 := ⟨bl x - 1, by omega⟩
  obtain ⟨n, hn⟩ : ∃ n, bl y = n + 1 := ⟨bl y - 1, by omega⟩
  rw [hm] at s1 s2 ⊢
  rw [hn] at t1 t2 ⊢
  simp only [Nat.add_sub_cancel] at s1 t1 ⊢
  have lo : 2 ^ (m + n) ≤ x * y := by rw [Nat.pow_add]; exact Nat.mul_le_mul s1 t1
  have hi : x * y < 2 ^ (m + n + 2) := by
    rw [show m + n + 2 = (m + 1) + (n + 1) by omega, Nat.pow_add]
    exact Nat.mul_lt_mul'' s2 t2
  by_cases h : x * y < 2 ^ (m + n + 1)
  · left
    rw [bl_eq lo h]
    omega
  · right
    rw [bl_eq (k := m + n + 1) (by omega) hi]
    omega
end Go.Proofs.Ytclmdidgioggdaa.Num
namespace Go.Proofs.Ytclmdidgioggdaa.Pure
open Go.RowKit Go.Proofs.YtclmdidgioggdaaW.PrintWords Go.Proofs.Ytclmdidgioggdaa.Q Go.Proofs.Ytclmdidgioggdaa.Num
theorem GainProducts : coxswainlaw04_GainProducts.Pure := by
  intro a0 a1 h0 h1
  have b0 : 0 ≤ a0 ∧ a0 ≤ 4294967295 := Go.bounds_u32 h0
  have b1 : 0 ≤ a1 ∧ a1 ≤ 4294967295 := Go.bounds_u32 h1
  obtain ⟨p, rfl⟩ := Int.eq_ofNat_of_zero_le b0.1
  obtain ⟨q, rfl⟩ := Int.eq_ofNat_of_zero_le b1.1
  have hm : p * q ≤ 4294967295 * 4294967295 := Nat.mul_le_mul (by omega) (by omega)
  have l1 := E_log p (by omega)
  have l2 := E_log q (by omega)
  have l3 := E_log (p * q) (by omega)
  have c1 := lg_le p (by omega)
  have c2 := lg_le q (by omega)
  have c3 := lg_le (p * q) (by omega)
  have w1 : IntKind.u64.wrap (p : Int) = (p : Int) := u64 (by omega) (by omega)
  have w2 : IntKind.u64.wrap (q : Int) = (q : Int) := u64 (by omega) (by omega)
  have w3 : IntKind.u64.wrap ((p : Int) * (q : Int)) = ((p * q : Nat) : Int) := by rw [← Int.natCast_mul]; exact u64 (Int.natCast_nonneg _) (by omega)
  refine Ev.rounds ?_
  unfold coxswainlaw04_GainProducts.f
  refine Ev.bind E_awake4 ?_
  rw [w1, w2, w3]
  refine Ev.congr (fun k => if_pos rfl) ?_
  refine Ev.bind l1 (Ev.bind l2 ?_)
  by_cases hz : p * q = 0
  · refine Ev.congr (fun k => if_pos (by omega)) ?_
    refine Ev.bind l3 ?_
    have z0 : lg 0 = 0 := by rw [show lg 0 = bl (0 ^ 256) - 1 from rfl, Nat.zero_pow (by omega), bl_zero]
    rw [hz, z0]
    exact Ev.now _
  · refine Ev.congr (fun k => if_neg (by omega)) ?_
    refine Ev.bind l3 ?_
    have hp : 0 < p := Nat.pos_of_ne_zero (fun e => hz (by rw [e, Nat.zero_mul]))
    have hq : 0 < q := Nat.pos_of_ne_zero (fun e => hz (by rw [e, Nat.mul_zero]))
    rw [w64 (by omega) (by omega)]
    rcases lg_mul p q hp hq with h | h
    · refine Ev.congr (fun k => if_pos (by omega)) (Ev.now _)
    · refine Ev.congr (fun k => if_neg (by omega)) ?_
      refine Ev.bind l3 ?_
      have : ((lg (p * q) : Int) == wrap64 ((lg p : Int) + (lg q : Int) + 1)) = true := by
        rw [w64 (by omega) (by omega), beq_iff_eq]
        omega
      rw [this]
      exact Ev.now _
end Go.Proofs.Ytclmdidgioggdaa.Pure
