/- NatDivides: a number is the quotient times the divisor and the rest, and the rest is less than the divisor; Small tells a uint64 back. No condition. -/
import Derived.Test.YtclmdidgioggdaaNatP
import Derived.Test.YtclmdidgioggdaaNatS
import Derived.OpenShut
import Derived.Test.YtclmdidgioggdaaQx31
namespace Go.Proofs.Ytclmdidgioggdaa.Pure
open Go.RowKit Go.Proofs.YtclmdidgioggdaaW.PrintWords Go.Proofs.Ytclmdidgioggdaa.Q Go.Proofs.Ytclmdidgioggdaa.Num
theorem NatDivides_j (a d v : Nat) (ha : a < 10 ^ 100) (hd0 : 0 < d) (hd : d < 4294967296) (hv : v < 18446744073709551616) :
    Ev (fun k => coxswainlaw03_NatDivides.j0 k (d : Int) (v : Int) (N a)) true := by
  obtain ⟨n, hn⟩ : ∃ n, n = 100 := ⟨100, rfl⟩
  rw [← hn] at ha
  have na := (T_len_N ha).2
  have hle : a / d ≤ a := Nat.div_le_self _ _
  have hmul : a / d * d ≤ a := Nat.div_mul_le_self _ _
  have nq := (T_len_N (Nat.lt_of_le_of_lt hle ha)).2
  have nm := (T_len_N (Nat.lt_of_le_of_lt hmul ha)).2
  have hm : a % d < d := Nat.mod_lt _ hd0
  have big : ∀ x : Nat, x < 18446744073709551616 → (N x).length ≤ 2 := fun x h => (N_small_len x).2 h
  have b1 := big v hv
  have b2 := big d (by omega)
  have b3 := big (a % d) (by omega)
  refine Ev.step (f := fun k => coxswainlaw03_NatDivides.j0 (k + 1) (d : Int) (v : Int) (N a)) (fun k => rfl) ?_
  simp only [coxswainlaw03_NatDivides.j0]
  refine Ev.bind (E_div a d hd0 hd (by omega)) ?_
  refine Ev.bind (E_of v hv) ?_
  rw [E_small v (by omega), if_pos hv]
  refine Ev.bind (Ev.now _) ?_
  refine Ev.congr (fun k => if_pos rfl) ?_
  refine Ev.congr (fun k => if_pos (Int.ofNat_lt.2 hm)) ?_
  have e1 : IntKind.u64.wrap (d : Int) = (d : Int) := u64 (by omega) (by omega)
  have e2 : IntKind.u64.wrap ((a % d : Nat) : Int) = ((a % d : Nat) : Int) := u64 (by omega) (by omega)
  rw [e1, e2]
  refine Ev.bind (E_of d (by omega)) ?_
  refine Ev.bind (E_mul (a / d) d (by omega) (by omega)) ?_
  refine Ev.bind (E_of (a % d) (by omega)) ?_
  refine Ev.bind (E_add (a / d * d) (a % d) (by omega) (by omega)) ?_
  have e3 : a / d * d + a % d = a := by rw [Nat.mul_comm]; exact Nat.div_add_mod a d
  rw [e3]
  refine Ev.bind (E_cmp a a (by omega) (by omega)) ?_
  refine Ev.congr (fun k => if_pos (by rw [if_neg (by omega), if_neg (by omega)])) ?_
  refine Ev.congr (fun k => if_pos rfl) ?_
  rw [beq_self_eq_true]
  exact Ev.now _
theorem NatDivides : coxswainlaw03_NatDivides.Pure := by
  intro a0 a1 a2 h0 h1 h2
  have b1 : 0 ≤ a1 ∧ a1 ≤ 4294967295 := Go.bounds_u32 h1
  have b2 : 0 ≤ a2 ∧ a2 ≤ 18446744073709551615 := Go.bounds_u64 h2
  obtain ⟨d, rfl⟩ := Int.eq_ofNat_of_zero_le b1.1
  obtain ⟨v, rfl⟩ := Int.eq_ofNat_of_zero_le b2.1
  obtain ⟨a, ha, e1⟩ := E_lawof a0 (by omega) 100 (by omega)
  refine Ev.rounds ?_
  unfold coxswainlaw03_NatDivides.f
  refine Ev.bind E_awake3 ?_
  refine Ev.congr (fun k => if_pos rfl) ?_
  refine Ev.bind e1 ?_
  by_cases hd : d = 0
  · refine Ev.congr (fun k => if_pos (by omega)) ?_
    exact NatDivides_j a 1 v ha (by omega) (by omega) (by omega)
  · refine Ev.congr (fun k => if_neg (by omega)) ?_
    exact NatDivides_j a d v ha (by omega) (by omega) (by omega)
end Go.Proofs.Ytclmdidgioggdaa.Pure
