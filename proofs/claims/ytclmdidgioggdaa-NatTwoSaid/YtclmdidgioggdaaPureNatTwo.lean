/- NatTwo: sums, products, differences and comparisons of two numbers are the reference's. No condition. -/
import Derived.Test.YtclmdidgioggdaaNatP
import Derived.Test.YtclmdidgioggdaaNatS
import Derived.Test.YtclmdidgioggdaaNatT
import Derived.Test.YtclmdidgioggdaaQx43
namespace Go.Proofs.Ytclmdidgioggdaa.Pure
open Go.RowKit Go.Proofs.YtclmdidgioggdaaW.PrintWords Go.Proofs.Ytclmdidgioggdaa.Q Go.Proofs.Ytclmdidgioggdaa.Num
theorem NatTwo_j (a b : Nat) (ha : (T a).length ≤ 100000) (na : (N a).length ≤ 100000) (p : List Int × Bool) (hp : p = if b ≤ a then (N (a - b), true) else ([], false)) :
    Ev (fun k => coxswainlaw03_NatTwo.j0 k (T a) (T b) p.2 false p.1) true := by
  by_cases h : b ≤ a
  · rw [if_pos h] at hp
    subst hp
    have l1 := T_len_le (show a - b ≤ a by omega)
    have l2 := N_len_le (show a - b ≤ a by omega)
    refine Ev.step (f := fun k => ((nat_Nat_Text.f k (N (a - b))).bind fun t667 => ((coxswainref03_Sub.f k (T a) (T b)).bind fun t668 => ((coxswainref03_Text.f k t668).bind fun t671 => (if t667.toList = t671.toList then (some true) else (some false)))))) (fun k => ?_) ?_
    · rw [coxswainlaw03_NatTwo.j0, if_neg Bool.false_ne_true, if_pos rfl]
    · refine Ev.bind (E_text _ (by omega) (by omega)) ?_
      refine Ev.bind (E_rsub a b h (by omega)) ?_
      refine Ev.bind (E_rtext _ (by omega)) ?_
      exact Ev.congr (fun k => if_pos rfl) (Ev.now _)
  · rw [if_neg h] at hp
    subst hp
    refine Ev.step (f := fun k => some true) (fun k => ?_) (Ev.now _)
    rw [coxswainlaw03_NatTwo.j0, if_neg Bool.false_ne_true, if_neg Bool.false_ne_true]
    have e : nat_Nat_Zero.f [] = some true := by
      have := E_zero 0
      rw [show N 0 = [] from Ds_zero _] at this
      exact this
    exact bsome e rfl
theorem NatTwo : coxswainlaw03_NatTwo.Pure := by
  intro a0 a1 h0 h1
  obtain ⟨n, hn⟩ : ∃ n, n = 60 := ⟨60, rfl⟩
  have hn80 : ((60 : Nat) : Int) = (n : Int) := by rw [hn]
  obtain ⟨a, ha, e1⟩ := E_lawof a0 (by omega) n (by omega)
  obtain ⟨b, hb, e2⟩ := E_lawof a1 (by omega) n (by omega)
  rw [← hn80] at e1 e2
  have na := T_len_N ha; have nb := T_len_N hb
  have np := T_len_N (T_mul_len ha hb)
  have ns := T_len_N (show a + b < 10 ^ (n + 1) by rw [Nat.pow_succ]; omega)
  clear ha hb
  have cm := E_cmp a b (by omega) (by omega)
  have cm2 := E_cmp b a (by omega) (by omega)
  have rc := E_rcmp a b (by omega) (by omega)
  have sb := E_sub a b (by omega) (by omega)
  obtain ⟨c, hc⟩ : ∃ c : Int, c = if a < b then (-1 : Int) else if b < a then 1 else 0 := ⟨_, rfl⟩
  have hc2 : (if b < a then (-1 : Int) else if a < b then 1 else 0) = wrap64 (-c) := by
    rw [hc]
    by_cases h1 : a < b
    · rw [if_neg (by omega), if_pos h1, if_pos h1, w64 (by omega) (by omega)]; rfl
    · rw [if_neg h1, if_neg h1]
      by_cases h2 : b < a
      · rw [if_pos h2, if_pos h2, w64 (by omega) (by omega)]
      · rw [if_neg h2, if_neg h2, w64 (by omega) (by omega)]; rfl
  rw [hc2] at cm2
  rw [← hc] at cm rc
  obtain ⟨p, hp⟩ : ∃ p : List Int × Bool, p = if b ≤ a then (N (a - b), true) else ([], false) := ⟨_, rfl⟩
  rw [← hp] at sb
  have hp2 : (p.2 != decide (c ≥ 0)) = false := by
    rw [hp, hc]
    by_cases h : b ≤ a
    · rw [if_pos h, if_neg (by omega)]
      by_cases h2 : b < a
      · rw [if_pos h2]; rfl
      · rw [if_neg h2]; rfl
    · rw [if_neg h, if_pos (by omega)]; rfl
  have last := NatTwo_j a b (by omega) (by omega) p hp
  refine Ev.rounds ?_
  unfold coxswainlaw03_NatTwo.f
  refine Ev.bind E_awake3 ?_
  refine Ev.congr (fun k => if_pos rfl) ?_
  refine Ev.bind e1 (Ev.bind e2 ?_)
  refine Ev.bind rc (Ev.bind sb ?_)
  refine Ev.bind (E_add a b (by omega) (by omega)) ?_
  refine Ev.bind (E_text _ (by omega) (by omega)) ?_
  refine Ev.bind (E_radd a b (by omega) (by omega)) ?_
  refine Ev.bind (E_rtext _ (by omega)) ?_
  refine Ev.congr (fun k => if_pos rfl) ?_
  refine Ev.bind (E_mul a b (by omega) (by omega)) ?_
  refine Ev.bind (E_text _ (by omega) (by omega)) ?_
  refine Ev.bind (E_rmul a b (by omega) (by omega)) ?_
  refine Ev.bind (E_rtext _ (by omega)) ?_
  refine Ev.congr (fun k => if_pos rfl) ?_
  refine Ev.bind cm ?_
  refine Ev.congr (fun k => if_pos rfl) ?_
  refine Ev.bind cm2 ?_
  refine Ev.congr (fun k => if_pos rfl) ?_
  rw [hp2]
  exact last
end Go.Proofs.Ytclmdidgioggdaa.Pure
