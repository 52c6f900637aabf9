/- NatBits: a product has as many bits as both numbers together, or one less; a sum one more than the greater one at most. No condition. -/
import Derived.Test.YtclmdidgioggdaaNatP
import Derived.Test.YtclmdidgioggdaaQx21
namespace Go.Proofs.Ytclmdidgioggdaa.Num
theorem bl_mono' {a b : Nat} (h : a ≤ b) : bl a ≤ bl b := by
  by_cases hb : b = 0
  · subst hb
    have : a = 0 := by omega
    subst this
    exact Nat.le_refl _
  · exact bl_le (Nat.lt_of_le_of_lt h (bl_spec hb).2.1)
theorem bl_mul {x y : Nat} (hx : x ≠ 0) (hy : y ≠ 0) : bl (x * y) = bl x + bl y ∨ bl (x * y) + 1 = bl x + bl y := by
  obtain ⟨s1, s2, s3⟩ := bl_spec hx
  obtain ⟨t1, t2, t3⟩ := bl_spec hy
  obtain ⟨m, hm⟩ : ∃ m, bl x = m + 1 := ⟨bl x - 1, by omega⟩
  obtain ⟨n, hn⟩ : ∃ n, bl y = n + 1 := ⟨bl y - 1, by omega⟩
  rw [hm] at s1 s2 ⊢
  rw [hn] at t1 t2 ⊢
  simp only [Nat.add_sub_cancel] at s1 t1
  have lo : 2 ^ (m + n) ≤ x * y := by rw [Nat.pow_add]; exact Nat.mul_le_mul s1 t1
  have hi : x * y < 2 ^ (m + n + 2) := by
    rw [show m + n + 2 = (m + 1) + (n + 1) by omega, Nat.pow_add]
    exact Nat.mul_lt_mul'' s2 t2
  by_cases h : x * y < 2 ^ (m + n + 1)
  · right
    rw [bl_eq lo h]
    omega
  · left
    rw [bl_eq (k := m + n + 1) (by omega) hi]
    omega
theorem bl_add (x y : Nat) : bl (x + y) = max (bl x) (bl y) ∨ bl (x + y) = max (bl x) (bl y) + 1 := by
  have l1 := bl_mono' (show x ≤ x + y by omega)
  have l2 := bl_mono' (show y ≤ x + y by omega)
  have u : bl (x + y) ≤ max (bl x) (bl y) + 1 := by
    refine bl_le ?_
    have hx : x < 2 ^ max (bl x) (bl y) := by
      by_cases h : x = 0
      · subst h; exact Nat.two_pow_pos _
      · exact Nat.lt_of_lt_of_le (bl_spec h).2.1 (Nat.pow_le_pow_right (by omega) (by omega))
    have hy : y < 2 ^ max (bl x) (bl y) := by
      by_cases h : y = 0
      · subst h; exact Nat.two_pow_pos _
      · exact Nat.lt_of_lt_of_le (bl_spec h).2.1 (Nat.pow_le_pow_right (by omega) (by omega))
    rw [Nat.pow_succ]
    omega
  omega
end Go.Proofs.Ytclmdidgioggdaa.Num
namespace Go.Proofs.Ytclmdidgioggdaa.Pure
open Go.RowKit Go.Proofs.YtclmdidgioggdaaW.PrintWords Go.Proofs.Ytclmdidgioggdaa.Q Go.Proofs.Ytclmdidgioggdaa.Num
theorem bsome {α β : Type} {o : Option α} {a : α} {f : α → Option β} {r : Option β} (h : o = some a) (h2 : f a = r) : o.bind f = r := by
  subst h; exact h2
theorem NatBits_t (A B : List Int) (x y p s : Nat) (bx : nat_Nat_Bits.f A = some (x : Int)) (hB : nat_Nat_Bits.f B = some (y : Int))
    (hx : x < 1000000) (hy : y < 1000000) (hp : p = x + y ∨ p + 1 = x + y) (hs : s = max x y ∨ s = max x y + 1) :
    Ev (fun k => coxswainlaw03_NatBits.j0 k (p : Int) (s : Int) false A B) true := by
  refine Ev.step (f := fun _ => some true) (fun k => ?_) (Ev.now _)
  rw [coxswainlaw03_NatBits.j0]
  rw [if_neg Bool.false_ne_true]
  refine bsome bx (bsome hB (bsome bx (bsome hB ?_)))
  have sum : (if ((s : Nat) : Int) = mx (x : Int) (y : Int) then some true else some (((s : Nat) : Int) == wrap64 (mx (x : Int) (y : Int) + 1))) = some true := by
    rw [mx_nat, w64 (by omega) (by omega)]
    rcases hs with h | h
    · rw [if_pos (by omega)]
    · rw [if_neg (by omega)]
      congr 1
      rw [beq_iff_eq]
      omega
  have e1 : wrap64 ((x : Int) + (y : Int)) = (x : Int) + (y : Int) := w64 (by omega) (by omega)
  have e2 : wrap64 (wrap64 ((x : Int) + (y : Int)) - 1) = (x : Int) + (y : Int) - 1 := by rw [e1]; exact w64 (by omega) (by omega)
  rcases hp with h | h
  · exact (if_pos (by rw [e1]; omega)).trans sum
  · exact (if_neg (by rw [e1]; omega)).trans ((if_pos (by rw [e2]; omega)).trans sum)
theorem NatBits_z (A B : List Int) (x y p s : Nat) (bx : nat_Nat_Bits.f A = some (x : Int)) (hB : nat_Nat_Bits.f B = some (y : Int))
    (hp : p = 0) (hs : s = max x y) :
    Ev (fun k => coxswainlaw03_NatBits.j0 k (p : Int) (s : Int) true A B) true := by
  refine Ev.step (f := fun _ => some true) (fun k => ?_) (Ev.now _)
  rw [coxswainlaw03_NatBits.j0]
  rw [if_pos rfl, hp]
  refine (if_pos rfl).trans (bsome bx (bsome hB ?_))
  rw [mx_nat, hs, beq_self_eq_true]
theorem NatBits : coxswainlaw03_NatBits.Pure := by
  intro a0 a1 h0 h1
  obtain ⟨n, hn⟩ : ∃ n, n = 80 := ⟨80, rfl⟩
  have hn80 : ((80 : Nat) : Int) = (n : Int) := by rw [hn]
  obtain ⟨a, ha, e1⟩ := E_lawof a0 (by omega) n (by omega)
  obtain ⟨b, hb, e2⟩ := E_lawof a1 (by omega) n (by omega)
  rw [← hn80] at e1 e2
  have na := T_len_N ha; have nb := T_len_N hb
  have np := T_len_N (T_mul_len ha hb)
  have ns := T_len_N (show a + b < 10 ^ (n + 1) by rw [Nat.pow_succ]; omega)
  clear ha hb
  have em := E_mul a b (by omega) (by omega)
  have ea := E_add a b (by omega) (by omega)
  have ca := bl_len a
  have cb := bl_len b
  have hadd := bl_add a b
  have ba := E_bits a (by omega)
  have bb := E_bits b (by omega)
  have bp := E_bits (a * b) (by omega)
  have bs := E_bits (a + b) (by omega)
  refine Ev.rounds ?_
  unfold coxswainlaw03_NatBits.f
  refine Ev.bind E_awake3 ?_
  refine Ev.congr (fun k => if_pos rfl) ?_
  refine Ev.bind e1 (Ev.bind e2 ?_)
  refine Ev.bind em ?_
  rw [bp]
  refine Ev.bind (Ev.now _) ?_
  refine Ev.bind ea ?_
  rw [bs]
  refine Ev.bind (Ev.now _) ?_
  rw [E_zero, E_zero]
  refine Ev.bind (Ev.now _) ?_
  by_cases hz : a = 0
  · refine Ev.congr (fun k => if_pos (decide_eq_true hz)) (NatBits_z _ _ _ _ _ _ ba bb ?_ ?_)
    · rw [hz, Nat.zero_mul, bl_zero]
    · rw [hz, Nat.zero_add, bl_zero, Nat.zero_max]
  · refine Ev.congr (fun k => if_neg (by rw [decide_eq_true_eq]; exact hz)) ?_
    refine Ev.bind (Ev.now _) ?_
    by_cases hz2 : b = 0
    · rw [decide_eq_true hz2]
      refine NatBits_z _ _ _ _ _ _ ba bb ?_ ?_
      · rw [hz2, Nat.mul_zero, bl_zero]
      · rw [hz2, Nat.add_zero, bl_zero, Nat.max_zero]
    · rw [decide_eq_false hz2]
      have hmul := bl_mul hz hz2
      exact NatBits_t _ _ _ _ _ _ ba bb (by omega) (by omega) hmul hadd
end Go.Proofs.Ytclmdidgioggdaa.Pure
