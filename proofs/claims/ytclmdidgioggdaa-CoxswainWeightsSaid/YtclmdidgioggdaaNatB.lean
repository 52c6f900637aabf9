/- What the functions of nat come to, told by numbers: bits, a weight's logarithm. The conditions stand in each theorem. -/
import Derived.Test.YtclmdidgioggdaaNatA
import Derived.Lib.BitFns
import Derived.Test.YtclmdidgioggdaaQx28
import Derived.Test.YtclmdidgioggdaaQx3
import Derived.Test.YtclmdidgioggdaaQx4
import Derived.Test.YtclmdidgioggdaaQx7
namespace Go.Proofs.Ytclmdidgioggdaa.Num
open Go.RowKit Go.Proofs.YtclmdidgioggdaaW.PrintWords Go.Proofs.Ytclmdidgioggdaa.Q
def bl (a : Nat) : Nat := if a = 0 then 0 else Nat.log2 a + 1
theorem bl_zero : bl 0 = 0 := rfl
theorem bl_eq {a k : Nat} (h0 : 2 ^ k ≤ a) (h1 : a < 2 ^ (k + 1)) : bl a = k + 1 := by
  have hp : 0 < 2 ^ k := Nat.two_pow_pos k
  have ha : a ≠ 0 := by omega
  unfold bl
  rw [if_neg ha, (Nat.log2_eq_iff ha).2 ⟨h0, h1⟩]
theorem bl_spec {a : Nat} (ha : a ≠ 0) : 2 ^ (bl a - 1) ≤ a ∧ a < 2 ^ (bl a) ∧ 1 ≤ bl a := by
  unfold bl
  rw [if_neg ha]
  have := (Nat.log2_eq_iff ha).1 rfl
  exact ⟨by simpa using this.1, this.2, by omega⟩
theorem bl_le {a k : Nat} (h : a < 2 ^ k) : bl a ≤ k := by
  by_cases ha : a = 0
  · subst ha; simp [bl_zero]
  · have := bl_spec ha
    by_cases hk : bl a ≤ k
    · exact hk
    · exfalso
      have := Nat.pow_le_pow_right (show 0 < 2 by omega) (show k ≤ bl a - 1 by omega)
      omega
theorem bl_half (x : Nat) (h : x ≠ 0) : bl x = 1 + bl (x / 2) := by
  obtain ⟨s1, s2, s3⟩ := bl_spec h
  by_cases h1 : x = 1
  · subst h1
    rw [bl_eq (k := 0) (by simp) (by simp)]
    rfl
  · have h2 : x / 2 ≠ 0 := by omega
    have hb : 2 ≤ bl x := by
      by_cases hb : 2 ≤ bl x
      · exact hb
      · have : bl x = 1 := by omega
        rw [this] at s2
        omega
    obtain ⟨k, hk⟩ : ∃ k, bl x = k + 2 := ⟨bl x - 2, by omega⟩
    rw [hk] at s1 s2
    rw [hk, bl_eq (a := x / 2) (k := k)]
    · omega
    · have : 2 ^ (k + 2 - 1) = 2 * 2 ^ k := by rw [show k + 2 - 1 = k + 1 by omega, Nat.pow_succ]; omega
      omega
    · have : 2 ^ (k + 2) = 2 * 2 ^ (k + 1) := by rw [Nat.pow_succ]; omega
      omega
theorem bitLen_bl : ∀ x : Nat, x < 2 ^ 64 → Lib.bitLen x = bl x := by
  intro x
  induction x using Nat.strongRecOn with
  | _ x ih =>
    intro h
    by_cases h0 : x = 0
    · subst h0; rfl
    · rw [Lib.bitLen_half x h0 h, bl_half x h0, ih (x / 2) (by omega) (by omega)]
theorem bl_shift (j a : Nat) (h : 2 ^ j ≤ a) : bl a = j + bl (a / 2 ^ j) := by
  induction j generalizing a with
  | zero => simp
  | succ j ih =>
    have hp : 0 < 2 ^ j := Nat.two_pow_pos j
    have e : 2 ^ (j + 1) = 2 * 2 ^ j := by rw [Nat.pow_succ]; omega
    have ha : a ≠ 0 := by omega
    rw [bl_half a ha, ih (a / 2) (by omega), Nat.div_div_eq_div_mul, e]
    omega
theorem bits_form : ∀ a : Nat, a ≠ 0 → 0 < (N a).length ∧ bl a = 32 * ((N a).length - 1) + bl ((N a)[(N a).length - 1]?.getD 0).toNat := by
  intro a
  induction a using Nat.strongRecOn with
  | _ a ih =>
    intro ha
    have e := Ds_pos 4294967296 a (by omega) (by omega)
    by_cases hb : a < 4294967296
    · have e0 : a / 4294967296 = 0 := by omega
      have e1 : N a = [(a : Int)] := by
        show Ds 4294967296 a = _
        rw [e, e0, Ds_zero]
        simp
        omega
      rw [e1]
      simp
    · obtain ⟨i1, i2⟩ := ih (a / 4294967296) (by omega) (by omega)
      have e1 : N a = ((a % 4294967296 : Nat) : Int) :: N (a / 4294967296) := e
      rw [e1]
      refine ⟨by simp, ?_⟩
      rw [bl_shift 32 a (by omega), show a / 2 ^ 32 = a / 4294967296 from rfl, i2]
      obtain ⟨n, hn⟩ : ∃ n, (N (a / 4294967296)).length = n + 1 := ⟨_, (Nat.succ_pred_eq_of_pos i1).symm⟩
      simp only [List.length_cons, hn]
      simp
      omega
theorem E_bits (a : Nat) (ha : (N a).length ≤ 1099511627776) : nat_Nat_Bits.f (N a) = some (bl a : Int) := by
  unfold nat_Nat_Bits.f
  rw [E_zero]
  simp only [Option.bind_some]
  by_cases h : a = 0
  · subst h
    simp [bl_zero]
  · obtain ⟨p, q⟩ := bits_form a h
    have hi : (N a).length - 1 < (N a).length := by omega
    have hz := (DN_N a).get _ hi
    have hg : (N a)[(N a).length - 1]?.getD 0 = (N a)[(N a).length - 1] := by simp [hi]
    rw [hg] at q
    generalize hzv : (N a)[(N a).length - 1] = z at *
    rw [if_neg (by simp [h])]
    rw [show wrap64 (((N a).length : Int) - 1) = (((N a).length - 1 : Nat) : Int) from by rw [w64 (by omega) (by omega)]; omega]
    rw [if_pos (by omega), if_pos (by omega), rd_get _ _ hi, hzv]
    simp only [bits_Len32.f]
    rw [if_pos ⟨hz.1, by omega⟩, bitLen_bl _ (by omega)]
    simp only [Option.bind_some]
    have hbz : bl z.toNat ≤ 32 := bl_le (by omega)
    rw [show wrap64 (32 * (((N a).length - 1 : Nat) : Int)) = 32 * (((N a).length - 1 : Nat) : Int) from w64 (by omega) (by omega)]
    rw [w64 (by omega) (by omega), q]
    congr 1
/-- p^256's bits, less one -/
def lg (p : Nat) : Nat := bl (p ^ 256) - 1
theorem N_len_bits {a k : Nat} (h : a < 2 ^ (32 * k)) : (N a).length ≤ k := by
  refine N_len ?_
  have : ∀ k, PN k = ((2 ^ (32 * k) : Nat) : Int) := by
    intro k
    induction k with
    | zero => rfl
    | succ k ih =>
      rw [show PN (k + 1) = 4294967296 * PN k from rfl, ih, show 32 * (k + 1) = 32 * k + 32 by omega, Nat.pow_add]
      rw [Int.natCast_mul]
      have : ((2 ^ 32 : Nat) : Int) = 4294967296 := by rfl
      rw [this, Int.mul_comm]
  rw [this]
  exact Int.ofNat_lt.2 h
theorem pow_lt {p : Nat} (hp : p < 18446744073709551616) (j : Nat) : p ^ (2 ^ j) < 2 ^ (32 * (2 * 2 ^ j)) := by
  have h : p < 2 ^ 64 := hp
  have := Nat.pow_lt_pow_left h (show 2 ^ j ≠ 0 from Nat.ne_of_gt (Nat.two_pow_pos j))
  rw [← Nat.pow_mul] at this
  rw [show 32 * (2 * 2 ^ j) = 64 * 2 ^ j by omega]
  exact this
theorem E_log (p : Nat) (hp : p < 18446744073709551616) : Ev (fun k => gain_Log.f k (p : Int)) (lg p : Int) := by
  have main : ∀ (d j : Nat), 8 - j = d → j ≤ 8 → Ev (fun k => gain_Log.l0 k (j : Int) (N (p ^ (2 ^ j)))) (lg p : Int) := by
    intro d
    induction d with
    | zero =>
      intro j hd hj
      have h8 : 2 ^ j = 256 := by rw [show j = 8 by omega]
      have hb := N_len_bits (pow_lt hp j)
      have hl : bl (p ^ 2 ^ j) ≤ 32 * (2 * 2 ^ j) := bl_le (pow_lt hp j)
      have e : lg p = bl (p ^ 2 ^ j) - 1 := by unfold lg; rw [h8]
      refine Ev.step (f := fun _ => some (lg p : Int)) (fun k => ?_) (Ev.now _)
      simp only [gain_Log.l0]
      rw [if_neg (by omega), E_bits _ (by omega)]
      simp only [Option.bind_some]
      rw [w64 (by omega) (by omega), e]
      congr 1
      unfold mx
      split <;> omega
    | succ d ih =>
      intro j hd hj
      have hb := N_len_bits ((pow_lt hp j))
      have h2 : 2 ^ j ≤ 2 ^ 8 := Nat.pow_le_pow_right (by omega) hj
      have hm := E_mul (p ^ (2 ^ j)) (p ^ (2 ^ j)) (by omega) (by omega)
      have e : p ^ (2 ^ j) * p ^ (2 ^ j) = p ^ (2 ^ (j + 1)) := by rw [← Nat.pow_add, Nat.pow_succ]; congr 1; omega
      rw [e] at hm
      refine Ev.step (f := fun k => (nat_Nat_Mul.f k (N (p ^ (2 ^ j))) (N (p ^ (2 ^ j)))).bind fun t => gain_Log.l0 k ((j + 1 : Nat) : Int) t) (fun k => ?_) (Ev.bind hm (ih (j + 1) (by omega) (by omega)))
      simp only [gain_Log.l0]
      rw [if_pos (by omega), show wrap64 ((j : Int) + 1) = ((j + 1 : Nat) : Int) from by rw [w64 (by omega) (by omega)]; omega]
  have h := main 8 0 rfl (by omega)
  unfold gain_Log.f
  exact Ev.bind (E_of p hp) (by simpa using h)
theorem lg_le (p : Nat) (hp : p < 18446744073709551616) : lg p ≤ 16383 := by
  obtain ⟨j, hj⟩ : ∃ j, j = 8 := ⟨8, rfl⟩
  have h8 : 2 ^ j = 256 := by rw [hj]
  have := bl_le (pow_lt hp j)
  rw [h8] at this
  unfold lg
  omega
/-- what a tipset weighs more -/
def gn (p w : Nat) : Nat := lg p + lg p * w / 10
theorem E_gain (p : Nat) (hp : p < 18446744073709551616) (w : Int) (hw0 : -9223372036854775808 ≤ w) (hw1 : w ≤ 9223372036854775807) : Ev (fun k => gain_Of.f k (p : Int) w) (N (gn p w.toNat)) := by
  have hl := lg_le p hp
  have h1 := E_of (lg p) (by omega)
  have h2 := E_of w.toNat (by omega)
  have hwl : w.toNat < 2 ^ 64 := by omega
  have ll : lg p < 2 ^ 64 := by omega
  have n1 := N_len_bits (k := 2) ll
  have n2 := N_len_bits (k := 2) hwl
  have h3 := E_mul (lg p) w.toNat (by omega) (by omega)
  have pl : lg p * w.toNat < 2 ^ (32 * 4) := by
    have := Nat.mul_lt_mul'' ll hwl
    rw [← Nat.pow_add] at this
    exact this
  have n3 := N_len_bits (k := 4) pl
  have h4 := E_div (lg p * w.toNat) 10 (by omega) (by omega) (by omega)
  have ql : lg p * w.toNat / 10 < 2 ^ (32 * 4) := Nat.lt_of_le_of_lt (Nat.div_le_self _ _) pl
  have n4 := N_len_bits (k := 4) ql
  have h5 := E_add (lg p) (lg p * w.toNat / 10) (by omega) (by omega)
  unfold gain_Of.f
  refine Ev.bind (E_log p hp) ?_
  rw [show IntKind.u64.wrap (lg p : Int) = (lg p : Int) from u64 (by omega) (by omega)]
  refine Ev.bind h1 ?_
  have em : IntKind.u64.wrap (mx w 0) = ((w.toNat : Nat) : Int) := by
    rw [u64 (by unfold mx; split <;> omega) (by unfold mx; split <;> omega)]
    unfold mx
    split <;> omega
  rw [em]
  refine Ev.bind h2 ?_
  refine Ev.bind h3 ?_
  refine Ev.bind h4 ?_
  exact Ev.bind h5 (Ev.now _)
end Go.Proofs.Ytclmdidgioggdaa.Num
