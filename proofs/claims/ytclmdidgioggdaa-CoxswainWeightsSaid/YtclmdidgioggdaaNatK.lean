/- Contracts of nat's functions by what they mean, with a bound on the digits: for walks with many calls. -/
import Derived.Test.YtclmdidgioggdaaSame
namespace Go.Proofs.Ytclmdidgioggdaa.Num
open Go.RowKit Go.Proofs.YtclmdidgioggdaaW.PrintWords Go.Proofs.Ytclmdidgioggdaa.Q
/-- v is a number's row: a, which has at most k digits -/
def IsK (w : World) (v : Value) (a k : Nat) : Prop := IsN w v a ∧ a < 10 ^ k
theorem IsK.below {w w1 : World} {v : Value} {a k : Nat} (h : IsK w v a k) (hb : Below w.heap.size w w1) : IsK w1 v a k := ⟨h.1.below hb, h.2⟩
theorem IsK.len {w : World} {v : Value} {a k : Nat} (h : IsK w v a k) : (T a).length ≤ k ∧ (N a).length ≤ k := T_len_N h.2
theorem K_add {w : World} {u v : Value} {a b k l : Nat} (ha : IsK w u a k) (hb : IsK w v b l) (hk : k ≤ 1000) (hl : l ≤ 1000) :
    Calls Try.prog 23 #[.agg #[u], .agg #[v]] w fun e w' => ∃ x, e = .returned (.agg #[x]) ∧ IsK w' x (a + b) (k + l + 1) ∧ Below w.heap.size w w' := by
  have h1 := ha.len; have h2 := hb.len
  refine (C_add ha.1 hb.1 (by omega) (by omega)).mono fun e w' ⟨x, he, hx, hw⟩ => ⟨x, he, ⟨hx, ?_⟩, hw⟩
  have e1 : 10 ^ k ≤ 10 ^ (k + l) := Nat.pow_le_pow_right (by omega) (by omega)
  have e2 : 10 ^ l ≤ 10 ^ (k + l) := Nat.pow_le_pow_right (by omega) (by omega)
  have := ha.2; have := hb.2
  rw [Nat.pow_succ]
  omega
theorem K_mul {w : World} {u v : Value} {a b k l : Nat} (ha : IsK w u a k) (hb : IsK w v b l) (hk : k ≤ 1000) (hl : l ≤ 1000) :
    Calls Try.prog 21 #[.agg #[u], .agg #[v]] w fun e w' => ∃ x, e = .returned (.agg #[x]) ∧ IsK w' x (a * b) (k + l) ∧ Below w.heap.size w w' := by
  have h1 := ha.len; have h2 := hb.len
  refine (C_mul ha.1 hb.1 (by omega) (by omega)).mono fun e w' ⟨x, he, hx, hw⟩ => ⟨x, he, ⟨hx, T_mul_len ha.2 hb.2⟩, hw⟩
theorem K_sub {w : World} {u v : Value} {a b k l : Nat} (ha : IsK w u a k) (hb : IsK w v b l) (hk : k ≤ 1000) (hl : l ≤ 1000) (hle : b ≤ a) :
    Calls Try.prog 42 #[.agg #[u], .agg #[v]] w fun e w' => ∃ x, e = .returned (.tuple #[.agg #[x], .bool true]) ∧ IsK w' x (a - b) k ∧ Below w.heap.size w w' := by
  have h1 := ha.len; have h2 := hb.len
  refine (C_sub ha.1 hb.1 (by omega) (by omega) hle).mono fun e w' ⟨x, he, hx, hw⟩ => ⟨x, he, ⟨hx, Nat.lt_of_le_of_lt (Nat.sub_le _ _) ha.2⟩, hw⟩
theorem K_one (w : World) :
    Calls Try.prog 30 #[.int .u64 1] w fun e w' => ∃ x, e = .returned (.agg #[x]) ∧ IsK w' x 1 1 ∧ Below w.heap.size w w' := by
  exact (C_of w 1 (by omega)).mono fun e w' ⟨x, he, hx, hw⟩ => ⟨x, he, ⟨hx, by omega⟩, hw⟩
theorem K_zero {w : World} {u : Value} {a k : Nat} (ha : IsK w u a k) (h0 : a = 0) :
    Calls Try.prog 24 #[.agg #[u]] w fun e w' => e = .returned (.bool true) ∧ Below w.heap.size w w' := by
  have := C_zero ha.1
  rw [decide_eq_true h0] at this
  exact this
theorem K_nil (w : World) : IsK w (.slice none 0 0) 0 1 := ⟨IsN.nil w, by omega⟩
theorem K_same {w : World} {u v : Value} {a b k l : Nat} (ha : IsK w u a k) (hb : IsK w v b l) (hk : k ≤ 1000) (h : b = a) :
    Calls Try.prog 49 #[.agg #[u], .agg #[v]] w fun e w' => e = .returned (.bool true) ∧ Below w.heap.size w w' := by
  subst h
  have h1 := ha.len
  exact C_same ha.1 hb.1 (by omega) (by omega)
end Go.Proofs.Ytclmdidgioggdaa.Num
