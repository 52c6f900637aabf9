/- The number at the head of bytes: the ways; states that may be. -/
import Derived.Test.YtdpkodhfelnedaaDoorInOps
namespace Go.Proofs.YtdpkodhfelnedaaDoor.Cod
theorem IsIn.at {b : Nat} {st : St} {w w' : World} (h : IsIn b st w) (e : w'.heap[b]? = w.heap[b]?) : IsIn b st w' := by
  obtain ⟨s, h1, h2⟩ := h
  exact ⟨s, e.trans h1, h2⟩
theorem hdM (m : Int) (l : List UInt8) : (∃ x k, hd l = (x, k, 0) ∧ (x : Int) ≤ m ∧ inNum m (l, 0) = (x, (l.drop k, 0)) ∧ k ≤ l.length ∧ x < 9223372036854775808 ∧ l = numB x ++ l.drop k) ∨ (∃ x k e, hd l = (x, k, e) ∧ e ≠ 0 ∧ inNum m (l, 0) = (0, ([], e))) ∨ (∃ x k, hd l = (x, k, 0) ∧ m < (x : Int) ∧ inNum m (l, 0) = (0, ([], 4))) := by
  obtain ⟨x, k, e⟩ : ∃ p : Nat × Nat × Nat, True := ⟨hd l, trivial⟩
  unfold inNum
  simp only [ne_eq, not_true_eq_false, if_false]
  rcases hh : hd l with ⟨x, k, e⟩
  by_cases he : e = 0
  · subst he
    obtain ⟨h1, h2, h3⟩ := hd_ok hh
    by_cases hm : m < (x : Int)
    · refine .inr (.inr ⟨x, k, rfl, hm, ?_⟩)
      simp [hm]
    · refine .inl ⟨x, k, rfl, by omega, ?_, ?_, h1, h3⟩
      · simp [hm]
      · have h4 := congrArg List.length h3
        rw [List.length_append, List.length_drop, ← h2] at h4
        omega
  · refine .inr (.inl ⟨x, k, e, rfl, he, ?_⟩)
    simp [he]
theorem inNum_err (m : Int) (l : List UInt8) (e : Nat) (he : e ≠ 0) : inNum m (l, e) = (0, (l, e)) := by unfold inNum; simp [he]
/-- states that may be: after an error nothing is left -/
def fine (st : St) : Prop := st.2 ≠ 0 → st.1 = []
theorem inNum_fine {m : Int} {st : St} (h : fine st) : fine (inNum m st).2 := by
  obtain ⟨l, e⟩ := st
  by_cases he : e = 0
  · subst he
    rcases hdM m l with ⟨x, k, _, _, h1, _⟩ | ⟨x, k, e, _, h0, h1⟩ | ⟨x, k, _, _, h1⟩
    · rw [h1]; exact fun h => absurd rfl h
    · rw [h1]; exact fun _ => rfl
    · rw [h1]; exact fun _ => rfl
  · rw [inNum_err m l e he]; exact h
theorem inNum_big {m : Int} (hm : 0 ≤ m) (st : St) : ((inNum m st).1 : Int) ≤ m := by
  obtain ⟨l, e⟩ := st
  by_cases he : e = 0
  · subst he
    rcases hdM m l with ⟨x, k, _, h0, h1, _⟩ | ⟨x, k, e, _, h0, h1⟩ | ⟨x, k, _, _, h1⟩
    · rw [h1]; exact h0
    · rw [h1]; exact hm
    · rw [h1]; exact hm
  · rw [inNum_err m l e he]; exact hm
theorem inNum_back {m : Int} {st : St} (h : (inNum m st).2.2 = 0) : st.2 = 0 ∧ st.1 = numB (inNum m st).1 ++ (inNum m st).2.1 := by
  obtain ⟨l, e⟩ := st
  by_cases he : e = 0
  · subst he
    rcases hdM m l with ⟨x, k, _, h0, h1, _, _, h2⟩ | ⟨x, k, e, _, h0, h1⟩ | ⟨x, k, _, _, h1⟩
    · rw [h1]; exact ⟨rfl, h2⟩
    · rw [h1] at h; exact absurd h h0
    · rw [h1] at h; cases h
  · rw [inNum_err m l e he] at h; exact absurd h he
end Go.Proofs.YtdpkodhfelnedaaDoor.Cod
