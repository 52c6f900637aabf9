/- Right: the walk. -/
import Derived.Test.YtgkiehefneamcaaTabW
namespace Go.Proofs.Ytgkiehefneamcaa.Cod
open Go.RowKit
def lastLt (m : Int) (out : List (Int × Int)) : Bool := match out.getLast? with | none => true | some p => decide (p.1 < m)
def rstep (m : Int) (out : List (Int × Int)) (e : Int × Int) : List (Int × Int) := if e.1 % 64 = m ∧ lastLt m out = true then out ++ [(m, max 1 (min e.2 1099511627776))] else out
def rightN (l : List (Int × Int)) (n : Nat) : List (Int × Int) := (List.range n).foldl (fun out (m : Nat) => l.foldl (rstep m) out) []
theorem rightN_succ (l : List (Int × Int)) (n : Nat) : rightN l (n + 1) = l.foldl (rstep n) (rightN l n) := by simp [rightN, List.range_succ]
def right (l : List (Int × Int)) : List (Int × Int) := if rightN (l.take 66) 64 = [] then [(0, 1)] else rightN (l.take 66) 64
/-- rows as they rise -/
def Rises (n : Int) (o : List (Int × Int)) : Prop := (∀ p ∈ o, 0 ≤ p.1 ∧ p.1 < n ∧ 1 ≤ p.2 ∧ p.2 ≤ 1099511627776) ∧ o.Pairwise (fun p q => p.1 < q.1)
theorem Rises.mono {n m : Int} {o : List (Int × Int)} (h : Rises n o) (hm : n ≤ m) : Rises m o := ⟨fun p hp => by have := h.1 p hp; omega, h.2⟩
theorem Rises.last {n : Int} {o : List (Int × Int)} (h : Rises n o) {p q : Int × Int} (hl : o.getLast? = some q) (hp : p ∈ o) : p.1 ≤ q.1 := by
  obtain ⟨o', rfl⟩ : ∃ o', o = o' ++ [q] := List.getLast?_eq_some_iff.1 hl
  rcases List.mem_append.1 hp with h1 | h1
  · have := (List.pairwise_append.1 h.2).2.2 p h1 q (by simp)
    omega
  · simp only [List.mem_singleton] at h1; subst h1; omega
theorem Rises.step {m : Nat} {o : List (Int × Int)} (h : Rises (m + 1 : Nat) o) (e : Int × Int) : Rises (m + 1 : Nat) (rstep m o e) := by
  unfold rstep
  split
  · rename_i h1
    refine ⟨?_, ?_⟩
    · intro p hp
      rcases List.mem_append.1 hp with h2 | h2
      · exact h.1 p h2
      · simp only [List.mem_singleton] at h2; subst h2; simp only; omega
    · rw [List.pairwise_append]
      refine ⟨h.2, by simp, ?_⟩
      intro p hp q hq
      simp only [List.mem_singleton] at hq; subst hq
      simp only
      cases hl : o.getLast? with
      | none => rw [List.getLast?_eq_none_iff] at hl; subst hl; cases hp
      | some q =>
        have h2 := h1.2
        unfold lastLt at h2
        rw [hl] at h2
        simp only [decide_eq_true_eq] at h2
        have := h.last hl hp
        omega
  · exact h
theorem Rises.steps {m : Nat} (l : List (Int × Int)) : ∀ {o : List (Int × Int)}, Rises (m + 1 : Nat) o → Rises (m + 1 : Nat) (l.foldl (rstep m) o) := by
  induction l with
  | nil => intro o h; exact h
  | cons e l ih => intro o h; exact ih (h.step e)
theorem rises_rightN (l : List (Int × Int)) (n : Nat) : Rises n (rightN l n) := by
  induction n with
  | zero => exact ⟨by simp [rightN], by simp [rightN]⟩
  | succ n ih => rw [rightN_succ]; exact Rises.steps l (ih.mono (by omega))
theorem rises_right (l : List (Int × Int)) : Rises 64 (right l) := by
  unfold right
  split
  · exact ⟨by simp, by simp⟩
  · exact rises_rightN _ 64
theorem right_ne (l : List (Int × Int)) : right l ≠ [] := by
  unfold right
  split
  · simp
  · rename_i h; exact h
theorem Rises.ge {n : Int} {o : List (Int × Int)} (h : Rises n o) : ∀ (i : Nat) (hi : i < o.length), (i : Int) ≤ o[i].1 := by
  intro i
  induction i with
  | zero => intro hi; exact (h.1 _ (List.getElem_mem hi)).1
  | succ i ih =>
    intro hi
    have h1 := ih (by omega)
    have h2 := List.pairwise_iff_getElem.1 h.2 i (i + 1) (by omega) hi (by omega)
    omega
theorem Rises.len {n : Nat} {o : List (Int × Int)} (h : Rises n o) : o.length ≤ n := by
  rcases Nat.eq_zero_or_pos o.length with h0 | h0
  · omega
  · have h1 := h.ge (o.length - 1) (by omega)
    have h2 := (h.1 _ (List.getElem_mem (show o.length - 1 < o.length by omega))).2.1
    omega
theorem Rises.chk {o : List (Int × Int)} (h : Rises 64 o) {least : Int} (hl : least ≤ 1) : chk o least = 0 := by
  have h64 : ¬ 64 < o.length := by have := h.len (n := 64); omega
  refine (chk_zero h64).2 ?_
  intro k hk
  have h1 := h.1 _ (List.getElem_mem hk)
  unfold eok
  simp only [Bool.and_eq_true, decide_eq_true_eq]
  refine ⟨by omega, ?_⟩
  unfold prevOf
  by_cases k0 : k = 0
  · rw [if_pos k0]
  · rw [if_neg k0, List.getElem?_eq_getElem (by omega)]
    have h2 := List.pairwise_iff_getElem.1 h.2 (k - 1) k (by omega) hk (by omega)
    simpa using h2
end Go.Proofs.Ytgkiehefneamcaa.Cod
