/- Tables out of bytes: the plain law. -/
import Derived.Test.YtgkiehefneamcaaTabB
import Derived.Test.YtgkiehefneamcaaTabRC
namespace Go.Proofs.Ytgkiehefneamcaa.Cod
def M40 : Int := 1099511627776
def rd : Nat → St → List (Int × Int) × St
  | 0, st => ([], st)
  | k + 1, st => ((rd k st).1 ++ [(((inNum M40 (rd k st).2).1 : Int), ((inNum M40 (inNum M40 (rd k st).2).2).1 : Int))], (inNum M40 (inNum M40 (rd k st).2).2).2)
theorem hdM (m : Int) (l : List UInt8) : (∃ x k, hd l = (x, k, 0) ∧ (x : Int) ≤ m ∧ inNum m (l, 0) = (x, (l.drop k, 0)) ∧ k ≤ l.length ∧ x < 9223372036854775808 ∧ l = numB x ++ l.drop k) ∨ (∃ x k e, hd l = (x, k, e) ∧ e ≠ 0 ∧ inNum m (l, 0) = (0, ([], e))) ∨ (∃ x k, hd l = (x, k, 0) ∧ m < (x : Int) ∧ inNum m (l, 0) = (0, ([], 4))) := by
  obtain ⟨x, k, e⟩ : ∃ p : Nat × Nat × Nat, True := ⟨hd l, trivial⟩
  unfold inNum
  simp only [ne_eq, not_true_eq_false, if_false]
  rcases hh : hd l with ⟨x, k, e⟩
  by_cases he : e = 0
  · subst he
    obtain ⟨h1, h2, h3⟩ := hd_ok hh
    by_cases hm : m < (x : Int)
    · refine .inr (.inr ⟨x, k, rfl, hm, ?_⟩)
      simp [hm]
    · refine .inl ⟨x, k, rfl, by omega, ?_, ?_, h1, h3⟩
      · simp [hm]
      · have h4 := congrArg List.length h3
        rw [List.length_append, List.length_drop, ← h2] at h4
        omega
  · refine .inr (.inl ⟨x, k, e, rfl, he, ?_⟩)
    simp [he]
theorem inNum_err (m : Int) (l : List UInt8) (e : Nat) (he : e ≠ 0) : inNum m (l, e) = (0, (l, e)) := by unfold inNum; simp [he]
/-- states that may be: after an error nothing is left -/
def fine (st : St) : Prop := st.2 ≠ 0 → st.1 = []
theorem inNum_fine {m : Int} {st : St} (h : fine st) : fine (inNum m st).2 := by
  obtain ⟨l, e⟩ := st
  by_cases he : e = 0
  · subst he
    rcases hdM m l with ⟨x, k, _, _, h1, _⟩ | ⟨x, k, e, _, h0, h1⟩ | ⟨x, k, _, _, h1⟩
    · rw [h1]; exact fun h => absurd rfl h
    · rw [h1]; exact fun _ => rfl
    · rw [h1]; exact fun _ => rfl
  · rw [inNum_err m l e he]; exact h
theorem inNum_big {m : Int} (hm : 0 ≤ m) (st : St) : ((inNum m st).1 : Int) ≤ m := by
  obtain ⟨l, e⟩ := st
  by_cases he : e = 0
  · subst he
    rcases hdM m l with ⟨x, k, _, h0, h1, _⟩ | ⟨x, k, e, _, h0, h1⟩ | ⟨x, k, _, _, h1⟩
    · rw [h1]; exact h0
    · rw [h1]; exact hm
    · rw [h1]; exact hm
  · rw [inNum_err m l e he]; exact hm
theorem inNum_back {m : Int} {st : St} (h : (inNum m st).2.2 = 0) : st.2 = 0 ∧ st.1 = numB (inNum m st).1 ++ (inNum m st).2.1 := by
  obtain ⟨l, e⟩ := st
  by_cases he : e = 0
  · subst he
    rcases hdM m l with ⟨x, k, _, h0, h1, _, _, h2⟩ | ⟨x, k, e, _, h0, h1⟩ | ⟨x, k, _, _, h1⟩
    · rw [h1]; exact ⟨rfl, h2⟩
    · rw [h1] at h; exact absurd h h0
    · rw [h1] at h; cases h
  · rw [inNum_err m l e he] at h; exact absurd h he
theorem rd_fine {st : St} (h : fine st) (k : Nat) : fine (rd k st).2 := by
  induction k with
  | zero => exact h
  | succ k ih => exact inNum_fine (inNum_fine ih)
theorem rd_len (k : Nat) (st : St) : (rd k st).1.length = k := by
  induction k with
  | zero => rfl
  | succ k ih => simp [rd, ih]
theorem rd_in (k : Nat) (st : St) : ∀ p ∈ (rd k st).1, 0 ≤ p.1 ∧ p.1 ≤ 1099511627776 ∧ 0 ≤ p.2 ∧ p.2 ≤ 1099511627776 := by
  induction k with
  | zero => intro p hp; simp [rd] at hp
  | succ k ih =>
    intro p hp
    rcases List.mem_append.1 hp with h | h
    · exact ih p h
    · simp only [List.mem_singleton] at h
      subst h
      have h1 := inNum_big (m := M40) (by decide) (rd k st).2
      have h2 := inNum_big (m := M40) (by decide) (inNum M40 (rd k st).2).2
      unfold M40 at h1 h2 ⊢
      simp only
      omega
theorem rd_back (l : List UInt8) (k : Nat) (h : (rd k (l, 0)).2.2 = 0) : l = (rd k (l, 0)).1.flatMap pairB ++ (rd k (l, 0)).2.1 := by
  induction k with
  | zero => simp [rd]
  | succ k ih =>
    obtain ⟨h1, h2⟩ := inNum_back (show (inNum M40 (inNum M40 (rd k (l, 0)).2).2).2.2 = 0 from h)
    obtain ⟨h3, h4⟩ := inNum_back h1
    have h5 := ih h3
    simp only [rd, List.flatMap_append, List.flatMap_cons, List.flatMap_nil, List.append_nil, pairB, Int.toNat_natCast, List.append_assoc]
    rw [← h2, ← h4]
    exact h5
theorem rd_stick (st : St) (k m : Nat) (h : (rd k st).2.2 ≠ 0) (hm : k ≤ m) : (rd m st).2 = (rd k st).2 := by
  obtain ⟨d, rfl⟩ : ∃ d, m = k + d := ⟨m - k, by omega⟩
  induction d with
  | zero => rfl
  | succ d ih =>
    have h1 := ih (by omega)
    rw [← Nat.add_assoc]
    simp only [rd]
    rw [h1]
    generalize (rd k st).2 = s at h ⊢
    obtain ⟨l, e⟩ := s
    simp only at h ⊢
    rw [inNum_err _ _ _ h, inNum_err _ _ _ h]
/-- the half steps of the document -/
def half (st : St) : Nat → List (Int × Int) × St
  | 0 => ([], st)
  | i + 1 => (if i % 2 = 0 then (half st i).1 ++ [(((inNum M40 (half st i).2).1 : Int), 0)] else (half st i).1.dropLast ++ [(((half st i).1.getLast?.getD (0, 0)).1, ((inNum M40 (half st i).2).1 : Int))], (inNum M40 (half st i).2).2)
theorem half_succ (st : St) (i : Nat) : half st (i + 1) = (if i % 2 = 0 then (half st i).1 ++ [(((inNum M40 (half st i).2).1 : Int), 0)] else (half st i).1.dropLast ++ [(((half st i).1.getLast?.getD (0, 0)).1, ((inNum M40 (half st i).2).1 : Int))], (inNum M40 (half st i).2).2) := rfl
theorem half_odd {st : St} {k : Nat} (h : half st (2 * k) = rd k st) : half st (2 * k + 1) = ((rd k st).1 ++ [(((inNum M40 (rd k st).2).1 : Int), 0)], (inNum M40 (rd k st).2).2) := by
  rw [half_succ, h, if_pos (by omega)]
theorem half_even (st : St) (k : Nat) : half st (2 * k) = rd k st := by
  induction k with
  | zero => rfl
  | succ k ih =>
    have h1 := half_odd ih
    rw [show 2 * (k + 1) = 2 * k + 1 + 1 by omega, half_succ, h1, if_neg (by omega)]
    simp [rd]
theorem half_fine {st : St} (h : fine st) (i : Nat) : fine (half st i).2 := by
  induction i with
  | zero => exact h
  | succ i ih => exact inNum_fine ih
theorem half_stick (st : St) (i m : Nat) (h : (half st i).2.2 ≠ 0) (hm : i ≤ m) : (half st m).2 = (half st i).2 := by
  obtain ⟨d, rfl⟩ : ∃ d, m = i + d := ⟨m - i, by omega⟩
  induction d with
  | zero => rfl
  | succ d ih =>
    have h1 := ih (by omega)
    rw [← Nat.add_assoc]
    simp only [half]
    rw [h1]
    generalize (half st i).2 = s at h ⊢
    obtain ⟨l, e⟩ := s
    simp only at h ⊢
    rw [inNum_err _ _ _ h]
theorem rises_of_chk {x : List (Int × Int)} (h : chk x 1 = 0) : Rises 64 x := by
  have hok := chk_okE h
  have hl := chk_len h
  refine ⟨fun p hp => by have := hok p hp; omega, ?_⟩
  have hz := (chk_zero (least := 1) (by omega : ¬ 64 < x.length)).1 h
  have hstep : ∀ i (hi : i + 1 < x.length), x[i].1 < x[i + 1].1 := by
    intro i hi
    have := hz (i + 1) hi
    simp only [eok, Bool.and_eq_true, prevOf] at this
    rw [if_neg (by omega), Nat.add_sub_cancel, List.getElem?_eq_getElem (by omega)] at this
    simpa using this.2
  rw [List.pairwise_iff_getElem]
  intro i j hi hj hij
  induction j with
  | zero => omega
  | succ j ih =>
    have h1 := hstep j hj
    by_cases e : i = j
    · subst e; exact h1
    · have := ih (by omega) (by omega); omega
def tparse (l : List UInt8) : List Int × Int :=
  let n := inNum 64 (l, 0)
  let r := rd n.1 n.2
  if inEnd r.2 ≠ 0 then (zeros, (inEnd r.2 : Int)) else new r.1
def rparse (l : List UInt8) : List (Int × Int) × Int :=
  let n := inNum 64 (l, 0)
  let r := rd n.1 n.2
  if n.2.2 ≠ 0 then ([], (n.2.2 : Int)) else if r.2.2 ≠ 0 then ([], (r.2.2 : Int)) else if r.2.1 ≠ [] then ([], 3) else if newE r.1 ≠ 0 then ([], newE r.1) else (r.1, 0)
theorem new_cases (x : List (Int × Int)) : (newE x = 0 ∧ new x = (setAll zeros x, 0) ∧ Rises 64 x) ∨ (newE x ≠ 0 ∧ new x = (zeros, newE x)) := by
  by_cases h : chk x 1 = 0
  · by_cases hx : x = []
    · refine .inr ?_
      unfold newE new
      rw [if_neg (by omega), if_pos hx, if_pos h, if_pos hx]
      exact ⟨by omega, rfl⟩
    · refine .inl ⟨?_, new_rises (rises_of_chk h) hx, rises_of_chk h⟩
      unfold newE
      rw [if_neg (by omega), if_neg hx]
  · refine .inr ?_
    unfold newE new
    rw [if_pos h, if_neg h]
    exact ⟨h, rfl⟩
theorem inEnd_err {l : List UInt8} {e : Nat} (h : fine (l, e)) (he : e ≠ 0) : inEnd (l, e) = e := by
  have := h he
  simp only at this
  subst this
  rfl
/-- the two agree; what is parsed has just those bytes -/
theorem parse_law (l : List UInt8) : (tparse l).2 = (rparse l).2 ∧ Pows (tparse l).1 ∧ ents (tparse l).1 = (rparse l).1 ∧ isum (tparse l).1 = tsum (rparse l).1 ∧ Fair (rparse l).1 ∧ ((rparse l).2 = 0 → tb (ents (tparse l).1) = l) := by
  have hz : Pows zeros ∧ ents zeros = [] ∧ isum zeros = tsum [] ∧ Fair [] := ⟨zeros_pows, ents_zeros, by kernel_rfl, by simp, by simp⟩
  have hf0 : fine (l, 0) := fun h => absurd rfl h
  have hf1 := inNum_fine (m := 64) hf0
  unfold tparse rparse
  simp only
  rcases hn : inNum 64 (l, 0) with ⟨n, l1, e1⟩
  rw [hn] at hf1
  simp only at hf1 ⊢
  by_cases he1 : e1 = 0
  · subst he1
    have hb1 : l = numB n ++ l1 := by
      have := inNum_back (m := 64) (st := (l, 0)) (by rw [hn])
      rw [hn] at this
      exact this.2
    have hf2 := rd_fine hf1 n
    have hlen := rd_len n (l1, 0)
    have hbk := rd_back l1 n
    rcases hr : rd n (l1, 0) with ⟨x, l2, e2⟩
    rw [hr] at hf2 hlen hbk
    simp only at hf2 hlen hbk ⊢
    rw [if_neg (by omega : ¬ (0 : Nat) ≠ 0)]
    by_cases he2 : e2 = 0
    · subst he2
      rw [if_neg (by omega : ¬ (0 : Nat) ≠ 0)]
      by_cases hl2 : l2 = []
      · subst hl2
        have hi : inEnd (([] : List UInt8), 0) = 0 := rfl
        rw [hi, if_neg (by omega : ¬ (0 : Nat) ≠ 0), if_neg (by simp : ¬ ([] : List UInt8) ≠ [])]
        rcases new_cases x with ⟨h1, h2, h3⟩ | ⟨h1, h2⟩
        · rw [h2, if_neg (by omega)]
          refine ⟨rfl, rises_pows h3, ents_rises h3, sum_set (n := 64) (Nat.le_refl _) h3, h3.fair, fun _ => ?_⟩
          simp only
          rw [ents_rises h3]
          unfold tb
          have := hbk rfl
          rw [List.append_nil] at this
          rw [hlen, ← this, ← hb1]
        · rw [h2, if_pos h1]
          exact ⟨rfl, hz.1, hz.2.1, hz.2.2.1, hz.2.2.2, fun h => absurd h h1⟩
      · have hi : inEnd (l2, 0) = 3 := by unfold inEnd; rw [if_neg hl2]
        rw [hi, if_pos (by omega), if_pos hl2]
        exact ⟨rfl, hz.1, hz.2.1, hz.2.2.1, hz.2.2.2, fun h => by cases h⟩
    · rw [inEnd_err hf2 he2, if_pos he2, if_pos he2]
      exact ⟨rfl, hz.1, hz.2.1, hz.2.2.1, hz.2.2.2, fun h => absurd h (by simp only; omega)⟩
  · have hr : (rd n (l1, e1)).2 = (l1, e1) := rd_stick (l1, e1) 0 n he1 (by omega)
    rw [hr, inEnd_err hf1 he1, if_pos he1, if_pos he1]
    exact ⟨rfl, hz.1, hz.2.1, hz.2.2.1, hz.2.2.2, fun h => absurd h (by simp only; omega)⟩
end Go.Proofs.Ytgkiehefneamcaa.Cod
