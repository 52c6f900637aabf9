/- Tables: the plain law. -/
import Derived.Test.YtgkiehefneamcaaTabT
namespace Go.Proofs.Ytgkiehefneamcaa.Cod
theorem isum_set (T : List Int) (m : Nat) (h : m < T.length) (v : Int) : isum (T.set m v) = isum T - T.getD m 0 + v := by
  induction T generalizing m with
  | nil => exact absurd h (by simp)
  | cons x T ih =>
    cases m with
    | zero => simp [isum_cons]; omega
    | succ m =>
      have := ih m (by simpa using h)
      simp only [List.set_cons_succ, isum_cons, List.getD_cons_succ]
      omega
theorem getD_set (T : List Int) (m j : Nat) (v : Int) (h : m < T.length) : (T.set m v).getD j 0 = if j = m then v else T.getD j 0 := by
  simp only [List.getD_eq_getElem?_getD, List.getElem?_set]
  by_cases e : m = j
  · subst e; simp [h]
  · rw [if_neg e, if_neg (fun h => e h.symm)]
theorem Rises.left {n : Int} {x : List (Int × Int)} {p : Int × Int} (h : Rises n (x ++ [p])) : Rises p.1 x ∧ 0 ≤ p.1 ∧ p.1 < n ∧ 1 ≤ p.2 ∧ p.2 ≤ 1099511627776 := by
  have h0 := h.1 p (by simp)
  refine ⟨⟨fun q hq => ?_, (List.pairwise_append.1 h.2).1⟩, h0.1, h0.2.1, h0.2.2.1, h0.2.2.2⟩
  have h1 := h.1 q (by simp [hq])
  have h2 := (List.pairwise_append.1 h.2).2.2 q hq p (by simp)
  omega
theorem setAll_len (T : List Int) (x : List (Int × Int)) : (setAll T x).length = T.length := by
  induction x using snocI with
  | h0 => rfl
  | h1 x p ih => rw [setAll_snoc, List.length_set, ih]
theorem zeros_len : zeros.length = 64 := zeros_pows.1
theorem zeros_getD (j : Nat) : zeros.getD j 0 = 0 := by
  unfold zeros
  rw [List.getD_eq_getElem?_getD, List.getElem?_replicate]
  split <;> rfl
theorem set_high {x : List (Int × Int)} {n : Nat} (hn : n ≤ 64) (h : Rises n x) (j : Nat) (hj : n ≤ j) : (setAll zeros x).getD j 0 = 0 := by
  induction x using snocI generalizing n with
  | h0 => exact zeros_getD j
  | h1 x p ih =>
    obtain ⟨h1, h2, h3, _⟩ := h.left
    rw [setAll_snoc, getD_set _ _ _ _ (by rw [setAll_len, zeros_len]; omega), if_neg (by omega)]
    exact ih (n := p.1.toNat) (by omega) (by rwa [Int.toNat_of_nonneg h2]) (by omega)
theorem sum_set {x : List (Int × Int)} {n : Nat} (hn : n ≤ 64) (h : Rises n x) : isum (setAll zeros x) = tsum x := by
  induction x using snocI generalizing n with
  | h0 => kernel_rfl
  | h1 x p ih =>
    obtain ⟨h1, h2, h3, _⟩ := h.left
    have hr : Rises (p.1.toNat : Nat) x := by rwa [Int.toNat_of_nonneg h2]
    rw [setAll_snoc, isum_set _ _ (by rw [setAll_len, zeros_len]; omega), set_high (by omega) hr _ (Nat.le_refl _), tsum_snoc, ih (by omega) hr]
    omega
theorem mark_set (T a : List Int) (m : Nat) (hm : m < 64) (hT : T.length = 64) (v : Int) : mark (T.set m v) a = (mark T a).set m (if (m : Int) ∈ a then v else 0) := by
  apply List.ext_getElem?
  intro j
  by_cases hj : j < 64
  · rw [mark_get _ _ _ hj, List.getElem?_set, mark_get _ _ _ hj, getD_set _ _ _ _ (by omega)]
    by_cases e : m = j
    · subst e
      simp [mark_len, hm]
    · rw [if_neg (show ¬ j = m from fun h => e h.symm), if_neg e]
  · rw [List.getElem?_eq_none (by rw [mark_len]; omega), List.getElem?_eq_none (by rw [List.length_set, mark_len]; omega)]
theorem mark_getD (T a : List Int) (j : Nat) (hj : j < 64) : (mark T a).getD j 0 = if (j : Int) ∈ a then T.getD j 0 else 0 := by
  rw [List.getD_eq_getElem?_getD, mark_get _ _ _ hj]; rfl
theorem mark_zeros (a : List Int) : mark zeros a = zeros := by
  apply List.ext_getElem?
  intro j
  by_cases hj : j < 64
  · have h := zeros_getD j
    rw [List.getD_eq_getElem?_getD] at h
    rw [mark_get _ _ _ hj, zeros_getD, List.getElem?_eq_getElem (by rw [zeros_len]; exact hj)] 
    rw [List.getElem?_eq_getElem (by rw [zeros_len]; exact hj)] at h
    simp only [Option.getD_some] at h
    rw [h, ite_self]
  · rw [List.getElem?_eq_none (by rw [mark_len]; omega), List.getElem?_eq_none (by rw [zeros_len]; omega)]
theorem qsum_set {x : List (Int × Int)} {n : Nat} (hn : n ≤ 64) (h : Rises n x) (a : List Int) : isum (mark (setAll zeros x) a) = qsum x a := by
  induction x using snocI generalizing n with
  | h0 => rw [show setAll zeros [] = zeros from rfl, mark_zeros]; kernel_rfl
  | h1 x p ih =>
    obtain ⟨h1, h2, h3, _⟩ := h.left
    have hr : Rises (p.1.toNat : Nat) x := by rwa [Int.toNat_of_nonneg h2]
    have hp : p.1.toNat < 64 := by omega
    rw [setAll_snoc, mark_set _ _ _ hp (by rw [setAll_len, zeros_len]), isum_set _ _ (by rw [mark_len]; omega), mark_getD _ _ _ hp, set_high (by omega) hr _ (Nat.le_refl _), qsum_snoc, ih (by omega) hr, Int.toNat_of_nonneg h2]
    simp
theorem Rises.fair {x : List (Int × Int)} (h : Rises 64 x) : Fair x := ⟨by have := h.len (n := 64); omega, fun p hp => by have := h.1 p hp; omega⟩
theorem Rises.pos {x : List (Int × Int)} (h : Rises 64 x) (hx : x ≠ []) : 0 < tsum x := by
  induction x using snocI with
  | h0 => exact absurd rfl hx
  | h1 x p ih =>
    obtain ⟨h1, h2, h3, h4, _⟩ := h.left
    have h5 := (h1.mono (show p.1 ≤ 64 by omega)).fair.sum
    rw [tsum_snoc]
    omega
theorem new_rises {x : List (Int × Int)} (h : Rises 64 x) (hx : x ≠ []) : new x = (setAll zeros x, 0) := by
  have h1 := sum_set (n := 64) (Nat.le_refl _) h
  have h2 := h.pos hx
  unfold new
  rw [if_pos (h.chk (by omega)), if_neg hx]
  unfold chg
  rw [if_pos (h.chk (by omega)), if_neg (by omega)]
theorem rises_pows {x : List (Int × Int)} (h : Rises 64 x) : Pows (setAll zeros x) := setAll_pows zeros_pows fun p hp => by have := h.1 p hp; omega
theorem quo_rises {x : List (Int × Int)} (h : Rises 64 x) (a : List Int) : quo (setAll zeros x) a = decide (3 * qsum x a > 2 * tsum x) := by
  unfold quo
  rw [qsum_set (n := 64) (Nat.le_refl _) h, sum_set (n := 64) (Nat.le_refl _) h]
theorem quo_nil {x : List (Int × Int)} (h : Rises 64 x) : quo (setAll zeros x) [] = false := by
  rw [quo_rises h]
  have h0 : qsum x [] = 0 := by
    unfold qsum
    simp only [List.not_mem_nil, if_false]
    induction x using snocI with
    | h0 => rfl
    | h1 x p ih =>
      rw [List.map_append]
      have := ih (h.left.1.mono (by have := h.left.2.2.1; omega))
      rw [show List.map (fun _ => (0 : Int)) [p] = [0] from rfl, isum_snoc, this]
      rfl
  have := h.fair.sum
  rw [h0]
  exact decide_eq_false (by omega)
theorem qsum_all (x : List (Int × Int)) : qsum x (x.map (·.1)) = tsum x := by
  unfold qsum tsum
  congr 1
  apply List.map_congr_left
  intro p hp
  rw [if_pos (List.mem_map.2 ⟨p, hp, rfl⟩)]
theorem quo_all {x : List (Int × Int)} (h : Rises 64 x) (hx : x ≠ []) : quo (setAll zeros x) (x.map (·.1)) = true := by
  rw [quo_rises h, qsum_all]
  have := h.pos hx
  exact decide_eq_true (by omega)
theorem isum_map_le {α : Type} (l : List α) (f g : α → Int) (h : ∀ a ∈ l, f a ≤ g a) : isum (l.map f) ≤ isum (l.map g) := by
  induction l with
  | nil => exact Int.le_refl _
  | cons a l ih =>
    have h1 := h a (by simp)
    have h2 := ih fun b hb => h b (by simp [hb])
    simp only [List.map_cons, isum_cons]
    omega
theorem isum_map_add {α : Type} (l : List α) (f g : α → Int) : isum (l.map fun a => f a + g a) = isum (l.map f) + isum (l.map g) := by
  induction l with
  | nil => rfl
  | cons a l ih =>
    simp only [List.map_cons, isum_cons, ih]
    omega
theorem qsum_mono {x : List (Int × Int)} (h : Fair x) {a b : List Int} (hab : ∀ m ∈ a, m ∈ b) : qsum x a ≤ qsum x b := by
  refine isum_map_le x _ _ fun p hp => ?_
  have := h.2 p hp
  by_cases h1 : p.1 ∈ a
  · rw [if_pos h1, if_pos (hab _ h1)]; omega
  · rw [if_neg h1]; split <;> omega
theorem quo_mono {x : List (Int × Int)} (h : Rises 64 x) {a b : List Int} (hab : ∀ m ∈ a, m ∈ b) (hq : quo (setAll zeros x) a = true) : quo (setAll zeros x) b = true := by
  rw [quo_rises h] at hq ⊢
  have h1 := of_decide_eq_true hq
  have h2 := qsum_mono h.fair hab
  exact decide_eq_true (by omega)
theorem pw_pos {x : List (Int × Int)} {n : Nat} (hn : n ≤ 64) (h : Rises n x) {p : Int × Int} (hp : p ∈ x) : 0 < pw (setAll zeros x) p.1 := by
  induction x using snocI generalizing n with
  | h0 => cases hp
  | h1 x q ih =>
    obtain ⟨h1, h2, h3, h4, h5⟩ := h.left
    have hr : Rises (q.1.toNat : Nat) x := by rwa [Int.toNat_of_nonneg h2]
    have h6 := h.1 p hp
    unfold pw
    rw [if_pos (by omega), setAll_snoc, getD_set _ _ _ _ (by rw [setAll_len, zeros_len]; omega)]
    rcases List.mem_append.1 hp with h7 | h7
    · have h8 := h1.1 p h7
      have h9 := ih (by omega) hr h7
      rw [if_neg (by omega)]
      unfold pw at h9
      rwa [if_pos (by omega)] at h9
    · simp only [List.mem_singleton] at h7
      subst h7
      rw [if_pos rfl]; omega
/-- two quorums have a signer in common, who has power -/
theorem common {x : List (Int × Int)} (h : Rises 64 x) {a b : List Int} (ha : quo (setAll zeros x) a = true) (hb : quo (setAll zeros x) b = true) : ∃ m, m ∈ a ∧ m ∈ b ∧ 0 < pw (setAll zeros x) m := by
  apply Classical.byContradiction
  intro hno
  have hno' : ∀ p ∈ x, ¬ (p.1 ∈ a ∧ p.1 ∈ b) := fun p hp hab => hno ⟨p.1, hab.1, hab.2, pw_pos (n := 64) (Nat.le_refl _) h hp⟩
  rw [quo_rises h] at ha hb
  have h1 := of_decide_eq_true ha
  have h2 := of_decide_eq_true hb
  have h3 : qsum x a + qsum x b ≤ tsum x := by
    unfold qsum tsum
    rw [← isum_map_add]
    refine isum_map_le x _ _ fun p hp => ?_
    have h4 := hno' p hp
    have h5 := h.1 p hp
    by_cases h6 : p.1 ∈ a
    · rw [if_pos h6, if_neg (fun h7 => h4 ⟨h6, h7⟩)]; omega
    · rw [if_neg h6]; split <;> omega
  have h4 := h.fair.sum
  omega
end Go.Proofs.Ytgkiehefneamcaa.Cod
