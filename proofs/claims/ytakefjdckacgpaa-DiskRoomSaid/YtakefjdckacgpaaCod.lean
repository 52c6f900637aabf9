/- Numbers as bytes: what a codec's number is; plain Lean. -/
import Derived.Below
namespace Go.Proofs.Ytakefjdckacgpaa.Cod
/-- big-endian digits in base 256 -/
def digs (x : Nat) : List UInt8 := if _h : x = 0 then [] else digs (x / 256) ++ [UInt8.ofNat (x % 256)]
termination_by x
decreasing_by omega
def val (l : List UInt8) : Nat := l.foldl (fun a c => 256 * a + c.toNat) 0
def numB (x : Nat) : List UInt8 := UInt8.ofNat (digs x).length :: digs x
/-- the number at the head of bytes, how many it has, the error -/
def hd : List UInt8 → Nat × Nat × Nat
  | [] => (0, 0, 2)
  | n :: t => if 8 < n.toNat then (0, 0, 3) else if 0 < n.toNat ∧ t.head? = some 0 then (0, 0, 3) else if t.length < n.toNat then (0, 0, 2)
    else if n.toNat = 8 ∧ 128 ≤ (t.headD 0).toNat then (0, 0, 3) else (val (t.take n.toNat), n.toNat + 1, 0)
theorem hd_cons (n : UInt8) (t : List UInt8) : hd (n :: t) = if 8 < n.toNat then (0, 0, 3) else if 0 < n.toNat ∧ t.head? = some 0 then (0, 0, 3) else if t.length < n.toNat then (0, 0, 2)
    else if n.toNat = 8 ∧ 128 ≤ (t.headD 0).toNat then (0, 0, 3) else (val (t.take n.toNat), n.toNat + 1, 0) := rfl
theorem snoc_ind {α : Type} {P : List α → Prop} (h0 : P []) (h1 : ∀ l a, P l → P (l ++ [a])) (l : List α) : P l := by
  have h : ∀ m : List α, P m.reverse := by
    intro m
    induction m with
    | nil => exact h0
    | cons a m ih => rw [List.reverse_cons]; exact h1 _ _ ih
  have := h l.reverse
  rwa [List.reverse_reverse] at this
theorem digs_zero : digs 0 = [] := by rw [digs]; simp
theorem digs_pos {x : Nat} (h : 0 < x) : digs x = digs (x / 256) ++ [UInt8.ofNat (x % 256)] := by rw [digs, dif_neg (by omega)]
theorem val_snoc (l : List UInt8) (c : UInt8) : val (l ++ [c]) = 256 * val l + c.toNat := by unfold val; rw [List.foldl_append]; rfl
theorem val_nil : val [] = 0 := rfl
theorem toNat_ofNat (n : Nat) (h : n < 256) : (UInt8.ofNat n).toNat = n := by simp [UInt8.toNat_ofNat', Nat.mod_eq_of_lt h]
theorem val_digs (x : Nat) : val (digs x) = x := by
  induction x using Nat.strongRecOn with
  | _ x ih =>
    rcases Nat.eq_zero_or_pos x with h | h
    · subst h; rw [digs_zero]; rfl
    · rw [digs_pos h, val_snoc, ih _ (by omega), toNat_ofNat _ (by omega)]; omega
theorem digs_len_le (k : Nat) : ∀ x : Nat, x < 256 ^ k → (digs x).length ≤ k := by
  induction k with
  | zero => intro x h; obtain rfl : x = 0 := by simpa using h
            simp [digs_zero]
  | succ k ih =>
    intro x h
    rcases Nat.eq_zero_or_pos x with h0 | h0
    · subst h0; simp [digs_zero]
    · rw [digs_pos h0]
      have := ih (x / 256) (by rw [Nat.pow_succ] at h; omega)
      simp; omega
theorem val_lt (l : List UInt8) : val l < 256 ^ l.length := by
  induction l using snoc_ind with
  | h0 => simp [val]
  | h1 l c ih =>
    rw [val_snoc]; have := c.toNat_lt; simp [Nat.pow_succ]; omega
theorem val_cons (c : UInt8) (l : List UInt8) : val (c :: l) = c.toNat * 256 ^ l.length + val l := by
  induction l using snoc_ind with
  | h0 => simp [val]
  | h1 l d ih =>
    rw [← List.cons_append, val_snoc, val_snoc, ih]; simp [Nat.pow_succ, Nat.mul_add]
    have : 256 * (c.toNat * 256 ^ l.length) = c.toNat * (256 ^ l.length * 256) := by rw [Nat.mul_comm 256, Nat.mul_assoc]
    omega
theorem digs_head (x : Nat) : (digs x).head? ≠ some 0 := by
  induction x using Nat.strongRecOn with
  | _ x ih =>
    rcases Nat.eq_zero_or_pos x with h | h
    · subst h; simp [digs_zero]
    · rw [digs_pos h]
      rcases Nat.eq_zero_or_pos (x / 256) with k | k
      · rw [k, digs_zero]; simp
        intro e
        have e2 := congrArg UInt8.toNat e
        rw [toNat_ofNat _ (by omega)] at e2
        have : x % 256 = 0 := e2
        omega
      · have := ih (x / 256) (by omega)
        rw [List.head?_append]
        rcases hq : (digs (x / 256)).head? with _ | v
        · rw [digs_pos k] at hq; simp at hq
        · rw [hq] at this; simpa using this
/-- digits without a nought ahead are the digits of their value -/
theorem digs_val (l : List UInt8) (h : l.head? ≠ some 0) : digs (val l) = l := by
  induction l using snoc_ind with
  | h0 => simp [val, digs_zero]
  | h1 l c ih =>
    rw [val_snoc]
    have hc := c.toNat_lt
    by_cases e : l = []
    · subst e
      have hz : 0 < c.toNat := by
        rcases Nat.eq_zero_or_pos c.toNat with k | k
        · exfalso; apply h; simp; exact UInt8.toNat.inj k
        · exact k
      rw [val_nil, digs_pos (by omega)]
      rw [show (256 * 0 + c.toNat) / 256 = 0 by omega, digs_zero, show (256 * 0 + c.toNat) % 256 = c.toNat by omega]
      simp
    · have h' : l.head? ≠ some 0 := by
        intro k; apply h; rw [List.head?_append, k]; rfl
      have hp : 0 < val l := by
        rcases Nat.eq_zero_or_pos (val l) with k | k
        · have := ih h'; rw [k, digs_zero] at this; exact absurd this.symm e
        · exact k
      rw [digs_pos (by omega), show (256 * val l + c.toNat) / 256 = val l by omega, ih h', show (256 * val l + c.toNat) % 256 = c.toNat by omega]
      simp
theorem digs_len_8 {x : Nat} (h : x < 9223372036854775808) : (digs x).length ≤ 8 := digs_len_le 8 x (by omega)
theorem digs_top {x : Nat} (h : x < 9223372036854775808) (h8 : (digs x).length = 8) : ((digs x).headD 0).toNat < 128 := by
  have hv := val_digs x
  rcases hd : digs x with _ | ⟨c, l⟩
  · simp
  · rw [hd] at hv h8
    rw [val_cons] at hv
    have hl : l.length = 7 := by simpa using h8
    rw [hl] at hv
    simp only [List.headD_cons]
    omega
theorem hd_numB {x : Nat} (h : x < 9223372036854775808) (r : List UInt8) : hd (numB x ++ r) = (x, (digs x).length + 1, 0) := by
  have h8 := digs_len_8 h
  have hn : (UInt8.ofNat (digs x).length).toNat = (digs x).length := toNat_ofNat _ (by omega)
  unfold numB
  rw [List.cons_append, hd_cons]
  rw [hn, if_neg (by omega), if_neg, if_neg (by simp), if_neg]
  · rw [List.take_left', val_digs]; rfl
  · rintro ⟨k1, k2⟩
    have := digs_top h k1
    rcases hq : digs x with _ | ⟨c, l⟩
    · rw [hq] at k1; simp at k1
    · rw [hq] at k2 this; simp at k2 this; omega
  · rintro ⟨k1, k2⟩
    have := digs_head x
    rcases hq : digs x with _ | ⟨c, l⟩
    · rw [hq] at k1; simp at k1
    · rw [hq] at k2 this; simp at k2 this; exact this k2
theorem numB_len (x : Nat) : (numB x).length = (digs x).length + 1 := by simp [numB]
/-- what is read is what would be written -/
theorem hd_ok {l : List UInt8} {x k : Nat} (h : hd l = (x, k, 0)) : x < 9223372036854775808 ∧ k = (numB x).length ∧ l = numB x ++ l.drop k := by
  rcases l with _ | ⟨n, t⟩
  · simp [hd] at h
  · rw [hd_cons] at h
    split at h
    · simp at h
    · rename_i h1
      split at h
      · simp at h
      · rename_i h2
        split at h
        · simp at h
        · rename_i h3
          split at h
          · simp at h
          · rename_i h4
            simp only [Prod.mk.injEq] at h
            obtain ⟨e1, e2, _⟩ := h
            have hl : (t.take n.toNat).length = n.toNat := by rw [List.length_take]; omega
            have hdg : digs x = t.take n.toNat := by
              rw [← e1]; apply digs_val
              intro k
              apply h2
              rcases t with _ | ⟨c, t⟩
              · simp at k
              · refine ⟨?_, ?_⟩
                · rcases Nat.eq_zero_or_pos n.toNat with z | z
                  · rw [z] at k; simp at k
                  · exact z
                · rcases hz : n.toNat with _ | m
                  · rw [hz] at k; simp at k
                  · rw [hz] at k; simpa using k
            have hnum : numB x = n :: t.take n.toNat := by
              unfold numB
              rw [hdg, hl]; simp
            refine ⟨?_, ?_, ?_⟩
            · rcases Nat.lt_or_ge n.toNat 8 with h8 | h8
              · have := val_lt (t.take n.toNat)
                rw [hl, e1] at this
                have : 256 ^ n.toNat ≤ 256 ^ 7 := Nat.pow_le_pow_right (by omega) (by omega)
                omega
              · have h88 : n.toNat = 8 := by omega
                rcases t with _ | ⟨c, t⟩
                · simp at h3; omega
                · rw [h88] at e1 hl
                  simp only [List.take_succ_cons] at e1 hl
                  rw [val_cons] at e1
                  have := val_lt (t.take 7)
                  have hl7 : (t.take 7).length = 7 := by simpa using hl
                  rw [hl7] at this e1
                  have hc : c.toNat < 128 := by
                    rcases Nat.lt_or_ge c.toNat 128 with z | z
                    · exact z
                    · exact absurd ⟨h88, by simpa using z⟩ h4
                  omega
            · rw [hnum]; simp; omega
            · rw [hnum, ← e2]; simp
theorem numB_pre {x y : Nat} (hx : x < 9223372036854775808) (hy : y < 9223372036854775808) (r : List UInt8) (h : numB y = numB x ++ r) : x = y := by
  have h1 := hd_numB hx r
  rw [← h] at h1
  have h2 := hd_numB hy []
  rw [List.append_nil, h1] at h2
  simpa using congrArg Prod.fst h2
end Go.Proofs.Ytakefjdckacgpaa.Cod
