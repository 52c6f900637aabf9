/- Headers out of bytes: the plain law. -/
import Derived.Test.YtdpkodhfelnedaaDoorRHParse
namespace Go.Proofs.YtdpkodhfelnedaaDoor.Cod
theorem inRaw_fine {n : Nat} {st : St} (h : fine st) : fine (inRaw n st).2 := by
  unfold inRaw
  split
  · exact h
  · split
    · exact fun _ => rfl
    · exact fun h => absurd rfl h
theorem inRaw_back {n : Nat} {st : St} (h : (inRaw n st).2.2 = 0) : st.2 = 0 ∧ (inRaw n st).1.length = n ∧ st.1 = (inRaw n st).1 ++ (inRaw n st).2.1 := by
  unfold inRaw at h ⊢
  by_cases h0 : st.2 = 0
  · rw [if_neg (by omega)] at h ⊢
    by_cases hl : st.1.length < n
    · rw [if_pos hl] at h; cases h
    · rw [if_neg hl] at h ⊢
      exact ⟨h0, by simp only [List.length_take]; omega, (List.take_append_drop n st.1).symm⟩
  · rw [if_pos h0] at h; exact absurd h h0
theorem rdI_fine {st : St} (h : fine st) (k : Nat) : fine (rdI k st).2 := by
  induction k with
  | zero => exact h
  | succ k ih => exact inRaw_fine ih
theorem rdI_back (st : St) (k : Nat) (h : (rdI k st).2.2 = 0) : st.2 = 0 ∧ (∀ x ∈ (rdI k st).1, x.length = 32) ∧ st.1 = (rdI k st).1.flatten ++ (rdI k st).2.1 := by
  induction k with
  | zero => exact ⟨h, fun x hx => by simp [rdI] at hx, by simp [rdI]⟩
  | succ k ih =>
    obtain ⟨h1, h2, h3⟩ := inRaw_back (show (inRaw 32 (rdI k st).2).2.2 = 0 from h)
    obtain ⟨h4, h5, h6⟩ := ih h1
    refine ⟨h4, fun x hx => ?_, ?_⟩
    · rw [rdI_succ] at hx
      rcases List.mem_append.1 hx with h7 | h7
      · exact h5 x h7
      · simp only [List.mem_singleton] at h7; rw [h7]; exact h2
    · rw [h6, rdI_succ]
      simp only [List.flatten_append, List.flatten_cons, List.flatten_nil, List.append_nil, List.append_assoc]
      rw [← h3]
theorem fine8 (l : List UInt8) : fine (p8 l).2 :=
  inNum_fine (rdI_fine (inNum_fine (inNum_fine (inNum_fine (inRaw_fine (inNum_fine (inNum_fine (inNum_fine (st := (l, 0)) (fun h => absurd rfl h)))))))) _)
section
attribute [local irreducible] inNum inRaw rdI hd
theorem d1 (l : List UInt8) : p1 l = inNum MOST (l, 0) := rfl
theorem d2 (l : List UInt8) : p2 l = inNum MOST (p1 l).2 := rfl
theorem d3 (l : List UInt8) : p3 l = inRaw (inNum (max 8 0) (p2 l).2).1 (inNum (max 8 0) (p2 l).2).2 := rfl
theorem d4 (l : List UInt8) : p4 l = inNum MOST (p3 l).2 := rfl
theorem d5 (l : List UInt8) : p5 l = inNum MOST (p4 l).2 := rfl
theorem d6 (l : List UInt8) : p6 l = inNum 5 (p5 l).2 := rfl
theorem d7 (l : List UInt8) : p7 l = rdI (p6 l).1 (p6 l).2 := rfl
theorem d8 (l : List UInt8) : p8 l = inNum MOST (p7 l).2 := rfl
theorem num_back {m : Int} {st : St} {y : Nat × St} (e : y = inNum m st) (h : y.2.2 = 0) : st.2 = 0 ∧ st.1 = numB y.1 ++ y.2.1 := by subst e; exact inNum_back h
theorem raw_back {n : Nat} {st : St} {y : List UInt8 × St} (e : y = inRaw n st) (h : y.2.2 = 0) : st.2 = 0 ∧ y.1.length = n ∧ st.1 = y.1 ++ y.2.1 := by subst e; exact inRaw_back h
theorem ids_back {n : Nat} {st : St} {y : List (List UInt8) × St} (e : y = rdI n st) (h : y.2.2 = 0) : st.2 = 0 ∧ (∀ x ∈ y.1, x.length = 32) ∧ st.1 = y.1.flatten ++ y.2.1 := by subst e; exact rdI_back st n h
theorem all_back (l : List UInt8) (h : (p8 l).2 = ([], 0)) : (∀ x ∈ (p7 l).1, x.length = 32) ∧ l = numB (p1 l).1 ++ (numB (p2 l).1 ++ (numB (p3 l).1.length ++ ((p3 l).1 ++ (numB (p4 l).1 ++ (numB (p5 l).1 ++ (numB (p6 l).1 ++ ((p7 l).1.flatten ++ numB (p8 l).1))))))) := by
  obtain ⟨a8, b8⟩ := num_back (d8 l) (by rw [h])
  obtain ⟨a7, c7, b7⟩ := ids_back (d7 l) a8
  obtain ⟨a6, b6⟩ := num_back (d6 l) a7
  obtain ⟨a5, b5⟩ := num_back (d5 l) a6
  obtain ⟨a4, b4⟩ := num_back (d4 l) a5
  obtain ⟨a3, c3, b3⟩ := raw_back (d3 l) a4
  obtain ⟨a2', b2'⟩ := num_back (m := max 8 0) (st := (p2 l).2) rfl a3
  obtain ⟨a2, b2⟩ := num_back (d2 l) a2'
  obtain ⟨_, b1⟩ := num_back (d1 l) a2
  refine ⟨c7, ?_⟩
  rw [h, List.append_nil] at b8
  rw [b8] at b7
  rw [b7] at b6
  rw [b6] at b5
  rw [b5] at b4
  rw [b4] at b3
  rw [← c3, b3] at b2'
  rw [b2'] at b2
  rw [b2] at b1
  exact b1
end
theorem pad_id (l : List (List UInt8)) (h : ∀ x ∈ l, x.length = 32) : l.map pad32 = l := by
  induction l with
  | nil => rfl
  | cons x l ih =>
    rw [List.map_cons, ih fun y hy => h y (by simp [hy])]
    have hx := h x (by simp)
    unfold pad32
    rw [if_neg (fun e => by rw [e] at hx; simp at hx)]
theorem hres_eq (l : List UInt8) : hres l = rhres l := by
  unfold hres rhres
  have hf := fine8 l
  rcases hq : (p8 l).2 with ⟨r, e⟩
  rw [hq] at hf
  simp only
  by_cases he : e = 0
  · subst he
    by_cases hr : r = []
    · subst hr
      have hp : hdrOf l = hdrR l := by unfold hdrOf hdrR; rw [pad_id _ (all_back l hq).1]
      rw [if_neg (show ¬ inEnd (([] : List UInt8), 0) ≠ 0 by simp [inEnd]), if_neg (show ¬ (0 : Nat) ≠ 0 by omega), if_neg (show ¬ ([] : List UInt8) ≠ [] by simp), hp]
    · have hi : inEnd (r, 0) = 3 := by unfold inEnd; rw [if_neg hr]
      rw [hi, if_pos (by omega), if_neg (show ¬ (0 : Nat) ≠ 0 by omega), if_pos hr]
      rfl
  · have hr : r = [] := hf he
    have hi : inEnd (r, e) = e := by unfold inEnd; rw [if_pos hr]
    rw [hi, if_pos he, if_pos he]
section
attribute [local irreducible] inNum inRaw rdI hd Hdr.chk hdrR p8
theorem hres_zero (l : List UInt8) (h : (hres l).2 = 0) : (hres l).1 = hdrR l ∧ (hdrR l).chk = 0 ∧ (p8 l).2 = ([], 0) := by
  rw [hres_eq] at h ⊢
  unfold rhres at h ⊢
  rcases hq : (p8 l).2 with ⟨r, e⟩
  rw [hq] at h
  simp only at h ⊢
  by_cases he : e = 0
  · subst he
    rw [if_neg (show ¬ (0 : Nat) ≠ 0 by omega)] at h ⊢
    by_cases hr : r = []
    · subst hr
      rw [if_neg (show ¬ ([] : List UInt8) ≠ [] by simp)] at h ⊢
      by_cases hc : (hdrR l).chk = 0
      · rw [if_neg (fun h => h hc)]; exact ⟨rfl, hc, rfl⟩
      · rw [if_pos hc] at h; exact absurd h hc
    · rw [if_pos hr] at h; cases h
  · rw [if_pos he] at h
    exact absurd (Int.ofNat.inj h) he
end
theorem hbytes_back (l : List UInt8) (h : (hres l).2 = 0) : (hres l).1.bytes = l := by
  obtain ⟨h1, h2, h3⟩ := hres_zero l h
  obtain ⟨h4, h5⟩ := all_back l h3
  rw [h1]
  have hn : (p7 l).1.length = (p6 l).1 := by rw [d7]; exact rdI_len _ _
  unfold Hdr.bytes Hdr.l hdrR
  simp only [Int.toNat_natCast, bl_S, S_size, hn, List.append_assoc]
  exact h5.symm
end Go.Proofs.YtdpkodhfelnedaaDoor.Cod
