/- A header's bytes, parsed, are the header. -/
import Derived.Test.YtdpkodhfelnedaaDoorHLaw
namespace Go.Proofs.YtdpkodhfelnedaaDoor.Cod
section
attribute [local irreducible] hd
theorem inNum_numB (m : Int) (x : Nat) (hx : (x : Int) ≤ m) (h63 : x < 9223372036854775808) (r : List UInt8) : inNum m (numB x ++ r, 0) = (x, (r, 0)) := by
  have h := hd_numB h63 r
  unfold inNum
  simp only [h, ne_eq, not_true_eq_false, if_false]
  rw [if_neg (by omega), show (digs x).length + 1 = (numB x).length by rw [numB_len], List.drop_left]
theorem inRaw_app (t r : List UInt8) : inRaw t.length (t ++ r, 0) = (t, (r, 0)) := by
  unfold inRaw
  simp
end
theorem rdI_app (l : List (List UInt8)) (hl : ∀ x ∈ l, x.length = 32) (r : List UInt8) : ∀ k, k ≤ l.length → rdI k (l.flatten ++ r, 0) = (l.take k, ((l.drop k).flatten ++ r, 0)) := by
  intro k
  induction k with
  | zero => intro _; simp [rdI]
  | succ k ih =>
    intro hk
    have hlt : k < l.length := by omega
    rw [rdI_succ, ih (by omega)]
    have hd : l.drop k = l[k] :: l.drop (k + 1) := List.drop_eq_getElem_cons hlt
    have h32 := hl l[k] (List.getElem_mem hlt)
    have hr := inRaw_app l[k] ((l.drop (k + 1)).flatten ++ r)
    rw [h32] at hr
    simp only [hd, List.flatten_cons, List.append_assoc, hr, List.take_add_one, List.getElem?_eq_getElem hlt, Option.toList_some]
section
attribute [local irreducible] inNum inRaw rdI hd
theorem hdr_back (H : Hdr) (hc : H.chk = 0) (hp : ∀ x ∈ H.parents, x.length = 32) : rhres H.bytes = (H, 0) := by
  have h5 : ¬ 5 < H.parents.length := fun h => by unfold Hdr.chk at hc; rw [if_pos h] at hc; cases hc
  have hg : H.good = true := by
    cases e : H.good with
    | true => rfl
    | false => rw [chk_bad H h5 e] at hc; cases hc
  unfold Hdr.good at hg
  simp only [Bool.and_eq_true, decide_eq_true_eq, Bool.not_eq_true', decide_eq_false_iff_not] at hg
  obtain ⟨g1, g2, g3, g4, g5, g6, g7, g8, _⟩ := hg
  obtain ⟨hh, mi, ti, wi, po, D, sa⟩ := H
  simp only at *
  obtain ⟨l, hl⟩ : ∃ l, Hdr.bytes ⟨hh, mi, ti, wi, po, D, sa⟩ = l := ⟨_, rfl⟩
  have hL : l = numB hh.toNat ++ (numB mi.toNat ++ (numB ti.size ++ (bl ti ++ (numB wi.toNat ++ (numB po ++ (numB D.length ++ (D.flatten ++ (numB sa.toNat ++ [])))))))) := by
    rw [← hl]
    unfold Hdr.bytes Hdr.l
    simp only [List.append_assoc, List.append_nil]
  rw [hl]
  have q1 : p1 l = (hh.toNat, (numB mi.toNat ++ (numB ti.size ++ (bl ti ++ (numB wi.toNat ++ (numB po ++ (numB D.length ++ (D.flatten ++ (numB sa.toNat ++ []))))))), 0)) := by
    rw [d1, hL]; exact inNum_numB MOST _ (by unfold MOST; omega) (by omega) _
  have q2 : p2 l = (mi.toNat, (numB ti.size ++ (bl ti ++ (numB wi.toNat ++ (numB po ++ (numB D.length ++ (D.flatten ++ (numB sa.toNat ++ [])))))), 0)) := by
    rw [d2, q1]; exact inNum_numB MOST _ (by unfold MOST; omega) (by omega) _
  have q3 : p3 l = (bl ti, (numB wi.toNat ++ (numB po ++ (numB D.length ++ (D.flatten ++ (numB sa.toNat ++ [])))), 0)) := by
    rw [d3, q2, inNum_numB (max 8 0) ti.size (by omega) (by omega)]
    have := inRaw_app (bl ti) (numB wi.toNat ++ (numB po ++ (numB D.length ++ (D.flatten ++ (numB sa.toNat ++ [])))))
    rw [bl_len] at this
    exact this
  have q4 : p4 l = (wi.toNat, (numB po ++ (numB D.length ++ (D.flatten ++ (numB sa.toNat ++ []))), 0)) := by
    rw [d4, q3]; exact inNum_numB MOST _ (by unfold MOST; omega) (by omega) _
  have q5 : p5 l = (po, (numB D.length ++ (D.flatten ++ (numB sa.toNat ++ [])), 0)) := by
    rw [d5, q4]; exact inNum_numB MOST _ (by unfold MOST; omega) (by omega) _
  have q6 : p6 l = (D.length, (D.flatten ++ (numB sa.toNat ++ []), 0)) := by
    rw [d6, q5]; exact inNum_numB 5 _ (by omega) (by omega) _
  have q7 : p7 l = (D, (numB sa.toNat ++ [], 0)) := by
    rw [d7, q6]
    have := rdI_app D hp (numB sa.toNat ++ []) D.length (Nat.le_refl _)
    rw [List.take_length, List.drop_length] at this
    exact this
  have q8 : p8 l = (sa.toNat, ([], 0)) := by
    rw [d8, q7]; exact inNum_numB MOST _ (by unfold MOST; omega) (by omega) _
  have hH : hdrR l = ⟨hh, mi, ti, wi, po, D, sa⟩ := by
    unfold hdrR
    rw [q1, q2, q3, q4, q5, q7, q8]
    simp only [S_bl]
    rw [Int.toNat_of_nonneg (by omega), Int.toNat_of_nonneg (by omega), Int.toNat_of_nonneg (by omega), Int.toNat_of_nonneg (by omega)]
  unfold rhres
  rw [q8, hH]
  simp only
  rw [if_neg (show ¬ (0 : Nat) ≠ 0 by omega), if_neg (show ¬ ([] : List UInt8) ≠ [] by simp), if_neg (fun h => h hc)]
end
end Go.Proofs.YtdpkodhfelnedaaDoor.Cod
