/- ref05.Check: the walk (printed by gen/rhc.py). -/
import Derived.Test.YtdpkodhfelnedaaDoorRRise
namespace Go.Proofs.YtdpkodhfelnedaaDoor.Cod
open Go.RowKit
def rhv (hh mi : Int) (ti : ByteArray) (wi : Int) (po : Nat) (A : Option Addr) (n c : Nat) (sa : Int) : Value := .agg #[.int .i64 hh, .int .i64 mi, .string ti, .int .i64 wi, .int .u64 (po : Int), .slice A n c, .int .i64 sa]
theorem chk_bad (H : Hdr) (h5 : ¬ 5 < H.parents.length) (h : H.good = false) : H.chk = 1 := by unfold Hdr.chk; rw [if_neg h5, h]; rfl
theorem chk_well (H : Hdr) (h5 : ¬ 5 < H.parents.length) (h : H.good = true) : H.chk = 0 := by unfold Hdr.chk; rw [if_neg h5, h]; rfl
set_option maxHeartbeats 4000000 in
set_option maxRecDepth 100000 in
theorem R_hcheck (hh mi : Int) (ti : ByteArray) (wi : Int) (po : Nat) (A : Option Addr) (c : Nat) (sa : Int) (xs : List ByteArray) (w : World) (h : TextsAt w A c xs) (hlen : xs.length ≤ 1000000) :
    Calls Tryd.prog 6 #[rhv hh mi ti wi po A xs.length c sa] w fun e w' => e = .returned (.int .i64 (Hdr.chk ⟨hh, mi, ti, wi, po, xs.map bl, sa⟩)) ∧ Below w.heap.size w w' := by
  have hb0 : ∀ o1 : Obj, Below w.heap.size w (w.alloc o1) := fun o1 => (Below.refl _ _).alloc (Nat.le_refl _) _
  have hRi := fun (v : World) (hv : TextsAt v A c xs) => C_rrise hv (by omega)
  obtain ⟨z, hz⟩ : ∃ z, Hdr.chk ⟨hh, mi, ti, wi, po, xs.map bl, sa⟩ = z := ⟨_, rfl⟩
  rw [hz]
  have hml : (xs.map bl).length = xs.length := by rw [List.length_map]
  unfold rhv
  by_cases h0 : 5 < xs.length
  · have h4 : z = 4 := by rw [← hz]; unfold Hdr.chk; rw [if_pos (by rw [hml]; exact h0)]
    have h0' : 5 < (xs.length : Int) := by omega
    subst h4
    clear hz hml
    go_enter Tryd.func6, Tryd.ntmps6
    go_wp2
    go_ret
    exact ⟨rfl, hb0 _⟩
  have h0' : ¬ 5 < (xs.length : Int) := by omega
  by_cases h1 : hh < 1
  · have e1 : z = 1 := by
      rw [← hz]
      refine chk_bad _ (by rw [hml]; exact h0) ?_
      unfold Hdr.good
      simp only [Bool.and_eq_false_iff, decide_eq_false_iff_not, Bool.not_eq_false', decide_eq_true_eq, hml]
      omega
    subst e1
    clear hz hml
    go_enter Tryd.func6, Tryd.ntmps6
    go_wp2
    go_ret
    exact ⟨rfl, hb0 _⟩
  by_cases h2 : 1073741824 < hh
  · have e1 : z = 1 := by
      rw [← hz]
      refine chk_bad _ (by rw [hml]; exact h0) ?_
      unfold Hdr.good
      simp only [Bool.and_eq_false_iff, decide_eq_false_iff_not, Bool.not_eq_false', decide_eq_true_eq, hml]
      omega
    subst e1
    clear hz hml
    go_enter Tryd.func6, Tryd.ntmps6
    go_wp2
    go_ret
    exact ⟨rfl, hb0 _⟩
  by_cases h3 : mi < 0
  · have e1 : z = 1 := by
      rw [← hz]
      refine chk_bad _ (by rw [hml]; exact h0) ?_
      unfold Hdr.good
      simp only [Bool.and_eq_false_iff, decide_eq_false_iff_not, Bool.not_eq_false', decide_eq_true_eq, hml]
      omega
    subst e1
    clear hz hml
    go_enter Tryd.func6, Tryd.ntmps6
    go_wp2
    go_ret
    exact ⟨rfl, hb0 _⟩
  by_cases h4 : 63 < mi
  · have e1 : z = 1 := by
      rw [← hz]
      refine chk_bad _ (by rw [hml]; exact h0) ?_
      unfold Hdr.good
      simp only [Bool.and_eq_false_iff, decide_eq_false_iff_not, Bool.not_eq_false', decide_eq_true_eq, hml]
      omega
    subst e1
    clear hz hml
    go_enter Tryd.func6, Tryd.ntmps6
    go_wp2
    go_ret
    exact ⟨rfl, hb0 _⟩
  by_cases h5 : (ti.size : Int) < 1
  · have e1 : z = 1 := by
      rw [← hz]
      refine chk_bad _ (by rw [hml]; exact h0) ?_
      unfold Hdr.good
      simp only [Bool.and_eq_false_iff, decide_eq_false_iff_not, Bool.not_eq_false', decide_eq_true_eq, hml]
      omega
    subst e1
    clear hz hml
    go_enter Tryd.func6, Tryd.ntmps6
    go_wp2
    go_ret
    exact ⟨rfl, hb0 _⟩
  by_cases h6 : 8 < (ti.size : Int)
  · have e1 : z = 1 := by
      rw [← hz]
      refine chk_bad _ (by rw [hml]; exact h0) ?_
      unfold Hdr.good
      simp only [Bool.and_eq_false_iff, decide_eq_false_iff_not, Bool.not_eq_false', decide_eq_true_eq, hml]
      omega
    subst e1
    clear hz hml
    go_enter Tryd.func6, Tryd.ntmps6
    go_wp2
    go_ret
    exact ⟨rfl, hb0 _⟩
  by_cases h7 : wi < 1
  · have e1 : z = 1 := by
      rw [← hz]
      refine chk_bad _ (by rw [hml]; exact h0) ?_
      unfold Hdr.good
      simp only [Bool.and_eq_false_iff, decide_eq_false_iff_not, Bool.not_eq_false', decide_eq_true_eq, hml]
      omega
    subst e1
    clear hz hml
    go_enter Tryd.func6, Tryd.ntmps6
    go_wp2
    go_ret
    exact ⟨rfl, hb0 _⟩
  by_cases h8 : 15 < wi
  · have e1 : z = 1 := by
      rw [← hz]
      refine chk_bad _ (by rw [hml]; exact h0) ?_
      unfold Hdr.good
      simp only [Bool.and_eq_false_iff, decide_eq_false_iff_not, Bool.not_eq_false', decide_eq_true_eq, hml]
      omega
    subst e1
    clear hz hml
    go_enter Tryd.func6, Tryd.ntmps6
    go_wp2
    go_ret
    exact ⟨rfl, hb0 _⟩
  by_cases h9 : sa < 0
  · have e1 : z = 1 := by
      rw [← hz]
      refine chk_bad _ (by rw [hml]; exact h0) ?_
      unfold Hdr.good
      simp only [Bool.and_eq_false_iff, decide_eq_false_iff_not, Bool.not_eq_false', decide_eq_true_eq, hml]
      omega
    subst e1
    clear hz hml
    go_enter Tryd.func6, Tryd.ntmps6
    go_wp2
    go_ret
    exact ⟨rfl, hb0 _⟩
  by_cases ha : 1073741824 < sa
  · have e1 : z = 1 := by
      rw [← hz]
      refine chk_bad _ (by rw [hml]; exact h0) ?_
      unfold Hdr.good
      simp only [Bool.and_eq_false_iff, decide_eq_false_iff_not, Bool.not_eq_false', decide_eq_true_eq, hml]
      omega
    subst e1
    clear hz hml
    go_enter Tryd.func6, Tryd.ntmps6
    go_wp2
    go_ret
    exact ⟨rfl, hb0 _⟩
  by_cases hb : (po : Int) < 2
  · have e1 : z = 1 := by
      rw [← hz]
      refine chk_bad _ (by rw [hml]; exact h0) ?_
      unfold Hdr.good
      simp only [Bool.and_eq_false_iff, decide_eq_false_iff_not, Bool.not_eq_false', decide_eq_true_eq, hml]
      omega
    subst e1
    clear hz hml
    go_enter Tryd.func6, Tryd.ntmps6
    go_wp2
    go_ret
    exact ⟨rfl, hb0 _⟩
  by_cases hc : 4611686018427387904 < (po : Int)
  · have e1 : z = 1 := by
      rw [← hz]
      refine chk_bad _ (by rw [hml]; exact h0) ?_
      unfold Hdr.good
      simp only [Bool.and_eq_false_iff, decide_eq_false_iff_not, Bool.not_eq_false', decide_eq_true_eq, hml]
      omega
    subst e1
    clear hz hml
    go_enter Tryd.func6, Tryd.ntmps6
    go_wp2
    go_ret
    exact ⟨rfl, hb0 _⟩
  by_cases hd : (xs.length : Int) = 0
  · have e1 : z = 1 := by
      rw [← hz]
      refine chk_bad _ (by rw [hml]; exact h0) ?_
      unfold Hdr.good
      simp only [Bool.and_eq_false_iff, decide_eq_false_iff_not, Bool.not_eq_false', decide_eq_true_eq, hml]
      omega
    subst e1
    clear hz hml
    go_enter Tryd.func6, Tryd.ntmps6
    go_wp2
    go_ret
    exact ⟨rfl, hb0 _⟩
  have hg : Hdr.good ⟨hh, mi, ti, wi, po, xs.map bl, sa⟩ = rises (xs.map bl) := by
    unfold Hdr.good
    have a1 : decide (1 ≤ hh ∧ hh ≤ 1073741824) = true := decide_eq_true (by omega)
    have a2 : decide (0 ≤ mi ∧ mi ≤ 63) = true := decide_eq_true (by omega)
    have a3 : decide (1 ≤ (ti.size : Int) ∧ (ti.size : Int) ≤ 8) = true := decide_eq_true (by omega)
    have a4 : decide (1 ≤ wi ∧ wi ≤ 15) = true := decide_eq_true (by omega)
    have a5 : decide (0 ≤ sa ∧ sa ≤ 1073741824) = true := decide_eq_true (by omega)
    have a6 : decide (po < 2) = false := decide_eq_false (by omega)
    have a7 : decide (4611686018427387904 < po) = false := decide_eq_false (by omega)
    have a8 : decide ((xs.map bl).length = 0) = false := decide_eq_false (by rw [hml]; omega)
    simp only [a1, a2, a3, a4, a5, a6, a7, a8]
    rfl
  obtain ⟨r, hr⟩ : ∃ r, rises (xs.map bl) = r := ⟨_, rfl⟩
  simp only [hr] at hRi
  have hz' : z = if r = true then 0 else 1 := by
    rw [← hz]
    cases r with
    | true => rw [if_pos rfl]; exact chk_well _ (by rw [hml]; exact h0) (hg.trans hr)
    | false => rw [if_neg (by simp)]; exact chk_bad _ (by rw [hml]; exact h0) (hg.trans hr)
  clear hz hg hr hml
  have hRa := fun o1 => hRi _ (h.below (hb0 o1))
  obtain ⟨n1, hn1⟩ : ∃ n1, xs.length = n1 := ⟨_, rfl⟩
  simp only [hn1] at hRa ⊢
  rw [hn1] at hd h0'
  have hdn : ¬ n1 = 0 := by omega
  have hdb : ((n1 : Int) == 0) = false := by rw [beq_eq_false_iff_ne]; exact hd
  clear hRi hn1 h0 hlen
  cases r
  · rw [if_neg (by simp)] at hz'
    subst hz'
    go_enter Tryd.func6, Tryd.ntmps6
    go_wp2_with (go_at_call 17; (with_reducible refine (hRa _).mono ?_); rintro e w1 ⟨rfl, f1⟩)
    go_ret
    exact ⟨rfl, (hb0 _).trans (f1.mono (hb0 _).size)⟩
  · rw [if_pos rfl] at hz'
    subst hz'
    go_enter Tryd.func6, Tryd.ntmps6
    go_wp2_with (go_at_call 17; (with_reducible refine (hRa _).mono ?_); rintro e w1 ⟨rfl, f1⟩)
    go_ret
    exact ⟨rfl, (hb0 _).trans (f1.mono (hb0 _).size)⟩
end Go.Proofs.YtdpkodhfelnedaaDoor.Cod
