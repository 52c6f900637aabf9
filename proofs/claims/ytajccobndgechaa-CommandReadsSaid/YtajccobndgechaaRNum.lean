/- ref20.num: a number at the beginning. Contract by what it means. -/
import Derived.Test.YtajccobndgechaaInOps
import Derived.Test.YtajccobndgechaaHead
namespace Go.Proofs.Ytajccobndgechaa.Cod
open Go.RowKit
/-- the world behind it -/
def after (e : Nat) (w : World) : World := if e = 0 then w.drew else w
set_option maxHeartbeats 800000 in
set_option maxRecDepth 100000 in
theorem C_rnum (s : ByteArray) (m : Int) (hs : s.size ≤ 140737488351232) (w : World) :
    Calls Try.prog 80 #[.string s, .int .i64 m] w fun e w' => e = .returned (.tuple #[.int .i64 (inNum m (bl s, 0)).1, .string (S (inNum m (bl s, 0)).2.1), .int .i64 (inNum m (bl s, 0)).2.2]) ∧ w' = after (inNum m (bl s, 0)).2.2 w := by
  have hC := fun v => C_head s v hs
  unfold HdR at hC
  have hl := bl_len s
  unfold inNum after
  simp only [ne_eq, not_true_eq_false, if_false]
  have hk : (hd (bl s)).2.2 = 0 → (hd (bl s)).2.1 ≤ s.size := by
    intro h
    obtain ⟨_, h2, h3⟩ := @hd_ok (bl s) (hd (bl s)).1 (hd (bl s)).2.1 (by rw [← h])
    have := congrArg List.length h3
    rw [List.length_append, ← h2] at this
    omega
  generalize hd (bl s) = p at hC hk
  obtain ⟨x, k, e⟩ := p
  simp only at hC hk ⊢
  clear hl
  by_cases he : e = 0
  · subst he
    have hk := hk rfl
    by_cases hm : m < (x : Int)
    · simp only [not_true_eq_false, if_false, hm, if_true, if_neg (show ¬ (4 : Nat) = 0 by decide)]
      go_enter Try.func80, Try.ntmps80
      go_wp2_with (first
        | (go_at_call 76; with_reducible refine (hC _).mono ?_; rintro e w1 ⟨rfl, rfl⟩))
      go_ret3
      exact ⟨rfl, rfl⟩
    · simp only [not_true_eq_false, if_false, hm, if_true]
      have hm' : (x : Int) ≤ m := by omega
      have hkI : (k : Int) ≤ (s.size : Int) := by omega
      clear hm
      go_enter Try.func80, Try.ntmps80
      go_wp2_with (first
        | (go_at_call 76; with_reducible refine (hC _).mono ?_; rintro e w1 ⟨rfl, rfl⟩))
      go_region
      go_wp2
      go_ret3
      exact ⟨by simp [← bl_drop, S_bl], rfl⟩
  · simp only [he, not_false_eq_true, if_true]
    have he' : ¬ (e : Int) = 0 := by omega
    go_enter Try.func80, Try.ntmps80
    go_wp2_with (first
      | (go_at_call 76; with_reducible refine (hC _).mono ?_; rintro e w1 ⟨rfl, rfl⟩))
    go_ret3
    exact ⟨rfl, rfl⟩
end Go.Proofs.Ytajccobndgechaa.Cod
