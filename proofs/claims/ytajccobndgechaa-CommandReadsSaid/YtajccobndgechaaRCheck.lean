/- ref20.Check: contract by what it means. -/
import Derived.Test.YtajccobndgechaaKey
import Derived.Test.YtajccobndgechaaCmdA
namespace Go.Proofs.Ytajccobndgechaa.Cod
open Go.RowKit
set_option linter.unusedVariables false
set_option maxHeartbeats 1600000 in
set_option maxRecDepth 100000 in
theorem rchk_low (k : Int) (s : ByteArray) (r : Bool) (n : Int) (h : k < 1) (w : World) : Calls Try.prog 60 #[.agg #[.int .i64 k, .string s, .bool r, .int .i64 n]] w fun e w' => e = .returned (.int .i64 18) ∧ Below w.heap.size w w' := by
  go_enter Try.func60, Try.ntmps60
  go_wp2
  go_ret
  exact ⟨rfl, (Below.refl _ _).alloc (Nat.le_refl _) _⟩
set_option maxHeartbeats 1600000 in
set_option maxRecDepth 100000 in
theorem rchk_high (k : Int) (s : ByteArray) (r : Bool) (n : Int) (h : ¬ k < 1) (h5 : 5 < k) (w : World) : Calls Try.prog 60 #[.agg #[.int .i64 k, .string s, .bool r, .int .i64 n]] w fun e w' => e = .returned (.int .i64 18) ∧ Below w.heap.size w w' := by
  go_enter Try.func60, Try.ntmps60
  go_wp2
  go_ret
  exact ⟨rfl, (Below.refl _ _).alloc (Nat.le_refl _) _⟩
set_option maxHeartbeats 1600000 in
set_option maxRecDepth 100000 in
theorem rchk_long1 (k : Int) (s : ByteArray) (r : Bool) (n : Int) (h : 4096 < (s.size : Int)) (w : World) : Calls Try.prog 60 #[.agg #[.int .i64 1, .string s, .bool r, .int .i64 n]] w fun e w' => e = .returned (.int .i64 4) ∧ Below w.heap.size w w' := by
  go_enter Try.func60, Try.ntmps60
  go_wp2
  go_ret
  exact ⟨rfl, (Below.refl _ _).alloc (Nat.le_refl _) _⟩
set_option maxHeartbeats 1600000 in
set_option maxRecDepth 100000 in
theorem rchk_long2 (k : Int) (s : ByteArray) (r : Bool) (n : Int) (h : 4096 < (s.size : Int)) (w : World) : Calls Try.prog 60 #[.agg #[.int .i64 2, .string s, .bool r, .int .i64 n]] w fun e w' => e = .returned (.int .i64 4) ∧ Below w.heap.size w w' := by
  go_enter Try.func60, Try.ntmps60
  go_wp2
  go_ret
  exact ⟨rfl, (Below.refl _ _).alloc (Nat.le_refl _) _⟩
set_option maxHeartbeats 1600000 in
set_option maxRecDepth 100000 in
theorem rchk_long4 (k : Int) (s : ByteArray) (r : Bool) (n : Int) (h : 4096 < (s.size : Int)) (w : World) : Calls Try.prog 60 #[.agg #[.int .i64 4, .string s, .bool r, .int .i64 n]] w fun e w' => e = .returned (.int .i64 4) ∧ Below w.heap.size w w' := by
  go_enter Try.func60, Try.ntmps60
  go_wp2
  go_ret
  exact ⟨rfl, (Below.refl _ _).alloc (Nat.le_refl _) _⟩
set_option maxHeartbeats 1600000 in
set_option maxRecDepth 100000 in
theorem rchk_good1 (k : Int) (s : ByteArray) (r : Bool) (n : Int) (h : ¬ 4096 < (s.size : Int)) (w : World) : Calls Try.prog 60 #[.agg #[.int .i64 1, .string s, .bool r, .int .i64 n]] w fun e w' => e = .returned (.int .i64 0) ∧ Below w.heap.size w w' := by
  go_enter Try.func60, Try.ntmps60
  go_wp2
  go_ret
  exact ⟨rfl, (Below.refl _ _).alloc (Nat.le_refl _) _⟩
set_option maxHeartbeats 1600000 in
set_option maxRecDepth 100000 in
theorem rchk_good2 (k : Int) (s : ByteArray) (r : Bool) (n : Int) (h : ¬ 4096 < (s.size : Int)) (w : World) : Calls Try.prog 60 #[.agg #[.int .i64 2, .string s, .bool r, .int .i64 n]] w fun e w' => e = .returned (.int .i64 0) ∧ Below w.heap.size w w' := by
  go_enter Try.func60, Try.ntmps60
  go_wp2
  go_ret
  exact ⟨rfl, (Below.refl _ _).alloc (Nat.le_refl _) _⟩
set_option maxHeartbeats 1600000 in
set_option maxRecDepth 100000 in
theorem rchk_neg3 (k : Int) (s : ByteArray) (r : Bool) (n : Int) (h : n < 0) (w : World) : Calls Try.prog 60 #[.agg #[.int .i64 3, .string s, .bool r, .int .i64 n]] w fun e w' => e = .returned (.int .i64 1) ∧ Below w.heap.size w w' := by
  go_enter Try.func60, Try.ntmps60
  go_wp2
  go_ret
  exact ⟨rfl, (Below.refl _ _).alloc (Nat.le_refl _) _⟩
set_option maxHeartbeats 1600000 in
set_option maxRecDepth 100000 in
theorem rchk_great3 (k : Int) (s : ByteArray) (r : Bool) (n : Int) (h : ¬ n < 0) (h2 : 1073741824 < n) (w : World) : Calls Try.prog 60 #[.agg #[.int .i64 3, .string s, .bool r, .int .i64 n]] w fun e w' => e = .returned (.int .i64 1) ∧ Below w.heap.size w w' := by
  go_enter Try.func60, Try.ntmps60
  go_wp2
  go_ret
  exact ⟨rfl, (Below.refl _ _).alloc (Nat.le_refl _) _⟩
set_option maxHeartbeats 1600000 in
set_option maxRecDepth 100000 in
theorem rchk_good3 (k : Int) (s : ByteArray) (r : Bool) (n : Int) (h : ¬ n < 0) (h2 : ¬ 1073741824 < n) (w : World) : Calls Try.prog 60 #[.agg #[.int .i64 3, .string s, .bool r, .int .i64 n]] w fun e w' => e = .returned (.int .i64 0) ∧ Below w.heap.size w w' := by
  go_enter Try.func60, Try.ntmps60
  go_wp2
  go_ret
  exact ⟨rfl, (Below.refl _ _).alloc (Nat.le_refl _) _⟩
set_option maxHeartbeats 1600000 in
set_option maxRecDepth 100000 in
theorem rchk_bad4 (k : Int) (s : ByteArray) (r : Bool) (n : Int) (h : ¬ 4096 < (s.size : Int)) (hK : ∀ v, Calls Try.prog 84 #[.string s] v fun e w' => e = .returned (.bool false) ∧ Below v.heap.size v w') (w : World) : Calls Try.prog 60 #[.agg #[.int .i64 4, .string s, .bool r, .int .i64 n]] w fun e w' => e = .returned (.int .i64 1) ∧ Below w.heap.size w w' := by
  go_enter Try.func60, Try.ntmps60
  go_wp2_with (first
    | (go_at_call 84; with_reducible refine (hK _).mono ?_; rintro e w1 ⟨rfl, f1⟩))
  go_ret
  exact ⟨rfl, ((Below.refl _ _).alloc (Nat.le_refl _) _).trans (f1.mono (by simp))⟩
set_option maxHeartbeats 1600000 in
set_option maxRecDepth 100000 in
theorem rchk_good4 (k : Int) (s : ByteArray) (r : Bool) (n : Int) (h : ¬ 4096 < (s.size : Int)) (hK : ∀ v, Calls Try.prog 84 #[.string s] v fun e w' => e = .returned (.bool true) ∧ Below v.heap.size v w') (w : World) : Calls Try.prog 60 #[.agg #[.int .i64 4, .string s, .bool r, .int .i64 n]] w fun e w' => e = .returned (.int .i64 0) ∧ Below w.heap.size w w' := by
  go_enter Try.func60, Try.ntmps60
  go_wp2_with (first
    | (go_at_call 84; with_reducible refine (hK _).mono ?_; rintro e w1 ⟨rfl, f1⟩))
  go_ret
  exact ⟨rfl, ((Below.refl _ _).alloc (Nat.le_refl _) _).trans (f1.mono (by simp))⟩
set_option maxHeartbeats 1600000 in
set_option maxRecDepth 100000 in
theorem rchk_good5 (k : Int) (s : ByteArray) (r : Bool) (n : Int)  (w : World) : Calls Try.prog 60 #[.agg #[.int .i64 5, .string s, .bool r, .int .i64 n]] w fun e w' => e = .returned (.int .i64 0) ∧ Below w.heap.size w w' := by
  go_enter Try.func60, Try.ntmps60
  go_wp2
  go_ret
  exact ⟨rfl, (Below.refl _ _).alloc (Nat.le_refl _) _⟩
theorem C_rcheck (k : Int) (s : ByteArray) (r : Bool) (n : Int) (hs : s.size ≤ 140737488351232) (w : World) :
    Calls Try.prog 60 #[.agg #[.int .i64 k, .string s, .bool r, .int .i64 n]] w fun e w' => e = .returned (.int .i64 (own k s r n).chk) ∧ Below w.heap.size w w' := by
  have hK := fun v => C_key s hs v
  by_cases l : k < 1
  · rw [show ((own k s r n).chk : Int) = 18 by unfold own; rw [if_neg (show ¬ k = 1 by omega), if_neg (show ¬ k = 2 by omega), if_neg (show ¬ k = 3 by omega), if_neg (show ¬ k = 4 by omega), if_neg (show ¬ k = 5 by omega)]; split <;> rfl]
    exact rchk_low k s r n l w
  by_cases g : 5 < k
  · rw [show ((own k s r n).chk : Int) = 18 by unfold own; rw [if_neg (show ¬ k = 0 by omega), if_neg (show ¬ k = 1 by omega), if_neg (show ¬ k = 2 by omega), if_neg (show ¬ k = 3 by omega), if_neg (show ¬ k = 4 by omega), if_neg (show ¬ k = 5 by omega)]; rfl]
    exact rchk_high k s r n l g w
  have hk : k = 1 ∨ k = 2 ∨ k = 3 ∨ k = 4 ∨ k = 5 := by omega
  clear l g
  rcases hk with rfl | rfl | rfl | rfl | rfl
  · by_cases h : 4096 < s.size
    · rw [show ((own 1 s r n).chk : Int) = 4 by show ((small s : Nat) : Int) = 4; unfold small; rw [if_pos h]; rfl]
      exact rchk_long1 1 s r n (by omega) w
    · rw [show ((own 1 s r n).chk : Int) = 0 by show ((small s : Nat) : Int) = 0; unfold small; rw [if_neg h]; rfl]
      exact rchk_good1 1 s r n (by omega) w
  · by_cases h : 4096 < s.size
    · rw [show ((own 2 s r n).chk : Int) = 4 by show ((small s : Nat) : Int) = 4; unfold small; rw [if_pos h]; rfl]
      exact rchk_long2 2 s r n (by omega) w
    · rw [show ((own 2 s r n).chk : Int) = 0 by show ((small s : Nat) : Int) = 0; unfold small; rw [if_neg h]; rfl]
      exact rchk_good2 2 s r n (by omega) w
  · have e : ((own 3 s r n).chk : Int) = ((if 0 ≤ n ∧ n ≤ 1073741824 then 0 else 1 : Nat) : Int) := rfl
    rw [e]
    by_cases h : n < 0
    · rw [if_neg (by omega)]
      exact rchk_neg3 3 s r n h w
    by_cases h2 : 1073741824 < n
    · rw [if_neg (by omega)]
      exact rchk_great3 3 s r n h h2 w
    · rw [if_pos (by omega)]
      exact rchk_good3 3 s r n h h2 w
  · have e : ((own 4 s r n).chk : Int) = ((if 4096 < s.size then 4 else if isKey (bl s) then 0 else 1 : Nat) : Int) := rfl
    rw [e]
    by_cases h : 4096 < s.size
    · rw [if_pos h]
      exact rchk_long4 4 s r n (by omega) w
    · rw [if_neg h]
      cases hb : isKey (bl s)
      · rw [hb] at hK
        exact rchk_bad4 4 s r n (by omega) hK w
      · rw [hb] at hK
        exact rchk_good4 4 s r n (by omega) hK w
  · exact rchk_good5 5 s r n w
end Go.Proofs.Ytajccobndgechaa.Cod
