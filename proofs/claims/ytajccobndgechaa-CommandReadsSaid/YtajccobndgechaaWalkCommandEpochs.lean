/- CommandEpochs: the walk, by what each call means. No condition. -/
import Derived.Test.YtajccobndgechaaPanics
namespace Go.Proofs.Ytajccobndgechaa.Cod
open Go.RowKit
theorem store4 {w v : World} {B b : Nat} {a0 a1 a2 a3 : Value} {t : TypeId} (h : v.heap[b]? = some (.cells #[a0, a1, a2, a3] t (0, 0))) (F : Below B w v) (hB : B ≤ b) (x0 x1 x2 x3 : Value) :
    ∃ w', (((v.setCell ⟨b, 0, none⟩ x0).setCell ⟨b, 1, none⟩ x1).setCell ⟨b, 2, none⟩ x2).setCell ⟨b, 3, none⟩ x3 = w' ∧ w'.heap[b]? = some (.cells #[x0, x1, x2, x3] t (0, 0)) ∧ Below B w w' ∧ v.heap.size = w'.heap.size :=
  ⟨_, rfl, set_heap (set_heap (set_heap (set_heap h x0) x1) x2) x3, (((F.setCell (p := ⟨b, 0, none⟩) hB x0).setCell (p := ⟨b, 1, none⟩) hB x1).setCell (p := ⟨b, 2, none⟩) hB x2).setCell (p := ⟨b, 3, none⟩) hB x3, by simp [World.setCell]⟩
set_option maxHeartbeats 1600000 in
set_option maxRecDepth 100000 in
theorem epochs_clock (s s' : ByteArray) (r r' : Bool) (n x : Int) (c : Cmd)
    (hO : ∀ v, Calls Try.prog 55 #[.agg #[.int .i64 3, .string s', .bool r', .int .i64 x]] v fun e w' => e = .returned c.val ∧ Below v.heap.size v w')
    (hB : ∀ v, Calls Try.prog 58 #[.agg #[.int .i64 3, .string s, .bool r, .int .i64 n]] v fun e w' => e = .returned (.agg #[.int .i64 3, .string s', .bool r', .int .i64 x]) ∧ Below v.heap.size v w')
    (hN : ∀ v, Calls Try.prog 61 #[c.val] v fun e w' => e = .returned (.tuple #[.int .i64 x, .bool false]) ∧ Below v.heap.size v w') (w : World) :
    Calls Try.prog 14 #[.agg #[.int .i64 3, .string s, .bool r, .int .i64 n]] w fun e w' => e = .returned (.bool true) ∧ Below w.heap.size w w' := by
  go_enter Try.func14, Try.ntmps14
  go_wp2_with (fail)
  obtain ⟨w0, hw0⟩ : ∃ w0, w.alloc (.cells #[.int .i64 3, .string s, .bool r, .int .i64 n] 92) = w0 := ⟨_, rfl⟩
  have b0 : w0.heap[w.heap.size]? = some (.cells #[.int .i64 3, .string s, .bool r, .int .i64 n] 92 (0, 0)) := by subst hw0; exact heap_alloc_new w _
  have F0 : Below w.heap.size w w0 := by subst hw0; exact (Below.refl _ _).alloc (Nat.le_refl _) _
  have l0 : w.heap.size < w0.heap.size := by subst hw0; simp
  simp only [hw0]
  clear hw0
  go_at_call 52
  with_reducible refine (C_awake20 _).mono ?_
  rintro e w1 ⟨rfl, f1⟩
  have b1 := (f1.block w.heap.size l0).trans b0
  have F1 := F0.trans (f1.mono (Nat.le_of_lt l0))
  have l1 : w.heap.size < w1.heap.size := Nat.lt_of_lt_of_le l0 f1.size
  obtain ⟨c10, c11, c12, c13, z10, z11, z12, z13⟩ := four_cells b1
  clear f1 b0 F0 l0
  go_wp2_with (first
    | (go_at_call 58; ((with_reducible refine (hB _).mono ?_); rintro e w2 ⟨rfl, f2⟩; have b2 := (f2.block w.heap.size l1).trans b1; obtain ⟨c20, c21, c22, c23, z20, z21, z22, z23⟩ := four_cells b2; have F2 := F1.trans (f2.mono (Nat.le_of_lt l1)); have l2 : w.heap.size < w2.heap.size := Nat.lt_of_lt_of_le l1 f2.size)))
  obtain ⟨w3, e3, b3, F3, l3⟩ := store4 b2 F2 (Nat.le_refl _) (.int .i64 3) (.string s') (.bool r') (.int .i64 x)
  rw [e3]
  rw [l3] at l2
  clear e3 l3 c20 c21 c22 c23 z20 z21 z22 z23 b2 F2 f2 c10 c11 c12 c13 z10 z11 z12 z13 b1 F1 l1
  go_at_call 55
  with_reducible refine (hO _).mono ?_
  rintro e w4 ⟨rfl, f4⟩
  have b4 := (f4.block w.heap.size l2).trans b3
  have F4 := F3.trans (f4.mono (Nat.le_of_lt l2))
  have l4 : w.heap.size < w4.heap.size := Nat.lt_of_lt_of_le l2 f4.size
  clear b3 F3 f4 l2
  go_wp2_with (first
    | (go_at_call 61; ((with_reducible refine (hN _).mono ?_); rintro e w5 ⟨rfl, f5⟩; have b5 := (f5.block w.heap.size l4).trans b4; obtain ⟨c50, c51, c52, c53, z50, z51, z52, z53⟩ := four_cells b5; have F5 := F4.trans (f5.mono (Nat.le_of_lt l4)); clear f5)))
  go_ret
  exact ⟨rfl, F5⟩
set_option maxHeartbeats 1600000 in
set_option maxRecDepth 100000 in
theorem epochs_other (k : Int) (h : ¬ k = 3) (s s' : ByteArray) (r r' : Bool) (n n' : Int) (c : Cmd)
    (hO : ∀ v, Calls Try.prog 55 #[.agg #[.int .i64 k, .string s', .bool r', .int .i64 n']] v fun e w' => e = .returned c.val ∧ Below v.heap.size v w')
    (hB : ∀ v, Calls Try.prog 58 #[.agg #[.int .i64 k, .string s, .bool r, .int .i64 n]] v fun e w' => e = .returned (.agg #[.int .i64 k, .string s', .bool r', .int .i64 n']) ∧ Below v.heap.size v w')
    (hN : ∀ v, Calls Try.prog 61 #[c.val] v fun e w' => e = .returned (.tuple #[.int .i64 0, .bool true]) ∧ Below v.heap.size v w') (w : World) :
    Calls Try.prog 14 #[.agg #[.int .i64 k, .string s, .bool r, .int .i64 n]] w fun e w' => e = .returned (.bool true) ∧ Below w.heap.size w w' := by
  go_enter Try.func14, Try.ntmps14
  go_wp2_with (fail)
  obtain ⟨w0, hw0⟩ : ∃ w0, w.alloc (.cells #[.int .i64 k, .string s, .bool r, .int .i64 n] 92) = w0 := ⟨_, rfl⟩
  have b0 : w0.heap[w.heap.size]? = some (.cells #[.int .i64 k, .string s, .bool r, .int .i64 n] 92 (0, 0)) := by subst hw0; exact heap_alloc_new w _
  have F0 : Below w.heap.size w w0 := by subst hw0; exact (Below.refl _ _).alloc (Nat.le_refl _) _
  have l0 : w.heap.size < w0.heap.size := by subst hw0; simp
  simp only [hw0]
  clear hw0
  go_at_call 52
  with_reducible refine (C_awake20 _).mono ?_
  rintro e w1 ⟨rfl, f1⟩
  have b1 := (f1.block w.heap.size l0).trans b0
  have F1 := F0.trans (f1.mono (Nat.le_of_lt l0))
  have l1 : w.heap.size < w1.heap.size := Nat.lt_of_lt_of_le l0 f1.size
  obtain ⟨c10, c11, c12, c13, z10, z11, z12, z13⟩ := four_cells b1
  clear f1 b0 F0 l0
  go_wp2_with (first
    | (go_at_call 58; ((with_reducible refine (hB _).mono ?_); rintro e w2 ⟨rfl, f2⟩; have b2 := (f2.block w.heap.size l1).trans b1; obtain ⟨c20, c21, c22, c23, z20, z21, z22, z23⟩ := four_cells b2; have F2 := F1.trans (f2.mono (Nat.le_of_lt l1)); have l2 : w.heap.size < w2.heap.size := Nat.lt_of_lt_of_le l1 f2.size)))
  obtain ⟨w3, e3, b3, F3, l3⟩ := store4 b2 F2 (Nat.le_refl _) (.int .i64 k) (.string s') (.bool r') (.int .i64 n')
  rw [e3]
  rw [l3] at l2
  clear e3 l3 c20 c21 c22 c23 z20 z21 z22 z23 b2 F2 f2 c10 c11 c12 c13 z10 z11 z12 z13 b1 F1 l1
  go_at_call 55
  with_reducible refine (hO _).mono ?_
  rintro e w4 ⟨rfl, f4⟩
  have b4 := (f4.block w.heap.size l2).trans b3
  have F4 := F3.trans (f4.mono (Nat.le_of_lt l2))
  have l4 : w.heap.size < w4.heap.size := Nat.lt_of_lt_of_le l2 f4.size
  clear b3 F3 f4 l2
  go_wp2_with (first
    | (go_at_call 61; ((with_reducible refine (hN _).mono ?_); rintro e w5 ⟨rfl, f5⟩; have b5 := (f5.block w.heap.size l4).trans b4; obtain ⟨c50, c51, c52, c53, z50, z51, z52, z53⟩ := four_cells b5; have F5 := F4.trans (f5.mono (Nat.le_of_lt l4)); clear f5)))
  go_ret
  exact ⟨rfl, F5⟩
theorem W_CommandEpochs (k : Int) (s : ByteArray) (r : Bool) (n : Int) (_hk : k ≤ 9223372036854775807) (_hk0 : -9223372036854775808 ≤ k) (hs : s.size ≤ 140737488351232) (_hn : n ≤ 9223372036854775807) (_hn0 : -9223372036854775808 ≤ n) (w : World) :
    Calls Try.prog 14 #[.agg #[.int .i64 k, .string s, .bool r, .int .i64 n]] w fun e w' => e = .returned (.bool true) ∧ Below w.heap.size w w' := by
  have hO := fun v => C_own k (bs k s) (br k r) (bn k n) v
  have hB := fun v => C_bare k s r n hs v
  unfold fcmd at hO hB
  by_cases h : k = 3
  · subst h
    exact epochs_clock s _ r _ n _ _ hO hB (fun v => panics_clock _ v) w
  · refine epochs_other k h s _ r _ n _ _ hO hB (fun v => panics_other _ ?_ v) w
    unfold own
    rw [if_neg h]
    repeat' split
    · exact tp_nil
    · exact tp_block _
    · exact tp_cert _
    · exact tp_mark _
    · exact tp_unmark _
    · exact tp_other _
end Go.Proofs.Ytajccobndgechaa.Cod
