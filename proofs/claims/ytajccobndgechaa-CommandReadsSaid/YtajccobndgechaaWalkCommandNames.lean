/- CommandNames: the walk, by what each call means. No condition. -/
import Derived.Test.YtajccobndgechaaAwake20
namespace Go.Proofs.Ytajccobndgechaa.Cod
open Go.RowKit
theorem bs_size (k : Int) (s : ByteArray) : (bs k s).size ≤ 4100 := by
  unfold bs
  split
  · rw [S_size, List.length_take]; exact Nat.min_le_left _ _
  · decide
theorem own_fit (k : Int) (s : ByteArray) (r : Bool) (n : Int) (hs : s.size ≤ 140737488351232) (hn : -9223372036854775808 ≤ n ∧ n ≤ 9223372036854775807) : (own k s r n).fit := by
  unfold own
  repeat' split
  all_goals first | trivial | exact hs | exact hn
theorem bn_bd (k n : Int) (h : n ≤ 9223372036854775807) (h0 : -9223372036854775808 ≤ n) : -9223372036854775808 ≤ bn k n ∧ bn k n ≤ 9223372036854775807 := by unfold bn; split <;> omega
theorem own_bare_fit (k : Int) (s : ByteArray) (r : Bool) (n : Int) (h : n ≤ 9223372036854775807) (h0 : -9223372036854775808 ≤ n) : (own k (bs k s) (br k r) (bn k n)).fit :=
  own_fit _ _ _ _ (Nat.le_trans (bs_size k s) (by omega)) (bn_bd k n h h0)
theorem four_cells {w : World} {b : Nat} {a c d e : Value} {t : TypeId} (h : w.heap[b]? = some (.cells #[a, c, d, e] t (0, 0))) :
    w.cell? ⟨b, 0, none⟩ = some a ∧ w.cell? ⟨b, 1, none⟩ = some c ∧ w.cell? ⟨b, 2, none⟩ = some d ∧ w.cell? ⟨b, 3, none⟩ = some e ∧
    w.frozen? ⟨b, 0, none⟩ = false ∧ w.frozen? ⟨b, 1, none⟩ = false ∧ w.frozen? ⟨b, 2, none⟩ = false ∧ w.frozen? ⟨b, 3, none⟩ = false :=
  ⟨by rw [Lib.cell_of_heap h]; rfl, by rw [Lib.cell_of_heap h]; rfl, by rw [Lib.cell_of_heap h]; rfl, by rw [Lib.cell_of_heap h]; rfl, Lib.frozen_of_heap h 0, Lib.frozen_of_heap h 1, Lib.frozen_of_heap h 2, Lib.frozen_of_heap h 3⟩
set_option maxHeartbeats 1600000 in
set_option maxRecDepth 100000 in
theorem names_1 (s s' : ByteArray) (r r' : Bool) (n n' : Int)
    (c : Cmd) (hO : ∀ v, Calls Try.prog 55 #[.agg #[.int .i64 1, .string s', .bool r', .int .i64 n']] v fun e w' => e = .returned c.val ∧ Below v.heap.size v w')
    (hB : ∀ v, Calls Try.prog 58 #[.agg #[.int .i64 1, .string s, .bool r, .int .i64 n]] v fun e w' => e = .returned (.agg #[.int .i64 1, .string s', .bool r', .int .i64 n']) ∧ Below v.heap.size v w')
    (hN : ∀ v, Calls Try.prog 59 #[c.val] v fun e w' => e = .returned (.string ⟨#[98, 108, 111, 99, 107]⟩) ∧ Below v.heap.size v w') (w : World) :
    Calls Try.prog 12 #[.agg #[.int .i64 1, .string s, .bool r, .int .i64 n]] w fun e w' => e = .returned (.bool true) ∧ Below w.heap.size w w' := by
  go_enter Try.func12, Try.ntmps12
  go_wp2_with (fail)
  obtain ⟨w0, hw0⟩ : ∃ w0, w.alloc (.cells #[.int .i64 1, .string s, .bool r, .int .i64 n] 92) = w0 := ⟨_, rfl⟩
  have b0 : w0.heap[w.heap.size]? = some (.cells #[.int .i64 1, .string s, .bool r, .int .i64 n] 92 (0, 0)) := by subst hw0; exact heap_alloc_new w _
  have F0 : Below w.heap.size w w0 := by subst hw0; exact (Below.refl _ _).alloc (Nat.le_refl _) _
  have l0 : w.heap.size < w0.heap.size := by subst hw0; simp
  simp only [hw0]
  clear hw0
  go_at_call 52
  with_reducible refine (C_awake20 _).mono ?_
  rintro e w1 ⟨rfl, f1⟩
  have b1 := (f1.block w.heap.size l0).trans b0
  have F1 := F0.trans (f1.mono (Nat.le_of_lt l0))
  have l1 : w.heap.size < w1.heap.size := Nat.lt_of_lt_of_le l0 f1.size
  obtain ⟨c10, c11, c12, c13, z10, z11, z12, z13⟩ := four_cells b1
  clear f1 b0 F0 l0
  go_wp2_with (first
    | (go_at_call 58; ((with_reducible refine (hB _).mono ?_); rintro e w2 ⟨rfl, f2⟩; have b2 := (f2.block w.heap.size l1).trans b1; obtain ⟨c20, c21, c22, c23, z20, z21, z22, z23⟩ := four_cells b2; have F2 := F1.trans (f2.mono (Nat.le_of_lt l1)); have l2 : w.heap.size < w2.heap.size := Nat.lt_of_lt_of_le l1 f2.size))
    | (go_at_call 55; with_reducible refine (hO _).mono ?_; rintro e w3 ⟨rfl, f3⟩)
    | (go_at_call 59; with_reducible refine (hN _).mono ?_; rintro e w4 ⟨rfl, f4⟩))
  go_ret
  have z3 := f3.size
  simp [World.setCell] at z3
  refine ⟨rfl, Below.trans (Below.trans ?_ (f3.mono ?_)) (f4.mono ?_)⟩
  · repeat (first | exact F2 | refine Below.alloc ?_ (by simp [World.setCell]; omega) _ | refine Below.setCell ?_ (by exact Nat.le_refl _) _)
  · simp [World.setCell]; omega
  · omega
set_option maxHeartbeats 1600000 in
set_option maxRecDepth 100000 in
theorem names_2 (s s' : ByteArray) (r r' : Bool) (n n' : Int)
    (c : Cmd) (hO : ∀ v, Calls Try.prog 55 #[.agg #[.int .i64 2, .string s', .bool r', .int .i64 n']] v fun e w' => e = .returned c.val ∧ Below v.heap.size v w')
    (hB : ∀ v, Calls Try.prog 58 #[.agg #[.int .i64 2, .string s, .bool r, .int .i64 n]] v fun e w' => e = .returned (.agg #[.int .i64 2, .string s', .bool r', .int .i64 n']) ∧ Below v.heap.size v w')
    (hN : ∀ v, Calls Try.prog 59 #[c.val] v fun e w' => e = .returned (.string ⟨#[99, 101, 114, 116]⟩) ∧ Below v.heap.size v w') (w : World) :
    Calls Try.prog 12 #[.agg #[.int .i64 2, .string s, .bool r, .int .i64 n]] w fun e w' => e = .returned (.bool true) ∧ Below w.heap.size w w' := by
  go_enter Try.func12, Try.ntmps12
  go_wp2_with (fail)
  obtain ⟨w0, hw0⟩ : ∃ w0, w.alloc (.cells #[.int .i64 2, .string s, .bool r, .int .i64 n] 92) = w0 := ⟨_, rfl⟩
  have b0 : w0.heap[w.heap.size]? = some (.cells #[.int .i64 2, .string s, .bool r, .int .i64 n] 92 (0, 0)) := by subst hw0; exact heap_alloc_new w _
  have F0 : Below w.heap.size w w0 := by subst hw0; exact (Below.refl _ _).alloc (Nat.le_refl _) _
  have l0 : w.heap.size < w0.heap.size := by subst hw0; simp
  simp only [hw0]
  clear hw0
  go_at_call 52
  with_reducible refine (C_awake20 _).mono ?_
  rintro e w1 ⟨rfl, f1⟩
  have b1 := (f1.block w.heap.size l0).trans b0
  have F1 := F0.trans (f1.mono (Nat.le_of_lt l0))
  have l1 : w.heap.size < w1.heap.size := Nat.lt_of_lt_of_le l0 f1.size
  obtain ⟨c10, c11, c12, c13, z10, z11, z12, z13⟩ := four_cells b1
  clear f1 b0 F0 l0
  go_wp2_with (first
    | (go_at_call 58; ((with_reducible refine (hB _).mono ?_); rintro e w2 ⟨rfl, f2⟩; have b2 := (f2.block w.heap.size l1).trans b1; obtain ⟨c20, c21, c22, c23, z20, z21, z22, z23⟩ := four_cells b2; have F2 := F1.trans (f2.mono (Nat.le_of_lt l1)); have l2 : w.heap.size < w2.heap.size := Nat.lt_of_lt_of_le l1 f2.size))
    | (go_at_call 55; with_reducible refine (hO _).mono ?_; rintro e w3 ⟨rfl, f3⟩)
    | (go_at_call 59; with_reducible refine (hN _).mono ?_; rintro e w4 ⟨rfl, f4⟩))
  go_ret
  have z3 := f3.size
  simp [World.setCell] at z3
  refine ⟨rfl, Below.trans (Below.trans ?_ (f3.mono ?_)) (f4.mono ?_)⟩
  · repeat (first | exact F2 | refine Below.alloc ?_ (by simp [World.setCell]; omega) _ | refine Below.setCell ?_ (by exact Nat.le_refl _) _)
  · simp [World.setCell]; omega
  · omega
set_option maxHeartbeats 1600000 in
set_option maxRecDepth 100000 in
theorem names_3 (s s' : ByteArray) (r r' : Bool) (n n' : Int)
    (c : Cmd) (hO : ∀ v, Calls Try.prog 55 #[.agg #[.int .i64 3, .string s', .bool r', .int .i64 n']] v fun e w' => e = .returned c.val ∧ Below v.heap.size v w')
    (hB : ∀ v, Calls Try.prog 58 #[.agg #[.int .i64 3, .string s, .bool r, .int .i64 n]] v fun e w' => e = .returned (.agg #[.int .i64 3, .string s', .bool r', .int .i64 n']) ∧ Below v.heap.size v w')
    (hN : ∀ v, Calls Try.prog 59 #[c.val] v fun e w' => e = .returned (.string ⟨#[99, 108, 111, 99, 107]⟩) ∧ Below v.heap.size v w') (w : World) :
    Calls Try.prog 12 #[.agg #[.int .i64 3, .string s, .bool r, .int .i64 n]] w fun e w' => e = .returned (.bool true) ∧ Below w.heap.size w w' := by
  go_enter Try.func12, Try.ntmps12
  go_wp2_with (fail)
  obtain ⟨w0, hw0⟩ : ∃ w0, w.alloc (.cells #[.int .i64 3, .string s, .bool r, .int .i64 n] 92) = w0 := ⟨_, rfl⟩
  have b0 : w0.heap[w.heap.size]? = some (.cells #[.int .i64 3, .string s, .bool r, .int .i64 n] 92 (0, 0)) := by subst hw0; exact heap_alloc_new w _
  have F0 : Below w.heap.size w w0 := by subst hw0; exact (Below.refl _ _).alloc (Nat.le_refl _) _
  have l0 : w.heap.size < w0.heap.size := by subst hw0; simp
  simp only [hw0]
  clear hw0
  go_at_call 52
  with_reducible refine (C_awake20 _).mono ?_
  rintro e w1 ⟨rfl, f1⟩
  have b1 := (f1.block w.heap.size l0).trans b0
  have F1 := F0.trans (f1.mono (Nat.le_of_lt l0))
  have l1 : w.heap.size < w1.heap.size := Nat.lt_of_lt_of_le l0 f1.size
  obtain ⟨c10, c11, c12, c13, z10, z11, z12, z13⟩ := four_cells b1
  clear f1 b0 F0 l0
  go_wp2_with (first
    | (go_at_call 58; ((with_reducible refine (hB _).mono ?_); rintro e w2 ⟨rfl, f2⟩; have b2 := (f2.block w.heap.size l1).trans b1; obtain ⟨c20, c21, c22, c23, z20, z21, z22, z23⟩ := four_cells b2; have F2 := F1.trans (f2.mono (Nat.le_of_lt l1)); have l2 : w.heap.size < w2.heap.size := Nat.lt_of_lt_of_le l1 f2.size))
    | (go_at_call 55; with_reducible refine (hO _).mono ?_; rintro e w3 ⟨rfl, f3⟩)
    | (go_at_call 59; with_reducible refine (hN _).mono ?_; rintro e w4 ⟨rfl, f4⟩))
  go_ret
  have z3 := f3.size
  simp [World.setCell] at z3
  refine ⟨rfl, Below.trans (Below.trans ?_ (f3.mono ?_)) (f4.mono ?_)⟩
  · repeat (first | exact F2 | refine Below.alloc ?_ (by simp [World.setCell]; omega) _ | refine Below.setCell ?_ (by exact Nat.le_refl _) _)
  · simp [World.setCell]; omega
  · omega
set_option maxHeartbeats 1600000 in
set_option maxRecDepth 100000 in
theorem names_4 (s s' : ByteArray) (r r' : Bool) (n n' : Int)
    (c : Cmd) (hO : ∀ v, Calls Try.prog 55 #[.agg #[.int .i64 4, .string s', .bool r', .int .i64 n']] v fun e w' => e = .returned c.val ∧ Below v.heap.size v w')
    (hB : ∀ v, Calls Try.prog 58 #[.agg #[.int .i64 4, .string s, .bool r, .int .i64 n]] v fun e w' => e = .returned (.agg #[.int .i64 4, .string s', .bool r', .int .i64 n']) ∧ Below v.heap.size v w')
    (hN : ∀ v, Calls Try.prog 59 #[c.val] v fun e w' => e = .returned (.string ⟨#[109, 97, 114, 107]⟩) ∧ Below v.heap.size v w') (w : World) :
    Calls Try.prog 12 #[.agg #[.int .i64 4, .string s, .bool r, .int .i64 n]] w fun e w' => e = .returned (.bool true) ∧ Below w.heap.size w w' := by
  go_enter Try.func12, Try.ntmps12
  go_wp2_with (fail)
  obtain ⟨w0, hw0⟩ : ∃ w0, w.alloc (.cells #[.int .i64 4, .string s, .bool r, .int .i64 n] 92) = w0 := ⟨_, rfl⟩
  have b0 : w0.heap[w.heap.size]? = some (.cells #[.int .i64 4, .string s, .bool r, .int .i64 n] 92 (0, 0)) := by subst hw0; exact heap_alloc_new w _
  have F0 : Below w.heap.size w w0 := by subst hw0; exact (Below.refl _ _).alloc (Nat.le_refl _) _
  have l0 : w.heap.size < w0.heap.size := by subst hw0; simp
  simp only [hw0]
  clear hw0
  go_at_call 52
  with_reducible refine (C_awake20 _).mono ?_
  rintro e w1 ⟨rfl, f1⟩
  have b1 := (f1.block w.heap.size l0).trans b0
  have F1 := F0.trans (f1.mono (Nat.le_of_lt l0))
  have l1 : w.heap.size < w1.heap.size := Nat.lt_of_lt_of_le l0 f1.size
  obtain ⟨c10, c11, c12, c13, z10, z11, z12, z13⟩ := four_cells b1
  clear f1 b0 F0 l0
  go_wp2_with (first
    | (go_at_call 58; ((with_reducible refine (hB _).mono ?_); rintro e w2 ⟨rfl, f2⟩; have b2 := (f2.block w.heap.size l1).trans b1; obtain ⟨c20, c21, c22, c23, z20, z21, z22, z23⟩ := four_cells b2; have F2 := F1.trans (f2.mono (Nat.le_of_lt l1)); have l2 : w.heap.size < w2.heap.size := Nat.lt_of_lt_of_le l1 f2.size))
    | (go_at_call 55; with_reducible refine (hO _).mono ?_; rintro e w3 ⟨rfl, f3⟩)
    | (go_at_call 59; with_reducible refine (hN _).mono ?_; rintro e w4 ⟨rfl, f4⟩))
  go_ret
  have z3 := f3.size
  simp [World.setCell] at z3
  refine ⟨rfl, Below.trans (Below.trans ?_ (f3.mono ?_)) (f4.mono ?_)⟩
  · repeat (first | exact F2 | refine Below.alloc ?_ (by simp [World.setCell]; omega) _ | refine Below.setCell ?_ (by exact Nat.le_refl _) _)
  · simp [World.setCell]; omega
  · omega
set_option maxHeartbeats 1600000 in
set_option maxRecDepth 100000 in
theorem names_5 (s s' : ByteArray) (r r' : Bool) (n n' : Int)
    (c : Cmd) (hO : ∀ v, Calls Try.prog 55 #[.agg #[.int .i64 5, .string s', .bool r', .int .i64 n']] v fun e w' => e = .returned c.val ∧ Below v.heap.size v w')
    (hB : ∀ v, Calls Try.prog 58 #[.agg #[.int .i64 5, .string s, .bool r, .int .i64 n]] v fun e w' => e = .returned (.agg #[.int .i64 5, .string s', .bool r', .int .i64 n']) ∧ Below v.heap.size v w')
    (hN : ∀ v, Calls Try.prog 59 #[c.val] v fun e w' => e = .returned (.string ⟨#[117, 110, 109, 97, 114, 107]⟩) ∧ Below v.heap.size v w') (w : World) :
    Calls Try.prog 12 #[.agg #[.int .i64 5, .string s, .bool r, .int .i64 n]] w fun e w' => e = .returned (.bool true) ∧ Below w.heap.size w w' := by
  go_enter Try.func12, Try.ntmps12
  go_wp2_with (fail)
  obtain ⟨w0, hw0⟩ : ∃ w0, w.alloc (.cells #[.int .i64 5, .string s, .bool r, .int .i64 n] 92) = w0 := ⟨_, rfl⟩
  have b0 : w0.heap[w.heap.size]? = some (.cells #[.int .i64 5, .string s, .bool r, .int .i64 n] 92 (0, 0)) := by subst hw0; exact heap_alloc_new w _
  have F0 : Below w.heap.size w w0 := by subst hw0; exact (Below.refl _ _).alloc (Nat.le_refl _) _
  have l0 : w.heap.size < w0.heap.size := by subst hw0; simp
  simp only [hw0]
  clear hw0
  go_at_call 52
  with_reducible refine (C_awake20 _).mono ?_
  rintro e w1 ⟨rfl, f1⟩
  have b1 := (f1.block w.heap.size l0).trans b0
  have F1 := F0.trans (f1.mono (Nat.le_of_lt l0))
  have l1 : w.heap.size < w1.heap.size := Nat.lt_of_lt_of_le l0 f1.size
  obtain ⟨c10, c11, c12, c13, z10, z11, z12, z13⟩ := four_cells b1
  clear f1 b0 F0 l0
  go_wp2_with (first
    | (go_at_call 58; ((with_reducible refine (hB _).mono ?_); rintro e w2 ⟨rfl, f2⟩; have b2 := (f2.block w.heap.size l1).trans b1; obtain ⟨c20, c21, c22, c23, z20, z21, z22, z23⟩ := four_cells b2; have F2 := F1.trans (f2.mono (Nat.le_of_lt l1)); have l2 : w.heap.size < w2.heap.size := Nat.lt_of_lt_of_le l1 f2.size))
    | (go_at_call 55; with_reducible refine (hO _).mono ?_; rintro e w3 ⟨rfl, f3⟩)
    | (go_at_call 59; with_reducible refine (hN _).mono ?_; rintro e w4 ⟨rfl, f4⟩))
  go_ret
  have z3 := f3.size
  simp [World.setCell] at z3
  refine ⟨rfl, Below.trans (Below.trans ?_ (f3.mono ?_)) (f4.mono ?_)⟩
  · repeat (first | exact F2 | refine Below.alloc ?_ (by simp [World.setCell]; omega) _ | refine Below.setCell ?_ (by exact Nat.le_refl _) _)
  · simp [World.setCell]; omega
  · omega
set_option maxHeartbeats 1600000 in
set_option maxRecDepth 100000 in
theorem names_low (k : Int) (h : ¬ 1 ≤ k) (s s' : ByteArray) (r r' : Bool) (n n' : Int)
    (c : Cmd) (hO : ∀ v, Calls Try.prog 55 #[.agg #[.int .i64 k, .string s', .bool r', .int .i64 n']] v fun e w' => e = .returned c.val ∧ Below v.heap.size v w')
    (hB : ∀ v, Calls Try.prog 58 #[.agg #[.int .i64 k, .string s, .bool r, .int .i64 n]] v fun e w' => e = .returned (.agg #[.int .i64 k, .string s', .bool r', .int .i64 n']) ∧ Below v.heap.size v w')
    (hN : ∀ v, Calls Try.prog 59 #[c.val] v fun e w' => e = .returned (.string ⟨#[]⟩) ∧ Below v.heap.size v w') (w : World) :
    Calls Try.prog 12 #[.agg #[.int .i64 k, .string s, .bool r, .int .i64 n]] w fun e w' => e = .returned (.bool true) ∧ Below w.heap.size w w' := by
  go_enter Try.func12, Try.ntmps12
  go_wp2_with (fail)
  obtain ⟨w0, hw0⟩ : ∃ w0, w.alloc (.cells #[.int .i64 k, .string s, .bool r, .int .i64 n] 92) = w0 := ⟨_, rfl⟩
  have b0 : w0.heap[w.heap.size]? = some (.cells #[.int .i64 k, .string s, .bool r, .int .i64 n] 92 (0, 0)) := by subst hw0; exact heap_alloc_new w _
  have F0 : Below w.heap.size w w0 := by subst hw0; exact (Below.refl _ _).alloc (Nat.le_refl _) _
  have l0 : w.heap.size < w0.heap.size := by subst hw0; simp
  simp only [hw0]
  clear hw0
  go_at_call 52
  with_reducible refine (C_awake20 _).mono ?_
  rintro e w1 ⟨rfl, f1⟩
  have b1 := (f1.block w.heap.size l0).trans b0
  have F1 := F0.trans (f1.mono (Nat.le_of_lt l0))
  have l1 : w.heap.size < w1.heap.size := Nat.lt_of_lt_of_le l0 f1.size
  obtain ⟨c10, c11, c12, c13, z10, z11, z12, z13⟩ := four_cells b1
  clear f1 b0 F0 l0
  go_wp2_with (first
    | (go_at_call 58; ((with_reducible refine (hB _).mono ?_); rintro e w2 ⟨rfl, f2⟩; have b2 := (f2.block w.heap.size l1).trans b1; obtain ⟨c20, c21, c22, c23, z20, z21, z22, z23⟩ := four_cells b2; have F2 := F1.trans (f2.mono (Nat.le_of_lt l1)); have l2 : w.heap.size < w2.heap.size := Nat.lt_of_lt_of_le l1 f2.size))
    | (go_at_call 55; with_reducible refine (hO _).mono ?_; rintro e w3 ⟨rfl, f3⟩)
    | (go_at_call 59; with_reducible refine (hN _).mono ?_; rintro e w4 ⟨rfl, f4⟩))
  go_ret
  have z3 := f3.size
  simp [World.setCell] at z3
  refine ⟨rfl, Below.trans (Below.trans ?_ (f3.mono ?_)) (f4.mono ?_)⟩
  · repeat (first | exact F2 | refine Below.alloc ?_ (by simp [World.setCell]; omega) _ | refine Below.setCell ?_ (by exact Nat.le_refl _) _)
  · simp [World.setCell]; omega
  · omega
set_option maxHeartbeats 1600000 in
set_option maxRecDepth 100000 in
theorem names_high (k : Int) (h1 : 1 ≤ k) (h : ¬ k ≤ 5) (s s' : ByteArray) (r r' : Bool) (n n' : Int)
    (c : Cmd) (hO : ∀ v, Calls Try.prog 55 #[.agg #[.int .i64 k, .string s', .bool r', .int .i64 n']] v fun e w' => e = .returned c.val ∧ Below v.heap.size v w')
    (hB : ∀ v, Calls Try.prog 58 #[.agg #[.int .i64 k, .string s, .bool r, .int .i64 n]] v fun e w' => e = .returned (.agg #[.int .i64 k, .string s', .bool r', .int .i64 n']) ∧ Below v.heap.size v w')
    (hN : ∀ v, Calls Try.prog 59 #[c.val] v fun e w' => e = .returned (.string ⟨#[]⟩) ∧ Below v.heap.size v w') (w : World) :
    Calls Try.prog 12 #[.agg #[.int .i64 k, .string s, .bool r, .int .i64 n]] w fun e w' => e = .returned (.bool true) ∧ Below w.heap.size w w' := by
  go_enter Try.func12, Try.ntmps12
  go_wp2_with (fail)
  obtain ⟨w0, hw0⟩ : ∃ w0, w.alloc (.cells #[.int .i64 k, .string s, .bool r, .int .i64 n] 92) = w0 := ⟨_, rfl⟩
  have b0 : w0.heap[w.heap.size]? = some (.cells #[.int .i64 k, .string s, .bool r, .int .i64 n] 92 (0, 0)) := by subst hw0; exact heap_alloc_new w _
  have F0 : Below w.heap.size w w0 := by subst hw0; exact (Below.refl _ _).alloc (Nat.le_refl _) _
  have l0 : w.heap.size < w0.heap.size := by subst hw0; simp
  simp only [hw0]
  clear hw0
  go_at_call 52
  with_reducible refine (C_awake20 _).mono ?_
  rintro e w1 ⟨rfl, f1⟩
  have b1 := (f1.block w.heap.size l0).trans b0
  have F1 := F0.trans (f1.mono (Nat.le_of_lt l0))
  have l1 : w.heap.size < w1.heap.size := Nat.lt_of_lt_of_le l0 f1.size
  obtain ⟨c10, c11, c12, c13, z10, z11, z12, z13⟩ := four_cells b1
  clear f1 b0 F0 l0
  go_wp2_with (first
    | (go_at_call 58; ((with_reducible refine (hB _).mono ?_); rintro e w2 ⟨rfl, f2⟩; have b2 := (f2.block w.heap.size l1).trans b1; obtain ⟨c20, c21, c22, c23, z20, z21, z22, z23⟩ := four_cells b2; have F2 := F1.trans (f2.mono (Nat.le_of_lt l1)); have l2 : w.heap.size < w2.heap.size := Nat.lt_of_lt_of_le l1 f2.size))
    | (go_at_call 55; with_reducible refine (hO _).mono ?_; rintro e w3 ⟨rfl, f3⟩)
    | (go_at_call 59; with_reducible refine (hN _).mono ?_; rintro e w4 ⟨rfl, f4⟩))
  go_ret
  have z3 := f3.size
  simp [World.setCell] at z3
  refine ⟨rfl, Below.trans (Below.trans ?_ (f3.mono ?_)) (f4.mono ?_)⟩
  · repeat (first | exact F2 | refine Below.alloc ?_ (by simp [World.setCell]; omega) _ | refine Below.setCell ?_ (by exact Nat.le_refl _) _)
  · simp [World.setCell]; omega
  · omega
theorem W_CommandNames (k : Int) (s : ByteArray) (r : Bool) (n : Int) (hk : k ≤ 9223372036854775807) (hk0 : -9223372036854775808 ≤ k) (hs : s.size ≤ 140737488351232) (hn : n ≤ 9223372036854775807) (hn0 : -9223372036854775808 ≤ n) (w : World) :
    Calls Try.prog 12 #[.agg #[.int .i64 k, .string s, .bool r, .int .i64 n]] w fun e w' => e = .returned (.bool true) ∧ Below w.heap.size w w' := by
  have hO := fun v => C_own k (bs k s) (br k r) (bn k n) v
  have hB := fun v => C_bare k s r n hs v
  have hN := fun v => C_name (own k (bs k s) (br k r) (bn k n)) (own_bare_fit k s r n hn hn0) v
  unfold fcmd at hO hB
  have hw : k = 1 ∨ k = 2 ∨ k = 3 ∨ k = 4 ∨ k = 5 ∨ ((¬ 1 ≤ k ∨ (1 ≤ k ∧ ¬ k ≤ 5)) ∧ (own k (bs k s) (br k r) (bn k n)).word = ⟨#[]⟩) := by
    by_cases h1 : k = 1
    · exact .inl h1
    by_cases h2 : k = 2
    · exact .inr (.inl h2)
    by_cases h3 : k = 3
    · exact .inr (.inr (.inl h3))
    by_cases h4 : k = 4
    · exact .inr (.inr (.inr (.inl h4)))
    by_cases h5 : k = 5
    · exact .inr (.inr (.inr (.inr (.inl h5))))
    refine .inr (.inr (.inr (.inr (.inr ⟨by omega, ?_⟩))))
    unfold own
    simp only [h1, h2, h3, h4, h5, if_false]
    split <;> rfl
  rcases hw with rfl | rfl | rfl | rfl | rfl | ⟨h | ⟨h1, h⟩, hw⟩
  · exact names_1 s _ r _ n _ _ hO hB hN w
  · exact names_2 s _ r _ n _ _ hO hB hN w
  · exact names_3 s _ r _ n _ _ hO hB hN w
  · exact names_4 s _ r _ n _ _ hO hB hN w
  · exact names_5 s _ r _ n _ _ hO hB hN w
  · rw [hw] at hN
    exact names_low k h s _ r _ n _ _ hO hB hN w
  · rw [hw] at hN
    exact names_high k h1 h s _ r _ n _ _ hO hB hN w
end Go.Proofs.Ytajccobndgechaa.Cod
