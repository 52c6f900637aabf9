/- Commands: parse. Contracts by what each call means. -/
import Derived.Test.YtajccobndgechaaCmdB
namespace Go.Proofs.Ytajccobndgechaa.Cod
open Go.RowKit
set_option linter.unusedVariables false
def tail (c : Cmd) (st : St) : Cmd × Nat := if inEnd st ≠ 0 then (.none, inEnd st) else if c.chk ≠ 0 then (.none, c.chk) else (c, 0)
theorem tail3 (c : Cmd) (st : St) : (∃ y, inEnd st = y ∧ y ≠ 0 ∧ tail c st = (.none, y)) ∨ (inEnd st = 0 ∧ ∃ x, c.chk = x ∧ x ≠ 0 ∧ tail c st = (.none, x)) ∨ (inEnd st = 0 ∧ c.chk = 0 ∧ tail c st = (c, 0)) := by
  unfold tail
  by_cases h : inEnd st = 0
  · by_cases h2 : c.chk = 0
    · exact .inr (.inr ⟨h, h2, by rw [if_neg (by omega), if_neg (by omega)]⟩)
    · exact .inr (.inl ⟨h, _, rfl, h2, by rw [if_neg (by omega), if_pos h2]⟩)
  · exact .inl ⟨_, rfl, h, by rw [if_pos h]⟩
theorem inText_len (most : Int) (st : St) : (inText most st).1.length ≤ st.1.length := by
  have h2 : ∀ m st, (inNum m st).2.1.length ≤ st.1.length := by
    intro m st
    unfold inNum
    split
    · simp
    · split
      · simp
      · split
        · simp
        · simp
  have h1 : ∀ n st, (inRaw n st).1.length ≤ st.1.length := by
    intro n st
    unfold inRaw
    split
    · simp
    · split
      · simp
      · simp; omega
  exact Nat.le_trans (h1 _ _) (h2 _ _)
theorem inNum_len (m : Int) (st : St) : (inNum m st).2.1.length ≤ st.1.length := by
  unfold inNum
  split
  · simp
  · split
    · simp
    · split
      · simp
      · simp
def cparse (l : List UInt8) : Cmd × Nat :=
  if (inNum 255 (l, 0)).2.2 ≠ 0 then tail .none (inNum 255 (l, 0)).2 else
  if (inNum 255 (l, 0)).1 = 1 then
    tail (.block (S (inText 4096 (inNum 1 (inNum 255 (l, 0)).2).2).1) (decide ((inNum 1 (inNum 255 (l, 0)).2).1 = 1))) (inText 4096 (inNum 1 (inNum 255 (l, 0)).2).2).2 else
  if (inNum 255 (l, 0)).1 = 2 then
    tail (.cert (S (inText 4096 (inNum 1 (inNum 255 (l, 0)).2).2).1) (decide ((inNum 1 (inNum 255 (l, 0)).2).1 = 1))) (inText 4096 (inNum 1 (inNum 255 (l, 0)).2).2).2 else
  if (inNum 255 (l, 0)).1 = 3 then tail (.clock (inNum 4611686018427387904 (inNum 255 (l, 0)).2).1) (inNum 4611686018427387904 (inNum 255 (l, 0)).2).2 else
  if (inNum 255 (l, 0)).1 = 4 then tail (.mark (S (inText 4096 (inNum 255 (l, 0)).2).1)) (inText 4096 (inNum 255 (l, 0)).2).2 else
  if (inNum 255 (l, 0)).1 = 5 then tail .unmark (inNum 255 (l, 0)).2 else
  tail .none (fail 18 (inNum 255 (l, 0)).2)
theorem C_fail18 {b : Nat} {st : St} {w : World} (h : IsIn b st w) :
    Calls Try.prog 74 #[.pointer (some ⟨b, 0, none⟩), .int .i64 18] w fun e w' => e = .returned (.tuple #[]) ∧ IsIn b (fail 18 st) w' ∧ Fi b w w' := C_fail 18 h
theorem ret_pair {a b : Cmd × Nat} (h : a = b) : Ending.returned (.tuple #[a.1.val, .int .i64 a.2]) = .returned (.tuple #[b.1.val, .int .i64 b.2]) := by rw [h]
set_option maxHeartbeats 1600000 in
set_option maxRecDepth 100000 in
theorem parse_block (s : ByteArray) (hs : s.size ≤ 140737488351232) (st1 st2 st3 : St) (x : Nat) (t : List UInt8) (r : Bool) (e1 : inNum 255 (bl s, 0) = (1, st1)) (z1 : (st1.2 : Int) = 0) (e2 : inNum 1 st1 = (x, st2)) (hr : ((x : Int) == 1) = r) (e3 : inText 4096 st2 = (t, st3)) (hfit : Cmd.fit (.block (S t) r)) (w : World) :
    Calls Try.prog 53 #[.string s] w fun e w' => e = .returned (.tuple #[(tail (.block (S t) r) st3).1.val, .int .i64 (tail (.block (S t) r) st3).2]) ∧ Below w.heap.size w w' := by
  have hC := fun v => C_chk (.block (S t) r) hfit v
  have hE := fun v (h : IsIn w.heap.size st3 v) => C_end h
  rcases tail3 (.block (S t) r) st3 with ⟨y, eE, ny, eT⟩ | ⟨eE, x, eC, nx, eT⟩ | ⟨eE, eC, eT⟩
  all_goals
    rw [eT]
    clear eT
    simp only [eE] at hE
    try simp only [eC] at hC
    clear eE
    simp only [Cmd.val] at hC ⊢
    go_enter Try.func53, Try.ntmps53
    go_wp2_with (first
      | (go_at_call 38; with_reducible refine (C_of s _ hs).mono ?_; rintro e w1 ⟨rfl, h1, g1⟩)
      | (go_at_call 39; with_reducible refine (C_inum 255 h1).mono ?_; simp only [e1]; rintro e w2 ⟨rfl, h2, g2⟩)
      | (go_at_call 47; with_reducible refine (C_err h2).mono ?_; rintro e w9 ⟨rfl, rfl⟩)
      | (go_at_call 39; with_reducible refine (C_inum 1 h2).mono ?_; simp only [e2]; rintro e w3 ⟨rfl, h3, g3⟩)
      | (go_at_call 44; with_reducible refine (C_itext 4096 h3).mono ?_; simp only [e3]; rintro e w4 ⟨rfl, h4, g4⟩)
      | (go_at_call 41; with_reducible refine (hE _ h4).mono ?_; rintro e w8 ⟨rfl, rfl⟩)
      | (go_at_call 57; with_reducible refine (hC _).mono ?_; rintro e w7 ⟨rfl, g7⟩))
    go_ret2
    refine ⟨rfl, ?_⟩
    have F := g1.trans (Fi.below (g2.trans (g3.trans g4)) (Nat.le_refl _) g1.size)
    first
      | exact F.trans (g7.mono F.size)
      | exact F
set_option maxHeartbeats 1600000 in
set_option maxRecDepth 100000 in
theorem parse_cert (s : ByteArray) (hs : s.size ≤ 140737488351232) (st1 st2 st3 : St) (x : Nat) (t : List UInt8) (r : Bool) (e1 : inNum 255 (bl s, 0) = (2, st1)) (z1 : (st1.2 : Int) = 0) (e2 : inNum 1 st1 = (x, st2)) (hr : ((x : Int) == 1) = r) (e3 : inText 4096 st2 = (t, st3)) (hfit : Cmd.fit (.cert (S t) r)) (w : World) :
    Calls Try.prog 53 #[.string s] w fun e w' => e = .returned (.tuple #[(tail (.cert (S t) r) st3).1.val, .int .i64 (tail (.cert (S t) r) st3).2]) ∧ Below w.heap.size w w' := by
  have hC := fun v => C_chk (.cert (S t) r) hfit v
  have hE := fun v (h : IsIn w.heap.size st3 v) => C_end h
  rcases tail3 (.cert (S t) r) st3 with ⟨y, eE, ny, eT⟩ | ⟨eE, x, eC, nx, eT⟩ | ⟨eE, eC, eT⟩
  all_goals
    rw [eT]
    clear eT
    simp only [eE] at hE
    try simp only [eC] at hC
    clear eE
    simp only [Cmd.val] at hC ⊢
    go_enter Try.func53, Try.ntmps53
    go_wp2_with (first
      | (go_at_call 38; with_reducible refine (C_of s _ hs).mono ?_; rintro e w1 ⟨rfl, h1, g1⟩)
      | (go_at_call 39; with_reducible refine (C_inum 255 h1).mono ?_; simp only [e1]; rintro e w2 ⟨rfl, h2, g2⟩)
      | (go_at_call 47; with_reducible refine (C_err h2).mono ?_; rintro e w9 ⟨rfl, rfl⟩)
      | (go_at_call 39; with_reducible refine (C_inum 1 h2).mono ?_; simp only [e2]; rintro e w3 ⟨rfl, h3, g3⟩)
      | (go_at_call 44; with_reducible refine (C_itext 4096 h3).mono ?_; simp only [e3]; rintro e w4 ⟨rfl, h4, g4⟩)
      | (go_at_call 41; with_reducible refine (hE _ h4).mono ?_; rintro e w8 ⟨rfl, rfl⟩)
      | (go_at_call 57; with_reducible refine (hC _).mono ?_; rintro e w7 ⟨rfl, g7⟩))
    go_ret2
    refine ⟨rfl, ?_⟩
    have F := g1.trans (Fi.below (g2.trans (g3.trans g4)) (Nat.le_refl _) g1.size)
    first
      | exact F.trans (g7.mono F.size)
      | exact F
set_option maxHeartbeats 1600000 in
set_option maxRecDepth 100000 in
theorem parse_clock (s : ByteArray) (hs : s.size ≤ 140737488351232) (st1 st2 : St) (x : Nat) (e1 : inNum 255 (bl s, 0) = (3, st1)) (z1 : (st1.2 : Int) = 0) (e2 : inNum 4611686018427387904 st1 = (x, st2)) (hfit : Cmd.fit (.clock x)) (w : World) :
    Calls Try.prog 53 #[.string s] w fun e w' => e = .returned (.tuple #[(tail (.clock x) st2).1.val, .int .i64 (tail (.clock x) st2).2]) ∧ Below w.heap.size w w' := by
  have hC := fun v => C_chk (.clock x) hfit v
  have hE := fun v (h : IsIn w.heap.size st2 v) => C_end h
  rcases tail3 (.clock x) st2 with ⟨y, eE, ny, eT⟩ | ⟨eE, x, eC, nx, eT⟩ | ⟨eE, eC, eT⟩
  all_goals
    rw [eT]
    clear eT
    simp only [eE] at hE
    try simp only [eC] at hC
    clear eE
    simp only [Cmd.val] at hC ⊢
    go_enter Try.func53, Try.ntmps53
    go_wp2_with (first
      | (go_at_call 38; with_reducible refine (C_of s _ hs).mono ?_; rintro e w1 ⟨rfl, h1, g1⟩)
      | (go_at_call 39; with_reducible refine (C_inum 255 h1).mono ?_; simp only [e1]; rintro e w2 ⟨rfl, h2, g2⟩)
      | (go_at_call 47; with_reducible refine (C_err h2).mono ?_; rintro e w9 ⟨rfl, rfl⟩)
      | (go_at_call 39; with_reducible refine (C_inum 4611686018427387904 h2).mono ?_; simp only [e2]; rintro e w3 ⟨rfl, h3, g3⟩)
      | (go_at_call 41; with_reducible refine (hE _ h3).mono ?_; rintro e w8 ⟨rfl, rfl⟩)
      | (go_at_call 57; with_reducible refine (hC _).mono ?_; rintro e w7 ⟨rfl, g7⟩))
    go_ret2
    refine ⟨rfl, ?_⟩
    have F := g1.trans (Fi.below (g2.trans g3) (Nat.le_refl _) g1.size)
    first
      | exact F.trans (g7.mono F.size)
      | exact F
set_option maxHeartbeats 1600000 in
set_option maxRecDepth 100000 in
theorem parse_mark (s : ByteArray) (hs : s.size ≤ 140737488351232) (st1 st2 : St) (t : List UInt8) (e1 : inNum 255 (bl s, 0) = (4, st1)) (z1 : (st1.2 : Int) = 0) (e2 : inText 4096 st1 = (t, st2)) (hfit : Cmd.fit (.mark (S t))) (w : World) :
    Calls Try.prog 53 #[.string s] w fun e w' => e = .returned (.tuple #[(tail (.mark (S t)) st2).1.val, .int .i64 (tail (.mark (S t)) st2).2]) ∧ Below w.heap.size w w' := by
  have hC := fun v => C_chk (.mark (S t)) hfit v
  have hE := fun v (h : IsIn w.heap.size st2 v) => C_end h
  rcases tail3 (.mark (S t)) st2 with ⟨y, eE, ny, eT⟩ | ⟨eE, x, eC, nx, eT⟩ | ⟨eE, eC, eT⟩
  all_goals
    rw [eT]
    clear eT
    simp only [eE] at hE
    try simp only [eC] at hC
    clear eE
    simp only [Cmd.val] at hC ⊢
    go_enter Try.func53, Try.ntmps53
    go_wp2_with (first
      | (go_at_call 38; with_reducible refine (C_of s _ hs).mono ?_; rintro e w1 ⟨rfl, h1, g1⟩)
      | (go_at_call 39; with_reducible refine (C_inum 255 h1).mono ?_; simp only [e1]; rintro e w2 ⟨rfl, h2, g2⟩)
      | (go_at_call 47; with_reducible refine (C_err h2).mono ?_; rintro e w9 ⟨rfl, rfl⟩)
      | (go_at_call 44; with_reducible refine (C_itext 4096 h2).mono ?_; simp only [e2]; rintro e w3 ⟨rfl, h3, g3⟩)
      | (go_at_call 41; with_reducible refine (hE _ h3).mono ?_; rintro e w8 ⟨rfl, rfl⟩)
      | (go_at_call 57; with_reducible refine (hC _).mono ?_; rintro e w7 ⟨rfl, g7⟩))
    go_ret2
    refine ⟨rfl, ?_⟩
    have F := g1.trans (Fi.below (g2.trans g3) (Nat.le_refl _) g1.size)
    first
      | exact F.trans (g7.mono F.size)
      | exact F
set_option maxHeartbeats 1600000 in
set_option maxRecDepth 100000 in
theorem parse_unmark (s : ByteArray) (hs : s.size ≤ 140737488351232) (st1 : St) (e1 : inNum 255 (bl s, 0) = (5, st1)) (z1 : (st1.2 : Int) = 0) (hfit : Cmd.fit (.unmark)) (w : World) :
    Calls Try.prog 53 #[.string s] w fun e w' => e = .returned (.tuple #[(tail (.unmark) st1).1.val, .int .i64 (tail (.unmark) st1).2]) ∧ Below w.heap.size w w' := by
  have hC := fun v => C_chk (.unmark) hfit v
  have hE := fun v (h : IsIn w.heap.size st1 v) => C_end h
  rcases tail3 (.unmark) st1 with ⟨y, eE, ny, eT⟩ | ⟨eE, x, eC, nx, eT⟩ | ⟨eE, eC, eT⟩
  all_goals
    rw [eT]
    clear eT
    simp only [eE] at hE
    try simp only [eC] at hC
    clear eE
    simp only [Cmd.val] at hC ⊢
    go_enter Try.func53, Try.ntmps53
    go_wp2_with (first
      | (go_at_call 38; with_reducible refine (C_of s _ hs).mono ?_; rintro e w1 ⟨rfl, h1, g1⟩)
      | (go_at_call 39; with_reducible refine (C_inum 255 h1).mono ?_; simp only [e1]; rintro e w2 ⟨rfl, h2, g2⟩)
      | (go_at_call 47; with_reducible refine (C_err h2).mono ?_; rintro e w9 ⟨rfl, rfl⟩)

      | (go_at_call 41; with_reducible refine (hE _ h2).mono ?_; rintro e w8 ⟨rfl, rfl⟩)
      | (go_at_call 57; with_reducible refine (hC _).mono ?_; rintro e w7 ⟨rfl, g7⟩))
    go_ret2
    refine ⟨rfl, ?_⟩
    have F := g1.trans (Fi.below (g2) (Nat.le_refl _) g1.size)
    first
      | exact F.trans (g7.mono F.size)
      | exact F
set_option maxHeartbeats 1600000 in
set_option maxRecDepth 100000 in
theorem parse_else (s : ByteArray) (hs : s.size ≤ 140737488351232) (st1 : St) (k : Nat) (e1 : inNum 255 (bl s, 0) = (k, st1)) (z1 : (st1.2 : Int) = 0) (n1 : ¬ (k : Int) = 1) (n2 : ¬ (k : Int) = 2) (n3 : ¬ (k : Int) = 3) (n4 : ¬ (k : Int) = 4) (n5 : ¬ (k : Int) = 5) (m1 : ¬ k = 1) (m2 : ¬ k = 2) (m3 : ¬ k = 3) (m4 : ¬ k = 4) (m5 : ¬ k = 5) (hfit : Cmd.fit (.none)) (w : World) :
    Calls Try.prog 53 #[.string s] w fun e w' => e = .returned (.tuple #[(tail (.none) (fail 18 st1)).1.val, .int .i64 (tail (.none) (fail 18 st1)).2]) ∧ Below w.heap.size w w' := by
  have hC := fun v => C_chk (.none) hfit v
  have hE := fun v (h : IsIn w.heap.size (fail 18 st1) v) => C_end h
  rcases tail3 (.none) (fail 18 st1) with ⟨y, eE, ny, eT⟩ | ⟨eE, x, eC, nx, eT⟩ | ⟨eE, eC, eT⟩
  case inr.inr => exact absurd eC (by simp [Cmd.chk])
  all_goals
    rw [eT]
    clear eT
    simp only [eE] at hE
    try simp only [eC] at hC
    clear eE
    simp only [Cmd.val] at hC ⊢
    go_enter Try.func53, Try.ntmps53
    go_wp2_with (first
      | (go_at_call 38; with_reducible refine (C_of s _ hs).mono ?_; rintro e w1 ⟨rfl, h1, g1⟩)
      | (go_at_call 39; with_reducible refine (C_inum 255 h1).mono ?_; simp only [e1]; rintro e w2 ⟨rfl, h2, g2⟩)
      | (go_at_call 47; with_reducible refine (C_err h2).mono ?_; rintro e w9 ⟨rfl, rfl⟩)
      | (go_at_call 74; with_reducible refine (C_fail18 h2).mono ?_; rintro e w3 ⟨rfl, h3, g3⟩)
      | (go_at_call 41; with_reducible refine (hE _ h3).mono ?_; rintro e w8 ⟨rfl, rfl⟩)
      | (go_at_call 57; with_reducible refine (hC _).mono ?_; rintro e w7 ⟨rfl, g7⟩))
    go_ret2
    refine ⟨rfl, ?_⟩
    have F := g1.trans (Fi.below (g2.trans g3) (Nat.le_refl _) g1.size)
    first
      | exact F.trans (g7.mono F.size)
      | exact F
set_option maxHeartbeats 1600000 in
set_option maxRecDepth 100000 in
theorem parse_bad (s : ByteArray) (hs : s.size ≤ 140737488351232) (st1 : St) (k : Nat) (e1 : inNum 255 (bl s, 0) = (k, st1)) (z1 : ¬ (st1.2 : Int) = 0) (z2 : ¬ st1.2 = 0) (hfit : Cmd.fit (.none)) (w : World) :
    Calls Try.prog 53 #[.string s] w fun e w' => e = .returned (.tuple #[(tail (.none) st1).1.val, .int .i64 (tail (.none) st1).2]) ∧ Below w.heap.size w w' := by
  have hC := fun v => C_chk (.none) hfit v
  have hE := fun v (h : IsIn w.heap.size st1 v) => C_end h
  rcases tail3 (.none) st1 with ⟨y, eE, ny, eT⟩ | ⟨eE, x, eC, nx, eT⟩ | ⟨eE, eC, eT⟩
  case inr.inr => exact absurd eC (by simp [Cmd.chk])
  all_goals
    rw [eT]
    clear eT
    simp only [eE] at hE
    try simp only [eC] at hC
    clear eE
    simp only [Cmd.val] at hC ⊢
    go_enter Try.func53, Try.ntmps53
    go_wp2_with (first
      | (go_at_call 38; with_reducible refine (C_of s _ hs).mono ?_; rintro e w1 ⟨rfl, h1, g1⟩)
      | (go_at_call 39; with_reducible refine (C_inum 255 h1).mono ?_; simp only [e1]; rintro e w2 ⟨rfl, h2, g2⟩)
      | (go_at_call 47; with_reducible refine (C_err h2).mono ?_; rintro e w9 ⟨rfl, rfl⟩)

      | (go_at_call 41; with_reducible refine (hE _ h2).mono ?_; rintro e w8 ⟨rfl, rfl⟩)
      | (go_at_call 57; with_reducible refine (hC _).mono ?_; rintro e w7 ⟨rfl, g7⟩))
    go_ret2
    refine ⟨rfl, ?_⟩
    have F := g1.trans (Fi.below (g2) (Nat.le_refl _) g1.size)
    first
      | exact F.trans (g7.mono F.size)
      | exact F
theorem int_beq (x k : Nat) : ((x : Int) == (k : Int)) = decide (x = k) := by
  by_cases h : x = k
  · subst h; simp
  · rw [decide_eq_false h]; simp; omega
theorem C_parse (s : ByteArray) (hs : s.size ≤ 140737488351232) (w : World) :
    Calls Try.prog 53 #[.string s] w fun e w' => e = .returned (.tuple #[(cparse (bl s)).1.val, .int .i64 (cparse (bl s)).2]) ∧ Below w.heap.size w w' := by
  unfold cparse
  have hl := inNum_len 255 (bl s, 0)
  have hlb := bl_len s
  simp only [hlb] at hl
  generalize e1 : inNum 255 (bl s, 0) = p at hl
  obtain ⟨k, st1⟩ := p
  simp only at hl
  by_cases z : st1.2 = 0
  · have z1 : (st1.2 : Int) = 0 := by omega
    rw [if_neg (by simpa using z)]
    have hl2 := inNum_len 1 st1
    have hl3 := inText_len 4096 (inNum 1 st1).2
    have hl4 := inText_len 4096 st1
    have F3 : (S (inText 4096 (inNum 1 st1).2).1).size ≤ 140737488351232 := by rw [S_size]; omega
    have F4 : (S (inText 4096 st1).1).size ≤ 140737488351232 := by rw [S_size]; omega
    by_cases h1 : k = 1
    · subst h1
      rw [if_pos rfl]
      exact parse_block s hs st1 (inNum 1 st1).2 (inText 4096 (inNum 1 st1).2).2 (inNum 1 st1).1 (inText 4096 (inNum 1 st1).2).1 _ e1 z1 rfl (int_beq _ _) rfl F3 w
    rw [if_neg h1]
    by_cases h2 : k = 2
    · subst h2
      rw [if_pos rfl]
      exact parse_cert s hs st1 (inNum 1 st1).2 (inText 4096 (inNum 1 st1).2).2 (inNum 1 st1).1 (inText 4096 (inNum 1 st1).2).1 _ e1 z1 rfl (int_beq _ _) rfl F3 w
    rw [if_neg h2]
    by_cases h3 : k = 3
    · subst h3
      rw [if_pos rfl]
      have F5 : Cmd.fit (.clock ((inNum 4611686018427387904 st1).1 : Nat)) := by have := inNum_le 4611686018427387904 st1; constructor <;> omega
      exact parse_clock s hs st1 (inNum 4611686018427387904 st1).2 (inNum 4611686018427387904 st1).1 e1 z1 rfl F5 w
    rw [if_neg h3]
    by_cases h4 : k = 4
    · subst h4
      rw [if_pos rfl]
      exact parse_mark s hs st1 (inText 4096 st1).2 (inText 4096 st1).1 e1 z1 rfl F4 w
    rw [if_neg h4]
    by_cases h5 : k = 5
    · subst h5
      rw [if_pos rfl]
      exact parse_unmark s hs st1 e1 z1 trivial w
    rw [if_neg h5]
    exact parse_else s hs st1 k e1 z1 (by omega) (by omega) (by omega) (by omega) (by omega) h1 h2 h3 h4 h5 trivial w
  · rw [if_pos (by simpa using z)]
    exact parse_bad s hs st1 k e1 (by omega) z trivial w
end Go.Proofs.Ytajccobndgechaa.Cod
