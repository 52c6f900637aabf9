/- Commands: words, kinds, bits. Contracts by what each call means. -/
import Derived.Test.YtajccobndgechaaCmd
namespace Go.Proofs.Ytajccobndgechaa.Cod
open Go.RowKit
set_option linter.unusedSimpArgs false
def Cmd.kind : Cmd → Nat
  | .block _ _ => 1
  | .cert _ _ => 2
  | .clock _ => 3
  | .mark _ => 4
  | .unmark => 5
  | .none => 0
  | .other => 3
def Cmd.word : Cmd → ByteArray
  | .block _ _ => ⟨#[98, 108, 111, 99, 107]⟩
  | .cert _ _ => ⟨#[99, 101, 114, 116]⟩
  | .clock _ => ⟨#[99, 108, 111, 99, 107]⟩
  | .mark _ => ⟨#[109, 97, 114, 107]⟩
  | .unmark => ⟨#[117, 110, 109, 97, 114, 107]⟩
  | .none => ⟨#[]⟩
  | .other => ⟨#[]⟩
def bit (b : Bool) : Nat := if b then 1 else 0
def own (k : Int) (s : ByteArray) (r : Bool) (n : Int) : Cmd :=
  if k = 0 then .none else if k = 1 then .block s r else if k = 2 then .cert s r else if k = 3 then .clock n else if k = 4 then .mark s else if k = 5 then .unmark else .other
def fcmd (k : Int) (s : ByteArray) (r : Bool) (n : Int) : Value := .agg #[.int .i64 k, .string s, .bool r, .int .i64 n]

set_option maxHeartbeats 800000 in
set_option maxRecDepth 100000 in
theorem C_bit (b : Bool) (w : World) : Calls Try.prog 81 #[.bool b] w fun e w' => e = .returned (.int .i64 (bit b)) ∧ w = w' := by
  unfold bit
  cases b
  all_goals
    go_enter Try.func81, Try.ntmps81
    go_wp2
    go_ret
    exact ⟨rfl, rfl⟩
set_option maxHeartbeats 800000 in
set_option maxRecDepth 100000 in
theorem kind_block (s : ByteArray) (r : Bool) (w : World) : Calls Try.prog 114 #[.agg #[.string s, .bool r]] w fun e w' => e = .returned (.int .i64 1) ∧ Below w.heap.size w w' := by
  go_enter Try.func114, Try.ntmps114
  go_wp2
  go_ret
  exact ⟨rfl, (Below.refl _ _).alloc (Nat.le_refl _) _⟩
theorem mt_block (v : Value) (w : World) : Sem.run Try.prog (method 276 134 v "Kind") w = .ok (114, v) w := by kernel_rfl
set_option maxHeartbeats 800000 in
set_option maxRecDepth 100000 in
theorem kind_cert (s : ByteArray) (r : Bool) (w : World) : Calls Try.prog 115 #[.agg #[.string s, .bool r]] w fun e w' => e = .returned (.int .i64 2) ∧ Below w.heap.size w w' := by
  go_enter Try.func115, Try.ntmps115
  go_wp2
  go_ret
  exact ⟨rfl, (Below.refl _ _).alloc (Nat.le_refl _) _⟩
theorem mt_cert (v : Value) (w : World) : Sem.run Try.prog (method 276 135 v "Kind") w = .ok (115, v) w := by kernel_rfl
set_option maxHeartbeats 800000 in
set_option maxRecDepth 100000 in
theorem kind_clock (n : Int) (w : World) : Calls Try.prog 79 #[.agg #[.int .i64 n]] w fun e w' => e = .returned (.int .i64 3) ∧ Below w.heap.size w w' := by
  go_enter Try.func79, Try.ntmps79
  go_wp2
  go_ret
  exact ⟨rfl, (Below.refl _ _).alloc (Nat.le_refl _) _⟩
theorem mt_clock (v : Value) (w : World) : Sem.run Try.prog (method 276 131 v "Kind") w = .ok (79, v) w := by kernel_rfl
set_option maxHeartbeats 800000 in
set_option maxRecDepth 100000 in
theorem kind_mark (s : ByteArray) (w : World) : Calls Try.prog 116 #[.agg #[.string s]] w fun e w' => e = .returned (.int .i64 4) ∧ Below w.heap.size w w' := by
  go_enter Try.func116, Try.ntmps116
  go_wp2
  go_ret
  exact ⟨rfl, (Below.refl _ _).alloc (Nat.le_refl _) _⟩
theorem mt_mark (v : Value) (w : World) : Sem.run Try.prog (method 276 137 v "Kind") w = .ok (116, v) w := by kernel_rfl
set_option maxHeartbeats 800000 in
set_option maxRecDepth 100000 in
theorem kind_unmark (w : World) : Calls Try.prog 117 #[.agg #[]] w fun e w' => e = .returned (.int .i64 5) ∧ Below w.heap.size w w' := by
  go_enter Try.func117, Try.ntmps117
  go_wp2
  go_ret
  exact ⟨rfl, (Below.refl _ _).alloc (Nat.le_refl _) _⟩
theorem mt_unmark (v : Value) (w : World) : Sem.run Try.prog (method 276 139 v "Kind") w = .ok (117, v) w := by kernel_rfl
theorem ix_block (w : World) : Sem.run Try.prog (Instr.index 148 (.agg #[.string ⟨#[]⟩, .string ⟨#[98, 108, 111, 99, 107]⟩, .string ⟨#[99, 101, 114, 116]⟩, .string ⟨#[]⟩, .string ⟨#[109, 97, 114, 107]⟩, .string ⟨#[117, 110, 109, 97, 114, 107]⟩]) (.int .i64 1)) w = .ok (.string ⟨#[98, 108, 111, 99, 107]⟩) w := by kernel_rfl
theorem ix_cert (w : World) : Sem.run Try.prog (Instr.index 148 (.agg #[.string ⟨#[]⟩, .string ⟨#[98, 108, 111, 99, 107]⟩, .string ⟨#[99, 101, 114, 116]⟩, .string ⟨#[]⟩, .string ⟨#[109, 97, 114, 107]⟩, .string ⟨#[117, 110, 109, 97, 114, 107]⟩]) (.int .i64 2)) w = .ok (.string ⟨#[99, 101, 114, 116]⟩) w := by kernel_rfl
theorem ix_mark (w : World) : Sem.run Try.prog (Instr.index 148 (.agg #[.string ⟨#[]⟩, .string ⟨#[98, 108, 111, 99, 107]⟩, .string ⟨#[99, 101, 114, 116]⟩, .string ⟨#[]⟩, .string ⟨#[109, 97, 114, 107]⟩, .string ⟨#[117, 110, 109, 97, 114, 107]⟩]) (.int .i64 4)) w = .ok (.string ⟨#[109, 97, 114, 107]⟩) w := by kernel_rfl
theorem ix_unmark (w : World) : Sem.run Try.prog (Instr.index 148 (.agg #[.string ⟨#[]⟩, .string ⟨#[98, 108, 111, 99, 107]⟩, .string ⟨#[99, 101, 114, 116]⟩, .string ⟨#[]⟩, .string ⟨#[109, 97, 114, 107]⟩, .string ⟨#[117, 110, 109, 97, 114, 107]⟩]) (.int .i64 5)) w = .ok (.string ⟨#[117, 110, 109, 97, 114, 107]⟩) w := by kernel_rfl
set_option maxHeartbeats 800000 in
set_option maxRecDepth 100000 in
theorem name_block (s : ByteArray) (r : Bool) (x : Int) (hx : ¬ x = 18) (hC : ∀ w, Calls Try.prog 57 #[.iface 134 (.agg #[.string s, .bool r])] w fun e w' => e = .returned (.int .i64 x) ∧ Below w.heap.size w w') (w : World) :
    Calls Try.prog 59 #[.iface 134 (.agg #[.string s, .bool r])] w fun e w' => e = .returned (.string (Cmd.block s r).word) ∧ Below w.heap.size w w' := by
  unfold Cmd.word
  have q2 := ta_block_clock
  have q3 := mt_block
  have q4 := ix_block
  go_enter Try.func59, Try.ntmps59
  go_wp2_with (first
    | (go_at_call 57; with_reducible refine (hC _).mono ?_; rintro e w1 ⟨rfl, f1⟩)
    | (with_reducible refine (kind_block s r _).mono ?_; rintro e w2 ⟨rfl, f2⟩))
  go_ret
  exact ⟨rfl, (f1.alloc f1.size _).trans (f2.mono (by have := f1.size; simp; omega))⟩
set_option maxHeartbeats 800000 in
set_option maxRecDepth 100000 in
theorem name_cert (s : ByteArray) (r : Bool) (x : Int) (hx : ¬ x = 18) (hC : ∀ w, Calls Try.prog 57 #[.iface 135 (.agg #[.string s, .bool r])] w fun e w' => e = .returned (.int .i64 x) ∧ Below w.heap.size w w') (w : World) :
    Calls Try.prog 59 #[.iface 135 (.agg #[.string s, .bool r])] w fun e w' => e = .returned (.string (Cmd.cert s r).word) ∧ Below w.heap.size w w' := by
  unfold Cmd.word
  have q2 := ta_cert_clock
  have q3 := mt_cert
  have q4 := ix_cert
  go_enter Try.func59, Try.ntmps59
  go_wp2_with (first
    | (go_at_call 57; with_reducible refine (hC _).mono ?_; rintro e w1 ⟨rfl, f1⟩)
    | (with_reducible refine (kind_cert s r _).mono ?_; rintro e w2 ⟨rfl, f2⟩))
  go_ret
  exact ⟨rfl, (f1.alloc f1.size _).trans (f2.mono (by have := f1.size; simp; omega))⟩
set_option maxHeartbeats 800000 in
set_option maxRecDepth 100000 in
theorem name_clock (n : Int) (x : Int) (hx : ¬ x = 18) (hC : ∀ w, Calls Try.prog 57 #[.iface 131 (.agg #[.int .i64 n])] w fun e w' => e = .returned (.int .i64 x) ∧ Below w.heap.size w w') (w : World) :
    Calls Try.prog 59 #[.iface 131 (.agg #[.int .i64 n])] w fun e w' => e = .returned (.string (Cmd.clock n).word) ∧ Below w.heap.size w w' := by
  unfold Cmd.word
  have q2 := ta_hit_clock
  go_enter Try.func59, Try.ntmps59
  go_wp2_with (first
    | (go_at_call 57; with_reducible refine (hC _).mono ?_; rintro e w1 ⟨rfl, f1⟩))
  go_ret
  exact ⟨rfl, f1.alloc f1.size _⟩
set_option maxHeartbeats 800000 in
set_option maxRecDepth 100000 in
theorem name_mark (s : ByteArray) (x : Int) (hx : ¬ x = 18) (hC : ∀ w, Calls Try.prog 57 #[.iface 137 (.agg #[.string s])] w fun e w' => e = .returned (.int .i64 x) ∧ Below w.heap.size w w') (w : World) :
    Calls Try.prog 59 #[.iface 137 (.agg #[.string s])] w fun e w' => e = .returned (.string (Cmd.mark s).word) ∧ Below w.heap.size w w' := by
  unfold Cmd.word
  have q2 := ta_mark_clock
  have q3 := mt_mark
  have q4 := ix_mark
  go_enter Try.func59, Try.ntmps59
  go_wp2_with (first
    | (go_at_call 57; with_reducible refine (hC _).mono ?_; rintro e w1 ⟨rfl, f1⟩)
    | (with_reducible refine (kind_mark s _).mono ?_; rintro e w2 ⟨rfl, f2⟩))
  go_ret
  exact ⟨rfl, (f1.alloc f1.size _).trans (f2.mono (by have := f1.size; simp; omega))⟩
set_option maxHeartbeats 800000 in
set_option maxRecDepth 100000 in
theorem name_unmark (x : Int) (hx : ¬ x = 18) (hC : ∀ w, Calls Try.prog 57 #[.iface 139 (.agg #[])] w fun e w' => e = .returned (.int .i64 x) ∧ Below w.heap.size w w') (w : World) :
    Calls Try.prog 59 #[.iface 139 (.agg #[])] w fun e w' => e = .returned (.string (Cmd.unmark ).word) ∧ Below w.heap.size w w' := by
  unfold Cmd.word
  have q2 := ta_unmark_clock
  have q3 := mt_unmark
  have q4 := ix_unmark
  go_enter Try.func59, Try.ntmps59
  go_wp2_with (first
    | (go_at_call 57; with_reducible refine (hC _).mono ?_; rintro e w1 ⟨rfl, f1⟩)
    | (with_reducible refine (kind_unmark  _).mono ?_; rintro e w2 ⟨rfl, f2⟩))
  go_ret
  exact ⟨rfl, (f1.alloc f1.size _).trans (f2.mono (by have := f1.size; simp; omega))⟩
set_option maxHeartbeats 800000 in
set_option maxRecDepth 100000 in
theorem name_none (w : World) : Calls Try.prog 59 #[.nilIface] w fun e w' => e = .returned (.string (Cmd.none).word) ∧ Below w.heap.size w w' := by
  unfold Cmd.word
  have hC := chk_none
  go_enter Try.func59, Try.ntmps59
  go_wp2_with (first
    | (go_at_call 57; with_reducible refine (hC _).mono ?_; rintro e w1 ⟨rfl, f1⟩))
  go_ret
  exact ⟨rfl, f1⟩
set_option maxHeartbeats 800000 in
set_option maxRecDepth 100000 in
theorem name_other (w : World) : Calls Try.prog 59 #[.iface 142 (.agg #[])] w fun e w' => e = .returned (.string (Cmd.other).word) ∧ Below w.heap.size w w' := by
  unfold Cmd.word
  have hC := chk_other
  go_enter Try.func59, Try.ntmps59
  go_wp2_with (first
    | (go_at_call 57; with_reducible refine (hC _).mono ?_; rintro e w1 ⟨rfl, f1⟩))
  go_ret
  exact ⟨rfl, f1⟩
theorem small_ne (s : ByteArray) : ¬ ((small s : Nat) : Int) = 18 := by unfold small; split <;> omega
theorem C_name (c : Cmd) (h : c.fit) (w : World) : Calls Try.prog 59 #[c.val] w fun e w' => e = .returned (.string c.word) ∧ Below w.heap.size w w' := by
  cases c with
  | none => exact name_none w
  | other => exact name_other w
  | unmark => exact name_unmark _ (by omega) chk_unmark w
  | block s r => exact name_block s r _ (small_ne s) (chk_block s r) w
  | cert s r => exact name_cert s r _ (small_ne s) (chk_cert s r) w
  | clock n => exact name_clock n _ (by split <;> omega) (chk_clock n) w
  | mark s => exact name_mark s _ (by split <;> (try split) <;> omega) (fun w => chk_mark s w h) w
set_option maxHeartbeats 800000 in
set_option maxRecDepth 100000 in
theorem C_own (k : Int) (s : ByteArray) (r : Bool) (n : Int) (w : World) : Calls Try.prog 55 #[fcmd k s r n] w fun e w' => e = .returned (own k s r n).val ∧ Below w.heap.size w w' := by
  unfold own fcmd
  by_cases h0 : k = 0
  · subst h0
    rw [if_pos rfl]
    go_enter Try.func55, Try.ntmps55
    go_wp2
    go_ret
    exact ⟨rfl, (Below.refl _ _).alloc (Nat.le_refl _) _⟩
  rw [if_neg h0]
  by_cases h1 : k = 1
  · subst h1
    simp only [Int.reduceEq, if_true, if_false]
    go_enter Try.func55, Try.ntmps55
    go_wp2
    go_ret
    exact ⟨rfl, (Below.refl _ _).alloc (Nat.le_refl _) _⟩
  rw [if_neg h1]
  by_cases h2 : k = 2
  · subst h2
    simp only [Int.reduceEq, if_true, if_false]
    go_enter Try.func55, Try.ntmps55
    go_wp2
    go_ret
    exact ⟨rfl, (Below.refl _ _).alloc (Nat.le_refl _) _⟩
  rw [if_neg h2]
  by_cases h3 : k = 3
  · subst h3
    simp only [Int.reduceEq, if_true, if_false]
    go_enter Try.func55, Try.ntmps55
    go_wp2
    go_ret
    exact ⟨rfl, (Below.refl _ _).alloc (Nat.le_refl _) _⟩
  rw [if_neg h3]
  by_cases h4 : k = 4
  · subst h4
    simp only [Int.reduceEq, if_true, if_false]
    go_enter Try.func55, Try.ntmps55
    go_wp2
    go_ret
    exact ⟨rfl, (Below.refl _ _).alloc (Nat.le_refl _) _⟩
  rw [if_neg h4]
  by_cases h5 : k = 5
  · subst h5
    simp only [Int.reduceEq, if_true, if_false]
    go_enter Try.func55, Try.ntmps55
    go_wp2
    go_ret
    exact ⟨rfl, (Below.refl _ _).alloc (Nat.le_refl _) _⟩
  rw [if_neg h5]
  go_enter Try.func55, Try.ntmps55
  go_wp2
  go_ret
  exact ⟨rfl, (Below.refl _ _).alloc (Nat.le_refl _) _⟩
/-- what is left of a command -/
def bs (k : Int) (s : ByteArray) : ByteArray := if k = 1 ∨ k = 2 ∨ k = 4 then S ((bl s).take 4100) else ⟨#[]⟩
def br (k : Int) (r : Bool) : Bool := if k = 1 ∨ k = 2 then r else false
def bn (k : Int) (n : Int) : Int := if k = 3 then n else 0
theorem results_cell {P : Program} {w : World} {fn : Func} {tmps : Array Value} {x : Tmp} {t : TypeId} {p : Addr} {v : Value} (h : fn.results = #[.cell x t]) (hx : tmps.getD x undef = .pointer (some p)) (hl : (loadVar t p).run P w = .ok v w) :
    (results fn tmps).run P w = .ok v w := by
  simp only [Array.getD_eq_getD_getElem?] at hx
  simp [results, h, hx, hl, asAddr]
set_option maxHeartbeats 800000 in
set_option maxRecDepth 100000 in
theorem C_bare (k : Int) (s : ByteArray) (r : Bool) (n : Int) (hs : s.size ≤ 140737488351232) (w : World) : Calls Try.prog 58 #[fcmd k s r n] w fun e w' => e = .returned (fcmd k (bs k s) (br k r) (bn k n)) ∧ Below w.heap.size w w' := by
  have hC := fun v => C_cut s 4100 (by omega) (by omega) hs v
  have e4 : (4100 : Int).toNat = 4100 := rfl
  rw [e4] at hC
  unfold bs br bn fcmd
  by_cases h1 : k = 1
  · subst h1
    simp only [Int.reduceEq, if_true, if_false, or_true, or_false, true_or, false_or]
    go_enter Try.func58, Try.ntmps58
    go_wp2_with (first
      | (go_at_call 19; with_reducible refine (hC _).mono ?_; rintro e w1 ⟨rfl, rfl⟩))
    refine bodyPost_ret (results_cell rfl rfl ?_) rfl ⟨rfl, ?_⟩
    · go_simp
    repeat (first | exact (((Below.refl _ _).alloc (Nat.le_refl _) _).alloc (by simp) _) | refine Below.set ?_ (by simp) _ _)
  by_cases h2 : k = 2
  · subst h2
    simp only [Int.reduceEq, if_true, if_false, or_true, or_false, true_or, false_or]
    go_enter Try.func58, Try.ntmps58
    go_wp2_with (first
      | (go_at_call 19; with_reducible refine (hC _).mono ?_; rintro e w1 ⟨rfl, rfl⟩))
    refine bodyPost_ret (results_cell rfl rfl ?_) rfl ⟨rfl, ?_⟩
    · go_simp
    repeat (first | exact (((Below.refl _ _).alloc (Nat.le_refl _) _).alloc (by simp) _) | refine Below.set ?_ (by simp) _ _)
  by_cases h3 : k = 3
  · subst h3
    simp only [Int.reduceEq, if_true, if_false, or_true, or_false, true_or, false_or]
    go_enter Try.func58, Try.ntmps58
    go_wp2_with (first
      | (go_at_call 19; with_reducible refine (hC _).mono ?_; rintro e w1 ⟨rfl, rfl⟩))
    refine bodyPost_ret (results_cell rfl rfl ?_) rfl ⟨rfl, ?_⟩
    · go_simp
    repeat (first | exact (((Below.refl _ _).alloc (Nat.le_refl _) _).alloc (by simp) _) | refine Below.set ?_ (by simp) _ _)
  by_cases h4 : k = 4
  · subst h4
    simp only [Int.reduceEq, if_true, if_false, or_true, or_false, true_or, false_or]
    go_enter Try.func58, Try.ntmps58
    go_wp2_with (first
      | (go_at_call 19; with_reducible refine (hC _).mono ?_; rintro e w1 ⟨rfl, rfl⟩))
    refine bodyPost_ret (results_cell rfl rfl ?_) rfl ⟨rfl, ?_⟩
    · go_simp
    repeat (first | exact (((Below.refl _ _).alloc (Nat.le_refl _) _).alloc (by simp) _) | refine Below.set ?_ (by simp) _ _)
  simp only [h1, h2, h3, h4, or_self, if_false]
  go_enter Try.func58, Try.ntmps58
  go_wp2_with (first
    | (go_at_call 19; with_reducible refine (hC _).mono ?_; rintro e w1 ⟨rfl, rfl⟩))
  refine bodyPost_ret (results_cell rfl rfl ?_) rfl ⟨rfl, ?_⟩
  · go_simp
  repeat (first | exact (((Below.refl _ _).alloc (Nat.le_refl _) _).alloc (by simp) _) | refine Below.set ?_ (by simp) _ _)
end Go.Proofs.Ytajccobndgechaa.Cod
