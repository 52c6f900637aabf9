/- Commands: what may be. Contracts by what each call means. -/
import Derived.Test.YtajccobndgechaaNames
namespace Go.Proofs.Ytajccobndgechaa.Cod
open Go.RowKit
inductive Cmd where | none | block (s : ByteArray) (r : Bool) | cert (s : ByteArray) (r : Bool) | clock (n : Int) | mark (s : ByteArray) | unmark | other
def Cmd.val : Cmd → Value
  | .none => .nilIface
  | .block s r => .iface 134 (.agg #[.string s, .bool r])
  | .cert s r => .iface 135 (.agg #[.string s, .bool r])
  | .clock n => .iface 131 (.agg #[.int .i64 n])
  | .mark s => .iface 137 (.agg #[.string s])
  | .unmark => .iface 139 (.agg #[])
  | .other => .iface 142 (.agg #[])
def small (s : ByteArray) : Nat := if 4096 < s.size then 4 else 0
def Cmd.chk : Cmd → Nat
  | .none => 18
  | .other => 18
  | .unmark => 0
  | .block s _ => small s
  | .cert s _ => small s
  | .clock n => if 0 ≤ n ∧ n ≤ 1073741824 then 0 else 1
  | .mark s => if 4096 < s.size then 4 else if isKey (bl s) then 0 else 1
def Cmd.fit : Cmd → Prop
  | .block s _ => s.size ≤ 140737488351232
  | .cert s _ => s.size ≤ 140737488351232
  | .mark s => s.size ≤ 140737488351232
  | .clock n => -9223372036854775808 ≤ n ∧ n ≤ 9223372036854775807
  | _ => True
set_option maxHeartbeats 800000 in
set_option maxRecDepth 100000 in
theorem C_small (s : ByteArray) (w : World) : Calls Try.prog 82 #[.string s] w fun e w' => e = .returned (.int .i64 (small s)) ∧ w = w' := by
  unfold small
  by_cases h : 4096 < s.size
  · rw [if_pos h]
    go_enter Try.func82, Try.ntmps82
    go_wp2
    go_ret
    exact ⟨rfl, rfl⟩
  · rw [if_neg h]
    go_enter Try.func82, Try.ntmps82
    go_wp2
    go_ret
    exact ⟨rfl, rfl⟩
theorem ta_nil_block (w : World) : (Instr.typeAssert .nilIface 88 134 true).run Try.prog w = .ok (.tuple #[.agg #[.string ⟨#[]⟩, .bool false], .bool false]) w := by kernel_rfl
theorem ta_hit_block (v : Value) (w : World) : (Instr.typeAssert (.iface 134 v) 88 134 true).run Try.prog w = .ok (.tuple #[v, .bool true]) w := by kernel_rfl
theorem ta_cert_block (v : Value) (w : World) : (Instr.typeAssert (.iface 135 v) 88 134 true).run Try.prog w = .ok (.tuple #[.agg #[.string ⟨#[]⟩, .bool false], .bool false]) w := by kernel_rfl
theorem ta_clock_block (v : Value) (w : World) : (Instr.typeAssert (.iface 131 v) 88 134 true).run Try.prog w = .ok (.tuple #[.agg #[.string ⟨#[]⟩, .bool false], .bool false]) w := by kernel_rfl
theorem ta_mark_block (v : Value) (w : World) : (Instr.typeAssert (.iface 137 v) 88 134 true).run Try.prog w = .ok (.tuple #[.agg #[.string ⟨#[]⟩, .bool false], .bool false]) w := by kernel_rfl
theorem ta_unmark_block (v : Value) (w : World) : (Instr.typeAssert (.iface 139 v) 88 134 true).run Try.prog w = .ok (.tuple #[.agg #[.string ⟨#[]⟩, .bool false], .bool false]) w := by kernel_rfl
theorem ta_other_block (v : Value) (w : World) : (Instr.typeAssert (.iface 142 v) 88 134 true).run Try.prog w = .ok (.tuple #[.agg #[.string ⟨#[]⟩, .bool false], .bool false]) w := by kernel_rfl
theorem ta_nil_cert (w : World) : (Instr.typeAssert .nilIface 88 135 true).run Try.prog w = .ok (.tuple #[.agg #[.string ⟨#[]⟩, .bool false], .bool false]) w := by kernel_rfl
theorem ta_hit_cert (v : Value) (w : World) : (Instr.typeAssert (.iface 135 v) 88 135 true).run Try.prog w = .ok (.tuple #[v, .bool true]) w := by kernel_rfl
theorem ta_block_cert (v : Value) (w : World) : (Instr.typeAssert (.iface 134 v) 88 135 true).run Try.prog w = .ok (.tuple #[.agg #[.string ⟨#[]⟩, .bool false], .bool false]) w := by kernel_rfl
theorem ta_clock_cert (v : Value) (w : World) : (Instr.typeAssert (.iface 131 v) 88 135 true).run Try.prog w = .ok (.tuple #[.agg #[.string ⟨#[]⟩, .bool false], .bool false]) w := by kernel_rfl
theorem ta_mark_cert (v : Value) (w : World) : (Instr.typeAssert (.iface 137 v) 88 135 true).run Try.prog w = .ok (.tuple #[.agg #[.string ⟨#[]⟩, .bool false], .bool false]) w := by kernel_rfl
theorem ta_unmark_cert (v : Value) (w : World) : (Instr.typeAssert (.iface 139 v) 88 135 true).run Try.prog w = .ok (.tuple #[.agg #[.string ⟨#[]⟩, .bool false], .bool false]) w := by kernel_rfl
theorem ta_other_cert (v : Value) (w : World) : (Instr.typeAssert (.iface 142 v) 88 135 true).run Try.prog w = .ok (.tuple #[.agg #[.string ⟨#[]⟩, .bool false], .bool false]) w := by kernel_rfl
theorem ta_nil_clock (w : World) : (Instr.typeAssert .nilIface 88 131 true).run Try.prog w = .ok (.tuple #[.agg #[.int .i64 0], .bool false]) w := by kernel_rfl
theorem ta_hit_clock (v : Value) (w : World) : (Instr.typeAssert (.iface 131 v) 88 131 true).run Try.prog w = .ok (.tuple #[v, .bool true]) w := by kernel_rfl
theorem ta_block_clock (v : Value) (w : World) : (Instr.typeAssert (.iface 134 v) 88 131 true).run Try.prog w = .ok (.tuple #[.agg #[.int .i64 0], .bool false]) w := by kernel_rfl
theorem ta_cert_clock (v : Value) (w : World) : (Instr.typeAssert (.iface 135 v) 88 131 true).run Try.prog w = .ok (.tuple #[.agg #[.int .i64 0], .bool false]) w := by kernel_rfl
theorem ta_mark_clock (v : Value) (w : World) : (Instr.typeAssert (.iface 137 v) 88 131 true).run Try.prog w = .ok (.tuple #[.agg #[.int .i64 0], .bool false]) w := by kernel_rfl
theorem ta_unmark_clock (v : Value) (w : World) : (Instr.typeAssert (.iface 139 v) 88 131 true).run Try.prog w = .ok (.tuple #[.agg #[.int .i64 0], .bool false]) w := by kernel_rfl
theorem ta_other_clock (v : Value) (w : World) : (Instr.typeAssert (.iface 142 v) 88 131 true).run Try.prog w = .ok (.tuple #[.agg #[.int .i64 0], .bool false]) w := by kernel_rfl
theorem ta_nil_mark (w : World) : (Instr.typeAssert .nilIface 88 137 true).run Try.prog w = .ok (.tuple #[.agg #[.string ⟨#[]⟩], .bool false]) w := by kernel_rfl
theorem ta_hit_mark (v : Value) (w : World) : (Instr.typeAssert (.iface 137 v) 88 137 true).run Try.prog w = .ok (.tuple #[v, .bool true]) w := by kernel_rfl
theorem ta_block_mark (v : Value) (w : World) : (Instr.typeAssert (.iface 134 v) 88 137 true).run Try.prog w = .ok (.tuple #[.agg #[.string ⟨#[]⟩], .bool false]) w := by kernel_rfl
theorem ta_cert_mark (v : Value) (w : World) : (Instr.typeAssert (.iface 135 v) 88 137 true).run Try.prog w = .ok (.tuple #[.agg #[.string ⟨#[]⟩], .bool false]) w := by kernel_rfl
theorem ta_clock_mark (v : Value) (w : World) : (Instr.typeAssert (.iface 131 v) 88 137 true).run Try.prog w = .ok (.tuple #[.agg #[.string ⟨#[]⟩], .bool false]) w := by kernel_rfl
theorem ta_unmark_mark (v : Value) (w : World) : (Instr.typeAssert (.iface 139 v) 88 137 true).run Try.prog w = .ok (.tuple #[.agg #[.string ⟨#[]⟩], .bool false]) w := by kernel_rfl
theorem ta_other_mark (v : Value) (w : World) : (Instr.typeAssert (.iface 142 v) 88 137 true).run Try.prog w = .ok (.tuple #[.agg #[.string ⟨#[]⟩], .bool false]) w := by kernel_rfl
theorem ta_nil_unmark (w : World) : (Instr.typeAssert .nilIface 88 139 true).run Try.prog w = .ok (.tuple #[.agg #[], .bool false]) w := by kernel_rfl
theorem ta_hit_unmark (v : Value) (w : World) : (Instr.typeAssert (.iface 139 v) 88 139 true).run Try.prog w = .ok (.tuple #[v, .bool true]) w := by kernel_rfl
theorem ta_block_unmark (v : Value) (w : World) : (Instr.typeAssert (.iface 134 v) 88 139 true).run Try.prog w = .ok (.tuple #[.agg #[], .bool false]) w := by kernel_rfl
theorem ta_cert_unmark (v : Value) (w : World) : (Instr.typeAssert (.iface 135 v) 88 139 true).run Try.prog w = .ok (.tuple #[.agg #[], .bool false]) w := by kernel_rfl
theorem ta_clock_unmark (v : Value) (w : World) : (Instr.typeAssert (.iface 131 v) 88 139 true).run Try.prog w = .ok (.tuple #[.agg #[], .bool false]) w := by kernel_rfl
theorem ta_mark_unmark (v : Value) (w : World) : (Instr.typeAssert (.iface 137 v) 88 139 true).run Try.prog w = .ok (.tuple #[.agg #[], .bool false]) w := by kernel_rfl
theorem ta_other_unmark (v : Value) (w : World) : (Instr.typeAssert (.iface 142 v) 88 139 true).run Try.prog w = .ok (.tuple #[.agg #[], .bool false]) w := by kernel_rfl
set_option maxHeartbeats 800000 in
set_option maxRecDepth 100000 in
theorem chk_none (w : World) : Calls Try.prog 57 #[.nilIface] w fun e w' => e = .returned (.int .i64 (18)) ∧ Below w.heap.size w w' := by
  have q0 := ta_nil_block
  have q1 := ta_nil_cert
  have q2 := ta_nil_clock
  have q3 := ta_nil_mark
  have q4 := ta_nil_unmark
  go_enter Try.func57, Try.ntmps57
  go_wp2
  go_ret
  exact ⟨rfl, Below.refl _ _⟩
set_option maxHeartbeats 800000 in
set_option maxRecDepth 100000 in
theorem chk_other (w : World) : Calls Try.prog 57 #[.iface 142 (.agg #[])] w fun e w' => e = .returned (.int .i64 (18)) ∧ Below w.heap.size w w' := by
  have q0 := ta_other_block
  have q1 := ta_other_cert
  have q2 := ta_other_clock
  have q3 := ta_other_mark
  have q4 := ta_other_unmark
  go_enter Try.func57, Try.ntmps57
  go_wp2
  go_ret
  exact ⟨rfl, Below.refl _ _⟩
set_option maxHeartbeats 800000 in
set_option maxRecDepth 100000 in
theorem chk_unmark (w : World) : Calls Try.prog 57 #[.iface 139 (.agg #[])] w fun e w' => e = .returned (.int .i64 (0)) ∧ Below w.heap.size w w' := by
  have q0 := ta_unmark_block
  have q1 := ta_unmark_cert
  have q2 := ta_unmark_clock
  have q3 := ta_unmark_mark
  have q4 := ta_hit_unmark
  go_enter Try.func57, Try.ntmps57
  go_wp2
  go_ret
  exact ⟨rfl, (Below.refl _ _).alloc (Nat.le_refl _) _⟩
set_option maxHeartbeats 800000 in
set_option maxRecDepth 100000 in
theorem chk_block (s : ByteArray) (r : Bool) (w : World) : Calls Try.prog 57 #[.iface 134 (.agg #[.string s, .bool r])] w fun e w' => e = .returned (.int .i64 (small s : Nat)) ∧ Below w.heap.size w w' := by
  have q0 := ta_hit_block
  go_enter Try.func57, Try.ntmps57
  go_wp2_with (first
    | (go_at_call 82; with_reducible refine (C_small s _).mono ?_; rintro e w1 ⟨rfl, rfl⟩))
  go_ret
  exact ⟨rfl, (Below.refl _ _).alloc (Nat.le_refl _) _⟩
set_option maxHeartbeats 800000 in
set_option maxRecDepth 100000 in
theorem chk_cert (s : ByteArray) (r : Bool) (w : World) : Calls Try.prog 57 #[.iface 135 (.agg #[.string s, .bool r])] w fun e w' => e = .returned (.int .i64 (small s : Nat)) ∧ Below w.heap.size w w' := by
  have q0 := ta_cert_block
  have q1 := ta_hit_cert
  go_enter Try.func57, Try.ntmps57
  go_wp2_with (first
    | (go_at_call 82; with_reducible refine (C_small s _).mono ?_; rintro e w1 ⟨rfl, rfl⟩))
  go_ret
  exact ⟨rfl, (Below.refl _ _).alloc (Nat.le_refl _) _⟩
set_option maxHeartbeats 800000 in
set_option maxRecDepth 100000 in
theorem chk_clock (n : Int) (w : World) : Calls Try.prog 57 #[.iface 131 (.agg #[.int .i64 n])] w fun e w' => e = .returned (.int .i64 (((if 0 ≤ n ∧ n ≤ 1073741824 then 0 else 1 : Nat) : Int))) ∧ Below w.heap.size w w' := by
  by_cases h0 : 0 ≤ n
  · by_cases h1 : n ≤ 1073741824
    · rw [if_pos ⟨h0, h1⟩]
      have q0 := ta_clock_block
      have q1 := ta_clock_cert
      have q2 := ta_hit_clock
      go_enter Try.func57, Try.ntmps57
      go_wp2
      go_ret
      exact ⟨rfl, (Below.refl _ _).alloc (Nat.le_refl _) _⟩
    · rw [if_neg (fun h => h1 h.2)]
      have h1' : ¬ n ≤ 1073741824 := h1
      have q0 := ta_clock_block
      have q1 := ta_clock_cert
      have q2 := ta_hit_clock
      go_enter Try.func57, Try.ntmps57
      go_wp2
      go_ret
      exact ⟨rfl, (Below.refl _ _).alloc (Nat.le_refl _) _⟩
  · rw [if_neg (fun h => h0 h.1)]
    have q0 := ta_clock_block
    have q1 := ta_clock_cert
    have q2 := ta_hit_clock
    go_enter Try.func57, Try.ntmps57
    go_wp2
    go_ret
    exact ⟨rfl, (Below.refl _ _).alloc (Nat.le_refl _) _⟩
set_option maxHeartbeats 800000 in
set_option maxRecDepth 100000 in
theorem chk_mark (s : ByteArray) (w : World) (hs : s.size ≤ 140737488351232) : Calls Try.prog 57 #[.iface 137 (.agg #[.string s])] w fun e w' => e = .returned (.int .i64 (((if 4096 < s.size then 4 else if isKey (bl s) then 0 else 1 : Nat) : Int))) ∧ Below w.heap.size w w' := by
  by_cases h : 4096 < s.size
  · have hsm : small s = 4 := if_pos h
    rw [if_pos h]
    have hC := fun v => C_small s v
    rw [hsm] at hC
    clear hsm h
    have q0 := ta_mark_block
    have q1 := ta_mark_cert
    have q2 := ta_mark_clock
    have q3 := ta_hit_mark
    go_enter Try.func57, Try.ntmps57
    go_wp2_with (first
    | (go_at_call 82; with_reducible refine (hC _).mono ?_; rintro e w1 ⟨rfl, rfl⟩))
    go_ret
    exact ⟨rfl, (Below.refl _ _).alloc (Nat.le_refl _) _⟩
  · have hsm : small s = 0 := if_neg h
    rw [if_neg h]
    have hC := fun v => C_small s v
    have hN := fun v => C_names s hs v
    rw [hsm] at hC
    clear hsm h
    cases hk : isKey (bl s) with
    | true =>
      rw [hk] at hN
      clear hk
      have q0 := ta_mark_block
      have q1 := ta_mark_cert
      have q2 := ta_mark_clock
      have q3 := ta_hit_mark
      go_enter Try.func57, Try.ntmps57
      go_wp2_with (first
    | (go_at_call 82; with_reducible refine (hC _).mono ?_; rintro e w1 ⟨rfl, rfl⟩)
        | (go_at_call 83; with_reducible refine (hN _).mono ?_; rintro e w2 ⟨x, rfl, f2⟩))
      go_ret
      exact ⟨rfl, ((Below.refl _ _).alloc (Nat.le_refl _) _).trans (f2.mono (by simp))⟩
    | false =>
      rw [hk] at hN
      clear hk
      have q0 := ta_mark_block
      have q1 := ta_mark_cert
      have q2 := ta_mark_clock
      have q3 := ta_hit_mark
      go_enter Try.func57, Try.ntmps57
      go_wp2_with (first
    | (go_at_call 82; with_reducible refine (hC _).mono ?_; rintro e w1 ⟨rfl, rfl⟩)
        | (go_at_call 83; with_reducible refine (hN _).mono ?_; rintro e w2 ⟨x, rfl, f2⟩))
      go_ret
      exact ⟨rfl, ((Below.refl _ _).alloc (Nat.le_refl _) _).trans (f2.mono (by simp))⟩
theorem C_chk (c : Cmd) (h : c.fit) (w : World) : Calls Try.prog 57 #[c.val] w fun e w' => e = .returned (.int .i64 c.chk) ∧ Below w.heap.size w w' := by
  cases c with
  | none => exact chk_none w
  | other => exact chk_other w
  | unmark => exact chk_unmark w
  | block s r => exact chk_block s r w
  | cert s r => exact chk_cert s r w
  | clock n => exact chk_clock n w
  | mark s => exact chk_mark s w h
end Go.Proofs.Ytajccobndgechaa.Cod
