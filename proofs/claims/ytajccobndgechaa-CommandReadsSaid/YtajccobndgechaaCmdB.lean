/- Commands: bytes. Contracts by what each call means. -/
import Derived.Test.YtajccobndgechaaCmdA
import Derived.Shelf.Strings.MapGrows
namespace Go.Proofs.Ytajccobndgechaa.Cod
open Go.RowKit
theorem Bd.alloc {B b : Nat} {l : List UInt8} {w : World} (h : Bd 70 B b l w) (o : Obj) : Bd 70 B b l (w.alloc o) := Lib.IsBuilderF.alloc h o
theorem Bd.below {B b : Nat} {l : List UInt8} {w w' : World} (h : Bd 70 B b l w) (f : Below w.heap.size w w') : Bd 70 B b l w' := Lib.IsBuilderF.below h f
theorem Bd.drew {B b : Nat} {l : List UInt8} {w : World} (h : Bd 70 B b l w) : Bd 70 B b l w.drew := h
def txt (s : ByteArray) : List UInt8 := numB s.size ++ bl s
def Cmd.body : Cmd → List UInt8
  | .block s r => numB 1 ++ (numB (bit r) ++ txt s)
  | .cert s r => numB 2 ++ (numB (bit r) ++ txt s)
  | .clock n => numB 3 ++ numB n.toNat
  | .mark s => numB 4 ++ txt s
  | .unmark => numB 5
  | .none => []
  | .other => []
def Cmd.bytes (c : Cmd) : List UInt8 := if c.chk = 0 then c.body else []
theorem two_cells {w : World} {b : Nat} {u v : Value} {t : TypeId} (h : w.heap[b]? = some (.cells #[u, v] t (0, 0))) : w.cell? ⟨b, 0, none⟩ = some u ∧ w.cell? ⟨b, 1, none⟩ = some v :=
  ⟨by rw [Lib.cell_of_heap h]; rfl, by rw [Lib.cell_of_heap h]; rfl⟩
theorem numB_ne (x : Nat) : numB x ≠ [] := by simp [numB]
set_option maxHeartbeats 800000 in
set_option maxRecDepth 100000 in
theorem bytes_bad (v : Value) (x : Int) (hx : ¬ x = 0) (hC : ∀ w, Calls Try.prog 57 #[v] w fun e w' => e = .returned (.int .i64 x) ∧ Below w.heap.size w w') (w : World) :
    Calls Try.prog 56 #[v] w fun e w' => e = .returned (.string (S [])) ∧ Below w.heap.size w w' := by
  go_enter Try.func56, Try.ntmps56
  go_wp2_with (first
    | (go_at_call 57; with_reducible refine (hC _).mono ?_; rintro e w1 ⟨rfl, f1⟩))
  go_ret
  exact ⟨rfl, f1⟩
set_option maxHeartbeats 800000 in
set_option maxRecDepth 100000 in
theorem bytes_block (s : ByteArray) (r : Bool) (hs : s.size ≤ 4096) (hC : ∀ w, Calls Try.prog 57 #[.iface 134 (.agg #[.string s, .bool r])] w fun e w' => e = .returned (.int .i64 0) ∧ Below w.heap.size w w') (w : World) :
    Calls Try.prog 56 #[.iface 134 (.agg #[.string s, .bool r])] w fun e w' => e = .returned (.string (S (Cmd.block s r).body)) ∧ Below w.heap.size w w' := by
  unfold Cmd.body
  have q0 := ta_hit_block
  have q9 := mt_block
  go_enter Try.func56, Try.ntmps56
  go_wp2_with (first
    | (go_at_call 57; with_reducible refine (hC _).mono ?_; rintro e w1 ⟨rfl, f1⟩)
    | (with_reducible refine (kind_block s r _).mono ?_; rintro e w2 ⟨rfl, f2⟩))
  have hb := (f2.block w1.heap.size (by simp)).trans (heap_alloc_new w1 _)
  have h0 := Bd.fresh (B := w.heap.size) hb f1.size
  have z2 : w.heap.size + 1 ≤ w2.heap.size := by have := f1.size; have := f2.size; simp at this; omega
  have F2 : Below w.heap.size w w2 := (f1.alloc f1.size _).trans (f2.mono (by have := f1.size; simp; omega))
  clear hC f1 f2 hb
  go_at_call 36
  with_reducible refine (C_onum 1 (by omega) (by omega) h0 (by simp)).mono ?_
  rintro e w3 ⟨rfl, h3, g3⟩
  have F3 := F2.trans g3.1
  have z3 : w.heap.size + 1 ≤ w3.heap.size := by have := g3.1.size; omega
  clear F2 g3 h0
  go_wp2_with (fail)
  have h4 := (h3.alloc (.cells #[.string s, .bool r] 134)).drew
  have k4 := heap_alloc_new w3 (.cells #[.string s, .bool r] 134)
  have F4 := F3.alloc (by omega) (.cells #[.string s, .bool r] 134)
  have lt4 := h3.lt
  have s4 : (w3.alloc (.cells #[.string s, .bool r] 134)).drew.cell? ⟨w3.heap.size, 0, none⟩ = some (.string s) ∧ (w3.alloc (.cells #[.string s, .bool r] 134)).drew.cell? ⟨w3.heap.size, 1, none⟩ = some (.bool r) := ⟨by simp, by simp⟩
  have hl := numB_len_le (x := 1) (by omega)
  go_region_held (fun W' => W'.cell? ⟨w3.heap.size, 0, none⟩ = some (.string s) ∧ W'.cell? ⟨w3.heap.size, 1, none⟩ = some (.bool r)) (first | exact s7 | exact s6 | exact s4) (first
    | (go_at_call 81; ((with_reducible refine (C_bit r _).mono ?_); rintro e w5 ⟨rfl, rfl⟩))
    | (go_at_call 36; ((with_reducible refine (C_onum (bit r : Nat) (by unfold bit; split <;> omega) (by omega) h4 (by simp; omega)).mono ?_); rintro e w6 ⟨rfl, h6, g6⟩; have k6 := g6.kept k4 (by omega) (by decide); have s6 := two_cells k6))
    | (go_at_call 42; ((with_reducible refine (C_otext s h6 (by have := numB_len_le (x := bit r) (by unfold bit; split <;> omega); simp; omega)).mono ?_); rintro e w7 ⟨rfl, h7, g7⟩; have k7 := g7.kept k6 (by omega) (by decide); have s7 := two_cells k7)))
  go_wp2_with (first
    | (go_at_call 37; with_reducible refine (C_obytes h7 (by simp [numB])).mono ?_; rintro e w8 ⟨rfl, h8, g8⟩))
  go_ret
  refine ⟨ret_str (by simp [txt]), ?_⟩
  exact F4.drew.trans (g6.1.trans (g7.1.trans g8.1))

set_option maxHeartbeats 800000 in
set_option maxRecDepth 100000 in
theorem bytes_cert (s : ByteArray) (r : Bool) (hs : s.size ≤ 4096) (hC : ∀ w, Calls Try.prog 57 #[.iface 135 (.agg #[.string s, .bool r])] w fun e w' => e = .returned (.int .i64 0) ∧ Below w.heap.size w w') (w : World) :
    Calls Try.prog 56 #[.iface 135 (.agg #[.string s, .bool r])] w fun e w' => e = .returned (.string (S (Cmd.cert s r).body)) ∧ Below w.heap.size w w' := by
  unfold Cmd.body
  have q0 := ta_cert_block
  have q1 := ta_hit_cert
  have q9 := mt_cert
  go_enter Try.func56, Try.ntmps56
  go_wp2_with (first
    | (go_at_call 57; with_reducible refine (hC _).mono ?_; rintro e w1 ⟨rfl, f1⟩)
    | (with_reducible refine (kind_cert s r _).mono ?_; rintro e w2 ⟨rfl, f2⟩))
  have hb := (f2.block w1.heap.size (by simp)).trans (heap_alloc_new w1 _)
  have h0 := Bd.fresh (B := w.heap.size) hb f1.size
  have z2 : w.heap.size + 1 ≤ w2.heap.size := by have := f1.size; have := f2.size; simp at this; omega
  have F2 : Below w.heap.size w w2 := (f1.alloc f1.size _).trans (f2.mono (by have := f1.size; simp; omega))
  clear hC f1 f2 hb
  go_at_call 36
  with_reducible refine (C_onum 2 (by omega) (by omega) h0 (by simp)).mono ?_
  rintro e w3 ⟨rfl, h3, g3⟩
  have F3 := F2.trans g3.1
  have z3 : w.heap.size + 1 ≤ w3.heap.size := by have := g3.1.size; omega
  clear F2 g3 h0
  go_wp2_with (fail)
  have h4 := (h3.alloc (.cells #[.string s, .bool r] 135)).drew
  have k4 := heap_alloc_new w3 (.cells #[.string s, .bool r] 135)
  have F4 := F3.alloc (by omega) (.cells #[.string s, .bool r] 135)
  have lt4 := h3.lt
  have s4 : (w3.alloc (.cells #[.string s, .bool r] 135)).drew.cell? ⟨w3.heap.size, 0, none⟩ = some (.string s) ∧ (w3.alloc (.cells #[.string s, .bool r] 135)).drew.cell? ⟨w3.heap.size, 1, none⟩ = some (.bool r) := ⟨by simp, by simp⟩
  have hl := numB_len_le (x := 2) (by omega)
  go_region_held (fun W' => W'.cell? ⟨w3.heap.size, 0, none⟩ = some (.string s) ∧ W'.cell? ⟨w3.heap.size, 1, none⟩ = some (.bool r)) (first | exact s7 | exact s6 | exact s4) (first
    | (go_at_call 81; ((with_reducible refine (C_bit r _).mono ?_); rintro e w5 ⟨rfl, rfl⟩))
    | (go_at_call 36; ((with_reducible refine (C_onum (bit r : Nat) (by unfold bit; split <;> omega) (by omega) h4 (by simp; omega)).mono ?_); rintro e w6 ⟨rfl, h6, g6⟩; have k6 := g6.kept k4 (by omega) (by decide); have s6 := two_cells k6))
    | (go_at_call 42; ((with_reducible refine (C_otext s h6 (by have := numB_len_le (x := bit r) (by unfold bit; split <;> omega); simp; omega)).mono ?_); rintro e w7 ⟨rfl, h7, g7⟩; have k7 := g7.kept k6 (by omega) (by decide); have s7 := two_cells k7)))
  go_wp2_with (first
    | (go_at_call 37; with_reducible refine (C_obytes h7 (by simp [numB])).mono ?_; rintro e w8 ⟨rfl, h8, g8⟩))
  go_ret
  refine ⟨ret_str (by simp [txt]), ?_⟩
  exact F4.drew.trans (g6.1.trans (g7.1.trans g8.1))

set_option maxHeartbeats 800000 in
set_option maxRecDepth 100000 in
theorem bytes_clock (n : Int) (hn : n ≤ 1073741824) (hn0 : 0 ≤ n) (hC : ∀ w, Calls Try.prog 57 #[.iface 131 (.agg #[.int .i64 n])] w fun e w' => e = .returned (.int .i64 0) ∧ Below w.heap.size w w') (w : World) :
    Calls Try.prog 56 #[.iface 131 (.agg #[.int .i64 n])] w fun e w' => e = .returned (.string (S (Cmd.clock n).body)) ∧ Below w.heap.size w w' := by
  unfold Cmd.body
  have q0 := ta_clock_block
  have q1 := ta_clock_cert
  have q2 := ta_hit_clock
  have q9 := mt_clock
  go_enter Try.func56, Try.ntmps56
  go_wp2_with (first
    | (go_at_call 57; with_reducible refine (hC _).mono ?_; rintro e w1 ⟨rfl, f1⟩)
    | (with_reducible refine (kind_clock n _).mono ?_; rintro e w2 ⟨rfl, f2⟩))
  have hb := (f2.block w1.heap.size (by simp)).trans (heap_alloc_new w1 _)
  have h0 := Bd.fresh (B := w.heap.size) hb f1.size
  have z2 : w.heap.size + 1 ≤ w2.heap.size := by have := f1.size; have := f2.size; simp at this; omega
  have F2 : Below w.heap.size w w2 := (f1.alloc f1.size _).trans (f2.mono (by have := f1.size; simp; omega))
  clear hC f1 f2 hb
  go_at_call 36
  with_reducible refine (C_onum 3 (by omega) (by omega) h0 (by simp)).mono ?_
  rintro e w3 ⟨rfl, h3, g3⟩
  have F3 := F2.trans g3.1
  have z3 : w.heap.size + 1 ≤ w3.heap.size := by have := g3.1.size; omega
  clear F2 g3 h0
  go_wp2_with (fail)
  have h4 := h3.alloc (.cells #[.int .i64 n] 131)
  have F4 := F3.alloc (by omega) (.cells #[.int .i64 n] 131)
  have hl := numB_len_le (x := 3) (by omega)
  go_wp2_with (first
    | (go_at_call 36; with_reducible refine (C_onum n (by omega) (by omega) h4 (by simp; omega)).mono ?_; rintro e w6 ⟨rfl, h6, g6⟩)
    | (go_at_call 37; with_reducible refine (C_obytes h6 (by simp [numB])).mono ?_; rintro e w8 ⟨rfl, h8, g8⟩))
  go_ret
  refine ⟨ret_str (by simp), ?_⟩
  exact F4.trans (g6.1.trans g8.1)

set_option maxHeartbeats 800000 in
set_option maxRecDepth 100000 in
theorem bytes_mark (s : ByteArray) (hs : s.size ≤ 4096) (hC : ∀ w, Calls Try.prog 57 #[.iface 137 (.agg #[.string s])] w fun e w' => e = .returned (.int .i64 0) ∧ Below w.heap.size w w') (w : World) :
    Calls Try.prog 56 #[.iface 137 (.agg #[.string s])] w fun e w' => e = .returned (.string (S (Cmd.mark s).body)) ∧ Below w.heap.size w w' := by
  unfold Cmd.body
  have q0 := ta_mark_block
  have q1 := ta_mark_cert
  have q2 := ta_mark_clock
  have q3 := ta_hit_mark
  have q9 := mt_mark
  go_enter Try.func56, Try.ntmps56
  go_wp2_with (first
    | (go_at_call 57; with_reducible refine (hC _).mono ?_; rintro e w1 ⟨rfl, f1⟩)
    | (with_reducible refine (kind_mark s _).mono ?_; rintro e w2 ⟨rfl, f2⟩))
  have hb := (f2.block w1.heap.size (by simp)).trans (heap_alloc_new w1 _)
  have h0 := Bd.fresh (B := w.heap.size) hb f1.size
  have z2 : w.heap.size + 1 ≤ w2.heap.size := by have := f1.size; have := f2.size; simp at this; omega
  have F2 : Below w.heap.size w w2 := (f1.alloc f1.size _).trans (f2.mono (by have := f1.size; simp; omega))
  clear hC f1 f2 hb
  go_at_call 36
  with_reducible refine (C_onum 4 (by omega) (by omega) h0 (by simp)).mono ?_
  rintro e w3 ⟨rfl, h3, g3⟩
  have F3 := F2.trans g3.1
  have z3 : w.heap.size + 1 ≤ w3.heap.size := by have := g3.1.size; omega
  clear F2 g3 h0
  go_wp2_with (fail)
  have h4 := h3.alloc (.cells #[.string s] 137)
  have F4 := F3.alloc (by omega) (.cells #[.string s] 137)
  have hl := numB_len_le (x := 4) (by omega)
  go_wp2_with (first
    | (go_at_call 42; with_reducible refine (C_otext s h4 (by simp; omega)).mono ?_; rintro e w6 ⟨rfl, h6, g6⟩)
    | (go_at_call 37; with_reducible refine (C_obytes h6 (by simp [numB])).mono ?_; rintro e w8 ⟨rfl, h8, g8⟩))
  go_ret
  refine ⟨ret_str (by simp [txt]), ?_⟩
  exact F4.trans (g6.1.trans g8.1)

set_option maxHeartbeats 800000 in
set_option maxRecDepth 100000 in
theorem bytes_unmark (hC : ∀ w, Calls Try.prog 57 #[.iface 139 (.agg #[])] w fun e w' => e = .returned (.int .i64 0) ∧ Below w.heap.size w w') (w : World) :
    Calls Try.prog 56 #[.iface 139 (.agg #[])] w fun e w' => e = .returned (.string (S (Cmd.unmark ).body)) ∧ Below w.heap.size w w' := by
  unfold Cmd.body
  have q0 := ta_unmark_block
  have q1 := ta_unmark_cert
  have q2 := ta_unmark_clock
  have q3 := ta_unmark_mark
  have q9 := mt_unmark
  go_enter Try.func56, Try.ntmps56
  go_wp2_with (first
    | (go_at_call 57; with_reducible refine (hC _).mono ?_; rintro e w1 ⟨rfl, f1⟩)
    | (with_reducible refine (kind_unmark  _).mono ?_; rintro e w2 ⟨rfl, f2⟩))
  have hb := (f2.block w1.heap.size (by simp)).trans (heap_alloc_new w1 _)
  have h0 := Bd.fresh (B := w.heap.size) hb f1.size
  have z2 : w.heap.size + 1 ≤ w2.heap.size := by have := f1.size; have := f2.size; simp at this; omega
  have F2 : Below w.heap.size w w2 := (f1.alloc f1.size _).trans (f2.mono (by have := f1.size; simp; omega))
  clear hC f1 f2 hb
  go_at_call 36
  with_reducible refine (C_onum 5 (by omega) (by omega) h0 (by simp)).mono ?_
  rintro e w3 ⟨rfl, h3, g3⟩
  have F3 := F2.trans g3.1
  have z3 : w.heap.size + 1 ≤ w3.heap.size := by have := g3.1.size; omega
  clear F2 g3 h0
  go_wp2_with (first
    | (go_at_call 37; with_reducible refine (C_obytes h3 (by simp [numB])).mono ?_; rintro e w8 ⟨rfl, h8, g8⟩))
  go_ret
  refine ⟨ret_str (by simp), ?_⟩
  exact F3.trans g8.1

theorem small_zero {s : ByteArray} : small s = 0 ↔ s.size ≤ 4096 := by unfold small; split <;> omega
theorem C_bytes (c : Cmd) (h : c.fit) (w : World) : Calls Try.prog 56 #[c.val] w fun e w' => e = .returned (.string (S c.bytes)) ∧ Below w.heap.size w w' := by
  have hC := fun v => C_chk c h v
  unfold Cmd.bytes
  by_cases h0 : c.chk = 0
  · rw [if_pos h0]
    rw [h0] at hC
    cases c with
    | none => exact absurd h0 (by simp [Cmd.chk])
    | other => exact absurd h0 (by simp [Cmd.chk])
    | unmark => exact bytes_unmark hC w
    | block s r => exact bytes_block s r (small_zero.1 h0) hC w
    | cert s r => exact bytes_cert s r (small_zero.1 h0) hC w
    | clock n =>
      have : 0 ≤ n ∧ n ≤ 1073741824 := by
        by_cases k : 0 ≤ n ∧ n ≤ 1073741824
        · exact k
        · simp only [Cmd.chk, if_neg k] at h0; omega
      exact bytes_clock n this.2 this.1 hC w
    | mark s =>
      have : s.size ≤ 4096 := by
        by_cases k : 4096 < s.size
        · simp only [Cmd.chk, if_pos k] at h0; omega
        · omega
      exact bytes_mark s this hC w
  · rw [if_neg h0]
    exact bytes_bad _ _ (by omega) hC w

end Go.Proofs.Ytajccobndgechaa.Cod
