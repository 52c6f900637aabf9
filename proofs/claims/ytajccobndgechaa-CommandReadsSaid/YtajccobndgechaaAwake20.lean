/- The fixed fact of the commands' laws. -/
import Derived.Test.YtajccobndgechaaCmdC
import Derived.Test.YtajccobndgechaaWalkCodecTexts
namespace Go.Proofs.Ytajccobndgechaa.Cod
open Go.RowKit
theorem digs_one {x : Nat} (h0 : 0 < x) (h : x < 256) : digs x = [UInt8.ofNat x] := by
  rw [digs_pos h0, show x / 256 = 0 by omega, digs_zero, Nat.mod_eq_of_lt h]
  rfl
theorem numB_one {x : Nat} (h0 : 0 < x) (h : x < 256) : numB x = [1, UInt8.ofNat x] := by
  unfold numB
  rw [digs_one h0 h]
  rfl
theorem four_bytes : [1, 3, 1, 5] = numB 3 ++ (numB 5 ++ ([] : List UInt8)) := by rw [numB_one (by omega) (by omega), numB_one (by omega) (by omega)]; rfl
theorem parse_four : cparse [1, 3, 1, 5] = (.clock 5, 0) := by
  unfold cparse
  rw [four_bytes, inNum_small (by omega) 255 (by omega)]
  simp only [ne_eq, not_true_eq_false, if_false, Nat.reduceEqDiff, if_true]
  rw [inNum_small (by omega) _ (by omega)]
  unfold tail
  rfl
theorem bytes_four : S (Cmd.bytes (.clock 5)) = ⟨#[1, 3, 1, 5]⟩ := by
  have : Cmd.bytes (.clock 5) = [1, 3, 1, 5] := by
    rw [four_bytes, List.append_nil]
    rfl
  rw [this]
  rfl
theorem C_parse4 (w : World) : Calls Try.prog 53 #[.string ⟨#[1, 3, 1, 5]⟩] w fun e w' => e = .returned (.tuple #[.iface 131 (.agg #[.int .i64 5]), .int .i64 0]) ∧ Below w.heap.size w w' := by
  have h := C_parse ⟨#[1, 3, 1, 5]⟩ (by decide) w
  rw [show bl ⟨#[1, 3, 1, 5]⟩ = [1, 3, 1, 5] from rfl, parse_four] at h
  exact h
theorem C_bytes4 (w : World) : Calls Try.prog 56 #[.iface 131 (.agg #[.int .i64 5])] w fun e w' => e = .returned (.string ⟨#[1, 3, 1, 5]⟩) ∧ Below w.heap.size w w' := by
  have h := C_bytes (.clock 5) (by constructor <;> omega) w
  rw [bytes_four] at h
  exact h
theorem C_name4 (w : World) : Calls Try.prog 59 #[.iface 131 (.agg #[.int .i64 5])] w fun e w' => e = .returned (.string ⟨#[99, 108, 111, 99, 107]⟩) ∧ Below w.heap.size w w' :=
  C_name (.clock 5) (by constructor <;> omega) w
set_option maxHeartbeats 800000 in
set_option maxRecDepth 100000 in
theorem C_awake20 (w : World) : Calls Try.prog 52 #[] w fun e w' => e = .returned (.bool true) ∧ Below w.heap.size w w' := by
  have q := ta_hit_clock
  go_enter Try.func52, Try.ntmps52
  go_wp2_with (first
    | (go_at_call 53; with_reducible refine (C_parse4 _).mono ?_; rintro e w1 ⟨rfl, f1⟩))
  have b3 : (w1.alloc (.cells #[.int .i64 5] 131)).heap[w1.heap.size]? = some (.cells #[.int .i64 5] 131 (0, 0)) := heap_alloc_new w1 _
  have f2 : Below w.heap.size w (w1.alloc (.cells #[.int .i64 5] 131)) := f1.alloc f1.size _
  have l2 : w1.heap.size < (w1.alloc (.cells #[.int .i64 5] 131)).heap.size := by simp
  generalize w1.alloc (.cells #[.int .i64 5] 131) = w2 at b3 f2 l2
  go_at_call 56
  with_reducible refine (C_bytes4 _).mono ?_
  rintro e w3 ⟨rfl, f3⟩
  have b4 := (f3.block w1.heap.size l2).trans b3
  have l3 : w1.heap.size < w3.heap.size := Nat.lt_of_lt_of_le l2 f3.size
  have c4 : w3.cell? ⟨w1.heap.size, 0, none⟩ = some (.int .i64 5) := by rw [Lib.cell_of_heap b4]; rfl
  go_wp2_with (first
    | (go_at_call 59; (with_reducible refine (C_name4 _).mono ?_); rintro e w5 ⟨rfl, f5⟩; have b6 := (f5.block w1.heap.size l3).trans b4; have c6 : w5.cell? ⟨w1.heap.size, 0, none⟩ = some (.int .i64 5) := by rw [Lib.cell_of_heap b6]; rfl)
    | (go_at_call 79; with_reducible refine (kind_clock 5 _).mono ?_; rintro e w7 ⟨rfl, f7⟩))
  go_ret
  exact ⟨rfl, f2.trans ((f3.mono f2.size).trans ((f5.mono (Nat.le_trans f2.size f3.size)).trans (f7.mono (Nat.le_trans f2.size (Nat.le_trans f3.size f5.size)))))⟩
end Go.Proofs.Ytajccobndgechaa.Cod
