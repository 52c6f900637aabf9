/- The document's numbers and texts: contracts. -/
import Derived.Test.YtphfomnjhlfdhaaInOps
import Derived.Laws.BytesArg
namespace Go.Proofs.Ytphfomnjhlfdhaa.Cod
open Go.RowKit
theorem bl_append (s t : ByteArray) : bl (s ++ t) = bl s ++ bl t := by simp [bl, ByteArray.data_append]
theorem ret_bool {a b : Bool} (h : a = b) : Ending.returned (.bool a) = .returned (.bool b) := by rw [h]
def NumRel (m : Nat) (w : World) (y s : Value) (wr : World) : Prop := ∃ (z : Nat) (t : ByteArray), y = .int .i64 z ∧ s = .string t ∧ z ≤ m ∧ digs m = digs z ++ bl t ∧ Below w.heap.size w wr
set_option maxHeartbeats 800000 in
set_option maxRecDepth 100000 in
theorem C_cut (s : ByteArray) (n : Int) (h0 : 0 ≤ n) (hn : n ≤ 9223372036854775807) (hs : s.size ≤ 140737488351232) (w : World) :
    Calls Try.prog 10 #[.string s, .int .i64 n] w fun e w' => e = .returned (.string (S ((bl s).take n.toNat))) ∧ w = w' := by
  have hl := bl_len s
  by_cases h : (s.size : Int) > n
  · have h' : n < (s.size : Int) := h
    go_enter Try.func10, Try.ntmps10
    go_wp2
    go_ret
    exact ⟨ret_str (by rw [← bl_take, S_bl]), rfl⟩
  · have h' : (s.size : Int) ≤ n := by omega
    go_enter Try.func10, Try.ntmps10
    go_wp2
    go_ret
    exact ⟨ret_str (by rw [List.take_of_length_le (by omega), S_bl]), rfl⟩
end Go.Proofs.Ytphfomnjhlfdhaa.Cod
