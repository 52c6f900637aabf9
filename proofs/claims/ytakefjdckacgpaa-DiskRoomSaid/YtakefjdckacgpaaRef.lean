/- The document's numbers and texts: contracts. -/
import Derived.Test.YtakefjdckacgpaaInOps
import Derived.Laws.BytesArg
namespace Go.Proofs.Ytakefjdckacgpaa.Cod
open Go.RowKit
/-- string([]byte{v}) -/
theorem conv1 (W : World) (v : Int) : (convert 28 9 (.slice (some ⟨W.heap.size, 0, none⟩) 1 1)).run Try.prog (W.alloc (.cells #[.int .u8 v] 5)) = .ok (.string ⟨#[UInt8.ofNat v.toNat]⟩) (W.alloc (.cells #[.int .u8 v] 5)) := by
  have := run_convert_bytes_arg (P := Try.prog) (W.alloc (.cells #[.int .u8 v] 5)) 28 5 Try.underlying28 Try.underlying5 W.heap.size 0 1 1 [v] rfl (by
    intro i hi
    obtain rfl : i = 0 := by omega
    simp) 9 Try.underlying9
  exact this
theorem bl_append (s t : ByteArray) : bl (s ++ t) = bl s ++ bl t := by simp [bl, ByteArray.data_append]
theorem ret_bool {a b : Bool} (h : a = b) : Ending.returned (.bool a) = .returned (.bool b) := by rw [h]
def NumRel (m : Nat) (w : World) (y s : Value) (wr : World) : Prop := ∃ (z : Nat) (t : ByteArray), y = .int .i64 z ∧ s = .string t ∧ z ≤ m ∧ digs m = digs z ++ bl t ∧ Below w.heap.size w wr
set_option maxHeartbeats 800000 in
set_option maxRecDepth 100000 in
theorem C_cut (s : ByteArray) (n : Int) (h0 : 0 ≤ n) (hn : n ≤ 9223372036854775807) (hs : s.size ≤ 140737488351232) (w : World) :
    Calls Try.prog 21 #[.string s, .int .i64 n] w fun e w' => e = .returned (.string (S ((bl s).take n.toNat))) ∧ w = w' := by
  have hl := bl_len s
  by_cases h : (s.size : Int) > n
  · have h' : n < (s.size : Int) := h
    go_enter Try.func21, Try.ntmps21
    go_wp2
    go_ret
    exact ⟨ret_str (by rw [← bl_take, S_bl]), rfl⟩
  · have h' : (s.size : Int) ≤ n := by omega
    go_enter Try.func21, Try.ntmps21
    go_wp2
    go_ret
    exact ⟨ret_str (by rw [List.take_of_length_le (by omega), S_bl]), rfl⟩
end Go.Proofs.Ytakefjdckacgpaa.Cod
