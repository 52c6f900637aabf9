/- The document's numbers and texts: contracts. -/
import Derived.Test.YtgdpbnmhhbnkgaaDoorInOps
import Derived.Laws.BytesArg
namespace Go.Proofs.YtgdpbnmhhbnkgaaDoor.Cod
open Go.RowKit
/-- string([]byte{v}) -/
theorem conv1 (W : World) (v : Int) : (convert 25 9 (.slice (some ⟨W.heap.size, 0, none⟩) 1 1)).run Tryd.prog (W.alloc (.cells #[.int .u8 v] 5)) = .ok (.string ⟨#[UInt8.ofNat v.toNat]⟩) (W.alloc (.cells #[.int .u8 v] 5)) := by
  have := run_convert_bytes_arg (P := Tryd.prog) (W.alloc (.cells #[.int .u8 v] 5)) 25 5 Tryd.underlying25 Tryd.underlying5 W.heap.size 0 1 1 [v] rfl (by
    intro i hi
    obtain rfl : i = 0 := by omega
    simp) 9 Tryd.underlying9
  exact this
theorem bl_append (s t : ByteArray) : bl (s ++ t) = bl s ++ bl t := by simp [bl, ByteArray.data_append]
theorem ret_bool {a b : Bool} (h : a = b) : Ending.returned (.bool a) = .returned (.bool b) := by rw [h]
def NumRel (m : Nat) (w : World) (y s : Value) (wr : World) : Prop := ∃ (z : Nat) (t : ByteArray), y = .int .i64 z ∧ s = .string t ∧ z ≤ m ∧ digs m = digs z ++ bl t ∧ Below w.heap.size w wr
set_option maxHeartbeats 800000 in
set_option maxRecDepth 100000 in
theorem R_num (x : Int) (hx : x ≤ 9223372036854775807) (hx0 : -9223372036854775808 ≤ x) (w : World) :
    Calls Tryd.prog 96 #[.int .i64 x] w fun e w' => e = .returned (.string (S (numB x.toNat))) ∧ Below w.heap.size w w' := by
  obtain ⟨m, hm, hm63⟩ : ∃ m : Nat, max x 0 = (m : Int) ∧ m < 9223372036854775808 := ⟨(max x 0).toNat, by omega, by omega⟩
  have hxm : x.toNat = m := by omega
  rw [hxm]
  have h8 := digs_len_8 hm63
  clear hxm
  have hconv := conv1
  go_enter Tryd.func96, Tryd.ntmps96
  go_wp2
  go_loopw [0, 3] (NumRel m w) (fun y _ _ => (intOf y).toNat)
  case atStart => exact ⟨m, _, rfl, rfl, Nat.le_refl _, by simp [bl], Below.refl _ _⟩
  case round =>
    obtain ⟨z, t, rfl, rfl, hz, hd, hb⟩ := hrel
    have hts : t.size ≤ 8 := by have := congrArg List.length hd; rw [List.length_append, bl_len] at this; omega
    have HD := Lib.hid hd
    clear hd
    by_cases h0 : 0 < z
    · go_wp2
      go_roundw
      case rel =>
        refine ⟨z / 256, _, by go_num, rfl, by omega, ?_, hb.alloc hb.size _⟩
        rw [HD.out, digs_pos h0, bl_append]
        simp [bl]
      case measure => simp [intOf]; omega
    · obtain rfl : z = 0 := by omega
      go_wp2
      go_ret
      refine ⟨ret_str (eq_S ?_), hb.alloc hb.size _⟩
      rw [bl_append, numB, HD.out, digs_zero, List.nil_append, bl_len]
      simp [bl]
set_option maxHeartbeats 800000 in
set_option maxRecDepth 100000 in
theorem R_text (s : ByteArray) (hs : s.size ≤ 140737488351232) (w : World) :
    Calls Tryd.prog 97 #[.string s] w fun e w' => e = .returned (.string (S (numB s.size ++ bl s))) ∧ Below w.heap.size w w' := by
  have hn : (S (numB s.size)).size ≤ 9 := by rw [S_size]; exact numB_len_le (x := s.size) (by omega)
  have hsz : ((s.size : Int)).toNat = s.size := by omega
  go_enter Tryd.func97, Tryd.ntmps97
  go_wp2_with (first | (go_at_call 96; with_reducible refine (R_num (s.size : Int) (by omega) (by omega) _).mono ?_; rintro e w1 ⟨rfl, g1⟩))
  go_ret
  exact ⟨ret_str (by rw [← S_append, S_bl]), g1⟩
set_option maxHeartbeats 800000 in
set_option maxRecDepth 100000 in
theorem C_cut (s : ByteArray) (n : Int) (h0 : 0 ≤ n) (hn : n ≤ 9223372036854775807) (hs : s.size ≤ 140737488351232) (w : World) :
    Calls Tryd.prog 30 #[.string s, .int .i64 n] w fun e w' => e = .returned (.string (S ((bl s).take n.toNat))) ∧ w = w' := by
  have hl := bl_len s
  by_cases h : (s.size : Int) > n
  · have h' : n < (s.size : Int) := h
    go_enter Tryd.func30, Tryd.ntmps30
    go_wp2
    go_ret
    exact ⟨ret_str (by rw [← bl_take, S_bl]), rfl⟩
  · have h' : (s.size : Int) ≤ n := by omega
    go_enter Tryd.func30, Tryd.ntmps30
    go_wp2
    go_ret
    exact ⟨ret_str (by rw [List.take_of_length_le (by omega), S_bl]), rfl⟩
end Go.Proofs.YtgdpbnmhhbnkgaaDoor.Cod
