/- The fixed fact of the codec's laws. -/
import Derived.Test.YtajccobndgechaaRef
namespace Go.Proofs.Ytajccobndgechaa.Cod
open Go.RowKit
theorem numB_258 : numB 258 = [2, 1, 2] := by
  unfold numB
  rw [digs_pos (by omega), show 258 / 256 = 1 by omega, digs_pos (x := 1) (by omega), show 1 / 256 = 0 by omega, digs_zero]
  rfl
theorem numB_2 : numB 2 = [1, 2] := by
  unfold numB
  rw [digs_pos (by omega), show 2 / 256 = 0 by omega, digs_zero]
  rfl
theorem S_toList (l : List UInt8) : (S l).toList = l := by rw [ByteArray.toList_eq]; exact bl_S l
theorem fresh_out (w : World) : (w.alloc (.cells #[.pointer none, .slice none 0 0] 70)).heap[w.heap.size]? = some (.cells #[.pointer none, .slice none 0 0] 70 (0, 0)) := heap_alloc_new w _
set_option maxHeartbeats 800000 in
set_option maxRecDepth 100000 in
theorem C_awake1 (w : World) : Calls Try.prog 35 #[] w fun e w' => e = .returned (.bool true) ∧ Below w.heap.size w w' := by
  have hn : ((258 : Int)).toNat = 258 := rfl
  go_enter Try.func35, Try.ntmps35
  go_wp2_with (fail)
  have h0 := Bd.fresh (fresh_out w) (Nat.le_refl _)
  go_wp2_with (first
    | (go_at_call 36; with_reducible refine (C_onum 258 (by omega) (by omega) h0 (by simp)).mono ?_; rintro e w1 ⟨rfl, h1, g1⟩)
    | (go_at_call 42; with_reducible refine (C_otext _ h1 (by rw [hn, numB_258]; decide)).mono ?_; rintro e w2 ⟨rfl, h2, g2⟩)
    | (go_at_call 37; with_reducible refine (C_obytes h2 (by rw [hn, numB_258]; simp)).mono ?_; rintro e w3 ⟨rfl, h3, g3⟩))
  go_ret
  refine ⟨ret_bool ?_, (((Below.refl _ _).alloc (Nat.le_refl _) _).trans g1.1).trans (g2.1.trans g3.1)⟩
  rw [S_toList, numB_258, numB_2]
  rfl
end Go.Proofs.Ytajccobndgechaa.Cod
