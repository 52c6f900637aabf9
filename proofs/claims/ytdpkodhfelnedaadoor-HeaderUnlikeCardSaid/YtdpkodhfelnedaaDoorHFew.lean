/- law05.IDOf of any text: cut, or filled up. -/
import Derived.Test.YtdpkodhfelnedaaDoorHSame
namespace Go.Proofs.YtdpkodhfelnedaaDoor.Cod
open Go.RowKit
def fit32 (l : List UInt8) : List UInt8 := l.take 32 ++ List.replicate (32 - l.length) 0
theorem fit32_len (l : List UInt8) : (fit32 l).length = 32 := by unfold fit32; rw [List.length_append, List.length_take, List.length_replicate]; omega
theorem fit32_id {l : List UInt8} (h : l.length = 32) : fit32 l = l := by unfold fit32; rw [List.take_of_length_le (by omega), h]; simp
theorem cells_append (a b : List UInt8) : Lib.byteCells (a ++ b) = Lib.byteCells a ++ Lib.byteCells b := by simp [Lib.byteCells]
theorem z32_list : Z32.toList = Lib.byteCells (List.replicate 32 0) := rfl
theorem run_copy_fit (W : World) (ty : TypeId) (b : Nat) (hb : W.heap[b]? = some (.cells Z32 36 (0, 0))) (t : ByteArray) :
    (Builtin.copy_ #[46, 9] ty #[.slice (some ⟨b, 0, none⟩) 32 32, .string t]).run Tryd.prog W = .ok (.int .i64 (Nat.min t.size 32 : Nat)) (W.setRow b (Lib.byteCells (fit32 (bl t))).toArray) := by
  have hz : Z32.size = 32 := rfl
  have hl : (Lib.byteCells ((bl t).take 32)).length = Nat.min t.size 32 := by rw [Lib.byteCells_length, List.length_take, bl_len, show Nat.min t.size 32 = min t.size 32 from rfl]; omega
  have hst := run_storeCells_at Tryd.prog b 0 36 (Lib.byteCells ((bl t).take 32)) 0 Z32 W hb (by simp only [Nat.zero_add, hl, hz]; exact Nat.min_le_right _ _) (all_one _)
  simp only [Nat.zero_add, List.take_zero, List.nil_append] at hst
  have he : Lib.byteCells ((bl t).take 32) ++ Z32.toList.drop (Lib.byteCells ((bl t).take 32)).length = Lib.byteCells (fit32 (bl t)) := by
    unfold fit32
    rw [cells_append, z32_list, hl]
    congr 1
    simp only [Lib.byteCells, List.map_replicate, List.drop_replicate]
    congr 1
    have := bl_len t
    rw [show Nat.min t.size 32 = min t.size 32 from rfl]
    omega
  rw [he] at hst
  have hcells : (List.map (fun b : UInt8 => Value.int .u8 (b.toNat : Int)) t.data.toList).take (Nat.min t.size 32) = Lib.byteCells ((bl t).take 32) := by
    have e : (bl t).take (Nat.min t.size 32) = (bl t).take 32 := by
      rw [show Nat.min t.size 32 = min 32 (bl t).length by rw [bl_len]; exact Nat.min_comm _ _, List.take_eq_take_min]
      rw [Nat.min_assoc, Nat.min_self]
      exact (List.take_eq_take_min).symm
    rw [← e]
    simp [Lib.byteCells, bl, List.map_take]
  obtain ⟨i, hq, _, _, _⟩ := info_parts infoByte
  simp [Builtin.copy_, run_underlying Tryd.underlying46, Builtin.lenOf, Builtin.firstCells, sizeOf, typeInfo, hq, goInt]
  rw [hcells, hst]
  rfl
set_option maxHeartbeats 1600000 in
set_option maxRecDepth 100000 in
theorem C_idfit (s : ByteArray) (w : World) :
    Calls Tryd.prog 16 #[.string s] w fun e w' => e = .returned (idv (fit32 (bl s))) ∧ Below w.heap.size w w' := by
  have hcp := run_copy_fit ((w.alloc (.cells Z32 36)).alloc (.cells Z32 36)) 3 (w.alloc (.cells Z32 36)).heap.size (heap_alloc_new _ _) s
  rw [World.setRow_alloc_new, show (w.alloc (.cells Z32 36)).heap.size = w.heap.size + 1 by simp] at hcp
  unfold idv
  have hbl := fit32_len (bl s)
  obtain ⟨X, eX⟩ : ∃ X, Lib.byteCells (fit32 (bl s)) = X := ⟨_, rfl⟩
  have hX1 : ∀ u ∈ X, u.oneCell' = true := by rw [← eX]; exact all_one _
  have hXl : X.length = 32 := by rw [← eX, Lib.byteCells_length]; exact hbl
  rw [eX] at hcp ⊢
  have hXs : X.toArray.size = 32 := by simpa using hXl
  have hiX : (Tryd.prog.info? 36).map (·.size) = some X.toArray.size := by rw [hXs]; kernel_rfl
  have hXa : X.toArray.all (·.oneCell') = true := by simpa using hX1
  have hfold : List.foldl (fun cs (x : Value × Nat) => cs.setIfInBounds x.2 x.1) Z32 X.zipIdx = X.toArray := by
    have := fold_set X 0 Z32 (by rw [hXl]; rfl)
    simpa using this
  have q1 : ((w.alloc (.cells Z32 36)).alloc (.cells X.toArray 36)).heap[w.heap.size + 1]? = some (.cells X.toArray 36 (0, 0)) := heap_alloc2_new _ _ _
  have q0 : ((w.alloc (.cells Z32 36)).alloc (.cells X.toArray 36)).heap[w.heap.size]? = some (.cells Z32 36 (0, 0)) := heap_alloc2_old _ _ _
  have g0 : Below w.heap.size w ((w.alloc (.cells Z32 36)).alloc (.cells X.toArray 36)) := ((Below.refl _ _).alloc (Nat.le_refl _) _).alloc (by simp) _
  clear eX hbl hX1
  go_enter Tryd.func16, Tryd.ntmps16
  go_wp2_with (first
    | (refine wpList_load_row (by rfl) 36 (.tmp 3) (by rfl) (w.heap.size + 1) (by rfl) 36 X.toArray (0, 0) _ q1 Tryd.underlying36 rfl hiX ?_)
    | (refine wpList_store_row (by rfl) 36 (.tmp 2) (.tmp 7) (by rfl) w.heap.size X.toArray Z32 36 (by rfl) (by rfl) q0 hiX (by rw [hXs]; rfl) hXa ?_))
  refine bodyPost_ret (result_cell rfl rfl (run_loadVar_row _ w.heap.size 36 36 X.toArray (0, 0) _ (setRow_heap _ _ _ _ _ _ q0) Tryd.underlying36 rfl hiX)) rfl ⟨rfl, setRow_below g0 _ _ (Nat.le_refl _)⟩
end Go.Proofs.YtdpkodhfelnedaaDoor.Cod
