/- header.Genesis, header.Root. Contracts by what they mean. -/
import Derived.Test.YtdpkodhfelnedaaDoorHdrId
namespace Go.Proofs.YtdpkodhfelnedaaDoor.Cod
open Go.RowKit
def genesis : Hdr := ⟨0, 0, ⟨#[]⟩, 0, 2, [], 0⟩
set_option maxHeartbeats 2000000 in
set_option maxRecDepth 100000 in
theorem C_genesis (w : World) : Calls Tryd.prog 11 #[] w fun e w' => e = .returned (genesis.val none 0) ∧ Below w.heap.size w w' := by
  go_enter Tryd.func11, Tryd.ntmps11
  go_wp2
  refine bodyPost_ret (result_cell rfl rfl ?_) rfl ⟨rfl, ?_⟩
  · refine (run_loadVar_row _ w.heap.size 31 31 #[.int .i64 0, .int .i64 0, .string ⟨#[]⟩, .int .i64 0, .int .u64 2, .slice none 0 0, .int .i64 0] (0, 0) _ (heap_alloc_new _ _) Tryd.underlying31 rfl (by kernel_rfl)).trans rfl
  · exact (Below.refl _ _).alloc (Nat.le_refl _) _
set_option maxHeartbeats 2000000 in
set_option maxRecDepth 100000 in
theorem C_root (w : World) (hL : Laid w) : Calls Tryd.prog 12 #[] w fun e w' => e = .returned (idv (sha genesis.bytes)) ∧ Below w.heap.size w w' := by
  have hId := fun v (hv : Laid v) => C_hid genesis none 0 v hv (fun i hi => absurd hi (by simp [genesis])) (by decide) (by decide) (by decide) (by decide) (by decide) (by decide) (by decide)
  have hG := fun v => C_genesis v
  obtain ⟨D, eD⟩ : ∃ D, sha genesis.bytes = D := ⟨_, rfl⟩
  have hD32 : D.length = 32 := by rw [← eD]; exact sha_len _
  simp only [eD] at hId
  rw [eD]
  obtain ⟨gv, egv⟩ : ∃ gv, genesis.val none 0 = gv := ⟨_, rfl⟩
  simp only [egv] at hId
  rw [egv] at hG
  clear eD egv
  have hi : (Tryd.prog.info? 36).map (·.size) = some (Lib.byteCells D).toArray.size := by rw [show (Lib.byteCells D).toArray.size = 32 by simp [Lib.byteCells, hD32]]; kernel_rfl
  have hDs : Z32.size = (Lib.byteCells D).toArray.size := by rw [show (Lib.byteCells D).toArray.size = 32 by simp [Lib.byteCells, hD32]]; rfl
  have hDo : (Lib.byteCells D).toArray.all (·.oneCell') = true := by simp [Lib.byteCells, Value.oneCell']
  have HIDD := Lib.hid hId
  have HLD := Lib.hid hL
  clear hId hL
  unfold idv at HIDD ⊢
  obtain ⟨DC, eDC⟩ : ∃ DC, (Lib.byteCells D).toArray = DC := ⟨_, rfl⟩
  rw [eDC] at hi hDs hDo HIDD ⊢
  clear eDC
  have hb0 : ∀ o1 : Obj, Below w.heap.size w (w.alloc o1) := fun o1 => (Below.refl _ _).alloc (Nat.le_refl _) _
  go_enter Tryd.func12, Tryd.ntmps12
  go_wp2_with (first
    | (go_at_call 11; ((with_reducible refine (hG _).mono ?_); rintro e w1 ⟨rfl, f1⟩))
    | (go_at_call 10; (refine (HIDD.out w1 (HLD.out.below ((hb0 _).trans (f1.mono (hb0 _).size)) (by have := HLD.out.size; omega))).mono ?_); rintro e w2 ⟨rfl, f2⟩; have q1 : w1.heap[w.heap.size]? = some (.cells Z32 36 (0, 0)) := (f1.block _ (by simp)).trans (heap_alloc_new _ _); have q2 : w2.heap[w.heap.size]? = some (.cells Z32 36 (0, 0)) := (f2.block _ (Array.getElem?_eq_some_iff.1 q1).1).trans q1)
    | (refine wpList_store_row (by rfl) 36 (.tmp 0) (.tmp 2) (by rfl) w.heap.size DC Z32 36 (by rfl) (by rfl) q2 hi hDs hDo ?_))
  refine bodyPost_ret (result_cell rfl rfl ?_) rfl ⟨rfl, ?_⟩
  · exact run_loadVar_row _ w.heap.size 36 36 DC (0, 0) _ (setRow_heap _ _ _ _ _ _ q2) Tryd.underlying36 rfl hi
  · exact setRow_below (((hb0 _).trans (f1.mono (hb0 _).size)).trans (f2.mono (by have := (hb0 (.cells #[] 0)).size; have := f1.size; simp at this; omega))) _ _ (Nat.le_refl _)
end Go.Proofs.YtdpkodhfelnedaaDoor.Cod
