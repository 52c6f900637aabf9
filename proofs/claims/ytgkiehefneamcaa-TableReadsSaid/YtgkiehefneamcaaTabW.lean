/- table.New: the walk. -/
import Derived.Test.YtgkiehefneamcaaTabN
namespace Go.Proofs.Ytgkiehefneamcaa.Cod
open Go.RowKit
theorem nc_zlit : nc zeros = #[.int .i64 0, .int .i64 0, .int .i64 0, .int .i64 0, .int .i64 0, .int .i64 0, .int .i64 0, .int .i64 0, .int .i64 0, .int .i64 0, .int .i64 0, .int .i64 0, .int .i64 0, .int .i64 0, .int .i64 0, .int .i64 0, .int .i64 0, .int .i64 0, .int .i64 0, .int .i64 0, .int .i64 0, .int .i64 0, .int .i64 0, .int .i64 0, .int .i64 0, .int .i64 0, .int .i64 0, .int .i64 0, .int .i64 0, .int .i64 0, .int .i64 0, .int .i64 0, .int .i64 0, .int .i64 0, .int .i64 0, .int .i64 0, .int .i64 0, .int .i64 0, .int .i64 0, .int .i64 0, .int .i64 0, .int .i64 0, .int .i64 0, .int .i64 0, .int .i64 0, .int .i64 0, .int .i64 0, .int .i64 0, .int .i64 0, .int .i64 0, .int .i64 0, .int .i64 0, .int .i64 0, .int .i64 0, .int .i64 0, .int .i64 0, .int .i64 0, .int .i64 0, .int .i64 0, .int .i64 0, .int .i64 0, .int .i64 0, .int .i64 0, .int .i64 0] := by rw [nc_zeros]; rfl
set_option maxHeartbeats 4000000 in
set_option maxRecDepth 100000 in
theorem C_new (A : Option Addr) (c : Nat) (l : List (Int × Int)) (w : World) (h : Ents w A l) (hm : l.length ≤ maxLen) :
    Calls Try.prog 21 #[.slice A l.length c] w fun e w' => e = .returned (.tuple #[.agg (nc (new l).1), .int .i64 (new l).2]) ∧ Below w.heap.size w w' := by
  have hZs : (nc zeros).size = 64 := by rw [nc_zeros]; simp
  have hZ1 := nc_one zeros
  have hZi : (Try.prog.info? 45).map (·.size) = some (nc zeros).size := by rw [hZs]; kernel_rfl
  have hZe := nc_zeros
  have hc := fun v hv => C_tchk A c l 1 v hv hm
  have hb0 : ∀ o1 : Obj, Below w.heap.size w (w.alloc o1) := fun o1 => (Below.refl _ _).alloc (Nat.le_refl _) _
  by_cases hck : chk l 1 = 0
  · rw [hck] at hc
    by_cases hl : l = []
    · have hn : new l = (zeros, 1) := by unfold new; rw [if_pos hck, if_pos hl]
      rw [hn]
      have hl0 : (l.length : Int) = 0 := by rw [hl]; rfl
      clear hn hck hl
      go_enter Try.func21, Try.ntmps21
      go_wp2_with (first
        | (go_at_call 39; ((with_reducible refine (hc _ (h.below (hb0 _))).mono ?_); rintro e w1 ⟨rfl, f1⟩; have r1' := (f1.block w.heap.size (by simp)).trans (heap_alloc_new w _); have g1 := (hb0 _).trans (f1.mono (hb0 _).size); have r1 : w1.heap[w.heap.size]? = some (.cells (nc zeros) 45 (0, 0)) := (by rw [hZe]; exact r1'); clear f1 r1'))
        | (refine wpList_store_row (by rfl) 45 (.tmp 2) (.tmp 16) (by rfl) w.heap.size (nc zeros) (nc zeros) 45 (by rfl) (by simp only [hZe]; rfl) r1 hZi rfl hZ1 ?_))
      refine bodyPost_ret (result_two rfl rfl rfl (run_loadVar_row _ w.heap.size 45 45 (nc zeros) (0, 0) _ (setRow_heap _ _ _ _ _ _ r1) Try.underlying45 rfl hZi)) rfl ⟨rfl, setRow_below g1 _ _ (by omega)⟩
    · have hl0 : ¬ (l.length : Int) = 0 := by have := List.length_pos_iff.2 hl; omega
      have hn : new l = chg zeros l := by unfold new; rw [if_pos hck, if_neg hl]
      rw [hn]
      have hcc := fun v hv => C_change zeros zeros_pows A c l v hv hm
      have hRp : Pows (chg zeros l).1 := by
        unfold chg
        split
        · rename_i h0
          split
          · exact zeros_pows
          · exact setAll_pows zeros_pows (chk_okE h0)
        · exact zeros_pows
      generalize chg zeros l = R at hcc hRp ⊢
      obtain ⟨R, rz⟩ := R
      simp only at hRp hcc ⊢
      have hRs := nc_size R
      rw [hRp.1] at hRs
      have hRi : (Try.prog.info? 45).map (·.size) = some (nc R).size := by rw [hRs]; kernel_rfl
      have hR1 := nc_one R
      obtain ⟨Z, eZ⟩ : ∃ Z, nc R = Z := ⟨_, rfl⟩
      simp only [eZ] at hcc hRs hRi hR1 ⊢
      rw [nc_zlit] at hcc
      clear hn hck hl hRp eZ
      go_enter Try.func21, Try.ntmps21
      go_wp2_with (first
        | (go_at_call 39; ((with_reducible refine (hc _ (h.below (hb0 _))).mono ?_); rintro e w1 ⟨rfl, f1⟩; have r1' := (f1.block w.heap.size (by simp)).trans (heap_alloc_new w _); have g1 := (hb0 _).trans (f1.mono (hb0 _).size); have r1 : w1.heap[w.heap.size]? = some (.cells (nc zeros) 45 (0, 0)) := (by rw [hZe]; exact r1'); clear f1 r1'))
        | (go_at_call 40; ((with_reducible refine (hcc _ (h.below g1)).mono ?_); rintro e w2 ⟨rfl, f2⟩; have r2 := (f2.block w.heap.size (Array.getElem?_eq_some_iff.1 r1).1).trans r1; have g2 := g1.trans (f2.mono g1.size); clear f2))
        | (refine wpList_store_row (by rfl) 45 (.tmp 2) (.tmp 21) (by rfl) w.heap.size Z (nc zeros) 45 (by rfl) (by rfl) r2 hRi (by rw [hZs, hRs]) hR1 ?_))
      refine bodyPost_ret (result_two rfl rfl rfl (run_loadVar_row _ w.heap.size 45 45 Z (0, 0) _ (setRow_heap _ _ _ _ _ _ r2) Try.underlying45 rfl hRi)) rfl ⟨rfl, setRow_below g2 _ _ (by omega)⟩
  · have hn : new l = (zeros, chk l 1) := by unfold new; rw [if_neg hck]
    rw [hn]
    clear hn
    generalize chk l 1 = z at hck hc
    go_enter Try.func21, Try.ntmps21
    go_wp2_with (first
      | (go_at_call 39; ((with_reducible refine (hc _ (h.below (hb0 _))).mono ?_); rintro e w1 ⟨rfl, f1⟩; have r1' := (f1.block w.heap.size (by simp)).trans (heap_alloc_new w _); have g1 := (hb0 _).trans (f1.mono (hb0 _).size); have r1 : w1.heap[w.heap.size]? = some (.cells (nc zeros) 45 (0, 0)) := (by rw [hZe]; exact r1'); clear f1 r1'))
      | (refine wpList_store_row (by rfl) 45 (.tmp 2) (.tmp 16) (by rfl) w.heap.size (nc zeros) (nc zeros) 45 (by rfl) (by simp only [hZe]; rfl) r1 hZi rfl hZ1 ?_))
    refine bodyPost_ret (result_two rfl rfl rfl (run_loadVar_row _ w.heap.size 45 45 (nc zeros) (0, 0) _ (setRow_heap _ _ _ _ _ _ r1) Try.underlying45 rfl hZi)) rfl ⟨rfl, setRow_below g1 _ _ (by omega)⟩
end Go.Proofs.Ytgkiehefneamcaa.Cod
