/- law05.IDOf, same: the walks. -/
import Derived.Test.YtdpkodhfelnedaaDoorHLaw
import Derived.Test.YtdpkodhfelnedaaDoorEqId
namespace Go.Proofs.YtdpkodhfelnedaaDoor.Cod
open Go.RowKit
set_option maxHeartbeats 1600000 in
set_option maxRecDepth 100000 in
theorem C_idof (s : ByteArray) (hs : s.size = 32) (w : World) :
    Calls Tryd.prog 16 #[.string s] w fun e w' => e = .returned (idv (bl s)) ∧ Below w.heap.size w w' := by
  have hcp := run_copy_id ((w.alloc (.cells Z32 36)).alloc (.cells Z32 36)) 3 (w.alloc (.cells Z32 36)).heap.size Z32 (heap_alloc_new _ _) rfl s (by omega)
  rw [World.setRow_alloc_new, show (w.alloc (.cells Z32 36)).heap.size = w.heap.size + 1 by simp, List.take_of_length_le (by rw [bl_len]; omega)] at hcp
  unfold idv
  have hbl : (bl s).length = 32 := by rw [bl_len]; exact hs
  obtain ⟨X, eX⟩ : ∃ X, Lib.byteCells (bl s) = X := ⟨_, rfl⟩
  have hX1 : ∀ u ∈ X, u.oneCell' = true := by rw [← eX]; exact all_one _
  have hXl : X.length = 32 := by rw [← eX, Lib.byteCells_length]; exact hbl
  rw [eX] at hcp ⊢
  have hXs : X.toArray.size = 32 := by simpa using hXl
  have hiX : (Tryd.prog.info? 36).map (·.size) = some X.toArray.size := by rw [hXs]; kernel_rfl
  have hXa : X.toArray.all (·.oneCell') = true := by simpa using hX1
  have hfold : List.foldl (fun cs (x : Value × Nat) => cs.setIfInBounds x.2 x.1) Z32 X.zipIdx = X.toArray := by
    have := fold_set X 0 Z32 (by rw [hXl]; rfl)
    simpa using this
  have q1 : ((w.alloc (.cells Z32 36)).alloc (.cells X.toArray 36)).heap[w.heap.size + 1]? = some (.cells X.toArray 36 (0, 0)) := heap_alloc2_new _ _ _
  have q0 : ((w.alloc (.cells Z32 36)).alloc (.cells X.toArray 36)).heap[w.heap.size]? = some (.cells Z32 36 (0, 0)) := heap_alloc2_old _ _ _
  have g0 : Below w.heap.size w ((w.alloc (.cells Z32 36)).alloc (.cells X.toArray 36)) := ((Below.refl _ _).alloc (Nat.le_refl _) _).alloc (by simp) _
  clear eX hbl hX1
  go_enter Tryd.func16, Tryd.ntmps16
  go_wp2_with (first
    | (refine wpList_load_row (by rfl) 36 (.tmp 3) (by rfl) (w.heap.size + 1) (by rfl) 36 X.toArray (0, 0) _ q1 Tryd.underlying36 rfl hiX ?_)
    | (refine wpList_store_row (by rfl) 36 (.tmp 2) (.tmp 7) (by rfl) w.heap.size X.toArray Z32 36 (by rfl) (by rfl) q0 hiX (by rw [hXs]; rfl) hXa ?_))
  refine bodyPost_ret (result_cell rfl rfl (run_loadVar_row _ w.heap.size 36 36 X.toArray (0, 0) _ (setRow_heap _ _ _ _ _ _ q0) Tryd.underlying36 rfl hiX)) rfl ⟨rfl, setRow_below g0 _ _ (Nat.le_refl _)⟩
set_option maxHeartbeats 4000000 in
set_option maxRecDepth 100000 in
theorem C_same (h : Hdr) (A A2 : Option Addr) (c c2 : Nat) (w : World) (hI : IdsAt w A h.parents) (hT : TextsAt w A2 c2 (h.parents.map S)) (hlen : h.parents.length ≤ 1000000) :
    Calls Tryd.prog 8 #[h.val A c, h.val A2 c2] w fun e w' => e = .returned (.bool true) ∧ Below w.heap.size w w' := by
  obtain ⟨hh, mi, ti, wi, po, D, sa⟩ := h
  unfold Hdr.val
  simp only at hI hT hlen ⊢
  go_enter Tryd.func8, Tryd.ntmps8
  go_wp2_with (fail)
  have z0 := heap_alloc2_old w (.cells #[.int .i64 hh, .int .i64 mi, .string ti, .int .i64 wi, .int .u64 (po : Int), .slice A D.length c, .int .i64 sa] 31) (.cells #[.int .i64 hh, .int .i64 mi, .string ti, .int .i64 wi, .int .u64 (po : Int), .slice A2 D.length c2, .int .i64 sa] 25)
  have b0 : Below w.heap.size w ((w.alloc (.cells #[.int .i64 hh, .int .i64 mi, .string ti, .int .i64 wi, .int .u64 (po : Int), .slice A D.length c, .int .i64 sa] 31)).alloc (.cells #[.int .i64 hh, .int .i64 mi, .string ti, .int .i64 wi, .int .u64 (po : Int), .slice A2 D.length c2, .int .i64 sa] 25)) := ((Below.refl _ _).alloc (Nat.le_refl _) _).alloc (by simp) _
  obtain ⟨wz, hwz⟩ : ∃ wz, (w.alloc (.cells #[.int .i64 hh, .int .i64 mi, .string ti, .int .i64 wi, .int .u64 (po : Int), .slice A D.length c, .int .i64 sa] 31)).alloc (.cells #[.int .i64 hh, .int .i64 mi, .string ti, .int .i64 wi, .int .u64 (po : Int), .slice A2 D.length c2, .int .i64 sa] 25) = wz := ⟨_, rfl⟩
  rw [hwz] at z0 b0 ⊢
  clear hwz
  go_loopw [59] (fun i wr => ∃ k : Nat, k ≤ D.length ∧ i = .int .i64 k ∧ wr.heap[w.heap.size]? = some (.cells #[.int .i64 hh, .int .i64 mi, .string ti, .int .i64 wi, .int .u64 (po : Int), .slice A D.length c, .int .i64 sa] 31 (0, 0)) ∧ Below w.heap.size w wr) (fun i _ => D.length - (intOf i).toNat)
  case atStart => exact ⟨0, by omega, rfl, z0, b0⟩
  case round =>
    obtain ⟨k, hk, rfl, hz, hb⟩ := hrel
    clear z0 b0
    by_cases hlt : k < D.length
    · obtain ⟨h32, gb, o, rfl, hgl, hrg⟩ := (hI.below hb) k hlt
      obtain ⟨b2, o2, rfl, hb2, hc2⟩ := (hT.below hb).2 (by rw [List.length_map]; omega)
      have hlti : (k : Int) < (D.length : Int) := by omega
      have hk0 : (0 : Int) ≤ (k : Int) := by omega
      have hx := hc2 k (S D[k]) (by rw [List.getElem?_map, List.getElem?_eq_getElem hlt]; rfl)
      generalize D[k] = x at h32 hrg hx
      have hid := fun v => C_idof (S x) (by rw [S_size]; exact h32) v
      rw [bl_S] at hid
      have heq := fun W => eqId x x h32 h32 W 9998
      simp only [decide_true] at heq
      unfold idv at heq hid
      obtain ⟨X, eX⟩ : ∃ X, Lib.byteCells x = X := ⟨_, rfl⟩
      have hXl : X.length = 32 := by rw [← eX, Lib.byteCells_length]; exact h32
      rw [eX] at hrg
      simp only [eX] at heq hid
      have hiX : (Tryd.prog.info? 36).map (·.size) = some X.length := by rw [hXl]; kernel_rfl
      have HID := Lib.hid hid
      have HRG := Lib.hid hrg
      have HI := Lib.hid hI
      have HT := Lib.hid hT
      clear eX hc2 hid hrg hI hT
      go_upto_region 6 with (fail)
      refine region_fix3 [6] (fun _ _ _ => .agg X.toArray) (fun _ W W' => Below W.heap.size W W') (by kernel_rfl) (by kernel_rfl) (fun _ W => ⟨W, Below.refl _ _⟩) fun g g0 hG => ?_
      have e0 : Below (g 0).heap.size (g 0) (g 1) := hG 0 (by decide)
      clear hG
      have f0 : Below wr.heap.size wr (g 0) := by rw [g0]; exact (Below.refl _ _).drew
      have f1 := f0.trans (e0.mono f0.size)
      have hw : ∀ j : Nat, j ≤ 1 → Below wr.heap.size wr (g j) := fun j hj => by
        rcases (by omega : j = 0 ∨ j = 1) with rfl | rfl
        · exact f0
        · exact f1
      have s0 := (Array.getElem?_eq_some_iff.1 hz).1
      have G0 := Lib.hid g0
      clear g0
      refine fix3_step (.pointer (some ⟨w.heap.size, 5, none⟩)) (by kernel_rfl) rfl (fun J s _ _ hJ => ?_) ?_
      · go_simp
        exact hJ _ rfl
      intro J hJ
      go_simp
      refine hJ _ ?_
      clear hJ J
      refine fix3_mid (.slice (some ⟨gb, o, none⟩) D.length c) 0 1 (by kernel_rfl) rfl (fun J s _ hs hJ => ?_) ?_
      · have hc : (g s).cell? ⟨w.heap.size, 5, none⟩ = some (.slice (some ⟨gb, o, none⟩) D.length c) := by
          rw [cell_of_row _ _ _ _ _ _ (((hw s hs).block _ s0).trans hz)]; rfl
        go_simp
        exact hJ _ rfl
      intro J hJ
      go_simp
      refine hJ _ ?_
      clear hJ J
      refine fix3_step (.int .i64 k) (by kernel_rfl) rfl (fun J s _ _ hJ => ?_) ?_
      · go_simp
        exact hJ _ rfl
      intro J hJ
      go_simp
      refine hJ _ ?_
      clear hJ J
      refine fix3_step (.pointer (some ⟨gb, o + k * 32, none⟩)) (by kernel_rfl) rfl (fun J s _ _ hJ => ?_) ?_
      · go_simp
        exact hJ _ rfl
      intro J hJ
      go_simp
      refine hJ _ ?_
      clear hJ J
      refine fix3_mid (.agg X.toArray) 0 1 (by kernel_rfl) rfl (fun J s _ hs hJ => ?_) ?_
      · exact wp_load_mid 36 (.tmp 67) rfl gb (o + k * 32) rfl X _ (fun j v hv => ((hw s hs).cell (p := ⟨gb, o + k * 32 + j, none⟩) hgl).trans (HRG.out j v hv)) Tryd.underlying36 rfl hiX (hJ _ rfl)
      intro J hJ
      go_simp
      refine hJ _ ?_
      clear hJ J
      refine fix3_step (.string (S x)) (by kernel_rfl) rfl (fun J s _ _ hJ => ?_) ?_
      · go_simp
        exact hJ _ rfl
      intro J hJ
      go_simp
      refine hJ _ ?_
      clear hJ J
      refine fix3_eff 0 (.agg X.toArray) rfl (by kernel_rfl) rfl (fun J hJ => ?_) ?_
      · go_simp
        go_at_call 16
        refine (HID.out _).mono ?_
        rintro e W1 ⟨rfl, k1⟩
        exact hJ _ k1
      intro J hJ
      go_simp
      refine hJ _ ?_
      clear hJ J
      refine fix3_step (.bool false) (by kernel_rfl) rfl (fun J s _ _ hJ => ?_) ?_
      · have he := heq (g s)
        go_simp
        exact hJ _ rfl
      intro J hJ
      go_simp
      refine hJ _ ?_
      clear hJ J
      refine fix3_nil ?_
      have hz1 := (f1.block _ s0).trans hz
      have hb1 := hb.trans (f1.mono hb.size)
      obtain ⟨wy, hwy⟩ : ∃ wy, wy = g [6].length := ⟨_, rfl⟩
      rw [← hwy]
      replace hz1 : wy.heap[w.heap.size]? = _ := hwy ▸ hz1
      replace hb1 : Below w.heap.size w wy := hwy ▸ hb1
      clear hwy hw f1 f0 e0 heq
      go_wp2
      go_roundw
      case rel => exact ⟨k + 1, by omega, by go_num, hz1, hb1⟩
      case measure => simp [intOf]; omega
    · obtain rfl : k = D.length := by omega
      go_wp2
      go_ret
      exact ⟨rfl, hb⟩
end Go.Proofs.YtdpkodhfelnedaaDoor.Cod
