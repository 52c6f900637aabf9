/- digest.schedule: the words of a block. Contract by what it means. -/
import Derived.Test.YtdpkodhfelnedaaDoorTurn
import Derived.Test.YtdpkodhfelnedaaDoorRow
import Derived.LoopTactic
import Derived.Outline
namespace Go.Proofs.YtdpkodhfelnedaaDoor.Cod
open Go.RowKit
/-- an array of words -/
def wordsA (l : List Nat) : Array Value := (l.map fun x : Nat => Value.int .u32 (x : Int)).toArray
def schC (W : List Nat) (k : Nat) : Array Value := wordsA (W.take k ++ List.replicate (64 - k) 0)
theorem wordsA_get (l : List Nat) (k x : Nat) (h : l[k]? = some x) : (wordsA l)[k]? = some (.int .u32 (x : Int)) := by simp [wordsA, h]
theorem schC_get (W : List Nat) (k j x : Nat) (hj : j < k) (h : W[j]? = some x) : (schC W k)[j]? = some (.int .u32 (x : Int)) := by
  refine wordsA_get _ _ _ ?_
  rw [List.getElem?_append_left (by rw [List.length_take]; have := (List.getElem?_eq_some_iff.1 h).1; omega), List.getElem?_take, if_pos hj, h]
theorem schC_at (W : List Nat) (k : Nat) (hW : W.length = 64) (hk : k < 64) : (schC W k)[k]? = some (.int .u32 0) := by
  refine wordsA_get _ _ 0 ?_
  rw [List.getElem?_append_right (by rw [List.length_take]; omega), List.length_take, show k - min k W.length = 0 by omega, List.getElem?_replicate, if_pos (by omega)]
theorem schC_set (W : List Nat) (k x : Nat) (hk : k < 64) (h : W[k]? = some x) : (schC W k).setIfInBounds k (.int .u32 (x : Int)) = schC W (k + 1) := by
  have hlt := (List.getElem?_eq_some_iff.1 h).1
  unfold schC wordsA
  rw [List.setIfInBounds_toArray, ← List.map_set]
  congr 2
  rw [List.take_add_one, h, List.set_append_right _ _ (by rw [List.length_take]; omega), List.length_take, show k - min k W.length = 0 by omega, show 64 - k = (64 - (k + 1)) + 1 by omega, List.replicate_succ]
  simp
theorem schC_zero (W : List Nat) : schC W 0 = (wordsA (List.replicate 64 0)) := rfl
theorem schC_full (W : List Nat) (hW : W.length = 64) : schC W 64 = wordsA W := by
  unfold schC
  rw [List.take_of_length_le (by omega)]
  simp
theorem wordsA_size (l : List Nat) : (wordsA l).size = l.length := by simp [wordsA]
theorem wordsA_one (l : List Nat) : (wordsA l).all (·.oneCell') = true := by
  simp [wordsA, Value.oneCell']
theorem or_add (a b i m : Nat) (hm : 2 ^ i = m) (h : b < m) : a * m ||| b = a * m + b := by
  subst hm
  have := Nat.shiftLeft_add_eq_or_of_lt (b := b) (i := i) h a
  rw [Nat.shiftLeft_eq] at this
  exact this.symm
theorem be4_expr (x0 x1 x2 x3 : Nat) (h0 : x0 < 256) (h1 : x1 < 256) (h2 : x2 < 256) (h3 : x3 < 256) :
    bits .or .u32 (bits .or .u32 (bits .or .u32 (IntKind.u32.wrap (IntKind.u32.wrap (x0 : Int) * 16777216)) (IntKind.u32.wrap (IntKind.u32.wrap (x1 : Int) * 65536))) (IntKind.u32.wrap (IntKind.u32.wrap (x2 : Int) * 256))) (IntKind.u32.wrap (x3 : Int)) = ((((x0 * 256 + x1) * 256 + x2) * 256 + x3 : Nat) : Int) := by
  have e0 : IntKind.u32.wrap (IntKind.u32.wrap (x0 : Int) * 16777216) = ((x0 * 16777216 : Nat) : Int) := by
    rw [wrap32 _ (by omega)]; show ((x0 : Int) * 16777216) % 4294967296 = _; omega
  have e1 : IntKind.u32.wrap (IntKind.u32.wrap (x1 : Int) * 65536) = ((x1 * 65536 : Nat) : Int) := by
    rw [wrap32 _ (by omega)]; show ((x1 : Int) * 65536) % 4294967296 = _; omega
  have e2 : IntKind.u32.wrap (IntKind.u32.wrap (x2 : Int) * 256) = ((x2 * 256 : Nat) : Int) := by
    rw [wrap32 _ (by omega)]; show ((x2 : Int) * 256) % 4294967296 = _; omega
  have o1 : x0 * 16777216 ||| x1 * 65536 = x0 * 16777216 + x1 * 65536 := or_add x0 (x1 * 65536) 24 16777216 rfl (by omega)
  have o2 : (x0 * 16777216 + x1 * 65536) ||| x2 * 256 = x0 * 16777216 + x1 * 65536 + x2 * 256 := by
    have := or_add (x0 * 256 + x1) (x2 * 256) 16 65536 rfl (by omega)
    rw [show (x0 * 256 + x1) * 65536 = x0 * 16777216 + x1 * 65536 by omega] at this
    exact this
  have o3 : (x0 * 16777216 + x1 * 65536 + x2 * 256) ||| x3 = x0 * 16777216 + x1 * 65536 + x2 * 256 + x3 := by
    have := or_add (x0 * 65536 + x1 * 256 + x2) x3 8 256 rfl (by omega)
    rw [show (x0 * 65536 + x1 * 256 + x2) * 256 = x0 * 16777216 + x1 * 65536 + x2 * 256 by omega] at this
    exact this
  rw [e0, e1, e2, wrap32 x3 (by omega), or32 (x0 * 16777216) (x1 * 65536) (by omega) (by omega), o1, or32 (x0 * 16777216 + x1 * 65536) (x2 * 256) (by omega) (by omega), o2, or32 (x0 * 16777216 + x1 * 65536 + x2 * 256) x3 (by omega) (by omega), o3]
  omega
theorem getD_byte (s : ByteArray) (i : Nat) (h : i < s.size) : s.data.toList.getD i 0 = s[i] := by
  have h2 : i < s.data.toList.length := by simpa using h
  rw [List.getD_eq_getElem?_getD, List.getElem?_eq_getElem h2]
  rfl
theorem be4_str (s : ByteArray) (k : Nat) (a0 a1 a2 a3 : Nat) (e0 : a0 = 4 * k) (e1 : a1 = 4 * k + 1) (e2 : a2 = 4 * k + 2) (e3 : a3 = 4 * k + 3) (h0 : a0 < s.size) (h1 : a1 < s.size) (h2 : a2 < s.size) (h3 : a3 < s.size) :
    bits .or .u32 (bits .or .u32 (bits .or .u32 (IntKind.u32.wrap (IntKind.u32.wrap ((s[a0].toNat : Nat) : Int) * 16777216)) (IntKind.u32.wrap (IntKind.u32.wrap ((s[a1].toNat : Nat) : Int) * 65536))) (IntKind.u32.wrap (IntKind.u32.wrap ((s[a2].toNat : Nat) : Int) * 256))) (IntKind.u32.wrap ((s[a3].toNat : Nat) : Int)) = ((be4 s.data.toList k : Nat) : Int) := by
  subst e0 e1 e2 e3
  rw [be4_expr _ _ _ _ (UInt8.toNat_lt _) (UInt8.toNat_lt _) (UInt8.toNat_lt _) (UInt8.toNat_lt _)]
  unfold be4
  rw [getD_byte s _ h0, getD_byte s _ h1, getD_byte s _ h2, getD_byte s _ h3]
theorem sched_expr (y0 y1 y9 y14 : Nat) (h1 : y1 < 4294967296) (h14 : y14 < 4294967296) :
    IntKind.u32.wrap (IntKind.u32.wrap (IntKind.u32.wrap ((y0 : Int) + bits .xor .u32 (bits .xor .u32 (rotr 7 y1 : Nat) (rotr 18 y1 : Nat)) ((y1 : Int) / 8)) + (y9 : Int)) + bits .xor .u32 (bits .xor .u32 (rotr 17 y14 : Nat) (rotr 19 y14 : Nat)) ((y14 : Int) / 1024)) = (((y0 + sg0 y1 + y9 + sg1 y14) % 4294967296 : Nat) : Int) := by
  have e1 : (y1 : Int) / 8 = ((y1 / 8 : Nat) : Int) := by omega
  have e2 : (y14 : Int) / 1024 = ((y14 / 1024 : Nat) : Int) := by omega
  have r7 := rotr_lt 7 y1 (by omega) h1
  have r18 := rotr_lt 18 y1 (by omega) h1
  have r17 := rotr_lt 17 y14 (by omega) h14
  have r19 := rotr_lt 19 y14 (by omega) h14
  rw [e1, e2, xor32 _ _ r7 r18, xor32 _ _ (xor_lt r7 r18) (by omega), xor32 _ _ r17 r19, xor32 _ _ (xor_lt r17 r19) (by omega), wrap32_add, wrap32_add, wrap32_add]
  unfold sg0 sg1
  omega
def SchRel (w : World) (W : List Nat) (i : Value) (wr : World) : Prop :=
  ∃ k : Nat, k ≤ 64 ∧ i = .int .i64 k ∧ wr.heap[w.heap.size + 1]? = some (.cells (schC W k) 82 (0, 0)) ∧ Below w.heap.size w wr ∧ w.heap.size + 1 < wr.heap.size ∧ wr.heap[w.heap.size]? = some (.cells (schC W 0) 82 (0, 0))
set_option maxHeartbeats 4000000 in
set_option maxRecDepth 100000 in
theorem C_sched (s : ByteArray) (hs : s.size = 64) (w : World) : Calls Tryd.prog 42 #[.string s] w fun e w' => e = .returned (.agg (wordsA (sched s.data.toList))) ∧ Below w.heap.size w w' := by
  obtain ⟨W, eW⟩ : ∃ W, W = sched s.data.toList := ⟨_, rfl⟩
  have hW : W.length = 64 := by rw [eW]; exact sched_len _
  rw [← eW]
  go_enter Tryd.func42, Tryd.ntmps42
  go_wp2
  go_loopw [7] (fun i wr => SchRel w W i wr) (fun i _ => 64 - (intOf i).toNat)
  case atStart => exact ⟨0, by omega, rfl, heap_alloc2_new w _ _, ((Below.refl _ _).alloc (Nat.le_refl _) _).alloc (by simp) _, by simp, heap_alloc2_old w _ _⟩
  case round =>
    obtain ⟨k, hk, rfl, hg, hb, hz, hr0⟩ := hrel
    by_cases hlt : k < 64
    · have hltI : (k : Int) < 64 := by omega
      by_cases h16 : k < 16
      · have h16I : (k : Int) < 16 := by omega
        have cK : wr.cell? ⟨w.heap.size + 1, k, none⟩ = some (.int .u32 0) := (cell_of_row _ _ _ _ _ _ hg).trans (schC_at W k hW hlt)
        have fK : wr.frozen? ⟨w.heap.size + 1, k, none⟩ = false := frozen_of_row _ _ _ _ _ hg
        have b0 : (0 : Int) ≤ 4 * (k : Int) := by omega
        have b1 : 4 * (k : Int) < 64 := by omega
        have b2 : (0 : Int) ≤ 4 * (k : Int) + 1 := by omega
        have b3 : 4 * (k : Int) + 1 < 64 := by omega
        have b4 : (0 : Int) ≤ 4 * (k : Int) + 2 := by omega
        have b5 : 4 * (k : Int) + 2 < 64 := by omega
        have b6 : (0 : Int) ≤ 4 * (k : Int) + 3 := by omega
        have b7 : 4 * (k : Int) + 3 < 64 := by omega
        have b8 : (0 : Int) ≤ (k : Int) := by omega
        have hw0 : IntKind.i64.wrap (4 * (k : Int)) = 4 * (k : Int) := IntWalk.i64_in _ (by omega)
        have hw1 : IntKind.i64.wrap (4 * (k : Int) + 1) = 4 * (k : Int) + 1 := IntWalk.i64_in _ (by omega)
        have hw2 : IntKind.i64.wrap (4 * (k : Int) + 2) = 4 * (k : Int) + 2 := IntWalk.i64_in _ (by omega)
        have hw3 : IntKind.i64.wrap (4 * (k : Int) + 3) = 4 * (k : Int) + 3 := IntWalk.i64_in _ (by omega)
        go_wp2
        refine region_tail 31 (by kernel_rfl) (by kernel_rfl) ?_
        simp only [List.take_succ_cons, List.take_zero, List.drop_succ_cons, List.drop_zero]
        repeat still_step
        refine wpStill_nil ?_
        have hbe := be4_str s k (4 * (k : Int)).toNat (4 * (k : Int) + 1).toNat (4 * (k : Int) + 2).toNat (4 * (k : Int) + 3).toNat (by omega) (by omega) (by omega) (by omega) (by omega) (by omega) (by omega) (by omega)
        rw [hbe]
        clear hbe hw0 hw1 hw2 hw3
        have hWk : W[k]? = some (be4 s.data.toList k) := by rw [eW]; exact sched_lo _ k h16
        obtain ⟨x, ex⟩ : ∃ x, x = be4 s.data.toList k := ⟨_, rfl⟩
        rw [← ex] at hWk ⊢
        clear ex eW
        have HW := Lib.hid hWk
        clear hWk
        go_wp2
        go_roundw
        case rel =>
          refine ⟨k + 1, by omega, by go_num, ?_, ?_, by simpa using hz, (heap_setCell_other _ _ _ _ (by simp)).trans hr0⟩
          · exact (heap_setCell_same _ _ _ _ _ _ hg).trans (by rw [schC_set W k x hlt HW.out])
          · exact hb.drew.setCell (by simp) _
        case measure => simp [intOf]; omega
      · obtain ⟨j, rfl⟩ : ∃ j, k = j + 16 := ⟨k - 16, by omega⟩
        have h16I : ¬ (j : Int) + 16 < 16 := by omega
        have hltJ : (j : Int) + 16 < 64 := by omega
        have gW : ∀ i, i < 64 → W[i]? = some (W.getD i 0) := fun i hi => by rw [List.getD_eq_getElem?_getD, List.getElem?_eq_getElem (by omega)]; rfl
        have cl : ∀ i, i < j + 16 → wr.cell? ⟨w.heap.size + 1, i, none⟩ = some (.int .u32 (W.getD i 0 : Nat)) := fun i hi => (cell_of_row _ _ _ _ _ _ hg).trans (schC_get W _ i _ hi (gW i (by omega)))
        have c0 := cl j (by omega)
        have c1 := cl (j + 1) (by omega)
        have c9 := cl (j + 9) (by omega)
        have c14 := cl (j + 14) (by omega)
        clear cl
        have cK : wr.cell? ⟨w.heap.size + 1, j + 16, none⟩ = some (.int .u32 0) := (cell_of_row _ _ _ _ _ _ hg).trans (schC_at W _ hW hlt)
        have fK : wr.frozen? ⟨w.heap.size + 1, j + 16, none⟩ = false := frozen_of_row _ _ _ _ _ hg
        have hnx : W[j + 16]? = some ((W.getD j 0 + sg0 (W.getD (j + 1) 0) + W.getD (j + 9) 0 + sg1 (W.getD (j + 14) 0)) % 4294967296) := by
          have h1 := sched_hi s.data.toList (j + 16) (by omega) hlt
          rw [nextW_take _ _ (by omega) hlt, ← eW, show j + 16 - 16 = j by omega, show j + 16 - 15 = j + 1 by omega, show j + 16 - 7 = j + 9 by omega, show j + 16 - 2 = j + 14 by omega] at h1
          exact h1
        have l0 : W.getD j 0 < 4294967296 := sched_lt s.data.toList j _ (by rw [← eW]; exact gW j (by omega))
        have l1 : W.getD (j + 1) 0 < 4294967296 := sched_lt s.data.toList (j + 1) _ (by rw [← eW]; exact gW (j + 1) (by omega))
        have l9 : W.getD (j + 9) 0 < 4294967296 := sched_lt s.data.toList (j + 9) _ (by rw [← eW]; exact gW (j + 9) (by omega))
        have l14 : W.getD (j + 14) 0 < 4294967296 := sched_lt s.data.toList (j + 14) _ (by rw [← eW]; exact gW (j + 14) (by omega))
        clear gW
        generalize W.getD j 0 = y0 at c0 hnx l0
        generalize W.getD (j + 1) 0 = y1 at c1 hnx l1
        generalize W.getD (j + 9) 0 = y9 at c9 hnx l9
        generalize W.getD (j + 14) 0 = y14 at c14 hnx l14
        have HN := Lib.hid hnx
        clear hnx eW
        have b0 : (0 : Int) ≤ (j : Int) := by omega
        have b1 : (j : Int) < 48 := by omega
        have q0 : IntKind.i64.wrap ((j : Int) + 16 - 16) = (j : Int) := (IntWalk.i64_in _ (by omega)).trans (by omega)
        have q00 : IntKind.i64.wrap (j : Int) = (j : Int) := IntWalk.i64_in _ (by omega)
        have q1 : IntKind.i64.wrap ((j : Int) + 16 - 15) = (j : Int) + 1 := (IntWalk.i64_in _ (by omega)).trans (by omega)
        have q2 : IntKind.i64.wrap ((j : Int) + 16 - 2) = (j : Int) + 14 := (IntWalk.i64_in _ (by omega)).trans (by omega)
        have q7 : IntKind.i64.wrap ((j : Int) + 16 - 7) = (j : Int) + 9 := (IntWalk.i64_in _ (by omega)).trans (by omega)
        have p1 : (0 : Int) ≤ (j : Int) + 1 := by omega
        have p9 : (0 : Int) ≤ (j : Int) + 9 := by omega
        have p14 : (0 : Int) ≤ (j : Int) + 14 := by omega
        have p16 : (0 : Int) ≤ (j : Int) + 16 := by omega
        have r0 : (j : Int) < 64 := by omega
        have r1 : (j : Int) + 1 < 64 := by omega
        have r9 : (j : Int) + 9 < 64 := by omega
        have r14 : (j : Int) + 14 < 64 := by omega
        have t1 : ((j : Int) + 1).toNat = j + 1 := by omega
        have t9 : ((j : Int) + 9).toNat = j + 9 := by omega
        have t14 : ((j : Int) + 14).toNat = j + 14 := by omega
        have t16 : ((j : Int) + 16).toNat = j + 16 := by omega
        go_wp2
        refine region_still (by kernel_rfl) (by kernel_rfl) ?_
        repeat still_step
        refine wpStill_nil ?_
        go_wp2
        refine region_tail 29 (by kernel_rfl) (by kernel_rfl) ?_
        simp only [List.take_succ_cons, List.take_zero, List.drop_succ_cons, List.drop_zero]
        repeat still_step
        still_call (C_turn7 _ l1 _)
        repeat still_step
        still_call (C_turn18 _ l1 _)
        repeat still_step
        still_call (C_turn17 _ l14 _)
        repeat still_step
        still_call (C_turn19 _ l14 _)
        repeat still_step
        refine wpStill_nil ?_
        rw [sched_expr y0 y1 y9 y14 l1 l14]
        clear q0 q00 q1 q2 q7 p1 p9 p14 r0 r1 r9 r14 t1 t9 t14 c0 c1 c9 c14
        obtain ⟨x, ex⟩ : ∃ x, x = (y0 + sg0 y1 + y9 + sg1 y14) % 4294967296 := ⟨_, rfl⟩
        have HX : Hid (W[j + 16]? = some x) := by rw [ex]; exact HN
        rw [← ex]
        clear ex HN l0 l1 l9 l14
        go_wp2
        go_roundw
        case rel =>
          refine ⟨j + 16 + 1, by omega, by go_num, ?_, hb.drew.drew.setCell (by simp) _, by simpa using hz, (heap_setCell_other _ _ _ _ (by simp)).trans hr0⟩
          exact (heap_setCell_same _ _ _ _ _ _ hg).trans (by rw [schC_set W (j + 16) x hlt HX.out])
        case measure => simp [intOf]; omega
    · obtain rfl : k = 64 := by omega
      rw [schC_full W hW] at hg
      have hi : (Tryd.prog.info? 82).map (·.size) = some (wordsA W).size := by rw [wordsA_size, hW]; kernel_rfl
      have hs : (schC W 0).size = (wordsA W).size := by rw [wordsA_size, hW]; rfl
      have hone := wordsA_one W
      have HG := Lib.hid hg
      have HR := Lib.hid hr0
      obtain ⟨C, eC⟩ : ∃ C, wordsA W = C := ⟨_, rfl⟩
      rw [eC] at hi hs hone
      have HG : Hid (wr.heap[w.heap.size + 1]? = some (.cells C 82 (0, 0))) := by rw [← eC]; exact HG
      have HC := Lib.hid eC
      clear hg hr0 eW eC
      go_wp2_with (first
        | (refine wpList_load_row (by rfl) 82 (.tmp 3) (by rfl) (w.heap.size + 1) (by rfl) 82 C (0, 0) _ HG.out Tryd.underlying82 rfl hi ?_)
        | (refine wpList_store_row (by rfl) 82 (.tmp 2) (.tmp 81) (by rfl) w.heap.size C (schC W 0) 82 (by rfl) (by rfl) HR.out hi hs hone ?_))
      refine bodyPost_ret (results_cell_row rfl _ _ w.heap.size 82 C (0, 0) _ (by rfl) (setRow_heap _ _ _ _ _ _ HR.out) Tryd.underlying82 rfl hi) rfl ⟨by rw [HC.out], setRow_below hb _ _ (Nat.le_refl _)⟩
end Go.Proofs.YtdpkodhfelnedaaDoor.Cod
