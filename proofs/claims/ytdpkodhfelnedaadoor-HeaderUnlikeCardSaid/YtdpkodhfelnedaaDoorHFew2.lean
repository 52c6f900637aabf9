/- law05.Few: the walk. -/
import Derived.Test.YtdpkodhfelnedaaDoorHFew
import Derived.Test.YtdpkodhfelnedaaDoorRef
namespace Go.Proofs.YtdpkodhfelnedaaDoor.Cod
open Go.RowKit
def fewL (xs : List ByteArray) (k : Nat) : List (List UInt8) := (xs.take k).map fun x => fit32 (bl x)
def fewH (hh mi : Int) (ti : ByteArray) (wi : Int) (po : Nat) (xs : List ByteArray) (sa : Int) : Hdr := ⟨hh, mi, S ((bl ti).take 10), wi, po, fewL xs 7, sa⟩
theorem fewL_succ (xs : List ByteArray) (k : Nat) (h : k < xs.length) : fewL xs (k + 1) = fewL xs k ++ [fit32 (bl xs[k])] := by
  unfold fewL
  rw [List.take_add_one, List.getElem?_eq_getElem h, List.map_append]
  rfl
theorem fewL_len (xs : List ByteArray) (k : Nat) (h : k ≤ xs.length) : (fewL xs k).length = k := by unfold fewL; rw [List.length_map, List.length_take]; omega
theorem addB (a : Addr) (n : Nat) : (a.add n).block = a.block := by unfold Addr.add; split <;> rfl
/-- texts that came in -/
def ArgT (w : World) (A : Option Addr) (xs : List ByteArray) : Prop := 0 < xs.length → ∃ a : Addr, A = some a ∧ a.block < w.heap.size ∧ ∀ (j : Nat) x, xs[j]? = some x → w.cell? (a.add j) = some (.string x)
theorem ArgT.below {w w' : World} {A : Option Addr} {xs : List ByteArray} (h : ArgT w A xs) (hb : Below w.heap.size w w') : ArgT w' A xs := fun h0 => by
  obtain ⟨a, e, hlt, hc⟩ := h h0
  exact ⟨a, e, Nat.lt_of_lt_of_le hlt hb.size, fun j x hx => (hb.cell (p := a.add j) (by rw [addB]; exact hlt)).trans (hc j x hx)⟩
set_option maxHeartbeats 4000000 in
set_option maxRecDepth 100000 in
theorem C_few5 (hh mi : Int) (ti : ByteArray) (wi : Int) (po : Nat) (A : Option Addr) (c : Nat) (sa : Int) (xs : List ByteArray) (w : World) (h : ArgT w A xs) (hlen : xs.length ≤ 9223372036854775807) (hti : ti.size ≤ 140737488351232) :
    Calls Tryd.prog 5 #[rhv hh mi ti wi po A xs.length c sa] w fun e w' => ∃ A' c', e = .returned ((fewH hh mi ti wi po xs sa).val A' c') ∧ TextsAt w' A' c' ((fewH hh mi ti wi po xs sa).parents.map S) ∧ Below w.heap.size w w' ∧ ∀ b o, A' = some ⟨b, o, none⟩ → w.heap.size ≤ b := by
  have hcut := fun v => C_cut ti 10 (by omega) (by omega) hti v
  rw [show (10 : Int).toNat = 10 from rfl] at hcut
  unfold rhv
  obtain ⟨tt, et⟩ : ∃ tt, S ((bl ti).take 10) = tt := ⟨_, rfl⟩
  simp only [et] at hcut
  have ET := Lib.hid et
  clear et
  go_enter Tryd.func5, Tryd.ntmps5
  go_upto_region 3 with (go_at_call 15; (with_reducible refine (hcut _).mono ?_); rintro e w1 ⟨rfl, rfl⟩)
  have z0 := heap_alloc2_new w (.cells #[.int .i64 hh, .int .i64 mi, .string tt, .int .i64 wi, .int .u64 (po : Int), .slice A xs.length c, .int .i64 sa] 25) (.cells #[.int .i64 0, .int .i64 0, .string ⟨#[]⟩, .int .i64 0, .int .u64 0, .slice none 0 0, .int .i64 0] 25)
  have q0 := heap_alloc2_old w (.cells #[.int .i64 hh, .int .i64 mi, .string tt, .int .i64 wi, .int .u64 (po : Int), .slice A xs.length c, .int .i64 sa] 25) (.cells #[.int .i64 0, .int .i64 0, .string ⟨#[]⟩, .int .i64 0, .int .u64 0, .slice none 0 0, .int .i64 0] 25)
  have b0 : Below w.heap.size w ((w.alloc (.cells #[.int .i64 hh, .int .i64 mi, .string tt, .int .i64 wi, .int .u64 (po : Int), .slice A xs.length c, .int .i64 sa] 25)).alloc (.cells #[.int .i64 0, .int .i64 0, .string ⟨#[]⟩, .int .i64 0, .int .u64 0, .slice none 0 0, .int .i64 0] 25)) := ((Below.refl _ _).alloc (Nat.le_refl _) _).alloc (by simp) _
  obtain ⟨wz, hwz⟩ : ∃ wz, (w.alloc (.cells #[.int .i64 hh, .int .i64 mi, .string tt, .int .i64 wi, .int .u64 (po : Int), .slice A xs.length c, .int .i64 sa] 25)).alloc (.cells #[.int .i64 0, .int .i64 0, .string ⟨#[]⟩, .int .i64 0, .int .u64 0, .slice none 0 0, .int .i64 0] 25) = wz := ⟨_, rfl⟩
  rw [hwz] at z0 q0 b0 ⊢
  clear hwz hcut
  go_wp2_with (fail)
  go_loopw [3, 4] (fun v i wr => ∃ k : Nat, k ≤ xs.length ∧ k ≤ 7 ∧ i = .int .i64 k ∧ wr.ownsRow (w.heap.size + 2) 9 1 v (fewL xs k).length (tc (fewL xs k)) ∧ wr.heap[w.heap.size]? = some (.cells #[.int .i64 hh, .int .i64 mi, .string tt, .int .i64 wi, .int .u64 (po : Int), .slice A xs.length c, .int .i64 sa] 25 (0, 0)) ∧ wr.heap[w.heap.size + 1]? = some (.cells #[.int .i64 0, .int .i64 0, .string ⟨#[]⟩, .int .i64 0, .int .u64 0, .slice none 0 0, .int .i64 0] 25 (0, 0)) ∧ Below w.heap.size w wr) (fun _ i _ => 7 - (intOf i).toNat)
  case atStart => exact ⟨0, by omega, by omega, rfl, World.ownsRow_nil _ _ _ _, q0, z0, b0⟩
  case round =>
    obtain ⟨k, hkn, hk7, rfl, hown, hq, hz, hb⟩ := hrel
    clear q0 z0 b0
    have c5 : wr.cell? ⟨w.heap.size, 5, none⟩ = some (.slice A xs.length c) := by rw [cell_of_row _ _ _ _ _ _ hq]; rfl
    have lz := (Array.getElem?_eq_some_iff.1 hz).1
    by_cases hlt : k < xs.length ∧ k < 7
    · obtain ⟨b, rfl, hbl, hc⟩ := (h.below hb) (by omega)
      have hx := hc k xs[k] (List.getElem?_eq_getElem hlt.1)
      have hlti : (k : Int) < (xs.length : Int) := by omega
      have hlt7 : (k : Int) < 7 := by omega
      have hsu := fewL_succ xs k hlt.1
      have hln := fewL_len xs k hkn
      generalize xs[k] = x at hx hsu
      have hid := fun v => C_idfit x v
      have hf32 := fit32_len (bl x)
      generalize fit32 (bl x) = D at hid hsu hf32
      unfold idv at hid
      obtain ⟨X, eX⟩ : ∃ X, Lib.byteCells D = X := ⟨_, rfl⟩
      have hcv := fun (W : World) (b : Nat) (h : W.heap[b]? = some (.cells (Lib.byteCells D).toArray 36 (0, 0))) => convID W b D hf32 (0, 0) h
      have hX1 : ∀ u ∈ X, u.oneCell' = true := by rw [← eX]; exact all_one _
      have hXl : X.length = 32 := by rw [← eX, Lib.byteCells_length]; exact hf32
      rw [eX] at hid hcv
      have hXs : X.toArray.size = 32 := by simpa using hXl
      have hiX : (Tryd.prog.info? 36).map (·.size) = some X.toArray.size := by rw [hXs]; kernel_rfl
      have hXa : X.toArray.all (·.oneCell') = true := by simpa using hX1
      generalize fewL xs k = q at hown hsu hln
      have HSU := Lib.hid hsu
      have HLN := Lib.hid hln
      have HCV := Lib.hid hcv
      have HT := Lib.hid h
      clear hsu hln hcv eX h hX1 hc hf32
      have hfold : List.foldl (fun cs (x : Value × Nat) => cs.setIfInBounds x.2 x.1) Z32 X.zipIdx = X.toArray := by
        have := fold_set X 0 Z32 (by rw [hXl]; rfl)
        simpa using this
      go_upto_region 7 with (first
        | (go_at_call 16; ((with_reducible refine (hid _).mono ?_); rintro e w2 ⟨rfl, f2⟩))
        | (refine wpList_store_new (by rfl) 36 (.tmp 5) (.tmp 26) (by rfl) w2.heap.size rfl X.toArray Z32 36 (by rfl) (by rfl) hiX (by rw [hXs]; rfl) hXa ?_))
      have hal := (Below.refl w2.heap.size w2).alloc (Nat.le_refl _) (.cells X.toArray 36)
      have f3 := f2.trans (hal.mono f2.size)
      have k3 := heap_alloc_new w2 (.cells X.toArray 36)
      have o3 : (w2.alloc (.cells X.toArray 36)).ownsRow (w.heap.size + 2) 9 1 u3 q.length (tc q) := by
        refine World.ownsRow.kept (row := none) hown ⟨f3.os, f3.tape, f3.output, f3.size, fun k hk _ => f3.block k hk⟩ ?_
        cases hv : u3.ownBlock with
        | none => exact .inl rfl
        | some g => exact .inr (by simp)
      have hlo := o3.lt
      have q3 := (f3.block _ (by omega)).trans hq
      have z3 := (f3.block _ lz).trans hz
      have b3 := hb.trans (f3.mono hb.size)
      have hcv := HCV.out _ _ k3
      have l3 := f3.size
      obtain ⟨w3, hw3⟩ : ∃ w3, w2.alloc (.cells X.toArray 36) = w3 := ⟨_, rfl⟩
      obtain ⟨g3, hg3⟩ : ∃ g3, w2.heap.size = g3 := ⟨_, rfl⟩
      rw [hw3] at o3 hlo q3 z3 b3 hcv l3 ⊢
      rw [hg3] at hcv ⊢
      have HLO := Lib.hid hlo
      obtain ⟨i0, hi, hz0, hz1, hz2⟩ := info_parts infoText
      clear hw3 hg3 k3 hal f3 f2 hown hq hz hb c5 hlo hx
      go_wp2_with (at_builtin; refine wpList_append_own _ rfl _ _ 23 rfl (w.heap.size + 2) 9 i0 (.string ⟨#[]⟩) 1 16 Tryd.underlying23 hi hz0 hz1 hz2 rfl (by decide) _ _ _ rfl (o3.alloc _) ⟨w3.heap.size, 0, none⟩ 1 1 [.string (S D)] rfl ?c1 ?c2 ?c3 ?c4 ?c5 ?c6 ?_)
      case c1 => rfl
      case c2 =>
        intro j u hu
        rw [Addr.add_mid, Nat.zero_add, cell_of_row _ _ j _ _ _ (heap_alloc_new w3 _)]
        simpa using hu
      case c3 =>
        intro u hu
        simp only [List.mem_cons, List.not_mem_nil, or_false] at hu
        subst hu; rfl
      case c4 => have := HLN.out; unfold maxLen; omega
      case c5 => have := HLN.out; omega
      case c6 => simp; omega
      intro v' w8 o8 hgrow _
      have blk : ∀ i, i ≤ w.heap.size + 1 → w8.heap[i]? = w3.heap[i]? := fun i hi => (hgrow.block i (by simp; omega) (fun e => by have := (HLO.out _ e.symm).1; omega)).trans (heap_alloc_old _ _ (by omega))
      have g8 := (b3.alloc b3.size (.cells #[.string (S D)] 9)).grown hgrow (by have := b3.size; simp; omega) (fun k hk => by have := (HLO.out k hk).1; omega)
      have q8 := (blk _ (by omega)).trans q3
      have z8 := (blk _ (Nat.le_refl _)).trans z3
      clear blk hgrow o3 q3 z3 b3 hcv
      go_wp2
      go_roundw
      case rel =>
        refine ⟨k + 1, by omega, by omega, by go_num, ?_, q8, z8, g8⟩
        rw [HSU.out, show tc (q ++ [D]) = tc q ++ [.string (S D)] by simp [tc], List.length_append]
        exact o8
      case measure => simp [intOf]; omega
    · obtain ⟨A3, c3, rfl, hTx⟩ := texts_of_own hown
      have hk : fewL xs k = fewL xs 7 := by
        by_cases h7 : k = 7
        · rw [h7]
        · have : k = xs.length := by omega
          unfold fewL
          rw [List.take_of_length_le (l := xs) (i := k) (by omega), List.take_of_length_le (l := xs) (i := 7) (by omega)]
      have hlo := hown.lt
      have ln3 := fewL_len xs k hkn
      rw [ln3]
      have HK := Lib.hid hk
      have HTX := Lib.hid hTx
      have HLO := Lib.hid hlo
      have HLN := Lib.hid ln3
      have hfz := frozen_of_row wr w.heap.size 5 _ _ hq
      have infoH : (Tryd.prog.info? 25).map (·.size) = some 7 := by kernel_rfl
      have V1 : (#[.int .i64 hh, .int .i64 mi, .string tt, .int .i64 wi, .int .u64 (po : Int), .slice A3 k c3, .int .i64 sa] : Array Value).all (·.oneCell') = true := by simp [Value.oneCell']
      have hA : ∀ g o, A3 = some ⟨g, o, none⟩ → w.heap.size + 2 ≤ g := fun g o e => (hlo g (by rw [e]; rfl)).1
      have HA := Lib.hid hA
      have tx : ∀ (b i : Nat) (x : Value) (v : World), TextsAt v A3 c3 ((fewL xs k).map S) → b ≤ w.heap.size + 1 → TextsAt (v.setCell ⟨b, i, none⟩ x) A3 c3 ((fewL xs k).map S) := fun b i x v ht hb => by
        refine ⟨ht.1, fun h0 => ?_⟩
        obtain ⟨b2, o, e, hb', hc⟩ := ht.2 h0
        have hg := HA.out b2 o e
        exact ⟨b2, o, e, by simpa using hb', fun j x hx => (World.cell?_of_block (w := v) (a := ⟨b2, o + j, none⟩) (heap_setCell_other _ _ _ _ (show b2 ≠ b by omega))).trans (hc j x hx)⟩
      clear hk hTx hlo ln3 hown h hA
      by_cases hkn' : k < xs.length
      · have e1 : (k : Int) < (xs.length : Int) := by omega
        have e2 : ¬ (k : Int) < 7 := by omega
        go_upto_region 9 with (fail)
        have q1 : (wr.setCell ⟨w.heap.size, 5, none⟩ (.slice A3 k c3)).heap[w.heap.size]? = some (.cells #[.int .i64 hh, .int .i64 mi, .string tt, .int .i64 wi, .int .u64 (po : Int), .slice A3 k c3, .int .i64 sa] 25 (0, 0)) := by rw [heap_setCell_same _ _ _ _ _ _ hq]; rfl
        have z1 : (wr.setCell ⟨w.heap.size, 5, none⟩ (.slice A3 k c3)).heap[w.heap.size + 1]? = some (.cells #[.int .i64 0, .int .i64 0, .string ⟨#[]⟩, .int .i64 0, .int .u64 0, .slice none 0 0, .int .i64 0] 25 (0, 0)) := by rw [heap_setCell_other _ _ _ _ (by simp)]; exact hz
        have b1 : Below w.heap.size w (wr.setCell ⟨w.heap.size, 5, none⟩ (.slice A3 k c3)) := hb.setCell (p := ⟨w.heap.size, 5, none⟩) (Nat.le_refl _) _
        have t1 := tx w.heap.size 5 (.slice A3 k c3) wr HTX.out (by omega)
        generalize wr.setCell ⟨w.heap.size, 5, none⟩ (.slice A3 k c3) = w4 at q1 z1 b1 t1 ⊢
        go_wp2_with (first
          | (refine wpList_load_row (by rfl) 25 (.tmp 1) (by rfl) w.heap.size (by rfl) 25 #[.int .i64 hh, .int .i64 mi, .string tt, .int .i64 wi, .int .u64 (po : Int), .slice A3 k c3, .int .i64 sa] (0, 0) _ q1 Tryd.underlying25 rfl infoH ?_)
          | (refine wpList_store_row (by rfl) 25 (.tmp 2) (.tmp 34) (by rfl) (w.heap.size + 1) #[.int .i64 hh, .int .i64 mi, .string tt, .int .i64 wi, .int .u64 (po : Int), .slice A3 k c3, .int .i64 sa] #[.int .i64 0, .int .i64 0, .string ⟨#[]⟩, .int .i64 0, .int .u64 0, .slice none 0 0, .int .i64 0] 25 (by rfl) (by rfl) z1 infoH rfl V1 ?_))
        refine bodyPost_ret (result_cell rfl rfl (run_loadVar_row _ (w.heap.size + 1) 25 25 #[.int .i64 hh, .int .i64 mi, .string tt, .int .i64 wi, .int .u64 (po : Int), .slice A3 k c3, .int .i64 sa] (0, 0) _ (setRow_heap _ _ _ _ _ _ z1) Tryd.underlying25 rfl infoH)) rfl ?_
        refine ⟨A3, c3, ?_, ?_, setRow_below b1 _ _ (by omega), fun b o e => by have := HA.out b o e; omega⟩
        · unfold fewH Hdr.val
          simp only
          rw [ET.out, ← HK.out, HLN.out]
        · show TextsAt _ A3 c3 ((fewL xs 7).map S)
          rw [← HK.out]
          refine ⟨t1.1, fun h0 => ?_⟩
          obtain ⟨b, o, e, hb', hc⟩ := t1.2 h0
          have hg := HA.out b o e
          exact ⟨b, o, e, by simpa using hb', fun j x hx => (World.cell?_of_block (w := w4) (a := ⟨b, o + j, none⟩) (setRow_other _ _ _ _ (show b ≠ w.heap.size + 1 by omega))).trans (hc j x hx)⟩
      · have e1 : ¬ (k : Int) < (xs.length : Int) := by omega
        go_upto_region 9 with (fail)
        have q1 : (wr.setCell ⟨w.heap.size, 5, none⟩ (.slice A3 k c3)).heap[w.heap.size]? = some (.cells #[.int .i64 hh, .int .i64 mi, .string tt, .int .i64 wi, .int .u64 (po : Int), .slice A3 k c3, .int .i64 sa] 25 (0, 0)) := by rw [heap_setCell_same _ _ _ _ _ _ hq]; rfl
        have z1 : (wr.setCell ⟨w.heap.size, 5, none⟩ (.slice A3 k c3)).heap[w.heap.size + 1]? = some (.cells #[.int .i64 0, .int .i64 0, .string ⟨#[]⟩, .int .i64 0, .int .u64 0, .slice none 0 0, .int .i64 0] 25 (0, 0)) := by rw [heap_setCell_other _ _ _ _ (by simp)]; exact hz
        have b1 : Below w.heap.size w (wr.setCell ⟨w.heap.size, 5, none⟩ (.slice A3 k c3)) := hb.setCell (p := ⟨w.heap.size, 5, none⟩) (Nat.le_refl _) _
        have t1 := tx w.heap.size 5 (.slice A3 k c3) wr HTX.out (by omega)
        generalize wr.setCell ⟨w.heap.size, 5, none⟩ (.slice A3 k c3) = w4 at q1 z1 b1 t1 ⊢
        go_wp2_with (first
          | (refine wpList_load_row (by rfl) 25 (.tmp 1) (by rfl) w.heap.size (by rfl) 25 #[.int .i64 hh, .int .i64 mi, .string tt, .int .i64 wi, .int .u64 (po : Int), .slice A3 k c3, .int .i64 sa] (0, 0) _ q1 Tryd.underlying25 rfl infoH ?_)
          | (refine wpList_store_row (by rfl) 25 (.tmp 2) (.tmp 34) (by rfl) (w.heap.size + 1) #[.int .i64 hh, .int .i64 mi, .string tt, .int .i64 wi, .int .u64 (po : Int), .slice A3 k c3, .int .i64 sa] #[.int .i64 0, .int .i64 0, .string ⟨#[]⟩, .int .i64 0, .int .u64 0, .slice none 0 0, .int .i64 0] 25 (by rfl) (by rfl) z1 infoH rfl V1 ?_))
        refine bodyPost_ret (result_cell rfl rfl (run_loadVar_row _ (w.heap.size + 1) 25 25 #[.int .i64 hh, .int .i64 mi, .string tt, .int .i64 wi, .int .u64 (po : Int), .slice A3 k c3, .int .i64 sa] (0, 0) _ (setRow_heap _ _ _ _ _ _ z1) Tryd.underlying25 rfl infoH)) rfl ?_
        refine ⟨A3, c3, ?_, ?_, setRow_below b1 _ _ (by omega), fun b o e => by have := HA.out b o e; omega⟩
        · unfold fewH Hdr.val
          simp only
          rw [ET.out, ← HK.out, HLN.out]
        · show TextsAt _ A3 c3 ((fewL xs 7).map S)
          rw [← HK.out]
          refine ⟨t1.1, fun h0 => ?_⟩
          obtain ⟨b, o, e, hb', hc⟩ := t1.2 h0
          have hg := HA.out b o e
          exact ⟨b, o, e, by simpa using hb', fun j x hx => (World.cell?_of_block (w := w4) (a := ⟨b, o + j, none⟩) (setRow_other _ _ _ _ (show b ≠ w.heap.size + 1 by omega))).trans (hc j x hx)⟩
end Go.Proofs.YtdpkodhfelnedaaDoor.Cod
