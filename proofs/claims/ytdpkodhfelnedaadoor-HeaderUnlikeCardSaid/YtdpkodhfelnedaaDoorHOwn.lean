/- law05.Own: the walk. -/
import Derived.Test.YtdpkodhfelnedaaDoorHFew2
import Derived.Test.YtdpkodhfelnedaaDoorFix5
namespace Go.Proofs.YtdpkodhfelnedaaDoor.Cod
open Go.RowKit
set_option maxHeartbeats 4000000 in
set_option maxRecDepth 100000 in
theorem C_own5 (hh mi : Int) (ti : ByteArray) (wi : Int) (po : Nat) (A : Option Addr) (c : Nat) (sa : Int) (D : List (List UInt8)) (hD : ∀ x ∈ D, x.length = 32) (w : World) (h : TextsAt w A c (D.map S)) (hlen : D.length ≤ 1000) :
    Calls Tryd.prog 7 #[rhv hh mi ti wi po A D.length c sa] w fun e w' => ∃ A' c', e = .returned ((⟨hh, mi, ti, wi, po, D, sa⟩ : Hdr).val A' c') ∧ IdsAt w' A' D ∧ Below w.heap.size w w' ∧ ∀ b o, A' = some ⟨b, o, none⟩ → w.heap.size ≤ b ∧ b < w'.heap.size := by
  unfold rhv
  go_enter Tryd.func7, Tryd.ntmps7
  go_upto_region 2 with (fail)
  have a1 := heap_alloc_new (w.alloc (.cells #[.int .i64 hh, .int .i64 mi, .string ti, .int .i64 wi, .int .u64 (po : Int), .slice A D.length c, .int .i64 sa] 25)) (.cells #[.int .i64 0, .int .i64 0, .string ⟨#[]⟩, .int .i64 0, .int .u64 0, .slice none 0 0, .int .i64 0] 31)
  have a2 := heap_alloc_new ((w.alloc (.cells #[.int .i64 hh, .int .i64 mi, .string ti, .int .i64 wi, .int .u64 (po : Int), .slice A D.length c, .int .i64 sa] 25)).alloc (.cells #[.int .i64 0, .int .i64 0, .string ⟨#[]⟩, .int .i64 0, .int .u64 0, .slice none 0 0, .int .i64 0] 31)) (.cells #[.int .i64 hh, .int .i64 mi, .string ti, .int .i64 wi, .int .u64 (po : Int), .slice none 0 0, .int .i64 sa] 31)
  have a3 := (heap_alloc_old ((w.alloc (.cells #[.int .i64 hh, .int .i64 mi, .string ti, .int .i64 wi, .int .u64 (po : Int), .slice A D.length c, .int .i64 sa] 25)).alloc (.cells #[.int .i64 0, .int .i64 0, .string ⟨#[]⟩, .int .i64 0, .int .u64 0, .slice none 0 0, .int .i64 0] 31)) (.cells #[.int .i64 hh, .int .i64 mi, .string ti, .int .i64 wi, .int .u64 (po : Int), .slice none 0 0, .int .i64 sa] 31) (Array.getElem?_eq_some_iff.1 a1).1).trans a1
  have b1 := heap_alloc_new w (.cells #[.int .i64 hh, .int .i64 mi, .string ti, .int .i64 wi, .int .u64 (po : Int), .slice A D.length c, .int .i64 sa] 25)
  have b2 := (heap_alloc_old (w.alloc (.cells #[.int .i64 hh, .int .i64 mi, .string ti, .int .i64 wi, .int .u64 (po : Int), .slice A D.length c, .int .i64 sa] 25)) (.cells #[.int .i64 0, .int .i64 0, .string ⟨#[]⟩, .int .i64 0, .int .u64 0, .slice none 0 0, .int .i64 0] 31) (Array.getElem?_eq_some_iff.1 b1).1).trans b1
  have b3 := (heap_alloc_old ((w.alloc (.cells #[.int .i64 hh, .int .i64 mi, .string ti, .int .i64 wi, .int .u64 (po : Int), .slice A D.length c, .int .i64 sa] 25)).alloc (.cells #[.int .i64 0, .int .i64 0, .string ⟨#[]⟩, .int .i64 0, .int .u64 0, .slice none 0 0, .int .i64 0] 31)) (.cells #[.int .i64 hh, .int .i64 mi, .string ti, .int .i64 wi, .int .u64 (po : Int), .slice none 0 0, .int .i64 sa] 31) (Array.getElem?_eq_some_iff.1 b2).1).trans b2
  have g1 := (Below.refl w.heap.size w).alloc (Nat.le_refl _) (.cells #[.int .i64 hh, .int .i64 mi, .string ti, .int .i64 wi, .int .u64 (po : Int), .slice A D.length c, .int .i64 sa] 25)
  have g2 := g1.alloc g1.size (.cells #[.int .i64 0, .int .i64 0, .string ⟨#[]⟩, .int .i64 0, .int .u64 0, .slice none 0 0, .int .i64 0] 31)
  have g3 := g2.alloc g2.size (.cells #[.int .i64 hh, .int .i64 mi, .string ti, .int .i64 wi, .int .u64 (po : Int), .slice none 0 0, .int .i64 sa] 31)
  rw [show (w.alloc (.cells #[.int .i64 hh, .int .i64 mi, .string ti, .int .i64 wi, .int .u64 (po : Int), .slice A D.length c, .int .i64 sa] 25)).heap.size = w.heap.size + 1 by simp] at a3
  rw [show ((w.alloc (.cells #[.int .i64 hh, .int .i64 mi, .string ti, .int .i64 wi, .int .u64 (po : Int), .slice A D.length c, .int .i64 sa] 25)).alloc (.cells #[.int .i64 0, .int .i64 0, .string ⟨#[]⟩, .int .i64 0, .int .u64 0, .slice none 0 0, .int .i64 0] 31)).heap.size = w.heap.size + 1 + 1 by simp] at a2
  obtain ⟨wz, hwz⟩ : ∃ wz, (((w.alloc (.cells #[.int .i64 hh, .int .i64 mi, .string ti, .int .i64 wi, .int .u64 (po : Int), .slice A D.length c, .int .i64 sa] 25)).alloc (.cells #[.int .i64 0, .int .i64 0, .string ⟨#[]⟩, .int .i64 0, .int .u64 0, .slice none 0 0, .int .i64 0] 31)).alloc (.cells #[.int .i64 hh, .int .i64 mi, .string ti, .int .i64 wi, .int .u64 (po : Int), .slice none 0 0, .int .i64 sa] 31)) = wz := ⟨_, rfl⟩
  rw [hwz] at a2 a3 g3 b3 ⊢
  have c0 : wz.cell? ⟨w.heap.size, 5, none⟩ = some (.slice A D.length c) := by rw [cell_of_row _ _ _ _ _ _ b3]; rfl
  obtain ⟨Rb, eR⟩ : ∃ Rb, w.heap.size + 1 = Rb := ⟨_, rfl⟩
  obtain ⟨Hb, eH⟩ : ∃ Hb, Rb + 1 = Hb := ⟨_, rfl⟩
  rw [eR, eH] at a2
  rw [eR] at a3
  rw [eR, eH]
  have d1 : w.heap.size < Rb := by omega
  have d2 : Rb < Hb := by omega
  clear hwz a1 g1 g2 eR eH b1 b2 b3
  go_wp2_with (fail)
  go_loopw [22] (fun i wr => ∃ (k : Nat) (v : Value), k ≤ D.length ∧ i = .int .i64 k ∧ wr.heap[Hb]? = some (.cells #[.int .i64 hh, .int .i64 mi, .string ti, .int .i64 wi, .int .u64 (po : Int), v, .int .i64 sa] 31 (0, 0)) ∧ wr.ownsRow (Hb + 1) 36 32 v (D.take k).length ((D.take k).flatMap Lib.byteCells) ∧ wr.heap[Rb]? = some (.cells #[.int .i64 0, .int .i64 0, .string ⟨#[]⟩, .int .i64 0, .int .u64 0, .slice none 0 0, .int .i64 0] 31 (0, 0)) ∧ Below w.heap.size w wr) (fun i _ => D.length - (intOf i).toNat)
  case atStart => exact ⟨0, _, by omega, rfl, a2, World.ownsRow_nil _ _ _ _, a3, g3⟩
  case round =>
    obtain ⟨k, v, hk, rfl, hq, hown, hz, hb⟩ := hrel
    clear a2 a3 g3
    have c5 : wr.cell? ⟨Hb, 5, none⟩ = some v := by rw [cell_of_row _ _ _ _ _ _ hq]; rfl
    have lz := (Array.getElem?_eq_some_iff.1 hq).1
    by_cases hlt : k < D.length
    · obtain ⟨b, o, rfl, hbl, hc⟩ := (h.below hb).2 (by rw [List.length_map]; omega)
      have hx := hc k (S D[k]) (by rw [List.getElem?_map, List.getElem?_eq_getElem hlt]; rfl)
      have hlti : (k : Int) < (D.length : Int) := by omega
      have h32 := hD D[k] (List.getElem_mem hlt)
      have htk : D.take (k + 1) = D.take k ++ [D[k]] := by rw [List.take_add_one, List.getElem?_eq_getElem hlt]; rfl
      have hln : (D.take k).length = k := by rw [List.length_take]; omega
      generalize D[k] = x at hx h32 htk
      generalize D.take k = q at hown htk hln
      have hid := fun v => C_idof (S x) (by rw [S_size]; exact h32) v
      rw [bl_S] at hid
      unfold idv at hid
      obtain ⟨X, eX⟩ : ∃ X, Lib.byteCells x = X := ⟨_, rfl⟩
      have hX1 : ∀ u ∈ X, u.oneCell' = true := by rw [← eX]; exact all_one _
      have hXl : X.length = 32 := by rw [← eX, Lib.byteCells_length]; exact h32
      rw [eX] at hid
      have hXs : X.toArray.size = 32 := by simpa using hXl
      have HTK := Lib.hid htk
      have HLN := Lib.hid hln
      have HX := Lib.hid eX
      have HT := Lib.hid h
      have hlo := hown.lt
      have HLO := Lib.hid hlo
      clear htk hln eX h hc hlo
      have hfold : List.foldl (fun cs (x : Value × Nat) => cs.setIfInBounds x.2 x.1) Z32 X.zipIdx = X.toArray := by
        have := fold_set X 0 Z32 (by rw [hXl]; rfl)
        simpa using this
      obtain ⟨i0, hi, hz0, hz1, hz2⟩ := info_parts infoId
      go_upto_region 5 with (fail)
      have hqd := hq
      clear hx
      let P5 : World → World → Value → Prop := fun W W' u => W'.ownsRow (Hb + 1) 36 32 u (q.length + 1) (q.flatMap Lib.byteCells ++ X) ∧ W.grownBy W' v.ownBlock
      refine region_fix5 [[3, 4, 5, 7]] [3, 4, 5, 7] rfl (fun i k g W' u =>
        if i = 3 then Below (g k).1.heap.size (g k).1 W' ∧ u = .agg X.toArray
        else if i = 4 then W' = (g k).1.alloc (.cells X.toArray 36) ∧ u = .slice (some ⟨(g k).1.heap.size, 0, none⟩) 1 1
        else if i = 5 then ((∃ W2 u2, P5 (g k).1 W2 u2) → P5 (g k).1 W' u)
        else W' = (g k).1.setCell ⟨Hb, 5, none⟩ (g k).2 ∧ u = undef) (by kernel_rfl) (by kernel_rfl) ?_ ?_ fun E hE g g0 hC => ?_
      · intro i k g g' W u hg hh
        rw [← hg k (Nat.le_refl _)]
        exact hh
      · intro i k g
        by_cases h3 : i = 3
        · exact ⟨(g k).1, .agg X.toArray, by rw [if_pos h3]; exact ⟨Below.refl _ _, rfl⟩⟩
        by_cases h4 : i = 4
        · exact ⟨_, _, by rw [if_neg h3, if_pos h4]; exact ⟨rfl, rfl⟩⟩
        by_cases h5 : i = 5
        · by_cases hp : ∃ W2 u2, P5 (g k).1 W2 u2
          · obtain ⟨W2, u2, h2⟩ := hp
            exact ⟨W2, u2, by rw [if_neg h3, if_neg h4, if_pos h5]; exact fun _ => h2⟩
          · exact ⟨(g k).1, undef, by rw [if_neg h3, if_neg h4, if_pos h5]; exact fun h => absurd h hp⟩
        · exact ⟨_, _, by rw [if_neg h3, if_neg h4, if_neg h5]; exact ⟨rfl, rfl⟩⟩
      obtain rfl := List.mem_singleton.1 hE
      clear hE
      have e0 : Below (g 0).1.heap.size (g 0).1 (g 1).1 ∧ (g 1).2 = .agg X.toArray := hC 0 (by decide)
      have e1 : (g 2).1 = (g 1).1.alloc (.cells X.toArray 36) ∧ (g 2).2 = .slice (some ⟨(g 1).1.heap.size, 0, none⟩) 1 1 := hC 1 (by decide)
      have e2 : (∃ W2 u2, P5 (g 2).1 W2 u2) → P5 (g 2).1 (g 3).1 (g 3).2 := hC 2 (by decide)
      have e3 : (g 4).1 = (g 3).1.setCell ⟨Hb, 5, none⟩ (g 3).2 ∧ (g 4).2 = undef := hC 3 (by decide)
      have w0 : Below wr.heap.size wr (g 0).1 := by rw [g0]; exact (Below.refl _ _).drew
      have w1 := w0.trans (e0.1.mono w0.size)
      have l1 := w1.size
      have o1 : (g 1).1.ownsRow (Hb + 1) 36 32 v q.length (q.flatMap Lib.byteCells) := by
        refine World.ownsRow.kept (row := none) hown ⟨w1.os, w1.tape, w1.output, w1.size, fun k hk _ => w1.block k hk⟩ ?_
        cases hv : v.ownBlock with
        | none => exact .inl rfl
        | some g => exact .inr (by simp)
      have o2 : (g 2).1.ownsRow (Hb + 1) 36 32 v q.length (q.flatMap Lib.byteCells) := by rw [e1.1]; exact o1.alloc _
      have hnew : ∀ j u, X[j]? = some u → (g 2).1.cell? ((⟨(g 1).1.heap.size, 0, none⟩ : Addr).add j) = some u := fun j u hu => by
        rw [e1.1, Addr.add_mid, Nat.zero_add, cell_of_row _ _ j X.toArray _ _ (heap_alloc_new _ _)]
        simpa using hu
      have hll := HLN.out
      have l2 : (g 2).1.heap.size = (g 1).1.heap.size + 1 := by rw [e1.1]; simp
      have p5 : P5 (g 2).1 (g 3).1 (g 3).2 := e2 (by
        obtain ⟨v', w', _, h1, h2, _⟩ := run_append_own (P := Tryd.prog) (g 2).1 (Hb + 1) 29 29 36 i0 (.agg (Array.replicate 32 (.int .u8 0))) 32 32 Tryd.underlying29 hi hz0 hz1 hz2 rfl (by decide) v q.length _ o2 ⟨(g 1).1.heap.size, 0, none⟩ 1 1 X (by simpa using hXl) hnew hX1 (by unfold maxLen; omega) (by omega) (by omega)
        exact ⟨w', v', h1, h2⟩)
      obtain ⟨A8, n8, m8, h8⟩ : ∃ A n c, (g 3).2 = .slice A n c := by
        rcases p5.1.2 with ⟨h, _⟩ | ⟨g, cap, cur, h, _⟩
        · exact ⟨_, _, _, h⟩
        · exact ⟨_, _, _, h⟩
      rw [h8] at e3
      have pg := p5.2
      have pw := p5.1
      rw [h8] at pw
      have hal := (Below.refl (g 1).1.heap.size (g 1).1).alloc (Nat.le_refl _) (.cells X.toArray 36)
      have blk2 : ∀ i, i < wr.heap.size → (g 2).1.heap[i]? = wr.heap[i]? := fun i hi => by rw [e1.1]; exact (hal.block i (by omega)).trans (w1.block i hi)
      have blk3 : ∀ i, i ≤ Hb → (g 3).1.heap[i]? = wr.heap[i]? := fun i hi => (pg.block i (by omega) (fun e => by have := (HLO.out _ e.symm).1; omega)).trans (blk2 i (by omega))
      have q3 := (blk3 Hb (Nat.le_refl _)).trans hq
      have z3 := (blk3 Rb (by omega)).trans hz
      have c3 : (g 3).1.cell? ⟨Hb, 5, none⟩ = some v := by rw [cell_of_row _ _ _ _ _ _ q3]; rfl
      have f3 := frozen_of_row (g 3).1 Hb 5 _ _ q3
      have b3 : Below w.heap.size w (g 3).1 := by
        have := hb.trans (w1.mono hb.size)
        have h2 : Below w.heap.size w (g 2).1 := by rw [e1.1]; exact this.alloc this.size _
        exact h2.grown pg (by have := h2.size; omega) (fun k hk => by have := (HLO.out k hk).1; omega)
      have cl : ∀ s, s ≤ 2 → (g s).1.cell? ⟨Hb, 5, none⟩ = some v := fun s hs => by
        rcases (by omega : s = 0 ∨ s = 1 ∨ s = 2) with rfl | rfl | rfl
        · rw [cell_of_row _ _ _ _ _ _ ((w0.block Hb lz).trans hq)]; rfl
        · rw [cell_of_row _ _ _ _ _ _ ((w1.block Hb lz).trans hq)]; rfl
        · rw [cell_of_row _ _ _ _ _ _ ((blk2 Hb lz).trans hq)]; rfl
      have E0 := Lib.hid e0
      have E1 := Lib.hid e1
      have E3 := Lib.hid e3
      have H8 := Lib.hid h8
      have CL := Lib.hid cl
      have O2 := Lib.hid o2
      have HNEW := Lib.hid hnew
      clear e0 e1 e2 e3 h8 cl hC g0 c5 hll
      refine fix5_step (.pointer (some ⟨Hb, 5, none⟩)) (by kernel_rfl) rfl (fun J s _ _ hJ => ?_) ?_
      · go_simp
        exact hJ _ rfl
      intro J hJ
      go_simp
      refine hJ _ ?_
      clear hJ J
      refine fix5_mid v 0 2 (by kernel_rfl) rfl (fun J s _ hs hJ => ?_) ?_
      · have hc := CL.out s hs
        go_simp
        exact hJ _ rfl
      intro J hJ
      go_simp
      refine hJ _ ?_
      clear hJ J
      refine fix5_step (.string (S x)) (by kernel_rfl) rfl (fun J s _ _ hJ => ?_) ?_
      · go_simp
        exact hJ _ rfl
      intro J hJ
      go_simp
      refine hJ _ ?_
      clear hJ J
      refine fix5_eff 0 (.agg X.toArray) E0.out.2 (by kernel_rfl) rfl (fun J hJ => ?_) ?_
      · go_simp
        go_at_call 16
        refine (hid _).mono ?_
        rintro e W1 ⟨rfl, k1⟩
        exact hJ _ _ (by rw [if_pos rfl]; exact ⟨k1, rfl⟩)
      intro J hJ
      go_simp
      refine hJ _ ?_
      clear hJ J
      refine fix5_eff 1 (.slice (some ⟨(g 1).1.heap.size, 0, none⟩) 1 1) E1.out.2 (by kernel_rfl) rfl (fun J hJ => ?_) ?_
      · go_simp
        exact hJ _ _ (by rw [if_neg (by omega), if_pos rfl]; exact ⟨rfl, rfl⟩)
      intro J hJ
      go_simp
      refine hJ _ ?_
      clear hJ J
      refine fix5_eff 2 (.slice A8 n8 m8) H8.out (by kernel_rfl) rfl (fun J hJ => ?_) ?_
      · refine wp_append_own (P := Tryd.prog) (g 2).1 (.tmp 27) (.tmp 30) 29 rfl (Hb + 1) 36 i0 (.agg (Array.replicate 32 (.int .u8 0))) 32 32 Tryd.underlying29 hi hz0 hz1 hz2 rfl (by decide) v q.length _ rfl O2.out ⟨(g 1).1.heap.size, 0, none⟩ 1 1 X rfl (by simpa using hXl) HNEW.out hX1 (by have := HLN.out; unfold maxLen; omega) (by have := HLN.out; omega) (by omega) fun v' w' h1 h2 _ => ?_
        exact hJ _ _ (by rw [if_neg (by omega), if_neg (by omega), if_pos rfl]; exact fun _ => ⟨h1, h2⟩)
      intro J hJ
      go_simp
      refine hJ _ ?_
      clear hJ J
      refine fix5_step (.pointer (some ⟨Hb, 5, none⟩)) (by kernel_rfl) rfl (fun J s _ _ hJ => ?_) ?_
      · go_simp
        exact hJ _ rfl
      intro J hJ
      go_simp
      refine hJ _ ?_
      clear hJ J
      refine fix5_eff 3 undef E3.out.2 (by kernel_rfl) rfl (fun J hJ => ?_) ?_
      · go_simp
        exact hJ _ _ (by rw [if_neg (by omega), if_neg (by omega), if_neg (by omega), H8.out]; exact ⟨rfl, rfl⟩)
      intro J hJ
      go_simp
      refine hJ _ ?_
      clear hJ J
      refine fix5_nil ?_
      have hw4 : (g [3, 4, 5, 7].length).1 = (g 3).1.setCell ⟨Hb, 5, none⟩ (.slice A8 n8 m8) := E3.out.1
      rw [hw4]
      have lo8 := pw.lt
      have LO8 := Lib.hid lo8
      have o4 : ((g 3).1.setCell ⟨Hb, 5, none⟩ (.slice A8 n8 m8)).ownsRow (Hb + 1) 36 32 (.slice A8 n8 m8) (q.length + 1) (q.flatMap Lib.byteCells ++ X) := by
        refine World.ownsRow.kept (row := some Hb) pw ⟨rfl, rfl, rfl, by simp, fun k _ hk => heap_setCell_other _ _ _ _ (fun e => hk (by simp [e]))⟩ ?_
        rcases hv : (Value.slice A8 n8 m8).ownBlock with _ | gg
        · exact .inl rfl
        · exact .inr (by intro e; injection e with e; have := (LO8.out gg hv).1; omega)
      have q4 : ((g 3).1.setCell ⟨Hb, 5, none⟩ (.slice A8 n8 m8)).heap[Hb]? = some (.cells #[.int .i64 hh, .int .i64 mi, .string ti, .int .i64 wi, .int .u64 (po : Int), .slice A8 n8 m8, .int .i64 sa] 31 (0, 0)) := by rw [heap_setCell_same _ _ _ _ _ _ q3]; rfl
      have z4 : ((g 3).1.setCell ⟨Hb, 5, none⟩ (.slice A8 n8 m8)).heap[Rb]? = some (.cells #[.int .i64 0, .int .i64 0, .string ⟨#[]⟩, .int .i64 0, .int .u64 0, .slice none 0 0, .int .i64 0] 31 (0, 0)) := by rw [heap_setCell_other _ _ _ _ (by simp; omega)]; exact z3
      have b4 : Below w.heap.size w ((g 3).1.setCell ⟨Hb, 5, none⟩ (.slice A8 n8 m8)) := b3.setCell (p := ⟨Hb, 5, none⟩) (by simp; omega) _
      generalize (g 3).1.setCell ⟨Hb, 5, none⟩ (.slice A8 n8 m8) = wn at o4 q4 z4 b4 ⊢
      clear hw4 pw pg p5 blk2 blk3 q3 z3 c3 f3 b3 E0 E1 E3 H8 CL O2 HNEW w0 w1 o1 o2 hnew hal lo8
      go_wp2
      go_roundw
      case rel =>
        refine ⟨k + 1, _, by omega, by go_num, q4, ?_, z4, b4⟩
        rw [HTK.out, List.flatMap_append, List.length_append, List.flatMap_cons, List.flatMap_nil, List.append_nil, HX.out]
        exact o4
      case measure => simp [intOf]; omega
    · obtain rfl : k = D.length := by omega
      rw [List.take_length] at hown
      obtain ⟨A3, c3, rfl, hIds⟩ := ids_of_own hown hD
      have infoH : (Tryd.prog.info? 31).map (·.size) = some 7 := by kernel_rfl
      have V1 : (#[.int .i64 hh, .int .i64 mi, .string ti, .int .i64 wi, .int .u64 (po : Int), .slice A3 D.length c3, .int .i64 sa] : Array Value).all (·.oneCell') = true := by simp [Value.oneCell']
      have hlo := hown.lt
      have hA : ∀ g o, A3 = some ⟨g, o, none⟩ → Hb + 1 ≤ g ∧ g < wr.heap.size := fun g o e => hlo g (by rw [e]; rfl)
      have HA := Lib.hid hA
      have HI := Lib.hid hIds
      clear hA hlo hIds hown c5 h
      go_wp2_with (first
        | (refine wpList_load_row (by rfl) 31 (.tmp 3) (by rfl) Hb (by rfl) 31 #[.int .i64 hh, .int .i64 mi, .string ti, .int .i64 wi, .int .u64 (po : Int), .slice A3 D.length c3, .int .i64 sa] (0, 0) _ hq Tryd.underlying31 rfl infoH ?_)
        | (refine wpList_store_row (by rfl) 31 (.tmp 2) (.tmp 34) (by rfl) Rb #[.int .i64 hh, .int .i64 mi, .string ti, .int .i64 wi, .int .u64 (po : Int), .slice A3 D.length c3, .int .i64 sa] #[.int .i64 0, .int .i64 0, .string ⟨#[]⟩, .int .i64 0, .int .u64 0, .slice none 0 0, .int .i64 0] 31 (by rfl) (by rfl) hz infoH rfl V1 ?_))
      refine bodyPost_ret (result_cell rfl rfl (run_loadVar_row _ Rb 31 31 #[.int .i64 hh, .int .i64 mi, .string ti, .int .i64 wi, .int .u64 (po : Int), .slice A3 D.length c3, .int .i64 sa] (0, 0) _ (setRow_heap _ _ _ _ _ _ hz) Tryd.underlying31 rfl infoH)) rfl ?_
      refine ⟨A3, c3, rfl, fun i hi => ?_, setRow_below hb _ _ (by omega), fun b o e => by have := HA.out b o e; exact ⟨by omega, by simpa using this.2⟩⟩
      obtain ⟨h1, g, o, h2, h3, h4⟩ := HI.out i hi
      have hg := HA.out g o h2
      exact ⟨h1, g, o, h2, by simpa using h3, fun j u hu => (World.cell?_of_block (w := wr) (a := ⟨g, o + i * 32 + j, none⟩) (setRow_other _ _ _ _ (show g ≠ Rb by omega))).trans (h4 j u hu)⟩
end Go.Proofs.YtdpkodhfelnedaaDoor.Cod
