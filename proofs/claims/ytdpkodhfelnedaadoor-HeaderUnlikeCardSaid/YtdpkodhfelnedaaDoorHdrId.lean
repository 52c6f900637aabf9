/- header.Header.ID. Contract by what it means. -/
import Derived.Test.YtdpkodhfelnedaaDoorHdrB
namespace Go.Proofs.YtdpkodhfelnedaaDoor.Cod
open Go.RowKit
theorem IdsAt.below {w w' : World} {A : Option Addr} {l : List (List UInt8)} (h : IdsAt w A l) (hb : Below w.heap.size w w') : IdsAt w' A l := by
  intro i hi
  obtain ⟨h1, g, o, h2, h3, h4⟩ := h i hi
  exact ⟨h1, g, o, h2, Nat.lt_of_lt_of_le h3 hb.size, fun j u hu => (hb.cell (p := ⟨g, o + i * 32 + j, none⟩) h3).trans (h4 j u hu)⟩
theorem result_cell {P : Program} {w : World} {fn : Func} {tmps : Array Value} {x : Tmp} {t : TypeId} {p : Addr} {v : Value} (h : fn.results = #[.cell x t]) (hx : tmps.getD x undef = .pointer (some p)) (hl : (loadVar t p).run P w = .ok v w) :
    (results fn tmps).run P w = .ok v w := by
  simp only [Array.getD_eq_getD_getElem?] at hx
  simp [results, h, hx, hl, asAddr]
set_option maxHeartbeats 2000000 in
set_option maxRecDepth 100000 in
theorem C_hid (h : Hdr) (A : Option Addr) (c : Nat) (w : World) (hL : Laid w) (hI : IdsAt w A h.parents) (hlen : h.parents.length ≤ 1000) (hpw : h.power < 9223372036854775808) (ht : h.ticket.size ≤ 1000)
    (b1 : -9223372036854775808 ≤ h.height ∧ h.height ≤ 9223372036854775807) (b2 : -9223372036854775808 ≤ h.miner ∧ h.miner ≤ 9223372036854775807) (b3 : -9223372036854775808 ≤ h.wins ∧ h.wins ≤ 9223372036854775807) (b4 : -9223372036854775808 ≤ h.salt ∧ h.salt ≤ 9223372036854775807) :
    Calls Tryd.prog 10 #[h.val A c] w fun e w' => e = .returned (idv (sha h.bytes)) ∧ Below w.heap.size w w' := by
  have hB := fun v (hv : Below w.heap.size w v) => C_hbytes h A c v (hI.below hv) (by omega) hpw (by omega) b1 b2 b3 b4
  have hbl : h.bytes.length ≤ 100000 := by
    have n1 := numB_len_le (x := h.height.toNat) (by omega)
    have n2 := numB_len_le (x := h.miner.toNat) (by omega)
    have n3 := numB_len_le (x := h.ticket.size) (by omega)
    have n4 := numB_len_le (x := h.wins.toNat) (by omega)
    have n5 := numB_len_le (x := h.power) (by omega)
    have n6 := numB_len_le (x := h.parents.length) (by omega)
    have n7 := numB_len_le (x := h.salt.toNat) (by omega)
    have nt := bl_len h.ticket
    have hf := ids_flat hI _ (Nat.le_refl _)
    rw [List.take_of_length_le (Nat.le_refl _)] at hf
    unfold Hdr.bytes Hdr.l
    simp only [List.length_append]
    omega
  obtain ⟨D, eD⟩ : ∃ D, sha h.bytes = D := ⟨_, rfl⟩
  have hD32 : D.length = 32 := by rw [← eD]; exact sha_len _
  have hDg := fun v (hv : Laid v) => C_dig1 (S h.bytes) (by rw [S_size]; omega) v hv
  rw [bl_S, eD] at hDg
  rw [eD]
  have HBY := Lib.hid hB
  have HDG := Lib.hid hDg
  have HLD := Lib.hid hL
  clear hB hDg hL hI hbl eD
  have hi : (Tryd.prog.info? 36).map (·.size) = some (Lib.byteCells D).toArray.size := by rw [show (Lib.byteCells D).toArray.size = 32 by simp [Lib.byteCells, hD32]]; kernel_rfl
  have hDs : Z32.size = (Lib.byteCells D).toArray.size := by rw [show (Lib.byteCells D).toArray.size = 32 by simp [Lib.byteCells, hD32]]; rfl
  have hDo : (Lib.byteCells D).toArray.all (·.oneCell') = true := by simp [Lib.byteCells, Value.oneCell']
  unfold idv at HDG ⊢
  obtain ⟨DC, eDC⟩ : ∃ DC, (Lib.byteCells D).toArray = DC := ⟨_, rfl⟩
  rw [eDC] at hi hDs hDo HDG ⊢
  clear eDC
  unfold Hdr.val at HBY ⊢
  go_enter Tryd.func10, Tryd.ntmps10
  have hb0 : ∀ o1 o2 : Obj, Below w.heap.size w ((w.alloc o1).alloc o2) := fun o1 o2 => ((Below.refl _ _).alloc (Nat.le_refl _) _).alloc (by simp) _
  go_wp2_with (first
    | (go_at_call 9; ((with_reducible refine (HBY.out _ (hb0 _ _)).mono ?_); rintro e w1 ⟨rfl, f1⟩))
    | (go_at_call 22; (refine (HDG.out w1 (HLD.out.below ((hb0 _ _).trans (f1.mono (hb0 _ _).size)) (by have := HLD.out.size; omega))).mono ?_); rintro e w2 ⟨rfl, f2⟩; have q1 : w1.heap[w.heap.size + 1]? = some (.cells Z32 36 (0, 0)) := (f1.block _ (by simp)).trans (heap_alloc2_new _ _ _); have q2 : w2.heap[w.heap.size + 1]? = some (.cells Z32 36 (0, 0)) := (f2.block _ (Array.getElem?_eq_some_iff.1 q1).1).trans q1)
    | (refine wpList_store_row (by rfl) 36 (.tmp 2) (.tmp 6) (by rfl) (w.heap.size + 1) DC Z32 36 (by rfl) (by rfl) q2 hi hDs hDo ?_))
  refine bodyPost_ret (result_cell rfl rfl ?_) rfl ⟨rfl, ?_⟩
  · exact run_loadVar_row _ (w.heap.size + 1) 36 36 DC (0, 0) _ (setRow_heap _ _ _ _ _ _ q2) Tryd.underlying36 rfl hi
  · exact setRow_below (((hb0 _ _).trans (f1.mono (hb0 _ _).size)).trans (f2.mono (by have := (hb0 (.cells #[] 0) (.cells #[] 0)).size; have := f1.size; simp at this; omega))) _ _ (by omega)
end Go.Proofs.YtdpkodhfelnedaaDoor.Cod
