/- digest.Check, digest.Short. Contracts by what they mean. -/
import Derived.Test.YtgdpbnmhhbnkgaaDoorHex
import Derived.Test.YtgdpbnmhhbnkgaaDoorDigOf
import Derived.Test.YtgdpbnmhhbnkgaaDoorSched
namespace Go.Proofs.YtgdpbnmhhbnkgaaDoor.Cod
open Go.RowKit
set_option maxHeartbeats 2000000 in
set_option maxRecDepth 100000 in
theorem C_dcheck (A : Option Addr) (c : Nat) (xs : List ByteArray) (w : World) (h : TextsAt w A c xs) (hN : xs.length ≤ 1000000) (hlen : (allOf xs).length ≤ 140737488350000) (hL : Laid w) :
    Calls Tryd.prog 32 #[.slice A xs.length c] w fun e w' => e = .returned (.int .u32 (be4 (sha (allOf xs)) 0 : Nat)) ∧ Below w.heap.size w w' := by
  have hD := C_dig A c xs w h hN hlen hL
  obtain ⟨D, eD⟩ : ∃ D, sha (allOf xs) = D := ⟨_, rfl⟩
  have hD32 : D.length = 32 := by rw [← eD]; exact sha_len _
  rw [eD] at hD ⊢
  unfold idv at hD
  have hDi : (Tryd.prog.info? 31).map (·.size) = some (Lib.byteCells D).toArray.size := by rw [show (Lib.byteCells D).toArray.size = 32 by simp [Lib.byteCells, hD32]]; kernel_rfl
  have hDs : Z32.size = (Lib.byteCells D).toArray.size := by rw [show (Lib.byteCells D).toArray.size = 32 by simp [Lib.byteCells, hD32]]; rfl
  have hD1 : (Lib.byteCells D).toArray.all (·.oneCell') = true := by simp [Lib.byteCells, Value.oneCell']
  have hg : ∀ i, i < 32 → (Lib.byteCells D).toArray[i]? = some (.int .u8 ((D.getD i 0).toNat : Nat)) := by
    intro i hi
    have : i < D.length := by omega
    rw [List.getD_eq_getElem?_getD, List.getElem?_eq_getElem this]
    simp [Lib.byteCells, this]
  have g0 := hg 0 (by omega)
  have g1 := hg 1 (by omega)
  have g2 := hg 2 (by omega)
  have g3 := hg 3 (by omega)
  have hbe : be4 D 0 = ((((D.getD 0 0).toNat * 256 + (D.getD 1 0).toNat) * 256 + (D.getD 2 0).toNat) * 256 + (D.getD 3 0).toNat) := rfl
  have l0 := (D.getD 0 0).toNat_lt
  have l1 := (D.getD 1 0).toNat_lt
  have l2 := (D.getD 2 0).toNat_lt
  have l3 := (D.getD 3 0).toNat_lt
  generalize (D.getD 0 0).toNat = x0 at *
  generalize (D.getD 1 0).toNat = x1 at *
  generalize (D.getD 2 0).toNat = x2 at *
  generalize (D.getD 3 0).toNat = x3 at *
  rw [hbe]
  have hexp := be4_expr x0 x1 x2 x3 l0 l1 l2 l3
  have v0 : IntKind.u32.wrap ((x0 : Int) * 16777216) = (x0 : Int) * 16777216 := by show ((x0 : Int) * 16777216) % 4294967296 = _; omega
  have v1 : IntKind.u32.wrap ((x1 : Int) * 65536) = (x1 : Int) * 65536 := by show ((x1 : Int) * 65536) % 4294967296 = _; omega
  have v2 : IntKind.u32.wrap ((x2 : Int) * 256) = (x2 : Int) * 256 := by show ((x2 : Int) * 256) % 4294967296 = _; omega
  rw [wrap32 x0 (by omega), wrap32 x1 (by omega), wrap32 x2 (by omega), wrap32 x3 (by omega), v0, v1, v2] at hexp
  clear v0 v1 v2
  obtain ⟨N, eN⟩ : ∃ N, ((x0 * 256 + x1) * 256 + x2) * 256 + x3 = N := ⟨_, rfl⟩
  rw [eN] at hexp ⊢
  have HE := Lib.hid hexp
  obtain ⟨DC, eDC⟩ : ∃ DC, (Lib.byteCells D).toArray = DC := ⟨_, rfl⟩
  rw [eDC] at hD hDi hDs hD1 g0 g1 g2 g3
  clear eDC hg hbe eN hexp eD
  go_enter Tryd.func32, Tryd.ntmps32
  go_wp2_with (first
    | (go_at_call 16; ((with_reducible refine hD.mono ?_); rintro e w2 ⟨rfl, f2⟩))
    | (refine wpList_store_new (by rfl) 31 (.tmp 3) (.tmp 5) (by rfl) w2.heap.size (by rfl) DC Z32 31 (by rfl) (by rfl) hDi hDs hD1 ?_
       obtain ⟨w3, e3⟩ : ∃ w3, w2.alloc (.cells DC 31) = w3 := ⟨_, rfl⟩
       have h3 : w3.heap[w2.heap.size]? = some (.cells DC 31 (0, 0)) := by rw [← e3]; exact heap_alloc_new _ _
       have c0 := (cell_of_row _ _ 0 _ _ _ h3).trans g0
       have c1 := (cell_of_row _ _ 1 _ _ _ h3).trans g1
       have c2 := (cell_of_row _ _ 2 _ _ _ h3).trans g2
       have c3 := (cell_of_row _ _ 3 _ _ _ h3).trans g3
       have hb4 : Below w.heap.size w w3 := by rw [← e3]; exact f2.alloc f2.size _
       rw [e3]
       clear e3 h3))
  go_ret
  refine ⟨?_, hb4⟩
  rw [← HE.out]
  rfl
set_option maxHeartbeats 1000000 in
set_option maxRecDepth 100000 in
theorem C_dshort (l : List UInt8) (hl : l.length = 32) (w : World) : Calls Tryd.prog 28 #[idv l] w fun e w' => e = .returned (.string (S ((hexL l).take 8))) ∧ Below w.heap.size w w' := by
  have hH := fun v => C_hex l hl v
  have hs : (S (hexL l)).size = 64 := by rw [S_size, hexL_len, hl]
  have he : (S (hexL l)).extract 0 8 = S ((hexL l).take 8) := by
    apply eq_S
    rw [bl_take, bl_S]
  obtain ⟨L, eL⟩ : ∃ L, (Lib.byteCells l).toArray = L := ⟨_, rfl⟩
  have hi : (Tryd.prog.info? 31).map (·.size) = some L.size := by rw [← eL, show (Lib.byteCells l).toArray.size = 32 by simp [Lib.byteCells, hl]]; kernel_rfl
  unfold idv at hH ⊢
  rw [eL] at hH ⊢
  generalize S (hexL l) = x at hH hs he
  have HX := Lib.hid he
  clear he eL
  go_enter Tryd.func28, Tryd.ntmps28
  go_wp2_with (first
    | (refine wpList_load_row (by rfl) 31 (.tmp 1) (by rfl) w.heap.size (by rfl) 31 L (0, 0) _ (by exact heap_alloc_new _ _) Tryd.underlying31 rfl hi ?_)
    | (go_at_call 33; ((with_reducible refine (hH _).mono ?_); rintro e w2 ⟨rfl, f2⟩)))
  go_ret
  have hb := (Below.refl w.heap.size w).alloc (Nat.le_refl _) (.cells L 31)
  exact ⟨ret_str HX.out, hb.trans (f2.mono hb.size)⟩
end Go.Proofs.YtgdpbnmhhbnkgaaDoor.Cod
