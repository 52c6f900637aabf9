/- DigestLong: the walk, by what each call means. -/
import Derived.Test.YtdpkodhfelnedaaDoorShaAbc
import Derived.Test.YtdpkodhfelnedaaDoorFix2
namespace Go.Proofs.YtdpkodhfelnedaaDoor.Cod
open Go.RowKit
theorem strOf_map (D : List UInt8) : strOfNums (D.map fun c => (c.toNat : Int)) = S D := by
  unfold strOfNums S
  rw [List.map_map]
  congr 1
  congr 1
  exact (List.map_congr_left (fun x _ => by simp)).trans (List.map_id _)
theorem convID (W : World) (b : Nat) (D : List UInt8) (hD : D.length = 32) (f : Nat × Nat) (h : W.heap[b]? = some (.cells (Lib.byteCells D).toArray 36 f)) : (convert 46 9 (.slice (some ⟨b, 0, none⟩) 32 32)).run Tryd.prog W = .ok (.string (S D)) W := by
  have := run_convert_bytes_arg (P := Tryd.prog) (w := W) 46 5 Tryd.underlying46 Tryd.underlying5 b 0 32 32 (D.map fun c => (c.toNat : Int)) (by simp [hD]) (fun i hi => by
    have hx : D[i]? = some D[i] := List.getElem?_eq_getElem (by omega)
    rw [Nat.zero_add]
    refine (cell_of_row _ _ _ _ _ _ h).trans ?_
    rw [byteCells_get hx]
    simp [hx]) 9 Tryd.underlying9
  rw [this, strOf_map]
def LongRel (w : World) (N : Nat) (s i : Value) (wr : World) : Prop :=
  ∃ (k : Nat) (t : ByteArray), k ≤ N ∧ i = .int .i64 k ∧ s = .string t ∧ t.size = k ∧ Below w.heap.size w wr
theorem text_at (w : World) (s : ByteArray) : TextsAt (w.alloc (.cells #[.string s] 9)) (some ⟨w.heap.size, 0, none⟩) 1 [s] := by
  refine ⟨by simp, fun _ => ⟨_, _, rfl, by simp, fun j x hx => ?_⟩⟩
  refine (cell_of_row _ _ _ _ _ _ (heap_alloc_new w _)).trans ?_
  rcases j with _ | j
  · simp at hx; subst hx; rfl
  · simp at hx
theorem C_dig1 (s : ByteArray) (hs : s.size ≤ 1000000) (w : World) (hL : Laid w) : Calls Tryd.prog 22 #[.slice (some ⟨w.heap.size, 0, none⟩) 1 1] (w.alloc (.cells #[.string s] 9)) fun e w' => e = .returned (idv (sha (bl s))) ∧ Below w.heap.size w w' := by
  have hb := (Below.refl w.heap.size w).alloc (Nat.le_refl _) (.cells #[.string s] 9)
  have e : allOf [s] = bl s := by simp [allOf]
  have := C_dig _ 1 [s] _ (text_at w s) (by simp) (by rw [e, bl_len]; omega) (hL.below hb (by have := hL.size; omega))
  rw [e, show ([s] : List ByteArray).length = 1 from rfl] at this
  exact this.mono fun e w' ⟨h1, h2⟩ => ⟨h1, hb.trans (h2.mono hb.size)⟩
end Go.Proofs.YtdpkodhfelnedaaDoor.Cod
