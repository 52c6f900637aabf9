/- the sum of "abc", and the fixed fact that every law of the digest asks. -/
import Derived.Test.YtgdpbnmhhbnkgaaDoorHex
import Derived.Test.YtgdpbnmhhbnkgaaDoorDigOf
namespace Go.Proofs.YtgdpbnmhhbnkgaaDoor.Cod
open Go.RowKit
set_option maxRecDepth 100000 in
theorem sha_abc : S (hexL (sha [97, 98, 99])) = ⟨#[98, 97, 55, 56, 49, 54, 98, 102, 56, 102, 48, 49, 99, 102, 101, 97, 52, 49, 52, 49, 52, 48, 100, 101, 53, 100, 97, 101, 50, 50, 50, 51, 98, 48, 48, 51, 54, 49, 97, 51, 57, 54, 49, 55, 55, 97, 57, 99, 98, 52, 49, 48, 102, 102, 54, 49, 102, 50, 48, 48, 49, 53, 97, 100]⟩ := by kernel_rfl
set_option maxHeartbeats 1000000 in
set_option maxRecDepth 100000 in
theorem C_awd (w : World) (hL : Laid w) : Calls Tryd.prog 29 #[] w fun e w' => e = .returned (.bool true) ∧ Below w.heap.size w w' := by
  have hz := hL.size
  have hT : TextsAt (w.alloc (.cells #[.string ⟨#[97, 98, 99]⟩] 9)) (some ⟨w.heap.size, 0, none⟩) 1 [⟨#[97, 98, 99]⟩] := by
    refine ⟨by decide, fun _ => ⟨_, _, rfl, by simp, fun j x hx => ?_⟩⟩
    refine (cell_of_row _ _ _ _ _ _ (heap_alloc_new w _)).trans ?_
    rcases j with _ | j
    · simp at hx; subst hx; rfl
    · simp at hx
  have hD := C_dig _ 1 [⟨#[97, 98, 99]⟩] _ hT (by decide) (by decide) (hL.below ((Below.refl _ _).alloc (Nat.le_refl _) _) (by omega))
  rw [show allOf [⟨#[97, 98, 99]⟩] = [97, 98, 99] from rfl, show ([⟨#[97, 98, 99]⟩] : List ByteArray).length = 1 from rfl] at hD
  have hl : (sha [97, 98, 99]).length = 32 := sha_len _
  have hH := fun v => C_hex (sha [97, 98, 99]) hl v
  rw [sha_abc] at hH
  generalize sha [97, 98, 99] = D at hD hH
  clear hl hT
  go_enter Tryd.func29, Tryd.ntmps29
  go_wp2_with (first
    | (go_at_call 16; ((with_reducible refine hD.mono ?_); rintro e w1 ⟨rfl, h1⟩))
    | (go_at_call 33; ((with_reducible refine (hH _).mono ?_); rintro e w2 ⟨rfl, h2⟩)))
  go_ret
  have hb := (Below.refl w.heap.size w).alloc (Nat.le_refl _) (.cells #[.string ⟨#[97, 98, 99]⟩] 9)
  have hb1 := hb.trans (h1.mono hb.size)
  exact ⟨rfl, hb1.trans (h2.mono hb1.size)⟩
end Go.Proofs.YtgdpbnmhhbnkgaaDoor.Cod
